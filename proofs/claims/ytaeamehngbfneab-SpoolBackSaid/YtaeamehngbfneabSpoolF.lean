/- spool: what the print's functions compute, in plain Lean. -/
import Derived.Test.YtaeamehngbfneabSpoolRead
import Derived.Test.YtaeamehngbfneabSpoolPure
namespace Go.Proofs.Ytaeamehngbfneab.Sp
open Go Go.RowKit Go.Lib Go.Proofs.YtaeamehngbfneabW.PrintWords Go.Proofs.YtaeamehngbfneabW.PrintLast Go.Proofs.YtaeamehngbfneabW.PrintMore Go.Proofs.Ytaeamehngbfneab.PSpoolBack
set_option linter.unusedVariables false
set_option linter.unusedSimpArgs false

theorem wrap64_id {x : Int} (h0 : -9223372036854775808 ≤ x) (h1 : x ≤ 9223372036854775807) : wrap64 x = x := by
  simp [wrap64, IntKind.wrap, IntKind.signed, IntKind.bits]
  omega
theorem wrapu64_id {x : Int} (h0 : 0 ≤ x) (h1 : x < 18446744073709551616) : IntKind.u64.wrap x = x := by
  simp [IntKind.wrap, IntKind.signed, IntKind.bits]; omega
theorem rd_at {l : List Int} {i : Nat} (h : i < l.length) : rd l (i : Int) = l[i] := by simp [rd, List.getD_eq_getElem?_getD, h]

theorem sum_l0 (l : List Int) (hl : l.length ≤ 100000) : ∀ (m k i : Nat) (s : Int), l.length - i = m → i ≤ l.length → l.length - i < k → spool_sum.l0 k s l (l.length : Int) (i : Int) = some (sumFrom s (l.drop i)) := by
  intro m
  induction m with
  | zero =>
    intro k i s hm hi hk
    obtain ⟨k, rfl⟩ : ∃ k', k = k' + 1 := ⟨k - 1, by omega⟩
    have e : i = l.length := by omega
    subst e
    simp [spool_sum.l0, sumFrom]
  | succ m ih =>
    intro k i s hm hi hk
    obtain ⟨k, rfl⟩ : ∃ k', k = k' + 1 := ⟨k - 1, by omega⟩
    have hlt : i < l.length := by omega
    rw [spool_sum.l0, if_pos (by omega), if_pos (by omega), if_pos (by omega), wrap64_id (by omega) (by omega), show ((i : Int) + 1) = ((i + 1 : Nat) : Int) by omega, ih k (i + 1) _ (by omega) (by omega) (by omega), rd_at hlt]
    rw [List.drop_eq_getElem_cons hlt]
    rfl
theorem sum_f (l : List Int) (hl : l.length ≤ 100000) {k : Nat} (hk : l.length < k) : spool_sum.f k l = some (sumFrom init l) := by
  have := sum_l0 l hl l.length k 0 init (by omega) (by omega) (by omega)
  simpa [spool_sum.f, init] using this

theorem val_bound : ∀ (l : List Int), (∀ x ∈ l, 0 ≤ x ∧ x < 256) → l.length ≤ 7 → 0 ≤ val l ∧ val l < 72057594037927936 := by
  intro l hb hl
  have h := val_range l hb
  refine ⟨h.1, Int.lt_of_lt_of_le h.2 ?_⟩
  match l.length, hl with
  | 0, _ => decide
  | 1, _ => decide
  | 2, _ => decide
  | 3, _ => decide
  | 4, _ => decide
  | 5, _ => decide
  | 6, _ => decide
  | 7, _ => decide
theorem number_l0 (l : List Int) (hb : ∀ x ∈ l, 0 ≤ x ∧ x < 256) (hl : l.length ≤ 8) : ∀ (m k i : Nat), l.length - i = m → i ≤ l.length → l.length - i < k → spool_number.l0 k (val (l.take i)) l (l.length : Int) (i : Int) = some (val l) := by
  intro m
  induction m with
  | zero =>
    intro k i hm hi hk
    obtain ⟨k, rfl⟩ : ∃ k', k = k' + 1 := ⟨k - 1, by omega⟩
    have e : i = l.length := by omega
    subst e
    simp [spool_number.l0]
  | succ m ih =>
    intro k i hm hi hk
    obtain ⟨k, rfl⟩ : ∃ k', k = k' + 1 := ⟨k - 1, by omega⟩
    have hlt : i < l.length := by omega
    have h1 := val_bound (l.take i) (fun x hx => hb x (List.mem_of_mem_take hx)) (by rw [List.length_take]; omega)
    rw [spool_number.l0, if_pos (by omega), if_pos (by omega), if_pos (by omega), wrap64_id (by omega) (by omega), show ((i : Int) + 1) = ((i + 1 : Nat) : Int) by omega, rd_at hlt, or64 h1 (hb _ (List.getElem_mem _)), ← val_snoc]
    rw [← List.take_succ_eq_append_getElem hlt]
    exact ih k (i + 1) (by omega) (by omega) (by omega)
theorem number_f (l : List Int) (hb : ∀ x ∈ l, 0 ≤ x ∧ x < 256) (hl : l.length ≤ 8) {k : Nat} (hk : l.length < k) : spool_number.f k l = some (val l) := by
  have := number_l0 l hb hl l.length k 0 (by omega) (by omega) (by omega)
  simpa [spool_number.f, val] using this

theorem right_ok {k n : Int} (h : Right k n) : spool_right.f k n = some 0 := by
  unfold Right at h
  unfold spool_right.f
  rcases h with ⟨rfl, rfl⟩ | ⟨rfl, h1, h2⟩ | ⟨rfl, h1, h2⟩ | rfl | ⟨rfl, h1, h2⟩
  · rfl
  · rw [if_neg (by omega), if_pos rfl, if_neg (by omega), if_neg (by omega)]
  · rw [if_neg (by omega), if_neg (by omega), if_pos rfl, if_neg (by omega), if_neg (by omega)]
  · rfl
  · rw [if_neg (by omega), if_neg (by omega), if_neg (by omega), if_neg (by omega), if_pos rfl, if_neg (by omega), if_neg (by omega)]
theorem right_not {k n : Int} (h : ¬ Right k n) : ∃ r, r ≠ 0 ∧ spool_right.f k n = some r := by
  unfold Right at h
  unfold spool_right.f
  by_cases h0 : k = 0
  · rw [if_pos h0]
    by_cases h1 : n < 0
    · exact ⟨1, by decide, by rw [if_pos h1]⟩
    · by_cases h2 : n > 0
      · exact ⟨1, by decide, by rw [if_neg h1, if_pos h2]⟩
      · exact absurd (.inl ⟨h0, by omega⟩) h
  · rw [if_neg h0]
    by_cases h1 : k = 1
    · rw [if_pos h1]
      by_cases h2 : n < 0
      · exact ⟨1, by decide, by rw [if_pos h2]⟩
      · by_cases h3 : n > 1
        · exact ⟨1, by decide, by rw [if_neg h2, if_pos h3]⟩
        · exact absurd (.inr (.inl ⟨h1, by omega, by omega⟩)) h
    · rw [if_neg h1]
      by_cases h2 : k = 2
      · rw [if_pos h2]
        by_cases h3 : n < -2147483648
        · exact ⟨1, by decide, by rw [if_pos h3]⟩
        · by_cases h4 : n > 2147483647
          · exact ⟨1, by decide, by rw [if_neg h3, if_pos h4]⟩
          · exact absurd (.inr (.inr (.inl ⟨h2, by omega, by omega⟩))) h
      · rw [if_neg h2]
        by_cases h3 : k = 3
        · exact absurd (.inr (.inr (.inr (.inl h3)))) h
        · rw [if_neg h3]
          by_cases h4 : k = 4
          · rw [if_pos h4]
            by_cases h5 : n < 0
            · exact ⟨1, by decide, by rw [if_pos h5]⟩
            · by_cases h6 : n > 299
              · exact ⟨1, by decide, by rw [if_neg h5, if_pos h6]⟩
              · exact absurd (.inr (.inr (.inr (.inr ⟨h4, by omega, by omega⟩)))) h
          · exact ⟨7, by decide, by rw [if_neg h4]⟩

def In64 (n : Int) : Prop := -9223372036854775808 ≤ n ∧ n ≤ 9223372036854775807
theorem sum_lt (l : List Int) : 0 ≤ sumFrom init l ∧ sumFrom init l < 4294967296 := sumFrom_range init_range l
theorem one_bad {b : List Int} (hl : b.length = 13) (hb : ∀ x ∈ b, 0 ≤ x ∧ x < 256) (h : val (b.drop 9) ≠ sumFrom init (b.take 9)) {k : Nat} (hk : 20 < k) : spool_one.f k b = some (0, 0, 11) := by
  unfold spool_one.f
  rw [if_pos (by omega), number_f (b.drop 9) (fun x hx => hb x (List.mem_of_mem_drop hx)) (by simp; omega) (by simp; omega), sum_f (b.take 9) (by simp; omega) (by simp; omega)]
  simp only [Option.bind_some]
  have := sum_lt (b.take 9)
  rw [wrapu64_id (by omega) (by omega), if_neg h]
theorem e1_ (c n : Int) : ((rec c n).take 9).drop 1 = big (n % 18446744073709551616) 8 := by rw [rec_take]; simp [own]
theorem e2_ (c n : Int) : rd (rec c n) 0 = c := by simp [rd, rec, own]
theorem e4_ (n : Int) : val (big (n % 18446744073709551616) 8) = n % 18446744073709551616 := val_big _ _ (by omega) (by rw [show (256 : Int) ^ 8 = 18446744073709551616 by decide]; omega)
theorem e3_ {n : Int} (hn : In64 n) : wrap64 (n % 18446744073709551616) = n := by obtain ⟨h1, h2⟩ := hn; unfold wrap64; omega
theorem one_gen (r : List Int) (hl : r.length = 13) (hb : ∀ x ∈ r, 0 ≤ x ∧ x < 256) (c n m : Int) (hs : val (r.drop 9) = sumFrom init (r.take 9)) (h2 : rd r 0 = c) (hc : 0 ≤ c ∧ c < 5) (hv : val ((r.take 9).drop 1) = m) (hn : wrap64 m = n) (h : Right c n) {k : Nat} (hk : 20 < k) : spool_one.f k r = some (c, n, 0) := by
  unfold spool_one.f
  rw [if_pos (by omega), number_f (r.drop 9) (fun x hx => hb x (List.mem_of_mem_drop hx)) (by simp; omega) (by simp; omega), sum_f (r.take 9) (by simp; omega) (by simp; omega)]
  simp only [Option.bind_some]
  have := sum_lt (r.take 9)
  rw [wrapu64_id (by omega) (by omega), if_pos hs, if_pos (by omega), if_pos (by decide)]
  rw [number_f ((r.take 9).drop 1) (fun x hx => hb x (List.mem_of_mem_take (List.mem_of_mem_drop hx))) (by simp; omega) (by simp; omega)]
  simp only [Option.bind_some]
  rw [h2, hv, hn, wrap64_id (by omega) (by omega), right_ok h]
  simp
theorem one_good {c n : Int} (h : Right c n) (hn : In64 n) {k : Nat} (hk : 20 < k) : spool_one.f k (rec c n) = some (c, n, 0) :=
  one_gen (rec c n) (rec_length c n) (rec_byte h) c n (n % 18446744073709551616) (rec_sum c n) (e2_ c n) (right_kind h) (by rw [e1_]; exact e4_ n) (e3_ hn) h hk

/-- all the bytes -/
def bytes (l : List S28) : List Int := (l.map fun x => rec x.f0 x.f1).flatten
theorem bytes_cons (x : S28) (l : List S28) : bytes (x :: l) = rec x.f0 x.f1 ++ bytes l := rfl
theorem bytes_append (l m : List S28) : bytes (l ++ m) = bytes l ++ bytes m := by simp [bytes]
theorem bytes_length : ∀ l : List S28, (bytes l).length = 13 * l.length
  | [] => rfl
  | x :: l => by rw [bytes_cons, List.length_append, rec_length, bytes_length l, List.length_cons]; omega
def Ok (l : List S28) : Prop := ∀ x ∈ l, Right x.f0 x.f1 ∧ In64 x.f1
theorem bytes_byte : ∀ {l : List S28}, (∀ x ∈ l, Right x.f0 x.f1) → ∀ y ∈ bytes l, 0 ≤ y ∧ y < 256
  | [], _, y, hy => by simp [bytes] at hy
  | x :: l, h, y, hy => by
    rw [bytes_cons] at hy
    rcases List.mem_append.1 hy with hy | hy
    · exact rec_byte (h x (List.mem_cons_self ..)) y hy
    · exact bytes_byte (fun z hz => h z (List.mem_cons_of_mem _ hz)) y hy
theorem mid (pre r t : List Int) : ((pre ++ r ++ t).take (pre.length + r.length)).drop pre.length = r := by
  rw [List.take_left' (by simp), List.drop_left]
theorem read_l0 : ∀ (l : List S28) (pre t : List Int) (acc : List S28) (k : Nat), Ok l → pre.length = 13 * acc.length → acc.length + l.length ≤ 1000 → t.length ≤ 10000 → 30 < k →
    spool_Read.l0 (k + l.length) (pre ++ bytes l ++ t) acc (pre.length : Int) = spool_Read.l0 k (pre ++ bytes l ++ t) (acc ++ l) ((pre ++ bytes l).length : Int)
  | [], pre, t, acc, k, _, _, _, _, _ => by simp [bytes]
  | x :: l, pre, t, acc, k, hok, hp, hlen, ht, hk => by
    have hx := hok x (List.mem_cons_self ..)
    have hlx := rec_length x.f0 x.f1
    have ebytes : pre ++ bytes (x :: l) ++ t = pre ++ rec x.f0 x.f1 ++ (bytes l ++ t) := by rw [bytes_cons]; simp only [List.append_assoc]
    have hlen' : (pre ++ bytes (x :: l) ++ t).length = pre.length + 13 + (bytes l).length + t.length := by rw [ebytes]; simp only [List.length_append, hlx]; omega
    have hb := bytes_length l
    simp only [List.length_cons] at hlen ⊢
    rw [show k + (l.length + 1) = (k + l.length) + 1 by omega, spool_Read.l0]
    have e13 : wrap64 ((pre.length : Int) + 13) = ((pre.length + 13 : Nat) : Int) := by rw [wrap64_id (by omega) (by omega)]; omega
    rw [e13, if_pos (by omega), if_pos (by omega), if_pos (by omega)]
    simp only [Int.toNat_natCast]
    have em : ((pre ++ bytes (x :: l) ++ t).take (pre.length + 13)).drop pre.length = rec x.f0 x.f1 := by
      rw [ebytes, ← hlx]; exact mid pre _ _
    rw [em, one_good hx.1 hx.2 (by omega)]
    simp only [Option.bind_some, if_pos]
    rw [if_pos (by omega)]
    have e2 : pre ++ bytes (x :: l) ++ t = (pre ++ rec x.f0 x.f1) ++ bytes l ++ t := by rw [bytes_cons]; simp only [List.append_assoc]
    have e3 : ((pre.length + 13 : Nat) : Int) = ((pre ++ rec x.f0 x.f1).length : Int) := by rw [List.length_append, hlx]
    rw [e2, e3]
    have hx1 : (⟨x.f0, x.f1⟩ : S28) = x := rfl
    rw [hx1, read_l0 l (pre ++ rec x.f0 x.f1) t (acc ++ [x]) k (fun z hz => hok z (List.mem_cons_of_mem _ hz)) (by rw [List.length_append, hlx, List.length_append]; simp; omega) (by simp; omega) ht hk]
    congr 1
    · simp
    · simp [bytes_cons]
theorem read_end (b : List Int) (acc : List S28) (at_ k : Nat) (h : b.length < at_ + 13) (ha : at_ ≤ 100000) (hacc : acc.length ≤ 1000) : spool_Read.l0 (k + 1) b acc (at_ : Int) = some (acc, 13 * (acc.length : Int), 0) := by
  rw [spool_Read.l0, wrap64_id (by omega) (by omega), if_neg (by omega), wrap64_id (by omega) (by omega)]
theorem read_whole (l : List S28) (t : List Int) (hok : Ok l) (hl : l.length ≤ 200) (ht : t.length < 13) {k : Nat} (hk : 300 < k) : spool_Read.f k (bytes l ++ t) = some (l, 13 * (l.length : Int), 0) := by
  have hb := bytes_length l
  unfold spool_Read.f
  rw [if_neg (by simp only [List.length_append]; omega)]
  have h := read_l0 l [] t [] (k - l.length) hok rfl (by simp; omega) (by omega) (by omega)
  simp only [List.nil_append, List.length_nil] at h
  rw [show k - l.length + l.length = k by omega] at h
  rw [show (0 : Int) = ((0 : Nat) : Int) from rfl, h, show k - l.length = (k - l.length - 1) + 1 by omega, read_end _ _ _ _ (by simp only [List.length_append]; omega) (by omega) (by omega)]
  rfl
theorem read_turned (l : List S28) (r : List Int) (t : List Int) (hok : Ok l) (hl : l.length ≤ 200) (hr : r.length = 13) (hrb : ∀ x ∈ r, 0 ≤ x ∧ x < 256) (hbad : val (r.drop 9) ≠ sumFrom init (r.take 9)) (ht : t.length ≤ 1300) {k : Nat} (hk : 300 < k) : spool_Read.f k (bytes l ++ (r ++ t)) = some ([], 0, 11) := by
  have hb := bytes_length l
  unfold spool_Read.f
  rw [if_neg (by simp only [List.length_append]; omega)]
  have h := read_l0 l [] (r ++ t) [] (k - l.length) hok rfl (by simp; omega) (by simp only [List.length_append]; omega) (by omega)
  simp only [List.nil_append, List.length_nil] at h
  rw [show k - l.length + l.length = k by omega] at h
  rw [show (0 : Int) = ((0 : Nat) : Int) from rfl, h, show k - l.length = (k - l.length - 1) + 1 by omega, spool_Read.l0]
  have e13 : wrap64 (((bytes l).length : Int) + 13) = (((bytes l).length + 13 : Nat) : Int) := by rw [wrap64_id (by omega) (by omega)]; omega
  rw [e13, if_pos (by simp only [List.length_append]; omega), if_pos (by omega), if_pos (by omega)]
  simp only [Int.toNat_natCast]
  have em : ((bytes l ++ (r ++ t)).take ((bytes l).length + 13)).drop (bytes l).length = r := by
    rw [← List.append_assoc, ← hr]; exact mid _ _ _
  rw [em, one_bad hr hrb hbad (by omega)]
  simp
theorem bytes_take : ∀ (l : List S28) (a : Nat), a ≤ 13 * l.length → ∃ t : List Int, t.length = a % 13 ∧ (bytes l).take a = bytes (l.take (a / 13)) ++ t
  | [], a, h => ⟨[], by simp at h; subst h; rfl, by simp [bytes]⟩
  | x :: l, a, h => by
    have hlx := rec_length x.f0 x.f1
    simp only [List.length_cons] at h
    by_cases ha : a < 13
    · refine ⟨(rec x.f0 x.f1).take a, by rw [List.length_take]; omega, ?_⟩
      rw [show a / 13 = 0 by omega, bytes_cons, List.take_append_of_le_length (by omega)]
      rfl
    · obtain ⟨t, h1, h2⟩ := bytes_take l (a - 13) (by omega)
      refine ⟨t, by omega, ?_⟩
      rw [show a / 13 = (a - 13) / 13 + 1 by omega, List.take_succ_cons, bytes_cons, bytes_cons, List.append_assoc, ← h2]
      rw [show a = (rec x.f0 x.f1).length + (a - 13) by omega, List.take_length_add_append]
      simp [hlx]
theorem bytes_set : ∀ (l : List S28) (i : Nat) (y : Int), i < 13 * l.length → ∃ (x : S28) (t : List Int), x ∈ l ∧ t.length ≤ 13 * l.length ∧ (bytes l).set i y = bytes (l.take (i / 13)) ++ ((rec x.f0 x.f1).set (i % 13) y ++ t) ∧ (bytes l)[i]? = (rec x.f0 x.f1)[i % 13]?
  | [], i, y, h => by simp at h
  | x :: l, i, y, h => by
    have hlx := rec_length x.f0 x.f1
    have hbl := bytes_length l
    simp only [List.length_cons] at h
    by_cases ha : i < 13
    · refine ⟨x, bytes l, by simp, by simp; omega, ?_, ?_⟩
      · rw [show i / 13 = 0 by omega, show i % 13 = i by omega, bytes_cons, List.set_append_left _ _ (by omega)]
        rfl
      · rw [show i % 13 = i by omega, bytes_cons, List.getElem?_append_left (by omega)]
    · obtain ⟨z, t, h1, h2, h3, h4⟩ := bytes_set l (i - 13) y (by omega)
      refine ⟨z, t, List.mem_cons_of_mem _ h1, by simp; omega, ?_, ?_⟩
      · rw [show i / 13 = (i - 13) / 13 + 1 by omega, List.take_succ_cons, bytes_cons, bytes_cons, List.set_append_right _ _ (by omega), hlx, h3, show (i - 13) % 13 = i % 13 by omega]
        simp only [List.append_assoc]
      · rw [bytes_cons, List.getElem?_append_right (by omega), hlx, h4, show (i - 13) % 13 = i % 13 by omega]

/-! two lists of values -/
theorem same_l0 (l : List S28) (hl : l.length ≤ 100000) : ∀ (m k i : Nat), l.length - i = m → i ≤ l.length → l.length - i < k → backstitchref4_SameVals.l0 k l l (i : Int) = some true := by
  intro m
  induction m with
  | zero =>
    intro k i hm hi hk
    obtain ⟨k, rfl⟩ : ∃ k', k = k' + 1 := ⟨k - 1, by omega⟩
    rw [backstitchref4_SameVals.l0, if_neg (by omega)]
  | succ m ih =>
    intro k i hm hi hk
    obtain ⟨k, rfl⟩ : ∃ k', k = k' + 1 := ⟨k - 1, by omega⟩
    rw [backstitchref4_SameVals.l0, if_pos (by omega), if_pos (by omega), if_pos (by omega), if_neg (by simp), wrap64_id (by omega) (by omega), show ((i : Int) + 1) = ((i + 1 : Nat) : Int) by omega]
    exact ih k (i + 1) (by omega) (by omega) (by omega)
theorem same_f (l : List S28) (hl : l.length ≤ 1000) : backstitchref4_SameVals.f 2000 l l = some true := by
  unfold backstitchref4_SameVals.f
  rw [if_pos rfl]
  exact same_l0 l (by omega) l.length 2000 0 (by omega) (by omega) (by omega)
end Go.Proofs.Ytaeamehngbfneab.Sp
