/- What the walk of Normal tells, in plain words. -/
import Derived.Test.YtblalidpeccabacSchedG
import Derived.Test.YtblalidpeccabacSchedX
namespace Go.Proofs.Ytblalidpeccabac.Sd
open Go Go.RowKit Go.Proofs.YtblalidpeccabacW.PrintWords Go.Proofs.YtblalidpeccabacW.PrintLast Go.Proofs.YtblalidpeccabacW.PrintMore Go.Proofs.Ytblalidpeccabac.PSchedBack
set_option linter.unusedVariables false
set_option linter.unusedSimpArgs false

/-- numbers that are no less than nothing -/
def zn (p : List Nat) : List Int := p.map (fun (n : Nat) => (n : Int))
theorem zn_length (p : List Nat) : (zn p).length = p.length := List.length_map ..
theorem zn_append (p q : List Nat) : zn (p ++ q) = zn p ++ zn q := List.map_append ..
theorem zn_inj {p q : List Nat} (h : zn p = zn q) : p = q := by
  unfold zn at h
  exact (List.map_inj_right (fun a b h => by omega)).1 h
theorem zn_getD (p : List Nat) (k : Nat) : (zn p).getD k 0 = ((p.getD k 0 : Nat) : Int) := by
  unfold zn
  simp only [List.getD_eq_getElem?_getD, List.getElem?_map]
  cases p[k]? <;> rfl
theorem rd_zn (p : List Nat) (k : Nat) : rd (zn p) (k : Int) = ((p.getD k 0 : Nat) : Int) := by
  unfold rd
  rw [Int.toNat_natCast, zn_getD]
theorem wp64 {x : Int} (h : -9223372036854775808 ≤ x ∧ x ≤ 9223372036854775807) : wrap64 x = x := by unfold wrap64; omega
theorem wnext (n : Nat) (h : n ≤ 100000) : wrap64 ((n : Int) + 1) = ((n + 1 : Nat) : Int) := by rw [wp64 (by omega)]; omega
/-- do they hang on one another? -/
def dN (dep : List (List Bool)) (a k : Nat) : Bool := (dep.getD a []).getD k false
structure Sq (dep : List (List Bool)) : Prop where
  pos : 0 < dep.length
  len : ∀ i, i < dep.length → (dep.getD i []).length = dep.length
  refl : ∀ i, i < dep.length → dN dep i i = true
  sym : ∀ i k, i < dep.length → k < dep.length → dN dep i k = dN dep k i
theorem Sq.symm {dep : List (List Bool)} (h : Sq dep) (a b : Nat) : dN dep a b = dN dep b a := by
  have out : ∀ x y, ¬ x < dep.length → dN dep x y = false := fun x y hx => by
    unfold dN
    rw [show dep.getD x [] = [] by simp [List.getD_eq_getElem?_getD, List.getElem?_eq_none (by omega : dep.length ≤ x)]]
    rfl
  have out2 : ∀ x y, x < dep.length → ¬ y < dep.length → dN dep x y = false := fun x y hx hy => by
    unfold dN
    have := h.len x hx
    rw [List.getD_eq_getElem?_getD, List.getElem?_eq_none (by omega)]
    rfl
  by_cases ha : a < dep.length <;> by_cases hb : b < dep.length
  · exact h.sym a b ha hb
  · rw [out2 a b ha hb, out b a hb]
  · rw [out a b ha, out2 b a hb ha]
  · rw [out a b ha, out b a hb]
theorem rdL2_nat (xs : List (List Bool)) (i : Nat) : rd_L2 xs (i : Int) = xs.getD i [] := by unfold rd_L2; rw [Int.toNat_natCast]
theorem rdOf_nat (xs : List Bool) (i : Nat) : rdOf false xs (i : Int) = xs.getD i false := by unfold rdOf; rw [Int.toNat_natCast]
theorem hang2 (dep : List (List Bool)) (i : Nat) (hi : i < dep.length) (hl : ∀ i, i < dep.length → (dep.getD i []).length = dep.length) (hn : dep.length ≤ 12) : ∀ (j k f : Nat), k + j = dep.length →
    (sched_hangs.l2 (f + j + 1) dep (i : Int) dep (dep.length : Int) (i : Int) (dep.getD i []) (dep.length : Int) (k : Int) = sched_hangs.l1 f dep dep (dep.length : Int) ((i + 1 : Nat) : Int) ∧ ∀ k', k ≤ k' → k' < dep.length → dN dep i k' = dN dep k' i) ∨
    sched_hangs.l2 (f + j + 1) dep (i : Int) dep (dep.length : Int) (i : Int) (dep.getD i []) (dep.length : Int) (k : Int) = some false
  | 0, k, f, hk => by
    refine .inl ⟨?_, fun k' h1 h2 => by omega⟩
    show sched_hangs.l2 (f + 1) _ _ _ _ _ _ _ _ = _
    rw [sched_hangs.l2, if_neg (by omega), wnext i (by omega)]
  | j + 1, k, f, hk => by
    have hkn : k < dep.length := by omega
    have hrow := hl i hi
    have hrow2 := hl k hkn
    have e : sched_hangs.l2 (f + (j + 1) + 1) dep (i : Int) dep (dep.length : Int) (i : Int) (dep.getD i []) (dep.length : Int) (k : Int) = if (dN dep i k != dN dep k i) = true then some false else sched_hangs.l2 (f + j + 1) dep (i : Int) dep (dep.length : Int) (i : Int) (dep.getD i []) (dep.length : Int) ((k + 1 : Nat) : Int) := by
      rw [sched_hangs.l2, if_pos (by omega), if_pos (by omega), if_pos (by omega), if_pos (by omega), if_pos (by omega), rdL2_nat, if_pos (by omega), rdOf_nat, rdOf_nat, wnext k (by omega)]
      rfl
    rw [e]
    by_cases hne : (dN dep i k != dN dep k i) = true
    · rw [if_pos hne]
      exact .inr rfl
    · rw [if_neg hne]
      have heq : dN dep i k = dN dep k i := by simpa using hne
      rcases hang2 dep i hi hl hn j (k + 1) f (by omega) with ⟨h1, h2⟩ | h1
      · refine .inl ⟨h1, fun k' h3 h4 => ?_⟩
        by_cases h5 : k' = k
        · rw [h5]; exact heq
        · exact h2 k' (by omega) h4
      · exact .inr h1
theorem hang1 (dep : List (List Bool)) (hl : ∀ i, i < dep.length → (dep.getD i []).length = dep.length) (hn : dep.length ≤ 12) : ∀ (j i f : Nat), i + j = dep.length →
    (sched_hangs.l1 (f + j * (dep.length + 2) + 1) dep dep (dep.length : Int) (i : Int) = some (decide (0 < dep.length)) ∧ ∀ i', i ≤ i' → i' < dep.length → ∀ k', k' < dep.length → dN dep i' k' = dN dep k' i') ∨
    sched_hangs.l1 (f + j * (dep.length + 2) + 1) dep dep (dep.length : Int) (i : Int) = some false
  | 0, i, f, hi => by
    refine .inl ⟨?_, fun i' h1 h2 => by omega⟩
    rw [Nat.zero_mul]
    show sched_hangs.l1 (f + 1) _ _ _ _ = _
    rw [sched_hangs.l1, if_neg (by omega)]
    congr 1
    exact decide_eq_decide.2 (by omega)
  | j + 1, i, f, hi => by
    have hin : i < dep.length := by omega
    have ef : f + (j + 1) * (dep.length + 2) + 1 = (f + j * (dep.length + 2) + 1) + dep.length + 1 + 1 := by rw [Nat.add_mul]; omega
    have e : sched_hangs.l1 (f + (j + 1) * (dep.length + 2) + 1) dep dep (dep.length : Int) (i : Int) = sched_hangs.l2 ((f + j * (dep.length + 2) + 1) + dep.length + 1) dep (i : Int) dep (dep.length : Int) (i : Int) (dep.getD i []) (dep.length : Int) ((0 : Nat) : Int) := by
      rw [ef, sched_hangs.l1, if_pos (by omega), if_pos (by omega), if_pos (by omega), rdL2_nat, hl i hin]
      rfl
    rw [e]
    rcases hang2 dep i hin hl hn dep.length 0 (f + j * (dep.length + 2) + 1) (by omega) with ⟨h1, h2⟩ | h1
    · rw [h1]
      rcases hang1 dep hl hn j (i + 1) f (by omega) with ⟨h3, h4⟩ | h3
      · refine .inl ⟨h3, fun i' h5 h6 => ?_⟩
        by_cases h7 : i' = i
        · rw [h7]; exact fun k' h8 => h2 k' (Nat.zero_le _) h8
        · exact h4 i' (by omega) h6
      · exact .inr h3
    · exact .inr h1
theorem hang0 (dep : List (List Bool)) (hn : dep.length ≤ 12) : ∀ (j i f : Nat), i + j = dep.length → (∀ i', i' < i → (dep.getD i' []).length = dep.length ∧ dN dep i' i' = true) →
    ∃ b, sched_hangs.l0 (f + (dep.length * (dep.length + 2) + 1) + j + 1) dep dep (dep.length : Int) (i : Int) = some b ∧ (b = true → Sq dep)
  | 0, i, f, hi, ha => by
    obtain rfl : i = dep.length := by omega
    have e : sched_hangs.l0 (f + (dep.length * (dep.length + 2) + 1) + 0 + 1) dep dep (dep.length : Int) (dep.length : Int) = sched_hangs.l1 (f + dep.length * (dep.length + 2) + 1) dep dep (dep.length : Int) ((0 : Nat) : Int) := by
      rw [sched_hangs.l0, if_neg (by omega)]
      rfl
    rw [e]
    rcases hang1 dep (fun i hi => (ha i hi).1) hn dep.length 0 f (by omega) with ⟨h1, h2⟩ | h1
    · exact ⟨_, h1, fun h => ⟨by simpa using h, fun i hi => (ha i hi).1, fun i hi => (ha i hi).2, fun i k hi hk => h2 i (Nat.zero_le _) hi k hk⟩⟩
    · exact ⟨_, h1, fun h => by cases h⟩
  | j + 1, i, f, hi, ha => by
    have hin : i < dep.length := by omega
    rw [show f + (dep.length * (dep.length + 2) + 1) + (j + 1) + 1 = (f + (dep.length * (dep.length + 2) + 1) + j + 1) + 1 by omega, sched_hangs.l0, if_pos (by omega), if_pos (by omega), if_pos (by omega), rdL2_nat]
    by_cases h1 : (dep.getD i []).length = dep.length
    · rw [if_pos (by omega), if_pos (by omega), rdOf_nat]
      by_cases h2 : (dep.getD i []).getD i false = true
      · rw [if_pos h2, wnext i (by omega)]
        exact hang0 dep hn j (i + 1) f (by omega) (fun i' hi' => by
          by_cases h3 : i' = i
          · rw [h3]; exact ⟨h1, h2⟩
          · exact ha i' (by omega))
      · rw [if_neg h2]
        exact ⟨_, rfl, fun h => by cases h⟩
    · rw [if_neg (by omega)]
      exact ⟨_, rfl, fun h => by cases h⟩
theorem hang_eq (dep : List (List Bool)) (hn : dep.length ≤ 12) : ∃ b, sched_hangs.f 1000 dep = some b ∧ (b = true → Sq dep) := by
  have hm : dep.length * (dep.length + 2) ≤ 12 * 14 := Nat.mul_le_mul hn (by omega)
  obtain ⟨f, hf⟩ : ∃ f, 1000 = f + (dep.length * (dep.length + 2) + 1) + dep.length + 1 := ⟨1000 - (dep.length * (dep.length + 2) + 1 + dep.length + 1), by omega⟩
  obtain ⟨b, h1, h2⟩ := hang0 dep hn dep.length 0 f (by omega) (fun i' h => by omega)
  rw [← hf] at h1
  exact ⟨b, h1, h2⟩

theorem less_f (a b : Int) : cmp_Less_int.f a b = some (decide (a < b)) := by
  unfold cmp_Less_int.f cmp_isNaN_int.f
  simp
theorem nan_f (a : Int) : slices_isNaN_int.f a = some false := by
  unfold slices_isNaN_int.f
  simp
theorem mid_eq (i j : Nat) (h : i + j ≤ 100000) : wrap64 ((IntKind.u64.wrap (wrap64 ((i : Int) + (j : Int)))) / 2) = (((i + j) / 2 : Nat) : Int) := by
  rw [wp64 (x := (i : Int) + (j : Int)) (by omega), IntKind.wrap_u64, show ((i : Int) + (j : Int)) % 18446744073709551616 = (i : Int) + (j : Int) by omega, wp64 (by omega)]
  omega
/-- one search in a list in order -/
theorem search_l0 (r : List Nat) (a : Nat) (hr : ∀ i j, i ≤ j → j < r.length → r.getD i 0 ≤ r.getD j 0) (hn : r.length ≤ 1000) : ∀ (m i j f : Nat), j - i ≤ m → i ≤ j → j ≤ r.length → (∀ x, x < i → r.getD x 0 < a) → (∀ x, j ≤ x → x < r.length → a ≤ r.getD x 0) →
    ∃ p fd, slices_BinarySearch_int_int.l0 (f + m + 1) (zn r) (a : Int) (r.length : Int) (i : Int) (j : Int) = some (((p : Nat) : Int), fd) ∧ p ≤ r.length ∧ (∀ x, x < p → r.getD x 0 < a) ∧ (∀ x, p ≤ x → x < r.length → a ≤ r.getD x 0)
  | m, i, j, f, hm, hij, hj, h1, h2 => by
    rw [slices_BinarySearch_int_int.l0]
    by_cases hlt : i < j
    · rw [if_pos (by omega), mid_eq i j (by omega)]
      obtain ⟨h, hh⟩ : ∃ h, h = (i + j) / 2 := ⟨_, rfl⟩
      rw [← hh]
      have hh1 : i ≤ h ∧ h < j := by omega
      clear hh
      obtain ⟨m', rfl⟩ : ∃ m', m = m' + 1 := ⟨m - 1, by omega⟩
      rw [if_pos (by omega), if_pos (by rw [zn_length]; omega), rd_zn, less_f]
      dsimp only [Option.bind]
      by_cases hc : r.getD h 0 < a
      · rw [if_pos (decide_eq_true (by omega)), wnext h (by omega)]
        exact search_l0 r a hr hn m' (h + 1) j f (by omega) (by omega) hj (fun x hx => Nat.lt_of_le_of_lt (hr x h (by omega) (by omega)) hc) h2
      · rw [if_neg (by rw [decide_eq_false (by omega)]; decide)]
        exact search_l0 r a hr hn m' i h f (by omega) (by omega) (by omega) h1 (fun x hx hx2 => Nat.le_trans (Nat.le_of_not_lt hc) (hr h x hx hx2))
    · obtain rfl : i = j := by omega
      rw [if_neg (by omega)]
      by_cases hin : i < r.length
      · rw [if_pos (by omega), if_pos (by omega), if_pos (by rw [zn_length]; omega), rd_zn]
        by_cases hq : ((r.getD i 0 : Nat) : Int) = (a : Int)
        · rw [if_pos hq]
          exact ⟨i, true, rfl, hj, h1, h2⟩
        · rw [if_neg hq, nan_f]
          dsimp only [Option.bind]
          rw [if_neg (by decide)]
          exact ⟨i, false, rfl, hj, h1, h2⟩
      · rw [if_neg (by omega)]
        exact ⟨i, false, rfl, hj, h1, h2⟩
theorem search_eq (r : List Nat) (a : Nat) (hr : ∀ i j, i ≤ j → j < r.length → r.getD i 0 ≤ r.getD j 0) (hn : r.length ≤ 900) : ∃ p fd, slices_BinarySearch_int_int.f 1000 (zn r) (a : Int) = some (((p : Nat) : Int), fd) ∧ p ≤ r.length ∧ (∀ x, x < p → r.getD x 0 < a) ∧ (∀ x, p ≤ x → x < r.length → a ≤ r.getD x 0) := by
  obtain ⟨f, hf⟩ : ∃ f, 1000 = f + r.length + 1 := ⟨1000 - (r.length + 1), by omega⟩
  obtain ⟨p, fd, h1, h2⟩ := search_l0 r a hr (by omega) r.length 0 r.length f (by omega) (by omega) (Nat.le_refl _) (fun x hx => by omega) (fun x hx hx2 => by omega)
  rw [← hf] at h1
  refine ⟨p, fd, ?_, h2⟩
  unfold slices_BinarySearch_int_int.f
  rw [zn_length]
  exact h1
theorem ins_at (a : Nat) : ∀ (r : List Nat) (p : Nat), p ≤ r.length → (∀ x, x < p → r.getD x 0 < a) → (∀ x, p ≤ x → x < r.length → a ≤ r.getD x 0) → ins a r = r.take p ++ [a] ++ r.drop p
  | [], p, hp, h1, h2 => by
    obtain rfl : p = 0 := by simpa using hp
    rfl
  | x :: xs, 0, hp, h1, h2 => by
    have := h2 0 (Nat.le_refl _) (by simp)
    have h3 : a ≤ x := this
    unfold ins
    rw [if_neg (by omega)]
    rfl
  | x :: xs, p + 1, hp, h1, h2 => by
    have h3 : x < a := h1 0 (by omega)
    unfold ins
    rw [if_pos h3, ins_at a xs p (by simpa using hp) (fun y hy => h1 (y + 1) (by omega)) (fun y hy hy2 => h2 (y + 1) (by omega) (by simpa using hy2))]
    rfl
/-- in order -/
def Asc (r : List Nat) : Prop := r.Pairwise (· ≤ ·)
theorem Asc.get {r : List Nat} (h : Asc r) (i j : Nat) (hij : i ≤ j) (hj : j < r.length) : r.getD i 0 ≤ r.getD j 0 := by
  rcases Nat.lt_or_ge i j with h1 | h1
  · have := (List.pairwise_iff_getElem.1 h) i j (by omega) hj h1
    rw [List.getD_eq_getElem?_getD, List.getD_eq_getElem?_getD, List.getElem?_eq_getElem (by omega : i < r.length), List.getElem?_eq_getElem hj]
    exact this
  · obtain rfl : i = j := by omega
    exact Nat.le_refl _
theorem Asc.ins {a : Nat} : ∀ {r : List Nat}, Asc r → Asc (ins a r)
  | [], _ => List.pairwise_singleton ..
  | x :: xs, h => by
    have h2 := List.pairwise_cons.1 h
    unfold Sd.ins
    by_cases hx : x < a
    · rw [if_pos hx]
      refine List.pairwise_cons.2 ⟨fun y hy => ?_, Asc.ins h2.2⟩
      rcases mem_ins.1 hy with rfl | hy
      · omega
      · exact h2.1 y hy
    · rw [if_neg hx]
      refine List.pairwise_cons.2 ⟨fun y hy => ?_, h⟩
      rcases List.mem_cons.1 hy with rfl | hy
      · omega
      · have := h2.1 y hy; omega
theorem insAt_asc : ∀ (o : List (List Nat)) (s a : Nat), (∀ r ∈ o, Asc r) → ∀ r ∈ insAt o s a, Asc r
  | [], s, a, h, r, hr => by
    rw [List.mem_singleton.1 hr]
    exact List.pairwise_singleton ..
  | r0 :: rs, 0, a, h, r, hr => by
    rcases List.mem_cons.1 hr with rfl | hr
    · exact (h r0 List.mem_cons_self).ins
    · exact h r (List.mem_cons_of_mem _ hr)
  | r0 :: rs, s + 1, a, h, r, hr => by
    rcases List.mem_cons.1 hr with rfl | hr
    · exact h r List.mem_cons_self
    · exact insAt_asc rs s a (fun x hx => h x (List.mem_cons_of_mem _ hx)) r hr
theorem nf_asc {d : Nat → Nat → Bool} (w : List Nat) : ∀ r ∈ (nf d w).out, Asc r := by
  refine snoc_ind (P := fun w => ∀ r ∈ (nf d w).out, Asc r) (fun r hr => by simp [nf, S0] at hr) (fun w a ih => ?_) w
  rw [nf_snoc]
  exact insAt_asc _ _ _ ih
theorem nf_outlen {d : Nat → Nat → Bool} (w : List Nat) : (nf d w).out.length ≤ w.length := by
  refine snoc_ind (P := fun w => (nf d w).out.length ≤ w.length) (Nat.le_refl _) (fun w a ih => ?_) w
  rw [nf_snoc]
  show (insAt (nf d w).out ((nf d w).nx a) a).length ≤ _
  rw [insAt_len _ _ _ ((good_nf d w).le a), List.length_append]
  show _ ≤ _ + 1
  split <;> omega
theorem mem_len {o : List (List Nat)} {r : List Nat} (h : r ∈ o) : r.length ≤ o.flatten.length := by
  induction o with
  | nil => cases h
  | cons r0 rs ih =>
    rw [List.flatten_cons, List.length_append]
    rcases List.mem_cons.1 h with rfl | h
    · exact Nat.le_add_right _ _
    · have := ih h; omega
theorem nf_rowlen {d : Nat → Nat → Bool} (w : List Nat) {r : List Nat} (h : r ∈ (nf d w).out) : r.length ≤ w.length := by
  have h1 := mem_len h
  rwa [nf_len] at h1
/-- the steps as far as step s -/
def uptoN (o : List (List Nat)) (s : Nat) : List (List Nat) := if s = o.length then o ++ [[]] else o
theorem insAt_eq : ∀ (o : List (List Nat)) (s a : Nat), s ≤ o.length → insAt o s a = (uptoN o s).set s (ins a ((uptoN o s).getD s []))
  | [], s, a, h => by
    obtain rfl : s = 0 := by simpa using h
    rfl
  | r :: rs, 0, a, h => by
    unfold uptoN
    rw [if_neg (by simp)]
    rfl
  | r :: rs, s + 1, a, h => by
    have ih := insAt_eq rs s a (by simpa using h)
    show r :: insAt rs s a = _
    rw [ih]
    unfold uptoN
    by_cases h2 : s = rs.length
    · rw [if_pos h2, if_pos (by simp; exact h2)]
      rfl
    · rw [if_neg h2, if_neg (by simp; exact h2)]
      rfl
theorem upto_zn (o : List (List Nat)) (s : Nat) : upto (o.map zn) s = (uptoN o s).map zn := by
  unfold upto uptoN
  rw [List.length_map]
  split
  · rw [List.map_append]; rfl
  · rfl
theorem getD_zn (o : List (List Nat)) (s : Nat) : (o.map zn).getD s [] = zn (o.getD s []) := by
  simp only [List.getD_eq_getElem?_getD, List.getElem?_map]
  cases o[s]? <;> rfl
theorem upd_get (s : Int) (row : List Bool) (next : List Int) : ∀ m k, k < next.length → (upd s row next m).getD k 0 = if k < m ∧ row.getD k false = true then mx (next.getD k 0) s else next.getD k 0
  | 0, k, hk => by
    rw [if_neg (by omega)]
    rfl
  | m + 1, k, hk => by
    have ih := upd_get s row next m
    unfold upd
    by_cases hr : row.getD m false = true
    · rw [if_pos hr]
      by_cases hkm : k = m
      · subst hkm
        have h1 : ((upd s row next k).set k (mx ((upd s row next k).getD k 0) s)).getD k 0 = mx ((upd s row next k).getD k 0) s := by
          rw [List.getD_eq_getElem?_getD, List.getElem?_set_self (by rw [upd_len]; exact hk)]
          rfl
        rw [h1, ih k hk, if_neg (by omega), if_pos ⟨by omega, hr⟩]
      · have h1 : ((upd s row next m).set m (mx ((upd s row next m).getD m 0) s)).getD k 0 = (upd s row next m).getD k 0 := by
          rw [List.getD_eq_getElem?_getD, List.getElem?_set_ne (by omega), ← List.getD_eq_getElem?_getD]
        rw [h1, ih k hk]
        by_cases hc : k < m ∧ row.getD k false = true
        · rw [if_pos hc, if_pos ⟨by omega, hc.2⟩]
        · rw [if_neg hc, if_neg (fun h => hc ⟨by omega, h.2⟩)]
    · rw [if_neg hr, ih k hk]
      by_cases hc : k < m ∧ row.getD k false = true
      · rw [if_pos hc, if_pos ⟨by omega, hc.2⟩]
      · rw [if_neg hc, if_neg (fun h => hc ⟨by
          by_cases hkm : k = m
          · rw [hkm] at h; exact absurd h.2 hr
          · omega, h.2⟩)]
/-- as far as the walk has come -/
structure Rel (n : Nat) (S : Foa) (next : List Int) (out : List (List Int)) : Prop where
  len : next.length = n
  nx : ∀ k, k < n → next.getD k 0 = ((S.nx k : Nat) : Int)
  out : out = S.out.map zn
theorem step_eq {dep : List (List Bool)} (hq : Sq dep) (w : List Nat) (hw : w.length ≤ 200) {next : List Int} {out : List (List Int)} (h : Rel dep.length (nf (dN dep) w) next out) (a : Nat) (ha : a < dep.length) :
    ∃ next' out', normStep 1000 dep next out a = some (next', out') ∧ Rel dep.length (nf (dN dep) (w ++ [a])) next' out' := by
  have hg := good_nf (dN dep) w
  have hle := hg.le a
  have hol := nf_outlen (d := dN dep) w
  obtain rfl := h.out
  have hna := h.nx a ha
  rw [nf_snoc]
  obtain ⟨S, hS⟩ : ∃ S, S = nf (dN dep) w := ⟨_, rfl⟩
  have hrow : Asc ((uptoN S.out (S.nx a)).getD (S.nx a) []) ∧ ((uptoN S.out (S.nx a)).getD (S.nx a) []).length ≤ 200 := by
    rw [← hS] at hle
    by_cases h1 : S.nx a = S.out.length
    · have e : (uptoN S.out (S.nx a)).getD (S.nx a) [] = [] := by
        unfold uptoN
        rw [if_pos h1, h1, List.getD_eq_getElem?_getD]
        simp
      rw [e]
      exact ⟨List.Pairwise.nil, by simp⟩
    · have e : (uptoN S.out (S.nx a)).getD (S.nx a) [] = S.out[S.nx a]'(by omega) := by
        unfold uptoN
        rw [if_neg h1, List.getD_eq_getElem?_getD, List.getElem?_eq_getElem (by omega)]
        rfl
      rw [e]
      have hm : S.out[S.nx a]'(by omega) ∈ (nf (dN dep) w).out := by rw [← hS]; exact List.getElem_mem _
      exact ⟨nf_asc w _ hm, Nat.le_trans (nf_rowlen w hm) hw⟩
  rw [← hS] at hna hle hol h ⊢
  obtain ⟨p, fd, h1, h2, h3, h4⟩ := search_eq _ a hrow.1.get (by omega)
  have hins := ins_at a _ p h2 h3 h4
  have hlen := hq.len a ha
  refine ⟨upd (((S.nx a + 1 : Nat)) : Int) (dep.getD a []) next (dep.getD a []).length, (T (dN dep) S a).out.map zn, ?_, ⟨by rw [upd_len]; exact h.len, fun k hk => ?_, rfl⟩⟩
  · unfold normStep
    rw [hna, Int.toNat_natCast, upto_zn, getD_zn, List.length_map, if_pos ⟨by omega, by omega, by omega⟩, h1]
    dsimp only [Option.bind]
    rw [if_pos ⟨by omega, by rw [zn_length]; omega⟩, Int.toNat_natCast]
    unfold insF
    rw [if_pos (by rw [zn_length]; exact h2)]
    dsimp only [Option.bind]
    rw [if_pos (by rw [h.len, hlen]; exact Nat.le_refl _), wnext (S.nx a) (by omega)]
    congr 2
    have e : zn (ins a ((uptoN S.out (S.nx a)).getD (S.nx a) [])) = (zn ((uptoN S.out (S.nx a)).getD (S.nx a) [])).take p ++ [(a : Int)] ++ (zn ((uptoN S.out (S.nx a)).getD (S.nx a) [])).drop p := by
      rw [hins]
      unfold zn
      simp
    rw [← e, ← List.map_set]
    show _ = (insAt S.out (S.nx a) a).map zn
    rw [insAt_eq S.out (S.nx a) a hle]
  · rw [upd_get _ _ _ _ k (by rw [h.len]; exact hk), hlen, h.nx k hk]
    show (if _ then mx _ _ else _) = (((if dN dep a k then max (S.nx k) (S.nx a + 1) else S.nx k) : Nat) : Int)
    by_cases hd : dN dep a k = true
    · rw [if_pos ⟨hk, hd⟩, if_pos hd]
      unfold mx
      split <;> omega
    · rw [if_neg (fun h => hd h.2), if_neg hd]
theorem normL_eq {dep : List (List Bool)} (hq : Sq dep) : ∀ (v w : List Nat) (next : List Int) (out : List (List Int)), w.length + v.length ≤ 200 → (∀ a ∈ v, a < dep.length) → Rel dep.length (nf (dN dep) w) next out → normL 1000 dep (zn v) next out = some ((nf (dN dep) (w ++ v)).out.map zn)
  | [], w, next, out, hl, hv, h => by
    rw [List.append_nil, h.out]
    rfl
  | a :: v, w, next, out, hl, hv, h => by
    rw [List.length_cons] at hl
    have ha := hv a List.mem_cons_self
    obtain ⟨next', out', h1, h2⟩ := step_eq hq w (by omega) h a ha
    show (if 0 ≤ (a : Int) ∧ (a : Int) < (dep.length : Int) then _ else _) = _
    rw [if_pos ⟨by omega, by omega⟩, Int.toNat_natCast, h1]
    dsimp only [Option.bind]
    have ih := normL_eq hq v (w ++ [a]) next' out' (by rw [List.length_append]; show _ + 1 + _ ≤ _; omega) (fun b hb => hv b (List.mem_cons_of_mem _ hb)) h2
    rw [List.append_assoc] at ih
    exact ih
theorem normF_ok {dep : List (List Bool)} (hh : sched_hangs.f 1000 dep = some true) (hq : Sq dep) (hn : dep.length ≤ 12) (w : List Nat) (hw : w.length ≤ 200) (ha : ∀ a ∈ w, a < dep.length) : normF 1000 (zn w) dep = some ((nf (dN dep) w).out.map zn, 0) := by
  have hc : checkF 1000 (zn w) dep = some 0 := by
    unfold checkF
    rw [if_neg (by rw [zn_length]; omega), if_neg (by omega), hh]
    dsimp only [Option.bind]
    rw [if_pos rfl, if_neg ?_]
    intro h
    obtain ⟨x, hx, hx2⟩ := List.any_eq_true.1 h
    obtain ⟨a, ha2, rfl⟩ := List.mem_map.1 hx
    have := ha a ha2
    unfold notAct at hx2
    simp at hx2
    omega
  have hL := normL_eq hq w [] (List.replicate dep.length 0) [] (by simpa using hw) ha ⟨by simp, fun k hk => by
    rw [List.getD_eq_getElem?_getD, List.getElem?_replicate, if_pos hk]
    rfl, rfl⟩
  rw [List.nil_append] at hL
  unfold normF
  rw [hc]
  dsimp only [Option.bind]
  rw [if_pos rfl, if_pos ⟨hq.pos, hn, by rw [zn_length]; exact hw⟩, hL]
theorem normF_eq (l : List Int) (dep : List (List Bool)) : (∃ e, e ≠ 0 ∧ normF 1000 l dep = some ([], e)) ∨ (sched_hangs.f 1000 dep = some true ∧ Sq dep ∧ dep.length ≤ 12 ∧ ∃ w : List Nat, l = zn w ∧ w.length ≤ 200 ∧ ∀ a ∈ w, a < dep.length) := by
  have bad : ∀ e, checkF 1000 l dep = some e → e ≠ 0 → (∃ e, e ≠ 0 ∧ normF 1000 l dep = some ([], e)) := fun e h he => ⟨e, he, by
    unfold normF
    rw [h]
    dsimp only [Option.bind]
    rw [if_neg he]⟩
  by_cases h1 : 200 < l.length
  · exact .inl (bad 2 (by unfold checkF; rw [if_pos h1]) (by decide))
  · by_cases h2 : 12 < dep.length
    · exact .inl (bad 2 (by unfold checkF; rw [if_neg h1, if_pos h2]) (by decide))
    · obtain ⟨b, h3, h4⟩ := hang_eq dep (by omega)
      cases b with
      | false => exact .inl (bad 3 (by unfold checkF; rw [if_neg h1, if_neg h2, h3]; rfl) (by decide))
      | true =>
        by_cases h5 : l.any (fun n => notAct n dep.length) = true
        · refine .inl (bad 1 ?_ (by decide))
          unfold checkF
          rw [if_neg h1, if_neg h2, h3]
          dsimp only [Option.bind]
          rw [if_pos rfl, if_pos h5]
        · refine .inr ⟨h3, h4 rfl, by omega, l.map Int.toNat, ?_, by rw [List.length_map]; omega, ?_⟩
          · unfold zn
            rw [List.map_map]
            refine (List.map_id' l).symm.trans (List.map_congr_left fun x hx => ?_)
            have h6 : notAct x dep.length = false := by
              have := (List.any_eq_false.1 (by simpa using h5 : l.any (fun n => notAct n dep.length) = false)) x hx
              simpa using this
            unfold notAct at h6
            simp at h6
            show x = ((x.toNat : Nat) : Int)
            omega
          · intro a ha
            obtain ⟨x, hx, rfl⟩ := List.mem_map.1 ha
            have h6 : notAct x dep.length = false := by
              have := (List.any_eq_false.1 (by simpa using h5 : l.any (fun n => notAct n dep.length) = false)) x hx
              simpa using this
            unfold notAct at h6
            simp at h6
            omega
theorem flatten_zn (o : List (List Nat)) : (o.map zn).flatten = zn o.flatten := by
  unfold zn
  rw [List.map_flatten]
theorem map_zn_inj {o o' : List (List Nat)} (h : o.map zn = o'.map zn) : o = o' := (List.map_inj_right (fun a b h => zn_inj h)).1 h
/-- a word's normal form, one step behind the other, has the same normal form -/
theorem flat_eq {dep : List (List Bool)} (hh : sched_hangs.f 1000 dep = some true) (hq : Sq dep) (hn : dep.length ≤ 12) (w : List Nat) (hw : w.length ≤ 200) (ha : ∀ a ∈ w, a < dep.length) :
    normF 1000 ((nf (dN dep) w).out.map zn).flatten dep = some ((nf (dN dep) w).out.map zn, 0) ∧ ((nf (dN dep) w).out.map zn).flatten.length = w.length ∧ ∀ r ∈ (nf (dN dep) w).out.map zn, r.length ≤ 200 := by
  rw [flatten_zn, zn_length, nf_len]
  refine ⟨?_, rfl, fun r hr => ?_⟩
  · rw [normF_ok hh hq hn _ (by rw [nf_len]; exact hw) (fun a h => ha a (nf_mem w a h)), nf_flat hq.symm w]
  · obtain ⟨x, hx, rfl⟩ := List.mem_map.1 hr
    rw [zn_length]
    exact Nat.le_trans (nf_rowlen w hx) hw
theorem swap_split {w : List Nat} {i : Nat} (hi : i + 1 < w.length) : ∃ u v, w = u ++ [w[i], w[i + 1]] ++ v ∧ (w.set i w[i + 1]).set (i + 1) w[i] = u ++ [w[i + 1], w[i]] ++ v := by
  have e0 : w = w.take i ++ w[i] :: w[i + 1] :: w.drop (i + 2) := by
    rw [← List.drop_eq_getElem_cons hi, ← List.drop_eq_getElem_cons (by omega), List.take_append_drop]
  refine ⟨w.take i, w.drop (i + 2), ?_, ?_⟩
  · rw [List.append_assoc]
    exact e0
  · have hl : (w.take i).length = i := by rw [List.length_take]; omega
    generalize w[i] = x at e0 ⊢
    generalize w[i + 1] = y at e0 ⊢
    generalize w.take i = u at e0 hl ⊢
    generalize w.drop (i + 2) = v at e0 ⊢
    subst e0
    subst hl
    rw [List.append_assoc, List.set_append_right _ _ (Nat.le_refl _), Nat.sub_self, List.set_append_right _ _ (by omega), show u.length + 1 - u.length = 1 by omega]
    rfl
/-- two neighbours in the other order -/
theorem swap_eq {dep : List (List Bool)} (hh : sched_hangs.f 1000 dep = some true) (hq : Sq dep) (hn : dep.length ≤ 12) (w : List Nat) (hw : w.length ≤ 200) (ha : ∀ a ∈ w, a < dep.length) (i : Nat) (hi : i + 1 < w.length) (hne : w[i] ≠ w[i + 1]) :
    ∃ b, normF 1000 (((zn w).set i (w[i + 1] : Nat)).set (i + 1) (w[i] : Nat)) dep = some (b, 0) ∧ decide ((nf (dN dep) w).out.map zn = b) = !dN dep w[i] w[i + 1] := by
  obtain ⟨u, v, h1, h2⟩ := swap_split hi
  have hx := ha w[i] (List.getElem_mem _)
  have hy := ha w[i + 1] (List.getElem_mem _)
  have e : ((zn w).set i (w[i + 1] : Nat)).set (i + 1) (w[i] : Nat) = zn (u ++ [w[i + 1], w[i]] ++ v) := by
    rw [← h2]
    unfold zn
    rw [List.map_set, List.map_set]
  have hlen : (u ++ [w[i + 1], w[i]] ++ v).length = w.length := by rw [← h2, List.length_set, List.length_set]
  have hmem : ∀ a ∈ u ++ [w[i + 1], w[i]] ++ v, a < dep.length := by
    intro a hm
    apply ha
    rw [h1]
    simp only [List.mem_append, List.mem_cons, List.not_mem_nil, or_false] at hm ⊢
    rcases hm with (h | h | h) | h
    · exact .inl (.inl h)
    · exact .inl (.inr (.inr h))
    · exact .inl (.inr (.inl h))
    · exact .inr h
  refine ⟨_, by rw [e]; exact normF_ok hh hq hn _ (by rw [hlen]; exact hw) hmem, ?_⟩
  have hN : nf (dN dep) w = nf (dN dep) (u ++ [w[i], w[i + 1]] ++ v) := congrArg _ h1
  cases hd : dN dep w[i] w[i + 1] with
  | false =>
    have hd2 : dN dep w[i + 1] w[i] = false := by rw [hq.symm]; exact hd
    refine decide_eq_true ?_
    rw [hN, nf_swap u v hd hd2]
  | true =>
    refine decide_eq_false (fun h => ?_)
    have h3 := map_zn_inj h
    rw [hN] at h3
    exact nf_noswap hq.symm u v (hq.refl _ hx) (hq.refl _ hy) hd hne h3
end Go.Proofs.Ytblalidpeccabac.Sd
