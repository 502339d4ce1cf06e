/- A spool's bytes: the plain side (numbers and lists alone, no program). -/
import Derived.Laws.Entries
namespace Go.Proofs.Ytaeamehngbfneab.Sp
open Go
set_option linter.unusedVariables false
set_option linter.unusedSimpArgs false

theorem rev_ind {α : Type} {P : List α → Prop} (h0 : P []) (h1 : ∀ l x, P l → P (l ++ [x])) (l : List α) : P l := by
  rw [← List.reverse_reverse l]
  induction l.reverse with
  | nil => exact h0
  | cons x m ih => rw [List.reverse_cons]; exact h1 _ _ ih

/-! bytes of a number, the greatest first -/
def big (n : Int) : Nat → List Int
  | 0 => []
  | k + 1 => big (n / 256) k ++ [n % 256]
theorem big_length (n : Int) : ∀ k, (big n k).length = k := by
  intro k
  induction k generalizing n with
  | zero => rfl
  | succ k ih => simp [big, ih]
theorem big_byte {n : Int} : ∀ {k : Nat} {x : Int}, x ∈ big n k → 0 ≤ x ∧ x < 256 := by
  intro k
  induction k generalizing n with
  | zero => intro x h; simp [big] at h
  | succ k ih =>
    intro x h
    simp only [big, List.mem_append, List.mem_singleton] at h
    rcases h with h | h
    · exact ih h
    · omega
def val : List Int → Int := List.foldl (fun a x => a * 256 + x) 0
theorem val_snoc (l : List Int) (x : Int) : val (l ++ [x]) = val l * 256 + x := by simp [val, List.foldl_append]
theorem val_big : ∀ (k : Nat) (n : Int), 0 ≤ n → n < 256 ^ k → val (big n k) = n
  | 0, n, h0, h1 => by simp [val, big]; omega
  | k + 1, n, h0, h1 => by
    rw [big, val_snoc, val_big k (n / 256) (by omega) (by rw [Int.pow_succ] at h1; omega)]
    omega
theorem val_range : ∀ (l : List Int), (∀ x ∈ l, 0 ≤ x ∧ x < 256) → 0 ≤ val l ∧ val l < 256 ^ l.length := by
  intro l
  refine rev_ind (P := fun l => (∀ x ∈ l, 0 ≤ x ∧ x < 256) → 0 ≤ val l ∧ val l < 256 ^ l.length) ?_ ?_ l
  · intro _; simp [val]
  · intro l x ih h
    have h1 := ih (fun y hy => h y (List.mem_append_left _ hy))
    have h2 := h x (by simp)
    rw [val_snoc, List.length_append, List.length_singleton, Int.pow_succ]
    omega
theorem val_inj : ∀ {l m : List Int}, l.length = m.length → (∀ x ∈ l, 0 ≤ x ∧ x < 256) → (∀ x ∈ m, 0 ≤ x ∧ x < 256) → val l = val m → l = m := by
  intro l
  refine rev_ind (P := fun l => ∀ {m : List Int}, l.length = m.length → (∀ x ∈ l, 0 ≤ x ∧ x < 256) → (∀ x ∈ m, 0 ≤ x ∧ x < 256) → val l = val m → l = m) ?_ ?_ l
  · intro m hl _ _ _; simp at hl; exact (List.eq_nil_of_length_eq_zero hl.symm).symm
  · intro l x ih m hl h1 h2 hv
    obtain ⟨m', y, rfl⟩ : ∃ m' y, m = m' ++ [y] := by
      have : m ≠ [] := fun e => by subst e; simp at hl
      exact ⟨m.dropLast, m.getLast this, (List.dropLast_concat_getLast this).symm⟩
    rw [val_snoc, val_snoc] at hv
    have a1 := h1 x (by simp)
    have a2 := h2 y (by simp)
    have e1 : x = y := by omega
    have e2 : val l = val m' := by omega
    subst e1
    rw [ih (by simpa using hl) (fun z hz => h1 z (List.mem_append_left _ hz)) (fun z hz => h2 z (List.mem_append_left _ hz)) e2]

/-! bits -/
theorem ofInt_toNat (n : Nat) (x : Int) (h0 : 0 ≤ x) (h1 : x < 2 ^ n) : (BitVec.ofInt n x).toNat = x.toNat := by
  rw [BitVec.toNat_ofInt]
  rw [show ((2 ^ n : Nat) : Int) = (2 : Int) ^ n by simp]
  rw [Int.emod_eq_of_lt h0 h1]
theorem wrap32 (x : BitVec 32) : IntKind.u32.wrap (x.toNat : Int) = (x.toNat : Int) := by
  have := x.isLt
  simp [IntKind.wrap, IntKind.signed, IntKind.bits]
  omega
theorem wrap8 (x : BitVec 8) : IntKind.u8.wrap (x.toNat : Int) = (x.toNat : Int) := by
  have := x.isLt
  simp [IntKind.wrap, IntKind.signed, IntKind.bits]
  omega
theorem wrap64u (x : BitVec 64) : IntKind.u64.wrap (x.toNat : Int) = (x.toNat : Int) := by
  have := x.isLt
  simp [IntKind.wrap, IntKind.signed, IntKind.bits]
  omega
theorem xor32 (x y : Int) : Go.bits .xor .u32 x y = (((BitVec.ofInt 32 x) ^^^ (BitVec.ofInt 32 y)).toNat : Int) := wrap32 _
theorem xor8 (x y : Int) : Go.bits .xor .u8 x y = (((BitVec.ofInt 8 x) ^^^ (BitVec.ofInt 8 y)).toNat : Int) := wrap8 _
theorem xor32_range (x y : Int) : 0 ≤ Go.bits .xor .u32 x y ∧ Go.bits .xor .u32 x y < 4294967296 := by
  rw [xor32]
  have := ((BitVec.ofInt 32 x) ^^^ (BitVec.ofInt 32 y)).isLt
  omega
theorem xor8_range (x y : Int) : 0 ≤ Go.bits .xor .u8 x y ∧ Go.bits .xor .u8 x y < 256 := by
  rw [xor8]
  have := ((BitVec.ofInt 8 x) ^^^ (BitVec.ofInt 8 y)).isLt
  omega
theorem bv_inj (n : Nat) {x y : Int} (hx : 0 ≤ x ∧ x < 2 ^ n) (hy : 0 ≤ y ∧ y < 2 ^ n) (h : BitVec.ofInt n x = BitVec.ofInt n y) : x = y := by
  have := congrArg BitVec.toNat h
  rw [ofInt_toNat n x hx.1 hx.2, ofInt_toNat n y hy.1 hy.2] at this
  omega
theorem xor_cancel {n : Nat} {a b c : BitVec n} (h : a ^^^ c = b ^^^ c) : a = b := by
  have := congrArg (· ^^^ c) h
  simpa [BitVec.xor_assoc] using this
theorem xor32_left {s t x : Int} (hs : 0 ≤ s ∧ s < 4294967296) (ht : 0 ≤ t ∧ t < 4294967296) (h : Go.bits .xor .u32 s x = Go.bits .xor .u32 t x) : s = t := by
  rw [xor32, xor32] at h
  exact bv_inj 32 hs ht (xor_cancel (c := BitVec.ofInt 32 x) (BitVec.eq_of_toNat_eq (by omega)))
theorem xor32_right {s x y : Int} (hx : 0 ≤ x ∧ x < 4294967296) (hy : 0 ≤ y ∧ y < 4294967296) (h : Go.bits .xor .u32 s x = Go.bits .xor .u32 s y) : x = y := by
  rw [xor32, xor32] at h
  refine bv_inj 32 hx hy (xor_cancel (c := BitVec.ofInt 32 s) (BitVec.eq_of_toNat_eq ?_))
  rw [BitVec.xor_comm, BitVec.xor_comm (BitVec.ofInt 32 y)]
  omega
theorem xor8_ne {s x : Int} (hs : 0 ≤ s ∧ s < 256) (hx : 0 < x ∧ x < 256) : Go.bits .xor .u8 s x ≠ s := by
  intro h
  rw [xor8] at h
  have h1 : (BitVec.ofInt 8 s ^^^ BitVec.ofInt 8 x) = BitVec.ofInt 8 s := by
    apply BitVec.eq_of_toNat_eq
    rw [ofInt_toNat 8 s hs.1 hs.2]
    omega
  have h2 : BitVec.ofInt 8 x ^^^ BitVec.ofInt 8 s = 0#8 ^^^ BitVec.ofInt 8 s := by
    rw [BitVec.xor_comm, h1]; simp
  have h3 := xor_cancel h2
  have := congrArg BitVec.toNat h3
  rw [ofInt_toNat 8 x (by omega) (by omega)] at this
  simp at this
  omega
theorem or64 {x b : Int} (hx : 0 ≤ x ∧ x < 72057594037927936) (hb : 0 ≤ b ∧ b < 256) : Go.bits .or .u64 (IntKind.u64.wrap (x * 256)) (IntKind.u64.wrap b) = x * 256 + b := by
  have w1 : IntKind.u64.wrap (x * 256) = x * 256 := by simp [IntKind.wrap, IntKind.signed, IntKind.bits]; omega
  have w2 : IntKind.u64.wrap b = b := by simp [IntKind.wrap, IntKind.signed, IntKind.bits]; omega
  rw [w1, w2]
  have h : Go.bits .or .u64 (x * 256) b = (((BitVec.ofInt 64 (x * 256)) ||| (BitVec.ofInt 64 b)).toNat : Int) := wrap64u _
  rw [h, BitVec.toNat_or, ofInt_toNat 64 _ (by omega) (by omega), ofInt_toNat 64 b (by omega) (by omega)]
  have e : (x * 256).toNat = x.toNat <<< 8 := by rw [Nat.shiftLeft_eq]; omega
  rw [e, ← Nat.shiftLeft_add_eq_or_of_lt (by omega), Nat.shiftLeft_eq]
  omega

/-! the sum -/
def step (s x : Int) : Int := (Go.bits .xor .u32 s (x % 4294967296) * 16777619) % 4294967296
def sumFrom (s : Int) (l : List Int) : Int := l.foldl step s
theorem step_range (s x : Int) : 0 ≤ step s x ∧ step s x < 4294967296 := by unfold step; omega
theorem mul_inj {a b : Int} (ha : 0 ≤ a ∧ a < 4294967296) (hb : 0 ≤ b ∧ b < 4294967296) (h : (a * 16777619) % 4294967296 = (b * 16777619) % 4294967296) : a = b := by
  have h1 : (a * 16777619 * 899433627) % 4294967296 = (b * 16777619 * 899433627) % 4294967296 := by rw [Int.mul_emod, h, ← Int.mul_emod]
  rw [show a * 16777619 * 899433627 = a + 4294967296 * (3513497 * a) by omega, show b * 16777619 * 899433627 = b + 4294967296 * (3513497 * b) by omega, Int.add_mul_emod_self_left, Int.add_mul_emod_self_left, Int.emod_eq_of_lt ha.1 ha.2, Int.emod_eq_of_lt hb.1 hb.2] at h1
  exact h1
theorem step_left {s t x : Int} (hs : 0 ≤ s ∧ s < 4294967296) (ht : 0 ≤ t ∧ t < 4294967296) (h : step s x = step t x) : s = t :=
  xor32_left hs ht (mul_inj (xor32_range _ _) (xor32_range _ _) h)
theorem step_right {s x y : Int} (hx : 0 ≤ x ∧ x < 256) (hy : 0 ≤ y ∧ y < 256) (h : step s x = step s y) : x = y := by
  have := xor32_right (s := s) (x := x % 4294967296) (y := y % 4294967296) (by omega) (by omega) (mul_inj (xor32_range _ _) (xor32_range _ _) h)
  omega
theorem sumFrom_range {s : Int} (hs : 0 ≤ s ∧ s < 4294967296) : ∀ l : List Int, 0 ≤ sumFrom s l ∧ sumFrom s l < 4294967296
  | [] => hs
  | x :: l => sumFrom_range (s := step s x) (step_range s x) l
theorem sumFrom_left : ∀ (l : List Int) {s t : Int}, (0 ≤ s ∧ s < 4294967296) → (0 ≤ t ∧ t < 4294967296) → sumFrom s l = sumFrom t l → s = t
  | [], _, _, _, _, h => h
  | x :: l, s, t, hs, ht, h => step_left hs ht (sumFrom_left l (step_range s x) (step_range t x) h)
/-- another byte, another sum -/
theorem sum_set {s : Int} (hs : 0 ≤ s ∧ s < 4294967296) (l : List Int) (hl : ∀ x ∈ l, 0 ≤ x ∧ x < 256) {i : Nat} (hi : i < l.length) {y : Int} (hy : 0 ≤ y ∧ y < 256) (hne : y ≠ l[i]) : sumFrom s (l.set i y) ≠ sumFrom s l := by
  intro h
  have e1 : l = l.take i ++ l[i] :: l.drop (i + 1) := by rw [← List.drop_eq_getElem_cons hi, List.take_append_drop]
  have e2 : l.set i y = l.take i ++ y :: l.drop (i + 1) := by rw [List.set_eq_take_append_cons_drop, if_pos hi]
  unfold sumFrom at h
  rw [e2] at h
  conv at h => rhs; rw [e1]
  rw [List.foldl_append, List.foldl_append, List.foldl_cons, List.foldl_cons] at h
  have h2 := sumFrom_left (l.drop (i + 1)) (step_range _ _) (step_range _ _) h
  exact hne (step_right hy (hl _ (List.getElem_mem _)) h2)

/-! a record -/
def own (k n : Int) : List Int := k :: big (n % 18446744073709551616) 8
def init : Int := 2166136261
def rec (k n : Int) : List Int := own k n ++ big (sumFrom init (own k n)) 4
theorem own_length (k n : Int) : (own k n).length = 9 := by simp [own, big_length]
theorem rec_length (k n : Int) : (rec k n).length = 13 := by simp [rec, own_length, big_length]
theorem init_range : 0 ≤ init ∧ init < 4294967296 := by decide
/-- which values are right -/
def Right (k n : Int) : Prop := (k = 0 ∧ n = 0) ∨ (k = 1 ∧ 0 ≤ n ∧ n ≤ 1) ∨ (k = 2 ∧ -2147483648 ≤ n ∧ n ≤ 2147483647) ∨ k = 3 ∨ (k = 4 ∧ 0 ≤ n ∧ n ≤ 299)
theorem right_kind {k n : Int} (h : Right k n) : 0 ≤ k ∧ k < 5 := by unfold Right at h; omega
theorem own_byte {k n : Int} (h : Right k n) : ∀ x ∈ own k n, 0 ≤ x ∧ x < 256 := by
  intro x hx
  rcases List.mem_cons.1 hx with rfl | hx
  · have := right_kind h; omega
  · exact big_byte hx
theorem rec_byte {k n : Int} (h : Right k n) : ∀ x ∈ rec k n, 0 ≤ x ∧ x < 256 := by
  intro x hx
  rcases List.mem_append.1 hx with hx | hx
  · exact own_byte h x hx
  · exact big_byte hx
theorem rec_take (k n : Int) : (rec k n).take 9 = own k n := by unfold rec; rw [List.take_left' (own_length k n)]
theorem rec_drop (k n : Int) : (rec k n).drop 9 = big (sumFrom init (own k n)) 4 := by unfold rec; rw [List.drop_left' (own_length k n)]
theorem rec_sum (k n : Int) : val ((rec k n).drop 9) = sumFrom init ((rec k n).take 9) := by
  rw [rec_take, rec_drop, val_big]
  · exact (sumFrom_range init_range _).1
  · exact (sumFrom_range init_range _).2
/-- one byte turned: the sum tells -/
theorem rec_turned {k n : Int} (h : Right k n) {i : Nat} (hi : i < (rec k n).length) {y : Int} (hy : 0 ≤ y ∧ y < 256) (hne : y ≠ (rec k n)[i]) : val (((rec k n).set i y).drop 9) ≠ sumFrom init (((rec k n).set i y).take 9) := by
  have hl := rec_length k n
  by_cases h9 : i < 9
  · rw [List.drop_set_of_lt h9, rec_sum, List.take_set]
    intro e
    have hlt : i < ((rec k n).take 9).length := by rw [List.length_take]; omega
    refine sum_set init_range ((rec k n).take 9) (fun x hx => rec_byte h x (List.mem_of_mem_take hx)) hlt hy ?_ e.symm
    rw [List.getElem_take]
    exact hne
  · rw [List.take_set_of_le (by omega), ← rec_sum]
    intro e
    have hd : ((rec k n).set i y).drop 9 = ((rec k n).drop 9).set (i - 9) y := by rw [List.drop_set, if_neg h9]
    rw [hd] at e
    have hlt : i - 9 < ((rec k n).drop 9).length := by rw [List.length_drop]; omega
    have he := val_inj (by simp) (fun x hx => by
      rcases List.mem_or_eq_of_mem_set hx with hx | rfl
      · exact rec_byte h x (List.mem_of_mem_drop hx)
      · exact hy) (fun x hx => rec_byte h x (List.mem_of_mem_drop hx)) e
    have h3 := congrArg (fun l => l[i - 9]?) he
    simp only [List.getElem?_set_self hlt, List.getElem?_drop, show 9 + (i - 9) = i by omega, List.getElem?_eq_getElem hi, Option.some.injEq] at h3
    exact hne h3
/-- back from the number to the value -/
theorem wrap_back (n : Int) (h : -9223372036854775808 ≤ n ∧ n ≤ 9223372036854775807) : IntKind.i64.wrap (n % 18446744073709551616) = n := by
  simp [IntKind.wrap, IntKind.signed, IntKind.bits]
  split <;> omega
end Go.Proofs.Ytaeamehngbfneab.Sp
