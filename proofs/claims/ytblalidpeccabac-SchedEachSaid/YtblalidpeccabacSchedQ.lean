/- Interleavings and their numbers, in plain words: how many there are; the number of one; the one of a number. -/
import Derived.Test.YtblalidpeccabacSchedD
namespace Go.Proofs.Ytblalidpeccabac.Sd
open Go Go.RowKit Go.Lib Go.Proofs.YtblalidpeccabacW.PrintWords Go.Proofs.YtblalidpeccabacW.PrintLast Go.Proofs.YtblalidpeccabacW.PrintMore Go.Proofs.Ytblalidpeccabac.PSchedBack
set_option linter.unusedVariables false
set_option linter.unusedSimpArgs false

def fct : Nat → Nat
  | 0 => 1
  | n + 1 => (n + 1) * fct n
theorem fct_pos : ∀ n, 0 < fct n
  | 0 => by decide
  | n + 1 => Nat.mul_pos (by omega) (fct_pos n)
theorem fct_le : ∀ {n m : Nat}, n ≤ m → fct n ≤ fct m := by
  intro n m h
  induction h with
  | refl => exact Nat.le_refl _
  | step _ ih => exact Nat.le_trans ih (Nat.le_mul_of_pos_left _ (by omega))
/-- n over k -/
def bin : Nat → Nat → Nat
  | _, 0 => 1
  | 0, _ + 1 => 0
  | n + 1, k + 1 => bin n k + bin n (k + 1)
theorem bin_zero (n : Nat) : bin n 0 = 1 := by cases n <;> rfl
theorem bin_abs : ∀ n k, (k + 1) * bin (n + 1) (k + 1) = (n + 1) * bin n k
  | 0, 0 => rfl
  | 0, k + 1 => by simp [bin]
  | n + 1, 0 => by
    have h := bin_abs n 0
    simp only [bin, bin_zero] at h ⊢
    omega
  | n + 1, k + 1 => by
    have h1 := bin_abs n k
    have h2 := bin_abs n (k + 1)
    show (k + 1 + 1) * (bin (n + 1) (k + 1) + bin (n + 1) (k + 1 + 1)) = (n + 1 + 1) * bin (n + 1) (k + 1)
    have e : bin (n + 1) (k + 1) = bin n k + bin n (k + 1) := rfl
    rw [Nat.mul_add, h2, Nat.add_mul (k + 1) 1, h1, Nat.add_mul (n + 1) 1]
    have e2 : (n + 1) * bin (n + 1) (k + 1) = (n + 1) * bin n k + (n + 1) * bin n (k + 1) := by rw [e, Nat.mul_add]
    omega
theorem bin_fct (S : Nat) : ∀ n, bin (S + n) n * (fct n * fct S) = fct (S + n)
  | 0 => by rw [bin_zero]; simp [fct]
  | n + 1 => by
    show bin (S + n + 1) (n + 1) * ((n + 1) * fct n * fct S) = (S + n + 1) * fct (S + n)
    rw [← bin_fct S n, ← Nat.mul_assoc (S + n + 1), ← bin_abs (S + n) n]
    ac_rfl
/-- how many interleavings there are -/
def cnt : Nat → List Nat → Nat
  | _, [] => 1
  | S, n :: p => bin (S + n) n * cnt (S + n) p
def pf (p : List Nat) : Nat := (p.map fct).foldr (· * ·) 1
theorem pf_nil : pf [] = 1 := rfl
theorem pf_cons (n : Nat) (p : List Nat) : pf (n :: p) = fct n * pf p := rfl
theorem pf_pos : ∀ p, 0 < pf p
  | [] => by decide
  | n :: p => Nat.mul_pos (fct_pos n) (pf_pos p)
theorem cnt_pf : ∀ p S, cnt S p * (pf p * fct S) = fct (S + p.sum)
  | [], S => by simp [cnt, pf_nil]
  | n :: p, S => by
    rw [List.sum_cons, ← Nat.add_assoc, ← cnt_pf p (S + n), ← bin_fct S n, pf_cons]
    show bin (S + n) n * cnt (S + n) p * _ = _
    ac_rfl
abbrev M (p : List Nat) : Nat := cnt 0 p
theorem M_pf (p : List Nat) : M p * pf p = fct p.sum := by
  have := cnt_pf p 0
  simpa [fct] using this
theorem M_le (p : List Nat) : M p ≤ fct p.sum := by rw [← M_pf]; exact Nat.le_mul_of_pos_right _ (pf_pos p)
theorem M_zero (p : List Nat) (h : p.sum = 0) : M p = 1 := by
  have h1 := M_pf p
  rw [h] at h1
  exact Nat.eq_one_of_mul_eq_one_right h1
/-- one step less of thread i -/
def dec (p : List Nat) (i : Nat) : List Nat := p.set i (p.getD i 0 - 1)
theorem dec_length (p : List Nat) (i : Nat) : (dec p i).length = p.length := List.length_set ..
theorem dec_succ (n : Nat) (p : List Nat) (i : Nat) : dec (n :: p) (i + 1) = n :: dec p i := rfl
theorem dec_sum : ∀ (p : List Nat) (i : Nat), 0 < p.getD i 0 → (dec p i).sum + 1 = p.sum
  | [], i, h => by simp at h
  | n :: p, 0, h => by
    show ((n - 1) :: p).sum + 1 = (n :: p).sum
    have h2 : 0 < n := h
    rw [List.sum_cons, List.sum_cons]
    omega
  | n :: p, i + 1, h => by
    have := dec_sum p i h
    rw [dec_succ, List.sum_cons, List.sum_cons]
    omega
theorem dec_pf : ∀ (p : List Nat) (i : Nat), 0 < p.getD i 0 → pf p = pf (dec p i) * p.getD i 0
  | [], i, h => by simp at h
  | n :: p, 0, h => by
    show fct n * pf p = fct (n - 1) * pf p * n
    have h2 : 0 < n := h
    obtain ⟨m, rfl⟩ : ∃ m, n = m + 1 := ⟨n - 1, by omega⟩
    show (m + 1) * fct m * pf p = fct m * pf p * (m + 1)
    ac_rfl
  | n :: p, i + 1, h => by
    have e := dec_pf p i h
    rw [dec_succ, pf_cons, pf_cons, e]
    show _ = _ * p.getD i 0
    ac_rfl
/-- how many begin with a step of thread i -/
def W (p : List Nat) (i : Nat) : Nat := if p.getD i 0 = 0 then 0 else M (dec p i)
/-- how many begin with a step of a thread ahead of i -/
def SW (p : List Nat) : Nat → Nat
  | 0 => 0
  | i + 1 => SW p i + W p i
theorem SW_le (p : List Nat) {i j : Nat} (h : i ≤ j) : SW p i ≤ SW p j := by
  induction h with
  | refl => exact Nat.le_refl _
  | step _ ih => exact Nat.le_trans ih (Nat.le_add_right _ _)
theorem W_pf (p : List Nat) (T i : Nat) (hT : p.sum = T + 1) : W p i * pf p = fct T * p.getD i 0 := by
  unfold W
  by_cases h : p.getD i 0 = 0
  · rw [if_pos h, h]; simp
  · rw [if_neg h, dec_pf p i (by omega), ← Nat.mul_assoc, M_pf]
    have := dec_sum p i (by omega)
    rw [show (dec p i).sum = T by omega]
theorem sum_take (p : List Nat) (k : Nat) (hk : k < p.length) : (p.take (k + 1)).sum = (p.take k).sum + p.getD k 0 := by
  rw [List.take_succ_eq_append_getElem hk, List.sum_append, List.getD_eq_getElem?_getD, List.getElem?_eq_getElem hk]
  simp
theorem SW_pf (p : List Nat) (T : Nat) (hT : p.sum = T + 1) : ∀ k, k ≤ p.length → SW p k * pf p = fct T * (p.take k).sum
  | 0, _ => by simp [SW]
  | k + 1, hk => by
    rw [sum_take p k hk, Nat.mul_add, ← SW_pf p T hT k (by omega), ← W_pf p T k hT, ← Nat.add_mul]
    rfl
theorem SW_all (p : List Nat) (h : 0 < p.sum) : SW p p.length = M p := by
  obtain ⟨T, hT⟩ : ∃ T, p.sum = T + 1 := ⟨p.sum - 1, by omega⟩
  have h1 := SW_pf p T hT p.length (Nat.le_refl _)
  rw [List.take_length, hT] at h1
  have h2 := M_pf p
  rw [hT] at h2
  have h3 : SW p p.length * pf p = M p * pf p := by
    rw [h1, h2]
    show fct T * (T + 1) = (T + 1) * fct T
    exact Nat.mul_comm _ _
  exact Nat.eq_of_mul_eq_mul_right (pf_pos p) h3
/-- the number of an interleaving; none: it is no whole one -/
def rk (p : List Nat) : List Nat → Option Nat
  | [] => if p.sum = 0 then some 0 else none
  | k :: q => if k < p.length ∧ p.getD k 0 ≠ 0 then (rk (dec p k) q).map (SW p k + ·) else none
theorem rk_cons {p : List Nat} {k : Nat} {q : List Nat} {n : Nat} (h : rk p (k :: q) = some n) : k < p.length ∧ p.getD k 0 ≠ 0 ∧ ∃ r, rk (dec p k) q = some r ∧ n = SW p k + r := by
  unfold rk at h
  by_cases hc : k < p.length ∧ p.getD k 0 ≠ 0
  · rw [if_pos hc] at h
    obtain ⟨r, h1, h2⟩ := Option.map_eq_some_iff.1 h
    exact ⟨hc.1, hc.2, r, h1, h2.symm⟩
  · rw [if_neg hc] at h; cases h
theorem rk_nil {p : List Nat} {n : Nat} (h : rk p [] = some n) : p.sum = 0 ∧ n = 0 := by
  unfold rk at h
  by_cases hc : p.sum = 0
  · rw [if_pos hc] at h; exact ⟨hc, (Option.some.inj h).symm⟩
  · rw [if_neg hc] at h; cases h
theorem getD_le_sum : ∀ (p : List Nat) (k : Nat), p.getD k 0 ≤ p.sum
  | [], k => by simp
  | n :: p, 0 => by rw [List.sum_cons]; exact Nat.le_add_right _ _
  | n :: p, k + 1 => by rw [List.sum_cons]; exact Nat.le_trans (getD_le_sum p k) (Nat.le_add_left _ _)
theorem rk_lt : ∀ (q p : List Nat) (n : Nat), rk p q = some n → n < M p ∧ q.length = p.sum
  | [], p, n, h => by
    obtain ⟨h1, h2⟩ := rk_nil h
    rw [M_zero p h1, h1, h2]
    exact ⟨by decide, rfl⟩
  | k :: q, p, n, h => by
    obtain ⟨h1, h2, r, h3, rfl⟩ := rk_cons h
    obtain ⟨h4, h5⟩ := rk_lt q _ r h3
    have hs := dec_sum p k (by omega)
    have h6 : SW p (k + 1) ≤ M p := by rw [← SW_all p (by omega)]; exact SW_le p h1
    have h7 : SW p (k + 1) = SW p k + M (dec p k) := by show SW p k + W p k = _; unfold W; rw [if_neg h2]
    exact ⟨by omega, by rw [List.length_cons]; omega⟩
theorem rk_W {p : List Nat} {k : Nat} {q : List Nat} {r : Nat} (h2 : p.getD k 0 ≠ 0) (h3 : rk (dec p k) q = some r) : SW p k + r < SW p (k + 1) := by
  have h4 := (rk_lt q _ r h3).1
  have h7 : SW p (k + 1) = SW p k + M (dec p k) := by show SW p k + W p k = _; unfold W; rw [if_neg h2]
  omega
/-- a greater number's one stands behind, in the order of dictionaries -/
theorem rk_rise : ∀ (q q' p : List Nat) (n m : Nat), rk p q = some n → rk p q' = some m → n < m → ∃ i, i < q.length ∧ q.length = q'.length ∧ (∀ j, j < i → q.getD j 0 = q'.getD j 0) ∧ q.getD i 0 < q'.getD i 0
  | [], q', p, n, m, h, h', hlt => by
    obtain ⟨h1, rfl⟩ := rk_nil h
    have h2 := (rk_lt q' p m h').1
    rw [M_zero p h1] at h2
    omega
  | k :: q, [], p, n, m, h, h', hlt => by
    obtain ⟨_, rfl⟩ := rk_nil h'
    omega
  | k :: q, k' :: q', p, n, m, h, h', hlt => by
    have hl : (k :: q).length = (k' :: q').length := (rk_lt _ p n h).2.trans (rk_lt _ p m h').2.symm
    obtain ⟨h1, h2, r, h3, rfl⟩ := rk_cons h
    obtain ⟨h1', h2', r', h3', rfl⟩ := rk_cons h'
    rcases Nat.lt_trichotomy k k' with hk | hk | hk
    · exact ⟨0, by simp, hl, fun j hj => absurd hj (by omega), hk⟩
    · subst hk
      obtain ⟨i, hi, _, h6, h7⟩ := rk_rise q q' _ r r' h3 h3' (by omega)
      refine ⟨i + 1, by rw [List.length_cons]; omega, hl, fun j hj => ?_, h7⟩
      match j, hj with
      | 0, _ => rfl
      | j + 1, hj => exact h6 j (by omega)
    · have := rk_W h2' h3'
      have := SW_le p (show k' + 1 ≤ k by omega)
      omega
theorem rk_inj : ∀ (q q' p : List Nat) (n : Nat), rk p q = some n → rk p q' = some n → q = q'
  | [], q', p, n, h, h' => by
    have h1 := (rk_lt q' p n h').2
    rw [(rk_nil h).1] at h1
    exact (List.length_eq_zero_iff.1 h1).symm
  | k :: q, [], p, n, h, h' => by
    have h1 := (rk_lt _ p n h).2
    rw [(rk_nil h').1] at h1
    simp at h1
  | k :: q, k' :: q', p, n, h, h' => by
    obtain ⟨h1, h2, r, h3, rfl⟩ := rk_cons h
    obtain ⟨h1', h2', r', h3', h4'⟩ := rk_cons h'
    rcases Nat.lt_trichotomy k k' with hk | hk | hk
    · have := rk_W h2 h3
      have := SW_le p (show k + 1 ≤ k' by omega)
      omega
    · subst hk
      obtain rfl : r = r' := by omega
      rw [rk_inj q q' _ r h3 h3']
    · have := rk_W h2' h3'
      have := SW_le p (show k' + 1 ≤ k by omega)
      omega
end Go.Proofs.Ytblalidpeccabac.Sd
