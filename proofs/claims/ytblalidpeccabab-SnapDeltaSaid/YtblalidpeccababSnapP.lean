/- Deltas: the plain side. -/
import Derived.Test.YtblalidpeccababPSnapDeltax1
namespace Go.Proofs.Ytblalidpeccabab.Sn
open Go Go.RowKit Go.Proofs.YtblalidpeccababW.PrintWords Go.Proofs.Ytblalidpeccabab.PSnapDelta
set_option linter.unusedVariables false
set_option linter.unusedSimpArgs false

def pickD (a b : List Int) (i : Nat) : Option S60 := if b.getD i 0 = a.getD i 0 then none else some ⟨(i : Int), b.getD i 0⟩
def deltaF (a b : List Int) : List S60 := (List.range b.length).filterMap (pickD a b)
theorem wrap_id {x : Int} (h0 : -9223372036854775808 ≤ x) (h1 : x ≤ 9223372036854775807) : wrap64 x = x := by
  unfold wrap64; omega
theorem delta_l0 (a b : List Int) (ha : a.length ≤ 100000) (hb : b.length ≤ 100000) : ∀ m q acc, b.length - q = m → q ≤ b.length → acc.length ≤ q → snap_Delta.l0 (m + 1) a acc b (b.length : Int) (q : Int) = some (acc ++ ((List.range b.length).drop q).filterMap (pickD a b))
  | 0, q, acc, hm, hq, hl => by
    have e : q = b.length := by omega
    subst e
    rw [snap_Delta.l0, if_neg (by omega), List.drop_eq_nil_of_le (by simp)]
    simp
  | m + 1, q, acc, hm, hq, hl => by
    have hlt : q < b.length := by omega
    have hd : (List.range b.length).drop q = q :: (List.range b.length).drop (q + 1) := by
      rw [List.drop_eq_getElem_cons (by simpa using hlt)]; simp
    have hrb : rd b (q : Int) = b.getD q 0 := rfl
    have hra : rd a (q : Int) = a.getD q 0 := rfl
    rw [snap_Delta.l0, if_pos (by omega), if_pos (by omega), if_pos (by omega), hrb, hra, wrap_id (by omega) (by omega), show ((q : Int) + 1) = ((q + 1 : Nat) : Int) by omega, hd, List.filterMap_cons]
    have ih1 := delta_l0 a b ha hb m (q + 1) acc (by omega) (by omega) (by omega)
    have ih2 := delta_l0 a b ha hb m (q + 1) (acc ++ [⟨(q : Int), b.getD q 0⟩]) (by omega) (by omega) (by simp; omega)
    by_cases hqa : (q : Int) < (a.length : Int)
    · rw [if_pos hqa]
      by_cases he : b.getD q 0 = a.getD q 0
      · rw [if_pos he, ih1]
        have : pickD a b q = none := by unfold pickD; rw [if_pos he]
        rw [this]
      · rw [if_neg he, if_pos (by omega), ih2]
        have : pickD a b q = some ⟨(q : Int), b.getD q 0⟩ := by unfold pickD; rw [if_neg he]
        rw [this, List.append_assoc]; rfl
    · rw [if_neg hqa]
      have ha0 : a.getD q 0 = 0 := by simp [List.getD_eq_getElem?_getD, show a.length ≤ q by omega]
      by_cases he : b.getD q 0 = 0
      · rw [if_pos he, ih1]
        have : pickD a b q = none := by unfold pickD; rw [if_pos (by rw [he, ha0])]
        rw [this]
      · rw [if_neg he, if_pos (by omega), ih2]
        have : pickD a b q = some ⟨(q : Int), b.getD q 0⟩ := by unfold pickD; rw [if_neg (by rw [ha0]; exact he)]
        rw [this, List.append_assoc]; rfl
theorem delta_f (a b : List Int) (ha : a.length ≤ 100000) (hb : b.length ≤ 100000) : snap_Delta.f (b.length - 0 + 1) a b = some (deltaF a b) := by
  have := delta_l0 a b ha hb (b.length - 0) 0 [] rfl (by omega) (by simp)
  rw [List.drop_zero, List.nil_append] at this
  exact this
theorem mem_delta {a b : List Int} {p : S60} : p ∈ deltaF a b ↔ ∃ i, i < b.length ∧ b.getD i 0 ≠ a.getD i 0 ∧ p = ⟨(i : Int), b.getD i 0⟩ := by
  unfold deltaF pickD
  rw [List.mem_filterMap]
  constructor
  · rintro ⟨i, hi, h⟩
    split at h
    · cases h
    · exact ⟨i, List.mem_range.1 hi, by assumption, (Option.some.inj h).symm⟩
  · rintro ⟨i, hi, h, rfl⟩
    exact ⟨i, List.mem_range.2 hi, by rw [if_neg h]⟩
theorem delta_sorted (a b : List Int) : (deltaF a b).Pairwise (fun p q => p.f0 < q.f0) := by
  unfold deltaF
  refine List.Pairwise.filterMap (pickD a b) (R := fun i j : Nat => i < j) (fun i j hij p hp q hq => ?_) List.pairwise_lt_range
  unfold pickD at hp hq
  split at hp
  · cases hp
  · split at hq
    · cases hq
    · cases hp; cases hq
      show (i : Int) < (j : Int)
      omega
theorem delta_length (a b : List Int) : (deltaF a b).length ≤ b.length := by
  have := List.length_filterMap_le (pickD a b) (List.range b.length)
  rwa [List.length_range] at this
theorem delta_self (b : List Int) : deltaF b b = [] := by
  refine List.eq_nil_iff_forall_not_mem.2 (fun p hp => ?_)
  obtain ⟨i, _, h, _⟩ := mem_delta.1 hp
  exact h rfl

/-- what lies there before the patches -/
def base (n : Nat) (a : List Int) : List Int := (List.range n).map (fun i => a.getD i 0)
theorem base_length (n : Nat) (a : List Int) : (base n a).length = n := by simp [base]
theorem base_get {n : Nat} {a : List Int} {j : Nat} (h : j < n) : (base n a)[j]? = some (a.getD j 0) := by simp [base, h]
def putD (out : List Int) (p : S60) : List Int := out.set p.f0.toNat p.f1
def patchF (n : Nat) (a : List Int) (l : List S60) : List Int := l.foldl putD (base n a)
theorem fold_length : ∀ (l : List S60) (out : List Int), (l.foldl putD out).length = out.length
  | [], out => rfl
  | p :: l, out => by rw [List.foldl_cons, fold_length l]; unfold putD; rw [List.length_set]
theorem patch_length (n : Nat) (a : List Int) (l : List S60) : (patchF n a l).length = n := by unfold patchF; rw [fold_length, base_length]
theorem fold_other : ∀ (l : List S60) (out : List Int) (j : Nat), (∀ p ∈ l, p.f0.toNat ≠ j) → (l.foldl putD out)[j]? = out[j]?
  | [], out, j, _ => rfl
  | p :: l, out, j, h => by
    rw [List.foldl_cons, fold_other l _ j (fun q hq => h q (List.mem_cons_of_mem _ hq))]
    unfold putD
    rw [List.getElem?_set_ne (h p List.mem_cons_self)]
theorem fold_hit {l : List S60} (hs : l.Pairwise (fun p q => p.f0 < q.f0)) (h0 : ∀ p ∈ l, 0 ≤ p.f0) {p : S60} (hp : p ∈ l) {out : List Int} (hj : p.f0.toNat < out.length) : (l.foldl putD out)[p.f0.toNat]? = some p.f1 := by
  obtain ⟨l1, l2, rfl⟩ := List.append_of_mem hp
  rw [List.foldl_append, List.foldl_cons, fold_other]
  · show ((l1.foldl putD out).set p.f0.toNat p.f1)[p.f0.toNat]? = some p.f1
    rw [List.getElem?_set_self (by rw [fold_length]; exact hj)]
  · intro q hq e
    have h1 := (List.pairwise_cons.1 (List.pairwise_append.1 hs).2.1).1 q hq
    have h2 := h0 p hp
    have h3 := h0 q (by simp [hq])
    omega
theorem patch_delta (a b : List Int) : patchF b.length a (deltaF a b) = b := by
  apply List.ext_getElem?
  intro j
  by_cases hj : j < b.length
  · by_cases h : b.getD j 0 = a.getD j 0
    · unfold patchF
      rw [fold_other, base_get hj, ← h]
      · simp [List.getD_eq_getElem?_getD, hj]
      · intro p hp e
        obtain ⟨i, _, h2, rfl⟩ := mem_delta.1 hp
        obtain rfl : i = j := by simpa using e
        exact h2 h
    · have hp : (⟨(j : Int), b.getD j 0⟩ : S60) ∈ deltaF a b := mem_delta.2 ⟨j, hj, h, rfl⟩
      have := fold_hit (delta_sorted a b) (fun q hq => by obtain ⟨i, _, _, rfl⟩ := mem_delta.1 hq; exact Int.natCast_nonneg i) hp (out := base b.length a) (by rw [base_length]; simpa using hj)
      rw [show ((⟨(j : Int), b.getD j 0⟩ : S60).f0).toNat = j from by simp] at this
      unfold patchF
      rw [this]
      simp [List.getD_eq_getElem?_getD, hj]
  · rw [List.getElem?_eq_none (by rw [patch_length]; omega), List.getElem?_eq_none (by omega)]
/-- what Patched takes -/
def Fit (n : Nat) (l : List S60) : Prop := l.Pairwise (fun p q => p.f0 < q.f0) ∧ ∀ p ∈ l, 0 ≤ p.f0 ∧ p.f0 < (n : Int)
theorem delta_fit (a b : List Int) : Fit b.length (deltaF a b) := ⟨delta_sorted a b, fun p hp => by obtain ⟨i, hi, _, rfl⟩ := mem_delta.1 hp; simp; exact hi⟩
def without (l : List S60) (i : Nat) : List S60 := l.take i ++ l.drop (i + 1)
theorem without_sub (l : List S60) (i : Nat) : (without l i).Sublist l := by
  have h : (l.take i ++ l.drop (i + 1)).Sublist (l.take i ++ l.drop i) := List.Sublist.append_left (by
    rw [← List.drop_drop (i := 1) (j := i)]
    exact List.drop_sublist _ _) _
  rwa [List.take_append_drop] at h
theorem without_fit {n : Nat} {l : List S60} (h : Fit n l) (i : Nat) : Fit n (without l i) := ⟨h.1.sublist (without_sub l i), fun p hp => h.2 p ((without_sub l i).subset hp)⟩
theorem without_ne (a b : List Int) {i : Nat} (hi : i < (deltaF a b).length) : patchF b.length a (without (deltaF a b) i) ≠ b := by
  intro he
  obtain ⟨j, hj, hne, hp⟩ := mem_delta.1 (List.getElem_mem hi)
  have hs := delta_sorted a b
  have hpos : ∀ q ∈ deltaF a b, 0 ≤ q.f0 := fun q hq => by obtain ⟨k, _, _, rfl⟩ := mem_delta.1 hq; exact Int.natCast_nonneg k
  have key : ∀ q ∈ without (deltaF a b) i, q.f0.toNat ≠ j := by
    intro q hq e
    have hq0 := hpos q ((without_sub _ i).subset hq)
    have hf : q.f0 = (deltaF a b)[i].f0 := by rw [hp]; show q.f0 = (j : Int); omega
    rcases List.mem_append.1 hq with h | h
    · obtain ⟨k, hk, rfl⟩ := List.getElem_of_mem h
      rw [List.length_take] at hk
      have := List.pairwise_iff_getElem.1 hs k i (by omega) hi (by omega)
      rw [List.getElem_take] at hf
      omega
    · obtain ⟨k, hk, rfl⟩ := List.getElem_of_mem h
      rw [List.length_drop] at hk
      have := List.pairwise_iff_getElem.1 hs i (i + 1 + k) hi (by omega) (by omega)
      rw [List.getElem_drop] at hf
      omega
  have h1 := fold_other (without (deltaF a b) i) (base b.length a) j key
  have h2 : (patchF b.length a (without (deltaF a b) i))[j]? = some (a.getD j 0) := by unfold patchF; rw [h1, base_get hj]
  rw [he] at h2
  apply hne
  rw [List.getD_eq_getElem?_getD, h2]
  rfl
end Go.Proofs.Ytblalidpeccabab.Sn
