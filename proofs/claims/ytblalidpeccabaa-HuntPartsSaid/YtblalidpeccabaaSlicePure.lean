/- What hangs on what: the plain side (numbers and lists alone, no program). -/
import Derived.Laws.Entries
namespace Go.Proofs.Ytblalidpeccabaa.Sc
open Go
set_option linter.unusedVariables false
set_option linter.unusedSimpArgs false

/-- what place k uses -/
def use (xss : List (List Int)) (k : Nat) : List Int := xss.getD k []
def Form (xss : List (List Int)) : Prop := ∀ k, k < xss.length → ∀ n ∈ use xss k, 0 ≤ n ∧ n < (k : Int)
theorem use_out {xss : List (List Int)} {k : Nat} (h : xss.length ≤ k) : use xss k = [] := by simp [use, List.getD_eq_getElem?_getD, h]
theorem Form.lt {xss : List (List Int)} (h : Form xss) {k j : Nat} (hj : (j : Int) ∈ use xss k) : j < k ∧ k < xss.length := by
  by_cases hk : k < xss.length
  · have := h k hk _ hj
    omega
  · rw [use_out (by omega)] at hj
    simp at hj
inductive Reach (xss : List (List Int)) (i : Nat) : Nat → Prop
  | refl : Reach xss i i
  | step {k j : Nat} : Reach xss i k → (j : Int) ∈ use xss k → Reach xss i j
theorem Reach.le {xss : List (List Int)} (h : Form xss) {i j : Nat} (hr : Reach xss i j) : j ≤ i := by
  induction hr with
  | refl => exact Nat.le_refl _
  | step _ hj ih => have := (h.lt hj).1; omega
theorem Reach.trans {xss : List (List Int)} {i k j : Nat} (h1 : Reach xss i k) (h2 : Reach xss k j) : Reach xss i j := by
  induction h2 with
  | refl => exact h1
  | step _ hj ih => exact .step ih hj
theorem reach_last {xss : List (List Int)} {i j : Nat} : Reach xss i j ↔ j = i ∨ ∃ m, Reach xss i m ∧ (j : Int) ∈ use xss m := by
  constructor
  · intro h
    cases h with
    | refl => exact .inl rfl
    | step h hj => exact .inr ⟨_, h, hj⟩
  · rintro (rfl | ⟨m, h, hj⟩)
    · exact .refl
    · exact .step h hj
theorem reach_first {xss : List (List Int)} {i j : Nat} : Reach xss i j ↔ j = i ∨ ∃ m : Nat, (m : Int) ∈ use xss i ∧ Reach xss m j := by
  constructor
  · intro h
    induction h with
    | refl => exact .inl rfl
    | step h hj ih =>
      rcases ih with rfl | ⟨m, h1, h2⟩
      · exact .inr ⟨_, hj, .refl⟩
      · exact .inr ⟨m, h1, .step h2 hj⟩
  · rintro (rfl | ⟨m, h1, h2⟩)
    · exact .refl
    · exact Reach.trans (.step .refl h1) h2

/-! back -/
def mark (inn : List Bool) (us : List Int) : List Bool := us.foldl (fun s n => s.set n.toNat true) inn
theorem mark_length (us : List Int) : ∀ inn : List Bool, (mark inn us).length = inn.length := by
  induction us with
  | nil => intro inn; rfl
  | cons n us ih => intro inn; show (mark (inn.set n.toNat true) us).length = _; rw [ih, List.length_set]
theorem mark_get (us : List Int) : ∀ (inn : List Bool) (j : Nat), (∀ n ∈ us, 0 ≤ n ∧ n < inn.length) → ((mark inn us).getD j false = true ↔ inn.getD j false = true ∨ (j : Int) ∈ us) := by
  induction us with
  | nil => intro inn j _; simp [mark]
  | cons n us ih =>
    intro inn j h
    have hn := h n (List.mem_cons_self ..)
    show (mark (inn.set n.toNat true) us).getD j false = true ↔ _
    rw [ih _ j (fun q hq => by rw [List.length_set]; exact h q (List.mem_cons_of_mem _ hq))]
    simp only [List.getD_eq_getElem?_getD, List.getElem?_set, List.mem_cons]
    by_cases hj : n.toNat = j
    · have hjl : j < inn.length := by omega
      rw [if_pos hj, if_pos (by omega)]
      simp only [Option.getD_some, true_or, true_iff]
      exact .inr (.inl (by omega))
    · rw [if_neg hj]
      constructor
      · rintro (h | h)
        · exact .inl h
        · exact .inr (.inr h)
      · rintro (h | h | h)
        · exact .inl h
        · exact absurd (by omega) hj
        · exact .inr h
/-- places k-1 .. 0 are gone through -/
def backL (xss : List (List Int)) : Nat → List Bool → List Bool
  | 0, inn => inn
  | k + 1, inn => backL xss k (if inn.getD k false = true then mark inn (use xss k) else inn)
def backF (xss : List (List Int)) (i : Nat) : List Bool := backL xss (i + 1) ((List.replicate xss.length false).set i true)
def BackInv (xss : List (List Int)) (i k : Nat) (inn : List Bool) : Prop :=
  inn.length = xss.length ∧ ∀ j, inn.getD j false = true ↔ (j = i ∨ ∃ m, k ≤ m ∧ Reach xss i m ∧ (j : Int) ∈ use xss m)
theorem back_inv_step {xss : List (List Int)} (hf : Form xss) {i k : Nat} (hk : k ≤ i) (hi : i < xss.length) {inn : List Bool} (h : BackInv xss i (k + 1) inn) :
    BackInv xss i k (if inn.getD k false = true then mark inn (use xss k) else inn) := by
  have hkr : inn.getD k false = true ↔ Reach xss i k := by
    rw [h.2 k, reach_last]
    constructor
    · rintro (h | ⟨m, _, h1, h2⟩)
      · exact .inl h
      · exact .inr ⟨m, h1, h2⟩
    · rintro (h | ⟨m, h1, h2⟩)
      · exact .inl h
      · exact .inr ⟨m, (hf.lt h2).1, h1, h2⟩
  by_cases hin : inn.getD k false = true
  · rw [if_pos hin]
    refine ⟨by rw [mark_length]; exact h.1, fun j => ?_⟩
    rw [mark_get _ _ _ (fun n hn => by have := hf k (by omega) n hn; rw [h.1]; omega), h.2 j]
    constructor
    · rintro ((h | ⟨m, h1, h2⟩) | h)
      · exact .inl h
      · exact .inr ⟨m, by omega, h2⟩
      · exact .inr ⟨k, Nat.le_refl _, hkr.1 hin, h⟩
    · rintro (h | ⟨m, h1, h2, h3⟩)
      · exact .inl (.inl h)
      · by_cases hm : m = k
        · subst hm; exact .inr h3
        · exact .inl (.inr ⟨m, by omega, h2, h3⟩)
  · rw [if_neg hin]
    refine ⟨h.1, fun j => ?_⟩
    rw [h.2 j]
    constructor
    · rintro (h | ⟨m, h1, h2⟩)
      · exact .inl h
      · exact .inr ⟨m, by omega, h2⟩
    · rintro (h | ⟨m, h1, h2, h3⟩)
      · exact .inl h
      · by_cases hm : m = k
        · subst hm; exact absurd (hkr.2 h2) hin
        · exact .inr ⟨m, by omega, h2, h3⟩
theorem backL_inv {xss : List (List Int)} (hf : Form xss) {i : Nat} (hi : i < xss.length) : ∀ (k : Nat) (inn : List Bool), k ≤ i + 1 → BackInv xss i k inn → BackInv xss i 0 (backL xss k inn)
  | 0, inn, _, h => h
  | k + 1, inn, hk, h => backL_inv hf hi k _ (by omega) (back_inv_step hf (by omega) hi h)
theorem back_start {xss : List (List Int)} (hf : Form xss) {i : Nat} (hi : i < xss.length) : BackInv xss i (i + 1) ((List.replicate xss.length false).set i true) := by
  refine ⟨by simp, fun j => ?_⟩
  simp only [List.getD_eq_getElem?_getD, List.getElem?_set, List.length_replicate]
  by_cases hj : i = j
  · subst hj
    rw [if_pos rfl, if_pos hi]
    simp
  · rw [if_neg hj]
    constructor
    · intro h
      by_cases hjl : j < xss.length
      · simp [List.getElem?_replicate, hjl] at h
      · simp [List.getElem?_replicate, hjl] at h
    · rintro (h | ⟨m, h1, h2, h3⟩)
      · exact absurd h.symm hj
      · have := h2.le hf
        omega
theorem backF_get {xss : List (List Int)} (hf : Form xss) {i : Nat} (hi : i < xss.length) (j : Nat) : (backF xss i).getD j false = true ↔ Reach xss i j := by
  unfold backF
  rw [(backL_inv hf hi (i + 1) _ (Nat.le_refl _) (back_start hf hi)).2 j, reach_last]
  constructor
  · rintro (h | ⟨m, _, h⟩)
    · exact .inl h
    · exact .inr ⟨m, h⟩
  · rintro (h | ⟨m, h⟩)
    · exact .inl h
    · exact .inr ⟨m, Nat.zero_le _, h⟩
theorem backF_length {xss : List (List Int)} (hf : Form xss) {i : Nat} (hi : i < xss.length) : (backF xss i).length = xss.length := (backL_inv hf hi (i + 1) _ (Nat.le_refl _) (back_start hf hi)).1

/-! on -/
def anyIn (inn : List Bool) (us : List Int) : Bool := us.any fun n => inn.getD n.toNat false
def onL (xss : List (List Int)) : Nat → Nat → List Bool → List Bool
  | 0, _, inn => inn
  | m + 1, k, inn => onL xss m (k + 1) (inn.set k (anyIn inn (use xss k)))
def onF (xss : List (List Int)) (i : Nat) : List Bool := onL xss (xss.length - (i + 1)) (i + 1) ((List.replicate xss.length false).set i true)
def OnInv (xss : List (List Int)) (i k : Nat) (inn : List Bool) : Prop := inn.length = xss.length ∧ ∀ j, inn.getD j false = true ↔ (j < k ∧ j < xss.length ∧ Reach xss j i)
theorem on_inv_step {xss : List (List Int)} (hf : Form xss) {i k : Nat} (hk : i < k) (hkl : k < xss.length) {inn : List Bool} (h : OnInv xss i k inn) : OnInv xss i (k + 1) (inn.set k (anyIn inn (use xss k))) := by
  refine ⟨by rw [List.length_set]; exact h.1, fun j => ?_⟩
  simp only [List.getD_eq_getElem?_getD, List.getElem?_set]
  by_cases hj : k = j
  · subst hj
    rw [if_pos rfl, if_pos (by rw [h.1]; exact hkl), Option.getD_some, anyIn, List.any_eq_true, reach_first]
    constructor
    · rintro ⟨n, hn, h1⟩
      have hn2 := hf k hkl n hn
      have h3 := (h.2 n.toNat).1 h1
      exact ⟨by omega, hkl, .inr ⟨n.toNat, by rwa [Int.toNat_of_nonneg hn2.1], h3.2.2⟩⟩
    · rintro ⟨-, -, h1 | ⟨m, h1, h2⟩⟩
      · omega
      · refine ⟨(m : Int), h1, (h.2 _).2 ?_⟩
        have := (hf.lt h1).1
        rw [Int.toNat_natCast]
        exact ⟨by omega, by omega, h2⟩
  · rw [if_neg hj, ← List.getD_eq_getElem?_getD, h.2 j]
    constructor
    · rintro ⟨h1, h2⟩; exact ⟨by omega, h2⟩
    · rintro ⟨h1, h2⟩; exact ⟨by omega, h2⟩
theorem onL_inv {xss : List (List Int)} (hf : Form xss) {i : Nat} : ∀ (m k : Nat) (inn : List Bool), i < k → k + m = xss.length → OnInv xss i k inn → OnInv xss i xss.length (onL xss m k inn)
  | 0, k, inn, _, hk, h => by obtain rfl : k = xss.length := by omega
                              exact h
  | m + 1, k, inn, hi, hk, h => onL_inv hf m (k + 1) _ (by omega) (by omega) (on_inv_step hf hi (by omega) h)
theorem on_start {xss : List (List Int)} (hf : Form xss) {i : Nat} (hi : i < xss.length) : OnInv xss i (i + 1) ((List.replicate xss.length false).set i true) := by
  refine ⟨by simp, fun j => ?_⟩
  simp only [List.getD_eq_getElem?_getD, List.getElem?_set, List.length_replicate]
  by_cases hj : i = j
  · subst hj
    rw [if_pos rfl, if_pos hi]
    simp only [Option.getD_some, true_iff]
    exact ⟨by omega, hi, .refl⟩
  · rw [if_neg hj]
    constructor
    · intro h
      by_cases hjl : j < xss.length
      · simp [List.getElem?_replicate, hjl] at h
      · simp [List.getElem?_replicate, hjl] at h
    · rintro ⟨h1, h2, h3⟩
      have := h3.le hf
      omega
theorem onF_inv {xss : List (List Int)} (hf : Form xss) {i : Nat} (hi : i < xss.length) : OnInv xss i xss.length (onF xss i) := onL_inv hf _ (i + 1) _ (by omega) (by omega) (on_start hf hi)
theorem onF_get {xss : List (List Int)} (hf : Form xss) {i : Nat} (hi : i < xss.length) {j : Nat} (hj : j < xss.length) : (onF xss i).getD j false = true ↔ Reach xss j i := by
  rw [(onF_inv hf hi).2 j]
  exact ⟨fun h => h.2.2, fun h => ⟨hj, hj, h⟩⟩
theorem onF_length {xss : List (List Int)} (hf : Form xss) {i : Nat} (hi : i < xss.length) : (onF xss i).length = xss.length := (onF_inv hf hi).1

/-! those of which all say so -/
def listed (n : Nat) (sets : List (List Bool)) : List Int := ((List.range n).filter fun i => sets.all fun inn => inn.getD i false).map (fun i : Nat => (i : Int))
theorem mem_listed {n : Nat} {sets : List (List Bool)} {x : Int} : x ∈ listed n sets ↔ ∃ i : Nat, x = (i : Int) ∧ i < n ∧ ∀ inn ∈ sets, inn.getD i false = true := by
  simp only [listed, List.mem_map, List.mem_filter, List.mem_range, List.all_eq_true]
  constructor
  · rintro ⟨i, ⟨h1, h2⟩, rfl⟩; exact ⟨i, rfl, h1, h2⟩
  · rintro ⟨i, rfl, h1, h2⟩; exact ⟨i, ⟨h1, h2⟩, rfl⟩
theorem listed_sorted (n : Nat) (sets : List (List Bool)) : (listed n sets).Pairwise (· < ·) := by
  unfold listed
  rw [List.pairwise_map]
  exact ((List.pairwise_lt_range (n := n)).filter _).imp (fun h => by omega)
theorem listed_succ (n : Nat) (sets : List (List Bool)) : listed (n + 1) sets = listed n sets ++ (if sets.all (fun inn => inn.getD n false) = true then [(n : Int)] else []) := by
  unfold listed
  rw [List.range_succ, List.filter_append, List.map_append]
  by_cases h : sets.all (fun inn => inn.getD n false) = true
  · rw [if_pos h, List.filter_cons, if_pos h]; rfl
  · rw [if_neg h, List.filter_cons, if_neg h]; rfl
theorem listed_length (n : Nat) (sets : List (List Bool)) : (listed n sets).length ≤ n := by
  unfold listed
  rw [List.length_map]
  exact Nat.le_trans (List.length_filter_le _ _) (by simp)

/-! what the laws say -/
theorem has_back {xss : List (List Int)} (hf : Form xss) {i j : Nat} (hj : j < xss.length) : (i : Int) ∈ listed xss.length [backF xss j] ↔ Reach xss j i := by
  rw [mem_listed]
  constructor
  · rintro ⟨k, hk, h1, h2⟩
    obtain rfl : i = k := by omega
    exact (backF_get hf hj i).1 (h2 _ (by simp))
  · intro h
    refine ⟨i, rfl, Nat.lt_of_le_of_lt (h.le hf) hj, fun inn hin => ?_⟩
    obtain rfl : inn = backF xss j := by simpa using hin
    exact (backF_get hf hj i).2 h
theorem has_on {xss : List (List Int)} (hf : Form xss) {i j : Nat} (hi : i < xss.length) : (j : Int) ∈ listed xss.length [onF xss i] ↔ j < xss.length ∧ Reach xss j i := by
  rw [mem_listed]
  constructor
  · rintro ⟨k, hk, h1, h2⟩
    obtain rfl : j = k := by omega
    exact ⟨h1, (onF_get hf hi h1).1 (h2 _ (by simp))⟩
  · rintro ⟨h1, h⟩
    refine ⟨j, rfl, h1, fun inn hin => ?_⟩
    obtain rfl : inn = onF xss i := by simpa using hin
    exact (onF_get hf hi h1).2 h
theorem has_chop {xss : List (List Int)} (hf : Form xss) {i j k : Nat} (hi : i < xss.length) (hj : j < xss.length) : (k : Int) ∈ listed xss.length [onF xss i, backF xss j] ↔ Reach xss k i ∧ Reach xss j k := by
  rw [mem_listed]
  constructor
  · rintro ⟨q, hq, h1, h2⟩
    obtain rfl : k = q := by omega
    exact ⟨(onF_get hf hi h1).1 (h2 _ (by simp)), (backF_get hf hj k).1 (h2 _ (by simp))⟩
  · rintro ⟨h1, h2⟩
    have hk : k < xss.length := Nat.lt_of_le_of_lt (h2.le hf) hj
    refine ⟨k, rfl, hk, fun inn hin => ?_⟩
    simp only [List.mem_cons, List.not_mem_nil, or_false] at hin
    rcases hin with rfl | rfl
    · exact (onF_get hf hi hk).2 h1
    · exact (backF_get hf hj k).2 h2
theorem listed_nat {n : Nat} {sets : List (List Bool)} {x : Int} (h : x ∈ listed n sets) : ∃ k : Nat, x = (k : Int) := by
  obtain ⟨k, hk, _⟩ := mem_listed.1 h
  exact ⟨k, hk⟩
theorem chop_some {xss : List (List Int)} (hf : Form xss) {i j : Nat} (hi : i < xss.length) (hj : j < xss.length) : listed xss.length [onF xss i, backF xss j] ≠ [] ↔ Reach xss j i := by
  constructor
  · intro h
    obtain ⟨x, hx⟩ := List.exists_mem_of_ne_nil _ h
    obtain ⟨k, rfl⟩ := listed_nat hx
    have := (has_chop hf hi hj).1 hx
    exact this.2.trans this.1
  · intro h e
    have := (has_chop hf hi hj (k := i)).2 ⟨.refl, h⟩
    rw [e] at this
    simp at this
theorem head_least {l : List Int} (h : l.Pairwise (· < ·)) {x : Int} (hx : x ∈ l) (hle : ∀ y ∈ l, x ≤ y) : l.head? = some x := by
  cases l with
  | nil => simp at hx
  | cons y l =>
    simp only [List.head?_cons, Option.some.injEq]
    have h1 := hle y (List.mem_cons_self ..)
    rcases List.mem_cons.1 hx with h2 | h2
    · exact h2.symm
    · have := (List.pairwise_cons.1 h).1 x h2; omega
theorem last_most : ∀ {l : List Int} (h : l.Pairwise (· < ·)) {x : Int} (hx : x ∈ l) (hle : ∀ y ∈ l, y ≤ x), l.getLast? = some x
  | [], _, x, hx, _ => by simp at hx
  | [y], _, x, hx, _ => by simp at hx; simp [hx]
  | y :: z :: l, h, x, hx, hle => by
    rw [List.getLast?_cons_cons]
    refine last_most (List.pairwise_cons.1 h).2 ?_ (fun q hq => hle q (List.mem_cons_of_mem _ hq))
    rcases List.mem_cons.1 hx with h2 | h2
    · have h3 := hle z (by simp)
      have h4 := (List.pairwise_cons.1 h).1 z (by simp)
      omega
    · exact h2
theorem chop_ends {xss : List (List Int)} (hf : Form xss) {i j : Nat} (hi : i < xss.length) (hj : j < xss.length) (h : Reach xss j i) :
    (listed xss.length [onF xss i, backF xss j]).head? = some (i : Int) ∧ (listed xss.length [onF xss i, backF xss j]).getLast? = some (j : Int) := by
  constructor
  · refine head_least (listed_sorted _ _) ((has_chop hf hi hj).2 ⟨.refl, h⟩) (fun y hy => ?_)
    obtain ⟨k, rfl⟩ := listed_nat hy
    have := ((has_chop hf hi hj).1 hy).1.le hf
    omega
  · refine last_most (listed_sorted _ _) ((has_chop hf hi hj).2 ⟨h, .refl⟩) (fun y hy => ?_)
    obtain ⟨k, rfl⟩ := listed_nat hy
    have := ((has_chop hf hi hj).1 hy).2.le hf
    omega
/-- of each in the slice but the last there is one behind that uses it -/
theorem closed_used {xss : List (List Int)} (hf : Form xss) {i : Nat} (hi : i < xss.length) {n : Nat} (hn : n < (listed xss.length [backF xss i]).length) (hne : (listed xss.length [backF xss i])[n] ≠ (i : Int)) :
    ∃ k, ∃ hk : k < (listed xss.length [backF xss i]).length, n < k ∧ (listed xss.length [backF xss i])[n] ∈ use xss ((listed xss.length [backF xss i])[k]).toNat := by
  obtain ⟨j, hj⟩ := listed_nat (List.getElem_mem hn)
  have hr := (has_back hf hi).1 (hj ▸ List.getElem_mem hn)
  rcases reach_last.1 hr with rfl | ⟨m, h1, h2⟩
  · exact absurd hj hne
  · obtain ⟨k, hk, hk2⟩ := List.getElem_of_mem ((has_back hf hi).2 h1)
    refine ⟨k, hk, ?_, ?_⟩
    · have h3 := (hf.lt h2).1
      rcases Nat.lt_trichotomy n k with h | h | h
      · exact h
      · subst h; rw [hj] at hk2; omega
      · have := (List.pairwise_iff_getElem.1 (listed_sorted xss.length [backF xss i])) k n hk hn h
        omega
    · rw [hk2, hj, Int.toNat_natCast]; exact h2
end Go.Proofs.Ytblalidpeccabaa.Sc
