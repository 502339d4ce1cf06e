/- Races: what is told is proved, what is proved is told. Plain Lean. -/
import Derived.Test.YtginlhengebgaaaRcI
namespace Go.Proofs.Ytginlhengebgaaa.Ck
open Go Go.RowKit Go.Proofs.Ytginlhengebgaaa.PLockupEither
set_option linter.unusedVariables false
set_option linter.unusedSimpArgs false
section
variable {l : List CE} {th : Nat} {E : List S32}
theorem IsE.nat (hE : IsE l E) : natE E := fun p hp => ⟨(hE.bound p hp).1, (hE.bound p hp).2.1⟩
theorem reach_iff (hE : IsE l E) (ht : ∀ x ∈ l, 0 ≤ x.t ∧ x.t < (th : Int)) {i j : Nat} (hi : i < l.length) (hj : j < l.length) : cl l th E i (thr l i) ≤ cl l th E j (thr l i) ↔ Reach (EdN E) i j :=
  (clk_of l th E hE ht).reach hi hj
theorem reach_up (hE : IsE l E) (ht : ∀ x ∈ l, 0 ≤ x.t ∧ x.t < (th : Int)) {i j : Nat} (hj : j < l.length) (h : Reach (EdN E) i j) : i ≤ j := ((clk_of l th E hE ht).reach_le h hj).1
theorem bef_reach (hE : IsE l E) (ht : ∀ x ∈ l, 0 ≤ x.t ∧ x.t < (th : Int)) {i j : Nat} (hi : i < l.length) (hj : j < l.length) : bef l th E i j = true ↔ i ≠ j ∧ Reach (EdN E) i j := by
  unfold bef
  rw [Bool.and_eq_true, decide_eq_true_iff, decide_eq_true_iff, reach_iff hE ht hi hj]
theorem prv_iff (hE : IsE l E) (ht : ∀ x ∈ l, 0 ≤ x.t ∧ x.t < (th : Int)) {i j : Nat} (hi : i < l.length) (hj : j < l.length) : prvB l th E i j = true ↔ i ≠ j ∧ ¬ Reach (EdN E) i j ∧ ¬ Reach (EdN E) j i ∧ meetF (l.getD i zC) (l.getD j zC) = true := by
  unfold prvB
  rw [Bool.and_eq_true, Bool.and_eq_true, Bool.and_eq_true, decide_eq_true_iff, Bool.not_eq_true', Bool.not_eq_true', ← Bool.not_eq_true, ← Bool.not_eq_true, bef_reach hE ht hi hj, bef_reach hE ht hj hi]
  constructor
  · rintro ⟨⟨⟨h1, h2⟩, h3⟩, h4⟩
    exact ⟨h1, fun h => h2 ⟨h1, h⟩, fun h => h3 ⟨fun e => h1 e.symm, h⟩, h4⟩
  · rintro ⟨h1, h2, h3, h4⟩
    exact ⟨⟨⟨h1, fun h => h2 h.2⟩, fun h => h3 h.2⟩, h4⟩
theorem prv_comm (hE : IsE l E) (ht : ∀ x ∈ l, 0 ≤ x.t ∧ x.t < (th : Int)) {i j : Nat} (hi : i < l.length) (hj : j < l.length) : prvB l th E i j = prvB l th E j i := by
  rw [Bool.eq_iff_iff, prv_iff hE ht hi hj, prv_iff hE ht hj hi, meet_comm]
  exact ⟨fun h => ⟨fun e => h.1 e.symm, h.2.2.1, h.2.1, h.2.2.2⟩, fun h => ⟨fun e => h.1 e.symm, h.2.2.1, h.2.1, h.2.2.2⟩⟩
theorem races_lt (hE : IsE l E) (ht : ∀ x ∈ l, 0 ≤ x.t ∧ x.t < (th : Int)) {i j : Nat} (hj : j < l.length) (hij : i < j) : (⟨(i : Int), (j : Int)⟩ : S32) ∈ racesF l th E ↔ prvB l th E i j = true := by
  have hi : i < l.length := by omega
  rw [mem_races, prv_iff hE ht hi hj]
  have hrc : rcB l th E i j = true ↔ meetF (l.getD i zC) (l.getD j zC) = true ∧ ¬ Reach (EdN E) i j := by
    unfold rcB
    rw [Bool.and_eq_true, decide_eq_true_iff, ← reach_iff hE ht hi hj]
    constructor
    · rintro ⟨h1, h2⟩; exact ⟨h1, by omega⟩
    · rintro ⟨h1, h2⟩; exact ⟨h1, by omega⟩
  constructor
  · rintro ⟨a, b, e, h1, h2, h3⟩
    injection e with e1 e2
    obtain rfl : i = a := by omega
    obtain rfl : j = b := by omega
    obtain ⟨h4, h5⟩ := hrc.1 h3
    exact ⟨by omega, h5, fun h => by have := reach_up hE ht hi h; omega, h4⟩
  · rintro ⟨_, h2, _, h4⟩
    exact ⟨i, j, rfl, hij, hj, hrc.2 ⟨h4, h2⟩⟩
theorem told_iff (hE : IsE l E) (ht : ∀ x ∈ l, 0 ≤ x.t ∧ x.t < (th : Int)) {i j : Nat} (hi : i < l.length) (hj : j < l.length) : (⟨min (i : Int) (j : Int), max (i : Int) (j : Int)⟩ : S32) ∈ racesF l th E ↔ prvB l th E i j = true := by
  rcases Nat.lt_or_ge i j with h | h
  · rw [Int.min_eq_left (by omega), Int.max_eq_right (by omega)]
    exact races_lt hE ht hj h
  · rcases Nat.lt_or_ge j i with h' | h'
    · rw [Int.min_eq_right (by omega), Int.max_eq_left (by omega), prv_comm hE ht hi hj]
      exact races_lt hE ht hi h'
    · obtain rfl : i = j := by omega
      rw [prv_iff hE ht hi hj, mem_races]
      constructor
      · rintro ⟨a, b, e, h1, _⟩
        injection e with e1 e2
        omega
      · rintro ⟨h1, _⟩
        exact absurd rfl h1
/-! closed lists -/
theorem closed_down {I : List Int} (h : E.any (outB I) = false) {i j : Nat} (hr : Reach (EdN E) i j) (hj : (j : Int) ∈ I) : (i : Int) ∈ I := by
  induction hr with
  | refl j => exact hj
  | @head i k j he hr ih =>
    have hk := ih hj
    have h1 : outB I ⟨(i : Int), (k : Int)⟩ = false := by
      have := List.any_eq_false.1 h _ he
      simpa using this
    unfold outB at h1
    simp only [decide_eq_true hk, Bool.true_and, Bool.not_eq_false', decide_eq_true_iff] at h1
    exact h1
theorem hold_prv (hE : IsE l E) (ht : ∀ x ∈ l, 0 ≤ x.t ∧ x.t < (th : Int)) {i j : Nat} (hi : i < l.length) (hj : j < l.length) {I J : List Int} (h : holdB l E i j I J = true) : prvB l th E i j = true := by
  unfold holdB at h
  rw [Bool.and_eq_true, Bool.and_eq_true, closedB_true, closedB_true] at h
  obtain ⟨⟨h1, h2⟩, h3⟩ := h
  rw [prv_iff hE ht hi hj]
  refine ⟨?_, fun hr => h3.2.2.1 (closed_down h3.2.2.2 hr h3.2.1), fun hr => h2.2.2.1 (closed_down h2.2.2.2 hr h2.2.1), h1⟩
  rintro rfl
  exact h2.2.2.1 h2.2.1
theorem into_closed (hE : IsE l E) (ht : ∀ x ∈ l, 0 ≤ x.t ∧ x.t < (th : Int)) {i j : Nat} (hi : i < l.length) (hr : ¬ Reach (EdN E) j i) : ClP (intoF E (i : Int)) E (i : Int) (j : Int) (l.length : Int) := by
  have hm := intoF_mem hE.nat hE.1 (k := i)
  refine ⟨⟨intoF_rise E _, fun x hx => ?_⟩, (hm _).2 ⟨i, rfl, .refl i⟩, fun hx => ?_, ?_⟩
  · obtain ⟨a, rfl, ha⟩ := (hm x).1 hx
    have := reach_up hE ht hi ha
    omega
  · obtain ⟨a, e, ha⟩ := (hm _).1 hx
    obtain rfl : j = a := by omega
    exact hr ha
  · rw [List.any_eq_false]
    intro p hp
    have hb := hE.bound p hp
    unfold outB
    by_cases h1 : p.f1 ∈ intoF E (i : Int)
    · obtain ⟨a, e, ha⟩ := (hm _).1 h1
      have h0 : p.f0 ∈ intoF E (i : Int) := (hm _).2 ⟨p.f0.toNat, by omega, .head (show (⟨((p.f0.toNat : Nat) : Int), (a : Int)⟩ : S32) ∈ E from by
        rw [show (⟨((p.f0.toNat : Nat) : Int), (a : Int)⟩ : S32) = p from s32_ext (by simp only; omega) (by simp only; omega)]
        exact hp) ha⟩
      rw [decide_eq_true h1, decide_eq_true h0]
      simp
    · rw [decide_eq_false h1]
      simp
theorem prv_hold (hE : IsE l E) (ht : ∀ x ∈ l, 0 ≤ x.t ∧ x.t < (th : Int)) {i j : Nat} (hi : i < l.length) (hj : j < l.length) (h : prvB l th E i j = true) : holdB l E i j (intoF E (i : Int)) (intoF E (j : Int)) = true := by
  obtain ⟨h1, h2, h3, h4⟩ := (prv_iff hE ht hi hj).1 h
  unfold holdB
  rw [Bool.and_eq_true, Bool.and_eq_true, closedB_true, closedB_true]
  exact ⟨⟨h4, into_closed hE ht hi h3⟩, into_closed hE ht hj h2⟩
theorem hold_nil (i j : Nat) : holdB l E i j [] [] = false := by
  unfold holdB
  rw [closedB_false (fun h => by cases h.2.1), Bool.and_false, Bool.false_and]
end
end Go.Proofs.Ytginlhengebgaaa.Ck
