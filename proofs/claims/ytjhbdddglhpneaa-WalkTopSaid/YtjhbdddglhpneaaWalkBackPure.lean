/- The plain law of WalkBack: for every list, place and way the printed function answers true. -/
import Derived.Test.YtjhbdddglhpneaaWalkPure
import Derived.Test.YtjhbdddglhpneaaPWalkBackx3
namespace Go.Proofs.Ytjhbdddglhpneaa.WalkPure
open Go.RowKit Go.Proofs.YtjhbdddglhpneaaW.PrintWords Go.Proofs.YtjhbdddglhpneaaW.PrintLast Go.Proofs.YtjhbdddglhpneaaW.PrintMore
open Go.Proofs.Ytjhbdddglhpneaa.PWalkBack

theorem walkBack_true (l : List S29) (i how : Int) : backstitchkeep4_WalkBack.f 400 l i how = some true := by
  unfold backstitchkeep4_WalkBack.f
  rw [begun 400 (by omega)]
  simp only [Option.bind_some, if_true]
  by_cases h : okArgs l i how
  · obtain ⟨a, ha, hA⟩ := last_ok h 400 (by omega)
    obtain ⟨b, hb, hB⟩ := next_ok h 400 (by omega)
    rw [ha, hb]
    simp only [Option.bind_some]
    obtain ⟨h1, h2, h3, h4, h5⟩ := h
    -- the second part, whatever the first was
    have second : ∀ x (hx : 398 = x), backstitchkeep4_WalkBack.j1 (x + 1) l i how b.1 b.2.1 = some true := by
      intro x hx
      subst hx
      simp only [backstitchkeep4_WalkBack.j1]
      rcases hB with ⟨j, rfl, p, q, r, s⟩ | ⟨rfl, s⟩
      · simp only [if_true]
        obtain ⟨c, hc, hC⟩ := last_ok (l := l) (i := j) (how := how) ⟨h1, by omega, q, h4, h5⟩ 398 (by omega)
        rw [hc]
        simp only [Option.bind_some]
        rcases hC with ⟨m, rfl, p', q', r', s'⟩ | ⟨rfl, s'⟩
        · simp only [if_true]
          have : i ≤ m := by
            by_cases e : i ≤ m
            · exact e
            · have := s' i (by omega) (by omega)
              rw [r] at this; cases this
          rw [if_neg (by omega), if_neg (by omega), begun 398 (by omega)]; rfl
        · have := s' i (by omega) (by omega)
          rw [r] at this; cases this
      · simp only [if_neg (show ¬ (false = true) by decide)]
        rw [begun 398 (by omega)]; rfl
    have hb22 : b.2.2 = 0 := by rcases hB with ⟨j, rfl, _⟩ | ⟨rfl, _⟩ <;> rfl
    have ha22 : a.2.2 = 0 := by rcases hA with ⟨j, rfl, _⟩ | ⟨rfl, _⟩ <;> rfl
    rw [if_pos ha22, hb22]
    simp only [backstitchkeep4_WalkBack.j0, bne_self_eq_false, if_neg (show ¬ (false = true) by decide)]
    rcases hA with ⟨j, rfl, p, q, r, s⟩ | ⟨rfl, s⟩
    · simp only [if_true]
      obtain ⟨c, hc, hC⟩ := next_ok (l := l) (i := j) (how := how) ⟨h1, p, by omega, h4, h5⟩ 399 (by omega)
      rw [hc]
      simp only [Option.bind_some]
      rcases hC with ⟨m, rfl, p', q', r', s'⟩ | ⟨rfl, s'⟩
      · simp only [if_true]
        have : m ≤ i := by
          by_cases e : m ≤ i
          · exact e
          · have := s' i (by omega) (by omega)
            rw [r] at this; cases this
        rw [if_neg (by omega), if_neg (by omega)]
        exact second 398 rfl
      · have := s' i (by omega) (by omega)
        rw [r] at this; cases this
    · simp only [if_neg (show ¬ (false = true) by decide)]
      exact second 398 rfl
  · obtain ⟨e, he, hc⟩ := check_no h
    rw [last_no he hc, next_no he hc]
    simp only [Option.bind_some, if_neg he, backstitchkeep4_WalkBack.j0, if_true]
    rw [begun 399 (by omega)]
    simp

end Go.Proofs.Ytjhbdddglhpneaa.WalkPure
