/- slice.right: its walk. -/
import Derived.Test.YtblalidpeccabaaSliceJ
namespace Go.Proofs.Ytblalidpeccabaa.Sm
open Go Go.RowKit Go.Lib Go.Proofs.YtblalidpeccabaaW.PrintWords Go.Proofs.YtblalidpeccabaaW.PrintLast Go.Proofs.YtblalidpeccabaaW.PrintMore Go.Proofs.Ytblalidpeccabaa.PHuntParts Go.Proofs.Ytblalidpeccabaa.Sc Go.Proofs.Ytblalidpeccabaa.Bs
set_option linter.unusedVariables false
set_option linter.unusedSimpArgs false

def rgt (l : List S51) (at_ : Int) : Int := if 200 < l.length then 2 else if l.any badOp = true then 7 else if at_ < 0 ∨ (l.length : Int) ≤ at_ then 1 else 0
theorem rgt_zero {l : List S51} {a : Int} : rgt l a = 0 ↔ l.length ≤ 200 ∧ l.any badOp = false ∧ 0 ≤ a ∧ a < (l.length : Int) := by
  unfold rgt
  by_cases h1 : 200 < l.length
  · rw [if_pos h1]; simp; omega
  · rw [if_neg h1]
    by_cases h2 : l.any badOp = true
    · rw [if_pos h2, h2]; simp
    · rw [if_neg h2]
      have h2' : l.any badOp = false := by simpa using h2
      rw [h2']
      by_cases h3 : a < 0 ∨ (l.length : Int) ≤ a
      · rw [if_pos h3]; simp; omega
      · rw [if_neg h3]; simp; omega

set_option maxHeartbeats 8000000 in
set_option maxRecDepth 100000 in
theorem right_calls (w : World) (A : Option Addr) (c : Nat) (l : List S51) (a : Int) (hr : Kd.C k51 w A l.length l) (hc : l.length ≤ c) :
    Calls Try.prog 24 #[.slice A l.length c, .int .i64 a] w fun e w' => e = .returned (.int .i64 (rgt l a)) ∧ Below w.heap.size w w' := by
  have hn : l.length ≤ 9223372036854775807 := hr.2.1
  have HR := Aside0.mk hr
  clear hr
  go_enter Try.func24, Try.ntmps24
  by_cases hl : (200 : Int) < (l.length : Int)
  · have HX := Aside0.mk (show rgt l a = 2 by unfold rgt; rw [if_pos (by omega)])
    go_wp2
    go_ret
    exact ⟨by rw [HX.out]; rfl, Below.refl _ _⟩
  · go_wp2_with fail
    refine (containsD_calls w A c l 37 #[] badOp HR.out hc (right1_asks w l)).mono ?_
    rintro e w1 ⟨rfl, hb⟩
    have HB := Aside0.mk hb
    clear hb
    cases hp : l.any badOp with
    | true =>
      have HX := Aside0.mk (show rgt l a = 7 by unfold rgt; rw [if_neg (by omega), if_pos hp])
      clear hp
      go_wp2
      go_ret
      exact ⟨by rw [HX.out]; rfl, HB.out⟩
    | false =>
      have HP := Aside0.mk hp
      clear hp
      by_cases h0 : a < 0
      · have HX := Aside0.mk (show rgt l a = 1 by unfold rgt; rw [if_neg (by omega), if_neg (by rw [HP.out]; decide), if_pos (.inl h0)])
        go_wp2
        go_ret
        exact ⟨by rw [HX.out]; rfl, HB.out⟩
      · by_cases h1 : (l.length : Int) ≤ a
        · have HX := Aside0.mk (show rgt l a = 1 by unfold rgt; rw [if_neg (by omega), if_neg (by rw [HP.out]; decide), if_pos (.inr h1)])
          go_wp2
          go_ret
          exact ⟨by rw [HX.out]; rfl, HB.out⟩
        · have HX := Aside0.mk (show rgt l a = 0 by unfold rgt; rw [if_neg (by omega), if_neg (by rw [HP.out]; decide), if_neg (by omega)])
          go_wp2
          go_ret
          exact ⟨by rw [HX.out]; rfl, HB.out⟩
end Go.Proofs.Ytblalidpeccabaa.Sm
