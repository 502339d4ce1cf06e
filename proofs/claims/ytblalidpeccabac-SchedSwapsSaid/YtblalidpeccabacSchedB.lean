/- sched.without: its walk. -/
import Derived.Test.YtblalidpeccabacSchedA
namespace Go.Proofs.Ytblalidpeccabac.Sd
open Go Go.RowKit Go.Lib Go.Proofs.YtblalidpeccabacW.PrintWords Go.Proofs.YtblalidpeccabacW.PrintLast Go.Proofs.YtblalidpeccabacW.PrintMore Go.Proofs.Ytblalidpeccabac.PSchedBack Go.Proofs.Ytblalidpeccabac.Bs
set_option linter.unusedVariables false
set_option linter.unusedSimpArgs false
attribute [local go_sem] max2_int min2_int max_two min_two

/-- how many are left without one step of thread i -/
def withF (K : Nat) (l : List Int) (i : Nat) : Option Int := if l.getD i 0 = 0 then some 0 else sched_count.f K (l.set i (wrap64 (l.getD i 0 - 1)))
/-- the cell of a list that is read -/
theorem C_cell {w : World} {A : Option Addr} {n : Nat} {xs : List Int} (h : Kd.C kI w A n xs) (i : Nat) (hi : i < xs.length) : ∃ ad, A = some ad ∧ w.cell? (ad.add i) = some (.int .i64 xs[i]) := by
  obtain ⟨ad, rfl, h0⟩ := Kd.at_int h (i : Int) (by omega) (by have := h.1; omega)
  have hrd : rd xs (i : Int) = xs[i] := by simp [rd, List.getD_eq_getElem?_getD, hi]
  rw [hrd, Int.toNat_natCast] at h0
  exact ⟨ad, rfl, h0⟩
theorem getD_is {xs : List Int} {i : Nat} (hi : i < xs.length) : xs.getD i 0 = xs[i] := by simp [List.getD_eq_getElem?_getD, hi]

set_option maxHeartbeats 8000000 in
set_option maxRecDepth 100000 in
theorem without_calls (K : Nat) (w : World) (A : Option Addr) (c : Nat) (l : List Int) (i : Nat) (r : Int) (hr : Kd.C kI w A l.length l) (hc : l.length ≤ c) (hl : l.length ≤ 1000000) (hi : i < l.length) (h : withF K l i = some r) :
    Calls Try.prog 38 #[.slice A l.length c, .int .i64 (i : Int)] w fun e w' => e = .returned (.int .i64 r) ∧ Below w.heap.size w w' := by
  have HR := Aside0.mk hr
  obtain ⟨ad, rfl, h0⟩ := C_cell hr i hi
  have hi1 : (i : Int) < (l.length : Int) := by omega
  unfold withF at h
  rw [getD_is hi] at h
  obtain ⟨y, hy⟩ : ∃ y, y = l[i] := ⟨_, rfl⟩
  rw [← hy] at h h0
  have HY := Aside0.mk hy
  clear hy hr
  by_cases hy0 : y = 0
  · rw [if_pos hy0] at h
    have hr0 : r = 0 := (Option.some.inj h).symm
    subst hr0
    subst hy0
    clear h
    go_enter Try.func38, Try.ntmps38
    go_wp2
    exact bodyPost_ret (v := .int .i64 0) (by simp [results, Try.f38, go_sem]) rfl ⟨rfl, Below.refl _ _⟩
  · rw [if_neg hy0] at h
    have HF := Aside0.mk h
    clear h
    go_enter Try.func38, Try.ntmps38
    go_wp2_with fail
    refine (clone_calls w (some ad) c l HR.out hc hl).mono ?_
    rintro e w1 ⟨v, rfl, hO, hb⟩
    obtain ⟨g, c1, rfl, hIR⟩ := R_form hO (by omega)
    obtain ⟨h1, h1f⟩ := hIR.cell i hi
    have hgb : w.heap.size ≤ g := hIR.base
    have HP := Aside0.mk (hIR.put i (wrap64 (y - 1)))
    rw [← HY.out] at h1
    have hwy : IntKind.i64.wrap (y - 1) = wrap64 (y - 1) := by rw [IntKind.wrap_i64]; unfold wrap64; omega
    obtain ⟨u, hu⟩ : ∃ u, u = wrap64 (y - 1) := ⟨_, rfl⟩
    rw [← hu] at HP HF hwy
    have HC2 := Aside0.mk (show Kd.C kI (w1.setCell ⟨g, i, none⟩ (.int .i64 u)) (some ⟨g, 0, none⟩) (l.set i u).length (l.set i u) from HP.out.1.C)
    have HLL := Aside0.mk (show (l.set i u).length = l.length from List.length_set ..)
    have HB1 := Aside0.mk hb
    have HGB := Aside0.mk hgb
    have hlc : l.length ≤ c1 := (Kd.R_reads' hIR).2.1
    clear hO hb hIR hu hgb h0
    have hcall := sched_count.calls K (some ⟨g, 0, none⟩) c1 (l.set i u) r _ HC2.out (by rw [HLL.out]; exact hlc) HF.out
    rw [HLL.out] at hcall
    have HCALL := Aside0.mk hcall
    clear hcall
    go_wp2_with fail
    refine HCALL.out.mono ?_
    rintro e w3 ⟨rfl, hd⟩
    have HB3 := Aside0.mk (show Below w.heap.size w w3 from by
      have h2 := Below.grown HB1.out HP.out.2 HB1.out.size (fun k hk => by cases hk; exact HGB.out)
      exact below_then h2 h2.size hd.below)
    clear hd HCALL HP HC2
    go_wp2
    exact bodyPost_ret (v := .int .i64 r) (by simp [results, Try.f38, go_sem]) rfl ⟨rfl, HB3.out⟩
end Go.Proofs.Ytblalidpeccabac.Sd
