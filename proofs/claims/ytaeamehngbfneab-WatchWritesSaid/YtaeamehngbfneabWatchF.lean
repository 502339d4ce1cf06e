/- WatchCut, WatchBack: the calls answer true, whatever comes in. -/
import Derived.Test.YtaeamehngbfneabWatchE
import Derived.Test.YtaeamehngbfneabOpen
namespace Go.Proofs.Ytaeamehngbfneab.Wt
open Go Go.RowKit Go.Lib Go.Proofs.YtaeamehngbfneabW.PrintWords Go.Proofs.YtaeamehngbfneabW.PrintLast Go.Proofs.YtaeamehngbfneabW.PrintMore Go.Proofs.Ytaeamehngbfneab.Bs Go.Proofs.Ytaeamehngbfneab.PWatchBack Go.Proofs.Ytaeamehngbfneab.Wp Go.Proofs.Ytaeamehngbfneab.Open
set_option linter.unusedVariables false
set_option linter.unusedSimpArgs false

theorem opens_int3 : Opens Try.prog 3 (Kd.int .i64) (fun n => (Lit.int .i64 n).wf = true) := opens_int Try.underlying3
theorem opens28 : Opens Try.prog 28 k28 (fun _ => True) :=
  (opens_iso (fun x : S28 => (x.f0, x.f1)) (fun x => ⟨x.1, x.2⟩) (fun _ => rfl)
    (opens_struct Try.underlying28 (by kernel_rfl) (opensF_cons opens_int3 (by kernel_rfl) (opensF_one opens_int3 (by kernel_rfl))))).imp (fun _ _ => trivial)
theorem opens33 : Opens Try.prog 33 k33 (fun _ => True) :=
  (opens_iso (fun x : S33 => (x.f0, x.f1, x.f2, x.f3, x.f4, x.f5, x.f6, x.f7, x.f8, x.f9)) (fun x => ⟨x.1, x.2.1, x.2.2.1, x.2.2.2.1, x.2.2.2.2.1, x.2.2.2.2.2.1, x.2.2.2.2.2.2.1, x.2.2.2.2.2.2.2.1, x.2.2.2.2.2.2.2.2.1, x.2.2.2.2.2.2.2.2.2⟩) (fun _ => rfl)
    (opens_struct Try.underlying33 (by kernel_rfl) (opensF_cons opens_int3 (by kernel_rfl) (opensF_cons opens_int3 (by kernel_rfl) (opensF_cons opens_int3 (by kernel_rfl) (opensF_cons opens_int3 (by kernel_rfl) (opensF_cons opens_int3 (by kernel_rfl) (opensF_cons opens_int3 (by kernel_rfl) (opensF_cons opens_int3 (by kernel_rfl) (opensF_cons opens_int3 (by kernel_rfl) (opensF_cons opens28 (by kernel_rfl) (opensF_one opens28 (by kernel_rfl))))))))))))).imp (fun _ _ => trivial)
theorem opens22 : Opens Try.prog 22 (Kd.slice 33 k33) (fun l => l.length ≤ 9223372036854775807 ∧ l.length * Try.prog.bytesOf 33 ≤ 140737488351232 ∧ ∀ a ∈ l, True) :=
  opens_slice Try.underlying22 (by kernel_rfl) opens33

theorem whole_take (l : List S33) (a : Nat) : whole acc wr key val old (l.take a) = (whole acc wr key val old l).filter (fun k => decide (k < a)) := by
  have := wholeL_take acc wr key val old l [] 0 a
  simpa [whole] using this

set_option maxHeartbeats 8000000 in
set_option maxRecDepth 100000 in
theorem watchCut_walk (w : World) (A : Option Addr) (c : Nat) (l : List S33) (lc : l.length ≤ c) (hr : Kd.C k33 w A l.length l) (_B : l.length ≤ 9223372036854775807 ∧ l.length * Try.prog.bytesOf 33 ≤ 140737488351232 ∧ ∀ a ∈ l, True)
    (a : Int) (hwf : (Lit.int .i64 a).wf = true) :
    Calls Try.prog 4 #[.slice A l.length c, .int .i64 a] w fun e w' => e = .returned (.bool true) ∧ Below w.heap.size w w' := by
  have hl0 := _B.1
  have HR := Aside0.mk hr
  clear hwf _B hr
  go_enter Try.func4, Try.ntmps4
  go_wp2_with fail
  refine (begunC (Below.refl _ _)).mono ?_
  rintro e w1 ⟨rfl, hb⟩
  have HB1 := Aside0.mk hb; clear hb
  go_wp2_with fail
  by_cases hl : 200 < l.length
  · refine (Whole_bad _ A c l (Kd.C_below HR.out HB1.out) lc hl).mono ?_
    rintro e w2 ⟨rfl, hb⟩
    have HB2 := Aside0.mk (below_then HB1.out HB1.out.size hb); clear hb
    go_wp2_with fail
    refine (begunC HB2.out).mono ?_
    rintro e w3 ⟨rfl, hb⟩
    have HB3 := Aside0.mk hb; clear hb
    go_wp2
    go_ret
    exact ⟨rfl, HB3.out⟩
  · refine (Whole_calls _ A c l (Kd.C_below HR.out HB1.out) lc (by omega)).mono ?_
    rintro e w2 ⟨rfl, hb⟩
    have HB2 := Aside0.mk (below_then HB1.out HB1.out.size hb); clear hb
    obtain ⟨r, hr⟩ : ∃ r, r = whole acc wr key val old l := ⟨_, rfl⟩
    rw [← hr]
    have HRR := Aside0.mk hr
    clear hr
    by_cases ha0 : a < 0
    · go_wp2_with fail
      refine (begunC HB2.out).mono ?_
      rintro e w3 ⟨rfl, hb⟩
      have HB3 := Aside0.mk hb; clear hb
      go_wp2
      go_ret
      exact ⟨rfl, HB3.out⟩
    · by_cases ha1 : a > (l.length : Int)
      · go_wp2_with fail
        refine (begunC HB2.out).mono ?_
        rintro e w3 ⟨rfl, hb⟩
        have HB3 := Aside0.mk hb; clear hb
        go_wp2
        go_ret
        exact ⟨rfl, HB3.out⟩
      · obtain ⟨m, rfl⟩ : ∃ m : Nat, a = (m : Int) := ⟨a.toNat, by omega⟩
        have hm : m ≤ l.length := by omega
        obtain ⟨t, ht⟩ : ∃ t, t = l.take m := ⟨_, rfl⟩
        have htl : t.length = m := by rw [ht, List.length_take]; omega
        have HT := Aside0.mk (show Kd.C k33 w A t.length t by have := Kd.C_take HR.out (m := m) hm; rwa [← ht] at this)
        have HW := Aside0.mk (show whole acc wr key val old t = r.filter (fun k => decide (k < m)) by rw [ht, whole_take, HRR.out])
        clear ht
        subst htl
        have z1 : (t.length : Int) ≤ (c : Int) := by omega
        go_wp2_with fail
        refine (Whole_calls _ A c t (Kd.C_below HT.out HB2.out) (by omega) (by omega)).mono ?_
        rintro e w3 ⟨rfl, hb⟩
        have HB3 := Aside0.mk (below_then HB2.out HB2.out.size hb); clear hb
        rw [HW.out]
        cases r with
        | none =>
          simp only [rOf, Option.filter_none, Option.getD_none, Option.isSome_none]
          go_wp2_with fail
          refine (begunC HB3.out).mono ?_
          rintro e w4 ⟨rfl, hb⟩
          have HB4 := Aside0.mk hb; clear hb
          go_wp2
          go_ret
          exact ⟨rfl, HB4.out⟩
        | some k =>
          by_cases hk : k < t.length
          · have e1 : Option.filter (fun k => decide (k < t.length)) (some k) = some k := by simp [Option.filter, hk]
            rw [e1]
            simp only [rOf, Option.getD_some, Option.isSome_some]
            have D : decide ((k : Int) < (t.length : Int)) = true := decide_eq_true (by omega)
            clear e1
            go_wp2_with fail
            refine (begunC HB3.out).mono ?_
            rintro e w4 ⟨rfl, hb⟩
            have HB4 := Aside0.mk hb; clear hb
            go_wp2
            go_ret
            exact ⟨rfl, HB4.out⟩
          · have e1 : Option.filter (fun k => decide (k < t.length)) (some k) = none := by simp [Option.filter, hk]
            rw [e1]
            simp only [rOf, Option.getD_some, Option.isSome_some, Option.getD_none, Option.isSome_none]
            have D : decide ((k : Int) < (t.length : Int)) = false := decide_eq_false (by omega)
            clear e1
            go_wp2_with fail
            refine (begunC HB3.out).mono ?_
            rintro e w4 ⟨rfl, hb⟩
            have HB4 := Aside0.mk hb; clear hb
            go_wp2
            go_ret
            exact ⟨rfl, HB4.out⟩
end Go.Proofs.Ytaeamehngbfneab.Wt
