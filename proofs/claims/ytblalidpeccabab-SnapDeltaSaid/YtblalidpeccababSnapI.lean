/- SnapRow's walk: the call answers true, whatever comes in. -/
import Derived.Test.YtblalidpeccababSnapH
import Derived.Test.YtblalidpeccababRegionTwo
import Derived.Test.YtblalidpeccababOpen
namespace Go.Proofs.Ytblalidpeccabab.Sn
open Go.Proofs.YtblalidpeccababW
open Go Go.RowKit Go.Lib Go.Proofs.YtblalidpeccababW.PrintWords Go.Proofs.YtblalidpeccababW.PrintLast Go.Proofs.YtblalidpeccababW.PrintMore Go.Proofs.Ytblalidpeccabab.PSnapDelta Go.Proofs.Ytblalidpeccabab.Bs Go.Proofs.Ytblalidpeccabab.RegionVal Go.Proofs.Ytblalidpeccabab.Open
attribute [local go_sem] max2_int min2_int max_two min_two
set_option linter.unusedVariables false
set_option linter.unusedSimpArgs false

theorem opens_int3 : Opens Try.prog 3 (Kd.int .i64) (fun n => (Lit.int .i64 n).wf = true) := opens_int Try.underlying3
theorem opens31 : Opens Try.prog 31 (Kd.slice 3 (Kd.int .i64)) (fun l => l.length ≤ 9223372036854775807 ∧ l.length * Try.prog.bytesOf 3 ≤ 140737488351232 ∧ ∀ a ∈ l, (Lit.int .i64 a).wf = true) :=
  opens_slice Try.underlying31 (by kernel_rfl) opens_int3
theorem min_cut (n : Nat) (b : Int) (hb0 : 0 ≤ b) (hb : b ≤ 1000) (hn : n ≤ 9223372036854775807) : ∃ m : Nat, m ≤ n ∧ (m : Int) ≤ b ∧ (if b < (n : Int) then b else (n : Int)) = (m : Int) := by
  refine ⟨min n b.toNat, by omega, by omega, ?_⟩
  split <;> omega
/-- a list, cut -/
theorem cut {w : World} {A : Option Addr} {c : Nat} {a : List Int} (b : Int) (hb0 : 0 ≤ b) (hb : b ≤ 1000) (lc : a.length ≤ c) (hr : Kd.C (Kd.int .i64) w A a.length a) (hB : a.length ≤ 9223372036854775807) :
    ∃ a' : List Int, (a'.length : Int) ≤ b ∧ a'.length ≤ a.length ∧ a'.length ≤ c ∧ Kd.C (Kd.int .i64) w A a'.length a' ∧ (if b < (a.length : Int) then b else (a.length : Int)) = (a'.length : Int) := by
  obtain ⟨m, h1, h2, h3⟩ := min_cut a.length b hb0 hb hB
  have e : (a.take m).length = m := List.length_take_of_le h1
  refine ⟨a.take m, by rw [e]; exact h2, by rw [e]; exact h1, by rw [e]; omega, ?_, by rw [e]; exact h3⟩
  exact Kd.C_take hr h1
/-- Delta, and its patches laid -/
theorem patched_delta (w : World) (A : Option Addr) (c : Nat) (a b : List Int) (B : Option Addr) (d : Nat) (hr : Kd.C (Kd.int .i64) w A a.length a) (hc : a.length ≤ c) (hn : b.length ≤ 20000) (hb : Kd.C k60 w B (deltaF a b).length (deltaF a b)) (hd : (deltaF a b).length ≤ d) :
    Calls Try.prog 15 #[.slice A a.length c, .int .i64 (b.length : Int), .slice B (deltaF a b).length d] w fun e w' => ∃ A' c', e = .returned (.tuple #[.slice A' b.length c', .int .i64 0]) ∧ b.length ≤ c' ∧ Kd.C (Kd.int .i64) w' A' b.length b ∧ Below w.heap.size w w' := by
  have h := patched_calls w A c a b.length B d (deltaF a b) hr hc hn hb hd (delta_fit a b) (by have := delta_length a b; omega)
  rw [patch_delta] at h
  exact h

set_option maxHeartbeats 8000000 in
set_option maxRecDepth 100000 in
theorem snapRow_walk (w : World) (A : Option Addr) (ca : Nat) (a0 : List Int) (lca : a0.length ≤ ca) (hra : Kd.C (Kd.int .i64) w A a0.length a0) (_BA : a0.length ≤ 9223372036854775807 ∧ a0.length * Try.prog.bytesOf 3 ≤ 140737488351232 ∧ ∀ a ∈ a0, (Lit.int .i64 a).wf = true)
    (B : Option Addr) (cb : Nat) (b0 : List Int) (lcb : b0.length ≤ cb) (hrb : Kd.C (Kd.int .i64) w B b0.length b0) (_BB : b0.length ≤ 9223372036854775807 ∧ b0.length * Try.prog.bytesOf 3 ≤ 140737488351232 ∧ ∀ a ∈ b0, (Lit.int .i64 a).wf = true)
    (C : Option Addr) (cc : Nat) (c0 : List Int) (lcc : c0.length ≤ cc) (hrc : Kd.C (Kd.int .i64) w C c0.length c0) (_BC : c0.length ≤ 9223372036854775807 ∧ c0.length * Try.prog.bytesOf 3 ≤ 140737488351232 ∧ ∀ a ∈ c0, (Lit.int .i64 a).wf = true) :
    Calls Try.prog 5 #[.slice A a0.length ca, .slice B b0.length cb, .slice C c0.length cc] w fun e w' => e = .returned (.bool true) ∧ Below w.heap.size w w' := by
  obtain ⟨a, la, ha1, ha2, hCa, hma⟩ := cut 200 (by omega) (by omega) lca hra _BA.1
  obtain ⟨b, lb, hb1, hb2, hCb, hmb⟩ := cut 200 (by omega) (by omega) lcb hrb _BB.1
  obtain ⟨c, lc, hc1, hc2, hCc, hmc⟩ := cut 200 (by omega) (by omega) lcc hrc _BC.1
  have hla := _BA.1
  have hlb := _BB.1
  have hlc := _BC.1
  have HA := Aside0.mk hCa
  have HB := Aside0.mk hCb
  have HC := Aside0.mk hCc
  have HMA := Aside0.mk hma
  have HMB := Aside0.mk hmb
  have HMC := Aside0.mk hmc
  clear hra hrb hrc _BA _BB _BC hCa hCb hCc hma hmb hmc
  go_enter Try.func5, Try.ntmps5
  go_wp2_with fail
  refine (begunC (Below.refl w.heap.size w)).mono ?_
  rintro e w1 ⟨rfl, hb⟩
  have HB1 := Aside0.mk hb
  have hma := HMA.out
  have hmb := HMB.out
  have hmc := HMC.out
  have h1 : (a.length : Int) ≤ (ca : Int) := by omega
  have h2 : (b.length : Int) ≤ (cb : Int) := by omega
  have h3 : (c.length : Int) ≤ (cc : Int) := by omega
  clear hb
  go_wp2_with fail
  go_region
  have HB2 := Aside0.mk (below_drew HB1.out)
  generalize w1.drew = w2 at HB2 ⊢
  clear hma hmb hmc h1 h2 h3 HMA HMB HMC HB1
  go_wp2_with fail
  refine (delta_calls w2 A ca a B cb b (Kd.C_below HA.out HB2.out) ha2 (Kd.C_below HB.out HB2.out) hb2 (by omega) (by omega)).mono ?_
  rintro e w3 ⟨D1, d1, rfl, hd1, hD1, hb⟩
  have HB3 := Aside0.mk (below_then HB2.out HB2.out.size hb)
  have HD1 := Aside0.mk hD1
  clear hb hD1 HB2
  go_wp2_with fail
  refine (patched_delta w3 A ca a b D1 d1 (Kd.C_below HA.out HB3.out) ha2 (by omega) HD1.out hd1).mono ?_
  rintro e w4 ⟨P1, p1, rfl, hp1, hP1, hb⟩
  have HB4 := Aside0.mk (below_then HB3.out HB3.out.size hb)
  have HP1 := Aside0.mk hP1
  clear hb hP1 HB3 HD1
  go_wp2_with fail
  refine (delta_calls w4 B cb b C cc c (Kd.C_below HB.out HB4.out) hb2 (Kd.C_below HC.out HB4.out) hc2 (by omega) (by omega)).mono ?_
  rintro e w5 ⟨D2, d2, rfl, hd2, hD2, hb⟩
  have HB5 := Aside0.mk (below_then HB4.out HB4.out.size hb)
  have HP15 := Aside0.mk (Kd.C_below HP1.out hb)
  have HD2 := Aside0.mk hD2
  clear hb hD2 HB4 HP1
  go_wp2_with fail
  refine (patched_delta w5 P1 p1 b c D2 d2 HP15.out hp1 (by omega) HD2.out hd2).mono ?_
  rintro e w6 ⟨P2, p2, rfl, hp2, hP2, hb⟩
  have HB6 := Aside0.mk (below_then HB5.out HB5.out.size hb)
  have HP2 := Aside0.mk hP2
  clear hb hP2 HB5 HD2 HP15
  go_wp2_with fail
  refine (delta_calls w6 C cc c A ca a (Kd.C_below HC.out HB6.out) hc2 (Kd.C_below HA.out HB6.out) ha2 (by omega) (by omega)).mono ?_
  rintro e w7 ⟨D3, d3, rfl, hd3, hD3, hb⟩
  have HB7 := Aside0.mk (below_then HB6.out HB6.out.size hb)
  have HP27 := Aside0.mk (Kd.C_below HP2.out hb)
  have HD3 := Aside0.mk hD3
  clear hb hD3 HB6 HP2
  go_wp2_with fail
  refine (patched_delta w7 P2 p2 c a D3 d3 HP27.out hp2 (by omega) HD3.out hd3).mono ?_
  rintro e w8 ⟨P3, p3, rfl, hp3, hP3, hb⟩
  have HB8 := Aside0.mk (below_then HB7.out HB7.out.size hb)
  have HP28 := Aside0.mk (Kd.C_below HP27.out hb)
  have HP3 := Aside0.mk hP3
  clear hb hP3 HB7 HD3 HP27
  go_wp2_with fail
  refine (begun_calls w8).mono ?_
  rintro e w9 ⟨rfl, hb⟩
  have HB9 := Aside0.mk (below_then HB8.out HB8.out.size hb)
  have HP29 := Aside0.mk (Kd.C_below HP28.out hb)
  have HP39 := Aside0.mk (Kd.C_below HP3.out hb)
  clear hb HB8 HP28 HP3
  go_wp2_with fail
  refine (Same_true c HP29.out (Kd.C_below HC.out HB9.out)).mono ?_
  rintro e w10 ⟨rfl, hb⟩
  have HB10 := Aside0.mk (below_then HB9.out HB9.out.size hb)
  have HP310 := Aside0.mk (Kd.C_below HP39.out hb)
  clear hb HB9 HP29 HP39
  go_wp2_with fail
  refine (Same_true a HP310.out (Kd.C_below HA.out HB10.out)).mono ?_
  rintro e w11 ⟨rfl, hb⟩
  have HB11 := Aside0.mk (below_then HB10.out HB10.out.size hb)
  clear hb HB10 HP310
  go_wp2
  go_ret
  exact ⟨rfl, HB11.out⟩
end Go.Proofs.Ytblalidpeccabab.Sn
