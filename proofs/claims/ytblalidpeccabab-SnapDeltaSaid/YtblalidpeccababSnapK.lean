/- SnapDelta's walk: the call answers true, whatever comes in. -/
import Derived.Test.YtblalidpeccababSnapJ
namespace Go.Proofs.Ytblalidpeccabab.Sn
open Go.Proofs.YtblalidpeccababW
open Go Go.RowKit Go.Lib Go.Proofs.YtblalidpeccababW.PrintWords Go.Proofs.YtblalidpeccababW.PrintLast Go.Proofs.YtblalidpeccababW.PrintMore Go.Proofs.Ytblalidpeccabab.PSnapDelta Go.Proofs.Ytblalidpeccabab.Bs Go.Proofs.Ytblalidpeccabab.RegionVal Go.Proofs.Ytblalidpeccabab.Open
attribute [local go_sem] max2_int min2_int max_two min_two
set_option linter.unusedVariables false
set_option linter.unusedSimpArgs false

theorem wrap_k (k : Nat) (h : k < 300) : IntKind.i64.wrap ((k : Int) + 1) = (k : Int) + 1 := by
  have h1 : -9223372036854775808 ≤ (k : Int) + 1 := by omega
  have h2 : (k : Int) + 1 ≤ 9223372036854775807 := by omega
  rw [IntKind.wrap_i64]
  omega

set_option maxHeartbeats 8000000 in
set_option maxRecDepth 100000 in
theorem snapDelta_walk (w : World) (A : Option Addr) (ca : Nat) (a0 : List Int) (lca : a0.length ≤ ca) (hra : Kd.C (Kd.int .i64) w A a0.length a0) (_BA : a0.length ≤ 9223372036854775807 ∧ a0.length * Try.prog.bytesOf 3 ≤ 140737488351232 ∧ ∀ a ∈ a0, (Lit.int .i64 a).wf = true)
    (B : Option Addr) (cb : Nat) (b0 : List Int) (lcb : b0.length ≤ cb) (hrb : Kd.C (Kd.int .i64) w B b0.length b0) (_BB : b0.length ≤ 9223372036854775807 ∧ b0.length * Try.prog.bytesOf 3 ≤ 140737488351232 ∧ ∀ a ∈ b0, (Lit.int .i64 a).wf = true)
    (i : Int) (hi : (Lit.int .i64 i).wf = true) :
    Calls Try.prog 4 #[.slice A a0.length ca, .slice B b0.length cb, .int .i64 i] w fun e w' => e = .returned (.bool true) ∧ Below w.heap.size w w' := by
  obtain ⟨a, la, ha1, ha2, hCa, hma⟩ := cut 300 (by omega) (by omega) lca hra _BA.1
  obtain ⟨b, lb, hb1, hb2, hCb, hmb⟩ := cut 300 (by omega) (by omega) lcb hrb _BB.1
  have hla := _BA.1
  have hlb := _BB.1
  have HA := Aside0.mk hCa
  have HB := Aside0.mk hCb
  have HMA := Aside0.mk hma
  have HMB := Aside0.mk hmb
  clear hra hrb _BA _BB hCa hCb hma hmb
  go_enter Try.func4, Try.ntmps4
  go_wp2_with fail
  refine (begunC (Below.refl w.heap.size w)).mono ?_
  rintro e w1 ⟨rfl, hb⟩
  have HB1 := Aside0.mk hb
  have hma := HMA.out
  have hmb := HMB.out
  have h1 : (a.length : Int) ≤ (ca : Int) := by omega
  have h2 : (b.length : Int) ≤ (cb : Int) := by omega
  clear hb
  go_wp2_with fail
  go_region
  have HB2 := Aside0.mk (below_drew HB1.out)
  generalize w1.drew = w2 at HB2 ⊢
  clear hma hmb h1 h2 HMA HMB HB1
  go_wp2_with fail
  refine (delta_calls w2 A ca a B cb b (Kd.C_below HA.out HB2.out) ha2 (Kd.C_below HB.out HB2.out) hb2 (by omega) (by omega)).mono ?_
  rintro e w3 ⟨D1, d1, rfl, hd1, hD1, hb⟩
  have HB3 := Aside0.mk (below_then HB2.out HB2.out.size hb)
  have HD3 := Aside0.mk hD1
  clear hb hD1 HB2
  go_wp2_with fail
  refine (patched_delta w3 A ca a b D1 d1 (Kd.C_below HA.out HB3.out) ha2 (by omega) HD3.out hd1).mono ?_
  rintro e w4 ⟨P1, p1, rfl, hp1, hP1, hb⟩
  have HB4 := Aside0.mk (below_then HB3.out HB3.out.size hb)
  have HP1 := Aside0.mk hP1
  have HD4 := Aside0.mk (Kd.C_below HD3.out hb)
  clear hb hP1 HB3 HD3
  go_wp2_with fail
  refine (Same_true b HP1.out (Kd.C_below HB.out HB4.out)).mono ?_
  rintro e w5 ⟨rfl, hb⟩
  have HB5 := Aside0.mk (below_then HB4.out HB4.out.size hb)
  have HD5 := Aside0.mk (Kd.C_below HD4.out hb)
  clear hb HB4 HD4 HP1
  go_wp2_with fail
  refine (delta_calls w5 B cb b B cb b (Kd.C_below HB.out HB5.out) hb2 (Kd.C_below HB.out HB5.out) hb2 (by omega) (by omega)).mono ?_
  rintro e w6 ⟨D2, d2, rfl, _, _, hb⟩
  rw [delta_self]
  have HB6 := Aside0.mk (below_then HB5.out HB5.out.size hb)
  have HD6 := Aside0.mk (Kd.C_below HD5.out hb)
  clear hb HB5 HD5
  have hdl := Nat.le_trans (delta_length a b) (show b.length ≤ 300 by omega)
  have HNE := Aside0.mk (fun (j : Nat) (hj : j < (deltaF a b).length) => without_ne a b hj)
  have HFIT := Aside0.mk (delta_fit a b)
  generalize deltaF a b = l at hd1 HD6 hdl HNE HFIT ⊢
  by_cases h0 : i < 0
  · go_wp2_with fail
    refine (begunC HB6.out).mono ?_
    rintro e w7 ⟨rfl, hb⟩
    have HB7 := Aside0.mk hb
    clear hb
    go_wp2
    go_ret
    exact ⟨rfl, HB7.out⟩
  by_cases h9 : (l.length : Int) ≤ i
  · go_wp2_with fail
    refine (begunC HB6.out).mono ?_
    rintro e w7 ⟨rfl, hb⟩
    have HB7 := Aside0.mk hb
    clear hb
    go_wp2
    go_ret
    exact ⟨rfl, HB7.out⟩
  obtain ⟨k, rfl⟩ : ∃ k : Nat, i = (k : Int) := ⟨i.toNat, by omega⟩
  have hk : k < l.length := by omega
  have q3 : decide ((k : Int) < 0) = false := decide_eq_false (by omega)
  have q4 : decide ((l.length : Int) ≤ (k : Int)) = false := decide_eq_false (by omega)
  clear h0 h9 hi
  go_wp2_with fail
  have hLb : Below w6.heap.size w6 (w6.drew.alloc (.cells #[] 60)) := below_alloc (below_drew1 (Below.refl w6.heap.size w6)) _
  obtain ⟨v1, x1, D3, d3, x2, hx1, hB1, hx2, hB2, hd3, hD3⟩ := without_run w6 D1 d1 l k hk hdl hd1 HD6.out
  have q5 := cut_h38 D1 l.length d1 (k : Int) k rfl (Nat.le_of_lt hk) hd1
  have q6 := cut_l38 D1 l.length d1 ((k : Int) + 1) (k + 1) rfl hk hd1
  have q7 := wrap_k k (Nat.lt_of_lt_of_le hk hdl)
  obtain ⟨X, hX⟩ : ∃ X, X = (if d1 = k + 1 then D1 else D1.map (·.add ((k + 1) * 2))) := ⟨_, rfl⟩
  rw [← hX] at q6 hx2
  clear hX
  have hfit : Fit b.length (without l k) := without_fit HFIT.out k
  have hwl : (without l k).length ≤ 100000 := Nat.le_trans (without_sub l k).length_le (by omega)
  refine wp_eff (S := fun w' => Below w6.heap.size w6 w') [(0, false), (1, false), (2, false), (4, false), (5, false), (6, false), (8, false), (9, false), (10, false), (11, false), (3, true), (7, true), (12, true), (13, true), (14, false), (15, false), (16, false), (17, false), (18, false)] (by kernel_rfl) (by kernel_rfl) (below_drew1 (Below.refl _ _)) (fun _ _ d _ _ h => by cases d <;> exact h) ?_
  refine se_move rfl rfl rfl ?_
  refine se_move rfl rfl rfl ?_
  refine se_builtin rfl rfl rfl (fun w' hw => by go_simp; rfl) ?_
  refine se_move rfl rfl rfl ?_
  refine se_move rfl rfl rfl ?_
  refine se_slice rfl rfl rfl rfl rfl rfl (fun w' _ => q5 w') ?_
  refine se_move rfl rfl rfl ?_
  refine se_move rfl rfl rfl ?_
  refine se_bin (v := .int .i64 ((k : Int) + 1)) rfl rfl rfl rfl (fun w' hw => by go_simp) ?_
  refine se_slice rfl rfl rfl rfl rfl rfl (fun w' _ => q6 w') ?_
  refine se_lit (vs := []) rfl rfl rfl (lit_run38 _) hLb ?_
  refine se_made rfl rfl rfl hx1 hB1 ?_
  refine se_made rfl rfl rfl hx2 hB2 ?_
  refine se_call (vs := [.slice A a.length ca, .int .i64 (b.length : Int), .slice D3 (without l k).length d3]) rfl rfl Try.func15 (by kernel_rfl) rfl (by kernel_rfl) ?_
  refine (patched_calls x2 A ca a b.length D3 d3 (without l k) (Kd.C_below HA.out (below_then HB6.out HB6.out.size hB2)) ha2 (by omega) hD3 hd3 hfit hwl).mono ?_
  rintro e w7 ⟨P2, p2, rfl, hp2, hP2, hb⟩
  have HB7 := Aside0.mk (below_then HB6.out HB6.out.size (below_then hB2 hB2.size hb))
  have HP2 := Aside0.mk hP2
  refine ⟨_, rfl, below_then hB2 hB2.size hb, ?_⟩
  refine se_move rfl rfl rfl ?_
  refine se_un rfl rfl rfl rfl rfl (fun w' hw => by go_simp; with_reducible rfl) ?_
  refine se_un rfl rfl rfl rfl rfl (fun w' hw => by go_simp; with_reducible rfl) ?_
  refine se_assign rfl rfl rfl ?_
  refine se_assign rfl rfl rfl ?_
  intro _
  simp only [puts, Act.put, List.setIfInBounds_toArray, List.set_cons_zero, List.set_cons_succ]
  clear hLb q3 q4 q5 q6 q7 hx1 hB1 hx2 hB2 hD3 hfit hwl hb hP2
  go_wp2_with fail
  refine (begun_calls w7).mono ?_
  rintro e w8 ⟨rfl, hb⟩
  have HB8 := Aside0.mk (below_then HB7.out HB7.out.size hb)
  have HP28 := Aside0.mk (Kd.C_below HP2.out hb)
  clear hb HB7 HP2
  go_wp2_with fail
  have hne : patchF b.length a (without l k) ≠ b := HNE.out k hk
  have hln : (patchF b.length a (without l k)).length = b.length := patch_length _ _ _
  have hsm := same_calls w8 P2 p2 (patchF b.length a (without l k)) B cb b (by rw [hln]; exact reads_of HP28.out) (reads_of (Kd.C_below HB.out HB8.out))
  rw [hln, decide_eq_false hne] at hsm
  refine hsm.mono ?_
  rintro e w9 ⟨rfl, hb⟩
  have HB9 := Aside0.mk (below_then HB8.out HB8.out.size hb)
  clear hb hsm hln hne HB8 HP28
  go_wp2
  go_ret
  exact ⟨rfl, HB9.out⟩
end Go.Proofs.Ytblalidpeccabab.Sn
