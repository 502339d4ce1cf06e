/- BrkWays: the call answers true, whatever comes in. -/
import Derived.Test.YtmageoieajhhdaaDoorBkS
import Derived.Test.YtmageoieajhhdaaDoorBkT
namespace Go.Proofs.YtmageoieajhhdaaDoor.Bk
open Go Go.RowKit Go.Proofs.YtmageoieajhhdaaDoorW.PrintWords Go.Proofs.YtmageoieajhhdaaDoorW.PrintLast Go.Proofs.YtmageoieajhhdaaDoorW.PrintMore Go.Proofs.YtmageoieajhhdaaDoor.PBrkWritten Go.Proofs.YtmageoieajhhdaaDoor.RegionVal
open Go.Lib hiding intOf
set_option linter.unusedVariables false
set_option linter.unusedSimpArgs false
set_option maxHeartbeats 8000000 in
set_option maxRecDepth 100000 in
theorem brkWays_walk (W : World) (t : Bs) (L : List Vs) (m : Int) (A : Option Addr) (c : Nat) (h : Kd.C kL W A L.length L) (hT : Tab W) :
    Calls Tryd.prog 4 #[.string (bs t), .slice A L.length c, .int .i64 m] W fun e W' => e = .returned (.bool true) ∧ Below W.heap.size W W' := by
  have HC := Aside0.mk h
  have HT := Aside0.mk hT
  have hln := h.2.1
  clear h hT
  obtain ⟨a, is, e1, h1⟩ : ∃ a is e1, firstF t L m false = (a, is, e1) := ⟨_, _, _, rfl⟩
  obtain ⟨b, was, e2, h2⟩ : ∃ b was e2, firstF t L m true = (b, was, e2) := ⟨_, _, _, rfl⟩
  have H1 := Aside0.mk h1
  have H2 := Aside0.mk h2
  clear h1 h2
  go_enter Tryd.func4, Tryd.ntmps4
  go_upto_region 4 with (first
    | (go_at_call 9; refine (bbegun_calls _ HT.out).mono ?_; rintro e W1 ⟨rfl, hb1⟩; have HB1 := Aside0.mk hb1; clear hb1)
    | (go_at_call 12; refine (First_calls t L m false _ A c (Kd.C_below HC.out HB1.out)).mono ?_; rintro e W2 ⟨rfl, hb2⟩; rw [H1.out]; have HB2 := Aside0.mk (below_step HB1.out hb2); clear hb2)
    | fail)
  go_upto_region 4 with (first
    | (go_at_call 9; refine (bbegun_calls _ HT.out).mono ?_; rintro e W1 ⟨rfl, hb1⟩; have HB1 := Aside0.mk hb1; clear hb1)
    | (go_at_call 12; refine (First_calls t L m false _ A c (Kd.C_below HC.out HB1.out)).mono ?_; rintro e W2 ⟨rfl, hb2⟩; rw [H1.out]; have HB2 := Aside0.mk (below_step HB1.out hb2); clear hb2)
    | fail)
  go_upto_region 5 with (first
    | (go_at_call 12; refine (First_calls t L m true _ A c (Kd.C_below HC.out HB2.out)).mono ?_; rintro e W3 ⟨rfl, hb3⟩; rw [H2.out]; have HB3 := Aside0.mk (below_step HB2.out hb3); clear hb3)
    | fail)
  by_cases he : e1 = 0 ∧ e2 = 0
  · obtain ⟨rfl, rfl⟩ := he
    have hw := ways_ok H1.out H2.out
    have hm0 := hw.m0
    have hm1 := hw.m1
    have ha0 := hw.a0
    have hb0 := hw.b0
    have HZ := Aside0.mk hw.zero
    have HS := Aside0.mk hw.same
    clear hw H1 H2
    rcases was with _ | _ <;> rcases is with _ | _
    · have hlo1 : -1 ≤ ((-1) : Int) ∧ ((-1) : Int) ≤ m := by omega
      have hhi1 : m ≤ (L.length : Int) ∧ (L.length : Int) ≤ (L.length : Int) := by omega
      have HZ2 := Aside0.mk (show ∀ j : Nat, ((-1) : Int) < (j : Int) → (j : Int) < (L.length : Int) → valueF t (L.getD j []) = (0, 0) from fun j h1 h2 => HZ.out j (by simpa using h1) (by simpa using h2))
      clear HZ
      go_wp2_with (fail)
      go_loopw [15] (fun v15 wr => ∃ i : Int, v15 = .int .i64 i ∧ ((-1) : Int) < i ∧ i ≤ (L.length : Int) ∧ Aside0 (Below W.heap.size W wr)) (fun v15 _ => ((L.length : Int) - intOf v15).toNat)
      case atStart => exact ⟨(-1) + 1, by go_num, by omega, by omega, HB3⟩
      case round =>
        clear HB3
        obtain ⟨i, rfl, hi0, hi1, HB⟩ := hrel
        by_cases hlt : i < (L.length : Int)
        · obtain ⟨j, rfl⟩ : ∃ j : Nat, i = (j : Int) := ⟨i.toNat, by omega⟩
          have hjl : j < L.length := by omega
          have zz : (j : Int) < (L.length : Int) := by omega
          obtain ⟨ad, A2, c2, rfl, ek, hcl⟩ := atL (Kd.C_below HC.out HB.out) j hjl
          have hv := HZ2.out j hi0 hlt
          have hg : L.getD j [] = L[j] := by simp [List.getD_eq_getElem?_getD, hjl]
          rw [hg] at hv
          generalize L[j] = l at ek hcl hv hg
          have HCL := Aside0.mk hcl
          have HV := Aside0.mk hv
          clear hg hcl hv
          go_wp2_with (first
            | (go_at_call 11; refine (Value_calls t l _ A2 c2 HCL.out).mono ?_; rintro e W4 ⟨rfl, hb4⟩; rw [HV.out]; have HB4 := Aside0.mk (below_step HB.out hb4); clear hb4)
            | fail)
          go_roundw
          case rel => exact ⟨(j : Int) + 1, by go_num, by omega, by omega, HB4⟩
          case measure => simp [intOf]; omega
        · go_wp2_with (first
            | (go_at_call 9; refine (bbegun_calls _ (Tab.below HT.out HB.out)).mono ?_; rintro e W5 ⟨rfl, hb5⟩; have HB5 := Aside0.mk (below_step HB.out hb5); clear hb5)
            | fail)
          exact bodyPost_ret (v := .bool true) (by simp [results, Tryd.f4, go_sem]) rfl ⟨rfl, HB5.out⟩
    · have hlo1 : -1 ≤ ((-1) : Int) ∧ ((-1) : Int) ≤ m := by omega
      have hhi1 : m ≤ a ∧ a ≤ (L.length : Int) := by have := ha0 rfl; omega
      have HZ2 := Aside0.mk (show ∀ j : Nat, ((-1) : Int) < (j : Int) → (j : Int) < a → valueF t (L.getD j []) = (0, 0) from fun j h1 h2 => HZ.out j (by simpa using h1) (by simpa using h2))
      clear HZ
      go_wp2_with (fail)
      go_loopw [15] (fun v15 wr => ∃ i : Int, v15 = .int .i64 i ∧ ((-1) : Int) < i ∧ i ≤ (L.length : Int) ∧ Aside0 (Below W.heap.size W wr)) (fun v15 _ => ((L.length : Int) - intOf v15).toNat)
      case atStart => exact ⟨(-1) + 1, by go_num, by omega, by omega, HB3⟩
      case round =>
        clear HB3
        obtain ⟨i, rfl, hi0, hi1, HB⟩ := hrel
        by_cases hlt : i < a
        · obtain ⟨j, rfl⟩ : ∃ j : Nat, i = (j : Int) := ⟨i.toNat, by omega⟩
          have hjl : j < L.length := by omega
          have zz : (j : Int) < (L.length : Int) := by omega
          obtain ⟨ad, A2, c2, rfl, ek, hcl⟩ := atL (Kd.C_below HC.out HB.out) j hjl
          have hv := HZ2.out j hi0 hlt
          have hg : L.getD j [] = L[j] := by simp [List.getD_eq_getElem?_getD, hjl]
          rw [hg] at hv
          generalize L[j] = l at ek hcl hv hg
          have HCL := Aside0.mk hcl
          have HV := Aside0.mk hv
          clear hg hcl hv
          go_wp2_with (first
            | (go_at_call 11; refine (Value_calls t l _ A2 c2 HCL.out).mono ?_; rintro e W4 ⟨rfl, hb4⟩; rw [HV.out]; have HB4 := Aside0.mk (below_step HB.out hb4); clear hb4)
            | fail)
          go_roundw
          case rel => exact ⟨(j : Int) + 1, by go_num, by omega, by omega, HB4⟩
          case measure => simp [intOf]; omega
        · go_wp2_with (first
            | (go_at_call 9; refine (bbegun_calls _ (Tab.below HT.out HB.out)).mono ?_; rintro e W5 ⟨rfl, hb5⟩; have HB5 := Aside0.mk (below_step HB.out hb5); clear hb5)
            | fail)
          exact bodyPost_ret (v := .bool true) (by have hq : (a == m) = false := (by simpa using HS.out); simp [results, Tryd.f4, go_sem, hq]) rfl ⟨rfl, HB5.out⟩
    · have hlo1 : -1 ≤ (b : Int) ∧ (b : Int) ≤ m := by have := hb0 rfl; omega
      have hhi1 : m ≤ (L.length : Int) ∧ (L.length : Int) ≤ (L.length : Int) := by omega
      have HZ2 := Aside0.mk (show ∀ j : Nat, (b : Int) < (j : Int) → (j : Int) < (L.length : Int) → valueF t (L.getD j []) = (0, 0) from fun j h1 h2 => HZ.out j (by simpa using h1) (by simpa using h2))
      clear HZ
      go_wp2_with (fail)
      go_loopw [15] (fun v15 wr => ∃ i : Int, v15 = .int .i64 i ∧ (b : Int) < i ∧ i ≤ (L.length : Int) ∧ Aside0 (Below W.heap.size W wr)) (fun v15 _ => ((L.length : Int) - intOf v15).toNat)
      case atStart => exact ⟨b + 1, by go_num, by omega, by omega, HB3⟩
      case round =>
        clear HB3
        obtain ⟨i, rfl, hi0, hi1, HB⟩ := hrel
        by_cases hlt : i < (L.length : Int)
        · obtain ⟨j, rfl⟩ : ∃ j : Nat, i = (j : Int) := ⟨i.toNat, by omega⟩
          have hjl : j < L.length := by omega
          have zz : (j : Int) < (L.length : Int) := by omega
          obtain ⟨ad, A2, c2, rfl, ek, hcl⟩ := atL (Kd.C_below HC.out HB.out) j hjl
          have hv := HZ2.out j hi0 hlt
          have hg : L.getD j [] = L[j] := by simp [List.getD_eq_getElem?_getD, hjl]
          rw [hg] at hv
          generalize L[j] = l at ek hcl hv hg
          have HCL := Aside0.mk hcl
          have HV := Aside0.mk hv
          clear hg hcl hv
          go_wp2_with (first
            | (go_at_call 11; refine (Value_calls t l _ A2 c2 HCL.out).mono ?_; rintro e W4 ⟨rfl, hb4⟩; rw [HV.out]; have HB4 := Aside0.mk (below_step HB.out hb4); clear hb4)
            | fail)
          go_roundw
          case rel => exact ⟨(j : Int) + 1, by go_num, by omega, by omega, HB4⟩
          case measure => simp [intOf]; omega
        · go_wp2_with (first
            | (go_at_call 9; refine (bbegun_calls _ (Tab.below HT.out HB.out)).mono ?_; rintro e W5 ⟨rfl, hb5⟩; have HB5 := Aside0.mk (below_step HB.out hb5); clear hb5)
            | fail)
          exact bodyPost_ret (v := .bool true) (by have hq : (b == m) = false := (by simpa using HS.out); simp [results, Tryd.f4, go_sem, hq]) rfl ⟨rfl, HB5.out⟩
    · have hlo1 : -1 ≤ (b : Int) ∧ (b : Int) ≤ m := by have := hb0 rfl; omega
      have hhi1 : m ≤ a ∧ a ≤ (L.length : Int) := by have := ha0 rfl; omega
      have HZ2 := Aside0.mk (show ∀ j : Nat, (b : Int) < (j : Int) → (j : Int) < a → valueF t (L.getD j []) = (0, 0) from fun j h1 h2 => HZ.out j (by simpa using h1) (by simpa using h2))
      clear HZ
      go_wp2_with (fail)
      go_loopw [15] (fun v15 wr => ∃ i : Int, v15 = .int .i64 i ∧ (b : Int) < i ∧ i ≤ (L.length : Int) ∧ Aside0 (Below W.heap.size W wr)) (fun v15 _ => ((L.length : Int) - intOf v15).toNat)
      case atStart => exact ⟨b + 1, by go_num, by omega, by omega, HB3⟩
      case round =>
        clear HB3
        obtain ⟨i, rfl, hi0, hi1, HB⟩ := hrel
        by_cases hlt : i < a
        · obtain ⟨j, rfl⟩ : ∃ j : Nat, i = (j : Int) := ⟨i.toNat, by omega⟩
          have hjl : j < L.length := by omega
          have zz : (j : Int) < (L.length : Int) := by omega
          obtain ⟨ad, A2, c2, rfl, ek, hcl⟩ := atL (Kd.C_below HC.out HB.out) j hjl
          have hv := HZ2.out j hi0 hlt
          have hg : L.getD j [] = L[j] := by simp [List.getD_eq_getElem?_getD, hjl]
          rw [hg] at hv
          generalize L[j] = l at ek hcl hv hg
          have HCL := Aside0.mk hcl
          have HV := Aside0.mk hv
          clear hg hcl hv
          go_wp2_with (first
            | (go_at_call 11; refine (Value_calls t l _ A2 c2 HCL.out).mono ?_; rintro e W4 ⟨rfl, hb4⟩; rw [HV.out]; have HB4 := Aside0.mk (below_step HB.out hb4); clear hb4)
            | fail)
          go_roundw
          case rel => exact ⟨(j : Int) + 1, by go_num, by omega, by omega, HB4⟩
          case measure => simp [intOf]; omega
        · go_wp2_with (first
            | (go_at_call 9; refine (bbegun_calls _ (Tab.below HT.out HB.out)).mono ?_; rintro e W5 ⟨rfl, hb5⟩; have HB5 := Aside0.mk (below_step HB.out hb5); clear hb5)
            | fail)
          exact bodyPost_ret (v := .bool true) (by have hq : (a == m) = (b == m) := (by simpa using HS.out); simp [results, Tryd.f4, go_sem, hq]) rfl ⟨rfl, HB5.out⟩
  · by_cases z1 : e1 = 0
    · subst z1
      have z2 : e2 ≠ 0 := fun h => he ⟨rfl, h⟩
      obtain rfl : was = false := first_err H2.out z2
      clear H1 H2 he
      have n2 : (e2 == (0 : Int)) = false := by simpa using z2
      go_wp2_with (first
        | (go_at_call 9; refine (bbegun_calls _ (Tab.below HT.out HB3.out)).mono ?_; rintro e W5 ⟨rfl, hb5⟩; have HB5 := Aside0.mk (below_step HB3.out hb5); clear hb5)
        | fail)
      exact bodyPost_ret (v := .bool true) (by simp [results, Tryd.f4, go_sem, n2]) rfl ⟨rfl, HB5.out⟩
    · obtain rfl : is = false := first_err H1.out z1
      have n1 : (e1 == (0 : Int)) = false := by simpa using z1
      by_cases z2 : e2 = 0
      · subst z2
        clear H1 H2 he
        go_wp2_with (first
          | (go_at_call 9; refine (bbegun_calls _ (Tab.below HT.out HB3.out)).mono ?_; rintro e W5 ⟨rfl, hb5⟩; have HB5 := Aside0.mk (below_step HB3.out hb5); clear hb5)
          | fail)
        exact bodyPost_ret (v := .bool true) (by simp [results, Tryd.f4, go_sem, n1]) rfl ⟨rfl, HB5.out⟩
      · obtain rfl : was = false := first_err H2.out z2
        have n2 : (e2 == (0 : Int)) = false := by simpa using z2
        clear H1 H2 he
        go_wp2_with (first
          | (go_at_call 9; refine (bbegun_calls _ (Tab.below HT.out HB3.out)).mono ?_; rintro e W5 ⟨rfl, hb5⟩; have HB5 := Aside0.mk (below_step HB3.out hb5); clear hb5)
          | fail)
        exact bodyPost_ret (v := .bool true) (by simp [results, Tryd.f4, go_sem, n1, n2]) rfl ⟨rfl, HB5.out⟩
end Go.Proofs.YtmageoieajhhdaaDoor.Bk
