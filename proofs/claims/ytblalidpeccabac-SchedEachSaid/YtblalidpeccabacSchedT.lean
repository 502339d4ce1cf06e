/- SchedEach: its walk. Printed by gensched.py. -/
import Derived.Test.YtblalidpeccabacSchedS
import Derived.Test.YtblalidpeccabacSchedK
namespace Go.Proofs.Ytblalidpeccabac.Sd
open Go Go.RowKit Go.Lib Go.Proofs.YtblalidpeccabacW.PrintWords Go.Proofs.YtblalidpeccabacW.PrintLast Go.Proofs.YtblalidpeccabacW.PrintMore Go.Proofs.Ytblalidpeccabac.PSchedBack Go.Proofs.Ytblalidpeccabac.Bs Go.Proofs.Ytblalidpeccabac.RegionVal
set_option linter.unusedVariables false
set_option linter.unusedSimpArgs false

theorem each_nth (parts : List Int) (n : Int) : ∃ x e, nthF 100 parts n = some (x, e) ∧ (e = 0 → ∃ (p q : List Nat) (m : Nat), parts = zl p ∧ Ok p ∧ sched_right.f 100 (zl p) = some 0 ∧ x = zl q ∧ n = (m : Int) ∧ rk p q = some m) := by
  obtain ⟨e, h1, h2⟩ := right_eq parts
  by_cases he : e = 0
  · subst he
    obtain ⟨p, rfl, hp⟩ := h2 rfl
    by_cases hn : 0 ≤ n ∧ n < ((M p : Nat) : Int)
    · obtain ⟨q, h3, h4⟩ := nth_in hp h1 n.toNat (by omega)
      have hnn : ((n.toNat : Nat) : Int) = n := by omega
      rw [hnn] at h3
      exact ⟨zl q, 0, h3, fun _ => ⟨p, q, n.toNat, rfl, hp, h1, rfl, hnn.symm, h4⟩⟩
    · exact ⟨[], 1, nth_out hp h1 n hn, fun h => absurd h (by decide)⟩
  · exact ⟨[], e, nth_bad h1 he n, fun h => absurd h he⟩
theorem each_rank (parts l : List Int) : ∃ k f, rankF 100 parts l = some (k, f) ∧ (f ≠ 0 → k = 0) ∧ (f = 0 → nthF 100 parts k = some (l, 0)) := by
  obtain ⟨e, h1, h2⟩ := right_eq parts
  by_cases he : e = 0
  · subst he
    obtain ⟨p, rfl, hp⟩ := h2 rfl
    rcases rank_in hp h1 l with ⟨q, r, h3, h4, h5⟩ | h5
    · refine ⟨(r : Int), 0, h5, fun h => absurd rfl h, fun _ => ?_⟩
      obtain ⟨q', h6, h7⟩ := nth_in hp h1 r (rk_lt q p r h4).1
      rw [h6, h3, rk_inj q' q p r h7 h4]
    · exact ⟨0, 3, h5, fun _ => rfl, fun h => absurd h (by decide)⟩
  · exact ⟨0, e, rank_bad h1 he l, fun _ => rfl, fun h => absurd h he⟩
theorem each_step {p q q' : List Nat} {m : Nat} (h : rk p q = some m) (h' : rk p q' = some (m + 1)) : ∃ d, d < (zl q).length ∧ (zl q').length = (zl q).length ∧ (∀ j, j < d → (zl q).getD j 0 = (zl q').getD j 0) ∧ (zl q).getD d 0 < (zl q').getD d 0 := by
  obtain ⟨d, h1, h2, h3, h4⟩ := rk_rise q q' p m (m + 1) h h' (by omega)
  refine ⟨d, by rw [zl_length]; exact h1, by rw [zl_length, zl_length]; exact h2.symm, fun j hj => ?_, ?_⟩
  · rw [zl_getD, zl_getD, h3 j hj]
  · rw [zl_getD, zl_getD]; omega
theorem count_b {p : List Nat} (h : Ok p) (hr : sched_right.f 100 (zl p) = some 0) : sched_Count.f 100 (zl p) = some (((M p : Nat) : Int), 0) := by
  unfold sched_Count.f
  rw [hr]
  dsimp only [Option.bind]
  rw [if_pos rfl, count_eq h]

set_option maxHeartbeats 32000000 in
set_option maxRecDepth 100000 in
theorem schedEach_walk (w : World) (A1 : Option Addr) (c1 : Nat) (parts : List Int) (lc1 : parts.length ≤ c1) (h1 : Kd.C kI w A1 parts.length parts) (n : Int) (A2 : Option Addr) (c2 : Nat) (l : List Int) (lc2 : l.length ≤ c2) (h2 : Kd.C kI w A2 l.length l) :
    Calls Try.prog 6 #[.slice A1 parts.length c1, .int .i64 n, .slice A2 l.length c2] w fun e w' => e = .returned (.bool true) ∧ Below w.heap.size w w' := by
  have HP := Aside0.mk h1
  have HL := Aside0.mk h2
  obtain ⟨k, f, hk⟩ := each_rank parts l
  have HRK := Aside0.mk hk
  obtain ⟨x, e, hx, hxe⟩ := each_nth parts n
  have HNX := Aside0.mk hx
  have HXE := Aside0.mk hxe
  clear h1 h2 hk hx hxe
  go_enter Try.func6, Try.ntmps6
  go_wp2_with fail
  refine (begun_calls w).mono ?_
  rintro en w1 ⟨rfl, hb⟩
  have HB1 := Aside0.mk hb
  clear hb
  go_wp2_with fail
  refine (nth_calls 100 _ A1 c1 parts n x e (Kd.C_below HP.out HB1.out) lc1 HNX.out).mono ?_
  rintro en w2 ⟨v7, rfl, hO, hb⟩
  have HB2 := Aside0.mk (below_then HB1.out HB1.out.size hb)
  have HO2 := Aside0.mk hO
  clear hb hO HB1
  by_cases he : e = 0
  · subst he
    obtain ⟨p, q, m, hp, hok, hri, rfl, rfl, hq⟩ := HXE.out rfl
    have HPP := Aside0.mk hp
    have HOK := Aside0.mk hok
    have HRI := Aside0.mk hri
    have HQ := Aside0.mk hq
    have HMC := Aside0.mk (rk_lt q p m hq).1
    have HMS := Aside0.mk (M_small hok)
    have HRQ := Aside0.mk (show rankF 100 parts (zl q) = some ((m : Int), 0) by rw [hp]; exact rank_of hok hri hq)
    have HCT := Aside0.mk (show sched_Count.f 100 parts = some (((M p : Nat) : Int), 0) by rw [hp]; exact count_b hok hri)
    obtain ⟨A7, d7, rfl, hd7, hr7⟩ := own_rd HO2.out
    have HR7 := Aside0.mk hr7
    clear hp hok hri hq hr7 HXE HNX HO2
    have hw : IntKind.i64.wrap ((m : Int) + 1) = ((m + 1 : Nat) : Int) := by have h1 := HMC.out; have h2 := HMS.out; rw [IntKind.wrap_i64]; omega
    go_wp2_with fail
    refine (rank_calls 100 _ A1 c1 parts A7 d7 (zl q) (m : Int) 0 (Kd.C_below HP.out HB2.out) lc1 (C_int HR7.out) hd7 HRQ.out).mono ?_
    rintro en w3 ⟨rfl, hb⟩
    have HB3 := Aside0.mk (below_then HB2.out HB2.out.size hb)
    have HR73 := Aside0.mk (HR7.out.below hb)
    clear hb HR7 HB2 HRQ
    go_wp2_with fail
    by_cases hlast : m + 1 < M p
    · obtain ⟨q', h3, h4⟩ := nth_in HOK.out HRI.out (m + 1) hlast
      rw [← HPP.out] at h3
      obtain ⟨d, s1, s2, s3, s4⟩ := each_step HQ.out h4
      have HNM := Aside0.mk h3
      have HS3 := Aside0.mk s3
      have HS4 := Aside0.mk s4
      clear h3 h4 s3 s4
      refine (nth_calls 100 _ A1 c1 parts ((m + 1 : Nat) : Int) (zl q') 0 (Kd.C_below HP.out HB3.out) lc1 HNM.out).mono ?_
      rintro en w4 ⟨v11, rfl, hO, hb⟩
      have HB4 := Aside0.mk (below_then HB3.out HB3.out.size hb)
      have HR74 := Aside0.mk (HR73.out.below hb)
      obtain ⟨A11, d11, rfl, hd11, hr11⟩ := own_rd hO
      have HR11 := Aside0.mk hr11
      have HLN := Aside0.mk s2
      clear hb hO hr11 HR73 HB3
      rw [s2] at hd11 ⊢
      go_wp2_with fail
      refine (sched_Count.calls 100 A1 c1 parts _ 0 _ (Kd.C_below HP.out HB4.out) lc1 HCT.out).mono ?_
      rintro en w5 ⟨rfl, hb⟩
      have HB5 := Aside0.mk (below_then HB4.out HB4.out.size hb)
      have HR75 := Aside0.mk (HR74.out.below hb)
      have HR115 := Aside0.mk (HR11.out.below hb)
      clear hb HR74 HR11 HB4 s2
      generalize M p = C at hlast HMC HMS HCT ⊢
      have hlast1 : ((m + 1 : Nat) : Int) < (C : Int) := by omega
      have hlast2 : (m : Int) + 1 < (C : Int) := by omega
      generalize zl q = xs at *
      generalize zl q' = ys at *
      obtain ⟨L, hL⟩ : ∃ L, L = xs.length := ⟨_, rfl⟩
      have HLX := Aside0.mk (show xs.length = L ∧ ys.length = L from ⟨hL.symm, HLN.out.trans hL.symm⟩)
      rw [← hL] at s1 hd7 hd11 ⊢
      have hL63 : L ≤ 9223372036854775807 := by rw [hL]; exact HR75.out.2.1
      clear hL
      go_wp2_with fail
      go_loopw [15] (fun v15 wq => ∃ i : Nat, v15 = .int .i64 (i : Int) ∧ i ≤ d ∧ Aside0 (Below w5.heap.size w5 wq)) (fun v15 _ => d - (intOf v15).toNat)
      case atStart => exact ⟨0, rfl, Nat.zero_le _, ⟨Below.refl _ _⟩⟩
      case round =>
        obtain ⟨i, rfl, hi, HBq⟩ := hrel
        have hiL : i < L := by omega
        have hiL1 : (i : Int) < (L : Int) := by omega
        obtain ⟨ad, rfl, a0⟩ := C_cell (C_int (HR75.out.below HBq.out)) i (by rw [HLX.out.1]; exact hiL)
        obtain ⟨bd, rfl, b0⟩ := C_cell (C_int (HR115.out.below HBq.out)) i (by rw [HLX.out.2]; exact hiL)
        have hya : xs.getD i 0 = xs[i]'(by rw [HLX.out.1]; exact hiL) := getD_is (by rw [HLX.out.1]; exact hiL)
        have hyb : ys.getD i 0 = ys[i]'(by rw [HLX.out.2]; exact hiL) := getD_is (by rw [HLX.out.2]; exact hiL)
        rw [← hya] at a0
        rw [← hyb] at b0
        have HS3i := Aside0.mk (HS3.out i)
        have HS4i := Aside0.mk (show i = d → xs.getD i 0 < ys.getD i 0 from fun e => by rw [e]; exact HS4.out)
        generalize xs.getD i 0 = y at a0 HS3i HS4i hya
        generalize ys.getD i 0 = z at b0 HS3i HS4i hyb
        have HA := Aside0.mk a0
        have HBB := Aside0.mk b0
        clear hya hyb a0 b0
        by_cases hid : i < d
        · have hyz : y = z := HS3i.out hid
          subst hyz
          clear HS3i HS4i
          go_wp2_with fail
          refine wp_val (S := fun w' => Below wr.heap.size wr w') (by kernel_rfl) (by kernel_rfl) (below_drew (Below.refl _ _)) ?_
          repeat (first
            | refine st_skip rfl ?_
            | refine st_move rfl rfl ?_
            | refine st_assign rfl rfl ?_
            | refine st_pickT rfl rfl rfl ?_
            | refine st_pickF rfl rfl rfl ?_
            | refine st_bin rfl rfl rfl (fun w' hw => by go_simp; rfl) ?_
            | refine st_indexAddr rfl rfl rfl (fun w' hw => by go_simp; rfl) ?_
            | refine st_un rfl rfl rfl rfl (fun w' hw => by go_simp; rfl) ?_
            | refine st_builtin rfl rfl (fun w' hw => by go_simp; rfl) ?_
            | refine st_slice rfl rfl rfl rfl rfl (fun w' hw => by go_simp; rfl) ?_
            | refine st_un rfl rfl rfl rfl (fun w' hw => by have x1 := (hw.cell (World.block_lt_of_cell? wr _ HA.out)).trans HA.out; go_simp; rfl) ?_
            | refine st_un rfl rfl rfl rfl (fun w' hw => by have x1 := (hw.cell (World.block_lt_of_cell? wr _ HBB.out)).trans HBB.out; go_simp; rfl) ?_)
          intro w6 hb6
          simp only [puts, Act.put, List.setIfInBounds_toArray, List.set_cons_zero, List.set_cons_succ]
          have HB6 := Aside0.mk (below_then HBq.out HBq.out.size hb6)
          clear hb6 HBq
          go_wp2
          go_roundw
          case rel => exact ⟨i + 1, by go_num, hid, HB6⟩
          case measure => simp [intOf]; omega
        · have hyz : y < z := HS4i.out (by omega)
          have d1 : (y == z) = false := beq_eq_false_iff_ne.2 (by omega)
          have d2 : decide (z < y) = false := decide_eq_false (by omega)
          have d3 : ((i : Int) == (L : Int)) = false := beq_eq_false_iff_ne.2 (by omega)
          clear HS3i HS4i hyz
          go_wp2_with fail
          refine wp_val (S := fun w' => Below wr.heap.size wr w') (by kernel_rfl) (by kernel_rfl) (below_drew (Below.refl _ _)) ?_
          repeat (first
            | refine st_skip rfl ?_
            | refine st_move rfl rfl ?_
            | refine st_assign rfl rfl ?_
            | refine st_pickT rfl rfl rfl ?_
            | refine st_pickF rfl rfl rfl ?_
            | refine st_bin rfl rfl rfl (fun w' hw => by go_simp; rfl) ?_
            | refine st_indexAddr rfl rfl rfl (fun w' hw => by go_simp; rfl) ?_
            | refine st_un rfl rfl rfl rfl (fun w' hw => by go_simp; rfl) ?_
            | refine st_builtin rfl rfl (fun w' hw => by go_simp; rfl) ?_
            | refine st_slice rfl rfl rfl rfl rfl (fun w' hw => by go_simp; rfl) ?_
            | refine st_un rfl rfl rfl rfl (fun w' hw => by have x1 := (hw.cell (World.block_lt_of_cell? wr _ HA.out)).trans HA.out; go_simp; rfl) ?_
            | refine st_un rfl rfl rfl rfl (fun w' hw => by have x1 := (hw.cell (World.block_lt_of_cell? wr _ HBB.out)).trans HBB.out; go_simp; rfl) ?_)
          intro w6 hb6
          simp only [puts, Act.put, List.setIfInBounds_toArray, List.set_cons_zero, List.set_cons_succ]
          have HB6 := Aside0.mk (below_then HBq.out HBq.out.size hb6)
          have HA6 := Aside0.mk ((hb6.cell (World.block_lt_of_cell? wr _ HA.out)).trans HA.out)
          have HBB6 := Aside0.mk ((hb6.cell (World.block_lt_of_cell? wr _ HBB.out)).trans HBB.out)
          clear hb6 HBq HA HBB
          go_wp2_with fail
          refine wp_val (S := fun w' => Below w6.heap.size w6 w') (by kernel_rfl) (by kernel_rfl) (below_drew (Below.refl _ _)) ?_
          repeat (first
            | refine st_skip rfl ?_
            | refine st_move rfl rfl ?_
            | refine st_assign rfl rfl ?_
            | refine st_pickT rfl rfl rfl ?_
            | refine st_pickF rfl rfl rfl ?_
            | refine st_bin rfl rfl rfl (fun w' hw => by go_simp; rfl) ?_
            | refine st_indexAddr rfl rfl rfl (fun w' hw => by go_simp; rfl) ?_
            | refine st_un rfl rfl rfl rfl (fun w' hw => by go_simp; rfl) ?_
            | refine st_builtin rfl rfl (fun w' hw => by go_simp; rfl) ?_
            | refine st_slice rfl rfl rfl rfl rfl (fun w' hw => by go_simp; rfl) ?_
            | refine st_un rfl rfl rfl rfl (fun w' hw => by have x1 := (hw.cell (World.block_lt_of_cell? w6 _ HA6.out)).trans HA6.out; go_simp; rfl) ?_
            | refine st_un rfl rfl rfl rfl (fun w' hw => by have x1 := (hw.cell (World.block_lt_of_cell? w6 _ HBB6.out)).trans HBB6.out; go_simp; rfl) ?_)
          intro w7 hb7
          simp only [puts, Act.put, List.setIfInBounds_toArray, List.set_cons_zero, List.set_cons_succ]
          have HBz := Aside0.mk (below_then HB5.out HB5.out.size (below_then HB6.out HB6.out.size hb7))
          clear hb7 HB6 HA6 HBB6 d1 d2 d3
          go_wp2_with fail
          refine (rank_calls 100 _ A1 c1 parts A2 c2 l k f (Kd.C_below HP.out HBz.out) lc1 (Kd.C_below HL.out HBz.out) lc2 HRK.out.1).mono ?_
          rintro en wa ⟨rfl, hb⟩
          have HBa := Aside0.mk (below_then HBz.out HBz.out.size hb)
          clear hb HBz
          by_cases hf : f = 0
          · subst hf
            have HNK := Aside0.mk (HRK.out.2.2 rfl)
            go_wp2_with fail
            refine (nth_calls 100 _ A1 c1 parts k l 0 (Kd.C_below HP.out HBa.out) lc1 HNK.out).mono ?_
            rintro en wb ⟨vb, rfl, hO, hb⟩
            have HBb := Aside0.mk (below_then HBa.out HBa.out.size hb)
            obtain ⟨Ab, db, rfl, hdb, hrb⟩ := own_rd hO
            have HRb := Aside0.mk hrb
            clear hb hO hrb HBa
            go_wp2_with fail
            refine (begun_calls _).mono ?_
            rintro en wc ⟨rfl, hb⟩
            have HBc := Aside0.mk (below_then HBb.out HBb.out.size hb)
            have HRc := Aside0.mk (HRb.out.below hb)
            clear hb HBb HRb
            go_wp2_with fail
            refine (same_calls _ Ab db l A2 c2 l HRc.out (reads_of (Kd.C_below HL.out HBc.out))).mono ?_
            rintro en wd ⟨rfl, hb⟩
            rw [show decide (l = l) = true from decide_eq_true rfl]
            have HBd := Aside0.mk (below_then HBc.out HBc.out.size hb)
            clear hb HBc HRc
            go_wp2
            exact bodyPost_ret (v := .bool true) (by simp [results, Try.f6, go_sem]) rfl ⟨rfl, HBd.out⟩
          · obtain rfl := HRK.out.2.1 hf
            go_wp2_with fail
            refine (begun_calls _).mono ?_
            rintro en wb ⟨rfl, hb⟩
            have HBb := Aside0.mk (below_then HBa.out HBa.out.size hb)
            clear hb
            go_wp2
            exact bodyPost_ret (v := .bool true) (by simp [results, Try.f6, go_sem]) rfl ⟨rfl, HBb.out⟩
    · have HNM := Aside0.mk (show nthF 100 parts ((m + 1 : Nat) : Int) = some ([], 1) by rw [HPP.out]; exact nth_out HOK.out HRI.out _ (by omega))
      refine (nth_calls 100 _ A1 c1 parts ((m + 1 : Nat) : Int) [] 1 (Kd.C_below HP.out HB3.out) lc1 HNM.out).mono ?_
      rintro en w4 ⟨v11, rfl, hO, hb⟩
      have HB4 := Aside0.mk (below_then HB3.out HB3.out.size hb)
      obtain ⟨A11, d11, rfl, hd11, -⟩ := own_rd hO
      clear hb hO HR73 HB3
      go_wp2_with fail
      refine (sched_Count.calls 100 A1 c1 parts _ 0 _ (Kd.C_below HP.out HB4.out) lc1 HCT.out).mono ?_
      rintro en w5 ⟨rfl, hb⟩
      have HB5 := Aside0.mk (below_then HB4.out HB4.out.size hb)
      clear hb HB4
      generalize M p = C at hlast HMC HMS HCT ⊢
      have hlast1 : (C : Int) ≤ ((m + 1 : Nat) : Int) := by omega
      have hlast2 : (C : Int) ≤ (m : Int) + 1 := by omega
      have hlast3 : C ≤ m + 1 := by omega
      clear hlast
      go_wp2_with fail
      go_loopw [15] (fun v15 wq => v15 = .int .i64 0 ∧ Aside0 (Below w5.heap.size w5 wq)) (fun v15 _ => 0)
      case atStart => exact ⟨rfl, ⟨Below.refl _ _⟩⟩
      case round =>
        obtain ⟨rfl, HBq⟩ := hrel
        go_wp2_with fail
        refine wp_val (S := fun w' => Below wr.heap.size wr w') (by kernel_rfl) (by kernel_rfl) (below_drew (Below.refl _ _)) ?_
        repeat (first
          | refine st_skip rfl ?_
          | refine st_move rfl rfl ?_
          | refine st_assign rfl rfl ?_
          | refine st_pickT rfl rfl rfl ?_
          | refine st_pickF rfl rfl rfl ?_
          | refine st_bin rfl rfl rfl (fun w' hw => by go_simp; rfl) ?_
          | refine st_indexAddr rfl rfl rfl (fun w' hw => by go_simp; rfl) ?_
          | refine st_un rfl rfl rfl rfl (fun w' hw => by go_simp; rfl) ?_
          | refine st_builtin rfl rfl (fun w' hw => by go_simp; rfl) ?_
          | refine st_slice rfl rfl rfl rfl rfl (fun w' hw => by go_simp; rfl) ?_)
        intro w6 hb6
        simp only [puts, Act.put, List.setIfInBounds_toArray, List.set_cons_zero, List.set_cons_succ]
        have HB6 := Aside0.mk (below_then HBq.out HBq.out.size hb6)
        clear hb6 HBq
        go_wp2_with fail
        refine wp_val (S := fun w' => Below w6.heap.size w6 w') (by kernel_rfl) (by kernel_rfl) (below_drew (Below.refl _ _)) ?_
        repeat (first
          | refine st_skip rfl ?_
          | refine st_move rfl rfl ?_
          | refine st_assign rfl rfl ?_
          | refine st_pickT rfl rfl rfl ?_
          | refine st_pickF rfl rfl rfl ?_
          | refine st_bin rfl rfl rfl (fun w' hw => by go_simp; rfl) ?_
          | refine st_indexAddr rfl rfl rfl (fun w' hw => by go_simp; rfl) ?_
          | refine st_un rfl rfl rfl rfl (fun w' hw => by go_simp; rfl) ?_
          | refine st_builtin rfl rfl (fun w' hw => by go_simp; rfl) ?_
          | refine st_slice rfl rfl rfl rfl rfl (fun w' hw => by go_simp; rfl) ?_)
        intro w7 hb7
        simp only [puts, Act.put, List.setIfInBounds_toArray, List.set_cons_zero, List.set_cons_succ]
        have HBz := Aside0.mk (below_then HB5.out HB5.out.size (below_then HB6.out HB6.out.size hb7))
        clear hb7 HB6
        go_wp2_with fail
        refine (rank_calls 100 _ A1 c1 parts A2 c2 l k f (Kd.C_below HP.out HBz.out) lc1 (Kd.C_below HL.out HBz.out) lc2 HRK.out.1).mono ?_
        rintro en wa ⟨rfl, hb⟩
        have HBa := Aside0.mk (below_then HBz.out HBz.out.size hb)
        clear hb HBz
        by_cases hf : f = 0
        · subst hf
          have HNK := Aside0.mk (HRK.out.2.2 rfl)
          go_wp2_with fail
          refine (nth_calls 100 _ A1 c1 parts k l 0 (Kd.C_below HP.out HBa.out) lc1 HNK.out).mono ?_
          rintro en wb ⟨vb, rfl, hO, hb⟩
          have HBb := Aside0.mk (below_then HBa.out HBa.out.size hb)
          obtain ⟨Ab, db, rfl, hdb, hrb⟩ := own_rd hO
          have HRb := Aside0.mk hrb
          clear hb hO hrb HBa
          go_wp2_with fail
          refine (begun_calls _).mono ?_
          rintro en wc ⟨rfl, hb⟩
          have HBc := Aside0.mk (below_then HBb.out HBb.out.size hb)
          have HRc := Aside0.mk (HRb.out.below hb)
          clear hb HBb HRb
          go_wp2_with fail
          refine (same_calls _ Ab db l A2 c2 l HRc.out (reads_of (Kd.C_below HL.out HBc.out))).mono ?_
          rintro en wd ⟨rfl, hb⟩
          rw [show decide (l = l) = true from decide_eq_true rfl]
          have HBd := Aside0.mk (below_then HBc.out HBc.out.size hb)
          clear hb HBc HRc
          go_wp2
          exact bodyPost_ret (v := .bool true) (by simp [results, Try.f6, go_sem]) rfl ⟨rfl, HBd.out⟩
        · obtain rfl := HRK.out.2.1 hf
          go_wp2_with fail
          refine (begun_calls _).mono ?_
          rintro en wb ⟨rfl, hb⟩
          have HBb := Aside0.mk (below_then HBa.out HBa.out.size hb)
          clear hb
          go_wp2
          exact bodyPost_ret (v := .bool true) (by simp [results, Try.f6, go_sem]) rfl ⟨rfl, HBb.out⟩
  · have HBz := HB2
    clear HXE
    go_wp2_with fail
    refine (rank_calls 100 _ A1 c1 parts A2 c2 l k f (Kd.C_below HP.out HBz.out) lc1 (Kd.C_below HL.out HBz.out) lc2 HRK.out.1).mono ?_
    rintro en wa ⟨rfl, hb⟩
    have HBa := Aside0.mk (below_then HBz.out HBz.out.size hb)
    clear hb HBz
    by_cases hf : f = 0
    · subst hf
      have HNK := Aside0.mk (HRK.out.2.2 rfl)
      go_wp2_with fail
      refine (nth_calls 100 _ A1 c1 parts k l 0 (Kd.C_below HP.out HBa.out) lc1 HNK.out).mono ?_
      rintro en wb ⟨vb, rfl, hO, hb⟩
      have HBb := Aside0.mk (below_then HBa.out HBa.out.size hb)
      obtain ⟨Ab, db, rfl, hdb, hrb⟩ := own_rd hO
      have HRb := Aside0.mk hrb
      clear hb hO hrb HBa
      go_wp2_with fail
      refine (begun_calls _).mono ?_
      rintro en wc ⟨rfl, hb⟩
      have HBc := Aside0.mk (below_then HBb.out HBb.out.size hb)
      have HRc := Aside0.mk (HRb.out.below hb)
      clear hb HBb HRb
      go_wp2_with fail
      refine (same_calls _ Ab db l A2 c2 l HRc.out (reads_of (Kd.C_below HL.out HBc.out))).mono ?_
      rintro en wd ⟨rfl, hb⟩
      rw [show decide (l = l) = true from decide_eq_true rfl]
      have HBd := Aside0.mk (below_then HBc.out HBc.out.size hb)
      clear hb HBc HRc
      go_wp2
      exact bodyPost_ret (v := .bool true) (by simp [results, Try.f6, go_sem]) rfl ⟨rfl, HBd.out⟩
    · obtain rfl := HRK.out.2.1 hf
      go_wp2_with fail
      refine (begun_calls _).mono ?_
      rintro en wb ⟨rfl, hb⟩
      have HBb := Aside0.mk (below_then HBa.out HBa.out.size hb)
      clear hb
      go_wp2
      exact bodyPost_ret (v := .bool true) (by simp [results, Try.f6, go_sem]) rfl ⟨rfl, HBb.out⟩
theorem schedEach_row (w : World) (A1 : Option Addr) (c1 : Nat) (parts : List Int) (lc1 : parts.length ≤ c1) (h1 : Kd.C kI w A1 parts.length parts) (b1 : parts.length ≤ 140737488351232 ∧ ∀ a ∈ parts, (Lit.int .i64 a).wf = true) (n : Int) (wn : (Lit.int .i64 n).wf = true) (A2 : Option Addr) (c2 : Nat) (l : List Int) (lc2 : l.length ≤ c2) (h2 : Kd.C kI w A2 l.length l) (b2 : l.length ≤ 140737488351232 ∧ ∀ a ∈ l, (Lit.int .i64 a).wf = true) :
    Calls Try.prog 6 #[.slice A1 parts.length c1, .int .i64 n, .slice A2 l.length c2] w fun e w' => e = .returned (.bool true) ∧ Below w.heap.size w w' :=
  schedEach_walk w A1 c1 parts lc1 h1 n A2 c2 l lc2 h2
end Go.Proofs.Ytblalidpeccabac.Sd
