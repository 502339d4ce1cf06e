/- pages.own: its walk. -/
import Derived.Test.YtblalidpeccabacPageX
namespace Go.Proofs.Ytblalidpeccabac.Pg
open Go Go.RowKit Go.Lib Go.Proofs.YtblalidpeccabacW.PrintWords Go.Proofs.YtblalidpeccabacW.PrintLast Go.Proofs.YtblalidpeccabacW.PrintMore Go.Proofs.Ytblalidpeccabac.PPagesBack Go.Proofs.Ytblalidpeccabac.Bs Go.Proofs.Ytblalidpeccabac.RegionVal
set_option linter.unusedVariables false
set_option linter.unusedSimpArgs false

set_option maxHeartbeats 8000000 in
set_option maxRecDepth 100000 in
theorem own_calls (w : World) (A : Option Addr) (a : Nat) (B : Option Addr) (b : Nat) (C : Option Addr) (c : Nat) (s : St) (hL : Lies w A a B b C c s) (h4 : s.ps.length ≤ 400) (h5 : s.us.length ≤ 400) (h6 : s.rs.length ≤ 40) (h7 : ∀ r ∈ s.rs, r.length ≤ 16) :
    Calls Try.prog 26 #[.agg #[.slice A s.ps.length a, .slice B s.us.length b, .slice C s.rs.length c]] w fun e w' => ∃ vP vU vR, e = .returned (.agg #[vP, vU, vR]) ∧
      Kd.R kP 38 w' w.heap.size (fun _ => True) vP s.ps ∧ Kd.R kI 3 w' w.heap.size (fun _ => True) vU s.us ∧ Kd.R kR 23 w' w.heap.size (fun k => some k ≠ vU.ownBlock) vR s.rs ∧ Below w.heap.size w w' := by
  have HL := Aside0.mk hL
  have n1 := heap_alloc_new w (.cells #[.slice A s.ps.length a, .slice B s.us.length b, .slice C s.rs.length c] 26)
  have n2 := heap_alloc_new (w.alloc (.cells #[.slice A s.ps.length a, .slice B s.us.length b, .slice C s.rs.length c] 26)) (.cells #[.slice none 0 0, .slice none 0 0, .slice none 0 0] 26)
  rw [World.size_alloc] at n2
  have n1' := blk_alloc n1 (.cells #[.slice none 0 0, .slice none 0 0, .slice none 0 0] 26)
  have hb2 : Below w.heap.size w ((w.alloc (.cells #[.slice A s.ps.length a, .slice B s.us.length b, .slice C s.rs.length c] 26)).alloc (.cells #[.slice none 0 0, .slice none 0 0, .slice none 0 0] 26)) := below_alloc (below_alloc (Below.refl _ _) _) _
  obtain ⟨W2, hW2⟩ : ∃ W2, W2 = (w.alloc (.cells #[.slice A s.ps.length a, .slice B s.us.length b, .slice C s.rs.length c] 26)).alloc (.cells #[.slice none 0 0, .slice none 0 0, .slice none 0 0] 26) := ⟨_, rfl⟩
  obtain ⟨g, hg⟩ : ∃ g, g = w.heap.size + 1 := ⟨_, rfl⟩
  rw [← hg] at n2
  rw [← hW2] at n1' n2 hb2
  have HX2 := Aside0.mk n1'
  have HY2 := Aside0.mk n2
  have HB2 := Aside0.mk hb2
  have HGE := Aside0.mk (show w.heap.size ≤ g by omega)
  have HWW := Aside0.mk hW2
  have HGG := Aside0.mk hg
  clear hL n1 n1' n2 hb2 hW2 hg
  go_enter Try.func26, Try.ntmps26
  go_upto_region 1 with (fail)
  rw [← HWW.out, ← HGG.out]
  clear HWW HGG
  refine wp_tree (S := fun w' => Below W2.heap.size W2 w') (fun a0 F w' => ∃ (b3 : Nat) (vP vU : Value), puts a0 F = puts a0 [(3, .pointer (some ⟨b3, 0, none⟩)), (12, .agg #[vP, vU, .slice none 0 0]), (11, vU), (8, vP), (10, .slice B s.us.length b), (9, .pointer (some ⟨w.heap.size, 1, none⟩)), (7, .slice A s.ps.length a), (6, .pointer (some ⟨w.heap.size, 0, none⟩))] ∧
      Below W2.heap.size W2 w' ∧ W2.heap.size ≤ b3 ∧ w'.heap[b3]? = some (.cells #[vP, vU, .slice none 0 0] 26 (0, 0)) ∧ Kd.R kP 38 w' W2.heap.size (fun _ => True) vP s.ps ∧ Kd.R kI 3 w' W2.heap.size (fun _ => True) vU s.us)
    (.fork [(0, false), (1, false), (3, false), (4, false)] 2 (.fork [] 5 (.leaf [(6, false), (7, true), (8, true)]) 7 (.leaf [(5, true), (6, false), (8, true)])) 7 (.leaf [(2, true), (5, true), (6, false), (8, true)]))
    (by kernel_rfl) (by kernel_rfl) (below_drew1 (Below.refl _ _)) (fun _ _ d _ _ h => by cases d <;> exact h) ?_ ?_
  · rintro F w3 ⟨b3, vP, vU, hputs, hb3, hge, hk, hP, hU⟩
    rw [hputs]
    have HB3 := Aside0.mk hb3
    have HGE3 := Aside0.mk hge
    have HK3 := Aside0.mk hk
    have HP3 := Aside0.mk hP
    have HU3 := Aside0.mk hU
    have d2 := blk_cell (blk_below HX2.out hb3) 2
    simp only [List.getElem?_toArray, List.getElem?_cons_zero, List.getElem?_cons_succ] at d2
    clear hputs hb3 hge hk hP hU
    simp only [puts, Act.put, List.setIfInBounds_toArray, List.set_cons_zero, List.set_cons_succ]
    go_wp2_with fail
    go_loopw [16] (fun i wr => ∃ (k : Nat) (vR : Value), k ≤ s.rs.length ∧ i = .int .i64 (k : Int) ∧ Aside0 (Box W2 b3 wr ⟨s.ps, s.us, s.rs.take k⟩ vP vU vR)) (fun i _ => s.rs.length - (intOf i).toNat)
    case atStart => exact ⟨0, _, Nat.zero_le _, rfl, ⟨⟨HGE3.out, HK3.out, HP3.out, HU3.out, by rw [List.take_zero]; exact Kd.R_nil _ _ _ _ _, HB3.out⟩⟩⟩
    case round =>
      obtain ⟨k, vR, hkl, rfl, HBX⟩ := hrel
      clear HK3 HP3 HU3 HB3 d2
      obtain ⟨AR, cR, rfl, _⟩ := Kd.R_reads HBX.out.R
      by_cases hlt : k < s.rs.length
      · have hk1 : (k : Int) < (s.rs.length : Int) := by omega
        obtain ⟨ad, A1, c1, rfl, e0, hc1, hC1⟩ := at_R (Kd.C_below HL.out.R (below_then HB2.out HB2.out.size HBX.out.below)) k hlt
        have hrl := h7 _ (List.getElem_mem hlt)
        obtain ⟨r, hr⟩ : ∃ r, r = s.rs[k] := ⟨_, rfl⟩
        have HRK := Aside0.mk hr
        rw [← hr] at e0 hc1 hC1 hrl
        have HC1 := Aside0.mk hC1
        clear hr hC1
        go_wp2_with fail
        have hB0 := HBX.out.keep (below_drew1 (Below.refl _ _))
        have hC0 := Kd.C_below HC1.out (below_drew1 (Below.refl wr.heap.size wr))
        have hlk : (s.rs.take k).length ≤ 1000 := by rw [List.length_take]; omega
        refine wp_tree (S := fun w' => Below W2.heap.size W2 w') (fun a0 F w' => ∃ (A2 : Option Addr) (n2 c2 : Nat) (v lit : Value), puts a0 F = puts a0 [(26, .pointer (some ⟨b3, 2, none⟩)), (25, .slice A2 n2 c2), (24, lit), (23, v), (22, .slice A1 r.length c1), (21, .slice AR (s.rs.take k).length cR), (20, .pointer (some ⟨b3, 2, none⟩))] ∧
            Box W2 b3 w' ⟨s.ps, s.us, s.rs.take k ++ [r]⟩ vP vU (.slice A2 n2 c2))
          (.fork [(0, false), (2, false)] 1 (.leaf [(3, true), (4, true), (5, true), (6, false), (7, true)]) 3 (.fork [] 1 (.leaf [(4, true), (5, true), (6, false), (7, true)]) 4 (.leaf [(1, true), (5, true), (6, false), (7, true)])))
          (by kernel_rfl) (by kernel_rfl) hB0.below (fun _ _ d _ _ h => by cases d <;> exact h) ?_ ?_
        · rintro F w4 ⟨A2, n2, c2, v, lit, hputs, hbx⟩
          rw [hputs]
          have HBX4 := Aside0.mk hbx
          clear hputs hbx hB0 hC0
          simp only [puts, Act.put, List.setIfInBounds_toArray, List.set_cons_zero, List.set_cons_succ]
          go_wp2
          go_roundw
          case rel => exact ⟨k + 1, _, by omega, by go_num, ⟨by rw [List.take_succ_eq_append_getElem hlt, ← HRK.out]; exact HBX4.out⟩⟩
          case measure => simp [intOf]; omega
        · refine se_un rfl rfl rfl rfl rfl (fun w' hw => by go_simp; with_reducible rfl) ?_
          refine se_move rfl rfl rfl ?_
          refine ⟨?_, ?_⟩
          · refine se_loadE rfl rfl rfl (run_loadR _ _ _ _ _ _ _ hB0.blk) hB0.below ?_
            refine se_call (vs := [.slice A1 r.length c1]) rfl rfl Try.func27 (by kernel_rfl) rfl (by kernel_rfl) ?_
            refine (cloneI_calls _ A1 c1 r hC0 hc1 (by omega)).mono ?_
            rintro e w5 ⟨v, rfl, hv, hb5⟩
            obtain ⟨Av, cv, rfl, _⟩ := Kd.R_reads hv
            have hb5' := below_then hB0.below hB0.below.size hb5
            refine ⟨_, rfl, hb5', ?_⟩
            obtain ⟨A2, n2, c2, x1, hrun, hk, hP, hU, hR, hb, _, _⟩ := box_append hB0 hb5 hv hlk
            refine se_lit (vs := [(0, .slice Av r.length cv)]) rfl rfl rfl (run_lit24 _ _ _ _) (below_alloc hb5' _) ?_
            refine se_made rfl rfl rfl hrun hb ?_
            refine se_un rfl rfl rfl rfl rfl (fun w' hw => by go_simp; with_reducible rfl) ?_
            have hbx := box_put hB0.le hk hP hU hR hb
            refine se_store rfl rfl rfl rfl (run_storeR _ _ _ _ _ _ _ _ hk) hbx.below ?_
            exact ⟨_, _, _, _, _, (by first | rfl | skip), hbx⟩
          · refine se_call (vs := [.slice A1 r.length c1]) rfl rfl Try.func27 (by kernel_rfl) rfl (by kernel_rfl) ?_
            refine (cloneI_calls _ A1 c1 r hC0 hc1 (by omega)).mono ?_
            rintro e w5 ⟨v, rfl, hv, hb5⟩
            obtain ⟨Av, cv, rfl, _⟩ := Kd.R_reads hv
            have hb5' := below_then hB0.below hB0.below.size hb5
            have hB5 := hB0.keep hb5
            have hB5' := hB5.keep (below_alloc (Below.refl _ _) (.cells #[.slice Av r.length cv] 23))
            obtain ⟨A2, n2, c2, x1, hrun, hk, hP, hU, hR, hb, _, _⟩ := box_append hB0 hb5 hv hlk
            have hbx := box_put hB0.le hk hP hU hR hb
            refine ⟨_, rfl, hb5', ?_, ?_⟩
            · refine se_loadE rfl rfl rfl (run_loadR _ _ _ _ _ _ _ hB5.blk) hb5' ?_
              refine se_lit (vs := [(0, .slice Av r.length cv)]) rfl rfl rfl (run_lit24 _ _ _ _) (below_alloc hb5' _) ?_
              refine se_made rfl rfl rfl hrun hb ?_
              refine se_un rfl rfl rfl rfl rfl (fun w' hw => by go_simp; with_reducible rfl) ?_
              refine se_store rfl rfl rfl rfl (run_storeR _ _ _ _ _ _ _ _ hk) hbx.below ?_
              exact ⟨_, _, _, _, _, rfl, hbx⟩
            · refine se_lit (vs := [(0, .slice Av r.length cv)]) rfl rfl rfl (run_lit24 _ _ _ _) (below_alloc hb5' _) ?_
              refine se_loadE rfl rfl rfl (run_loadR _ _ _ _ _ _ _ hB5'.blk) (below_alloc hb5' _) ?_
              refine se_made rfl rfl rfl hrun hb ?_
              refine se_un rfl rfl rfl rfl rfl (fun w' hw => by go_simp; with_reducible rfl) ?_
              refine se_store rfl rfl rfl rfl (run_storeR _ _ _ _ _ _ _ _ hk) hbx.below ?_
              exact ⟨_, _, _, _, _, rfl, hbx⟩
      · obtain rfl : k = s.rs.length := by omega
        have hbx := HBX.out
        rw [List.take_length] at hbx
        obtain ⟨A1, a1, rfl, _⟩ := Kd.R_reads hbx.P
        obtain ⟨B1, b1, rfl, _⟩ := Kd.R_reads hbx.U
        have hy := blk_below HY2.out hbx.below
        have HY := Aside0.mk hy
        have HBX2 := Aside0.mk hbx
        have x0 := blk_cell hbx.blk 0
        have x1 := blk_cell hbx.blk 1
        have x2 := blk_cell hbx.blk 2
        have y0 := blk_cell hy 0
        have y1 := blk_cell hy 1
        have y2 := blk_cell hy 2
        simp only [List.getElem?_toArray, List.getElem?_cons_zero, List.getElem?_cons_succ] at x0 x1 x2 y0 y1 y2
        have hfr : ∀ i, wr.frozen? ⟨g, i, none⟩ = false := fun i => blk_frozen hy i
        clear hbx hy
        go_wp2
        have hz := put3_blk (v0 := .slice A1 s.ps.length a1) (v1 := .slice B1 s.us.length b1) (v2 := .slice AR s.rs.length cR) HY.out
        have z0 := blk_cell hz 0
        have z1 := blk_cell hz 1
        have z2 := blk_cell hz 2
        simp only [List.getElem?_toArray, List.getElem?_cons_zero, List.getElem?_cons_succ, put3] at z0 z1 z2
        have HP4 := Aside0.mk (put3_R (v0 := .slice A1 s.ps.length a1) (v1 := .slice B1 s.us.length b1) (v2 := .slice AR s.rs.length cR) HY.out noP HBX2.out.P)
        have HU4 := Aside0.mk (put3_R (v0 := .slice A1 s.ps.length a1) (v1 := .slice B1 s.us.length b1) (v2 := .slice AR s.rs.length cR) HY.out noI HBX2.out.U)
        have HR4 := Aside0.mk (put3_R (v0 := .slice A1 s.ps.length a1) (v1 := .slice B1 s.us.length b1) (v2 := .slice AR s.rs.length cR) HY.out noR HBX2.out.R)
        have HBB := Aside0.mk (put3_below (v0 := .slice A1 s.ps.length a1) (v1 := .slice B1 s.us.length b1) (v2 := .slice AR s.rs.length cR) (below_then HB2.out HB2.out.size HBX2.out.below) HGE.out)
        exact bodyPost_ret (v := .agg #[.slice A1 s.ps.length a1, .slice B1 s.us.length b1, .slice AR s.rs.length cR]) (by simp [results, Try.f26, go_sem, z0, z1, z2]) rfl ⟨_, _, _, rfl, Kd.R_lower HP4.out HB2.out.size, Kd.R_lower HU4.out HB2.out.size, Kd.R_lower HR4.out HB2.out.size, HBB.out⟩
  · refine se_un rfl rfl rfl rfl rfl (fun w' hw => by go_simp; with_reducible rfl) ?_
    refine se_un rfl rfl rfl rfl rfl (fun w' hw => by have q := blk_cell (blk_below HX2.out hw) 0; simp only [List.getElem?_toArray, List.getElem?_cons_zero, List.getElem?_cons_succ] at q; go_simp; with_reducible rfl) ?_
    refine se_un rfl rfl rfl rfl rfl (fun w' hw => by go_simp; with_reducible rfl) ?_
    refine se_un rfl rfl rfl rfl rfl (fun w' hw => by have q := blk_cell (blk_below HX2.out hw) 1; simp only [List.getElem?_toArray, List.getElem?_cons_zero, List.getElem?_cons_succ] at q; go_simp; with_reducible rfl) ?_
    refine ⟨?_, ?_⟩
    · refine se_call (vs := [.slice A s.ps.length a]) rfl rfl Try.func47 (by kernel_rfl) rfl (by kernel_rfl) ?_
      have hd : Below W2.heap.size W2 W2.drew := below_drew1 (Below.refl _ _)
      have hwd := below_then HB2.out HB2.out.size hd
      refine (cloneP_calls _ A a s.ps (Kd.C_below HL.out.P hwd) HL.out.pa (by omega)).mono ?_
      rintro e w4 ⟨vP, rfl, hP, hb4⟩
      have hb24 := below_then hd hd.size hb4
      refine ⟨_, rfl, hb24, ?_⟩
      refine ⟨?_, ?_⟩
      · refine se_call (vs := [.slice B s.us.length b]) rfl rfl Try.func27 (by kernel_rfl) rfl (by kernel_rfl) ?_
        refine (cloneI_calls _ B b s.us (Kd.C_below HL.out.U (below_then HB2.out HB2.out.size hb24)) HL.out.ub (by omega)).mono ?_
        rintro e w5 ⟨vU, rfl, hU, hb5⟩
        obtain ⟨A1, a1, rfl, _⟩ := Kd.R_reads hP
        obtain ⟨B1, b1, rfl, _⟩ := Kd.R_reads hU
        have hb25 := below_then hb24 hb24.size hb5
        refine ⟨_, rfl, hb25, ?_⟩
        refine se_build (v := .agg #[.slice A1 s.ps.length a1, .slice B1 s.us.length b1, .slice none 0 0]) (vs := [(0, .slice A1 s.ps.length a1), (1, .slice B1 s.us.length b1)]) rfl rfl rfl (fun w' hw => run_build w' A1 s.ps.length a1 B1 s.us.length b1) ?_
        refine se_alloc rfl rfl (run_alloc26 _) (below_alloc hb25 _) ?_
        have hn := heap_alloc_new w5 (.cells #[.slice none 0 0, .slice none 0 0, .slice none 0 0] 26)
        refine se_store rfl rfl rfl rfl (run_store26 _ _ _ _ _ _ _ _ hn rfl rfl rfl) (put3_below (below_alloc hb25 _) hb25.size) ?_
        exact ⟨w5.heap.size, _, _, rfl, put3_below (below_alloc hb25 _) hb25.size, hb25.size, put3_blk hn,
          put3_R hn noP (Kd.R_alloc (Kd.R_below (Kd.R_lower hP hd.size) hb5) _), put3_R hn noI (Kd.R_alloc (Kd.R_lower hU hb24.size) _)⟩
      · refine se_alloc rfl rfl (run_alloc26 _) (below_alloc hb24 _) ?_
        have hn := heap_alloc_new w4 (.cells #[.slice none 0 0, .slice none 0 0, .slice none 0 0] 26)
        have hb24' := below_alloc hb24 (.cells #[.slice none 0 0, .slice none 0 0, .slice none 0 0] 26)
        refine se_call (vs := [.slice B s.us.length b]) rfl rfl Try.func27 (by kernel_rfl) rfl (by kernel_rfl) ?_
        refine (cloneI_calls _ B b s.us (Kd.C_below HL.out.U (below_then HB2.out HB2.out.size hb24')) HL.out.ub (by omega)).mono ?_
        rintro e w5 ⟨vU, rfl, hU, hb5⟩
        obtain ⟨A1, a1, rfl, _⟩ := Kd.R_reads hP
        obtain ⟨B1, b1, rfl, _⟩ := Kd.R_reads hU
        have hb25 := below_then hb24' hb24'.size hb5
        refine ⟨_, rfl, hb25, ?_⟩
        refine se_build (v := .agg #[.slice A1 s.ps.length a1, .slice B1 s.us.length b1, .slice none 0 0]) (vs := [(0, .slice A1 s.ps.length a1), (1, .slice B1 s.us.length b1)]) rfl rfl rfl (fun w' hw => run_build w' A1 s.ps.length a1 B1 s.us.length b1) ?_
        have hn5 := blk_below hn hb5
        refine se_store rfl rfl rfl rfl (run_store26 _ _ _ _ _ _ _ _ hn5 rfl rfl rfl) (put3_below hb25 hb24.size) ?_
        exact ⟨w4.heap.size, _, _, (puts_cons _ _ (puts_swap _ (by decide) _ _ _)).trans (puts_swap _ (by decide) _ _ _), put3_below hb25 hb24.size, hb24.size, put3_blk hn5,
          put3_R hn5 noP (Kd.R_below (Kd.R_alloc (Kd.R_lower hP hd.size) _) hb5), put3_R hn5 noI (Kd.R_lower hU hb24'.size)⟩
    · have hd : Below W2.heap.size W2 W2.drew := below_drew1 (Below.refl _ _)
      have hd' := below_alloc hd (.cells #[.slice none 0 0, .slice none 0 0, .slice none 0 0] 26)
      have hn := heap_alloc_new W2.drew (.cells #[.slice none 0 0, .slice none 0 0, .slice none 0 0] 26)
      refine se_alloc rfl rfl (run_alloc26 _) hd' ?_
      refine se_call (vs := [.slice A s.ps.length a]) rfl rfl Try.func47 (by kernel_rfl) rfl (by kernel_rfl) ?_
      refine (cloneP_calls _ A a s.ps (Kd.C_below HL.out.P (below_then HB2.out HB2.out.size hd')) HL.out.pa (by omega)).mono ?_
      rintro e w4 ⟨vP, rfl, hP, hb4⟩
      have hb24 := below_then hd' hd'.size hb4
      refine ⟨_, rfl, hb24, ?_⟩
      refine se_call (vs := [.slice B s.us.length b]) rfl rfl Try.func27 (by kernel_rfl) rfl (by kernel_rfl) ?_
      refine (cloneI_calls _ B b s.us (Kd.C_below HL.out.U (below_then HB2.out HB2.out.size hb24)) HL.out.ub (by omega)).mono ?_
      rintro e w5 ⟨vU, rfl, hU, hb5⟩
      obtain ⟨A1, a1, rfl, _⟩ := Kd.R_reads hP
      obtain ⟨B1, b1, rfl, _⟩ := Kd.R_reads hU
      have hb25 := below_then hb24 hb24.size hb5
      refine ⟨_, rfl, hb25, ?_⟩
      refine se_build (v := .agg #[.slice A1 s.ps.length a1, .slice B1 s.us.length b1, .slice none 0 0]) (vs := [(0, .slice A1 s.ps.length a1), (1, .slice B1 s.us.length b1)]) rfl rfl rfl (fun w' hw => run_build w' A1 s.ps.length a1 B1 s.us.length b1) ?_
      have hn5 := blk_below (blk_below hn hb4) hb5
      refine se_store rfl rfl rfl rfl (run_store26 _ _ _ _ _ _ _ _ hn5 rfl rfl rfl) (put3_below hb25 hd.size) ?_
      exact ⟨W2.drew.heap.size, _, _, ((puts_cons _ _ (puts_cons _ _ (puts_swap _ (by decide) _ _ _))).trans (puts_cons _ _ (puts_swap _ (by decide) _ _ _))).trans (puts_swap _ (by decide) _ _ _), put3_below hb25 hd.size, hd.size, put3_blk hn5,
        put3_R hn5 noP (Kd.R_below (Kd.R_lower hP hd'.size) hb5), put3_R hn5 noI (Kd.R_lower hU hb24.size)⟩
end Go.Proofs.Ytblalidpeccabac.Pg
