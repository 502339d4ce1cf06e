/- pages.Drop: its walk. -/
import Derived.Test.YtblalidpeccabacPageS
namespace Go.Proofs.Ytblalidpeccabac.Pg
open Go Go.RowKit Go.Lib Go.Proofs.YtblalidpeccabacW.PrintWords Go.Proofs.YtblalidpeccabacW.PrintLast Go.Proofs.YtblalidpeccabacW.PrintMore Go.Proofs.Ytblalidpeccabac.PPagesBack Go.Proofs.Ytblalidpeccabac.Bs Go.Proofs.Ytblalidpeccabac.RegionVal
set_option linter.unusedVariables false
set_option linter.unusedSimpArgs false

theorem wrap_m (x : Int) (h0 : 1 ≤ x) (h1 : x ≤ 1000) : IntKind.i64.wrap (x - 1) = x - 1 := by
  rw [IntKind.wrap_i64]
  omega
/-- a page put, cell by cell -/
theorem box_page4 {w0 w : World} {b : Nat} {s : St} {vP vU vR : Value} (h : Box w0 b w s vP vU vR) (k : Nat) (hk : k < s.ps.length) (p0 p1 p2 p3 : Int) :
    ∃ g c q0 q1 q2 q3, vP = .slice (some ⟨g, 0, none⟩) s.ps.length c ∧ (∀ i, w.frozen? ⟨g, i, none⟩ = false) ∧ w.cell? ⟨g, k * 4, none⟩ = some (.int .i64 q0) ∧ w.cell? ⟨g, k * 4 + 1, none⟩ = some (.int .i64 q1) ∧ w.cell? ⟨g, k * 4 + 2, none⟩ = some (.int .i64 q2) ∧ w.cell? ⟨g, k * 4 + 3, none⟩ = some (.int .i64 q3) ∧
      Box w0 b ((((w.setCell ⟨g, k * 4, none⟩ (.int .i64 p0)).setCell ⟨g, k * 4 + 1, none⟩ (.int .i64 p1)).setCell ⟨g, k * 4 + 2, none⟩ (.int .i64 p2)).setCell ⟨g, k * 4 + 3, none⟩ (.int .i64 p3)) ⟨s.ps.set k [p0, p1, p2, p3], s.us, s.rs⟩ vP vU vR ∧
      w.grownBy ((((w.setCell ⟨g, k * 4, none⟩ (.int .i64 p0)).setCell ⟨g, k * 4 + 1, none⟩ (.int .i64 p1)).setCell ⟨g, k * 4 + 2, none⟩ (.int .i64 p2)).setCell ⟨g, k * 4 + 3, none⟩ (.int .i64 p3)) (some g) := by
  obtain ⟨g, c, w', rfl, hrun, hB, hg⟩ := box_page h k hk p0 p1 p2 p3
  have hC := (Kd.R_reads' h.P).2.2
  obtain ⟨ad, q0, q1, q2, q3, had, hq, e0, e1, e2, e3⟩ := at_P hC k hk
  obtain rfl := Option.some.inj had
  rw [add_plain] at e0 e1 e2 e3
  simp only [Nat.zero_add] at e0 e1 e2 e3
  obtain ⟨inner, hown⟩ := Kd.R_own h.P
  rcases hown.2 with ⟨hv, _⟩ | ⟨g', cap', cur, hv, hb, hh, hnc, hcm, hcs, _⟩
  · cases hv
  injection hv with ha _ hc
  injection ha with ha
  injection ha with hg'
  subst hg'; subst hc
  have hrun2 := run_store_run (P := Try.prog) 38 (.agg #[.int .i64 p0, .int .i64 p1, .int .i64 p2, .int .i64 p3]) [.int .i64 p0, .int .i64 p1, .int .i64 p2, .int .i64 p3] (o := k * 4) hh rfl (by kernel_rfl) (by
    rw [hcs]
    show k * 4 + 4 ≤ c * 4
    omega) (by
    intro q hq
    simp only [List.mem_cons, List.not_mem_nil, or_false] at hq
    rcases hq with rfl | rfl | rfl | rfl <;> rfl)
  have hw := hrun.symm.trans hrun2
  injection hw with _ hw
  rw [hw] at hB hg
  exact ⟨g, c, q0, q1, q2, q3, rfl, fun i => blk_frozen hh i, by simpa using e0, e1, e2, e3, hB, hg⟩
theorem drop_at {s : St} {y j : Nat} {r : List Int} (hr : s.rs.getD y [] = r) (hy : y < s.rs.length) (hj : j < r.length) :
    (∀ k : Nat, k < s.ps.length → r[j] = (k : Int) → usesL s.ps.length (dropRs s y (j + 1)) = (usesL s.ps.length (dropRs s y j)).set k ((usesL s.ps.length (dropRs s y j)).getD k 0 - 1) ∧ 1 ≤ (usesL s.ps.length (dropRs s y j)).getD k 0 ∧
      ((usesL s.ps.length (dropRs s y j)).getD k 0 - 1 = 0 → wipe s.ps (dropRs s y (j + 1)) = (wipe s.ps (dropRs s y j)).set k [0, 0, 0, 0]) ∧
      ((usesL s.ps.length (dropRs s y j)).getD k 0 - 1 ≠ 0 → wipe s.ps (dropRs s y (j + 1)) = wipe s.ps (dropRs s y j))) ∧
    (r[j] = -1 → wipe s.ps (dropRs s y (j + 1)) = wipe s.ps (dropRs s y j) ∧ usesL s.ps.length (dropRs s y (j + 1)) = usesL s.ps.length (dropRs s y j)) := by
  subst hr
  exact ⟨fun k hk e => drop_step hy hj hk e, fun e => drop_skip hy hj e⟩
/-- a root of a store of one's own, as it lies -/
theorem box_inner {w0 w : World} {b : Nat} {s : St} {vP vU vR : Value} (h : Box w0 b w s vP vU vR) (y : Nat) (hy : y < s.rs.length) :
    ∃ g c A1 c1, vR = .slice (some ⟨g, 0, none⟩) s.rs.length c ∧ w.cell? ⟨g, y, none⟩ = some (.slice A1 s.rs[y].length c1) ∧ Kd.R kI 3 w w0.heap.size (fun k => some k ≠ vU.ownBlock) (.slice A1 s.rs[y].length c1) s.rs[y] := by
  obtain ⟨g, c, rfl, hg, hlt, cells, hcells⟩ := Kd.R_form h.R (by omega)
  obtain ⟨cs, hcl, hM, hcell, _⟩ := Kd.R_elem h.R [] (y : Int) (by omega) (by omega)
  obtain ⟨v, rfl, hv⟩ := hM
  rw [show s.rs.getD (Int.toNat (y : Int)) [] = s.rs[y] by simp [List.getD_eq_getElem?_getD, hy]] at hv
  obtain ⟨A1, c1, rfl, _⟩ := Kd.R_reads hv
  have hc := hcell 0 _ rfl
  rw [show (Int.toNat (y : Int)) * (kR).sz + 0 = y by show (Int.toNat (y : Int)) * 1 + 0 = y; omega] at hc
  exact ⟨g, c, A1, c1, rfl, hc, Kd.R_mono hv fun k hk => hk.1⟩

set_option maxHeartbeats 8000000 in
set_option maxRecDepth 100000 in
theorem drop_calls (w : World) (A : Option Addr) (a : Nat) (B : Option Addr) (b : Nat) (C : Option Addr) (c : Nat) (s : St) (hL : Lies w A a B b C c s) (x : Int) :
    Calls Try.prog 14 #[.agg #[.slice A s.ps.length a, .slice B s.us.length b, .slice C s.rs.length c], .int .i64 x] w fun e w' => ∃ V, e = .returned (.tuple #[V, .int .i64 (dropF s x).2]) ∧ Gives w' (dropF s x).1 V ∧ Below w.heap.size w w' := by
  have HL := Aside0.mk hL
  have n1 := heap_alloc_new w (.cells #[.slice A s.ps.length a, .slice B s.us.length b, .slice C s.rs.length c] 26)
  have n2 := heap_alloc_new (w.alloc (.cells #[.slice A s.ps.length a, .slice B s.us.length b, .slice C s.rs.length c] 26)) (.cells #[.slice none 0 0, .slice none 0 0, .slice none 0 0] 26)
  have n1' := blk_alloc n1 (.cells #[.slice none 0 0, .slice none 0 0, .slice none 0 0] 26)
  have hbw : Below w.heap.size w ((w.alloc (.cells #[.slice A s.ps.length a, .slice B s.us.length b, .slice C s.rs.length c] 26)).alloc (.cells #[.slice none 0 0, .slice none 0 0, .slice none 0 0] 26)) := below_alloc (below_alloc (Below.refl _ _) _) _
  rw [World.size_alloc] at n2
  obtain ⟨W1, hW1⟩ : ∃ W1, W1 = (w.alloc (.cells #[.slice A s.ps.length a, .slice B s.us.length b, .slice C s.rs.length c] 26)).alloc (.cells #[.slice none 0 0, .slice none 0 0, .slice none 0 0] 26) := ⟨_, rfl⟩
  obtain ⟨g, hg⟩ : ∃ g, g = w.heap.size + 1 := ⟨_, rfl⟩
  rw [← hW1] at n1' n2 hbw
  rw [← hg] at n2
  have HW1 := Aside0.mk hbw
  have HX1 := Aside0.mk n1'
  have HY1 := Aside0.mk n2
  have HWW := Aside0.mk hW1
  have HGG := Aside0.mk hg
  have HGE := Aside0.mk (show w.heap.size ≤ g by omega)
  have n3 := heap_alloc_new W1 (.cells #[.int .i64 x] 3)
  have hb3 : Below W1.heap.size W1 (W1.alloc (.cells #[.int .i64 x] 3)) := below_alloc (Below.refl _ _) _
  have hlit := C_lit [x] n3 (by simp)
  have HTH := Aside0.mk (there_calls _ A a B b C c s ((hL.below hbw).below hb3) (some ⟨W1.heap.size, 0, none⟩) 1 [x] hlit (by simp))
  have HW2 := Aside0.mk (below_then hbw hbw.size hb3)
  have HX2 := Aside0.mk (blk_below n1' hb3)
  have HY2 := Aside0.mk (blk_below n2 hb3)
  have d0 := blk_cell n1' 0
  have d1 := blk_cell n1' 1
  have d2 := blk_cell n1' 2
  simp only [List.getElem?_toArray, List.getElem?_cons_zero, List.getElem?_cons_succ] at d0 d1 d2
  clear hL hW1 hbw n1 n1' n2 hg n3 hb3 hlit
  go_enter Try.func14, Try.ntmps14
  go_upto_region 1 with (fail)
  rw [← HWW.out, ← HGG.out]
  go_wp2_with fail
  refine HTH.out.mono ?_
  rintro e w2 ⟨rfl, hb⟩
  have HB3 := Aside0.mk (below_then HW2.out HW2.out.size hb)
  have HX3 := Aside0.mk (blk_below HX2.out hb)
  have HY3 := Aside0.mk (blk_below HY2.out hb)
  clear d0 d1 d2 hb HTH HWW HGG HX1 HY1 HX2 HY2
  by_cases h0 : thereF s [x] = 0
  · obtain ⟨hOK, hv⟩ := there_ok.1 h0
    obtain ⟨y, rfl, hy, hyne⟩ := okv_iff.1 hv
    have HE := Aside0.mk (dropF_of h0)
    rw [h0]
    have HOK := Aside0.mk hOK
    have d0 := blk_cell HX3.out 0
    have d1 := blk_cell HX3.out 1
    have d2 := blk_cell HX3.out 2
    simp only [List.getElem?_toArray, List.getElem?_cons_zero, List.getElem?_cons_succ] at d0 d1 d2
    have HOWN := Aside0.mk (own_calls w2 A a B b C c s (HL.out.below HB3.out) hOK.n (by rw [hOK.U, usesL_length]; exact hOK.n) hOK.m (fun r hr => by have := (hOK.R r hr).1; omega))
    have H16 := Aside0.mk (row16 hOK hyne).2.2
    clear h0 hOK hv hyne
    go_wp2_with fail
    refine HOWN.out.mono ?_
    rintro e w3 ⟨vP, vU, vR, rfl, hP, hU, hR, hb⟩
    obtain ⟨AP, aP, rfl, _⟩ := Kd.R_reads hP
    obtain ⟨AU, aU, rfl, _⟩ := Kd.R_reads hU
    obtain ⟨AR, aR, rfl, _⟩ := Kd.R_reads hR
    have hal : Below w3.heap.size w3 (w3.alloc (.cells #[.slice AP s.ps.length aP, .slice AU s.us.length aU, .slice AR s.rs.length aR] 26)) := below_alloc (Below.refl _ _) _
    have nb := heap_alloc_new w3 (.cells #[.slice AP s.ps.length aP, .slice AU s.us.length aU, .slice AR s.rs.length aR] 26)
    obtain ⟨W4, hW4⟩ : ∃ W4, W4 = w3.alloc (.cells #[.slice AP s.ps.length aP, .slice AU s.us.length aU, .slice AR s.rs.length aR] 26) := ⟨_, rfl⟩
    obtain ⟨q, hq⟩ : ∃ q, q = w3.heap.size := ⟨_, rfl⟩
    have hBX : Box w2 q W4 s (.slice AP s.ps.length aP) (.slice AU s.us.length aU) (.slice AR s.rs.length aR) := by
      rw [hW4, hq]
      exact ⟨hb.size, nb, Kd.R_below hP hal, Kd.R_below hU hal, Kd.R_below hR hal, below_then hb hb.size hal⟩
    have HBX := Aside0.mk hBX
    have HW4 := Aside0.mk hW4
    have HQ := Aside0.mk hq
    clear HOWN d0 d1 d2 hW4 hq hP hU hR hb hal nb hBX
    go_upto_region 5 with (fail)
    rw [← HW4.out, ← HQ.out]
    clear HW4 HQ HX3
    obtain ⟨gr, cR, A1, c1, er, e1, hv1⟩ := box_inner HBX.out y hy
    injection er with er erb erc
    subst er erc
    clear erb
    have x2 := blk_cell HBX.out.blk 2
    simp only [List.getElem?_toArray, List.getElem?_cons_zero, List.getElem?_cons_succ] at x2
    have hy1 : (y : Int) < (s.rs.length : Int) := by omega
    obtain ⟨r, hr⟩ : ∃ r, r = s.rs[y] := ⟨_, rfl⟩
    have HRD := Aside0.mk (show s.rs.getD y [] = r by rw [hr, List.getD_eq_getElem?_getD, List.getElem?_eq_getElem hy]; rfl)
    rw [HRD.out] at H16
    have HRES := Aside0.mk (show ∀ z ∈ r, okq s.ps.length z by rw [hr]; exact (HOK.out.R _ (List.getElem_mem hy)).2)
    rw [← hr, H16.out] at e1 hv1
    obtain ⟨gq, c1', e5, _⟩ := Kd.R_form hv1 (by rw [H16.out]; omega)
    rw [H16.out] at e5
    injection e5 with e5 e5b e5c
    subst e5 e5c
    have HV0 := Aside0.mk hv1
    have hst := drop_start HOK.out hy
    have hul : s.us.length = s.ps.length := by rw [HOK.out.U, usesL_length]
    have hB0 := HBX.out
    rw [hul] at hB0 HV0
    have HB0 := Aside0.mk (show Box w2 q W4 ⟨wipe s.ps (dropRs s y 0), usesL s.ps.length (dropRs s y 0), s.rs⟩ (.slice AP s.ps.length aP) (.slice AU s.ps.length aU) (.slice (some ⟨gr, 0, none⟩) s.rs.length aR) by rw [hst.1, hst.2]; exact hB0)
    have HY := Aside0.mk hy
    clear hr hv1 e5b hst hul hB0 HBX
    go_wp2_with fail
    go_loopw [26] (fun i wr => ∃ j : Nat, j ≤ 16 ∧ i = .int .i64 (j : Int) ∧ Aside0 (Box w2 q wr ⟨wipe s.ps (dropRs s y j), usesL s.ps.length (dropRs s y j), s.rs⟩ (.slice AP s.ps.length aP) (.slice AU s.ps.length aU) (.slice (some ⟨gr, 0, none⟩) s.rs.length aR)) ∧ Aside0 (Kd.R kI 3 wr w2.heap.size (fun k => some k ≠ (Value.slice AU s.ps.length aU).ownBlock) (.slice (some ⟨gq, 0, none⟩) 16 c1) r)) (fun i _ => 16 - (intOf i).toNat)
    case atStart => exact ⟨0, Nat.zero_le _, rfl, HB0, HV0⟩
    case round =>
      obtain ⟨j, hjl, rfl, HB, HV⟩ := hrel
      by_cases hlt : j < 16
      · have hjr : j < r.length := by rw [H16.out]; exact hlt
        have f1 := R_at HV.out j hjr
        have hpq := HRES.out r[j] (List.getElem_mem hjr)
        have HDR := Aside0.mk (drop_at HRD.out HY.out hjr)
        generalize r[j] = p at f1 hpq HDR
        clear hjr
        by_cases hp0 : 0 ≤ p
        · obtain ⟨k, rfl⟩ := Int.eq_ofNat_of_zero_le hp0
          have hkn : k < s.ps.length := by unfold okq at hpq; omega
          obtain ⟨hadd, hu0, hz1, hz2⟩ := HDR.out.1 k hkn rfl
          have hu1 := drop_cnt HOK.out (y := y) (j := j) hkn
          obtain ⟨gu, cu, eu, fcell0, ffro, hB', hgr⟩ := box_use HB.out k (by show k < (usesL _ _).length; rw [usesL_length]; exact hkn) ((usesL s.ps.length (dropRs s y j)).getD k 0 - 1)
          have fcell : wr.cell? ⟨gu, k, none⟩ = some (.int .i64 ((usesL s.ps.length (dropRs s y j)).getD k 0)) := by
            rw [fcell0]
            simp only [List.getD_eq_getElem?_getD]
            rw [List.getElem?_eq_getElem (by rw [usesL_length]; exact hkn)]
            rfl
          injection eu with ha hb hc
          subst ha; subst hc
          have HB1 := Aside0.mk (show Box w2 q (wr.setCell ⟨gu, k, none⟩ (.int .i64 ((usesL s.ps.length (dropRs s y j)).getD k 0 - 1))) ⟨wipe s.ps (dropRs s y j), usesL s.ps.length (dropRs s y (j + 1)), s.rs⟩ (.slice AP s.ps.length aP) (.slice (some ⟨gu, 0, none⟩) s.ps.length aU) (.slice (some ⟨gr, 0, none⟩) s.rs.length aR) by rw [hadd]; exact hB')
          have hv2 := Kd.R_grown HV.out hgr (fun k' hk' => hk')
          have HV2 := Aside0.mk hv2
          have x1 := blk_cell HB.out.blk 1
          have z0 := blk_cell HB1.out.blk 0
          have z1 := blk_cell HB1.out.blk 1
          simp only [List.getElem?_toArray, List.getElem?_cons_zero, List.getElem?_cons_succ] at x1 z0 z1
          generalize (usesL s.ps.length (dropRs s y j)).getD k 0 = cnt at fcell hu0 hu1 HB1 HV2 hz1 hz2 z0 z1
          have hw := wrap_m cnt hu0 (by omega)
          have hk1 : (k : Int) < (s.ps.length : Int) := by omega
          by_cases hc0 : cnt - 1 = 0
          · have q0 : (cnt - 1 == 0) = true := beq_iff_eq.mpr hc0
            have HW := Aside0.mk (hz1 hc0)
            clear fcell0 hadd hB' hgr hb hpq hp0 HDR HB HV hc0 hz1 hz2 hv2
            go_upto_region 11 with (fail)
            obtain ⟨gp, cp, q0', q1', q2', q3', hvp, hfrp, m0, m1, m2, m3, hB5, hgr5⟩ := box_page4 HB1.out k (by rw [wipe_len]; exact hkn) 0 0 0 0
            injection hvp with ha hb hc
            subst ha; subst hc
            generalize wr.setCell ⟨gu, k, none⟩ (.int .i64 (cnt - 1)) = w4 at hfrp m0 m1 m2 m3 z0 z1 hB5 hgr5 HV2 HB1 ⊢
            have HB2' := Aside0.mk (show Box w2 q ((((w4.setCell ⟨gp, k * 4, none⟩ (.int .i64 0)).setCell ⟨gp, k * 4 + 1, none⟩ (.int .i64 0)).setCell ⟨gp, k * 4 + 2, none⟩ (.int .i64 0)).setCell ⟨gp, k * 4 + 3, none⟩ (.int .i64 0)) ⟨wipe s.ps (dropRs s y (j + 1)), usesL s.ps.length (dropRs s y (j + 1)), s.rs⟩ (.slice (some ⟨gp, 0, none⟩) s.ps.length aP) (.slice (some ⟨gu, 0, none⟩) s.ps.length aU) (.slice (some ⟨gr, 0, none⟩) s.rs.length aR) by rw [HW.out]; exact hB5)
            have HV3 := Aside0.mk (Kd.R_over HV2.out HB1.out.P noP3 (by exact hgr5))
            clear hb hB5 hgr5 HW HB1 HV2
            go_wp2
            go_roundw
            case rel => exact ⟨j + 1, by omega, by go_num, HB2', HV3⟩
            case measure => simp [intOf]; omega
          · have q0 : (cnt - 1 == 0) = false := beq_eq_false_iff_ne.mpr hc0
            have HW := Aside0.mk (hz2 hc0)
            have HB2' := Aside0.mk (show Box w2 q (wr.setCell ⟨gu, k, none⟩ (.int .i64 (cnt - 1))) ⟨wipe s.ps (dropRs s y (j + 1)), usesL s.ps.length (dropRs s y (j + 1)), s.rs⟩ (.slice AP s.ps.length aP) (.slice (some ⟨gu, 0, none⟩) s.ps.length aU) (.slice (some ⟨gr, 0, none⟩) s.rs.length aR) by rw [HW.out]; exact HB1.out)
            clear fcell0 hadd hB' hgr hb hpq hp0 HDR HB HV hc0 hz1 hz2 hv2 HB1 HW
            go_wp2
            go_roundw
            case rel => exact ⟨j + 1, by omega, by go_num, HB2', HV2⟩
            case measure => simp [intOf]; omega
        · obtain rfl : p = -1 := by unfold okq at hpq; omega
          have hskip := HDR.out.2 rfl
          have HB2' := Aside0.mk (show Box w2 q wr ⟨wipe s.ps (dropRs s y (j + 1)), usesL s.ps.length (dropRs s y (j + 1)), s.rs⟩ (.slice AP s.ps.length aP) (.slice AU s.ps.length aU) (.slice (some ⟨gr, 0, none⟩) s.rs.length aR) by rw [hskip.1, hskip.2]; exact HB.out)
          clear hskip hpq hp0 HDR HB
          go_wp2
          go_roundw
          case rel => exact ⟨j + 1, by omega, by go_num, HB2', HV⟩
          case measure => simp [intOf]; omega
      · obtain rfl : j = 16 := by omega
        have hde : dropRs s y 16 = s.rs.set y [] := drop_end (by rw [HRD.out, H16.out]; exact Nat.le_refl _)
        rw [hde] at HB
        obtain ⟨g', c', u, hvr, hcell, hfro, hB5, _⟩ := box_root HB.out y HY.out (v := .slice none 0 0) (r := []) (Kd.R_nil _ _ _ _ _) (fun q' hq' => by simp [Value.ownBlock] at hq')
        injection hvr with ha hb hc
        injection ha with ha
        injection ha with ha
        subst ha; subst hc
        have x2 := blk_cell HB.out.blk 2
        have HB5 := Aside0.mk (show Box w2 q (wr.setCell ⟨gr, y, none⟩ (.slice none 0 0)) (dropSt s y) (.slice AP s.ps.length aP) (.slice AU s.ps.length aU) (.slice (some ⟨gr, 0, none⟩) s.rs.length aR) from hB5)
        have HY5 := Aside0.mk (blk_below HY3.out hB5.below)
        have z0 := blk_cell hB5.blk 0
        have z1 := blk_cell hB5.blk 1
        have z2 := blk_cell hB5.blk 2
        have y0 := blk_cell HY5.out 0
        have y1 := blk_cell HY5.out 1
        have y2 := blk_cell HY5.out 2
        simp only [List.getElem?_toArray, List.getElem?_cons_zero, List.getElem?_cons_succ] at x2 z0 z1 z2 y0 y1 y2
        have hfr : ∀ i, (wr.setCell ⟨gr, y, none⟩ (.slice none 0 0)).frozen? ⟨g, i, none⟩ = false := fun i => blk_frozen HY5.out i
        have hy1 : (y : Int) < (s.rs.length : Int) := by omega
        have HBB := Aside0.mk (below_then HB3.out HB3.out.size hB5.below)
        clear hb hB5 hde HB
        go_wp2
        have hz := put3_blk (v0 := .slice AP s.ps.length aP) (v1 := .slice AU s.ps.length aU) (v2 := .slice (some ⟨gr, 0, none⟩) s.rs.length aR) HY5.out
        have z0 := blk_cell hz 0
        have z1 := blk_cell hz 1
        have z2 := blk_cell hz 2
        simp only [List.getElem?_toArray, List.getElem?_cons_zero, List.getElem?_cons_succ, put3] at z0 z1 z2
        have HBB2 := Aside0.mk (put3_below (v0 := .slice AP s.ps.length aP) (v1 := .slice AU s.ps.length aU) (v2 := .slice (some ⟨gr, 0, none⟩) s.rs.length aR) HBB.out HGE.out)
        have HGV := Aside0.mk (gives_box (w0 := w2) (s := dropSt s y) (put3_R (v0 := .slice AP s.ps.length aP) (v1 := .slice AU s.ps.length aU) (v2 := .slice (some ⟨gr, 0, none⟩) s.rs.length aR) HY5.out noP HB5.out.P) (put3_R (v0 := .slice AP s.ps.length aP) (v1 := .slice AU s.ps.length aU) (v2 := .slice (some ⟨gr, 0, none⟩) s.rs.length aR) HY5.out noI HB5.out.U) (put3_R (v0 := .slice AP s.ps.length aP) (v1 := .slice AU s.ps.length aU) (v2 := .slice (some ⟨gr, 0, none⟩) s.rs.length aR) HY5.out noR HB5.out.R))
        exact bodyPost_ret (v := .tuple #[.agg #[.slice AP s.ps.length aP, .slice AU s.ps.length aU, .slice (some ⟨gr, 0, none⟩) s.rs.length aR], .int .i64 0]) (by simp [results, Try.f14, go_sem, z0, z1, z2]) rfl ⟨_, by rw [HE.out], by rw [HE.out]; exact HGV.out, HBB2.out⟩
  · have HE := Aside0.mk (dropF_not h0)
    have q0 : (thereF s [x] != 0) = true := bne_iff_ne.mpr h0
    generalize thereF s [x] = r at q0 HE ⊢
    clear h0
    have y0 := blk_cell HY3.out 0
    have y1 := blk_cell HY3.out 1
    have y2 := blk_cell HY3.out 2
    simp only [List.getElem?_toArray, List.getElem?_cons_zero, List.getElem?_cons_succ] at y0 y1 y2
    have hfr : ∀ i, w2.frozen? ⟨g, i, none⟩ = false := fun i => blk_frozen HY3.out i
    go_wp2
    have hz := put3_blk (v0 := .slice none 0 0) (v1 := .slice none 0 0) (v2 := .slice none 0 0) HY3.out
    have z0 := blk_cell hz 0
    have z1 := blk_cell hz 1
    have z2 := blk_cell hz 2
    simp only [List.getElem?_toArray, List.getElem?_cons_zero, List.getElem?_cons_succ, put3] at z0 z1 z2
    have HBB := Aside0.mk (put3_below (v0 := .slice none 0 0) (v1 := .slice none 0 0) (v2 := .slice none 0 0) HB3.out HGE.out)
    exact bodyPost_ret (v := .tuple #[.agg #[.slice none 0 0, .slice none 0 0, .slice none 0 0], .int .i64 r]) (by simp [results, Try.f14, go_sem, z0, z1, z2]) rfl ⟨_, by rw [HE.out], by rw [HE.out]; exact gives_nil _, HBB.out⟩
end Go.Proofs.Ytblalidpeccabac.Pg
