/- pages.Set: its walk. -/
import Derived.Test.YtblalidpeccabacPageP
namespace Go.Proofs.Ytblalidpeccabac.Pg
open Go Go.RowKit Go.Lib Go.Proofs.YtblalidpeccabacW.PrintWords Go.Proofs.YtblalidpeccabacW.PrintLast Go.Proofs.YtblalidpeccabacW.PrintMore Go.Proofs.Ytblalidpeccabac.PPagesBack Go.Proofs.Ytblalidpeccabac.Bs Go.Proofs.Ytblalidpeccabac.RegionVal
set_option linter.unusedVariables false
set_option linter.unusedSimpArgs false

/-- a store, as it is handed back -/
def Gives (w : World) (s : St) (V : Value) : Prop := ∃ A a B b C c, V = .agg #[.slice A s.ps.length a, .slice B s.us.length b, .slice C s.rs.length c] ∧ Lies w A a B b C c s
theorem C_none {α : Type} (d : Kd α) (w : World) : Kd.C d w none 0 [] := by
  obtain ⟨A, c, e, _, h⟩ := Kd.R_reads (Kd.R_nil d 0 w 0 (fun _ => True))
  injection e with e1
  rw [e1]
  exact h
theorem gives_nil (w : World) : Gives w ⟨[], [], []⟩ (.agg #[.slice none 0 0, .slice none 0 0, .slice none 0 0]) :=
  ⟨none, 0, none, 0, none, 0, rfl, C_none _ _, Nat.le_refl _, C_none _ _, Nat.le_refl _, C_none _ _, Nat.le_refl _⟩
theorem gives_box {w0 w : World} {s : St} {vP vU vR : Value} (hP : Kd.R kP 38 w w0.heap.size (fun _ => True) vP s.ps) (hU : Kd.R kI 3 w w0.heap.size (fun _ => True) vU s.us) (hR : Kd.R kR 23 w w0.heap.size (fun k => some k ≠ vU.ownBlock) vR s.rs) : Gives w s (.agg #[vP, vU, vR]) := by
  obtain ⟨A, a, rfl, h1, h2⟩ := Kd.R_reads hP
  obtain ⟨B, b, rfl, h3, h4⟩ := Kd.R_reads hU
  obtain ⟨C, c, rfl, h5, h6⟩ := Kd.R_reads hR
  exact ⟨A, a, B, b, C, c, rfl, h2, h1, h4, h3, h6, h5⟩
theorem setF_ask {s : St} {x t v : Int} (h : askF s x t ≠ 0) : setF s x t v = (⟨[], [], []⟩, 0, askF s x t) := by unfold setF; rw [if_neg h]

theorem set_of {s : St} {y u : Nat} {v : Int} (h : askF s (y : Int) (u : Int) = 0) : setF s (y : Int) (u : Int) v = (if 400 < (rootF ⟨(setOn s y u v).1.ps, usesL (setOn s y u v).1.ps.length (s.rs ++ [(setOn s y u v).2]), s.rs⟩ (setOn s y u v).2).1.ps.length ∨ 40 < (rootF ⟨(setOn s y u v).1.ps, usesL (setOn s y u v).1.ps.length (s.rs ++ [(setOn s y u v).2]), s.rs⟩ (setOn s y u v).2).1.rs.length then (⟨[], [], []⟩, 0, 2) else ((rootF ⟨(setOn s y u v).1.ps, usesL (setOn s y u v).1.ps.length (s.rs ++ [(setOn s y u v).2]), s.rs⟩ (setOn s y u v).2).1, (rootF ⟨(setOn s y u v).1.ps, usesL (setOn s y u v).1.ps.length (s.rs ++ [(setOn s y u v).2]), s.rs⟩ (setOn s y u v).2).2, 0)) := by
  unfold setF
  rw [if_pos h]
  simp only [Int.toNat_natCast]
theorem page_put {W : World} {qp : Nat} {p0 p1 p2 p3 : Int} (hk : W.heap[qp]? = some (.cells #[.int .i64 p0, .int .i64 p1, .int .i64 p2, .int .i64 p3] 38 (0, 0))) (j : Nat) (hj : j < 4) (v : Int) :
    W.cell? ⟨qp, j, none⟩ = some (.int .i64 ([p0, p1, p2, p3].getD j 0)) ∧ W.frozen? ⟨qp, j, none⟩ = false ∧ ∃ r0 r1 r2 r3, [p0, p1, p2, p3].set j v = [r0, r1, r2, r3] ∧ (W.setCell ⟨qp, j, none⟩ (.int .i64 v)).heap[qp]? = some (.cells #[.int .i64 r0, .int .i64 r1, .int .i64 r2, .int .i64 r3] 38 (0, 0)) := by
  have h := blk_cell hk j
  have hf := blk_frozen hk j
  have h4 : j = 0 ∨ j = 1 ∨ j = 2 ∨ j = 3 := by omega
  rcases h4 with rfl | rfl | rfl | rfl
  · exact ⟨h, hf, v, p1, p2, p3, rfl, blk_put hk 0 _ rfl⟩
  · exact ⟨h, hf, p0, v, p2, p3, rfl, blk_put hk 1 _ rfl⟩
  · exact ⟨h, hf, p0, p1, v, p3, rfl, blk_put hk 2 _ rfl⟩
  · exact ⟨h, hf, p0, p1, p2, v, rfl, blk_put hk 3 _ rfl⟩

set_option maxHeartbeats 8000000 in
set_option maxRecDepth 100000 in
theorem set_calls (w : World) (A : Option Addr) (a : Nat) (B : Option Addr) (b : Nat) (C : Option Addr) (c : Nat) (s : St) (hL : Lies w A a B b C c s) (x t v : Int) :
    Calls Try.prog 10 #[.agg #[.slice A s.ps.length a, .slice B s.us.length b, .slice C s.rs.length c], .int .i64 x, .int .i64 t, .int .i64 v] w fun e w' => ∃ V, e = .returned (.tuple #[V, .int .i64 (setF s x t v).2.1, .int .i64 (setF s x t v).2.2]) ∧ Gives w' (setF s x t v).1 V ∧ Below w.heap.size w w' := by
  have HL := Aside0.mk hL
  have n1 := heap_alloc_new w (.cells #[.slice A s.ps.length a, .slice B s.us.length b, .slice C s.rs.length c] 26)
  have n2 := heap_alloc_new (w.alloc (.cells #[.slice A s.ps.length a, .slice B s.us.length b, .slice C s.rs.length c] 26)) (.cells #[.slice none 0 0, .slice none 0 0, .slice none 0 0] 26)
  have n1' := blk_alloc n1 (.cells #[.slice none 0 0, .slice none 0 0, .slice none 0 0] 26)
  have hbw : Below w.heap.size w ((w.alloc (.cells #[.slice A s.ps.length a, .slice B s.us.length b, .slice C s.rs.length c] 26)).alloc (.cells #[.slice none 0 0, .slice none 0 0, .slice none 0 0] 26)) := below_alloc (below_alloc (Below.refl _ _) _) _
  rw [World.size_alloc] at n2
  obtain ⟨W1, hW1⟩ : ∃ W1, W1 = (w.alloc (.cells #[.slice A s.ps.length a, .slice B s.us.length b, .slice C s.rs.length c] 26)).alloc (.cells #[.slice none 0 0, .slice none 0 0, .slice none 0 0] 26) := ⟨_, rfl⟩
  obtain ⟨g, hg⟩ : ∃ g, g = w.heap.size + 1 := ⟨_, rfl⟩
  rw [← hW1] at n1' n2 hbw
  rw [← hg] at n2
  have HW1 := Aside0.mk hbw
  have HX1 := Aside0.mk n1'
  have HY1 := Aside0.mk n2
  have HWW := Aside0.mk hW1
  have HGG := Aside0.mk hg
  have HGE := Aside0.mk (show w.heap.size ≤ g by omega)
  have HASK := Aside0.mk (asked_calls W1 A a B b C c s (hL.below hbw) x t)
  have d0 := blk_cell n1' 0
  have d1 := blk_cell n1' 1
  have d2 := blk_cell n1' 2
  simp only [List.getElem?_toArray, List.getElem?_cons_zero, List.getElem?_cons_succ] at d0 d1 d2
  clear hL hW1 hbw n1 n1' n2 hg
  go_enter Try.func10, Try.ntmps10
  go_upto_region 1 with (fail)
  rw [← HWW.out, ← HGG.out]
  go_wp2_with fail
  refine HASK.out.mono ?_
  rintro e w2 ⟨rfl, hb⟩
  have HB2 := Aside0.mk (below_then HW1.out HW1.out.size hb)
  have HX2 := Aside0.mk (blk_below HX1.out hb)
  have HY2 := Aside0.mk (blk_below HY1.out hb)
  clear d0 d1 d2 hb HASK HWW HGG
  by_cases h0 : askF s x t = 0
  · have HE0 := Aside0.mk h0
    obtain ⟨y, u, rfl, rfl, hu, hy, h16, hok⟩ := ask_zero h0
    have HOKR := Aside0.mk hok
    rw [h0]
    have hOK := (ask_ok.1 h0).1
    have HOK := Aside0.mk hOK
    have d0 := blk_cell HX2.out 0
    have d1 := blk_cell HX2.out 1
    have d2 := blk_cell HX2.out 2
    simp only [List.getElem?_toArray, List.getElem?_cons_zero, List.getElem?_cons_succ] at d0 d1 d2
    have HOWN := Aside0.mk (own_calls w2 A a B b C c s (HL.out.below HB2.out) hOK.n (by rw [hOK.U, usesL_length]; exact hOK.n) hOK.m (fun r hr => by have := (hOK.R r hr).1; omega))
    clear h0 hOK hok
    go_wp2_with fail
    refine HOWN.out.mono ?_
    rintro e w3 ⟨vP, vU, vR, rfl, hP, hU, hR, hb⟩
    obtain ⟨AP, aP, rfl, _⟩ := Kd.R_reads hP
    obtain ⟨AU, aU, rfl, _⟩ := Kd.R_reads hU
    obtain ⟨AR, aR, rfl, _⟩ := Kd.R_reads hR
    have hal : Below w3.heap.size w3 (w3.alloc (.cells #[.slice AP s.ps.length aP, .slice AU s.us.length aU, .slice AR s.rs.length aR] 26)) := below_alloc (Below.refl _ _) _
    have nb := heap_alloc_new w3 (.cells #[.slice AP s.ps.length aP, .slice AU s.us.length aU, .slice AR s.rs.length aR] 26)
    obtain ⟨W4, hW4⟩ : ∃ W4, W4 = w3.alloc (.cells #[.slice AP s.ps.length aP, .slice AU s.us.length aU, .slice AR s.rs.length aR] 26) := ⟨_, rfl⟩
    obtain ⟨q, hq⟩ : ∃ q, q = w3.heap.size := ⟨_, rfl⟩
    have hBX : Box w2 q W4 s (.slice AP s.ps.length aP) (.slice AU s.us.length aU) (.slice AR s.rs.length aR) := by
      rw [hW4, hq]
      exact ⟨hb.size, nb, Kd.R_below hP hal, Kd.R_below hU hal, Kd.R_below hR hal, below_then hb hb.size hal⟩
    have HBX := Aside0.mk hBX
    have HW4 := Aside0.mk hW4
    have HQ := Aside0.mk hq
    have HX4 := Aside0.mk (blk_below HX2.out hBX.below)
    have HY4 := Aside0.mk (blk_below HY2.out hBX.below)
    have HB4 := Aside0.mk (below_then HB2.out HB2.out.size hBX.below)
    clear HOWN d0 d1 d2 hW4 hq hP hU hR hb hal nb hBX
    go_upto_region 5 with (fail)
    rw [← HW4.out, ← HQ.out]
    clear HW4 HQ
    have d0 := blk_cell HX4.out 0
    have d1 := blk_cell HX4.out 1
    have d2 := blk_cell HX4.out 2
    simp only [List.getElem?_toArray, List.getElem?_cons_zero, List.getElem?_cons_succ] at d0 d1 d2
    obtain ⟨ar, A1, c1, rfl, e1, hc1, hC1⟩ := at_R (HL.out.below HB4.out).R y hy
    have hy1 : (y : Int) < (s.rs.length : Int) := by omega
    obtain ⟨r0, hr0⟩ : ∃ r0, r0 = s.rs[y] := ⟨_, rfl⟩
    have HRD := Aside0.mk (show s.rs.getD y [] = r0 by rw [hr0, List.getD_eq_getElem?_getD, List.getElem?_eq_getElem hy]; rfl)
    have HPG := fun w5 (h : Below w.heap.size w w5) => page_calls w5 A a B b (some ar) c s (HL.out.below h) y u hy hu h16 HOKR.out
    rw [← hr0] at e1 hc1 hC1 h16 HOKR
    have hcl := cloneI_calls W4 A1 c1 r0 hC1 hc1 (by omega)
    rw [h16] at hcl e1 hc1
    have HCL := Aside0.mk hcl
    have H16 := Aside0.mk h16
    clear hC1 h16 hr0 hcl
    go_wp2_with fail
    refine HCL.out.mono ?_
    rintro e w5 ⟨v5, rfl, hv, hb⟩
    obtain ⟨qr, cr, e5, hqr, hqlt, cells, hcells⟩ := Kd.R_form hv (by rw [H16.out]; omega)
    rw [H16.out] at e5
    subst e5
    have HP5 := Aside0.mk (HPG w5 (below_then HB4.out HB4.out.size hb))
    have HV5 := Aside0.mk hv
    have HBX5 := Aside0.mk (HBX.out.keep hb)
    have HR5 := Aside0.mk (Kd.R_below (Kd.R_elderB HBX.out.R qr hqr) hb)
    have HX5 := Aside0.mk (blk_below HX4.out hb)
    have HQU := Aside0.mk (show some qr ≠ (Value.slice AU s.us.length aU).ownBlock from fun e => by have := Kd.R_lt HBX.out.U qr e.symm; omega)
    have HQR := Aside0.mk (show w2.heap.size ≤ qr by have := HBX.out.below.size; omega)
    clear HCL HPG hv hb hqr hqlt hcells d0 d1 d2 e1
    have d0 := blk_cell HX5.out 0
    have d1 := blk_cell HX5.out 1
    have d2 := blk_cell HX5.out 2
    simp only [List.getElem?_toArray, List.getElem?_cons_zero, List.getElem?_cons_succ] at d0 d1 d2
    go_wp2_with fail
    refine HP5.out.mono ?_
    rintro e w6 ⟨⟨p0, p1, p2, p3, hp, rfl⟩, hb⟩
    have HPP := Aside0.mk hp
    have HV6 := Aside0.mk (Kd.R_below HV5.out hb)
    have HBX6 := Aside0.mk (HBX5.out.keep hb)
    have HR6 := Aside0.mk (Kd.R_below HR5.out hb)
    have hal : Below w6.heap.size w6 (w6.alloc (.cells #[.int .i64 p0, .int .i64 p1, .int .i64 p2, .int .i64 p3] 38)) := below_alloc (Below.refl _ _) _
    have n7 := heap_alloc_new w6 (.cells #[.int .i64 p0, .int .i64 p1, .int .i64 p2, .int .i64 p3] 38)
    obtain ⟨W7, hW7⟩ : ∃ W7, W7 = w6.alloc (.cells #[.int .i64 p0, .int .i64 p1, .int .i64 p2, .int .i64 p3] 38) := ⟨_, rfl⟩
    obtain ⟨qp, hqp⟩ : ∃ qp, qp = w6.heap.size := ⟨_, rfl⟩
    rw [← hW7] at hal n7
    rw [← hqp] at n7
    have HW7 := Aside0.mk hW7
    have HQP := Aside0.mk hqp
    have HN7 := Aside0.mk n7
    have HV7 := Aside0.mk (Kd.R_below HV6.out hal)
    have HBX7 := Aside0.mk (HBX6.out.keep hal)
    have HQW := Aside0.mk (show w6.heap.size ≤ qp by omega)
    have HAL := Aside0.mk hal
    clear hp hb hal n7 hW7 hqp HP5 d0 d1 d2 HV5 HBX5 HR5
    go_upto_region 7 with (fail)
    rw [← HW7.out, ← HQP.out]
    clear HW7 HQP
    have hu4 : u % 4 < 4 := by omega
    obtain ⟨kc, kf, n0, n1, n2, n3, hset, hk8⟩ := page_put HN7.out (u % 4) hu4 v
    have HSET := Aside0.mk hset
    have HK8 := Aside0.mk hk8
    have HPV := Aside0.mk (rfl : [p0, p1, p2, p3].getD (u % 4) 0 = [p0, p1, p2, p3].getD (u % 4) 0)
    clear hset hk8 hu4
    have HSF := Aside0.mk (set_of (v := v) HE0.out)
    have HON := Aside0.mk (show setOn s y u v = if [p0, p1, p2, p3].getD (u % 4) 0 = v then (s, r0) else ((freshF s [n0, n1, n2, n3]).1, r0.set (u / 4) (freshF s [n0, n1, n2, n3]).2) by unfold setOn; rw [HPP.out, HRD.out, HSET.out])
    have HS1 := Aside0.mk (on_ok (y := y) (t := u) HOK.out v (by rw [HRD.out, H16.out]; decide) hu)
    have HULT := Aside0.mk hu
    have HOKM := HOK.out.m
    clear HSET HE0 HOKR HPP HRD hy hy1 hu
    by_cases hpv : [p0, p1, p2, p3].getD (u % 4) 0 = v
    case' pos =>
      obtain ⟨s1, hs1⟩ : ∃ s1, s1 = s := ⟨_, rfl⟩
      have HON := Aside0.mk (show setOn s y u v = (s1, r0) by rw [HON.out, if_pos hpv, hs1])
      rw [HON.out] at HS1 HSF
      simp only at HS1 HSF
      have q0 : ([p0, p1, p2, p3].getD (u % 4) 0 != v) = false := bne_eq_false_iff_eq.mpr hpv
      generalize [p0, p1, p2, p3].getD (u % 4) 0 = pv at kc q0
      have HB := Aside0.mk (show Box w2 q W7 s1 (.slice AP s1.ps.length aP) (.slice AU s1.us.length aU) (.slice AR s.rs.length aR) by rw [hs1]; exact HBX6.out.keep HAL.out)
      have HVU := Aside0.mk (show some qr ≠ (Value.slice AU s1.us.length aU).ownBlock by rw [hs1]; exact HQU.out)
      have HV := Aside0.mk (Kd.R_below HV6.out HAL.out)
      generalize W7 = Z at kc kf HB HV HN7 ⊢
      generalize r0 = r at HS1 HV HSF
      clear hpv HBX6 HAL HV6 HR6 HQU hs1 HK8 HN7 HOK H16 kf HON HQW
      go_upto_region 10 with (fail)
    case' neg =>
      have HON := Aside0.mk (show setOn s y u v = ((freshF s [n0, n1, n2, n3]).1, r0.set (u / 4) (freshF s [n0, n1, n2, n3]).2) by rw [HON.out, if_neg hpv])
      have q0 : ([p0, p1, p2, p3].getD (u % 4) 0 != v) = true := bne_iff_ne.mpr hpv
      generalize [p0, p1, p2, p3].getD (u % 4) 0 = pv at kc q0
      clear hpv
      go_upto_region 9 with (fail)
      clear kc kf q0
      have hal8 : Below w6.heap.size w6 (W7.setCell ⟨qp, u % 4, none⟩ (.int .i64 v)) := HAL.out.setCell (p := ⟨qp, u % 4, none⟩) HQW.out _
      have HBX8 := Aside0.mk (HBX6.out.keep hal8)
      have HV8 := Aside0.mk (Kd.R_below HV6.out hal8)
      have HR8 := Aside0.mk (Kd.R_below HR6.out hal8)
      clear hal8 HAL HQW HBX6 HV6 HR6 HN7
      generalize W7.setCell ⟨qp, u % 4, none⟩ (.int .i64 v) = W8 at HBX8 HV8 HR8 HK8 ⊢
      have k0 := blk_cell HK8.out 0
      have k1 := blk_cell HK8.out 1
      have k2 := blk_cell HK8.out 2
      have k3 := blk_cell HK8.out 3
      simp only [List.getElem?_toArray, List.getElem?_cons_zero, List.getElem?_cons_succ] at k0 k1 k2 k3
      have HFR := Aside0.mk (fresh_calls w2 W8 q s _ _ _ n0 n1 n2 n3 HBX8.out (by rw [HOK.out.U, usesL_length]) HOK.out.n)
      have hu := HULT.out
      go_wp2_with fail
      refine HFR.out.mono ?_
      rintro e w9 ⟨vP9, vU9, rfl, hB9, hK9, hs9⟩
      generalize freshF s [n0, n1, n2, n3] = f at hB9 HON ⊢
      obtain ⟨s1, k⟩ := f
      simp only at hB9 HON ⊢
      rw [HON.out] at HS1 HSF
      simp only at HS1 HSF
      obtain ⟨AP, aP, rfl, _⟩ := Kd.R_reads hB9.P
      obtain ⟨AU, aU, rfl, _⟩ := Kd.R_reads hB9.U
      obtain ⟨cells, hcells⟩ := Kd.R_typed HV8.out qr rfl
      have hq9 := hK9 qr cells 3 hcells (by decide) (by decide) HQU.out
      have hv9 := R_any (Kd.R_step (R_ints HV8.out) (fun k hk hlt => by
        have e2 : qr = k := by simpa [Value.ownBlock] using hk
        subst e2
        exact hq9.1))
      have hR9 := kept_R HR8.out hK9
      obtain ⟨g9, c9, e9, hg9, hcells9, kc, kf, hv10, hgr⟩ := R_put hv9 (u / 4) (by rw [H16.out]; have := HULT.out; omega) k
      injection e9 with e9 e9b e9c
      injection e9 with e9
      injection e9 with e9
      subst e9 e9c
      clear e9b
      have HB := Aside0.mk (box_row (j := u / 4) (u := .int .i64 k) hB9 (by rw [HS1.out.1]; exact hR9) hcells9 hq9.2 HQR.out)
      have HVU := Aside0.mk hq9.2
      have HV := Aside0.mk hv10
      have hu64 : u / 4 < 16 := by have := HULT.out; omega
      clear hB9 hK9 hs9 hq9 hcells hv9 hR9 hg9 hcells9 hv10 hgr HK8 HBX8 HV8 HR8 HFR k0 k1 k2 k3 HQU
      generalize r0.set (u / 4) k = r at HS1 HSF HV
      generalize r0[u / 4]'_ = rv at kc
      clear HON H16 HOK
      go_upto_region 10 with (fail)
      generalize w9.setCell ⟨qr, u / 4, none⟩ (.int .i64 k) = Z at HB HV ⊢
      clear kc kf hu64 hu
    all_goals
      have HVL := Aside0.mk (Kd.R_lower HV.out (show w2.heap.size ≤ W4.heap.size from HBX.out.below.size))
      have HB0 := Aside0.mk (show Box w2 q Z ⟨s1.ps, usesL s1.ps.length (s.rs ++ [r.take 0]), s.rs⟩ (.slice AP s1.ps.length aP) (.slice AU s1.ps.length aU) (.slice AR s.rs.length aR) by
        have hB := HB.out
        have hul : s1.us.length = s1.ps.length := by rw [HS1.out.2.1, usesL_length]
        rw [hul] at hB
        exact ⟨hB.le, hB.blk, hB.P, by rw [List.take_zero, usesL_open, ← HS1.out.2.1]; exact hB.U, by have h := hB.R; rw [HS1.out.1] at h; exact h, hB.below⟩)
      have HVU := Aside0.mk (show some qr ≠ (Value.slice AU s1.ps.length aU).ownBlock by have h := HVU.out; rw [HS1.out.2.1, usesL_length] at h; exact h)
      have hn401 : s1.ps.length ≤ 401 := HS1.out.2.2.2.2.2
      have HM := Aside0.mk HOKM
      clear HV HB HBX
      go_wp2_with fail
      go_loopw [56] (fun i wr => ∃ j : Nat, j ≤ 16 ∧ i = .int .i64 (j : Int) ∧ Aside0 (Box w2 q wr ⟨s1.ps, usesL s1.ps.length (s.rs ++ [r.take j]), s.rs⟩ (.slice AP s1.ps.length aP) (.slice AU s1.ps.length aU) (.slice AR s.rs.length aR)) ∧ Aside0 (Kd.R kI 3 wr w2.heap.size (fun _ => True) (.slice (some ⟨qr, 0, none⟩) 16 cr) r)) (fun i _ => 16 - (intOf i).toNat)
      case atStart => exact ⟨0, Nat.zero_le _, rfl, HB0, HVL⟩
      case round =>
        obtain ⟨j, hjl, rfl, HB, HV⟩ := hrel
        by_cases hlt : j < 16
        · have hjr : j < r.length := by rw [HS1.out.2.2.2.1]; exact hlt
          have f1 := R_at HV.out j hjr
          have hpq := HS1.out.2.2.2.2.1 r[j] (List.getElem_mem hjr)
          have HJR := Aside0.mk (fun k (hk : k < s1.ps.length) (e : r[j] = (k : Int)) => usesL_add s1.ps.length s.rs r j hjr k hk e)
          have HJS := Aside0.mk (usesL_skip s1.ps.length s.rs r j hjr)
          generalize r[j] = p at f1 hpq HJR HJS
          clear hjr
          by_cases hp0 : 0 ≤ p
          · obtain ⟨k, rfl⟩ := Int.eq_ofNat_of_zero_le hp0
            have hkn : k < s1.ps.length := by unfold okq at hpq; omega
            obtain ⟨hu0, hu1⟩ := usesL_le (n := s1.ps.length) (X := s.rs) (r := r) (j := j) (okR_of HS1.out.2.2.1) (by rw [HS1.out.2.2.2.1]; omega) HM.out k
            have hadd := HJR.out k hkn rfl
            obtain ⟨gu, cu, eu, fcell0, ffro, hB', hgr⟩ := box_use HB.out k (by show k < (usesL _ _).length; rw [usesL_length]; exact hkn) ((usesL s1.ps.length (s.rs ++ [r.take j])).getD k 0 + 1)
            have fcell : wr.cell? ⟨gu, k, none⟩ = some (.int .i64 ((usesL s1.ps.length (s.rs ++ [r.take j])).getD k 0)) := by
              rw [fcell0]
              simp only [List.getD_eq_getElem?_getD]
              rw [List.getElem?_eq_getElem (by rw [usesL_length]; exact hkn)]
              rfl
            injection eu with ha hb hc
            subst ha; subst hc
            have HB2' := Aside0.mk (show Box w2 q (wr.setCell ⟨gu, k, none⟩ (.int .i64 ((usesL s1.ps.length (s.rs ++ [r.take j])).getD k 0 + 1))) ⟨s1.ps, usesL s1.ps.length (s.rs ++ [r.take (j + 1)]), s.rs⟩ (.slice AP s1.ps.length aP) (.slice (some ⟨gu, 0, none⟩) s1.ps.length aU) (.slice AR s.rs.length aR) by rw [hadd]; exact hB')
            have HV2' := Aside0.mk (R_any (Kd.R_grown (R_ints HV.out) hgr (fun k' hk' e => HVU.out (by
              have e2 : qr = k' := by simpa [Value.ownBlock] using hk'
              rw [e2]
              exact e))))
            have x1 := blk_cell HB.out.blk 1
            simp only [List.getElem?_toArray, List.getElem?_cons_zero, List.getElem?_cons_succ] at x1
            generalize (usesL s1.ps.length (s.rs ++ [r.take j])).getD k 0 = cnt at fcell hu0 hu1 HB2' HV2'
            have hw := wrap_1 cnt hu0 (by omega)
            have hk1 : (k : Int) < (s1.ps.length : Int) := by omega
            clear fcell0 hadd hB' hgr hb hpq hp0 HJR HJS HB HV
            go_wp2
            go_roundw
            case rel => exact ⟨j + 1, by omega, by go_num, HB2', HV2'⟩
            case measure => simp [intOf]; omega
          · obtain rfl : p = -1 := by unfold okq at hpq; omega
            have hskip := HJS.out rfl
            have HB2' := Aside0.mk (show Box w2 q wr ⟨s1.ps, usesL s1.ps.length (s.rs ++ [r.take (j + 1)]), s.rs⟩ (.slice AP s1.ps.length aP) (.slice AU s1.ps.length aU) (.slice AR s.rs.length aR) by rw [hskip]; exact HB.out)
            clear hskip hpq hp0 HJR HJS HB
            go_wp2
            go_roundw
            case rel => exact ⟨j + 1, by omega, by go_num, HB2', HV⟩
            case measure => simp [intOf]; omega
        · obtain rfl : j = 16 := by omega
          have h16 := HS1.out.2.2.2.1
          have hb16 := HB.out
          rw [List.take_of_length_le (by omega)] at hb16
          have hroot := root_calls w2 wr q ⟨s1.ps, usesL s1.ps.length (s.rs ++ [r]), s.rs⟩ (.slice AP s1.ps.length aP) (.slice AU s1.ps.length aU) (.slice AR s.rs.length aR) (some ⟨qr, 0, none⟩) cr r hb16 (by rw [h16]; exact HV.out) (fun q' hq' => by
            have e2 : qr = q' := by simpa [Value.ownBlock] using hq'
            rw [← e2]
            exact HVU.out) (by have := HM.out; show s.rs.length ≤ 100; omega)
          obtain ⟨nn, hnn, hps, _, hrt⟩ := root_is ⟨s1.ps, usesL s1.ps.length (s.rs ++ [r]), s.rs⟩ r
          simp only at hps
          rw [h16] at hroot
          generalize rootF ⟨s1.ps, usesL s1.ps.length (s.rs ++ [r]), s.rs⟩ r = T at hroot HSF hps
          obtain ⟨T, nr⟩ := T
          simp only at hroot HSF hps
          have HROOT := Aside0.mk hroot
          have HPS := Aside0.mk hps
          clear h16 hb16 hroot hnn hrt hps HB HV
          go_wp2_with fail
          refine HROOT.out.mono ?_
          rintro e w10 ⟨vR', rfl, hB⟩
          clear HROOT
          obtain ⟨AR', aR', rfl, _⟩ := Kd.R_reads hB.R
          obtain ⟨AP', aP', eP, _⟩ := Kd.R_reads hB.P
          have HBT := Aside0.mk hB
          have HY10 := Aside0.mk (blk_below HY2.out hB.below)
          have x0 := blk_cell hB.blk 0
          have x1 := blk_cell hB.blk 1
          have x2 := blk_cell hB.blk 2
          have y0 := blk_cell HY10.out 0
          have y1 := blk_cell HY10.out 1
          have y2 := blk_cell HY10.out 2
          simp only [List.getElem?_toArray, List.getElem?_cons_zero, List.getElem?_cons_succ] at x0 x1 x2 y0 y1 y2
          have hfr : ∀ i, w10.frozen? ⟨g, i, none⟩ = false := fun i => blk_frozen HY10.out i
          have HBB := Aside0.mk (below_then HB2.out HB2.out.size hB.below)
          clear hB eP
          have HZ := Aside0.mk (put3_blk (v0 := .slice none 0 0) (v1 := .slice none 0 0) (v2 := .slice none 0 0) HY10.out)
          by_cases h1 : 400 < s1.ps.length
          · have q0 : decide ((400 : Int) < (s1.ps.length : Int)) = true := decide_eq_true (by omega)
            have HE := Aside0.mk (show setF s (y : Int) (u : Int) v = (⟨[], [], []⟩, 0, 2) by rw [HSF.out, if_pos (.inl (by rw [HPS.out]; exact h1))])
            clear h1 hn401
            go_wp2
            have z0 := blk_cell HZ.out 0
            have z1 := blk_cell HZ.out 1
            have z2 := blk_cell HZ.out 2
            simp only [List.getElem?_toArray, List.getElem?_cons_zero, List.getElem?_cons_succ, put3] at z0 z1 z2
            have HBB2 := Aside0.mk (put3_below (v0 := .slice none 0 0) (v1 := .slice none 0 0) (v2 := .slice none 0 0) HBB.out HGE.out)
            exact bodyPost_ret (v := .tuple #[.agg #[.slice none 0 0, .slice none 0 0, .slice none 0 0], .int .i64 0, .int .i64 2]) (by simp [results, Try.f10, go_sem, z0, z1, z2]) rfl ⟨_, by rw [HE.out], by rw [HE.out]; exact gives_nil _, HBB2.out⟩
          by_cases h2 : 40 < T.rs.length
          · have q0 : decide ((400 : Int) < (s1.ps.length : Int)) = false := decide_eq_false (by omega)
            have q1 : decide ((40 : Int) < (T.rs.length : Int)) = true := decide_eq_true (by omega)
            have HE := Aside0.mk (show setF s (y : Int) (u : Int) v = (⟨[], [], []⟩, 0, 2) by rw [HSF.out, if_pos (.inr h2)])
            clear h1 h2 hn401
            go_wp2
            have z0 := blk_cell HZ.out 0
            have z1 := blk_cell HZ.out 1
            have z2 := blk_cell HZ.out 2
            simp only [List.getElem?_toArray, List.getElem?_cons_zero, List.getElem?_cons_succ, put3] at z0 z1 z2
            have HBB2 := Aside0.mk (put3_below (v0 := .slice none 0 0) (v1 := .slice none 0 0) (v2 := .slice none 0 0) HBB.out HGE.out)
            exact bodyPost_ret (v := .tuple #[.agg #[.slice none 0 0, .slice none 0 0, .slice none 0 0], .int .i64 0, .int .i64 2]) (by simp [results, Try.f10, go_sem, z0, z1, z2]) rfl ⟨_, by rw [HE.out], by rw [HE.out]; exact gives_nil _, HBB2.out⟩
          have q0 : decide ((400 : Int) < (s1.ps.length : Int)) = false := decide_eq_false (by omega)
          have q1 : decide ((40 : Int) < (T.rs.length : Int)) = false := decide_eq_false (by omega)
          have HE := Aside0.mk (show setF s (y : Int) (u : Int) v = (T, nr, 0) by rw [HSF.out, if_neg (by rw [HPS.out]; omega)])
          clear h1 h2 hn401
          go_wp2
          have hz := put3_blk (v0 := .slice AP s1.ps.length aP) (v1 := .slice AU s1.ps.length aU) (v2 := .slice AR' T.rs.length aR') HY10.out
          have z0 := blk_cell hz 0
          have z1 := blk_cell hz 1
          have z2 := blk_cell hz 2
          simp only [List.getElem?_toArray, List.getElem?_cons_zero, List.getElem?_cons_succ, put3] at z0 z1 z2
          have HBB2 := Aside0.mk (put3_below (v0 := .slice AP s1.ps.length aP) (v1 := .slice AU s1.ps.length aU) (v2 := .slice AR' T.rs.length aR') HBB.out HGE.out)
          have HGV := Aside0.mk (gives_box (w0 := w2) (s := T) (put3_R (v0 := .slice AP s1.ps.length aP) (v1 := .slice AU s1.ps.length aU) (v2 := .slice AR' T.rs.length aR') HY10.out noP HBT.out.P) (put3_R (v0 := .slice AP s1.ps.length aP) (v1 := .slice AU s1.ps.length aU) (v2 := .slice AR' T.rs.length aR') HY10.out noI HBT.out.U) (put3_R (v0 := .slice AP s1.ps.length aP) (v1 := .slice AU s1.ps.length aU) (v2 := .slice AR' T.rs.length aR') HY10.out noR HBT.out.R))
          exact bodyPost_ret (v := .tuple #[.agg #[.slice AP s1.ps.length aP, .slice AU s1.ps.length aU, .slice AR' T.rs.length aR'], .int .i64 nr, .int .i64 0]) (by simp [results, Try.f10, go_sem, z0, z1, z2]) rfl ⟨_, by rw [HE.out], by rw [HE.out]; exact HGV.out, HBB2.out⟩
  · have HE := Aside0.mk (setF_ask (v := v) h0)
    have q0 : (askF s x t != 0) = true := bne_iff_ne.mpr h0
    generalize askF s x t = r at q0 HE ⊢
    clear h0
    have y0 := blk_cell HY2.out 0
    have y1 := blk_cell HY2.out 1
    have y2 := blk_cell HY2.out 2
    simp only [List.getElem?_toArray, List.getElem?_cons_zero, List.getElem?_cons_succ] at y0 y1 y2
    have hfr : ∀ i, w2.frozen? ⟨g, i, none⟩ = false := fun i => blk_frozen HY2.out i
    go_wp2
    have hz := put3_blk (v0 := .slice none 0 0) (v1 := .slice none 0 0) (v2 := .slice none 0 0) HY2.out
    have z0 := blk_cell hz 0
    have z1 := blk_cell hz 1
    have z2 := blk_cell hz 2
    simp only [List.getElem?_toArray, List.getElem?_cons_zero, List.getElem?_cons_succ, put3] at z0 z1 z2
    have HBB := Aside0.mk (put3_below (v0 := .slice none 0 0) (v1 := .slice none 0 0) (v2 := .slice none 0 0) HB2.out HGE.out)
    exact bodyPost_ret (v := .tuple #[.agg #[.slice none 0 0, .slice none 0 0, .slice none 0 0], .int .i64 0, .int .i64 r]) (by simp [results, Try.f10, go_sem, z0, z1, z2]) rfl ⟨_, by rw [HE.out], by rw [HE.out]; exact gives_nil _, HBB.out⟩
end Go.Proofs.Ytblalidpeccabac.Pg
