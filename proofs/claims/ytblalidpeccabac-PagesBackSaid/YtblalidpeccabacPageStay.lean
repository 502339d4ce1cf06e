/- PagesStay: its walk. -/
import Derived.Test.YtblalidpeccabacPageW
namespace Go.Proofs.Ytblalidpeccabac.Pg
open Go Go.RowKit Go.Lib Go.Proofs.YtblalidpeccabacW.PrintWords Go.Proofs.YtblalidpeccabacW.PrintLast Go.Proofs.YtblalidpeccabacW.PrintMore Go.Proofs.Ytblalidpeccabac.PPagesBack Go.Proofs.Ytblalidpeccabac.Bs Go.Proofs.Ytblalidpeccabac.RegionVal
set_option linter.unusedVariables false
set_option linter.unusedSimpArgs false

theorem dropF_ok {s : St} {x : Int} (h : (dropF s x).2 = 0) : ∃ y : Nat, x = (y : Int) ∧ Ok s ∧ dropF s x = (dropSt s y, 0) := by
  by_cases ht : thereF s [x] = 0
  · obtain ⟨h1, h2⟩ := there_ok.1 ht
    obtain ⟨y, rfl, _⟩ := okv_iff.1 h2
    exact ⟨y, rfl, h1, dropF_of ht⟩
  · rw [dropF_not ht] at h
    exact absurd h ht

set_option maxHeartbeats 16000000 in
set_option maxRecDepth 100000 in
theorem pagesStay_walk (w : World) (A : Option Addr) (a : Nat) (B : Option Addr) (b : Nat) (C : Option Addr) (c : Nat) (s : St) (hL : Lies w A a B b C c s) (x t v o p : Int) :
    Calls Try.prog 4 #[.agg #[.slice A s.ps.length a, .slice B s.us.length b, .slice C s.rs.length c], .int .i64 x, .int .i64 t, .int .i64 v, .int .i64 o, .int .i64 p] w fun e w' => e = .returned (.bool true) ∧ Below w.heap.size w w' := by
  have n1 := heap_alloc_new w (.cells #[.slice A s.ps.length a, .slice B s.us.length b, .slice C s.rs.length c] 26)
  have hb1 : Below w.heap.size w (w.alloc (.cells #[.slice A s.ps.length a, .slice B s.us.length b, .slice C s.rs.length c] 26)) := below_alloc (Below.refl _ _) _
  obtain ⟨W1, hW1⟩ : ∃ W1, W1 = w.alloc (.cells #[.slice A s.ps.length a, .slice B s.us.length b, .slice C s.rs.length c] 26) := ⟨_, rfl⟩
  rw [← hW1] at n1 hb1
  have HX := Aside0.mk n1
  have HB := Aside0.mk hb1
  have HL := Aside0.mk (hL.below hb1)
  have H4 := Aside0.mk hL.four
  have HWW := Aside0.mk hW1
  clear hL n1 hb1 hW1
  go_enter Try.func4, Try.ntmps4
  go_upto_region 1 with (fail)
  rw [← HWW.out]
  clear HWW
  go_wp2_with fail
  refine (begun_calls W1).mono ?_
  rintro e w2 ⟨rfl, hb⟩
  have HX := Aside0.mk (blk_below HX.out hb)
  have HL := Aside0.mk (HL.out.below hb)
  have HB := Aside0.mk (below_then HB.out HB.out.size hb)
  clear hb
  have d0 := blk_cell HX.out 0
  have d1 := blk_cell HX.out 1
  have d2 := blk_cell HX.out 2
  simp only [List.getElem?_toArray, List.getElem?_cons_zero, List.getElem?_cons_succ] at d0 d1 d2
  have HSET := Aside0.mk (set_calls w2 A a B b C c s HL.out x t v)
  go_wp2_with fail
  refine HSET.out.mono ?_
  rintro e w3 ⟨V, rfl, hG, hb⟩
  have HSO := Aside0.mk (fun h => setF_ok H4.out (x := x) (u := t) (v := v) h)
  generalize setF s x t v = oo at hG HSO ⊢
  obtain ⟨T, n, e⟩ := oo
  obtain ⟨A2, a2, B2, b2, C2, c2, rfl, hL2⟩ := hG
  have HX := Aside0.mk (blk_below HX.out hb)
  have HL := Aside0.mk (HL.out.below hb)
  have HB := Aside0.mk (below_then HB.out HB.out.size hb)
  have n4 := heap_alloc_new w3 (.cells #[.slice A2 T.ps.length a2, .slice B2 T.us.length b2, .slice C2 T.rs.length c2] 26)
  have hb4 : Below w3.heap.size w3 (w3.alloc (.cells #[.slice A2 T.ps.length a2, .slice B2 T.us.length b2, .slice C2 T.rs.length c2] 26)) := below_alloc (Below.refl _ _) _
  obtain ⟨W4, hW4⟩ : ∃ W4, W4 = w3.alloc (.cells #[.slice A2 T.ps.length a2, .slice B2 T.us.length b2, .slice C2 T.rs.length c2] 26) := ⟨_, rfl⟩
  obtain ⟨g, hg⟩ : ∃ g, g = w3.heap.size := ⟨_, rfl⟩
  rw [← hW4] at n4 hb4
  rw [← hg] at n4
  have HY := Aside0.mk n4
  have HX := Aside0.mk (blk_below HX.out hb4)
  have HL := Aside0.mk (HL.out.below hb4)
  have HM := Aside0.mk (hL2.below hb4)
  have HB := Aside0.mk (below_then HB.out HB.out.size hb4)
  have HWW := Aside0.mk hW4
  have HGG := Aside0.mk hg
  clear hL2 hb n4 hb4 hW4 hg HSET d0 d1 d2
  simp only
  go_upto_region 4 with (fail)
  rw [← HWW.out, ← HGG.out]
  clear HWW HGG
  obtain ⟨was, f, hgf⟩ : ∃ was f, getF s o p = (was, f) := ⟨_, _, rfl⟩
  have HGF := Aside0.mk hgf
  clear hgf
  have d0 := blk_cell HX.out 0
  have d1 := blk_cell HX.out 1
  have d2 := blk_cell HX.out 2
  simp only [List.getElem?_toArray, List.getElem?_cons_zero, List.getElem?_cons_succ] at d0 d1 d2
  have hsh := get_calls W4 A a B b C c s HL.out o p
  rw [HGF.out] at hsh
  have HSH := Aside0.mk hsh
  clear hsh
  go_wp2_with fail
  refine HSH.out.mono ?_
  rintro e' w5 ⟨rfl, hb⟩
  have HX := Aside0.mk (blk_below HX.out hb)
  have HY := Aside0.mk (blk_below HY.out hb)
  have HL := Aside0.mk (HL.out.below hb)
  have HM := Aside0.mk (HM.out.below hb)
  have HB := Aside0.mk (below_then HB.out HB.out.size hb)
  clear hb d0 d1 d2 HSH
  by_cases hf : f = 0
  case' pos =>
    have qf : (f == 0) = true := beq_iff_eq.mpr hf
  case' neg =>
    have qf : (f == 0) = false := beq_eq_false_iff_ne.mpr hf
  all_goals
    have HF := Aside0.mk hf
    clear hf
    by_cases he : e = 0
    case' neg =>
      have qe : (e == 0) = false := beq_eq_false_iff_ne.mpr he
      go_upto_region 12 with (fail)
      clear qe he
      generalize w5 = Z at HX HL HB ⊢
    case' pos =>
      obtain ⟨y, u, k, r, hx, ht, hn, hI⟩ := HSO.out he
      try simp only at hn
      try simp only at hI
      subst he
      have HG1 := Aside0.mk (show getF T n t = (v, 0) by rw [hn, ht]; exact hI.here H4.out)
      obtain ⟨va, ch, hga⟩ : ∃ va ch, getF s x p = (va, ch) := ⟨_, _, rfl⟩
      have HGA := Aside0.mk hga
      obtain ⟨vb, hgb⟩ : ∃ vb, getF T n p = (vb, ch) := ⟨(getF T n p).1, by rw [show ch = (getF T n p).2 by rw [hn, hI.code, ← hx, hga]]⟩
      have HGB := Aside0.mk hgb
      obtain ⟨now, j, hgn⟩ : ∃ now j, getF T o p = (now, j) := ⟨_, _, rfl⟩
      have HGN := Aside0.mk hgn
      have HNW := Aside0.mk (show f = 0 → was = now ∧ j = 0 from fun h => by
        have h1 := hI.other (x := o) (u := p) (by rw [HGF.out]; exact h)
        rw [hgn, HGF.out] at h1
        injection h1 with h1 h2
        exact ⟨h1.symm, h2.trans h⟩)
      have HVB := Aside0.mk (show p ≠ t → va = vb from fun h => by
        have h1 := hI.else_ (u := p) (by rw [← ht]; exact h)
        rw [← hn, ← hx, hgb, hga] at h1
        exact h1.symm)
      have HCK := Aside0.mk (ok_iff.2 hI.ok)
      clear hga hgb hgn hI HSO hx ht hn
      have d0 := blk_cell HY.out 0
      have d1 := blk_cell HY.out 1
      have d2 := blk_cell HY.out 2
      simp only [List.getElem?_toArray, List.getElem?_cons_zero, List.getElem?_cons_succ] at d0 d1 d2
      have hsh := get_calls w5 A2 a2 B2 b2 C2 c2 T HM.out n t
      rw [HG1.out] at hsh
      have HSH := Aside0.mk hsh
      clear hsh
      go_wp2_with fail
      refine HSH.out.mono ?_
      rintro e' w6 ⟨rfl, hb⟩
      have HX := Aside0.mk (blk_below HX.out hb)
      have HY := Aside0.mk (blk_below HY.out hb)
      have HL := Aside0.mk (HL.out.below hb)
      have HM := Aside0.mk (HM.out.below hb)
      have HB := Aside0.mk (below_then HB.out HB.out.size hb)
      clear hb d0 d1 d2 HSH
      have d0 := blk_cell HX.out 0
      have d1 := blk_cell HX.out 1
      have d2 := blk_cell HX.out 2
      simp only [List.getElem?_toArray, List.getElem?_cons_zero, List.getElem?_cons_succ] at d0 d1 d2
      have hsh := get_calls w6 A a B b C c s HL.out x p
      rw [HGA.out] at hsh
      have HSH := Aside0.mk hsh
      clear hsh
      go_wp2_with fail
      refine HSH.out.mono ?_
      rintro e' w7 ⟨rfl, hb⟩
      have HX := Aside0.mk (blk_below HX.out hb)
      have HY := Aside0.mk (blk_below HY.out hb)
      have HL := Aside0.mk (HL.out.below hb)
      have HM := Aside0.mk (HM.out.below hb)
      have HB := Aside0.mk (below_then HB.out HB.out.size hb)
      clear hb d0 d1 d2 HSH
      have d0 := blk_cell HY.out 0
      have d1 := blk_cell HY.out 1
      have d2 := blk_cell HY.out 2
      simp only [List.getElem?_toArray, List.getElem?_cons_zero, List.getElem?_cons_succ] at d0 d1 d2
      have hsh := get_calls w7 A2 a2 B2 b2 C2 c2 T HM.out n p
      rw [HGB.out] at hsh
      have HSH := Aside0.mk hsh
      clear hsh
      go_wp2_with fail
      refine HSH.out.mono ?_
      rintro e' w8 ⟨rfl, hb⟩
      have HX := Aside0.mk (blk_below HX.out hb)
      have HY := Aside0.mk (blk_below HY.out hb)
      have HL := Aside0.mk (HL.out.below hb)
      have HM := Aside0.mk (HM.out.below hb)
      have HB := Aside0.mk (below_then HB.out HB.out.size hb)
      clear hb d0 d1 d2 HSH
      have d0 := blk_cell HY.out 0
      have d1 := blk_cell HY.out 1
      have d2 := blk_cell HY.out 2
      simp only [List.getElem?_toArray, List.getElem?_cons_zero, List.getElem?_cons_succ] at d0 d1 d2
      have hsh := get_calls w8 A2 a2 B2 b2 C2 c2 T HM.out o p
      rw [HGN.out] at hsh
      have HSH := Aside0.mk hsh
      clear hsh
      go_wp2_with fail
      refine HSH.out.mono ?_
      rintro e' w9 ⟨rfl, hb⟩
      have HX := Aside0.mk (blk_below HX.out hb)
      have HY := Aside0.mk (blk_below HY.out hb)
      have HL := Aside0.mk (HL.out.below hb)
      have HM := Aside0.mk (HM.out.below hb)
      have HB := Aside0.mk (below_then HB.out HB.out.size hb)
      clear hb d0 d1 d2 HSH
      have d0 := blk_cell HY.out 0
      have d1 := blk_cell HY.out 1
      have d2 := blk_cell HY.out 2
      simp only [List.getElem?_toArray, List.getElem?_cons_zero, List.getElem?_cons_succ] at d0 d1 d2
      have hsh := check_calls w9 A2 a2 B2 b2 C2 c2 T HM.out
      rw [HCK.out] at hsh
      have HSH := Aside0.mk hsh
      clear hsh
      go_wp2_with fail
      refine HSH.out.mono ?_
      rintro e' w10 ⟨rfl, hb⟩
      have HX := Aside0.mk (blk_below HX.out hb)
      have HL := Aside0.mk (HL.out.below hb)
      have HB := Aside0.mk (below_then HB.out HB.out.size hb)
      clear hb d0 d1 d2 HSH
      clear HY HM HGA HGB HGN HG1 HCK
      by_cases hp : p = t
      case' pos =>
        have qp : (p != t) = false := bne_eq_false_iff_eq.mpr hp
      case' neg =>
        have qp : (p != t) = true := bne_iff_ne.mpr hp
        obtain rfl := HVB.out hp
      all_goals
        clear hp HVB
        first
          | (have hnw := HNW.out HF.out
             obtain ⟨rfl, rfl⟩ := hnw
             clear HNW)
          | clear HNW
        go_upto_region 12 with (fail)
        clear qp
        generalize w10 = Z at HX HL HB ⊢
    all_goals
      have HDO := Aside0.mk (fun h => dropF_ok (s := s) (x := x) h)
      have d0 := blk_cell HX.out 0
      have d1 := blk_cell HX.out 1
      have d2 := blk_cell HX.out 2
      simp only [List.getElem?_toArray, List.getElem?_cons_zero, List.getElem?_cons_succ] at d0 d1 d2
      have HDR := Aside0.mk (drop_calls Z A a B b C c s HL.out x)
      go_wp2_with fail
      refine HDR.out.mono ?_
      rintro e' z3 ⟨V, rfl, hG, hb⟩
      generalize dropF s x = oo at hG HDO ⊢
      obtain ⟨D, ed⟩ := oo
      obtain ⟨A3, a3, B3, b3, C3, c3, rfl, hL2⟩ := hG
      have HB := Aside0.mk (below_then HB.out HB.out.size hb)
      have n4 := heap_alloc_new z3 (.cells #[.slice A3 D.ps.length a3, .slice B3 D.us.length b3, .slice C3 D.rs.length c3] 26)
      have hb4 : Below z3.heap.size z3 (z3.alloc (.cells #[.slice A3 D.ps.length a3, .slice B3 D.us.length b3, .slice C3 D.rs.length c3] 26)) := below_alloc (Below.refl _ _) _
      obtain ⟨W4, hW4⟩ : ∃ W4, W4 = z3.alloc (.cells #[.slice A3 D.ps.length a3, .slice B3 D.us.length b3, .slice C3 D.rs.length c3] 26) := ⟨_, rfl⟩
      obtain ⟨gd, hg⟩ : ∃ g, g = z3.heap.size := ⟨_, rfl⟩
      rw [← hW4] at n4 hb4
      rw [← hg] at n4
      have HY := Aside0.mk n4
      have HM := Aside0.mk (hL2.below hb4)
      have HB := Aside0.mk (below_then HB.out HB.out.size hb4)
      have HWW := Aside0.mk hW4
      have HGG := Aside0.mk hg
      clear hL2 hb n4 hb4 hW4 hg HDR d0 d1 d2 HX HL
      simp only
      go_upto_region 13 with (fail)
      rw [← HWW.out, ← HGG.out]
      clear HWW HGG
      by_cases hd : ed = 0
      case' neg =>
        have qd : (ed == 0) = false := beq_eq_false_iff_ne.mpr hd
        go_upto_region 18 with (fail)
        generalize W4 = Y at HB ⊢
      case' pos =>
        obtain ⟨y, hx, hOK, hD⟩ := HDO.out hd
        injection hD with hD1 hD2
        obtain ⟨now2, j2, hgn⟩ : ∃ now j, getF D o p = (now, j) := ⟨_, _, rfl⟩
        obtain ⟨gv, hgv⟩ : ∃ gv, getF D x 0 = (gv, 5) := ⟨(getF D x 0).1, by rw [show (5 : Int) = (getF D x 0).2 by rw [hD1, hx, drop_gone hOK]]⟩
        have HGN := Aside0.mk hgn
        have HGV := Aside0.mk hgv
        have HCK := Aside0.mk (show chkF D = 0 by rw [hD1]; exact ok_iff.2 (drop_ok hOK y))
        have HNW := Aside0.mk (show f = 0 ∧ o ≠ x → was = now2 ∧ j2 = 0 from fun h => by
          have h1 := drop_keep (s := s) (y := y) (x := o) (u := p) (by rw [← hx]; exact h.2) (by rw [HGF.out]; exact h.1)
          rw [← hD1, hgn, HGF.out] at h1
          injection h1 with h1 h2
          exact ⟨h1.symm, h2.trans h.1⟩)
        subst hd
        clear hx hOK hD1 hgn hgv HDO
        have d0 := blk_cell HY.out 0
        have d1 := blk_cell HY.out 1
        have d2 := blk_cell HY.out 2
        simp only [List.getElem?_toArray, List.getElem?_cons_zero, List.getElem?_cons_succ] at d0 d1 d2
        have hsh := get_calls W4 A3 a3 B3 b3 C3 c3 D HM.out o p
        rw [HGN.out] at hsh
        have HSH := Aside0.mk hsh
        clear hsh
        go_wp2_with fail
        refine HSH.out.mono ?_
        rintro e' y6 ⟨rfl, hb⟩
        have HY := Aside0.mk (blk_below HY.out hb)
        have HM := Aside0.mk (HM.out.below hb)
        have HB := Aside0.mk (below_then HB.out HB.out.size hb)
        clear hb d0 d1 d2 HSH
        have d0 := blk_cell HY.out 0
        have d1 := blk_cell HY.out 1
        have d2 := blk_cell HY.out 2
        simp only [List.getElem?_toArray, List.getElem?_cons_zero, List.getElem?_cons_succ] at d0 d1 d2
        have hsh := get_calls y6 A3 a3 B3 b3 C3 c3 D HM.out x 0
        rw [HGV.out] at hsh
        have HSH := Aside0.mk hsh
        clear hsh
        go_wp2_with fail
        refine HSH.out.mono ?_
        rintro e' y7 ⟨rfl, hb⟩
        have HY := Aside0.mk (blk_below HY.out hb)
        have HM := Aside0.mk (HM.out.below hb)
        have HB := Aside0.mk (below_then HB.out HB.out.size hb)
        clear hb d0 d1 d2 HSH
        have d0 := blk_cell HY.out 0
        have d1 := blk_cell HY.out 1
        have d2 := blk_cell HY.out 2
        simp only [List.getElem?_toArray, List.getElem?_cons_zero, List.getElem?_cons_succ] at d0 d1 d2
        have hsh := check_calls y7 A3 a3 B3 b3 C3 c3 D HM.out
        rw [HCK.out] at hsh
        have HSH := Aside0.mk hsh
        clear hsh
        go_wp2_with fail
        refine HSH.out.mono ?_
        rintro e' y8 ⟨rfl, hb⟩
        have HB := Aside0.mk (below_then HB.out HB.out.size hb)
        clear hb d0 d1 d2 HSH
        clear HY HM HGN HGV HCK
        by_cases hp : o = x
        case' pos =>
          have qp : (o != x) = false := bne_eq_false_iff_eq.mpr hp
        case' neg =>
          have qp : (o != x) = true := bne_iff_ne.mpr hp
        all_goals
          first
            | (have hnw := HNW.out ⟨HF.out, hp⟩
               obtain ⟨rfl, rfl⟩ := hnw
               clear HNW hp)
            | clear HNW hp
          go_upto_region 18 with (fail)
          clear qp
          generalize y8 = Y at HB ⊢
      all_goals
        go_wp2_with fail
        refine (begun_calls Y).mono ?_
        rintro e' z9 ⟨rfl, hb⟩
        have HB9 := Aside0.mk (below_then HB.out HB.out.size hb)
        clear hb
        go_wp2
        go_ret
        exact ⟨rfl, HB9.out⟩
theorem pagesStay_row (W : World) {base : Nat} (v0 : Value) (hv : Value.okWide Try.prog W .any base 26 v0) (a0 : List (List Int) × (List Int × List (List Int))) (hr : k26.K W a0 v0.cells.toList) (B0 : True) (x : Int) (_ : (Lit.int .i64 x).wf = true) (t : Int) (_ : (Lit.int .i64 t).wf = true) (v : Int) (_ : (Lit.int .i64 v).wf = true) (o : Int) (_ : (Lit.int .i64 o).wf = true) (p : Int) (_ : (Lit.int .i64 p).wf = true) :
    Calls Try.prog 4 #[v0, .int .i64 x, .int .i64 t, .int .i64 v, .int .i64 o, .int .i64 p] W fun e w' => e = .returned (.bool true) ∧ Below W.heap.size W w' := by
  obtain ⟨A, m, B, n, C, k, rfl, hL⟩ := lies_of hv hr
  exact pagesStay_walk W A m B n C k ⟨a0.1, a0.2.1, a0.2.2⟩ hL x t v o p
end Go.Proofs.Ytblalidpeccabac.Pg
