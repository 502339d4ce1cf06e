/- PagesShares: its walk. -/
import Derived.Test.YtblalidpeccabacPageV
import Derived.Test.YtblalidpeccabacPageY
namespace Go.Proofs.Ytblalidpeccabac.Pg
open Go Go.RowKit Go.Lib Go.Proofs.YtblalidpeccabacW.PrintWords Go.Proofs.YtblalidpeccabacW.PrintLast Go.Proofs.YtblalidpeccabacW.PrintMore Go.Proofs.Ytblalidpeccabac.PPagesBack Go.Proofs.Ytblalidpeccabac.Bs Go.Proofs.Ytblalidpeccabac.RegionVal
set_option linter.unusedVariables false
set_option linter.unusedSimpArgs false

theorem Lies.four {w : World} {A : Option Addr} {a : Nat} {B : Option Addr} {b : Nat} {C : Option Addr} {c : Nat} {s : St} (h : Lies w A a B b C c s) : ∀ p ∈ s.ps, p.length = 4 := by
  intro p hp
  obtain ⟨k, hk, rfl⟩ := List.getElem_of_mem hp
  obtain ⟨_, _, _, _, _, _, hq, _⟩ := at_P h.P k hk
  rw [hq]
  rfl

set_option maxHeartbeats 8000000 in
set_option maxRecDepth 100000 in
theorem pagesShares_walk (w : World) (A : Option Addr) (a : Nat) (B : Option Addr) (b : Nat) (C : Option Addr) (c : Nat) (s : St) (hL : Lies w A a B b C c s) (x t v : Int) :
    Calls Try.prog 3 #[.agg #[.slice A s.ps.length a, .slice B s.us.length b, .slice C s.rs.length c], .int .i64 x, .int .i64 t, .int .i64 v] w fun e w' => e = .returned (.bool true) ∧ Below w.heap.size w w' := by
  have HL := Aside0.mk hL
  have n1 := heap_alloc_new w (.cells #[.slice A s.ps.length a, .slice B s.us.length b, .slice C s.rs.length c] 26)
  have hb1 : Below w.heap.size w (w.alloc (.cells #[.slice A s.ps.length a, .slice B s.us.length b, .slice C s.rs.length c] 26)) := below_alloc (Below.refl _ _) _
  obtain ⟨W1, hW1⟩ : ∃ W1, W1 = w.alloc (.cells #[.slice A s.ps.length a, .slice B s.us.length b, .slice C s.rs.length c] 26) := ⟨_, rfl⟩
  rw [← hW1] at n1 hb1
  have HX1 := Aside0.mk n1
  have HB1 := Aside0.mk hb1
  have HWW := Aside0.mk hW1
  clear hL n1 hb1 hW1
  go_enter Try.func3, Try.ntmps3
  go_upto_region 1 with (fail)
  rw [← HWW.out]
  clear HWW
  go_wp2_with fail
  refine (begun_calls W1).mono ?_
  rintro e w2 ⟨rfl, hb⟩
  have HX2 := Aside0.mk (blk_below HX1.out hb)
  have HB2 := Aside0.mk (below_then HB1.out HB1.out.size hb)
  clear hb HX1 HB1
  have d0 := blk_cell HX2.out 0
  have d1 := blk_cell HX2.out 1
  have d2 := blk_cell HX2.out 2
  simp only [List.getElem?_toArray, List.getElem?_cons_zero, List.getElem?_cons_succ] at d0 d1 d2
  have HSET := Aside0.mk (set_calls w2 A a B b C c s (HL.out.below HB2.out) x t v)
  go_wp2_with fail
  refine HSET.out.mono ?_
  rintro e w3 ⟨V, rfl, hG, hb⟩
  have HSO := Aside0.mk (fun h => setF_ok HL.out.four (x := x) (u := t) (v := v) h)
  generalize setF s x t v = o at hG HSO ⊢
  obtain ⟨T, n, e⟩ := o
  obtain ⟨A2, a2, B2, b2, C2, c2, rfl, hL2⟩ := hG
  have HX3 := Aside0.mk (blk_below HX2.out hb)
  have HB3 := Aside0.mk (below_then HB2.out HB2.out.size hb)
  have n4 := heap_alloc_new w3 (.cells #[.slice A2 T.ps.length a2, .slice B2 T.us.length b2, .slice C2 T.rs.length c2] 26)
  have hb4 : Below w3.heap.size w3 (w3.alloc (.cells #[.slice A2 T.ps.length a2, .slice B2 T.us.length b2, .slice C2 T.rs.length c2] 26)) := below_alloc (Below.refl _ _) _
  obtain ⟨W4, hW4⟩ : ∃ W4, W4 = w3.alloc (.cells #[.slice A2 T.ps.length a2, .slice B2 T.us.length b2, .slice C2 T.rs.length c2] 26) := ⟨_, rfl⟩
  obtain ⟨g, hg⟩ : ∃ g, g = w3.heap.size := ⟨_, rfl⟩
  rw [← hW4] at n4 hb4
  rw [← hg] at n4
  have HY4 := Aside0.mk n4
  have HX4 := Aside0.mk (blk_below HX3.out hb4)
  have HB4 := Aside0.mk (below_then HB3.out HB3.out.size hb4)
  have HL4 := Aside0.mk (hL2.below hb4)
  have HWW := Aside0.mk hW4
  have HGG := Aside0.mk hg
  clear hL2 hb n4 hb4 hW4 hg HSET HX2 HB2 HX3 HB3 d0 d1 d2
  simp only
  go_upto_region 4 with (fail)
  rw [← HWW.out, ← HGG.out]
  clear HWW HGG
  by_cases he : e = 0
  · obtain ⟨y, u, k, r, rfl, rfl, hn, hI⟩ := HSO.out he
    simp only at hn hI
    subst hn he
    obtain ⟨own, both, mine, h1, h2, h3, h4, i1, i2, i3, i4, i5, i6, i7, i8⟩ := hI.shares
    have H1 := Aside0.mk h1
    have H2 := Aside0.mk h2
    have H3 := Aside0.mk h3
    have H4 := Aside0.mk h4
    clear hI HSO h1 h2 h3 h4
    have hw1 : IntKind.i64.wrap (own - 1) = own - 1 := by rw [IntKind.wrap_i64]; omega
    have hw2 : IntKind.i64.wrap (both + 1) = both + 1 := by rw [IntKind.wrap_i64]; omega
    have j1 : decide (own - 1 ≤ both) = true := decide_eq_true i1
    have j2 : decide (both ≤ own) = true := decide_eq_true i2
    have j3 : decide (both ≤ mine) = true := decide_eq_true i3
    have j4 : decide (mine ≤ both + 1) = true := decide_eq_true i4
    clear i1 i2 i3 i4 i5 i6 i7 i8
    have d0 := blk_cell HX4.out 0
    have d1 := blk_cell HX4.out 1
    have d2 := blk_cell HX4.out 2
    simp only [List.getElem?_toArray, List.getElem?_cons_zero, List.getElem?_cons_succ] at d0 d1 d2
    have hsh := shared_calls W4 A a B b C c s (HL.out.below HB4.out) y y
    rw [H1.out] at hsh
    have HSH := Aside0.mk hsh
    clear hsh
    go_wp2_with fail
    refine HSH.out.mono ?_
    rintro e w5 ⟨rfl, hb⟩
    have HY5 := Aside0.mk (blk_below HY4.out hb)
    have HL5 := Aside0.mk (HL4.out.below hb)
    have HB5 := Aside0.mk (below_then HB4.out HB4.out.size hb)
    clear hb d0 d1 d2 HSH HY4 HX4 HL4 HB4
    have d0 := blk_cell HY5.out 0
    have d1 := blk_cell HY5.out 1
    have d2 := blk_cell HY5.out 2
    simp only [List.getElem?_toArray, List.getElem?_cons_zero, List.getElem?_cons_succ] at d0 d1 d2
    have hsh := shared_calls w5 A2 a2 B2 b2 C2 c2 T HL5.out y k
    rw [H2.out] at hsh
    have HSH := Aside0.mk hsh
    clear hsh
    go_wp2_with fail
    refine HSH.out.mono ?_
    rintro e w6 ⟨rfl, hb⟩
    have HY6 := Aside0.mk (blk_below HY5.out hb)
    have HL6 := Aside0.mk (HL5.out.below hb)
    have HB6 := Aside0.mk (below_then HB5.out HB5.out.size hb)
    clear hb d0 d1 d2 HSH HY5 HL5 HB5
    have d0 := blk_cell HY6.out 0
    have d1 := blk_cell HY6.out 1
    have d2 := blk_cell HY6.out 2
    simp only [List.getElem?_toArray, List.getElem?_cons_zero, List.getElem?_cons_succ] at d0 d1 d2
    have hsh := shared_calls w6 A2 a2 B2 b2 C2 c2 T HL6.out k k
    rw [H3.out] at hsh
    have HSH := Aside0.mk hsh
    clear hsh
    go_wp2_with fail
    refine HSH.out.mono ?_
    rintro e w7 ⟨rfl, hb⟩
    have HY7 := Aside0.mk (blk_below HY6.out hb)
    have HL7 := Aside0.mk (HL6.out.below hb)
    have HB7 := Aside0.mk (below_then HB6.out HB6.out.size hb)
    clear hb d0 d1 d2 HSH HY6 HL6 HB6
    have d0 := blk_cell HY7.out 0
    have d1 := blk_cell HY7.out 1
    have d2 := blk_cell HY7.out 2
    simp only [List.getElem?_toArray, List.getElem?_cons_zero, List.getElem?_cons_succ] at d0 d1 d2
    have hsh := shared_calls w7 A2 a2 B2 b2 C2 c2 T HL7.out k y
    rw [H4.out] at hsh
    have HSH := Aside0.mk hsh
    clear hsh
    go_wp2_with fail
    refine HSH.out.mono ?_
    rintro e w8 ⟨rfl, hb⟩
    have HB8 := Aside0.mk (below_then HB7.out HB7.out.size hb)
    clear hb d0 d1 d2 HSH HY7 HL7 HB7
    go_wp2_with fail
    refine (begun_calls _).mono ?_
    rintro e w9 ⟨rfl, hb⟩
    have HB9 := Aside0.mk (below_then HB8.out HB8.out.size hb)
    clear hb
    go_wp2
    go_ret
    exact ⟨rfl, HB9.out⟩
  · have q0 : (e != 0) = true := bne_iff_ne.mpr he
    clear he HSO
    go_wp2_with fail
    refine (begun_calls _).mono ?_
    rintro e' w5 ⟨rfl, hb⟩
    have HB5 := Aside0.mk (below_then HB4.out HB4.out.size hb)
    clear hb
    go_wp2
    go_ret
    exact ⟨rfl, HB5.out⟩
theorem pagesShares_row (W : World) {base : Nat} (v0 : Value) (hv : Value.okWide Try.prog W .any base 26 v0) (a0 : List (List Int) × (List Int × List (List Int))) (hr : k26.K W a0 v0.cells.toList) (B0 : True) (x : Int) (_ : (Lit.int .i64 x).wf = true) (t : Int) (_ : (Lit.int .i64 t).wf = true) (v : Int) (_ : (Lit.int .i64 v).wf = true) :
    Calls Try.prog 3 #[v0, .int .i64 x, .int .i64 t, .int .i64 v] W fun e w' => e = .returned (.bool true) ∧ Below W.heap.size W w' := by
  obtain ⟨A, m, B, n, C, k, rfl, hL⟩ := lies_of hv hr
  exact pagesShares_walk W A m B n C k ⟨a0.1, a0.2.1, a0.2.2⟩ hL x t v
end Go.Proofs.Ytblalidpeccabac.Pg
