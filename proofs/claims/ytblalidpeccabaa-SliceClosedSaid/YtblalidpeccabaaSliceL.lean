/- slice.vars.do: its walk. -/
import Derived.Test.YtblalidpeccabaaSliceK
import Derived.Test.YtblalidpeccabaaRegionTwo
import Derived.Test.YtblalidpeccabaaMap
namespace Go.Proofs.Ytblalidpeccabaa.Sm
open Go Go.RowKit Go.Lib Go.Proofs.YtblalidpeccabaaW.PrintWords Go.Proofs.YtblalidpeccabaaW.PrintLast Go.Proofs.YtblalidpeccabaaW.PrintMore Go.Proofs.Ytblalidpeccabaa.PHuntParts Go.Proofs.Ytblalidpeccabaa.Sc Go.Proofs.Ytblalidpeccabaa.Bs Go.Proofs.Ytblalidpeccabaa.RegionVal Go.Proofs.Ytblalidpeccabaa.Mp
set_option linter.unusedVariables false
set_option linter.unusedSimpArgs false

abbrev ei (x : Int) : Value := .int .i64 x
def val0 (m : List (Int × Int)) (x : Int) : Int := (Mp.get m x).getD 0
/-- what a line computes -/
def opv (x : S51) (p q : Int) : Int := if x.op = 0 then wrap64 (p + q) else if x.op = 1 then wrap64 (p - q) else if x.op = 2 then wrap64 (p * q) else x.a

set_option maxHeartbeats 8000000 in
set_option maxRecDepth 100000 in
theorem do_calls (w w0 : World) (b : Nat) (m : List (Int × Int)) (x : S51) (hm : Mp.Holds w b ei ei m) (h0 : Below w0.heap.size w0 w) (hb : w0.heap.size ≤ b) :
    Calls Try.prog 25 #[.map (some b), enc51 x] w fun e w' => (∃ v, e = .returned v) ∧ Mp.Holds w' b ei ei (Mp.put m x.to_ (opv x (val0 m x.a) (val0 m x.b))) ∧ Below w0.heap.size w0 w' := by
  have HM := Aside0.mk hm
  have H0 := Aside0.mk h0
  clear hm h0
  unfold enc51
  go_enter Try.func25, Try.ntmps25
  go_wp2_with fail
  obtain ⟨w1, hw1⟩ : ∃ w1, w1 = w.alloc (.cells #[.int .i64 x.to_, .int .i64 x.op, .int .i64 x.a, .int .i64 x.b] 51) := ⟨_, rfl⟩
  have hx1 : w1.heap[w.heap.size]? = some (.cells #[.int .i64 x.to_, .int .i64 x.op, .int .i64 x.a, .int .i64 x.b] 51 (0, 0)) := by rw [hw1]; exact heap_alloc_new w _
  have hm1 : Mp.Holds w1 b ei ei m := by rw [hw1]; exact HM.out.below (below_alloc (Below.refl _ _) _)
  have hb1 : Below w0.heap.size w0 w1 := by rw [hw1]; exact below_alloc H0.out _
  rw [← hw1]
  have HX1 := Aside0.mk hx1
  have HM1 := Aside0.mk hm1
  have HB1 := Aside0.mk hb1
  clear hw1 hx1 hm1 hb1
  have look : ∀ (y : Int) (w' : World), Below w1.heap.size w1 w' → Sem.run Try.prog (Instr.lookup 55 (.map (some b)) (ei y) false) w' = .ok (.int .i64 (val0 m y)) w' := by
    intro y w' hw
    have := lookup_run (P := Try.prog) (t := 55) (k := 3) (e := 3) (ek := ei) (ev := ei) (z := .int .i64 0) (key_int Try.underlying3) Try.underlying55 (by go_simp) (HM1.out.below hw) y false
    rw [this]
    unfold val0
    cases Mp.get m y <;> rfl
  refine wp_eff (S := fun w' => Below w1.heap.size w1 w') [(0, false), (1, false), (2, false), (3, false), (4, false), (5, false), (6, false), (7, false), (8, false), (9, false)] (by kernel_rfl) (by kernel_rfl) (below_drew (Below.refl _ _)) (fun _ _ d _ _ h => by cases d <;> exact h) ?_
  refine se_move rfl rfl rfl ?_
  refine se_un rfl rfl rfl rfl rfl (fun w' _ => by go_simp; with_reducible rfl) ?_
  refine se_un rfl rfl rfl rfl rfl (fun w' hw => by
    have q := blk_cell (blk_below HX1.out hw) 2
    simp only [List.getElem?_toArray, List.getElem?_cons_zero, List.getElem?_cons_succ] at q
    go_simp; with_reducible rfl) ?_
  refine se_gen (v := .int .i64 (val0 m x.a)) rfl rfl (fun w' hw => by
    simp only [execOp]
    rw [ev_of (v := .map (some b)) rfl, ev_of (v := ei x.a) rfl]
    simp only [Sem.run_bind, look x.a w' hw, Result.andThen_ok, Sem.run_pure]) ?_
  refine se_move rfl rfl rfl ?_
  refine se_un rfl rfl rfl rfl rfl (fun w' _ => by go_simp; with_reducible rfl) ?_
  refine se_un rfl rfl rfl rfl rfl (fun w' hw => by
    have q := blk_cell (blk_below HX1.out hw) 3
    simp only [List.getElem?_toArray, List.getElem?_cons_zero, List.getElem?_cons_succ] at q
    go_simp; with_reducible rfl) ?_
  refine se_gen (v := .int .i64 (val0 m x.b)) rfl rfl (fun w' hw => by
    simp only [execOp]
    rw [ev_of (v := .map (some b)) rfl, ev_of (v := ei x.b) rfl]
    simp only [Sem.run_bind, look x.b w' hw, Result.andThen_ok, Sem.run_pure]) ?_
  refine se_assign rfl rfl rfl ?_
  refine se_assign rfl rfl rfl ?_
  intro hw2
  simp only [puts, Act.put, List.setIfInBounds_toArray, List.set_cons_zero, List.set_cons_succ]
  have HX2 := Aside0.mk (blk_drew HX1.out)
  have HM2 := Aside0.mk (HM1.out.below (below_drew1 (Below.refl w1.heap.size w1)))
  have HB2 := Aside0.mk (below_drew1 HB1.out)
  clear look hw2
  generalize w1.drew = w2 at HX2 HM2 HB2 ⊢
  clear HX1 HM1 HB1
  have e0 := blk_cell HX2.out 0
  have e1 := blk_cell HX2.out 1
  have e2 := blk_cell HX2.out 2
  simp only [List.getElem?_toArray, List.getElem?_cons_zero, List.getElem?_cons_succ] at e0 e1 e2
  generalize hpp : val0 m x.a = pp
  generalize hqq : val0 m x.b = qq
  obtain ⟨t, o, a, c⟩ := x
  simp only at e0 e1 e2 HX2 hpp hqq ⊢
  have HPP := Aside0.mk hpp
  have HQQ := Aside0.mk hqq
  clear hpp hqq
  by_cases h0 : o = 0
  · subst h0
    go_wp2_with (at_mapUpdate; refine wpList_upd rfl _ _ _ 55 rfl (key_int Try.underlying3) Try.underlying55 b m t (wrap64 (pp + qq)) rfl rfl rfl HM2.out ?_; intro w3 hm3 hg3 hs3; have HM3 := Aside0.mk hm3; have HB3 := Aside0.mk (HB2.out.grown hg3 HB2.out.size (fun k e => by cases e; exact hb)); clear hm3 hg3 hs3)
    go_end0
    exact ⟨⟨_, rfl⟩, by rw [HPP.out, HQQ.out]; exact HM3.out, HB3.out⟩
  by_cases h1 : o = 1
  · subst h1
    go_wp2_with (at_mapUpdate; refine wpList_upd rfl _ _ _ 55 rfl (key_int Try.underlying3) Try.underlying55 b m t (wrap64 (pp - qq)) rfl rfl rfl HM2.out ?_; intro w3 hm3 hg3 hs3; have HM3 := Aside0.mk hm3; have HB3 := Aside0.mk (HB2.out.grown hg3 HB2.out.size (fun k e => by cases e; exact hb)); clear hm3 hg3 hs3)
    go_end0
    exact ⟨⟨_, rfl⟩, by rw [HPP.out, HQQ.out]; exact HM3.out, HB3.out⟩
  by_cases h2 : o = 2
  · subst h2
    go_wp2_with (at_mapUpdate; refine wpList_upd rfl _ _ _ 55 rfl (key_int Try.underlying3) Try.underlying55 b m t (wrap64 (pp * qq)) rfl rfl rfl HM2.out ?_; intro w3 hm3 hg3 hs3; have HM3 := Aside0.mk hm3; have HB3 := Aside0.mk (HB2.out.grown hg3 HB2.out.size (fun k e => by cases e; exact hb)); clear hm3 hg3 hs3)
    go_end0
    exact ⟨⟨_, rfl⟩, by rw [HPP.out, HQQ.out]; exact HM3.out, HB3.out⟩
  · have d0 : (o == 0) = false := beq_eq_false_iff_ne.mpr h0
    have d1 : (o == 1) = false := beq_eq_false_iff_ne.mpr h1
    have d2 : (o == 2) = false := beq_eq_false_iff_ne.mpr h2
    have HV := Aside0.mk (show opv ⟨t, o, a, c⟩ pp qq = a by unfold opv; rw [if_neg h0, if_neg h1, if_neg h2])
    go_wp2_with (at_mapUpdate; refine wpList_upd rfl _ _ _ 55 rfl (key_int Try.underlying3) Try.underlying55 b m t (a) rfl rfl rfl HM2.out ?_; intro w3 hm3 hg3 hs3; have HM3 := Aside0.mk hm3; have HB3 := Aside0.mk (HB2.out.grown hg3 HB2.out.size (fun k e => by cases e; exact hb)); clear hm3 hg3 hs3)
    go_end0
    exact ⟨⟨_, rfl⟩, by rw [HPP.out, HQQ.out, HV.out]; exact HM3.out, HB3.out⟩
end Go.Proofs.Ytblalidpeccabaa.Sm
