/- watchBegun: it answers true. -/
import Derived.Test.YtaeamehngbfneabWatchD
namespace Go.Proofs.Ytaeamehngbfneab.Wt
open Go Go.RowKit Go.Lib Go.Proofs.YtaeamehngbfneabW.PrintWords Go.Proofs.YtaeamehngbfneabW.PrintLast Go.Proofs.YtaeamehngbfneabW.PrintMore Go.Proofs.Ytaeamehngbfneab.Bs Go.Proofs.Ytaeamehngbfneab.PWatchBack Go.Proofs.Ytaeamehngbfneab.Wp
set_option linter.unusedVariables false
set_option linter.unusedSimpArgs false

def evs : List S33 := [⟨1, 0, 0, 0, 0, 0, 0, 0, ⟨0, 0⟩, ⟨0, 0⟩⟩, ⟨4, 0, 0, 0, 0, 0, 2, 1, ⟨2, 5⟩, ⟨2, 4⟩⟩, ⟨3, 0, 0, 0, 0, 0, 2, 1, ⟨2, 5⟩, ⟨0, 0⟩⟩]
def ev4 : S33 := ⟨3, 0, 0, 0, 0, 0, 2, 1, ⟨0, 0⟩, ⟨0, 0⟩⟩
theorem watchedC (w : World) : Calls Try.prog 19 #[] w fun e w' => ∃ v, e = .returned v ∧ Kd.R k33 33 w' w.heap.size (fun _ => True) v evs ∧ Below w.heap.size w w' := backstitchkeep4_watched.calls evs w rfl
theorem v1 : value acc wr key val old (2, 1) evs 3 = some (2, 5) := by decide
theorem v2 : value acc wr key val old (2, 1) evs 0 = some (2, 4) := by decide
theorem v3 : back (isW 2 1) evs 3 = some 1 := by decide
theorem v4 : whole acc wr key val old (evs ++ [ev4]) = some 3 := by decide

set_option maxHeartbeats 8000000 in
set_option maxRecDepth 100000 in
theorem begun_calls (w : World) : Calls Try.prog 9 #[] w fun e w' => e = .returned (.bool true) ∧ Below w.heap.size w w' := by
  go_enter Try.func9, Try.ntmps9
  go_wp2_with fail
  refine (watchedC _).mono ?_
  rintro e w1 ⟨u1, rfl, hR1, hB1⟩
  obtain ⟨A1, c1, rfl, hc1, hC1⟩ := Kd.R_reads hR1
  have HB1 := Aside0.mk hB1
  have HC1 := Aside0.mk hC1
  clear hR1 hB1 hC1
  go_wp2_with fail
  refine (Value_calls _ A1 c1 evs 2 1 3 HC1.out hc1 (by decide) (by decide)).mono ?_
  rintro e w2 ⟨rfl, hb⟩
  have HB2 := Aside0.mk (below_then HB1.out HB1.out.size hb)
  clear hb HC1
  rw [v1]
  simp only [two, Option.getD_some, Option.isSome_some]
  go_wp2_with fail
  refine (watchedC _).mono ?_
  rintro e w3 ⟨u3, rfl, hR3, hB3⟩
  obtain ⟨A3, c3, rfl, hc3, hC3⟩ := Kd.R_reads hR3
  have hblk1 : w3.heap[w2.heap.size]? = some (.cells #[.int .i64 2, .int .i64 5] 28 (0, 0)) := (hB3.block _ (by simp)).trans (heap_alloc_new w2 _)
  obtain ⟨g1, hg1⟩ : ∃ g, g = w2.heap.size := ⟨_, rfl⟩
  rw [← hg1] at hblk1 ⊢
  have HK1 := Aside0.mk hblk1
  have HB3 := Aside0.mk (below_then (below_alloc HB2.out _) (below_alloc HB2.out _).size hB3)
  have HC3 := Aside0.mk hC3
  clear hR3 hB3 hC3 hblk1 hg1
  go_wp2_with fail
  refine (Value_calls _ A3 c3 evs 2 1 0 HC3.out hc3 (by decide) (by decide)).mono ?_
  rintro e w4 ⟨rfl, hb⟩
  have HK1' := Aside0.mk (blk_below HK1.out hb)
  have HB4 := Aside0.mk (below_then HB3.out HB3.out.size hb)
  clear hb HC3 HK1
  rw [v2]
  simp only [two, Option.getD_some, Option.isSome_some]
  go_wp2_with fail
  refine (watchedC _).mono ?_
  rintro e w5 ⟨u5, rfl, hR5, hB5⟩
  obtain ⟨A5, c5, rfl, hc5, hC5⟩ := Kd.R_reads hR5
  have hblk2 : w5.heap[w4.heap.size]? = some (.cells #[.int .i64 2, .int .i64 4] 28 (0, 0)) := (hB5.block _ (by simp)).trans (heap_alloc_new w4 _)
  have HK1 := Aside0.mk (blk_below (blk_below HK1'.out (below_alloc (Below.refl _ _) _)) hB5)
  obtain ⟨g2, hg2⟩ : ∃ g, g = w4.heap.size := ⟨_, rfl⟩
  rw [← hg2] at hblk2 ⊢
  have HK2 := Aside0.mk hblk2
  have HB5 := Aside0.mk (below_then (below_alloc HB4.out _) (below_alloc HB4.out _).size hB5)
  have HC5 := Aside0.mk hC5
  clear hR5 hB5 hC5 hblk2 hg2 HK1'
  go_wp2_with fail
  refine (Last_calls _ A5 c5 evs 2 1 3 HC5.out hc5 (by decide) (by decide)).mono ?_
  rintro e w6 ⟨rfl, hb⟩
  have HK1' := Aside0.mk (blk_below HK1.out hb)
  have HK2' := Aside0.mk (blk_below HK2.out hb)
  have HB6 := Aside0.mk (below_then HB5.out HB5.out.size hb)
  clear hb HC5 HK1 HK2
  rw [v3]
  simp only [rOf, Option.getD_some, Option.isSome_some]
  go_wp2_with fail
  refine (watchedC _).mono ?_
  rintro e w7 ⟨u7, rfl, hR7, hB7⟩
  have HR7 := Aside0.mk hR7
  have HBR := Aside0.mk hB7
  clear hR7 hB7
  go_wp2_with (at_builtin; refine Kd.R_append k33 (w0 := w6) w6.heap.size rfl (.tmp 32) (.tmp 34) 22 33 (.agg #[.int .i64 0, .int .i64 0, .int .i64 0, .int .i64 0, .int .i64 0, .int .i64 0, .int .i64 0, .int .i64 0, .int .i64 0, .int .i64 0, .int .i64 0, .int .i64 0]) 96 rfl Try.underlying22 info33 rfl (by decide) (by omega) _ evs ev4 [.int .i64 3, .int .i64 0, .int .i64 0, .int .i64 0, .int .i64 0, .int .i64 0, .int .i64 2, .int .i64 1, .int .i64 0, .int .i64 0, .int .i64 0, .int .i64 0] (fun _ => True) (fun _ => False) rfl rfl (k33_mkM _ _ _ ev4) (fun _ hk => hk.elim) (fun _ _ => trivial) HR7.out HBR.out HBR.out.size (by decide) ?_; intro v8 w8 ho hb hg hat; have HO8 := Aside0.mk ho; have HB8 := Aside0.mk hb; clear ho hb hg hat)
  obtain ⟨A8, c8, rfl, hc8, hC8⟩ := Kd.R_reads HO8.out
  refine (Whole_calls _ A8 c8 (evs ++ [ev4]) hC8 hc8 (by decide)).mono ?_
  rintro e w9 ⟨rfl, hb⟩
  have hb9 : Below w6.heap.size w6 w9 := below_step HB8.out hb
  have hk1 := blk_below HK1'.out hb9
  have hk2 := blk_below HK2'.out hb9
  have HB9 := Aside0.mk (below_then HB6.out HB6.out.size hb9)
  have d1 := blk_cell hk1 1
  have d2 := blk_cell hk2 1
  simp only [List.getElem?_toArray, List.getElem?_cons_zero, List.getElem?_cons_succ] at d1 d2
  clear hb hb9 hk1 hk2 HO8 HB8 HR7 HBR HK1' HK2'
  rw [v4]
  simp only [rOf, Option.getD_some, Option.isSome_some]
  go_wp2
  go_ret
  exact ⟨rfl, HB9.out⟩

theorem begunC {w w0 : World} (hb : Below w0.heap.size w0 w) : Calls Try.prog 9 #[] w fun e w' => e = .returned (.bool true) ∧ Below w0.heap.size w0 w' :=
  (begun_calls w).mono fun _ _ ⟨h1, h2⟩ => ⟨h1, below_step hb h2⟩
end Go.Proofs.Ytaeamehngbfneab.Wt
