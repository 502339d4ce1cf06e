/- spool.big: its walk. -/
import Derived.Test.YtaeamehngbfneabSpoolB
import Derived.Laws.MakeOwn
namespace Go.Proofs.Ytaeamehngbfneab.Sp
open Go Go.RowKit Go.Lib Go.Shelf Go.Proofs.YtaeamehngbfneabW.PrintWords Go.Proofs.YtaeamehngbfneabW.PrintLast Go.Proofs.YtaeamehngbfneabW.PrintMore Go.Proofs.Ytaeamehngbfneab.PSpoolBack
attribute [local go_sem] Oper.semAt_some
set_option linter.unusedVariables false
set_option linter.unusedSimpArgs false

theorem make8 (n : Nat) (hn : n ≤ 1000) (W : World) : Sem.run Try.prog (Instr.makeSlice 42 (.int .i64 (n : Int)) (.int .i64 (n : Int))) W = .ok (.slice (some ⟨W.heap.size, 0, none⟩) n n) (W.alloc (.cells (nums .u8 (List.replicate n 0)).toArray 5)) := by
  obtain ⟨i0, hi, hz0, hz1, hz2⟩ := info_parts By.infoInt
  have h := run_make W 42 5 i0 (.int .u8 0) Try.underlying42 hi hz0 .i64 .i64 (n : Int) (n : Int) (by omega) (by omega) (by rw [hz2]; omega) (by omega)
  rw [hz1] at h
  simp only [Int.toNat_natCast, Nat.mul_one] at h
  rw [show madeCells (Value.int .u8 0).cells n = (nums .u8 (List.replicate n 0)).toArray by
    apply Array.ext
    · simp [madeCells, nums]
    · intro i h1 h2
      simp only [madeCells, nums, Value.cells, Array.getElem_map, Array.getElem_range, List.getElem_toArray, List.getElem_map, List.getElem_replicate]
      rw [show (#[Value.int .u8 0] : Array Value).size = 1 from rfl, Nat.mod_one]
      rfl] at h
  exact h

theorem blk_far2 {w : World} {g g' i : Nat} {t : TypeId} {cs : Array Value} (h : w.heap[g]? = some (.cells cs t (0, 0))) (hp : g ≠ g') (u : Value) : (w.setCell ⟨g', i, none⟩ u).heap[g]? = some (.cells cs t (0, 0)) := blk_far h hp u
theorem blk_own {β : Type} (g : Nat) (cs : β → Array Value) (t : TypeId) : Own (fun s W => W.heap[g]? = some (.cells (cs s) t (0, 0))) := fun s X Y row hs hg hr =>
  (hg.block g (blk_lt hs) (fun e => by obtain ⟨o, ho, hc⟩ := hr g e.symm; rw [hs] at ho; cases ho; cases hc)).trans hs

set_option maxHeartbeats 8000000 in
set_option maxRecDepth 100000 in
theorem big_calls (w : World) (n : Nat) (N : Int) (hn : n ≤ 1000) (hN : 0 ≤ N ∧ N < 18446744073709551616) :
    Calls Try.prog 28 #[.int .u64 N, .int .i64 (n : Int)] w fun e w' => e = .returned (.slice (some ⟨w.heap.size + 1, 0, none⟩) n n) ∧ w'.heap[w.heap.size + 1]? = some (.cells (nums .u8 (big N n)).toArray 5 (0, 0)) ∧ Below w.heap.size w w' := by
  have hmk := make8 n hn
  refine (callsIn_wide (n := 5)).1 ?_
  refine callsIn_of_wp_marks Try.func28 rfl trivial ?_ rfl
  simp only [Try.ntmps28, List.size_toArray, List.length_cons, List.length_nil, Nat.reduceAdd, Nat.reduceSub, Array.replicate_succ, Array.replicate_zero, List.push_toArray, List.append_toArray, List.nil_append, List.cons_append]
  gi_wp2_with (first | (refine ⟨trivial, ?_⟩; gi_at_call 32; refine (back_in Fence.wide _ trivial rfl _ _ _ _).mono ?_; rintro e w1 ⟨rfl, rfl⟩) | fail)
  generalize hW0 : World.alloc _ (.cells #[.slice (some ⟨w.heap.size + 1, 0, none⟩) n n] 42) = W0
  have n1 := World.alloc_heap_new w (.cells #[.int .u64 N] 67)
  have n2 := World.alloc_heap_new (w.alloc (.cells #[.int .u64 N] 67)) (.cells (nums .u8 (List.replicate n 0)).toArray 5)
  have n3 := World.alloc_heap_new ((w.alloc (.cells #[.int .u64 N] 67)).alloc (.cells (nums .u8 (List.replicate n 0)).toArray 5)) (.cells #[.slice (some ⟨w.heap.size + 1, 0, none⟩) n n] 42)
  have n4 := World.alloc_heap_new (((w.alloc (.cells #[.int .u64 N] 67)).alloc (.cells (nums .u8 (List.replicate n 0)).toArray 5)).alloc (.cells #[.slice (some ⟨w.heap.size + 1, 0, none⟩) n n] 42)) (.cells #[.slice (some ⟨w.heap.size + 1, 0, none⟩) n n] 42)
  have u := fun (W : World) (o : Obj) (k : Nat) (h : k < W.heap.size) => Below.heap_alloc W o k h
  simp only [World.size_alloc] at n2 n3 n4
  have HI0 := Aside0.mk (show W0.heap[w.heap.size + 1]? = some (.cells (nums .u8 (st n N []).1).toArray 5 (0, 0)) ∧ Boxed W0 w.heap.size 67 (.int .u64 (st n N []).2) ∧ Boxed W0 (w.heap.size + 1 + 1) 42 (.slice (some ⟨w.heap.size + 1, 0, none⟩) n n) ∧
      Boxed W0 (w.heap.size + 1 + 1 + 1) 42 (.slice (some ⟨w.heap.size + 1, 0, none⟩) n n) ∧ Below w.heap.size w W0 by
    rw [← hW0]
    exact ⟨(u _ _ _ (by simp <;> omega)).trans ((u _ _ _ (by simp <;> omega)).trans n2), (u _ _ _ (by simp <;> omega)).trans ((u _ _ _ (by simp <;> omega)).trans ((u _ _ _ (by simp <;> omega)).trans n1)), (u _ _ _ (by simp <;> omega)).trans n3, n4,
      below_alloc (below_alloc (below_alloc (below_alloc (Below.refl _ _) _) _) _) _⟩)
  have hsz : W0.heap.size = w.heap.size + 4 := by rw [← hW0]; simp
  clear n1 n2 n3 n4 u hW0
  refine wpIn_rangeFunc_ownH (F := Fence.wide) (n := 5) rfl (by omega) (gf := 34) (lb := #[.pointer (some ⟨w.heap.size + 1 + 1 + 1, 0, none⟩)]) rfl trivial (enters_of Try.func34 (by kernel_rfl) rfl)
    (back_stops Fence.wide 4 trivial rfl (by omega) n (w.heap.size + 1 + 1 + 1) (w.heap.size + 1) hn W0 ⟨HI0.out.2.2.2.1, _, st_length n N [], HI0.out.1⟩) Kg_t (fun W l o o' h1 h2 h3 h4 => Kg_b (w := W0) W l o o' h1 h2 h3 h4) (Below.refl _ _) (fun _ => rfl)
    (fun pre W => W.heap[w.heap.size + 1]? = some (.cells (nums .u8 (st n N (pre.map (fun x => x.1.1))).1).toArray 5 (0, 0)) ∧ Boxed W w.heap.size 67 (.int .u64 (st n N (pre.map (fun x => x.1.1))).2) ∧ Boxed W (w.heap.size + 1 + 1) 42 (.slice (some ⟨w.heap.size + 1, 0, none⟩) n n) ∧
      Boxed W (w.heap.size + 1 + 1 + 1) 42 (.slice (some ⟨w.heap.size + 1, 0, none⟩) n n) ∧ Below w.heap.size w W)
    (fun _ _ _ => False)
    (OwnFrom.and ((blk_own _ (fun (pre : List (Ent n)) => (nums .u8 (st n N (pre.map (fun x => x.1.1))).1).toArray) 5).from _) (OwnFrom.and ((boxed_own _ _ (fun (pre : List (Ent n)) => .int .u64 (st n N (pre.map (fun x => x.1.1))).2)).from _) (OwnFrom.and ((boxed_own _ _ (fun _ => _)).from _) (OwnFrom.and ((boxed_own _ _ (fun _ => _)).from _) (ownFrom_below (Nat.le_refl _) (by omega))))))
    (fun c s X Y row hs hg hr => hs)
    HI0.out
    (fun p a' W => a' = { tmps := #[.int .u64 N, .int .i64 (n : Int), .pointer (some ⟨w.heap.size, 0, none⟩), undef, .slice none 0 0, .pointer (some ⟨w.heap.size + 1 + 1, 0, none⟩), .int .i64 (p.1.1 : Int), .int .i64 (n : Int), .slice (some ⟨w.heap.size + 1, 0, none⟩) n n, .slice (some ⟨w.heap.size + 1, 0, none⟩) n n,
      .func (.func 34) #[] #[.pointer (some ⟨w.heap.size + 1 + 1 + 1, 0, none⟩)], .int .i64 (p.1.1 : Int), .int .u8 p.1.2, undef, undef, undef, undef, undef, undef, undef, undef], defers := [] })
    (fun p a' s X Y row hs hg hr => hs) ?assign ?body ?done ?stop
  case assign =>
    intro lp pre p W K hi hK
    dsimp only [encB]
    gi_wp2
    exact hK _ _ (KeepsFrom.refl _ _) (fun h => h) hi rfl
  case body =>
    rintro lp pre p a' W hlp ⟨rec, hrec⟩ ⟨hrow, hb0, hb2, hb3, hB⟩ rfl hlen
    obtain ⟨⟨j, y⟩, hj⟩ := p
    obtain ⟨S, hS⟩ : ∃ S, S = st n N (pre.map (fun x => x.1.1)) := ⟨_, rfl⟩
    rw [← hS] at hrow hb0
    obtain ⟨X, M⟩ := S
    have hX : X.length = n := by have := st_length n N (pre.map (fun x => x.1.1)); rw [← hS] at this; exact this
    have hM : 0 ≤ M ∧ M < 18446744073709551616 := by have := st_range n hN (pre.map (fun x => x.1.1)); rw [← hS] at this; exact this
    simp only at hrow hb0 hj ⊢
    have HB := Aside0.mk hB
    have HS := Aside0.mk hS
    have HROW := Aside0.mk hrow
    have HB0 := Aside0.mk hb0
    have HB2 := Aside0.mk hb2
    have HB3 := Aside0.mk hb3
    have c0 := hb0.cell
    have f0 := hb0.frozen
    have c2 := hb2.cell
    obtain ⟨z, c1⟩ : ∃ z, W.cell? ⟨w.heap.size + 1, j, none⟩ = some (.int .u8 z) := ⟨X[j]'(by omega), by rw [blk_cell hrow j]; simp [nums, hX, hj]⟩
    have f1 := blk_frozen hrow j
    have z1 : (j : Int) < (n : Int) := by omega
    have HX := Aside0.mk hX
    have HM := Aside0.mk hM
    clear hB hS hrow hb0 hb2 hb3 hX hM
    gi_wp2
    have hst : st n N ((pre ++ [(⟨(j, y), hj⟩ : Ent n)]).map (fun x : Ent n => x.1.1)) = (X.set j (M % 256), M / 256) := by
      rw [List.map_append]
      simp only [List.map_cons, List.map_nil]
      rw [st_snoc, ← HS.out]
    have hI : (fun (pre : List (Ent n)) (W : World) => W.heap[w.heap.size + 1]? = some (.cells (nums .u8 (st n N (pre.map (fun x => x.1.1))).1).toArray 5 (0, 0)) ∧ Boxed W w.heap.size 67 (.int .u64 (st n N (pre.map (fun x => x.1.1))).2) ∧ Boxed W (w.heap.size + 1 + 1) 42 (.slice (some ⟨w.heap.size + 1, 0, none⟩) n n) ∧
      Boxed W (w.heap.size + 1 + 1 + 1) 42 (.slice (some ⟨w.heap.size + 1, 0, none⟩) n n) ∧ Below w.heap.size w W) (pre ++ [(⟨(j, y), hj⟩ : Ent n)]) ((W.setCell ⟨w.heap.size + 1, j, none⟩ (.int .u8 (M % 256))).setCell ⟨w.heap.size, 0, none⟩ (.int .u64 (M / 256))) := by
      simp only [hst]
      refine ⟨blk_far2 (blk_put HROW.out j (.int .u8 (M % 256)) ?_) (by omega) _, ?_, ?_, ?_, ?_⟩
      · simp [nums, List.map_set]
      · exact Boxed.set _ (blk_far2 HB0.out (by omega) _)
      · exact blk_far2 (blk_far2 HB2.out (by omega) _) (by omega) _
      · exact blk_far2 (blk_far2 HB3.out (by omega) _) (by omega) _
      · exact (HB.out.setCell (p := ⟨w.heap.size + 1, j, none⟩) (Nat.le_succ _) _).setCell (p := ⟨w.heap.size, 0, none⟩) (Nat.le_refl _) _
    refine ⟨((KeepsOthers.setCell _ _ _).trans (KeepsOthers.setCell _ _ _)).from _, fun _ => ⟨hI.2.2.2.1, _, st_length n N _, hI.1⟩, hI⟩
  case done =>
    rintro D xs W hD hxs ⟨hrow, hb0, hb2, hb3, hB⟩ hK
    rw [hxs, st_all] at hrow
    have HB := Aside0.mk hB
    have HROW := Aside0.mk hrow
    have HK := Aside0.mk hK
    have c2 := hb2.cell
    clear hB hrow hb0 hb2 hb3 hK
    gi_wp2
    refine ⟨by simp, .inl ⟨_, _, rfl, run_takeDeferred HK.out, ?_⟩⟩
    refine ⟨.slice (some ⟨w.heap.size + 1, 0, none⟩) n n, ?_, rfl, (World.putObj_heap_other (by omega)).trans HROW.out, HB.out.trans (belowK_b (w := w) (Nat.le_refl _) _ D _ _ (by omega) HK.out rfl rfl)⟩
    simp [results, Try.f28, go_sem]
  case stop =>
    rintro D cc pre W hD _ h
    exact h.elim
end Go.Proofs.Ytaeamehngbfneab.Sp
