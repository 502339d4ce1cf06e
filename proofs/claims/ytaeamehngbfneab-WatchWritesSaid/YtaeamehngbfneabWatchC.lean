/- watch.Last: its walk. -/
import Derived.Test.YtaeamehngbfneabWatchB
import Derived.RangeFuncNested
namespace Go.Proofs.Ytaeamehngbfneab.Wt
open Go Go.RowKit Go.Lib Go.Shelf Go.Proofs.YtaeamehngbfneabW.PrintWords Go.Proofs.YtaeamehngbfneabW.PrintLast Go.Proofs.YtaeamehngbfneabW.PrintMore Go.Proofs.Ytaeamehngbfneab.Bs Go.Proofs.Ytaeamehngbfneab.PWatchBack Go.Proofs.Ytaeamehngbfneab.Wp
attribute [local go_sem] Oper.semAt_some
set_option linter.unusedVariables false
set_option linter.unusedSimpArgs false

theorem five (w : World) (o0 o1 o2 o3 o4 : Obj) : ((((((w.alloc o0).alloc o1).alloc o2).alloc o3).alloc o4).heap[w.heap.size]? = some o0) ∧ ((((((w.alloc o0).alloc o1).alloc o2).alloc o3).alloc o4).heap[w.heap.size + 1]? = some o1) ∧
    ((((((w.alloc o0).alloc o1).alloc o2).alloc o3).alloc o4).heap[w.heap.size + 2]? = some o2) ∧ ((((((w.alloc o0).alloc o1).alloc o2).alloc o3).alloc o4).heap[w.heap.size + 3]? = some o3) ∧ ((((((w.alloc o0).alloc o1).alloc o2).alloc o3).alloc o4).heap[w.heap.size + 4]? = some o4) := by
  have n1 := World.alloc_heap_new w o0
  have n2 := World.alloc_heap_new (w.alloc o0) o1
  have n3 := World.alloc_heap_new ((w.alloc o0).alloc o1) o2
  have n4 := World.alloc_heap_new (((w.alloc o0).alloc o1).alloc o2) o3
  have n5 := World.alloc_heap_new ((((w.alloc o0).alloc o1).alloc o2).alloc o3) o4
  simp only [World.size_alloc] at n2 n3 n4 n5
  have u := fun (W : World) (o : Obj) (k : Nat) (h : k < W.heap.size) => Below.heap_alloc W o k h
  refine ⟨?_, ?_, ?_, ?_, n5⟩
  · exact ((u _ _ _ (by simp <;> omega)).trans ((u _ _ _ (by simp <;> omega)).trans ((u _ _ _ (by simp <;> omega)).trans (u _ _ _ (by simp))))).trans n1
  · exact ((u _ _ _ (by simp <;> omega)).trans ((u _ _ _ (by simp <;> omega)).trans (u _ _ _ (by simp)))).trans n2
  · exact ((u _ _ _ (by simp <;> omega)).trans (u _ _ _ (by simp))).trans n3
  · exact (u _ _ _ (by simp)).trans n4

set_option maxHeartbeats 8000000 in
set_option maxRecDepth 100000 in
theorem Last_bad (w : World) (A : Option Addr) (c : Nat) (l : List S33) (x y a : Int) (hr : Kd.C k33 w A l.length l) (hc : l.length ≤ c) (h : ¬ (0 ≤ a ∧ a ≤ l.length ∧ l.length ≤ 200)) :
    Calls Try.prog 12 #[.slice A l.length c, .int .i64 x, .int .i64 y, .int .i64 a] w fun e w' => (∃ r : Int, (r = 1 ∨ r = 2) ∧ e = .returned (.tuple #[.int .i64 0, .bool false, .int .i64 r])) ∧ Below w.heap.size w w' := by
  obtain ⟨r, hr2, hk⟩ := check_bad h
  have HR := Aside0.mk hr
  have HK := Aside0.mk hk
  have HR2 := Aside0.mk hr2
  have D : (r == 0) = false := by rcases hr2 with rfl | rfl <;> rfl
  clear hr hk h hr2
  go_enter Try.func12, Try.ntmps12
  go_wp2_with fail
  refine (watch_check.calls A c l a r _ (Kd.C_below HR.out (below_alloc (below_alloc (below_alloc (below_alloc (below_alloc (Below.refl _ _) _) _) _) _) _)) hc HK.out).mono ?_
  rintro e w1 ⟨rfl, ⟨q, rfl⟩⟩
  go_wp2
  exact bodyPost_ret (v := .tuple #[.int .i64 0, .bool false, .int .i64 r]) (by simp [results, Try.f12, go_sem]) rfl ⟨⟨r, HR2.out, rfl⟩, by
    have h : Below w.heap.size w ((((((w.alloc (.cells #[.int .i64 x] 3)).alloc (.cells #[.int .i64 y] 3)).alloc (.cells #[.int .i64 0] 3)).alloc (.cells #[.bool false] 4)).alloc (.cells #[.int .i64 0] 24)).drewN q) := below_then (below_alloc (below_alloc (below_alloc (below_alloc (below_alloc (Below.refl _ _) _) _) _) _) _) (by simp; omega) ⟨rfl, rfl, rfl, Nat.le_refl _, fun _ _ => rfl⟩
    exact ((h.setCell (p := ⟨w.heap.size + 1 + 1, 0, none⟩) (show w.heap.size ≤ w.heap.size + 1 + 1 by omega) _).setCell (p := ⟨w.heap.size + 1 + 1 + 1, 0, none⟩) (show w.heap.size ≤ w.heap.size + 1 + 1 + 1 by omega) _).setCell (p := ⟨w.heap.size + 1 + 1 + 1 + 1, 0, none⟩) (show w.heap.size ≤ w.heap.size + 1 + 1 + 1 + 1 by omega) _⟩

def isW (x y : Int) (e : S33) : Bool := ofSlot acc key (x, y) e && wr e

theorem mem_upto {l : List S33} {k j : Nat} (hj : j < l.length) (hk : l.length - 1 - j < k) : (j, l[j]) ∈ upto l k :=
  List.mem_map.2 ⟨l.length - 1 - j, List.mem_range.2 hk, by
    unfold bk
    rw [show l.length - 1 - (l.length - 1 - j) = j by omega]
    simp [List.getD_eq_getElem?_getD, hj]⟩
theorem writes_is (x y : Int) (e : S33) : watch_slot_writes.f x y e.f0 e.f1 e.f2 e.f3 e.f4 e.f5 e.f6 e.f7 e.f8.f0 e.f8.f1 e.f9.f0 e.f9.f1 = some (isW x y e) := by
  unfold watch_slot_writes.f
  rw [of_is]
  simp only [Option.bind_some, isW, ofSlot, key, wr, acc]
  by_cases h4 : e.f0 = 4
  · by_cases h1 : e.f6 = x <;> by_cases h2 : e.f7 = y <;> simp [h4, h1, h2]
  · by_cases h3 : e.f0 = 3 <;> by_cases h1 : e.f6 = x <;> by_cases h2 : e.f7 = y <;> simp [h4, h3, h1, h2]

set_option maxHeartbeats 8000000 in
set_option maxRecDepth 100000 in
theorem Last_calls (w : World) (A : Option Addr) (c : Nat) (l : List S33) (x y : Int) (a : Nat) (hr : Kd.C k33 w A l.length l) (hc : l.length ≤ c) (ha : a ≤ l.length) (hl : l.length ≤ 200) :
    Calls Try.prog 12 #[.slice A l.length c, .int .i64 x, .int .i64 y, .int .i64 (a : Int)] w (WholePost w (back (isW x y) l a)) := by
  obtain ⟨l', hl'⟩ : ∃ l', l' = l.take a := ⟨_, rfl⟩
  have hla : l'.length = a := by rw [hl', List.length_take]; omega
  have hget : ∀ j (h : j < l'.length) (h' : j < l.length), l'[j] = l[j] := fun j h h' => by subst hl'; simp
  subst hla
  have HR := Aside0.mk hr
  have HK := Aside0.mk (check_ok (l := l) (a := (l'.length : Int)) (by omega) (by omega) hl)
  clear hr
  refine (callsIn_wide (n := 5)).1 ?_
  have h1 : 1 ≤ 5 := by omega
  refine callsIn_of_wp_marks Try.func12 rfl trivial ?_ rfl
  simp only [Try.ntmps12, List.size_toArray, List.length_cons, List.length_nil, Nat.reduceAdd, Nat.reduceSub, Array.replicate_succ, Array.replicate_zero, List.push_toArray, List.append_toArray, List.nil_append, List.cons_append]
  have HR' := Aside0.mk (show Kd.C k33 w A l'.length l' by have := Kd.C_take HR.out (m := l'.length) ha; rwa [← hl'] at this)
  have HGET := Aside0.mk hget
  have HL' := Aside0.mk hl'
  clear hget hl'
  have z1 : (l'.length : Int) ≤ (c : Int) := by omega
  gi_wp2_with (first | (refine ⟨trivial, ?_⟩; gi_at_call 20; refine (callsIn_wide.2 (watch_check.calls A c l (l'.length : Int) 0 _ (Kd.C_below HR.out (below_alloc (below_alloc (below_alloc (below_alloc (below_alloc (Below.refl _ _) _) _) _) _) _)) hc HK.out)).mono ?_; rintro e w1 ⟨rfl, ⟨q, rfl⟩⟩) | (refine ⟨trivial, ?_⟩; gi_at_call 22; refine (backward_in Fence.wide 4 trivial rfl _ _ _ _).mono ?_; rintro e w2 ⟨rfl, rfl⟩))
  generalize hW0 : World.alloc (World.drewN _ q) _ = W0
  have hsz : W0.heap.size = w.heap.size + 6 := by rw [← hW0]; simp
  obtain ⟨b0, b1, b2, b3, b4⟩ := five w (.cells #[.int .i64 x] 3) (.cells #[.int .i64 y] 3) (.cells #[.int .i64 0] 3) (.cells #[.bool false] 4) (.cells #[.int .i64 0] 24)
  have up : ∀ k o, k < w.heap.size + 5 → ((((((w.alloc (.cells #[.int .i64 x] 3)).alloc (.cells #[.int .i64 y] 3)).alloc (.cells #[.int .i64 0] 3)).alloc (.cells #[.bool false] 4)).alloc (.cells #[.int .i64 0] 24)).heap[k]? = some o) → W0.heap[k]? = some o := fun k o hk h => by
    rw [← hW0]
    exact (Below.heap_alloc _ _ k (by simp; omega)).trans h
  have B0 := Aside0.mk (show Boxed W0 w.heap.size 3 (.int .i64 x) from up _ _ (by omega) b0)
  have B1 := Aside0.mk (show Boxed W0 (w.heap.size + 1) 3 (.int .i64 y) from up _ _ (by omega) b1)
  have B2 := Aside0.mk (show Boxed W0 (w.heap.size + 1 + 1) 3 (.int .i64 0) from up _ _ (by omega) b2)
  have B3 := Aside0.mk (show Boxed W0 (w.heap.size + 1 + 1 + 1) 4 (.bool false) from up _ _ (by omega) b3)
  have B4 := Aside0.mk (show Boxed W0 (w.heap.size + 1 + 1 + 1 + 1) 24 (.int .i64 0) from up _ _ (by omega) b4)
  have B5 := Aside0.mk (show Boxed W0 (w.heap.size + 1 + 1 + 1 + 1 + 1) 22 (.slice A l'.length c) by
    rw [← hW0]
    have := World.alloc_heap_new (((((((w.alloc (.cells #[.int .i64 x] 3)).alloc (.cells #[.int .i64 y] 3)).alloc (.cells #[.int .i64 0] 3)).alloc (.cells #[.bool false] 4)).alloc (.cells #[.int .i64 0] 24)).drewN q)) (.cells #[.slice A l'.length c] 22)
    simpa [Boxed] using this)
  have HBW := Aside0.mk (show Below w.heap.size w W0 from ⟨by rw [← hW0]; rfl, by rw [← hW0]; rfl, by rw [← hW0]; rfl, by omega, fun k hk => by
    rw [← hW0]
    exact (Below.heap_alloc _ _ k (by simp; omega)).trans ((((((Below.heap_alloc _ _ k (by simp; omega)).trans (Below.heap_alloc _ _ k (by simp; omega))).trans (Below.heap_alloc _ _ k (by simp; omega))).trans (Below.heap_alloc _ _ k (by simp; omega)))).trans (Below.heap_alloc _ _ k hk))⟩)
  have HR0 := Aside0.mk (show Kd.C k33 W0 A l'.length l' from Kd.C_below HR'.out HBW.out)
  clear up b0 b1 b2 b3 b4 hW0
  refine wpIn_rangeFunc_ownH (F := Fence.wide) (n := 5) rfl (by omega) (gf := 26) (lb := #[.pointer (some ⟨w.heap.size + 1 + 1 + 1 + 1 + 1, 0, none⟩)]) rfl trivial (enters_of Try.func26 (by kernel_rfl) rfl)
    (backward_stops Fence.wide 4 trivial rfl (by omega) (w.heap.size + 1 + 1 + 1 + 1 + 1) A c l' W0 (by omega) HR0.out B5.out.cell) belowK_t (belowK_b (Nat.le_refl _)) (Below.refl _ _) (fun _ => rfl)
    (fun pre W => (∀ p ∈ pre, isW x y p.2 = false) ∧ Below W0.heap.size W0 W)
    (fun c pre W => (c = .ret ∧ ∃ p pre', pre = pre' ++ [p] ∧ isW x y p.2 = true ∧ (∀ q ∈ pre', isW x y q.2 = false) ∧ Boxed W (w.heap.size + 1 + 1) 3 (.int .i64 (p.1 : Int)) ∧ Boxed W (w.heap.size + 1 + 1 + 1) 4 (.bool true) ∧ Boxed W (w.heap.size + 1 + 1 + 1 + 1) 24 (.int .i64 0)) ∧ Below w.heap.size w W)
    (OwnFrom.and (ownFrom_pure _ _) (ownFrom_below (Nat.le_refl _) (Nat.le_refl _)))
    (fun c => OwnFrom.and (Own.from (fun s X Y row hs hg hr => by
      obtain ⟨h1, p, pre', h2, h3, h4, h5, h6, h7⟩ := hs
      exact ⟨h1, p, pre', h2, h3, h4, boxed_own _ _ (fun (_ : Unit) => _) () X Y row h5 hg hr, boxed_own _ _ (fun (_ : Unit) => _) () X Y row h6 hg hr, boxed_own _ _ (fun (_ : Unit) => _) () X Y row h7 hg hr⟩) _) (ownFrom_below (Nat.le_refl _) (by omega)))
    ⟨by simp, Below.refl _ _⟩
    (fun p a' W => ∃ Bx, W0.heap.size ≤ Bx ∧ W.heap[Bx]? = some (.cells #[.int .i64 p.2.f0, .int .i64 p.2.f1, .int .i64 p.2.f2, .int .i64 p.2.f3, .int .i64 p.2.f4, .int .i64 p.2.f5, .int .i64 p.2.f6, .int .i64 p.2.f7, .int .i64 p.2.f8.f0, .int .i64 p.2.f8.f1, .int .i64 p.2.f9.f0, .int .i64 p.2.f9.f1] 33 (0, 0)) ∧
      a' = { tmps := #[.slice A l.length c, .int .i64 x, .int .i64 y, .int .i64 (l'.length : Int), undef, .pointer (some ⟨w.heap.size, 0, none⟩), .pointer (some ⟨w.heap.size + 1, 0, none⟩), undef, .pointer (some ⟨w.heap.size + 1 + 1, 0, none⟩), .pointer (some ⟨w.heap.size + 1 + 1 + 1, 0, none⟩), .pointer (some ⟨w.heap.size + 1 + 1 + 1 + 1, 0, none⟩), .int .i64 0, .int .i64 (p.1 : Int), .pointer (some ⟨Bx, 0, none⟩), .slice A l.length c, .int .i64 (l'.length : Int), .int .i64 0, .int .i64 0, .bool false, undef, .slice A l.length c, .int .i64 (l'.length : Int), .slice A l'.length c, .func (.func 26) #[] #[.pointer (some ⟨w.heap.size + 1 + 1 + 1 + 1 + 1, 0, none⟩)], .int .i64 (p.1 : Int), agg33 p.2, undef, undef, undef, undef, undef, undef], defers := [] })
    (fun p a' => fun s X Y row hs hg hr => by
      obtain ⟨Bx, h1, h2, h3⟩ := hs
      refine ⟨Bx, h1, (hg.block Bx (Array.getElem?_eq_some_iff.1 h2).1 (fun e => ?_)).trans h2, h3⟩
      obtain ⟨_, o, ho, hc⟩ := hr Bx e.symm
      rw [h2] at ho
      cases ho
      cases hc) ?assign ?body ?done ?stop
  case assign =>
    intro lp pre p W K hi hK
    dsimp only [encs, agg33]
    gi_wp2
    exact hK _ _ ((KeepsOthers.alloc _ _).from _) ((Below.refl _ W).alloc hi.2.size _) ⟨hi.1, hi.2.alloc hi.2.size _⟩ ⟨W.heap.size, hi.2.size, World.alloc_heap_new W _, rfl⟩
  case body =>
    rintro lp pre p a' W hlp ⟨rec, hrec⟩ ⟨hpre, hB⟩ ⟨Bx, hBx, hblk, rfl⟩ hlen
    have HBb := Aside0.mk hB
    have g0 : W.cell? ⟨w.heap.size, 0, none⟩ = some (.int .i64 x) := (hB.cell (p := ⟨w.heap.size, 0, none⟩) B0.out.lt).trans B0.out.cell
    have g1 : W.cell? ⟨w.heap.size + 1, 0, none⟩ = some (.int .i64 y) := (hB.cell (p := ⟨w.heap.size + 1, 0, none⟩) B1.out.lt).trans B1.out.cell
    obtain ⟨j, z⟩ := p
    simp only at hblk ⊢
    have e0 := blk_cell hblk 0
    have e1 := blk_cell hblk 1
    have e2 := blk_cell hblk 2
    have e3 := blk_cell hblk 3
    have e4 := blk_cell hblk 4
    have e5 := blk_cell hblk 5
    have e6 := blk_cell hblk 6
    have e7 := blk_cell hblk 7
    have e8 := blk_cell hblk 8
    have e9 := blk_cell hblk 9
    have e10 := blk_cell hblk 10
    have e11 := blk_cell hblk 11
    simp only [List.getElem?_toArray, List.getElem?_cons_zero, List.getElem?_cons_succ] at e0 e1 e2 e3 e4 e5 e6 e7 e8 e9 e10 e11
    have HP := Aside0.mk hpre
    clear hpre hB hblk hrec
    gi_wp2_with fail
    refine ⟨trivial, ?_⟩
    refine (CallsIn.inRound lp (callsIn_wide.2 (watch_slot_writes.calls x y z.f0 z.f1 z.f2 z.f3 z.f4 z.f5 z.f6 z.f7 z.f8.f0 z.f8.f1 z.f9.f0 z.f9.f1 (isW x y z) _ (writes_is x y z)))).mono ?_
    rintro e W3 ⟨rfl, hb⟩
    have HBW3 := Aside0.mk hb
    have HB3 := Aside0.mk (HBb.out.trans (hb.mono HBb.out.size))
    cases hz : isW x y z with
    | false =>
      have HZ := Aside0.mk hz
      clear hz hb
      gi_wp2
      refine ⟨⟨HBW3.out.size, fun k o _ hk _ => (HBW3.out.block k (Array.getElem?_eq_some_iff.1 hk).1).trans hk⟩, HBW3.out.mono HBb.out.size, fun q hq => ?_, HB3.out⟩
      rcases List.mem_append.1 hq with hq | hq
      · exact HP.out q hq
      · rw [List.mem_singleton.1 hq]; exact HZ.out
    | true =>
      have HZ := Aside0.mk hz
      have c2 : Boxed W3 (w.heap.size + 1 + 1) 3 (.int .i64 0) := (HB3.out.block _ B2.out.lt).trans B2.out
      have c3 : Boxed W3 (w.heap.size + 1 + 1 + 1) 4 (.bool false) := (HB3.out.block _ B3.out.lt).trans B3.out
      have c4 : Boxed W3 (w.heap.size + 1 + 1 + 1 + 1) 24 (.int .i64 0) := (HB3.out.block _ B4.out.lt).trans B4.out
      have C2 := Aside0.mk c2
      have C3 := Aside0.mk c3
      have C4 := Aside0.mk c4
      have d2 := c2.cell
      have d3 := c3.cell
      have d4 := c4.cell
      have f2 := c2.frozen
      have f3 := c3.frozen
      have f4 := c4.frozen
      clear hz hb c2 c3 c4
      gi_wp2
      refine ⟨?_, ⟨rfl, (j, z), pre, rfl, HZ.out, HP.out, ((C2.out.set _).other (by omega) _).other (by omega) _, ((C3.out.other (by omega) _).set _).other (by omega) _, ((C4.out.other (by omega) _).other (by omega) _).set _⟩, (((HBW.out.trans (HB3.out.mono HBW.out.size)).setCell (p := ⟨w.heap.size + 1 + 1, 0, none⟩) (show w.heap.size ≤ w.heap.size + 1 + 1 by omega) _).setCell (p := ⟨w.heap.size + 1 + 1 + 1, 0, none⟩) (show w.heap.size ≤ w.heap.size + 1 + 1 + 1 by omega) _).setCell (p := ⟨w.heap.size + 1 + 1 + 1 + 1, 0, none⟩) (show w.heap.size ≤ w.heap.size + 1 + 1 + 1 + 1 by omega) _⟩
      refine KeepsFrom.trans (Y := W3) ⟨HBW3.out.size, fun k o _ hk _ => (HBW3.out.block k (Array.getElem?_eq_some_iff.1 hk).1).trans hk⟩ ?_
      exact (((KeepsOthers.setCell _ _ _).trans (KeepsOthers.setCell _ _ _)).trans (KeepsOthers.setCell _ _ _)).from _
  case done =>
    rintro D xs W hD rfl ⟨hall, hB⟩ hK
    have c2 : Boxed W (w.heap.size + 1 + 1) 3 (.int .i64 0) := (hB.block _ B2.out.lt).trans B2.out
    have c3 : Boxed W (w.heap.size + 1 + 1 + 1) 4 (.bool false) := (hB.block _ B3.out.lt).trans B3.out
    have c4 : Boxed W (w.heap.size + 1 + 1 + 1 + 1) 24 (.int .i64 0) := (hB.block _ B4.out.lt).trans B4.out
    have C2 := Aside0.mk c2
    have C3 := Aside0.mk c3
    have C4 := Aside0.mk c4
    have d2 := c2.cell
    have d3 := c3.cell
    have d4 := c4.cell
    have f2 := c2.frozen
    have f3 := c3.frozen
    have f4 := c4.frozen
    have HBn := Aside0.mk hB
    have HKn := Aside0.mk hK
    have HRES := Aside0.mk (show back (isW x y) l l'.length = none from back_none_of ha (fun j hj hj' => by
      have := hall (j, l'[j]) (mem_upto hj (by omega))
      rwa [HGET.out j hj hj'] at this))
    clear c2 c3 c4 hB hK hall
    gi_wp2
    have C2' := Aside0.mk (((C2.out.set (.int .i64 0)).other (B' := w.heap.size + 1 + 1 + 1) (by omega) (.bool false)).other (B' := w.heap.size + 1 + 1 + 1 + 1) (by omega) (.int .i64 0))
    have C3' := Aside0.mk (((C3.out.other (B' := w.heap.size + 1 + 1) (by omega) (.int .i64 0)).set (.bool false)).other (B' := w.heap.size + 1 + 1 + 1 + 1) (by omega) (.int .i64 0))
    have C4' := Aside0.mk (((C4.out.other (B' := w.heap.size + 1 + 1) (by omega) (.int .i64 0)).other (B' := w.heap.size + 1 + 1 + 1) (by omega) (.bool false)).set (.int .i64 0))
    have hK' := (((KeepsOthers.setCell W ⟨w.heap.size + 1 + 1, 0, none⟩ (.int .i64 0)).trans (KeepsOthers.setCell _ ⟨w.heap.size + 1 + 1 + 1, 0, none⟩ (.bool false))).trans (KeepsOthers.setCell _ ⟨w.heap.size + 1 + 1 + 1 + 1, 0, none⟩ (.int .i64 0))).same D _ HKn.out rfl
    refine ⟨by simp, .inl ⟨_, _, rfl, run_takeDeferred hK', ?_⟩⟩
    clear d2 d3 d4 f2 f3 f4
    have hk2 := cell_kept C2'.out.cell (grownBy_putObj' _ D (.deferred none)) (fun r e => by cases e; exact ⟨_, hK', rfl⟩)
    have hk3 := cell_kept C3'.out.cell (grownBy_putObj' _ D (.deferred none)) (fun r e => by cases e; exact ⟨_, hK', rfl⟩)
    have hk4 := cell_kept C4'.out.cell (grownBy_putObj' _ D (.deferred none)) (fun r e => by cases e; exact ⟨_, hK', rfl⟩)
    refine ⟨.tuple #[.int .i64 0, .bool false, .int .i64 0], ?_, ?_, ((((HBW.out.trans (HBn.out.mono HBW.out.size)).setCell (p := ⟨w.heap.size + 1 + 1, 0, none⟩) (show w.heap.size ≤ w.heap.size + 1 + 1 by omega) _).setCell (p := ⟨w.heap.size + 1 + 1 + 1, 0, none⟩) (show w.heap.size ≤ w.heap.size + 1 + 1 + 1 by omega) _).setCell (p := ⟨w.heap.size + 1 + 1 + 1 + 1, 0, none⟩) (show w.heap.size ≤ w.heap.size + 1 + 1 + 1 + 1 by omega) _).trans (belowK_b (w := w) (Nat.le_refl _) _ D _ _ (by omega) hK' rfl rfl)⟩
    · simp [results, Try.f12, go_sem, hk2, hk3, hk4]
    · rw [HRES.out]; rfl
  case stop =>
    rintro D cc pre W hD ⟨k, hk, rfl⟩ ⟨⟨rfl, p, pre', hpre, hp, hall, c2, c3, c4⟩, hB⟩ hK
    have HRES := Aside0.mk (show back (isW x y) l l'.length = some p.1 by
      obtain ⟨k', rfl⟩ : ∃ k', k = k' + 1 := ⟨k - 1, by
        rcases Nat.eq_zero_or_pos k with e | e
        · subst e; simp [upto] at hpre
        · omega⟩
      rw [upto_succ] at hpre
      obtain ⟨e1, e2⟩ := List.append_inj' hpre rfl
      simp only [List.cons.injEq, and_true] at e2
      subst e1
      have hj : l'.length - 1 - k' < l'.length := by omega
      have e3 : p = (l'.length - 1 - k', l'[l'.length - 1 - k']) := by rw [← e2]; unfold bk; simp [List.getD_eq_getElem?_getD, hj]
      subst e3
      simp only at hp ⊢
      rw [HGET.out _ hj (by omega)] at hp
      refine back_stop (by omega) hp hj ha (fun j h1 h2 h3 => ?_)
      have := hall (j, l'[j]) (mem_upto h2 (by omega))
      rwa [HGET.out j h2 h3] at this)
    have C2 := Aside0.mk c2
    have C3 := Aside0.mk c3
    have C4 := Aside0.mk c4
    have HBn := Aside0.mk hB
    have HKn := Aside0.mk hK
    clear c2 c3 c4 hB hK hall hp hpre
    gi_wp2
    refine ⟨by simp, .inl ⟨_, _, rfl, run_takeDeferred HKn.out, ?_⟩⟩
    have hk2 := cell_kept C2.out.cell (grownBy_putObj' _ D (.deferred none)) (fun r e => by cases e; exact ⟨_, HKn.out, rfl⟩)
    have hk3 := cell_kept C3.out.cell (grownBy_putObj' _ D (.deferred none)) (fun r e => by cases e; exact ⟨_, HKn.out, rfl⟩)
    have hk4 := cell_kept C4.out.cell (grownBy_putObj' _ D (.deferred none)) (fun r e => by cases e; exact ⟨_, HKn.out, rfl⟩)
    refine ⟨.tuple #[.int .i64 (p.1 : Int), .bool true, .int .i64 0], ?_, ?_, HBn.out.trans (belowK_b (w := w) (Nat.le_refl _) _ D _ _ (by omega) HKn.out rfl rfl)⟩
    · simp [results, Try.f12, go_sem, hk2, hk3, hk4]
    · rw [HRES.out]; rfl
end Go.Proofs.Ytaeamehngbfneab.Wt
