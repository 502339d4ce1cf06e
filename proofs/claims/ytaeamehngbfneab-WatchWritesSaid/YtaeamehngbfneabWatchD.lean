/- watch.Value: its walk. -/
import Derived.Test.YtaeamehngbfneabWatchC
namespace Go.Proofs.Ytaeamehngbfneab.Wt
open Go Go.RowKit Go.Lib Go.Shelf Go.Proofs.YtaeamehngbfneabW.PrintWords Go.Proofs.YtaeamehngbfneabW.PrintLast Go.Proofs.YtaeamehngbfneabW.PrintMore Go.Proofs.Ytaeamehngbfneab.Bs Go.Proofs.Ytaeamehngbfneab.PWatchBack Go.Proofs.Ytaeamehngbfneab.Wp
attribute [local go_sem] Oper.semAt_some
set_option linter.unusedVariables false
set_option linter.unusedSimpArgs false

theorem four (w : World) (o0 o1 o2 o3 : Obj) : (((((w.alloc o0).alloc o1).alloc o2).alloc o3).heap[w.heap.size]? = some o0) ∧ (((((w.alloc o0).alloc o1).alloc o2).alloc o3).heap[w.heap.size + 1]? = some o1) ∧
    (((((w.alloc o0).alloc o1).alloc o2).alloc o3).heap[w.heap.size + 2]? = some o2) ∧ (((((w.alloc o0).alloc o1).alloc o2).alloc o3).heap[w.heap.size + 3]? = some o3) := by
  have n1 := World.alloc_heap_new w o0
  have n2 := World.alloc_heap_new (w.alloc o0) o1
  have n3 := World.alloc_heap_new ((w.alloc o0).alloc o1) o2
  have n4 := World.alloc_heap_new (((w.alloc o0).alloc o1).alloc o2) o3
  simp only [World.size_alloc] at n2 n3 n4
  have u := fun (W : World) (o : Obj) (k : Nat) (h : k < W.heap.size) => Below.heap_alloc W o k h
  refine ⟨?_, ?_, ?_, n4⟩
  · exact ((u _ _ _ (by simp <;> omega)).trans ((u _ _ _ (by simp <;> omega)).trans (u _ _ _ (by simp)))).trans n1
  · exact ((u _ _ _ (by simp <;> omega)).trans (u _ _ _ (by simp))).trans n2
  · exact (u _ _ _ (by simp)).trans n3

theorem grownBy_set1 (w : World) (a : Addr) (u : Value) : w.grownBy (w.setCell a u) (some a.block) :=
  have h : Below 0 w (w.setCell a u) := (Below.refl 0 w).setCell (p := a) (Nat.zero_le _) u
  ⟨h.os, h.tape, h.output, h.size, fun i hi hr => Below.heap_setCell w a u i (fun e => hr (by rw [e]))⟩
/-- the results, stored -/
def put3 (W : World) (g : Nat) (p q : Int) (s : Bool) (r : Int) : World := (((W.setCell ⟨g, 0, none⟩ (.int .i64 p)).setCell ⟨g, 1, none⟩ (.int .i64 q)).setCell ⟨g + 1, 0, none⟩ (.bool s)).setCell ⟨g + 1 + 1, 0, none⟩ (.int .i64 r)
/-- the results' blocks -/
structure Res (W : World) (g : Nat) (p q : Int) (s : Bool) (r : Int) : Prop where
  b0 : W.heap[g]? = some (.cells #[.int .i64 p, .int .i64 q] 28 (0, 0))
  b1 : Boxed W (g + 1) 4 (.bool s)
  b2 : Boxed W (g + 1 + 1) 24 (.int .i64 r)
theorem Res.put {W : World} {g : Nat} {p q : Int} {s : Bool} {r : Int} (h : Res W g p q s r) (p' q' : Int) (s' : Bool) (r' : Int) : Res (put3 W g p' q' s' r') g p' q' s' r' where
  b0 := by
    unfold put3
    rw [Below.heap_setCell _ _ _ _ (by show g ≠ g + 1 + 1; omega), Below.heap_setCell _ _ _ _ (by show g ≠ g + 1; omega)]
    exact blk_set (blk_set h.b0 0 _) 1 _
  b1 := ((((h.b1.other (B' := g) (by omega) _)).kept (grownBy_set1 _ _ _) (by simp)).set _).other (by omega) _
  b2 := ((((h.b2.other (B' := g) (by omega) _)).kept (grownBy_set1 _ _ _) (by simp; omega)).other (by omega) _).set _
theorem Res.kept {W W' : World} {g : Nat} {p q : Int} {s : Bool} {r : Int} (h : Res W g p q s r) {row : Option Nat} (hg : W.grownBy W' row) (hr : ∀ k, row = some k → ∃ o : Obj, W.heap[k]? = some o ∧ o.isCells = false) : Res W' g p q s r :=
  ⟨(hg.block g (Array.getElem?_eq_some_iff.1 h.b0).1 (fun e => by obtain ⟨o, ho, hc⟩ := hr g e.symm; rw [h.b0] at ho; cases ho; cases hc)).trans h.b0,
   h.b1.kept hg (fun e => by obtain ⟨o, ho, hc⟩ := hr _ e.symm; rw [show W.heap[g + 1]? = _ from h.b1] at ho; cases ho; cases hc),
   h.b2.kept hg (fun e => by obtain ⟨o, ho, hc⟩ := hr _ e.symm; rw [show W.heap[g + 1 + 1]? = _ from h.b2] at ho; cases ho; cases hc)⟩
theorem Res.below {W W' : World} {g B : Nat} {p q : Int} {s : Bool} {r : Int} (h : Res W g p q s r) (hb : Below B W W') (hB : g + 1 + 1 < B) : Res W' g p q s r :=
  ⟨(hb.block g (by omega)).trans h.b0, (hb.block _ (by omega)).trans h.b1, (hb.block _ hB).trans h.b2⟩
theorem Res.results {W : World} {g : Nat} {p q : Int} {s : Bool} {r : Int} (h : Res W g p q s r) : W.cell? ⟨g, 0, none⟩ = some (.int .i64 p) ∧ W.cell? ⟨g, 1, none⟩ = some (.int .i64 q) ∧ W.cell? ⟨g + 1, 0, none⟩ = some (.bool s) ∧ W.cell? ⟨g + 1 + 1, 0, none⟩ = some (.int .i64 r) :=
  ⟨blk_cell h.b0 0, blk_cell h.b0 1, h.b1.cell, h.b2.cell⟩
theorem below_put3 {B : Nat} {w0 W : World} (h : Below B w0 W) {g : Nat} (hg : B ≤ g) (p q : Int) (s : Bool) (r : Int) : Below B w0 (put3 W g p q s r) :=
  (((h.setCell (p := ⟨g, 0, none⟩) hg _).setCell (p := ⟨g, 1, none⟩) hg _).setCell (p := ⟨g + 1, 0, none⟩) (show B ≤ g + 1 by omega) _).setCell (p := ⟨g + 1 + 1, 0, none⟩) (show B ≤ g + 1 + 1 by omega) _
theorem keeps_put3 (W : World) (g : Nat) (p q : Int) (s : Bool) (r : Int) : KeepsOthers W (put3 W g p q s r) :=
  (((KeepsOthers.setCell _ _ _).trans (KeepsOthers.setCell _ _ _)).trans (KeepsOthers.setCell _ _ _)).trans (KeepsOthers.setCell _ _ _)

theorem cut33 (A : Option Addr) (n c m : Nat) (hm : m ≤ n) (hc : n ≤ c) (W : World) :
    Sem.run Try.prog (Instr.sliceAt 22 (.slice A n c) (some (.int .i64 (m : Int))) none none) W = .ok (.slice (if c = m then A else A.map (·.add (m * 12))) (n - m) (c - m)) W := by
  have h1 : (m : Int) ≤ (n : Int) := by omega
  have h2 : (0 : Int) ≤ (m : Int) := by omega
  go_simp

def ValuePost (w : World) (r : Option (Int × Int)) (e : Ending) (w' : World) : Prop :=
  e = .returned (.tuple #[two (r.getD (0, 0)), .bool r.isSome, .int .i64 0]) ∧ Below w.heap.size w w'

set_option maxHeartbeats 8000000 in
set_option maxRecDepth 100000 in
theorem Value_bad (w : World) (A : Option Addr) (c : Nat) (l : List S33) (x y a : Int) (hr : Kd.C k33 w A l.length l) (hc : l.length ≤ c) (h : ¬ (0 ≤ a ∧ a ≤ l.length ∧ l.length ≤ 200)) :
    Calls Try.prog 11 #[.slice A l.length c, .int .i64 x, .int .i64 y, .int .i64 a] w fun e w' => (∃ r : Int, (r = 1 ∨ r = 2) ∧ e = .returned (.tuple #[two (0, 0), .bool false, .int .i64 r])) ∧ Below w.heap.size w w' := by
  obtain ⟨r, hr2, hk⟩ := check_bad h
  have HR := Aside0.mk hr
  have HK := Aside0.mk hk
  have HR2 := Aside0.mk hr2
  have D : (r == 0) = false := by rcases hr2 with rfl | rfl <;> rfl
  clear hr hk h hr2
  go_enter Try.func11, Try.ntmps11
  go_wp2_with fail
  refine (watch_check.calls A c l a r _ (Kd.C_below HR.out (below_alloc (below_alloc (below_alloc (Below.refl _ _) _) _) _)) hc HK.out).mono ?_
  rintro e w1 ⟨rfl, ⟨q, rfl⟩⟩
  obtain ⟨n0, n1, n2, -⟩ := four w (.cells #[.int .i64 0, .int .i64 0] 28) (.cells #[.bool false] 4) (.cells #[.int .i64 0] 24) (.cells #[] 3)
  generalize hW1 : World.drewN _ q = W1
  have hres : Res W1 w.heap.size 0 0 false 0 := by
    rw [← hW1]
    exact ⟨World.alloc_heap_new w _ |> fun h => ((Below.heap_alloc _ _ _ (by simp <;> omega)).trans (Below.heap_alloc _ _ _ (by simp))).trans h, by have := World.alloc_heap_new (w.alloc (.cells #[.int .i64 0, .int .i64 0] 28)) (.cells #[.bool false] 4); rw [World.size_alloc] at this; exact (Below.heap_alloc _ _ _ (by simp)).trans this,
      by have := World.alloc_heap_new ((w.alloc (.cells #[.int .i64 0, .int .i64 0] 28)).alloc (.cells #[.bool false] 4)) (.cells #[.int .i64 0] 24); rw [World.size_alloc, World.size_alloc] at this; exact this⟩
  have hbw : Below w.heap.size w W1 := by
    rw [← hW1]
    exact below_then (below_alloc (below_alloc (below_alloc (Below.refl _ _) _) _) _) (by simp <;> omega) ⟨rfl, rfl, rfl, Nat.le_refl _, fun _ _ => rfl⟩
  have HRES := Aside0.mk hres
  have HBW := Aside0.mk hbw
  obtain ⟨d0, d1, d2, d3⟩ := hres.results
  have f0 := blk_frozen hres.b0 0
  have f1 := blk_frozen hres.b0 1
  have f2 := hres.b1.frozen
  have f3 := hres.b2.frozen
  clear n0 n1 n2 hW1 hbw hres
  go_wp2
  obtain ⟨e0, e1, e2, e3⟩ := (HRES.out.put 0 0 false r).results
  unfold put3 at e0 e1 e2 e3
  refine bodyPost_ret (v := .tuple #[.agg #[.int .i64 0, .int .i64 0], .bool false, .int .i64 r]) (by simp [results, Try.f11, go_sem, e0, e1, e2, e3]) rfl ⟨⟨r, HR2.out, rfl⟩, below_put3 HBW.out (Nat.le_refl _) 0 0 false r⟩

set_option maxHeartbeats 8000000 in
set_option maxRecDepth 100000 in
theorem Value_calls (w : World) (A : Option Addr) (c : Nat) (l : List S33) (x y : Int) (a : Nat) (hr : Kd.C k33 w A l.length l) (hc : l.length ≤ c) (ha : a ≤ l.length) (hl : l.length ≤ 200) :
    Calls Try.prog 11 #[.slice A l.length c, .int .i64 x, .int .i64 y, .int .i64 (a : Int)] w (ValuePost w (value acc wr key val old (x, y) l a)) := by
  obtain ⟨l', hl'⟩ : ∃ l', l' = l.take a := ⟨_, rfl⟩
  have hla : l'.length = a := by rw [hl', List.length_take]; omega
  have hget : ∀ j (h : j < l'.length) (h' : j < l.length), l'[j] = l[j] := fun j h h' => by subst hl'; simp
  subst hla
  have HR := Aside0.mk hr
  have HK := Aside0.mk (check_ok (l := l) (a := (l'.length : Int)) (by omega) (by omega) hl)
  clear hr
  refine (callsIn_wide (n := 5)).1 ?_
  have h1 : 1 ≤ 5 := by omega
  refine callsIn_of_wp_marks Try.func11 rfl trivial ?_ rfl
  simp only [Try.ntmps11, List.size_toArray, List.length_cons, List.length_nil, Nat.reduceAdd, Nat.reduceSub, Array.replicate_succ, Array.replicate_zero, List.push_toArray, List.append_toArray, List.nil_append, List.cons_append]
  have HR' := Aside0.mk (show Kd.C k33 w A l'.length l' by have := Kd.C_take HR.out (m := l'.length) ha; rwa [← hl'] at this)
  have HGET := Aside0.mk hget
  have HL' := Aside0.mk hl'
  clear hget hl'
  have z1 : (l'.length : Int) ≤ (c : Int) := by omega
  gi_wp2_with (first | (refine ⟨trivial, ?_⟩; gi_at_call 20; refine (callsIn_wide.2 (watch_check.calls A c l (l'.length : Int) 0 _ (Kd.C_below HR.out (below_alloc (below_alloc (below_alloc (Below.refl _ _) _) _) _)) hc HK.out)).mono ?_; rintro e w1 ⟨rfl, ⟨q, rfl⟩⟩) | (refine ⟨trivial, ?_⟩; gi_at_call 22; refine (backward_in Fence.wide 4 trivial rfl _ _ _ _).mono ?_; rintro e w2 ⟨rfl, rfl⟩))
  generalize hW0 : World.alloc (World.alloc (World.drewN _ q) _) _ = W0
  have hsz : W0.heap.size = w.heap.size + 5 := by rw [← hW0]; simp
  have up : ∀ k o, k < w.heap.size + 3 → ((((w.alloc (.cells #[.int .i64 0, .int .i64 0] 28)).alloc (.cells #[.bool false] 4)).alloc (.cells #[.int .i64 0] 24)).heap[k]? = some o) → W0.heap[k]? = some o := fun k o hk h => by
    rw [← hW0]
    exact ((Below.heap_alloc _ _ k (by simp; omega)).trans (Below.heap_alloc _ _ k (by simp; omega))).trans h
  obtain ⟨n0, n1, n2, -⟩ := four w (.cells #[.int .i64 0, .int .i64 0] 28) (.cells #[.bool false] 4) (.cells #[.int .i64 0] 24) (.cells #[] 3)
  have R0 := Aside0.mk (show Res W0 w.heap.size 0 0 false 0 from ⟨up _ _ (by omega) ((Below.heap_alloc _ _ _ (by simp <;> omega)).symm.trans n0), up _ _ (by omega) ((Below.heap_alloc _ _ _ (by simp <;> omega)).symm.trans n1), up _ _ (by omega) ((Below.heap_alloc _ _ _ (by simp <;> omega)).symm.trans n2)⟩)
  have BS := Aside0.mk (show W0.heap[w.heap.size + 1 + 1 + 1]? = some (.cells #[.int .i64 x, .int .i64 y] 53 (0, 0)) by
    rw [← hW0]
    have := World.alloc_heap_new ((((w.alloc (.cells #[.int .i64 0, .int .i64 0] 28)).alloc (.cells #[.bool false] 4)).alloc (.cells #[.int .i64 0] 24)).drewN q) (.cells #[.int .i64 x, .int .i64 y] 53)
    exact (Below.heap_alloc _ _ _ (by simp)).trans (by simpa using this))
  have BB := Aside0.mk (show Boxed W0 (w.heap.size + 1 + 1 + 1 + 1) 22 (.slice A l'.length c) by
    rw [← hW0]
    have := World.alloc_heap_new (((((w.alloc (.cells #[.int .i64 0, .int .i64 0] 28)).alloc (.cells #[.bool false] 4)).alloc (.cells #[.int .i64 0] 24)).drewN q).alloc (.cells #[.int .i64 x, .int .i64 y] 53)) (.cells #[.slice A l'.length c] 22)
    simpa [Boxed] using this)
  have HBW := Aside0.mk (show Below w.heap.size w W0 from ⟨by rw [← hW0]; rfl, by rw [← hW0]; rfl, by rw [← hW0]; rfl, by omega, fun k hk => by
    rw [← hW0]
    exact ((Below.heap_alloc _ _ k (by simp; omega)).trans (Below.heap_alloc _ _ k (by simp; omega))).trans ((((Below.heap_alloc _ _ k (by simp; omega)).trans (Below.heap_alloc _ _ k (by simp; omega)))).trans (Below.heap_alloc _ _ k hk))⟩)
  have HR0 := Aside0.mk (show Kd.C k33 W0 A l'.length l' from Kd.C_below HR'.out HBW.out)
  clear up n0 n1 n2 hW0
  refine wpIn_rangeFunc_ownH (F := Fence.wide) (n := 5) rfl (by omega) (gf := 26) (lb := #[.pointer (some ⟨w.heap.size + 1 + 1 + 1 + 1, 0, none⟩)]) rfl trivial (enters_of Try.func26 (by kernel_rfl) rfl)
    (backward_stops Fence.wide 4 trivial rfl (by omega) (w.heap.size + 1 + 1 + 1 + 1) A c l' W0 (by omega) HR0.out BB.out.cell) belowK_t (belowK_b (Nat.le_refl _)) (Below.refl _ _) (fun _ => rfl)
    (fun pre W => (∀ p ∈ pre, ofSlot acc key (x, y) p.2 = false) ∧ Below W0.heap.size W0 W)
    (fun c pre W => (c = .ret ∧ ∃ p pre', pre = pre' ++ [p] ∧ ofSlot acc key (x, y) p.2 = true ∧ (∀ q ∈ pre', ofSlot acc key (x, y) q.2 = false) ∧ Res W w.heap.size p.2.f8.f0 p.2.f8.f1 true 0) ∧ Below w.heap.size w W)
    (OwnFrom.and (ownFrom_pure _ _) (ownFrom_below (Nat.le_refl _) (Nat.le_refl _)))
    (fun c => OwnFrom.and (Own.from (fun s X Y row hs hg hr => by
      obtain ⟨h1, p, pre', h2, h3, h4, h5⟩ := hs
      exact ⟨h1, p, pre', h2, h3, h4, h5.kept hg hr⟩) _) (ownFrom_below (Nat.le_refl _) (by omega)))
    ⟨by simp, Below.refl _ _⟩
    (fun p a' W => ∃ Bx, W0.heap.size ≤ Bx ∧ W.heap[Bx]? = some (.cells #[.int .i64 p.2.f0, .int .i64 p.2.f1, .int .i64 p.2.f2, .int .i64 p.2.f3, .int .i64 p.2.f4, .int .i64 p.2.f5, .int .i64 p.2.f6, .int .i64 p.2.f7, .int .i64 p.2.f8.f0, .int .i64 p.2.f8.f1, .int .i64 p.2.f9.f0, .int .i64 p.2.f9.f1] 33 (0, 0)) ∧
      a' = { tmps := #[.slice A l.length c, .int .i64 x, .int .i64 y, .int .i64 (l'.length : Int), undef, undef, undef, undef, .pointer (some ⟨w.heap.size, 0, none⟩), .pointer (some ⟨w.heap.size + 1, 0, none⟩), .pointer (some ⟨w.heap.size + 1 + 1, 0, none⟩), .int .i64 0, .pointer (some ⟨w.heap.size + 1 + 1 + 1, 0, none⟩), undef, .pointer (some ⟨Bx, 0, none⟩), undef, undef, undef, undef, undef, undef, .slice A l.length c, .int .i64 (l'.length : Int), .int .i64 0, .int .i64 0, .bool false, undef, undef, .int .i64 x, .int .i64 y, .agg #[.int .i64 x, .int .i64 y], .slice A l.length c, .int .i64 (l'.length : Int), .slice A l'.length c, .func (.func 26) #[] #[.pointer (some ⟨w.heap.size + 1 + 1 + 1 + 1, 0, none⟩)], .int .i64 (p.1 : Int), agg33 p.2, undef, undef, undef, undef, undef, undef, undef, undef, undef, undef, undef, undef, undef, undef, undef, undef, undef, undef, undef, undef, undef, undef, undef, undef, undef, undef, undef, undef, undef, undef, undef, undef, undef, undef, undef, undef, undef, undef, undef, undef, undef, undef, undef, undef], defers := [] })
    (fun p a' => fun s X Y row hs hg hr => by
      obtain ⟨Bx, h1, h2, h3⟩ := hs
      refine ⟨Bx, h1, (hg.block Bx (Array.getElem?_eq_some_iff.1 h2).1 (fun e => ?_)).trans h2, h3⟩
      obtain ⟨_, o, ho, hc⟩ := hr Bx e.symm
      rw [h2] at ho
      cases ho
      cases hc) ?assign ?body ?done ?stop
  case assign =>
    intro lp pre p W K hi hK
    dsimp only [encs, agg33]
    gi_wp2
    exact hK _ _ ((KeepsOthers.alloc _ _).from _) ((Below.refl _ W).alloc hi.2.size _) ⟨hi.1, hi.2.alloc hi.2.size _⟩ ⟨W.heap.size, hi.2.size, World.alloc_heap_new W _, rfl⟩
  case body =>
    rintro lp pre p a' W hlp ⟨rec, hrec⟩ ⟨hpre, hB⟩ ⟨Bx, hBx, hblk, rfl⟩ hlen
    have HBb := Aside0.mk hB
    obtain ⟨j, z⟩ := p
    simp only at hblk ⊢
    have e0 := blk_cell hblk 0
    have e1 := blk_cell hblk 1
    have e2 := blk_cell hblk 2
    have e3 := blk_cell hblk 3
    have e4 := blk_cell hblk 4
    have e5 := blk_cell hblk 5
    have e6 := blk_cell hblk 6
    have e7 := blk_cell hblk 7
    have e8 := blk_cell hblk 8
    have e9 := blk_cell hblk 9
    have e10 := blk_cell hblk 10
    have e11 := blk_cell hblk 11
    simp only [List.getElem?_toArray, List.getElem?_cons_zero, List.getElem?_cons_succ] at e0 e1 e2 e3 e4 e5 e6 e7 e8 e9 e10 e11
    have HP := Aside0.mk hpre
    have HBL := Aside0.mk hblk
    clear hpre hB hblk hrec
    gi_wp2_with fail
    refine ⟨trivial, ?_⟩
    refine (CallsIn.inRound lp (callsIn_wide.2 (watch_of.calls z.f0 z.f1 z.f2 z.f3 z.f4 z.f5 z.f6 z.f7 z.f8.f0 z.f8.f1 z.f9.f0 z.f9.f1 z.f6 z.f7 (acc z) _ (of_is z)))).mono ?_
    rintro e W3 ⟨rfl, hb⟩
    have HBW3 := Aside0.mk hb
    have HB3 := Aside0.mk (HBb.out.trans (hb.mono HBb.out.size))
    have hblk3 := blk_below HBL.out hb
    have hs3 := (HB3.out.block _ (by omega)).trans BS.out
    have R3 := Aside0.mk (R0.out.below HB3.out (by omega))
    have k8 := blk_cell hblk3 8
    have k9 := blk_cell hblk3 9
    have s0 := blk_cell hs3 0
    have s1 := blk_cell hs3 1
    simp only [List.getElem?_toArray, List.getElem?_cons_zero, List.getElem?_cons_succ] at k8 k9 s0 s1
    have hl3 : Bx < W3.heap.size := blk_lt hblk3
    have hsl : w.heap.size + 1 + 1 + 1 < W3.heap.size := blk_lt hs3
    have hsl2 : w.heap.size + 1 + 1 < W3.heap.size := by omega
    have hsl1 : w.heap.size + 1 < W3.heap.size := by omega
    have hsl0 : w.heap.size < W3.heap.size := by omega
    obtain ⟨d0, d1, d2, d3⟩ := R3.out.results
    have f0 := blk_frozen R3.out.b0 0
    have f1 := blk_frozen R3.out.b0 1
    have f2 := R3.out.b1.frozen
    have f3 := R3.out.b2.frozen
    clear e0 e1 e2 e3 e4 e5 e6 e7 e8 e9 e10 e11 hblk3 hs3 hb
    have hcont : ∀ o, ofSlot acc key (x, y) z = false → KeepsFrom W0.heap.size W (W3.alloc o) ∧ Below W0.heap.size W (W3.alloc o) ∧ (∀ p ∈ pre ++ [(j, z)], ofSlot acc key (x, y) p.2 = false) ∧ Below W0.heap.size W0 (W3.alloc o) := fun o hz => by
      refine ⟨(KeepsFrom.trans (Y := W3) ⟨HBW3.out.size, fun k o _ hk _ => (HBW3.out.block k (Array.getElem?_eq_some_iff.1 hk).1).trans hk⟩ ((KeepsOthers.alloc _ _).from _)), (HBW3.out.mono HBb.out.size).alloc HB3.out.size _, fun q hq => ?_, HB3.out.alloc HB3.out.size _⟩
      rcases List.mem_append.1 hq with hq | hq
      · exact HP.out q hq
      · rw [List.mem_singleton.1 hq]; exact hz
    have HCO := Aside0.mk hcont
    clear hcont
    have h53 : ∀ (x0 x1 y0 y1 : Int) (w : World), (Op.equalIn 10000 53 (.agg #[.int .i64 x0, .int .i64 x1]) (.agg #[.int .i64 y0, .int .i64 y1])).run Try.prog w = .ok (x0 == y0 && (x1 == y1)) w := fun x0 x1 y0 y1 w => eqA53 9998 w x0 y0 x1 y1
    cases hac : acc z with
    | false =>
      have HZ := Aside0.mk (show ofSlot acc key (x, y) z = false by unfold ofSlot; rw [hac]; rfl)
      clear hac
      gi_wp2
      exact HCO.out _ HZ.out
    | true =>
      cases hks : (z.f6 == x && (z.f7 == y)) with
      | false =>
        have HZ := Aside0.mk (show ofSlot acc key (x, y) z = false by
          unfold ofSlot
          rw [hac, Bool.true_and]
          exact decide_eq_false (fun e => by simp only [key, Prod.mk.injEq] at e; rw [e.1, e.2] at hks; simp at hks))
        clear hac
        gi_wp2
        exact HCO.out _ HZ.out
      | true =>
        have HZ := Aside0.mk (show ofSlot acc key (x, y) z = true by
          unfold ofSlot
          rw [hac, Bool.true_and]
          simp only [Bool.and_eq_true, beq_iff_eq] at hks
          exact decide_eq_true (by simp only [key, Prod.mk.injEq]; exact hks))
        clear hac
        gi_wp2
        exact ⟨KeepsFrom.trans (Y := W3) ⟨HBW3.out.size, fun k o _ hk _ => (HBW3.out.block k (Array.getElem?_eq_some_iff.1 hk).1).trans hk⟩ (((keeps_put3 W3 w.heap.size z.f8.f0 z.f8.f1 true 0).trans (KeepsOthers.alloc _ _)).from _),
          ⟨rfl, (j, z), pre, rfl, HZ.out, HP.out, (R3.out.put z.f8.f0 z.f8.f1 true 0).kept (World.grownBy_alloc _ _ none) (fun k e => by cases e)⟩, below_alloc (below_put3 (HBW.out.trans (HB3.out.mono HBW.out.size)) (Nat.le_refl _) z.f8.f0 z.f8.f1 true 0) _⟩
  case done =>
    rintro D xs W hD rfl ⟨hall, hB⟩ hK
    have hnone : back (ofSlot acc key (x, y)) l l'.length = none := back_none_of ha (fun j hj hj' => by
      have := hall (j, l'[j]) (mem_upto hj (by omega))
      rwa [HGET.out j hj hj'] at this)
    have HV := Aside0.mk (show value acc wr key val old (x, y) l l'.length = ((l.drop l'.length).find? (ofSlot acc key (x, y))).map (told wr val old) by unfold value; rw [hnone])
    have hq := cut33 A l.length c l'.length ha hc
    have hrd := Kd.C_drop (c := c) (Kd.C_below HR.out (HBW.out.trans (hB.mono HBW.out.size))) ha hc
    have hz : (if c = l'.length then A else A.map (·.add (l'.length * k33.sz))) = (if c = l'.length then A else A.map (·.add (l'.length * 12))) := rfl
    rw [hz] at hrd
    clear hz
    generalize (if c = l'.length then A else A.map (·.add (l'.length * 12))) = A2 at hq hrd
    obtain ⟨m, hm⟩ : ∃ m, m = l.drop l'.length := ⟨_, rfl⟩
    have hml : m.length = l.length - l'.length := by rw [hm, List.length_drop]
    rw [← hm] at hrd HV
    rw [← hml] at hq
    have HRD := Aside0.mk hrd
    have HBn := Aside0.mk hB
    have HKn := Aside0.mk hK
    have R1 := Aside0.mk (R0.out.below hB (by omega))
    have hs1 := (hB.block _ (by omega)).trans BS.out
    have HS1 := Aside0.mk hs1
    have hmm : m.length ≤ 200 := by omega
    have hDl : D < W.heap.size := (Array.getElem?_eq_some_iff.1 hK).1
    clear hrd hB hK hall hnone hml hm hs1
    gi_wp2
    gi_loopw [54] (fun i wr => ∃ k : Nat, k ≤ m.length ∧ i = .int .i64 k ∧ Aside0 (m.find? (ofSlot acc key (x, y)) = (m.drop k).find? (ofSlot acc key (x, y))) ∧ Aside0 (Below W.heap.size W wr)) (fun i _ => m.length - (intOf i).toNat)
    case atStart => exact ⟨0, Nat.zero_le _, rfl, ⟨rfl⟩, ⟨Below.refl _ _⟩⟩
    case round =>
      obtain ⟨k, hk, rfl, HF, HB⟩ := hrel
      by_cases hlt : k < m.length
      · obtain ⟨ad, rfl, h0, h1, h2, h3, h4, h5, h6, h7, h8, h9, h10, h11⟩ := cells12 HRD.out HB.out hlt
        have hf := HF.out
        rw [List.drop_eq_getElem_cons hlt, List.find?_cons] at hf
        have hof := of_is m[k]
        generalize m[k] = z at *
        have HFN := Aside0.mk hf
        have HOF := Aside0.mk hof
        have z2 : (k : Int) < (m.length : Int) := by omega
        clear hf hof
        gi_wp2_with fail
        refine ⟨trivial, ?_⟩
        refine (callsIn_wide.2 (watch_of.calls _ _ _ _ _ _ _ _ _ _ _ _ z.f6 z.f7 (acc z) _ HOF.out)).mono ?_
        rintro e W3 ⟨rfl, hb3⟩
        obtain ⟨g, hg⟩ : ∃ g, g = wr.heap.size := ⟨_, rfl⟩
        have hblk : W3.heap[g]? = some (.cells #[.int .i64 z.f0, .int .i64 z.f1, .int .i64 z.f2, .int .i64 z.f3, .int .i64 z.f4, .int .i64 z.f5, .int .i64 z.f6, .int .i64 z.f7, .int .i64 z.f8.f0, .int .i64 z.f8.f1, .int .i64 z.f9.f0, .int .i64 z.f9.f1] 33 (0, 0)) := by
          rw [hg]
          exact (hb3.block wr.heap.size (by simp)).trans (heap_alloc_new wr _)
        have HB3 := Aside0.mk (below_then (below_alloc HB.out _) (below_alloc HB.out _).size hb3)
        rw [← hg]
        have k0 := blk_cell hblk 0
        have k8 := blk_cell hblk 8
        have k9 := blk_cell hblk 9
        have k10 := blk_cell hblk 10
        have k11 := blk_cell hblk 11
        have hs3 := (HB3.out.block _ (blk_lt HS1.out)).trans HS1.out
        have s0 := blk_cell hs3 0
        have s1 := blk_cell hs3 1
        simp only [List.getElem?_toArray, List.getElem?_cons_zero, List.getElem?_cons_succ] at k0 k8 k9 k10 k11 s0 s1
        have hl3 : g < W3.heap.size := blk_lt hblk
        have hsl : w.heap.size + 1 + 1 + 1 < W3.heap.size := blk_lt hs3
        have hsl2 : w.heap.size + 1 + 1 < W3.heap.size := by omega
        have hsl1 : w.heap.size + 1 < W3.heap.size := by omega
        have hsl0 : w.heap.size < W3.heap.size := by omega
        have R3 := Aside0.mk (R1.out.below HB3.out (by have := blk_lt HS1.out; omega))
        obtain ⟨d0, d1, d2, d3⟩ := R3.out.results
        have f0 := blk_frozen R3.out.b0 0
        have f1 := blk_frozen R3.out.b0 1
        have f2 := R3.out.b1.frozen
        have f3 := R3.out.b2.frozen
        have HK3 := Aside0.mk ((HB3.out.block D hDl).trans HKn.out)
        have h53 : ∀ (x0 x1 y0 y1 : Int) (w : World), (Op.equalIn 10000 53 (.agg #[.int .i64 x0, .int .i64 x1]) (.agg #[.int .i64 y0, .int .i64 y1])).run Try.prog w = .ok (x0 == y0 && (x1 == y1)) w := fun x0 x1 y0 y1 w => eqA53 9998 w x0 y0 x1 y1
        clear h0 h1 h2 h3 h4 h5 h6 h7 h8 h9 h10 h11 hblk hs3 hb3 hg
        cases hac : acc z with
        | false =>
          have HZ := Aside0.mk (show m.find? (ofSlot acc key (x, y)) = (m.drop (k + 1)).find? (ofSlot acc key (x, y)) by
            rw [HFN.out]; unfold ofSlot; rw [hac]; rfl)
          clear hac
          gi_wp2
          go_roundw
          case rel => exact ⟨k + 1, by omega, by go_num, HZ, ⟨below_alloc HB3.out _⟩⟩
          case measure => simp [intOf]; omega
        | true =>
          cases hks : (z.f6 == x && (z.f7 == y)) with
          | false =>
            have HZ := Aside0.mk (show m.find? (ofSlot acc key (x, y)) = (m.drop (k + 1)).find? (ofSlot acc key (x, y)) by
              rw [HFN.out]
              have : ofSlot acc key (x, y) z = false := by
                unfold ofSlot
                rw [hac, Bool.true_and]
                exact decide_eq_false (fun e => by simp only [key, Prod.mk.injEq] at e; rw [e.1, e.2] at hks; simp at hks)
              rw [this])
            clear hac
            gi_wp2
            go_roundw
            case rel => exact ⟨k + 1, by omega, by go_num, HZ, ⟨below_alloc HB3.out _⟩⟩
            case measure => simp [intOf]; omega
          | true =>
            have HVZ := Aside0.mk (show value acc Wt.wr key val old (x, y) l l'.length = some (told Wt.wr val old z) by
              have : ofSlot acc key (x, y) z = true := by
                unfold ofSlot
                rw [hac, Bool.true_and]
                simp only [Bool.and_eq_true, beq_iff_eq] at hks
                exact decide_eq_true (by simp only [key, Prod.mk.injEq]; exact hks)
              rw [HV.out, HFN.out, this]
              rfl)
            clear hac
            cases hwr : Wt.wr z with
            | true =>
              have D4 : (z.f0 == 4) = true := hwr
              have HRV := Aside0.mk (show value acc Wt.wr key val old (x, y) l l'.length = some (z.f9.f0, z.f9.f1) by rw [HVZ.out]; unfold told; rw [hwr]; rfl)
              clear hwr
              gi_wp2
              have RF := (R3.out.put z.f9.f0 z.f9.f1 true 0).kept (World.grownBy_alloc _ (.cells #[.int .i64 z.f6, .int .i64 z.f7] 53) none) (fun k e => by cases e)
              have hK' := (((keeps_put3 W3 w.heap.size z.f9.f0 z.f9.f1 true 0).trans (KeepsOthers.alloc _ (.cells #[.int .i64 z.f6, .int .i64 z.f7] 53)))).same D _ HK3.out rfl
              refine ⟨by simp, .inl ⟨_, _, rfl, run_takeDeferred hK', ?_⟩⟩
              obtain ⟨d0, d1, d2, d3⟩ := (RF.kept (grownBy_putObj' _ D (.deferred none)) (fun r e => by cases e; exact ⟨_, hK', rfl⟩)).results
              unfold put3 at d0 d1 d2 d3
              refine ⟨.tuple #[.agg #[.int .i64 z.f9.f0, .int .i64 z.f9.f1], .bool true, .int .i64 0], ?_, ?_, (below_alloc (below_put3 (HBW.out.trans ((HBn.out.trans (HB3.out.mono HBn.out.size)).mono HBW.out.size)) (Nat.le_refl _) z.f9.f0 z.f9.f1 true 0) _).trans (belowK_b (w := w) (Nat.le_refl _) _ D _ _ (by omega) hK' rfl rfl)⟩
              · simp [results, Try.f11, go_sem, d0, d1, d2, d3]
              · rw [HRV.out]; rfl
            | false =>
              have D4 : (z.f0 == 4) = false := hwr
              have HRV := Aside0.mk (show value acc Wt.wr key val old (x, y) l l'.length = some (z.f8.f0, z.f8.f1) by rw [HVZ.out]; unfold told; rw [hwr]; rfl)
              clear hwr
              gi_wp2
              have RF := (R3.out.put z.f8.f0 z.f8.f1 true 0).kept (World.grownBy_alloc _ (.cells #[.int .i64 z.f6, .int .i64 z.f7] 53) none) (fun k e => by cases e)
              have hK' := (((keeps_put3 W3 w.heap.size z.f8.f0 z.f8.f1 true 0).trans (KeepsOthers.alloc _ (.cells #[.int .i64 z.f6, .int .i64 z.f7] 53)))).same D _ HK3.out rfl
              refine ⟨by simp, .inl ⟨_, _, rfl, run_takeDeferred hK', ?_⟩⟩
              obtain ⟨d0, d1, d2, d3⟩ := (RF.kept (grownBy_putObj' _ D (.deferred none)) (fun r e => by cases e; exact ⟨_, hK', rfl⟩)).results
              unfold put3 at d0 d1 d2 d3
              refine ⟨.tuple #[.agg #[.int .i64 z.f8.f0, .int .i64 z.f8.f1], .bool true, .int .i64 0], ?_, ?_, (below_alloc (below_put3 (HBW.out.trans ((HBn.out.trans (HB3.out.mono HBn.out.size)).mono HBW.out.size)) (Nat.le_refl _) z.f8.f0 z.f8.f1 true 0) _).trans (belowK_b (w := w) (Nat.le_refl _) _ D _ _ (by omega) hK' rfl rfl)⟩
              · simp [results, Try.f11, go_sem, d0, d1, d2, d3]
              · rw [HRV.out]; rfl
      · have hk' : k = m.length := by omega
        subst hk'
        have HRV := Aside0.mk (show value acc Wt.wr key val old (x, y) l l'.length = none by rw [HV.out, HF.out, List.drop_length]; rfl)
        have R3 := Aside0.mk (R1.out.below HB.out (by have := blk_lt HS1.out; omega))
        obtain ⟨d0, d1, d2, d3⟩ := R3.out.results
        have f0 := blk_frozen R3.out.b0 0
        have f1 := blk_frozen R3.out.b0 1
        have f2 := R3.out.b1.frozen
        have f3 := R3.out.b2.frozen
        have HK3 := Aside0.mk ((HB.out.block D hDl).trans HKn.out)
        gi_wp2
        have RF := R3.out.put 0 0 false 0
        have hK' := (keeps_put3 wr w.heap.size 0 0 false 0).same D _ HK3.out rfl
        refine ⟨by simp, .inl ⟨_, _, rfl, run_takeDeferred hK', ?_⟩⟩
        clear d0 d1 d2 d3
        obtain ⟨d0, d1, d2, d3⟩ := (RF.kept (grownBy_putObj' _ D (.deferred none)) (fun r e => by cases e; exact ⟨_, hK', rfl⟩)).results
        unfold put3 at d0 d1 d2 d3
        refine ⟨.tuple #[.agg #[.int .i64 0, .int .i64 0], .bool false, .int .i64 0], ?_, ?_, (below_put3 (HBW.out.trans ((HBn.out.trans (HB.out.mono HBn.out.size)).mono HBW.out.size)) (Nat.le_refl _) 0 0 false 0).trans (belowK_b (w := w) (Nat.le_refl _) _ D _ _ (by omega) hK' rfl rfl)⟩
        · simp [results, Try.f11, go_sem, d0, d1, d2, d3]
        · rw [HRV.out]; rfl
  case stop =>
    rintro D cc pre W hD ⟨k, hk, rfl⟩ ⟨⟨rfl, p, pre', hpre, hp, hall, hres⟩, hB⟩ hK
    have HRES := Aside0.mk (show value acc wr key val old (x, y) l l'.length = some (p.2.f8.f0, p.2.f8.f1) by
      obtain ⟨k', rfl⟩ : ∃ k', k = k' + 1 := ⟨k - 1, by
        rcases Nat.eq_zero_or_pos k with e | e
        · subst e; simp [upto] at hpre
        · omega⟩
      rw [upto_succ] at hpre
      obtain ⟨e1, e2⟩ := List.append_inj' hpre rfl
      simp only [List.cons.injEq, and_true] at e2
      subst e1
      have hj : l'.length - 1 - k' < l'.length := by omega
      have hj2 : l'.length - 1 - k' < l.length := by omega
      have e3 : p = (l'.length - 1 - k', l'[l'.length - 1 - k']) := by rw [← e2]; unfold bk; simp [List.getD_eq_getElem?_getD, hj]
      subst e3
      simp only at hp ⊢
      rw [HGET.out _ hj (by omega)] at hp ⊢
      have hb : back (ofSlot acc key (x, y)) l l'.length = some (l'.length - 1 - k') := back_stop (by omega) hp hj ha (fun j h1 h2 h3 => by
        have := hall (j, l'[j]) (mem_upto h2 (by omega))
        rwa [HGET.out j h2 h3] at this)
      unfold value
      rw [hb]
      simp only [List.getElem?_eq_getElem hj2]
      rfl)
    have HBn := Aside0.mk hB
    have HKn := Aside0.mk hK
    have R1 := Aside0.mk hres
    clear hres hB hK hall hp hpre
    gi_wp2
    refine ⟨by simp, .inl ⟨_, _, rfl, run_takeDeferred HKn.out, ?_⟩⟩
    obtain ⟨d0, d1, d2, d3⟩ := (R1.out.kept (grownBy_putObj' _ D (.deferred none)) (fun r e => by cases e; exact ⟨_, HKn.out, rfl⟩)).results
    refine ⟨.tuple #[.agg #[.int .i64 p.2.f8.f0, .int .i64 p.2.f8.f1], .bool true, .int .i64 0], ?_, ?_, HBn.out.trans (belowK_b (w := w) (Nat.le_refl _) _ D _ _ (by omega) HKn.out rfl rfl)⟩
    · simp [results, Try.f11, go_sem, d0, d1, d2, d3]
    · rw [HRES.out]; rfl
end Go.Proofs.Ytaeamehngbfneab.Wt
