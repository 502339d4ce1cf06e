/- slices.Backward over pairs: the iterator's contract. into: all places that lead to one: its walk. -/
import Derived.Test.YtginlhengebgaaaRcC
import Derived.RangeFuncBox
import Derived.RangeFuncFrom
import Derived.RangeFuncLeaves
import Derived.RangeFuncCalls
import Derived.RangeFuncNested
import Derived.Shelf.Abstract
import Derived.OwnWalkIn
import Derived.TacticsInMore
import Derived.LoopNIn
import Derived.LoopIn
import Derived.Test.YtginlhengebgaaaShelf
import Derived.Laws.MakeOwn
import Derived.Sort.OwnSortedInts
namespace Go.Proofs.Ytginlhengebgaaa.Ck
open Go Go.RowKit Go.Maps Go.Shelf Go.Proofs.YtginlhengebgaaaW Go.Proofs.YtginlhengebgaaaW.PrintWords Go.Proofs.YtginlhengebgaaaW.PrintLast Go.Proofs.YtginlhengebgaaaW.PrintMore Go.Proofs.Ytginlhengebgaaa.PLockupEither Go.Proofs.Ytginlhengebgaaa.Bs Go.Proofs.Ytginlhengebgaaa.RegionVal Go.Proofs.Ytginlhengebgaaa.Lk
open Go.Lib hiding intOf
attribute [local go_sem] Oper.semAt_some
set_option linter.unusedVariables false
set_option linter.unusedSimpArgs false
/-- what comes in round k -/
def bk (l : List S32) (k : Nat) : Nat × S32 := (l.length - 1 - k, l.getD (l.length - 1 - k) z32)
def upto (l : List S32) (k : Nat) : List (Nat × S32) := (List.range k).map (bk l)
theorem upto_succ (l : List S32) (k : Nat) : upto l (k + 1) = upto l k ++ [bk l k] := by simp [upto, List.range_succ]
theorem upto_length (l : List S32) (k : Nat) : (upto l k).length = k := by simp [upto]
def encs (x : Nat × S32) : Array Value := #[.int .i64 (x.1 : Int), .agg #[.int .i64 x.2.f0, .int .i64 x.2.f1]]
/-- the iterator's box stays, and all that lies below -/
def KB (B Bs : Nat) (v : Value) (W W' : World) : Prop := Below B W W' ∧ (Boxed W Bs 28 v → Boxed W' Bs 28 v)
theorem KB_t {B Bs : Nat} {v : Value} {X Y Z : World} (h : KB B Bs v X Y) (k : KB B Bs v Y Z) : KB B Bs v X Z := ⟨Below.trans h.1 k.1, fun x => k.2 (h.2 x)⟩
theorem KB_b {B Bs : Nat} {v : Value} {w : World} (hB : B ≤ w.heap.size) (W : World) (l : Nat) (o o' : Obj) (hl0 : w.heap.size ≤ l) (hl : W.heap[l]? = some o) (hc : o.isCells = false) (hw : o.isWalk = false) : KB B Bs v W (W.putObj l o') :=
  ⟨belowK_b hB W l o o' hl0 hl hc hw, fun h => h.kept (grownBy_putObj' W l o') (fun e => by cases e; rw [show W.heap[Bs]? = _ from h] at hl; cases hl; cases hc)⟩
set_option maxRecDepth 100000 in
set_option maxHeartbeats 4000000 in
theorem backward1_in (F : Fence) (n : Nat) (h77 : F.fn 77) (hro : F.round = none) (hn : 1 ≤ n) (lp Bs : Nat) (A : Option Addr) (c : Nat) (l : List S32) (w0 : World) (hl : l.length ≤ 100000) (hr : Kd.C k32 w0 A l.length l)
    (J Jx : List (Nat × S32) → World → Prop)
    (hY : ∀ pre x W, J pre W → pre.length < l.length → YieldAt F (n - 1) Try.prog lp (encs x) W fun e W' =>
      (e = .returned (.bool true) ∧ J (pre ++ [x]) W' ∧ KB w0.heap.size Bs (.slice A l.length c) W W') ∨ (e = .returned (.bool false) ∧ Jx (pre ++ [x]) W'))
    (W : World) (hW : Below w0.heap.size w0 W) (hBx : Boxed W Bs 28 (.slice A l.length c)) (h0 : J [] W) :
    CallsIn F n Try.prog 77 #[.func (.yield lp) #[] #[], .pointer (some ⟨Bs, 0, none⟩)] W fun e W' => (∃ v, e = .returned v) ∧
      (J (upto l l.length) W' ∨ ∃ k, k ≤ l.length ∧ Jx (upto l k) W') := by
  have hBW : W.cell? ⟨Bs, 0, none⟩ = some (.slice A l.length c) := hBx.cell
  have HR := Aside0.mk hr
  have HY := Aside0.mk hY
  have HW := Aside0.mk hW
  have H0 := Aside0.mk h0
  have HBX := Aside0.mk hBx
  clear hr hY hW h0 hBx
  refine callsIn_of_wp Try.func77 rfl h77 ?_ hro
  simp only [Try.ntmps77, List.size_toArray, List.length_cons, List.length_nil, Nat.reduceAdd, Nat.reduceSub, Array.replicate_succ, Array.replicate_zero, List.push_toArray, List.append_toArray, List.nil_append, List.cons_append]
  gi_wp2
  gi_loopw [3] (fun i wr => ∃ k : Nat, k ≤ l.length ∧ i = .int .i64 ((l.length : Int) - 1 - (k : Int)) ∧ Aside0 (J (upto l k) wr) ∧ Aside0 (Below w0.heap.size w0 wr) ∧ Aside0 (Boxed wr Bs 28 (.slice A l.length c))) (fun i _ => (intOf i + 1).toNat)
  case atStart => exact ⟨0, Nat.zero_le _, by simp, H0, HW, HBX⟩
  case round =>
    clear hBW HW H0 HBX
    obtain ⟨k, hk, rfl, HJ, HB, HX⟩ := hrel
    have hBr : wr.cell? ⟨Bs, 0, none⟩ = some (.slice A l.length c) := HX.out.cell
    by_cases hlt : k < l.length
    · obtain ⟨j, hjk⟩ : ∃ j, l.length - 1 - k = j := ⟨_, rfl⟩
      have hj : j < l.length := by omega
      obtain ⟨ad, rfl, h0, h1⟩ := at32 (Kd.C_below HR.out HB.out) j hj
      obtain ⟨fn, tmps, assign, body, hy, hR⟩ := HY.out _ (bk l k) wr HJ.out (by rw [upto_length]; exact hlt)
      have hbk : bk l k = (j, l[j]) := by unfold bk; rw [hjk]; simp [List.getD_eq_getElem?_getD, hj]
      have HUP := Aside0.mk (show upto l (k + 1) = upto l k ++ [(j, l[j])] by rw [upto_succ, hbk])
      rw [hbk] at hy hR
      have hji : (l.length : Int) - 1 - (k : Int) = (j : Int) := by omega
      have HJI := Aside0.mk hji
      rw [hji]
      clear hji hjk hbk
      have HR' := Aside0.mk hR
      clear hR
      generalize l[j] = x at h0 h1 hy HR' HUP
      have z1 : (j : Int) < (l.length : Int) := by omega
      dsimp only [encs] at hy
      gi_wp2
      refine HR'.out.mono ?_
      rintro e W3 (⟨rfl, hJ3, hk3⟩ | ⟨rfl, hJx3⟩)
      · have HJ3 := Aside0.mk (show J (upto l (k + 1)) W3 by rw [HUP.out]; exact hJ3)
        have HB3 := Aside0.mk (Below.trans HB.out hk3.1)
        have HX3 := Aside0.mk (hk3.2 HX.out)
        clear hJ3 hk3
        gi_wp2
        go_roundw
        case rel => exact ⟨k + 1, by omega, by have := HJI.out; rw [show (l.length : Int) - 1 - ((k + 1 : Nat) : Int) = (j : Int) - 1 by omega], HJ3, HB3, HX3⟩
        case measure => simp [intOf]
      · have HJ3 := Aside0.mk (show Jx (upto l (k + 1)) W3 by rw [HUP.out]; exact hJx3)
        clear hJx3
        gi_wp2
        refine bodyPost_ret (results_none rfl _ _ _) rfl ?_
        exact ⟨⟨_, rfl⟩, .inr ⟨k + 1, by omega, HJ3.out⟩⟩
    · have hk' : k = l.length := by omega
      subst hk'
      have hneg : (l.length : Int) - 1 - (l.length : Int) = -1 := by omega
      rw [hneg]
      clear hneg
      gi_wp2
      go_end0
      exact ⟨⟨_, rfl⟩, .inl HJ.out⟩
/-- slices.Backward(l): the slice is boxed, the function value captures the box -/
theorem backward_in (F : Fence) (n : Nat) (h58 : F.fn 58) (hro : F.round = none) (A : Option Addr) (len cap : Nat) (w : World) :
    CallsIn F n Try.prog 58 #[.slice A len cap] w fun e w' => e = .returned (.func (.func 77) #[] #[.pointer (some ⟨w.heap.size, 0, none⟩)]) ∧ w.alloc (.cells #[.slice A len cap] 28) = w' := by
  refine callsIn_of_wp Try.func58 rfl h58 ?_ hro
  simp only [Try.ntmps58, List.size_toArray, List.length_cons, List.length_nil, Nat.reduceAdd, Nat.reduceSub, Array.replicate_succ, Array.replicate_zero, List.push_toArray, List.append_toArray, List.nil_append, List.cons_append]
  gi_wp2
  go_ret
  exact ⟨rfl, rfl⟩
theorem backward_stops (F : Fence) (n : Nat) (h77 : F.fn 77) (hro : F.round = none) (hn : 1 ≤ n) (Bs : Nat) (A : Option Addr) (c : Nat) (l : List S32) (w0 W0 : World) (hl : l.length ≤ 100000) (hr : Kd.C k32 w0 A l.length l) (hb : Below w0.heap.size w0 W0) (hBx : Boxed W0 Bs 28 (.slice A l.length c)) :
    SeqStopsK F n Try.prog 77 #[.pointer (some ⟨Bs, 0, none⟩)] encs (KB w0.heap.size Bs (.slice A l.length c)) (fun ys => ys = upto l l.length) (fun pre => ∃ k, k ≤ l.length ∧ pre = upto l k) l.length W0 := fun lp J Jx W hW _ _ hY h0 =>
  (backward1_in F n h77 hro hn lp Bs A c l w0 hl hr J Jx hY W (below_then hb hb.size hW) ((hW.block _ hBx.lt).trans hBx) h0).mono fun e W' ⟨he, h⟩ => ⟨he, h.elim (fun h => .inl ⟨_, rfl, h⟩) (fun ⟨k, hk, h⟩ => .inr ⟨_, ⟨k, hk, rfl⟩, h⟩)⟩
theorem upto_all (l : List S32) : (upto l l.length).map (·.2) = l.reverse := by
  apply List.ext_getElem
  · simp [upto]
  · intro i h1 h2
    simp [upto] at h1
    simp [upto, bk, List.getD_eq_getElem?_getD, show l.length - 1 - i < l.length by omega]
end Go.Proofs.Ytginlhengebgaaa.Ck
namespace Go.Proofs.Ytginlhengebgaaa.Ck
open Go Go.RowKit Go.Maps Go.Shelf Go.Proofs.YtginlhengebgaaaW Go.Proofs.YtginlhengebgaaaW.PrintWords Go.Proofs.YtginlhengebgaaaW.PrintLast Go.Proofs.YtginlhengebgaaaW.PrintMore Go.Proofs.Ytginlhengebgaaa.PLockupEither Go.Proofs.Ytginlhengebgaaa.Bs Go.Proofs.Ytginlhengebgaaa.RegionVal Go.Proofs.Ytginlhengebgaaa.Lk
open Go.Lib hiding intOf
attribute [local go_sem] Oper.semAt_some
set_option linter.unusedVariables false
set_option linter.unusedSimpArgs false
theorem contains_any (l : List Int) (n : Int) (hb : l.length ≤ 100000) : slices_Contains_int_int.f (0 + l.length + 1) l n = some (decide (n ∈ l)) := by
  obtain ⟨p, h1, h2, _, _⟩ := index_l0 l n hb l.length 0 0 (by omega)
  have h1' : slices_Index_int_int.f (0 + l.length + 1) l n = some p := h1
  unfold slices_Contains_int_int.f
  rw [h1']
  dsimp only [Option.bind]
  exact congrArg some (decide_eq_decide.2 h2)
theorem has_calls (W : World) (A : Option Addr) (c : Nat) (O : List Int) (x : Int) (b : Bool) (hr : Kd.C kI W A O.length O) (hc : O.length ≤ c) (hl : O.length ≤ 100000) (hb : decide (x ∈ O) = b) :
    Calls Try.prog 30 #[.slice A O.length c, .int .i64 x] W fun e w' => e = .returned (.bool b) ∧ Below W.heap.size W w' :=
  (slices_Contains_int_int.calls _ A c O x b W hr hc (by rw [contains_any O x hl, hb])).mono fun e w' h => ⟨h.1, h.2.below⟩
def outs (k : Int) (pre : List (Nat × S32)) : List Int := pre.foldl (fun out x => if x.2.f1 ∈ out ∧ x.2.f0 ∉ out then out ++ [x.2.f0] else out) [k]
theorem outs_snoc (k : Int) (pre : List (Nat × S32)) (x : Nat × S32) : outs k (pre ++ [x]) = if x.2.f1 ∈ outs k pre ∧ x.2.f0 ∉ outs k pre then outs k pre ++ [x.2.f0] else outs k pre := by
  unfold outs; rw [List.foldl_append]; rfl
theorem outs_len' (k : Int) (n : Nat) : ∀ (pre : List (Nat × S32)), pre.length = n → 0 < (outs k pre).length ∧ (outs k pre).length ≤ n + 1 := by
  induction n with
  | zero => intro pre h; obtain rfl := List.eq_nil_of_length_eq_zero h; exact ⟨by simp [outs], by simp [outs]⟩
  | succ n ih =>
    intro pre h
    obtain ⟨p, x, rfl⟩ : ∃ p x, pre = p ++ [x] := ⟨pre.dropLast, pre.getLast (by rintro rfl; cases h), (List.dropLast_concat_getLast _).symm⟩
    have h1 := ih p (by simpa using h)
    rw [outs_snoc]
    split
    · simp; omega
    · omega
theorem outs_len (k : Int) (pre : List (Nat × S32)) : 0 < (outs k pre).length ∧ (outs k pre).length ≤ pre.length + 1 := outs_len' k pre.length pre rfl
theorem outs_all (l : List S32) (k : Int) : outs k (upto l l.length) = intoS l [k] := by
  have h : outs k (upto l l.length) = ((upto l l.length).map (·.2)).foldl (fun out (p : S32) => if p.f1 ∈ out ∧ p.f0 ∉ out then out ++ [p.f0] else out) [k] := by
    rw [List.foldl_map]; rfl
  rw [h, upto_all, List.foldl_reverse]
  rfl
/-- slices.Sort of a row of one's own -/
theorem sort_ownG {w : World} {B g c : Nat} {xs : List Int} (HO : w.ownsRow B 3 1 (.slice (some ⟨g, 0, none⟩) xs.length c) xs.length (nums .i64 xs)) (hl : xs.length < 4611686018427387904) :
    Calls Try.prog 59 #[.slice (some ⟨g, 0, none⟩) xs.length c] w fun e w' => e = .returned (.tuple #[]) ∧
      w'.ownsRow B 3 1 (.slice (some ⟨g, 0, none⟩) xs.length c) xs.length (nums .i64 (xs.mergeSort leI)) ∧ w.grownBy w' (some g) := by
  rcases HO.2 with ⟨e0, _⟩ | ⟨g', cap, cur, e, hB, hgb, h1, h2, h3, h4⟩
  · cases e0
  simp only [Value.slice.injEq, Option.some.injEq, Addr.mk.injEq, true_and, and_true] at e
  obtain ⟨rfl, rfl⟩ := e
  have hH := holds_of_blockI hgb (by rw [Nat.mul_one] at h4; exact h4)
  refine (Try.slices_Sort_int g 0 c xs w hH (Array.getElem?_eq_some_iff.1 hgb).1 hl).mono ?_
  rintro e w' ⟨rfl, n, os, rfl⟩
  exact ⟨rfl, ownsRow_sortedI (ts := xs.mergeSort leI) (List.length_mergeSort _) hB hgb h1 h2 h3, grownBy_sortedI _⟩
set_option maxHeartbeats 8000000 in
set_option maxRecDepth 100000 in
theorem into_calls (w : World) (A : Option Addr) (c : Nat) (l : List S32) (k : Int) (hr : Kd.C k32 w A l.length l) (hl : l.length ≤ 99000) :
    Calls Try.prog 44 #[.slice A l.length c, .int .i64 k] w fun e w' => ∃ v, e = .returned v ∧ w'.ownsRow w.heap.size 3 1 v (intoF l k).length (nums .i64 (intoF l k)) ∧ Below w.heap.size w w' := by
  obtain ⟨i0, hi, hz0, hz1, hz2⟩ := info_parts Bs.infoInt
  have HR := Aside0.mk hr
  clear hr
  have h1 : 1 ≤ 5 := by omega
  refine (callsIn_wide (n := 5)).1 ?_
  refine callsIn_of_wp_marks Try.func44 rfl trivial ?_ rfl
  simp only [Try.ntmps44, List.size_toArray, List.length_cons, List.length_nil, Nat.reduceAdd, Nat.reduceSub, Array.replicate_succ, Array.replicate_zero, List.push_toArray, List.append_toArray, List.nil_append, List.cons_append]
  gi_wp2_with (first | (refine ⟨trivial, ?_⟩; gi_at_call 58; refine (backward_in Fence.wide _ trivial rfl _ _ _ _).mono ?_; rintro e w1 ⟨rfl, rfl⟩) | fail)
  generalize hW0 : World.alloc _ (.cells #[.slice A l.length c] 28) = W0
  have o1 := own_lit w [k] (by simp)
  have n2 := World.alloc_heap_new (w.alloc (.cells #[.int .i64 k] 3)) (.cells #[.slice (some ⟨w.heap.size, 0, none⟩) 1 1] 24)
  have n3 := World.alloc_heap_new ((w.alloc (.cells #[.int .i64 k] 3)).alloc (.cells #[.slice (some ⟨w.heap.size, 0, none⟩) 1 1] 24)) (.cells #[.slice A l.length c] 28)
  simp only [World.size_alloc] at n2 n3
  have hsz : W0.heap.size = w.heap.size + 3 := by rw [← hW0]; simp
  have HO0 := Aside0.mk (show W0.ownsRow w.heap.size 3 1 (.slice (some ⟨w.heap.size, 0, none⟩) 1 1) (outs k []).length (nums .i64 (outs k [])) by
    rw [← hW0]; exact World.ownsRow.alloc (World.ownsRow.alloc o1 _) _)
  have HB5 := Aside0.mk (show Boxed W0 (w.heap.size + 1) 24 (.slice (some ⟨w.heap.size, 0, none⟩) (outs k []).length 1) by
    rw [← hW0]; exact (Below.heap_alloc _ _ _ (by simp)).trans n2)
  have HBS := Aside0.mk (show Boxed W0 (w.heap.size + 1 + 1) 28 (.slice A l.length c) by rw [← hW0]; exact n3)
  have HBW := Aside0.mk (show Below w.heap.size w W0 by
    rw [← hW0]; exact below_alloc (below_alloc (below_alloc (Below.refl _ _) _) _) _)
  have HR0 := Aside0.mk (show Kd.C k32 W0 A l.length l from Kd.C_below HR.out HBW.out)
  clear o1 n2 n3 hW0
  refine wpIn_rangeFunc_ownH (F := Fence.wide) (n := 5) rfl (by omega) (gf := 77) (lb := #[.pointer (some ⟨w.heap.size + 1 + 1, 0, none⟩)]) rfl trivial (enters_of Try.func77 (by kernel_rfl) rfl)
    (backward_stops Fence.wide 4 trivial rfl (by omega) (w.heap.size + 1 + 1) A c l w W0 (by omega) HR.out HBW.out HBS.out) KB_t (fun W l o o' h1 h2 h3 h4 => KB_b (w := W0) (by omega) W l o o' h1 h2 h3 h4) (Below.refl _ _) (fun _ => rfl)
    (fun pre W => (∃ v, Boxed W (w.heap.size + 1) 24 v ∧ W.ownsRow w.heap.size 3 1 v (outs k pre).length (nums .i64 (outs k pre)) ∧ True) ∧ Boxed W (w.heap.size + 1 + 1) 28 (.slice A l.length c) ∧ Below w.heap.size w W)
    (fun _ _ _ => False)
    (OwnFrom.and (Own.from (holdsRow_own w.heap.size (w.heap.size + 1) 24 3 1 (fun pre => (outs k pre).length) (fun pre => nums .i64 (outs k pre)) (fun _ _ => True)) _) (OwnFrom.and ((boxed_own _ _ (fun (_ : List (Nat × S32)) => .slice A l.length c)).from _) (ownFrom_below (Nat.le_refl _) (by omega))))
    (fun _ _ _ _ _ hs _ _ => hs)
    ⟨⟨_, HB5.out, HO0.out, trivial⟩, HBS.out, HBW.out⟩
    (fun p a' W => ∃ Bx, W.heap[Bx]? = some (.cells #[.int .i64 p.2.f0, .int .i64 p.2.f1] 32 (0, 0)) ∧
      a' = { tmps := #[.slice A l.length c, .int .i64 k, undef, undef, .slice none 0 0, .pointer (some ⟨w.heap.size + 1, 0, none⟩), undef, .pointer (some ⟨Bx, 0, none⟩), .int .i64 k, .slice (some ⟨w.heap.size, 0, none⟩) 1 1, .slice A l.length c,
        .func (.func 77) #[] #[.pointer (some ⟨w.heap.size + 1 + 1, 0, none⟩)], .int .i64 (p.1 : Int), .agg #[.int .i64 p.2.f0, .int .i64 p.2.f1], undef, undef, undef, undef, undef, undef, undef, undef, undef, undef, undef, undef, undef, undef, undef, undef, undef, undef, undef], defers := [] })
    (fun p a' => fun s X Y row hs hg hr => by
      obtain ⟨Bx, h2, h3⟩ := hs
      refine ⟨Bx, (hg.block Bx (Array.getElem?_eq_some_iff.1 h2).1 (fun e => ?_)).trans h2, h3⟩
      obtain ⟨_, o, ho, hc⟩ := hr Bx e.symm
      rw [h2] at ho
      cases ho
      cases hc) ?assign ?body ?done ?stop
  case assign =>
    intro lp pre p W K hi hK
    dsimp only [encs]
    gi_wp2
    refine hK _ _ ((KeepsOthers.alloc _ _).from _) ⟨(Below.refl _ W).alloc hi.2.2.size _, fun h => h.alloc _⟩ ?_ ⟨W.heap.size, World.alloc_heap_new W _, rfl⟩
    obtain ⟨⟨v, h1, h2, _⟩, h3, h4⟩ := hi
    exact ⟨⟨v, h1.alloc _, World.ownsRow.alloc h2 _, trivial⟩, h3.alloc _, h4.alloc h4.size _⟩
  case body =>
    rintro lp pre p a' W hlp ⟨rec, hrec⟩ ⟨⟨v, hv, hO, _⟩, hbs, hB⟩ ⟨Bx, hBx, rfl⟩ hlen
    obtain ⟨j, z⟩ := p
    simp only at hBx ⊢
    obtain ⟨O, hOe⟩ : ∃ O, O = outs k pre := ⟨_, rfl⟩
    have hOl := outs_len k pre
    have hsn := outs_snoc k pre (j, z)
    rw [← hOe] at hO hOl hsn
    simp only at hsn
    obtain ⟨g1, c1, rfl, _, hc1, _, hAt⟩ := At.of_own hO hOl.1
    have hrd := hAt.reads (by have := hOl.2; omega)
    have HSN := Aside0.mk hsn
    have HO := Aside0.mk hO
    have HV := Aside0.mk hv
    have HBS1 := Aside0.mk hbs
    have HB1 := Aside0.mk hB
    have HOL := Aside0.mk hOl
    have HLEN := Aside0.mk hlen
    have HRD := Aside0.mk (C_int hrd)
    have hcell := hv.cell
    have e0 := blk_cell hBx 0
    have e1 := blk_cell hBx 1
    simp only [List.getElem?_toArray, List.getElem?_cons_zero, List.getElem?_cons_succ] at e0 e1
    have HC1 := Aside0.mk hc1
    clear hsn hO hv hbs hB hOl hlen hrd hc1 hOe hrec hAt
    obtain ⟨b1, hb1⟩ : ∃ b, decide (z.f1 ∈ O) = b := ⟨_, rfl⟩
    obtain ⟨b2, hb2⟩ : ∃ b, decide (z.f0 ∈ O) = b := ⟨_, rfl⟩
    have HB1' := Aside0.mk hb1
    have HB2' := Aside0.mk hb2
    clear hb1 hb2
    gi_wp2_with fail
    refine ⟨trivial, ?_⟩
    refine (CallsIn.inRound lp (callsIn_wide.2 (has_calls W (some ⟨g1, 0, none⟩) c1 O z.f1 b1 HRD.out HC1.out (by have := HOL.out; have := HLEN.out; omega) HB1'.out))).mono ?_
    rintro e W3 ⟨rfl, hb⟩
    have hfin : ∀ W' : World, Below W.heap.size W W' → outs k (pre ++ [(j, z)]) = O → KeepsFrom W0.heap.size W W' ∧ KB w.heap.size (w.heap.size + 1 + 1) (.slice A l.length c) W W' ∧ ((∃ v, Boxed W' (w.heap.size + 1) 24 v ∧ W'.ownsRow w.heap.size 3 1 v (outs k (pre ++ [(j, z)])).length (nums .i64 (outs k (pre ++ [(j, z)]))) ∧ True) ∧ Boxed W' (w.heap.size + 1 + 1) 28 (.slice A l.length c) ∧ Below w.heap.size w W') := fun W' hb he => by
      rw [he]
      have hg := gb_below none hb
      exact ⟨⟨hb.size, fun q o _ hq _ => (hb.block q (Array.getElem?_eq_some_iff.1 hq).1).trans hq⟩, ⟨hb.mono HB1.out.size, fun h => h.kept hg (by simp)⟩, ⟨_, HV.out.kept hg (by simp), HO.out.kept hg (.inr (by simp [Value.ownBlock])), trivial⟩, HBS1.out.kept hg (by simp), HB1.out.trans (hb.mono HB1.out.size)⟩
    have HFIN := Aside0.mk hfin
    have HB3 := Aside0.mk hb
    have hv3 := HV.out.kept (gb_below none hb) (by simp)
    have c3 := hv3.cell
    have hx3 : W3.heap[Bx]? = some (.cells #[.int .i64 z.f0, .int .i64 z.f1] 32 (0, 0)) := (hb.block Bx (Array.getElem?_eq_some_iff.1 hBx).1).trans hBx
    have HX3 := Aside0.mk hx3
    have q0 := blk_cell hx3 0
    simp only [List.getElem?_toArray, List.getElem?_cons_zero] at q0
    clear hb hv3 hfin hcell e0 e1 hBx hx3
    cases b1 with
    | false =>
      gi_wp2
      refine ⟨trivial, ?_⟩
      gi_wp2
      exact HFIN.out _ HB3.out (by rw [HSN.out, if_neg (fun h => absurd h.1 (of_decide_eq_false HB1'.out))])
    | true =>
      gi_wp2_with fail
      refine ⟨trivial, ?_⟩
      refine (CallsIn.inRound lp (callsIn_wide.2 (has_calls W3 (some ⟨g1, 0, none⟩) c1 O z.f0 b2 (Kd.C_below HRD.out HB3.out) HC1.out (by have := HOL.out; have := HLEN.out; omega) HB2'.out))).mono ?_
      rintro e W4 ⟨rfl, hb⟩
      have HB4 := Aside0.mk (HB3.out.trans (hb.mono HB3.out.size))
      cases b2 with
      | true =>
        clear hb
        gi_wp2
        exact HFIN.out _ HB4.out (by rw [HSN.out, if_neg (fun h => absurd (of_decide_eq_true HB2'.out) h.2)])
      | false =>
        have hg4 := gb_below none HB4.out
        have HV4 := Aside0.mk (HV.out.kept hg4 (by simp))
        have HO4 := Aside0.mk (HO.out.kept hg4 (.inr (by simp [Value.ownBlock])))
        have HS4 := Aside0.mk (HBS1.out.kept hg4 (by simp))
        have HBB4 := Aside0.mk (HB1.out.trans (HB4.out.mono HB1.out.size))
        have hx4 : W4.heap[Bx]? = some (.cells #[.int .i64 z.f0, .int .i64 z.f1] 32 (0, 0)) := (hb.block Bx (Array.getElem?_eq_some_iff.1 HX3.out).1).trans HX3.out
        have p0 := blk_cell hx4 0
        simp only [List.getElem?_toArray, List.getElem?_cons_zero] at p0
        have p4 := HV4.out.cell
        have HEQ := Aside0.mk (show outs k (pre ++ [(j, z)]) = O ++ [z.f0] by rw [HSN.out, if_pos ⟨of_decide_eq_true HB1'.out, of_decide_eq_false HB2'.out⟩])
        clear hb hx4 hg4 c3 q0 HFIN HSN HB1' HB2'
        gi_wp2_with (gi_at_builtin; refine wpListIn_append_own _ rfl _ _ 24 rfl w.heap.size 3 i0 (.int .i64 0) 1 8 Try.underlying24 hi hz0 hz1 hz2 rfl (by decide) _ _ _ rfl (HO4.out.alloc _) ⟨W4.heap.size, 0, none⟩ 1 1 [.int .i64 z.f0] rfl rfl (cell_one_new _ _ _) (by simp [Value.oneCell']) (by have := HOL.out; have := HLEN.out; unfold maxLen; omega) (by have := HOL.out; have := HLEN.out; omega) (by have := HBB4.out.size; simp; omega) ?_; intro v' w1 hown' hgrow _; obtain ⟨g', cap', rfl⟩ := ownsRow_succ hown'; have HAP := Aside0.mk (HV4.out.appended (by decide) HO4.out HBB4.out.size (Nat.le_succ _) hown' hgrow); have hc1 := HAP.out.1.cell; have hf1 := HAP.out.1.frozen; have HS5 := Aside0.mk ((HS4.out.alloc _).kept hgrow (HS4.out.not_row (by decide) HO4.out)); clear hown' hgrow)
        have hbx := HAP.out.2.2.2.2
        have hsx := HS5.out.other (B' := w.heap.size + 1) (by omega) (.slice (some ⟨g', 0, none⟩) (O.length + 1) cap')
        refine ⟨KeepsFrom.trans (Y := W4) ⟨HB4.out.size, fun q o _ hq _ => (HB4.out.block q (Array.getElem?_eq_some_iff.1 hq).1).trans hq⟩ (HAP.out.2.2.2.1.from _), ⟨(HB4.out.mono HB1.out.size).trans hbx, fun _ => hsx⟩, ⟨_, HAP.out.2.1, ?_, trivial⟩, hsx, HBB4.out.trans hbx⟩
        rw [HEQ.out]
        simpa [nums] using HAP.out.2.2.1
  case done =>
    rintro D xs W hD rfl ⟨⟨v, hv, hO, _⟩, hbs, hB⟩ hK
    have hol := outs_len k (upto l l.length)
    rw [upto_length] at hol
    have HS := Aside0.mk (show (outs k (upto l l.length)).mergeSort leI = intoF l k by rw [outs_all]; rfl)
    generalize outs k (upto l l.length) = O at hO hol HS
    obtain ⟨g1, c1, rfl, _, _, _, _⟩ := At.of_own hO hol.1
    have c5 := hv.cell
    have HV := Aside0.mk hv
    have HO := Aside0.mk hO
    have HB := Aside0.mk hB
    have HK := Aside0.mk hK
    have HOL := Aside0.mk hol
    have hne := hv.not_row (by decide) hO
    have HNE := Aside0.mk hne
    clear hv hO hB hK hbs hol hne
    gi_wp2_with fail
    refine ⟨trivial, ?_⟩
    gi_at_call 59
    refine (callsIn_wide.2 (sort_ownG HO.out (by have := HOL.out; omega))).mono ?_
    rintro e W1 ⟨rfl, hO1, hg⟩
    have hv1 := HV.out.kept hg HNE.out
    have c6 := hv1.cell
    have HO1 := Aside0.mk hO1
    have HG := Aside0.mk hg
    have HK1 := Aside0.mk (show W1.heap[D]? = some (.deferred (some [])) from (hg.block D (Array.getElem?_eq_some_iff.1 HK.out).1 (fun e => by
      rcases HO.out.2 with ⟨e0, _⟩ | ⟨g', cap, cur, e1, _, hgb, _⟩
      · cases e0
      · simp only [Value.slice.injEq, Option.some.injEq, Addr.mk.injEq, true_and, and_true] at e1
        obtain ⟨rfl, rfl⟩ := e1
        injection e with e
        rw [e, hgb] at HK
        exact absurd HK.out (by simp))).trans HK.out)
    clear hO1 hg hv1 c5
    gi_wp2
    refine ⟨by simp, .inl ⟨_, _, rfl, run_takeDeferred HK1.out, ?_⟩⟩
    have hlen : O.length = (intoF l k).length := by rw [← HS.out, List.length_mergeSort]
    have h5 : w.heap.size ≤ g1 := by
      rcases HO.out.2 with ⟨e0, _⟩ | ⟨g', cap, cur, e1, hB, _⟩
      · cases e0
      · simp only [Value.slice.injEq, Option.some.injEq, Addr.mk.injEq, true_and, and_true] at e1
        obtain ⟨rfl, rfl⟩ := e1
        exact hB
    refine ⟨_, results_tmp rfl _ _ _, _, rfl, ?_, (HB.out.grown HG.out HB.out.size (fun q e => by cases e; exact h5)).trans (belowK_b (w := w) (Nat.le_refl _) _ D _ _ (by omega) HK1.out rfl rfl)⟩
    rw [← hlen, ← HS.out]
    exact ownsRow_putObj HO1.out _ HK1.out rfl
  case stop =>
    rintro D cc pre W hD _ h
    exact h.elim
end Go.Proofs.Ytginlhengebgaaa.Ck
