/- slices.Backward over events: the iterator's contract. -/
import Derived.Test.YtaeamehngbfneabWatchA
import Derived.RangeFuncBox
import Derived.RangeFuncFrom
import Derived.RangeFuncLeaves
import Derived.RangeFuncCalls
import Derived.Shelf.Abstract
import Derived.OwnWalkIn
import Derived.TacticsInMore
import Derived.LoopNIn
import Derived.LoopIn
namespace Go.Proofs.Ytaeamehngbfneab.Wt
open Go Go.RowKit Go.Lib Go.Shelf Go.Proofs.YtaeamehngbfneabW.PrintWords Go.Proofs.YtaeamehngbfneabW.PrintLast Go.Proofs.YtaeamehngbfneabW.PrintMore Go.Proofs.Ytaeamehngbfneab.Bs Go.Proofs.Ytaeamehngbfneab.PWatchBack Go.Proofs.Ytaeamehngbfneab.Wp
attribute [local go_sem] Oper.semAt_some
set_option linter.unusedVariables false
set_option linter.unusedSimpArgs false

/-- what comes in round k -/
def bk (l : List S33) (k : Nat) : Nat × S33 := (l.length - 1 - k, l.getD (l.length - 1 - k) z33)
def upto (l : List S33) (k : Nat) : List (Nat × S33) := (List.range k).map (bk l)
theorem upto_succ (l : List S33) (k : Nat) : upto l (k + 1) = upto l k ++ [bk l k] := by simp [upto, List.range_succ]
theorem upto_length (l : List S33) (k : Nat) : (upto l k).length = k := by simp [upto]
def agg33 (x : S33) : Value := .agg #[.int .i64 x.f0, .int .i64 x.f1, .int .i64 x.f2, .int .i64 x.f3, .int .i64 x.f4, .int .i64 x.f5, .int .i64 x.f6, .int .i64 x.f7, .int .i64 x.f8.f0, .int .i64 x.f8.f1, .int .i64 x.f9.f0, .int .i64 x.f9.f1]
def encs (x : Nat × S33) : Array Value := #[.int .i64 (x.1 : Int), agg33 x.2]

set_option maxRecDepth 100000 in
set_option maxHeartbeats 4000000 in
theorem backward1_in (F : Fence) (n : Nat) (h26 : F.fn 26) (hro : F.round = none) (hn : 1 ≤ n) (lp Bs : Nat) (A : Option Addr) (c : Nat) (l : List S33) (w0 : World) (hl : l.length ≤ 200) (hr : Kd.C k33 w0 A l.length l) (hBs : w0.cell? ⟨Bs, 0, none⟩ = some (.slice A l.length c))
    (J Jx : List (Nat × S33) → World → Prop)
    (hY : ∀ pre x W, J pre W → pre.length < l.length → YieldAt F (n - 1) Try.prog lp (encs x) W fun e W' =>
      (e = .returned (.bool true) ∧ J (pre ++ [x]) W' ∧ Below w0.heap.size W W') ∨ (e = .returned (.bool false) ∧ Jx (pre ++ [x]) W'))
    (W : World) (hW : Below w0.heap.size w0 W) (h0 : J [] W) :
    CallsIn F n Try.prog 26 #[.func (.yield lp) #[] #[], .pointer (some ⟨Bs, 0, none⟩)] W fun e W' => (∃ v, e = .returned v) ∧
      (J (upto l l.length) W' ∨ ∃ k, k ≤ l.length ∧ Jx (upto l k) W') := by
  have hBW : W.cell? ⟨Bs, 0, none⟩ = some (.slice A l.length c) := (hW.cell (World.block_lt_of_cell? w0 _ hBs)).trans hBs
  have HR := Aside0.mk hr
  have HY := Aside0.mk hY
  have HBS := Aside0.mk hBs
  have HW := Aside0.mk hW
  have H0 := Aside0.mk h0
  clear hr hY hBs hW h0
  refine callsIn_of_wp Try.func26 rfl h26 ?_ hro
  simp only [Try.ntmps26, List.size_toArray, List.length_cons, List.length_nil, Nat.reduceAdd, Nat.reduceSub, Array.replicate_succ, Array.replicate_zero, List.push_toArray, List.append_toArray, List.nil_append, List.cons_append]
  gi_wp2
  gi_loopw [3] (fun i wr => ∃ k : Nat, k ≤ l.length ∧ i = .int .i64 ((l.length : Int) - 1 - (k : Int)) ∧ Aside0 (J (upto l k) wr) ∧ Aside0 (Below w0.heap.size w0 wr)) (fun i _ => (intOf i + 1).toNat)
  case atStart => exact ⟨0, Nat.zero_le _, by simp, H0, HW⟩
  case round =>
    obtain ⟨k, hk, rfl, HJ, HB⟩ := hrel
    clear hBW
    have hBr : wr.cell? ⟨Bs, 0, none⟩ = some (.slice A l.length c) := (HB.out.cell (World.block_lt_of_cell? w0 _ HBS.out)).trans HBS.out
    by_cases hlt : k < l.length
    · obtain ⟨j, hjk⟩ : ∃ j, l.length - 1 - k = j := ⟨_, rfl⟩
      have hj : j < l.length := by omega
      obtain ⟨ad, rfl, h0, h1, h2, h3, h4, h5, h6, h7, h8, h9, h10, h11⟩ := cells12 HR.out HB.out hj
      obtain ⟨fn, tmps, assign, body, hy, hR⟩ := HY.out _ (bk l k) wr HJ.out (by rw [upto_length]; exact hlt)
      have hbk : bk l k = (j, l[j]) := by unfold bk; rw [hjk]; simp [List.getD_eq_getElem?_getD, hj]
      have HUP := Aside0.mk (show upto l (k + 1) = upto l k ++ [(j, l[j])] by rw [upto_succ, hbk])
      rw [hbk] at hy hR
      have hji : (l.length : Int) - 1 - (k : Int) = (j : Int) := by omega
      have HJI := Aside0.mk hji
      rw [hji]
      have HJK := Aside0.mk hjk
      clear hji hjk hbk
      have HR' := Aside0.mk hR
      clear hR
      generalize l[j] = x at h0 h1 h2 h3 h4 h5 h6 h7 h8 h9 h10 h11 hy HR' HUP
      have z1 : (j : Int) < (l.length : Int) := by omega
      dsimp only [encs, agg33] at hy
      gi_wp2
      refine HR'.out.mono ?_
      rintro e W3 (⟨rfl, hJ3, hk3⟩ | ⟨rfl, hJx3⟩)
      · have HJ3 := Aside0.mk (show J (upto l (k + 1)) W3 by rw [HUP.out]; exact hJ3)
        have HB3 := Aside0.mk (Below.trans HB.out hk3)
        clear hJ3 hk3
        gi_wp2
        go_roundw
        case rel => exact ⟨k + 1, by omega, by have := HJI.out; rw [show (l.length : Int) - 1 - ((k + 1 : Nat) : Int) = (j : Int) - 1 by omega], HJ3, HB3⟩
        case measure => simp [intOf]
      · have HJ3 := Aside0.mk (show Jx (upto l (k + 1)) W3 by rw [HUP.out]; exact hJx3)
        clear hJx3
        gi_wp2
        refine bodyPost_ret (results_none rfl _ _ _) rfl ?_
        exact ⟨⟨_, rfl⟩, .inr ⟨k + 1, by omega, HJ3.out⟩⟩
    · have hk' : k = l.length := by omega
      subst hk'
      have hneg : (l.length : Int) - 1 - (l.length : Int) = -1 := by omega
      rw [hneg]
      clear hneg
      gi_wp2
      go_end0
      exact ⟨⟨_, rfl⟩, .inl HJ.out⟩

/-- slices.Backward(l): the slice is boxed, the function value captures the box -/
theorem backward_in (F : Fence) (n : Nat) (h22 : F.fn 22) (hro : F.round = none) (A : Option Addr) (len cap : Nat) (w : World) :
    CallsIn F n Try.prog 22 #[.slice A len cap] w fun e w' => e = .returned (.func (.func 26) #[] #[.pointer (some ⟨w.heap.size, 0, none⟩)]) ∧ w.alloc (.cells #[.slice A len cap] 22) = w' := by
  refine callsIn_of_wp Try.func22 rfl h22 ?_ hro
  simp only [Try.ntmps22, List.size_toArray, List.length_cons, List.length_nil, Nat.reduceAdd, Nat.reduceSub, Array.replicate_succ, Array.replicate_zero, List.push_toArray, List.append_toArray, List.nil_append, List.cons_append]
  gi_wp2
  go_ret
  exact ⟨rfl, rfl⟩

/-- it stops wherever its body says so -/
theorem backward_stops (F : Fence) (n : Nat) (h26 : F.fn 26) (hro : F.round = none) (hn : 1 ≤ n) (Bs : Nat) (A : Option Addr) (c : Nat) (l : List S33) (w0 : World) (hl : l.length ≤ 200) (hr : Kd.C k33 w0 A l.length l) (hBs : w0.cell? ⟨Bs, 0, none⟩ = some (.slice A l.length c)) :
    SeqStopsK F n Try.prog 26 #[.pointer (some ⟨Bs, 0, none⟩)] encs (Below w0.heap.size) (fun ys => ys = upto l l.length) (fun pre => ∃ k, k ≤ l.length ∧ pre = upto l k) l.length w0 := fun lp J Jx W hW _ _ hY h0 =>
  (backward1_in F n h26 hro hn lp Bs A c l w0 hl hr hBs J Jx hY W hW h0).mono fun e W' ⟨he, h⟩ => ⟨he, h.elim (fun h => .inl ⟨_, rfl, h⟩) (fun ⟨k, hk, h⟩ => .inr ⟨_, ⟨k, hk, rfl⟩, h⟩)⟩
end Go.Proofs.Ytaeamehngbfneab.Wt
