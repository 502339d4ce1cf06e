/- slices.Backward over bytes that the body writes; spool.big. -/
import Derived.Test.YtaeamehngbfneabSpoolF
import Derived.Test.YtaeamehngbfneabConcatB
import Derived.RangeFuncBox
import Derived.RangeFuncFrom
import Derived.RangeFuncLeaves
import Derived.RangeFuncCalls
import Derived.RangeFuncNested
import Derived.Shelf.Abstract
import Derived.OwnWalkIn
import Derived.TacticsInMore
import Derived.LoopNIn
import Derived.LoopIn
namespace Go.Proofs.Ytaeamehngbfneab.Sp
open Go Go.RowKit Go.Lib Go.Shelf Go.Proofs.YtaeamehngbfneabW.PrintWords Go.Proofs.YtaeamehngbfneabW.PrintLast Go.Proofs.YtaeamehngbfneabW.PrintMore Go.Proofs.Ytaeamehngbfneab.PSpoolBack
attribute [local go_sem] Oper.semAt_some
set_option linter.unusedVariables false
set_option linter.unusedSimpArgs false

def Good (n Bs g : Nat) (W : World) : Prop :=
  Boxed W Bs 42 (.slice (some ⟨g, 0, none⟩) n n) ∧ ∃ xs : List Int, xs.length = n ∧ W.heap[g]? = some (.cells (nums .u8 xs).toArray 5 (0, 0))
def Kg (n Bs g : Nat) (W W' : World) : Prop := Good n Bs g W → Good n Bs g W'
theorem Kg_t {n Bs g : Nat} {A B C : World} (h : Kg n Bs g A B) (k : Kg n Bs g B C) : Kg n Bs g A C := fun x => k (h x)
theorem Good.box_lt {n Bs g : Nat} {W : World} (h : Good n Bs g W) : Bs < W.heap.size := h.1.lt
theorem Good.row_lt {n Bs g : Nat} {W : World} (h : Good n Bs g W) : g < W.heap.size := by obtain ⟨_, xs, _, h⟩ := h; exact blk_lt h
theorem Kg_b {n Bs g : Nat} {w : World} (W : World) (l : Nat) (o o' : Obj) (_ : w.heap.size ≤ l) (hl : W.heap[l]? = some o) (hc : o.isCells = false) (_ : o.isWalk = false) : Kg n Bs g W (W.putObj l o') := by
  rintro ⟨h1, xs, h2, h3⟩
  have hg := grownBy_putObj' W l o'
  refine ⟨h1.kept hg (fun e => ?_), xs, h2, blk_grown h3 hg (fun e => ?_)⟩
  · cases e; rw [show W.heap[Bs]? = _ from h1] at hl; cases hl; cases hc
  · cases e; rw [h3] at hl; cases hl; cases hc
theorem Good.kept {n Bs g : Nat} {W W' : World} (h : Good n Bs g W) (hb : Below W.heap.size W W') : Good n Bs g W' := by
  obtain ⟨h1, xs, h2, h3⟩ := h
  exact ⟨(hb.block _ h1.lt).trans h1, xs, h2, blk_below h3 hb⟩

/-- what comes: a place and a byte -/
abbrev Ent (n : Nat) : Type := { x : Nat × Int // x.1 < n }
def encB {n : Nat} (x : Ent n) : Array Value := #[.int .i64 (x.1.1 : Int), .int .u8 x.1.2]
def down (n k : Nat) : List Nat := (List.range k).map (fun i => n - 1 - i)
theorem down_succ (n k : Nat) : down n (k + 1) = down n k ++ [n - 1 - k] := by simp [down, List.range_succ]

set_option maxRecDepth 100000 in
set_option maxHeartbeats 4000000 in
theorem back1_in (F : Fence) (n0 : Nat) (h34 : F.fn 34) (hro : F.round = none) (hn0 : 1 ≤ n0) (lp n Bs g : Nat) (hl : n ≤ 1000)
    (J Jx : List (Ent n) → World → Prop)
    (hY : ∀ pre x W, J pre W → pre.length < n → YieldAt F (n0 - 1) Try.prog lp (encB x) W fun e W' =>
      (e = .returned (.bool true) ∧ J (pre ++ [x]) W' ∧ Kg n Bs g W W') ∨ (e = .returned (.bool false) ∧ Jx (pre ++ [x]) W'))
    (W : World) (hG : Good n Bs g W) (h0 : J [] W) :
    CallsIn F n0 Try.prog 34 #[.func (.yield lp) #[] #[], .pointer (some ⟨Bs, 0, none⟩)] W fun e W' => (∃ v, e = .returned v) ∧
      ((∃ xs : List (Ent n), xs.map (fun x => x.1.1) = down n n ∧ J xs W') ∨ ∃ pre, Jx pre W') := by
  have hBW : W.cell? ⟨Bs, 0, none⟩ = some (.slice (some ⟨g, 0, none⟩) n n) := hG.1.cell
  have HY := Aside0.mk hY
  have HG := Aside0.mk hG
  have H0 := Aside0.mk h0
  clear hY hG h0
  refine callsIn_of_wp Try.func34 rfl h34 ?_ hro
  simp only [Try.ntmps34, List.size_toArray, List.length_cons, List.length_nil, Nat.reduceAdd, Nat.reduceSub, Array.replicate_succ, Array.replicate_zero, List.push_toArray, List.append_toArray, List.nil_append, List.cons_append]
  gi_wp2
  gi_loopw [3] (fun i wr => ∃ k : Nat, k ≤ n ∧ i = .int .i64 ((n : Int) - 1 - (k : Int)) ∧ ∃ pre : List (Ent n), Aside0 (pre.map (fun x => x.1.1) = down n k) ∧ Aside0 (J pre wr) ∧ Aside0 (Good n Bs g wr)) (fun i _ => (intOf i + 1).toNat)
  case atStart => exact ⟨0, Nat.zero_le _, by simp, [], ⟨rfl⟩, H0, HG⟩
  case round =>
    obtain ⟨k, hk, rfl, pre, HP, HJ, HB⟩ := hrel
    clear hBW
    have hBr : wr.cell? ⟨Bs, 0, none⟩ = some (.slice (some ⟨g, 0, none⟩) n n) := HB.out.1.cell
    by_cases hlt : k < n
    · obtain ⟨j, hjk⟩ : ∃ j, n - 1 - k = j := ⟨_, rfl⟩
      have hj : j < n := by omega
      obtain ⟨xs, hxs, hrow⟩ := HB.out.2
      have hlen : pre.length = k := by have := congrArg List.length HP.out; simpa [down] using this
      obtain ⟨y, hy0⟩ : ∃ y, y = xs[j]'(by omega) := ⟨_, rfl⟩
      have hcell : wr.cell? ⟨g, j, none⟩ = some (.int .u8 y) := by
        rw [blk_cell hrow j, hy0]
        simp [nums, hxs, hj]
      obtain ⟨fn, tmps, assign, body, hy, hR⟩ := HY.out pre ⟨(j, y), hj⟩ wr HJ.out (by omega)
      have hji : (n : Int) - 1 - (k : Int) = (j : Int) := by omega
      have HJI := Aside0.mk hji
      rw [hji]
      have HJK := Aside0.mk hjk
      have HLN := Aside0.mk hlen
      clear hji hjk hy0 hrow hxs hlen
      have HR' := Aside0.mk hR
      clear hR
      have z1 : (j : Int) < (n : Int) := by omega
      dsimp only [encB] at hy
      gi_wp2
      refine HR'.out.mono ?_
      rintro e W3 (⟨rfl, hJ3, hk3⟩ | ⟨rfl, hJx3⟩)
      · have HJ3 := Aside0.mk hJ3
        have HB3 := Aside0.mk (hk3 HB.out)
        clear hJ3 hk3
        gi_wp2
        go_roundw
        case rel => exact ⟨k + 1, by omega, by have := HJI.out; rw [show (n : Int) - 1 - ((k + 1 : Nat) : Int) = (j : Int) - 1 by omega], pre ++ [⟨(j, y), hj⟩], ⟨by rw [List.map_append, HP.out, down_succ, HJK.out]; rfl⟩, HJ3, HB3⟩
        case measure => simp [intOf]
      · have HJ3 := Aside0.mk hJx3
        clear hJx3
        gi_wp2
        refine bodyPost_ret (results_none rfl _ _ _) rfl ?_
        exact ⟨⟨_, rfl⟩, .inr ⟨_, HJ3.out⟩⟩
    · have hk' : k = n := by omega
      subst hk'
      have hneg : (k : Int) - 1 - (k : Int) = -1 := by omega
      rw [hneg]
      clear hneg
      gi_wp2
      go_end0
      exact ⟨⟨_, rfl⟩, .inl ⟨pre, HP.out, HJ.out⟩⟩

/-- slices.Backward(b): the slice is boxed, the function value captures the box -/
theorem back_in (F : Fence) (n : Nat) (h32 : F.fn 32) (hro : F.round = none) (A : Option Addr) (len cap : Nat) (w : World) :
    CallsIn F n Try.prog 32 #[.slice A len cap] w fun e w' => e = .returned (.func (.func 34) #[] #[.pointer (some ⟨w.heap.size, 0, none⟩)]) ∧ w.alloc (.cells #[.slice A len cap] 42) = w' := by
  refine callsIn_of_wp Try.func32 rfl h32 ?_ hro
  simp only [Try.ntmps32, List.size_toArray, List.length_cons, List.length_nil, Nat.reduceAdd, Nat.reduceSub, Array.replicate_succ, Array.replicate_zero, List.push_toArray, List.append_toArray, List.nil_append, List.cons_append]
  gi_wp2
  go_ret
  exact ⟨rfl, rfl⟩

theorem back_stops (F : Fence) (n0 : Nat) (h34 : F.fn 34) (hro : F.round = none) (hn0 : 1 ≤ n0) (n Bs g : Nat) (hl : n ≤ 1000) (w0 : World) (hG : Good n Bs g w0) :
    SeqStopsK F n0 Try.prog 34 #[.pointer (some ⟨Bs, 0, none⟩)] (encB (n := n)) (Kg n Bs g) (fun ys => ys.map (fun x => x.1.1) = down n n) (fun _ => True) n w0 := fun lp J Jx W hW _ _ hY h0 =>
  (back1_in F n0 h34 hro hn0 lp n Bs g hl J Jx hY W (hG.kept hW) h0).mono fun e W' ⟨he, h⟩ => ⟨he, h.elim (fun ⟨xs, h1, h2⟩ => .inl ⟨xs, h1, h2⟩) (fun ⟨p, h⟩ => .inr ⟨p, trivial, h⟩)⟩

/-! what the body makes of the bytes -/
def st (n : Nat) (N : Int) (js : List Nat) : List Int × Int := js.foldl (fun s j => (s.1.set j (s.2 % 256), s.2 / 256)) (List.replicate n 0, N)
theorem st_snoc (n : Nat) (N : Int) (js : List Nat) (j : Nat) : st n N (js ++ [j]) = ((st n N js).1.set j ((st n N js).2 % 256), (st n N js).2 / 256) := by simp [st, List.foldl_append]
theorem st_length (n : Nat) (N : Int) (js : List Nat) : (st n N js).1.length = n := by
  refine rev_ind_nat (P := fun js => (st n N js).1.length = n) (by simp [st]) (fun l x h => by rw [st_snoc]; simpa using h) js
where rev_ind_nat {P : List Nat → Prop} (h0 : P []) (h1 : ∀ l x, P l → P (l ++ [x])) (l : List Nat) : P l := rev_ind h0 h1 l
theorem st_range (n : Nat) {N : Int} (h : 0 ≤ N ∧ N < 18446744073709551616) (js : List Nat) : 0 ≤ (st n N js).2 ∧ (st n N js).2 < 18446744073709551616 := by
  refine rev_ind (P := fun js => 0 ≤ (st n N js).2 ∧ (st n N js).2 < 18446744073709551616) h (fun l x h => by rw [st_snoc]; simp only; omega) js
theorem big_cons : ∀ (k : Nat) (N : Int), big N (k + 1) = (N / 256 ^ k) % 256 :: big N k
  | 0, N => by simp [big]
  | k + 1, N => by
    rw [big, big_cons k (N / 256), big, Int.ediv_ediv_of_nonneg (by decide), Int.pow_succ, Int.mul_comm 256]
    rfl
theorem st_down (n : Nat) (N : Int) : ∀ k, k ≤ n → st n N (down n k) = (List.replicate (n - k) 0 ++ big N k, N / 256 ^ k)
  | 0, _ => by simp [down, st, big]
  | k + 1, h => by
    rw [down_succ, st_snoc, st_down n N k (by omega)]
    refine Prod.ext ?_ ?_
    · simp only
      rw [show n - k = (n - 1 - k) + 1 by omega, List.replicate_succ', List.append_assoc, List.set_append_right _ _ (by simp)]
      simp only [List.length_replicate, Nat.sub_self, List.singleton_append, List.set_cons_zero]
      rw [show n - (k + 1) = n - 1 - k by omega, big_cons]
    · simp only
      rw [Int.ediv_ediv_of_nonneg (Int.pow_nonneg (by decide)), Int.pow_succ]
theorem st_all (n : Nat) (N : Int) : (st n N (down n n)).1 = big N n := by rw [st_down n N n (Nat.le_refl _)]; simp
end Go.Proofs.Ytaeamehngbfneab.Sp
