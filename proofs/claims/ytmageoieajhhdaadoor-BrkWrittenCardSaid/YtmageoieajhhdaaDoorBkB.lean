/- Conditions: trees in memory; the state's keeper; events; a leaf, walked. -/
import Derived.Test.YtmageoieajhhdaaDoorBkA
import Derived.Test.YtmageoieajhhdaaDoorPBrkWrittenx1
namespace Go.Proofs.YtmageoieajhhdaaDoor.Bk
open Go Go.RowKit Go.Proofs.YtmageoieajhhdaaDoorW.PrintWords Go.Proofs.YtmageoieajhhdaaDoorW.PrintLast Go.Proofs.YtmageoieajhhdaaDoorW.PrintMore Go.Proofs.YtmageoieajhhdaaDoor.PBrkWritten Go.Proofs.YtmageoieajhhdaaDoor.RegionVal
open Go.Lib hiding intOf
set_option linter.unusedVariables false
set_option linter.unusedSimpArgs false
def toS : Ex → S52
  | .nil => ⟨0, 0, ⟨#[]⟩, [], 0⟩
  | .num n => ⟨110, n, ⟨#[]⟩, [], 1⟩
  | .var s => ⟨118, 0, bs s, [], 1⟩
  | .un op a => ⟨(op.toNat : Int), 0, ⟨#[]⟩, [toS a], Ex.deep (.un op a)⟩
  | .bin op a b => ⟨(op.toNat : Int), 0, ⟨#[]⟩, [toS a, toS b], Ex.deep (.bin op a b)⟩
theorem toS_deep (x : Ex) : (toS x).f4 = x.deep := by cases x <;> rfl
/-- the five cells of a tree's root -/
def cell5 (x : S52) (v3 : Value) : List Value := [.int .u8 x.f0, .int .i64 x.f1, .string x.f2, v3, .int .i64 x.f4]
theorem cell5_one (x : S52) {v3 : Value} (h : ∃ A n c, v3 = .slice A n c) : ∀ q ∈ cell5 x v3, q.oneCell' = true := by
  obtain ⟨A, n, c, rfl⟩ := h
  intro q hq
  simp only [cell5, List.mem_cons, List.not_mem_nil, or_false] at hq
  rcases hq with rfl | rfl | rfl | rfl | rfl <;> rfl
/-- a tree as a value -/
def XV (W : World) (ok : Nat → Prop) (v : Value) (x : S52) : Prop := ∃ v3, v = .agg (cell5 x v3).toArray ∧ Kd.V k52 52 W 0 ok v3 x.f3
theorem XV.mono {W : World} {ok ok' : Nat → Prop} {v : Value} {x : S52} (h : XV W ok v x) (hok : ∀ k, ok k → ok' k) : XV W ok' v x := by
  obtain ⟨v3, e, h⟩ := h
  exact ⟨v3, e, Kd.V_mono h hok⟩
theorem XV.step {W W1 : World} {ok : Nat → Prop} {v : Value} {x : S52} (h : XV W ok v x) (hm : ∀ k, ok k → k < W.heap.size → W1.heap[k]? = W.heap[k]?) : XV W1 ok v x := by
  obtain ⟨v3, e, h⟩ := h
  exact ⟨v3, e, Kd.V_step h hm⟩
theorem XV.bound {W : World} {ok : Nat → Prop} {v : Value} {x : S52} (h : XV W ok v x) : XV W (fun k => ok k ∧ k < W.heap.size) v x := by
  obtain ⟨v3, e, h⟩ := h
  exact ⟨v3, e, Kd.V_bound h⟩
/-- the state's keeper: from w on nothing but the state and new blocks has changed -/
def PI (w0 w W : World) (g : Nat) (s : Bs) (b : Bool) : Prop := IsS74 w0 W g (bs s) b ∧ Below w0.heap.size w0 W ∧ KeepBut w W g none
theorem PI.grown {w0 w W W1 : World} {g : Nat} {s : Bs} {b : Bool} {row : Option Nat} (h : PI w0 w W g s b) (hg : W.grownBy W1 row) (hne : some g ≠ row) (hr : ∀ k, row = some k → w.heap.size ≤ k) (hw : w0.heap.size ≤ w.heap.size) : PI w0 w W1 g s b := by
  refine ⟨h.1.grown hg hne, h.2.1.grown hg h.2.1.size (fun k hk => Nat.le_trans hw (hr k hk)), h.2.2.trans (KeepBut.of_grown hg g) ?_⟩
  cases row with
  | none => exact .inl rfl
  | some k => exact .inr ⟨k, rfl, hr k rfl⟩
theorem PI.below {w0 w W W1 : World} {g : Nat} {s : Bs} {b : Bool} (h : PI w0 w W g s b) (hb : Below W.heap.size W W1) : PI w0 w W1 g s b :=
  ⟨h.1.below hb, below_step h.2.1 hb, h.2.2.trans (KeepBut.of_below hb g none) (.inl rfl)⟩
theorem PI.drewN {w0 w W : World} {g : Nat} {s : Bs} {b : Bool} (h : PI w0 w W g s b) (m : Nat) : PI w0 w (W.drewN m) g s b := h.below (pw_below_drewN (Below.refl _ _) m)
theorem PI.set0 {w0 w W : World} {g : Nat} {s : Bs} {b : Bool} (h : PI w0 w W g s b) (t : Bs) : PI w0 w (W.setCell ⟨g, 0, none⟩ (.string (bs t))) g t b :=
  ⟨h.1.set_0 _, h.2.1.setCell (p := ⟨g, 0, none⟩) h.1.2 _, h.2.2.set_ 0 _⟩
theorem PI.set1 {w0 w W : World} {g : Nat} {s : Bs} {b : Bool} (h : PI w0 w W g s b) (c : Bool) : PI w0 w (W.setCell ⟨g, 1, none⟩ (.bool c)) g s c :=
  ⟨h.1.set_1 _, h.2.1.setCell (p := ⟨g, 1, none⟩) h.1.2 _, h.2.2.set_ 1 _⟩
theorem PI.next {w0 w W W1 : World} {g : Nat} {s s1 : Bs} {b b1 : Bool} (h : PI w0 w W g s b) (h1 : PI w0 W W1 g s1 b1) : PI w0 w W1 g s1 b1 :=
  ⟨h1.1, h1.2.1, h.2.2.trans h1.2.2 (.inl rfl)⟩
theorem PI.lt {w0 w W : World} {g : Nat} {s : Bs} {b : Bool} (h : PI w0 w W g s b) : g < W.heap.size := h.1.lt
theorem PI.size {w0 w W : World} {g : Nat} {s : Bs} {b : Bool} (h : PI w0 w W g s b) : w.heap.size ≤ W.heap.size := h.2.2.1
theorem PI.init {w0 w : World} {g : Nat} {s : Bs} {b : Bool} (h : IsS74 w0 w g (bs s) b) (hB : Below w0.heap.size w0 w) : PI w0 w w g s b := ⟨h, hB, KeepBut.refl w g none⟩
theorem leaf_true (s : Bs) : leafF s true = (.nil, s, true) := by
  unfold leafF
  split <;> simp
theorem leaf_none {s : Bs} (h : s.takeWhile isA = []) (b : Bool) : leafF s b = (.nil, s, true) := by
  unfold leafF
  rw [h]
theorem gb_set (g i : Nat) (W : World) (v : Value) : W.grownBy (W.setCell ⟨g, i, none⟩ v) (some g) :=
  ⟨rfl, rfl, rfl, by simp [World.setCell], fun k _ hk => Below.heap_setCell _ _ _ k (fun e => hk (by rw [e]))⟩
theorem gb_below {a b : World} (r : Option Nat) (h : Below a.heap.size a b) : a.grownBy b r := ⟨h.1, h.2, h.3, h.size, fun k hk _ => h.block k hk⟩
theorem gb_drewN (W : World) (m : Nat) (r : Option Nat) : W.grownBy (W.drewN m) r := gb_below r (pw_below_drewN (Below.refl _ _) m)
theorem kept_refl (w : World) (S : Nat → Prop) : Kept w w S := ⟨Nat.le_refl _, fun _ _ _ => rfl⟩
theorem kept_step {w W W1 : World} {S : Nat → Prop} {row : Option Nat} (h : Kept w W S) (hg : W.grownBy W1 row) (hr : ∀ p, row = some p → S p ∨ w.heap.size ≤ p) : Kept w W1 S :=
  ⟨Nat.le_trans h.1 hg.size, fun i hi hs => (hg.block i (Nat.lt_of_lt_of_le hi h.1) (fun e => by
    rcases hr i e.symm with h1 | h1
    · exact hs h1
    · omega)).trans (h.2 i hi hs)⟩
theorem kept_below {w W W1 : World} {S : Nat → Prop} (h : Kept w W S) (hb : Below W.heap.size W W1) : Kept w W1 S := kept_step h (gb_below none hb) (fun p e => by cases e)
theorem kept_keep {w W W1 : World} {S : Nat → Prop} {g : Nat} (h : Kept w W S) (hk : KeepBut W W1 g none) (hg : S g) : Kept w W1 S :=
  ⟨Nat.le_trans h.1 hk.1, fun i hi hs => (hk.2 i (Nat.lt_of_lt_of_le hi h.1) (fun e => hs (e ▸ hg)) (by simp)).trans (h.2 i hi hs)⟩
theorem size52 : (Tryd.prog.info? 52).map (·.size) = some 5 := by kernel_rfl
/-! events -/
section
variable {P : Program} {ops : Array Oper} {rest : List Oper} {o : Oper} {a : Act} {Q : Exit → Act → World → Prop}
theorem skip_run {W w1 : World} (hgd : o.guard = none) (hd : o.dst = none) (hrun : (execOp a.eval o).run P W = .ok .skip w1) (h : wpList P ops Q rest a w1) : wpList P ops Q (o :: rest) a W := by
  refine wpList_plain hgd fun K hK => ?_
  unfold Oper.wp
  rw [hrun]
  obtain ⟨dst, op, ty, pos, after, guard⟩ := o
  simp only at hd
  subst hd
  exact hK _ _ h
/-- a struct is stored whole -/
theorem load_event {W : World} {t : TypeId} {x : Operand} {g : Nat} {cs : Array Value} {d : TypeDesc} (ho : o.op = .load t x) (hgd : o.guard = none) (hx : a.eval x = .pointer (some ⟨g, 0, none⟩)) (hh : W.heap[g]? = some (.cells cs t (0, 0)))
    (hu : P.underlying t = some d) (hd : (match d with | .struct _ | .array _ _ => true | _ => false) = true) (hi : (P.info? t).map (·.size) = some cs.size) (h : wpList P ops Q rest (a.put o.dst (.agg cs)) W) : wpList P ops Q (o :: rest) a W :=
  wpList_load_row hgd t x ho g hx t cs (0, 0) d hh hu hd hi h
theorem put_event {W : World} {t : TypeId} {p x : Operand} {g : Nat} {seg : List Value} {cur : Array Value} (ho : o.op = .store t p x) (hd : o.dst = none) (hgd : o.guard = none) (hp : a.eval p = .pointer (some ⟨g, 0, none⟩)) (hx : a.eval x = .agg seg.toArray)
    (hh : W.heap[g]? = some (.cells cur t (0, 0))) (ht : (P.info? t).map (·.size) = some seg.length) (hl : cur.size = seg.length) (h1 : ∀ q ∈ seg, q.oneCell' = true)
    (h : ∀ W', W'.heap[g]? = some (.cells seg.toArray t (0, 0)) → W.grownBy W' (some g) → W'.heap.size = W.heap.size → wpList P ops Q rest a W') : wpList P ops Q (o :: rest) a W := by
  have hr := run_store_run (P := P) t (.agg seg.toArray) seg hh (o := 0) (by simp [Value.cells]) ht (by omega) h1
  refine skip_run (w1 := W.setCells g 0 seg) hgd hd ?_ ?_
  · obtain ⟨dst, op, ty, pos, after, guard⟩ := o
    simp only at ho
    subst ho
    simp only [execOp, hp, hx, Sem.run_bind]
    rw [hr]
    rfl
  · obtain ⟨cur', h3, h4, h5⟩ := setCells_row seg 0 W cur hh (by omega)
    obtain ⟨s1, s2, s3, s4⟩ := setCells_same g seg 0 W
    have e : cur' = seg.toArray := by
      apply Array.ext'
      rw [h5]
      simp [hl]
    rw [e] at h3
    exact h _ h3 ⟨s1, s2, s3, by rw [s4]; exact Nat.le_refl _, fun k _ hk => setCells_far seg _ k (fun e => hk (by rw [e]))⟩ s4
end
end Go.Proofs.YtmageoieajhhdaaDoor.Bk
