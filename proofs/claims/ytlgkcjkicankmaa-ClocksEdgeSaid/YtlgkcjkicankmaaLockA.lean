/- Maps from numbers to numbers: what lies in them, by key; look-ups, stores, delete, len, range. -/
import Derived.Test.YtlgkcjkicankmaaLockPr
import Derived.Test.YtlgkcjkicankmaaBase
import Derived.Maps.RangeWalk
import Derived.Maps.OwnOps
namespace Go.Proofs.Ytlgkcjkicankmaa.Lk
open Go Go.RowKit Go.Lib Go.Maps Go.Proofs.YtlgkcjkicankmaaW.PrintWords Go.Proofs.YtlgkcjkicankmaaW.PrintLast Go.Proofs.YtlgkcjkicankmaaW.PrintMore Go.Proofs.Ytlgkcjkicankmaa.PLockupEither Go.Proofs.Ytlgkcjkicankmaa.Bs
set_option linter.unusedVariables false
set_option linter.unusedSimpArgs false

abbrev ky (x : Int) : Lit := .int .i64 x
abbrev zd : DataW Unit := .lit (.int .i64 0)
def W64 (x : Int) : Prop := -9223372036854775808 ≤ x ∧ x ≤ 9223372036854775807
theorem W64.wf {x : Int} (h : W64 x) : (Lit.int .i64 x).wf = true := by
  unfold W64 at h
  simp [Lit.wf, IntKind.min, IntKind.max, IntKind.signed, IntKind.bits]
  omega
theorem W64.of {x : Int} (h : (Lit.int .i64 x).wf = true) : W64 x := by
  unfold W64
  simpa [Lit.wf, IntKind.min, IntKind.max, IntKind.signed, IntKind.bits] using h
theorem law3 : Keyed Try.prog 3 := int_keyed Try.underlying3
theorem zero3 (w : World) : (zeroValue 3).run Try.prog w = .ok (.int .i64 0) w := by kernel_rfl
theorem isKey (x : Int) : WideAt.IsKeyLit (ky x) := by
  first | exact trivial | exact True.intro | (unfold WideAt.IsKeyLit; trivial) | simp [WideAt.IsKeyLit]
theorem ky_ne {x y : Int} (h : x ≠ y) : ky x ≠ ky y := fun e => h (by injection e)
theorem hkey {x : Int} (h : W64 x) : keyOf Try.prog 3 (.int .i64 x) = some (ky x) := keyOf_int_mk Try.underlying3 h.wf
/-- f, with v at x -/
def upd (f : Int → Int) (x v : Int) : Int → Int := fun y => if y = x then v else f y
/-- block b is a map that has the keys ks, with f at them (nothing elsewhere) -/
def MI (w : World) (b : Nat) (ks : List Int) (f : Int → Int) : Prop :=
  ∃ D : DataW Unit, w.ownsMap Try.prog 3 (plainElem Try.prog 3) b ks.length D ∧ (∀ x, Maps.has D (ky x) = decide (x ∈ ks)) ∧ (∀ x, D.atKey (ky x) zd = .lit (.int .i64 (f x))) ∧ Maps.size D = ks.length
theorem own_size {w : World} {b n : Nat} {D : DataW Unit} (h : w.ownsMap Try.prog 3 (plainElem Try.prog 3) b n D) : w.ownsMap Try.prog 3 (plainElem Try.prog 3) b (Maps.size D) D := by
  obtain ⟨es, clock, hb, F, hs, hD⟩ := h
  refine ⟨es, clock, hb, F, ?_, hD⟩
  rw [hD, Maps.size_eq, length_read]
  exact Nat.le_refl _
theorem MI.new (w : World) : MI (w.alloc (.map #[] 0)) w.heap.size [] (fun _ => 0) :=
  ⟨.map [], World.ownsMap_made _ _ _ _, fun _ => rfl, fun _ => rfl, rfl⟩
theorem MI.lt {w : World} {b : Nat} {ks : List Int} {f : Int → Int} (h : MI w b ks f) : b < w.heap.size := by
  obtain ⟨D, h1, _⟩ := h
  exact h1.lt
theorem MI.kept {w w' : World} {b : Nat} {ks : List Int} {f : Int → Int} {row : Option Nat} (h : MI w b ks f) (hg : w.grownBy w' row) (hne : some b ≠ row) : MI w' b ks f := by
  obtain ⟨D, h1, h2⟩ := h
  exact ⟨D, h1.kept hg hne, h2⟩
theorem MI.below {w w' : World} {b : Nat} {ks : List Int} {f : Int → Int} (h : MI w b ks f) (hb : Below w.heap.size w w') : MI w' b ks f :=
  h.kept (row := none) ⟨hb.os, hb.tape, hb.output, hb.size, fun k hk _ => hb.block k hk⟩ (by simp)
section
variable {w : World} {ops : Array Oper} {rest : List Oper} {o : Oper} {a : Act} {Q : Exit → Act → World → Prop} {b : Nat} {ks : List Int} {f : Int → Int}
theorem wp_look (h : MI w b ks f) (hg : o.guard = none) (m x : Operand) (hop : o.op = Op.lookup 54 m x false) (hm : a.eval m = .map (some b)) (v : Int) (hx : a.eval x = .int .i64 v) (hv : W64 v)
    (hK : W64 (f v) → wpList Try.prog ops Q rest (a.put o.dst (.int .i64 (f v))) w) : wpList Try.prog ops Q (o :: rest) a w := by
  obtain ⟨D, h1, h2, h3, h4⟩ := h
  refine wpList_lookup_own_int w hg m x _ hop 3 3 .i64 law3 Try.underlying54 Try.underlying3 (zero3 w) b _ D hm h1 _ _ hx (hkey hv) (fun c hc hwc => ?_)
  rw [h3 v] at hc
  injection hc with hc
  injection hc with _ hc
  rw [← hc] at hwc ⊢
  exact hK (W64.of hwc)
theorem wp_look2 (h : MI w b ks f) (hg : o.guard = none) (m x : Operand) (hop : o.op = Op.lookup 54 m x true) (hm : a.eval m = .map (some b)) (v : Int) (hx : a.eval x = .int .i64 v) (hv : W64 v)
    (hK : W64 (f v) → wpList Try.prog ops Q rest (a.put o.dst (.tuple #[.int .i64 (f v), .bool (decide (v ∈ ks))])) w) : wpList Try.prog ops Q (o :: rest) a w := by
  obtain ⟨D, h1, h2, h3, h4⟩ := h
  refine wpList_lookup_own_ok_int w hg m x _ hop 3 3 .i64 law3 Try.underlying54 Try.underlying3 (zero3 w) b _ D hm h1 _ _ hx (hkey hv) (fun c hc hwc => ?_)
  rw [h3 v] at hc
  injection hc with hc
  injection hc with _ hc
  rw [← hc] at hwc ⊢
  rw [h2 v]
  exact hK (W64.of hwc)
theorem wp_put (h : MI w b ks f) (hg : o.guard = none) (m x y : Operand) (hop : o.op = Op.mapUpdate 54 m x y) (hm : a.eval m = .map (some b)) (hn : ks.length ≤ 1000000) (v c : Int) (hx : a.eval x = .int .i64 v) (hv : W64 v) (hy : a.eval y = .int .i64 c) (hc : W64 c)
    (hK : ∀ w', MI w' b (if v ∈ ks then ks else ks ++ [v]) (upd f v c) → w.grownBy w' (some b) → wpList Try.prog ops Q rest (a.put o.dst undef) w') : wpList Try.prog ops Q (o :: rest) a w := by
  obtain ⟨D, h1, h2, h3, h4⟩ := h
  have ht := h1.tidy law3
  refine wpList_mapUpdate_own w hg m x y _ hop 3 3 law3 Try.underlying54 _ b _ D hm h1 (by unfold maxLen; omega) _ _ _ hx hy (hkey hv) _ [] (plainElem_int Try.underlying3 hc.wf) (fun w' hw hgr => hK w' ?_ hgr)
  have hsz : Maps.size (D.put (ky v) (.lit (.int .i64 c))) = (if v ∈ ks then ks else ks ++ [v]).length := by
    rw [size_put ht, h2 v, h4]
    by_cases hm : v ∈ ks
    · rw [decide_eq_true hm, if_pos rfl, if_pos hm]
    · rw [decide_eq_false hm, if_neg (by decide), if_neg hm, List.length_append]; rfl
  refine ⟨_, by rw [← hsz]; exact own_size hw, fun z => ?_, fun z => ?_, hsz⟩
  · by_cases hz : z = v
    · subst hz
      rw [has_put_same ht.isMap (isKey z)]
      split
      · rename_i hm; exact (decide_eq_true hm).symm
      · exact (decide_eq_true (by simp)).symm
    · rw [has_put_other (ky_ne hz), h2 z]
      split
      · rfl
      · exact decide_eq_decide.2 (by simp [hz])
  · unfold upd
    by_cases hz : z = v
    · subst hz
      rw [atKey_put_same ht.isMap (isKey z), if_pos rfl]
    · rw [atKey_put_other (ky_ne hz), h3 z, if_neg hz]
theorem wp_del (h : MI w b ks f) (hd : ks.Nodup) (hg : o.guard = none) (m x : Operand) (hop : o.op = Op.call { callee := Callee.builtin Builtin.delete, args := #[m, x], argTypes := #[54, 3] }) (hm : a.eval m = .map (some b)) (v : Int) (hx : a.eval x = .int .i64 v) (hv : W64 v)
    (hK : ∀ w', MI w' b (ks.erase v) (upd f v 0) → w.grownBy w' (some b) → wpList Try.prog ops Q rest (a.put o.dst (.tuple #[])) w') : wpList Try.prog ops Q (o :: rest) a w := by
  obtain ⟨D, h1, h2, h3, h4⟩ := h
  have ht := h1.tidy law3
  refine wpList_delete_own w hg m x _ 3 hop 3 law3 Try.underlying54 _ b _ D hm h1 _ _ hx (hkey hv) (fun w' hw hgr => hK w' ?_ hgr.grown)
  have hsz : Maps.size (D.del (ky v)) = (ks.erase v).length := by
    have h5 := size_del (k := ky v) ht
    rw [h2 v, h4] at h5
    rw [List.length_erase]
    by_cases hm : v ∈ ks
    · rw [decide_eq_true hm, if_pos rfl] at h5
      rw [if_pos hm]
      omega
    · rw [decide_eq_false hm, if_neg (by decide)] at h5
      rw [if_neg hm]
      omega
  refine ⟨_, by rw [← hsz]; exact own_size hw, fun z => ?_, fun z => ?_, hsz⟩
  · by_cases hz : z = v
    · subst hz
      rw [has_del_same]
      exact (decide_eq_false (fun hm => (List.Nodup.mem_erase_iff hd).1 hm |>.1 rfl)).symm
    · rw [has_del_other (ky_ne hz), h2 z]
      exact decide_eq_decide.2 (List.mem_erase_of_ne hz).symm
  · unfold upd
    by_cases hz : z = v
    · subst hz
      rw [atKey_del_same, if_pos rfl]
    · rw [atKey_del_other (ky_ne hz), h3 z, if_neg hz]
theorem wp_len (h : MI w b ks f) (hg : o.guard = none) (m : Operand) (hop : o.op = Op.call { callee := Callee.builtin Builtin.len, args := #[m], argTypes := #[54] }) (hm : a.eval m = .map (some b))
    (hK : wpList Try.prog ops Q rest (a.put o.dst (.int .i64 (ks.length : Int))) w) : wpList Try.prog ops Q (o :: rest) a w := by
  obtain ⟨D, h1, h2, h3, h4⟩ := h
  refine wpList_len_own w hg m _ hop 3 3 Try.underlying54 _ b _ D hm h1 ?_
  rw [h4]
  exact hK
/-- the map in block b is being ranged over by block r: these are still to come, cnt of them -/
def RG (w : World) (b r : Nat) (ks : List Int) (f : Int → Int) (left : Int → Bool) (cnt : Nat) : Prop :=
  ∃ (D : DataW Unit) (lf : Lit → Bool), w.ranges Try.prog 3 (plainElem Try.prog 3) b r ks.length D lf cnt ∧ (∀ x, Maps.has D (ky x) = decide (x ∈ ks)) ∧ (∀ x, D.atKey (ky x) zd = .lit (.int .i64 (f x))) ∧ Maps.size D = ks.length ∧ ∀ x, lf (ky x) = left x
theorem RG.map {w : World} {r : Nat} {left : Int → Bool} {cnt : Nat} (h : RG w b r ks f left cnt) : MI w b ks f := by
  obtain ⟨D, lf, h1, h2, h3, h4, _⟩ := h
  exact ⟨D, h1.owns, h2, h3, h4⟩
theorem RG.below {w w' : World} {r : Nat} {left : Int → Bool} {cnt : Nat} (h : RG w b r ks f left cnt) (hb : Below w.heap.size w w') : RG w' b r ks f left cnt := by
  obtain ⟨D, lf, h1, h2⟩ := h
  exact ⟨D, lf, h1.kept (row := none) ⟨hb.os, hb.tape, hb.output, hb.size, fun k hk _ => hb.block k hk⟩ (by simp) (by simp), h2⟩
theorem wp_range (h : MI w b ks f) (hg : o.guard = none) (m : Operand) (hop : o.op = Op.range 54 m) (hm : a.eval m = .map (some b))
    (hK : ∀ w', RG w' b w.heap.size ks f (fun x => decide (x ∈ ks)) ks.length → Below w.heap.size w w' → wpList Try.prog ops Q rest (a.put o.dst (.pointer (some ⟨w.heap.size, 0, none⟩))) w') : wpList Try.prog ops Q (o :: rest) a w := by
  obtain ⟨D, h1, h2, h3, h4⟩ := h
  refine wpList_range_own w hg m _ hop 3 3 law3 Try.underlying54 _ b _ D hm h1 (fun w' hr hgr hs => hK w' ⟨D, Maps.has D, by rw [← h4]; exact (by rw [h4]; exact (h4 ▸ hr)), h2, h3, h4, h2⟩ ⟨hgr.1, hgr.2, hgr.3, hgr.size, fun k hk => hgr.block k hk (by simp)⟩)
theorem wp_next {r : Nat} {left : Int → Bool} {cnt : Nat} (h : RG w b r ks f left cnt) (hg : o.guard = none) (it : Operand) (hop : o.op = Op.next it false) (hit : a.eval it = .pointer (some ⟨r, 0, none⟩))
    (hDone : (∀ x, left x = false) → wpList Try.prog ops Q rest (a.put o.dst (.tuple #[.bool false])) w)
    (hMore : ∀ (x : Int) (w' : World) (cnt' : Nat), W64 x → W64 (f x) → x ∈ ks → RG w' b r ks f (fun z => left z && !decide (z = x)) cnt' → cnt' < cnt → w.grownBy w' (some r) → (Instr.entry (.pointer (some ⟨r, 0, none⟩))).run Try.prog w' = .ok (.tuple #[.int .i64 x, .int .i64 (f x)]) w' →
      wpList Try.prog ops Q rest (a.put o.dst (.tuple #[.bool true, .int .i64 x, .int .i64 (f x)])) w') : wpList Try.prog ops Q (o :: rest) a w := by
  obtain ⟨D, lf, h1, h2, h3, h4, h5⟩ := h
  refine wpList_next_ranges_ii w hg it hop 3 3 .i64 .i64 law3 Try.underlying3 Try.underlying3 b r _ D lf cnt hit h1 (fun _ hl => hDone (fun x => by rw [← h5]; exact hl _)) (fun x c w' cnt' hwx hwc hlx hat hr hlt hgr hs hen => ?_)
  have hc : c = f x := by
    have h6 := hat zd
    rw [h3 x] at h6
    injection h6 with h6
    injection h6 with _ h6
    exact h6.symm
  subst hc
  refine hMore x w' cnt' (W64.of hwx) (W64.of hwc) (of_decide_eq_true ((h2 x).symm.trans (has_true_of_atKey hat))) ⟨D, _, hr, h2, h3, h4, fun z => ?_⟩ hlt hgr hen
  rw [h5]
  congr 1
  by_cases hz : z = x
  · subst hz
    simp [Lit.sameKey]
  · rw [sameKey_ne (ky_ne hz)]
    simp [hz]
end
end Go.Proofs.Ytlgkcjkicankmaa.Lk
