/- Maps from numbers to numbers: what lies in them, by key; look-ups, stores, delete, len, range. lockup.Rank: its walk. lockup.Ring: its walk. -/
import Derived.Test.YtginlhengebgaaaLockPr
import Derived.Test.YtginlhengebgaaaSame
import Derived.Maps.RangeWalk
import Derived.Maps.OwnOps
namespace Go.Proofs.Ytginlhengebgaaa.Lk
open Go Go.RowKit Go.Lib Go.Maps Go.Proofs.YtginlhengebgaaaW.PrintWords Go.Proofs.YtginlhengebgaaaW.PrintLast Go.Proofs.YtginlhengebgaaaW.PrintMore Go.Proofs.Ytginlhengebgaaa.PLockupEither Go.Proofs.Ytginlhengebgaaa.Bs
set_option maxRecDepth 100000
set_option linter.unusedVariables false
set_option linter.unusedSimpArgs false

abbrev ky (x : Int) : Lit := .int .i64 x
abbrev zd : DataW Unit := .lit (.int .i64 0)
def W64 (x : Int) : Prop := -9223372036854775808 ≤ x ∧ x ≤ 9223372036854775807
theorem W64.wf {x : Int} (h : W64 x) : (Lit.int .i64 x).wf = true := by
  unfold W64 at h
  simp [Lit.wf, IntKind.min, IntKind.max, IntKind.signed, IntKind.bits]
  omega
theorem W64.of {x : Int} (h : (Lit.int .i64 x).wf = true) : W64 x := by
  unfold W64
  simpa [Lit.wf, IntKind.min, IntKind.max, IntKind.signed, IntKind.bits] using h
theorem law3 : Keyed Try.prog 3 := int_keyed Try.underlying3
theorem zero3 (w : World) : (zeroValue 3).run Try.prog w = .ok (.int .i64 0) w := by kernel_rfl
theorem isKey (x : Int) : WideAt.IsKeyLit (ky x) := by
  first | exact trivial | exact True.intro | (unfold WideAt.IsKeyLit; trivial) | simp [WideAt.IsKeyLit]
theorem ky_ne {x y : Int} (h : x ≠ y) : ky x ≠ ky y := fun e => h (by injection e)
theorem hkey {x : Int} (h : W64 x) : keyOf Try.prog 3 (.int .i64 x) = some (ky x) := keyOf_int_mk Try.underlying3 h.wf
/-- f, with v at x -/
def upd (f : Int → Int) (x v : Int) : Int → Int := fun y => if y = x then v else f y
/-- block b is a map that has the keys ks, with f at them (nothing elsewhere) -/
def MI (w : World) (b : Nat) (ks : List Int) (f : Int → Int) : Prop :=
  ∃ D : DataW Unit, w.ownsMap Try.prog 3 (plainElem Try.prog 3) b ks.length D ∧ (∀ x, Maps.has D (ky x) = decide (x ∈ ks)) ∧ (∀ x, D.atKey (ky x) zd = .lit (.int .i64 (f x))) ∧ Maps.size D = ks.length
theorem own_size {w : World} {b n : Nat} {D : DataW Unit} (h : w.ownsMap Try.prog 3 (plainElem Try.prog 3) b n D) : w.ownsMap Try.prog 3 (plainElem Try.prog 3) b (Maps.size D) D := by
  obtain ⟨es, clock, hb, F, hs, hD⟩ := h
  refine ⟨es, clock, hb, F, ?_, hD⟩
  rw [hD, Maps.size_eq, length_read]
  exact Nat.le_refl _
theorem MI.new (w : World) : MI (w.alloc (.map #[] 0)) w.heap.size [] (fun _ => 0) :=
  ⟨.map [], World.ownsMap_made _ _ _ _, fun _ => rfl, fun _ => rfl, rfl⟩
theorem MI.lt {w : World} {b : Nat} {ks : List Int} {f : Int → Int} (h : MI w b ks f) : b < w.heap.size := by
  obtain ⟨D, h1, _⟩ := h
  exact h1.lt
theorem MI.kept {w w' : World} {b : Nat} {ks : List Int} {f : Int → Int} {row : Option Nat} (h : MI w b ks f) (hg : w.grownBy w' row) (hne : some b ≠ row) : MI w' b ks f := by
  obtain ⟨D, h1, h2⟩ := h
  exact ⟨D, h1.kept hg hne, h2⟩
theorem MI.below {w w' : World} {b : Nat} {ks : List Int} {f : Int → Int} (h : MI w b ks f) (hb : Below w.heap.size w w') : MI w' b ks f :=
  h.kept (row := none) ⟨hb.os, hb.tape, hb.output, hb.size, fun k hk _ => hb.block k hk⟩ (by simp)
section
variable {w : World} {ops : Array Oper} {rest : List Oper} {o : Oper} {a : Act} {Q : Exit → Act → World → Prop} {b : Nat} {ks : List Int} {f : Int → Int}
theorem wp_look (h : MI w b ks f) (hg : o.guard = none) (m x : Operand) (hop : o.op = Op.lookup 64 m x false) (hm : a.eval m = .map (some b)) (v : Int) (hx : a.eval x = .int .i64 v) (hv : W64 v)
    (hK : W64 (f v) → wpList Try.prog ops Q rest (a.put o.dst (.int .i64 (f v))) w) : wpList Try.prog ops Q (o :: rest) a w := by
  obtain ⟨D, h1, h2, h3, h4⟩ := h
  refine wpList_lookup_own_int w hg m x _ hop 3 3 .i64 law3 Try.underlying64 Try.underlying3 (zero3 w) b _ D hm h1 _ _ hx (hkey hv) (fun c hc hwc => ?_)
  rw [h3 v] at hc
  injection hc with hc
  injection hc with _ hc
  rw [← hc] at hwc ⊢
  exact hK (W64.of hwc)
theorem wp_look2 (h : MI w b ks f) (hg : o.guard = none) (m x : Operand) (hop : o.op = Op.lookup 64 m x true) (hm : a.eval m = .map (some b)) (v : Int) (hx : a.eval x = .int .i64 v) (hv : W64 v)
    (hK : W64 (f v) → wpList Try.prog ops Q rest (a.put o.dst (.tuple #[.int .i64 (f v), .bool (decide (v ∈ ks))])) w) : wpList Try.prog ops Q (o :: rest) a w := by
  obtain ⟨D, h1, h2, h3, h4⟩ := h
  refine wpList_lookup_own_ok_int w hg m x _ hop 3 3 .i64 law3 Try.underlying64 Try.underlying3 (zero3 w) b _ D hm h1 _ _ hx (hkey hv) (fun c hc hwc => ?_)
  rw [h3 v] at hc
  injection hc with hc
  injection hc with _ hc
  rw [← hc] at hwc ⊢
  rw [h2 v]
  exact hK (W64.of hwc)
theorem wp_put (h : MI w b ks f) (hg : o.guard = none) (m x y : Operand) (hop : o.op = Op.mapUpdate 64 m x y) (hm : a.eval m = .map (some b)) (hn : ks.length ≤ 1000000) (v c : Int) (hx : a.eval x = .int .i64 v) (hv : W64 v) (hy : a.eval y = .int .i64 c) (hc : W64 c)
    (hK : ∀ w', MI w' b (if v ∈ ks then ks else ks ++ [v]) (upd f v c) → w.grownBy w' (some b) → wpList Try.prog ops Q rest (a.put o.dst undef) w') : wpList Try.prog ops Q (o :: rest) a w := by
  obtain ⟨D, h1, h2, h3, h4⟩ := h
  have ht := h1.tidy law3
  refine wpList_mapUpdate_own w hg m x y _ hop 3 3 law3 Try.underlying64 _ b _ D hm h1 (by unfold maxLen; omega) _ _ _ hx hy (hkey hv) _ [] (plainElem_int Try.underlying3 hc.wf) (fun w' hw hgr => hK w' ?_ hgr)
  have hsz : Maps.size (D.put (ky v) (.lit (.int .i64 c))) = (if v ∈ ks then ks else ks ++ [v]).length := by
    rw [size_put ht, h2 v, h4]
    by_cases hm : v ∈ ks
    · rw [decide_eq_true hm, if_pos rfl, if_pos hm]
    · rw [decide_eq_false hm, if_neg (by decide), if_neg hm, List.length_append]; rfl
  refine ⟨_, by rw [← hsz]; exact own_size hw, fun z => ?_, fun z => ?_, hsz⟩
  · by_cases hz : z = v
    · subst hz
      rw [has_put_same ht.isMap (isKey z)]
      split
      · rename_i hm; exact (decide_eq_true hm).symm
      · exact (decide_eq_true (by simp)).symm
    · rw [has_put_other (ky_ne hz), h2 z]
      split
      · rfl
      · exact decide_eq_decide.2 (by simp [hz])
  · unfold upd
    by_cases hz : z = v
    · subst hz
      rw [atKey_put_same ht.isMap (isKey z), if_pos rfl]
    · rw [atKey_put_other (ky_ne hz), h3 z, if_neg hz]
theorem wp_del (h : MI w b ks f) (hd : ks.Nodup) (hg : o.guard = none) (m x : Operand) (hop : o.op = Op.call { callee := Callee.builtin Builtin.delete, args := #[m, x], argTypes := #[64, 3] }) (hm : a.eval m = .map (some b)) (v : Int) (hx : a.eval x = .int .i64 v) (hv : W64 v)
    (hK : ∀ w', MI w' b (ks.erase v) (upd f v 0) → w.grownBy w' (some b) → wpList Try.prog ops Q rest (a.put o.dst (.tuple #[])) w') : wpList Try.prog ops Q (o :: rest) a w := by
  obtain ⟨D, h1, h2, h3, h4⟩ := h
  have ht := h1.tidy law3
  refine wpList_delete_own w hg m x _ 3 hop 3 law3 Try.underlying64 _ b _ D hm h1 _ _ hx (hkey hv) (fun w' hw hgr => hK w' ?_ hgr.grown)
  have hsz : Maps.size (D.del (ky v)) = (ks.erase v).length := by
    have h5 := size_del (k := ky v) ht
    rw [h2 v, h4] at h5
    rw [List.length_erase]
    by_cases hm : v ∈ ks
    · rw [decide_eq_true hm, if_pos rfl] at h5
      rw [if_pos hm]
      omega
    · rw [decide_eq_false hm, if_neg (by decide)] at h5
      rw [if_neg hm]
      omega
  refine ⟨_, by rw [← hsz]; exact own_size hw, fun z => ?_, fun z => ?_, hsz⟩
  · by_cases hz : z = v
    · subst hz
      rw [has_del_same]
      exact (decide_eq_false (fun hm => (List.Nodup.mem_erase_iff hd).1 hm |>.1 rfl)).symm
    · rw [has_del_other (ky_ne hz), h2 z]
      exact decide_eq_decide.2 (List.mem_erase_of_ne hz).symm
  · unfold upd
    by_cases hz : z = v
    · subst hz
      rw [atKey_del_same, if_pos rfl]
    · rw [atKey_del_other (ky_ne hz), h3 z, if_neg hz]
theorem wp_len (h : MI w b ks f) (hg : o.guard = none) (m : Operand) (hop : o.op = Op.call { callee := Callee.builtin Builtin.len, args := #[m], argTypes := #[64] }) (hm : a.eval m = .map (some b))
    (hK : wpList Try.prog ops Q rest (a.put o.dst (.int .i64 (ks.length : Int))) w) : wpList Try.prog ops Q (o :: rest) a w := by
  obtain ⟨D, h1, h2, h3, h4⟩ := h
  refine wpList_len_own w hg m _ hop 3 3 Try.underlying64 _ b _ D hm h1 ?_
  rw [h4]
  exact hK
/-- the map in block b is being ranged over by block r: these are still to come, cnt of them -/
def RG (w : World) (b r : Nat) (ks : List Int) (f : Int → Int) (left : Int → Bool) (cnt : Nat) : Prop :=
  ∃ (D : DataW Unit) (lf : Lit → Bool), w.ranges Try.prog 3 (plainElem Try.prog 3) b r ks.length D lf cnt ∧ (∀ x, Maps.has D (ky x) = decide (x ∈ ks)) ∧ (∀ x, D.atKey (ky x) zd = .lit (.int .i64 (f x))) ∧ Maps.size D = ks.length ∧ ∀ x, lf (ky x) = left x
theorem RG.map {w : World} {r : Nat} {left : Int → Bool} {cnt : Nat} (h : RG w b r ks f left cnt) : MI w b ks f := by
  obtain ⟨D, lf, h1, h2, h3, h4, _⟩ := h
  exact ⟨D, h1.owns, h2, h3, h4⟩
theorem RG.below {w w' : World} {r : Nat} {left : Int → Bool} {cnt : Nat} (h : RG w b r ks f left cnt) (hb : Below w.heap.size w w') : RG w' b r ks f left cnt := by
  obtain ⟨D, lf, h1, h2⟩ := h
  exact ⟨D, lf, h1.kept (row := none) ⟨hb.os, hb.tape, hb.output, hb.size, fun k hk _ => hb.block k hk⟩ (by simp) (by simp), h2⟩
theorem wp_range (h : MI w b ks f) (hg : o.guard = none) (m : Operand) (hop : o.op = Op.range 64 m) (hm : a.eval m = .map (some b))
    (hK : ∀ w', RG w' b w.heap.size ks f (fun x => decide (x ∈ ks)) ks.length → Below w.heap.size w w' → wpList Try.prog ops Q rest (a.put o.dst (.pointer (some ⟨w.heap.size, 0, none⟩))) w') : wpList Try.prog ops Q (o :: rest) a w := by
  obtain ⟨D, h1, h2, h3, h4⟩ := h
  refine wpList_range_own w hg m _ hop 3 3 law3 Try.underlying64 _ b _ D hm h1 (fun w' hr hgr hs => hK w' ⟨D, Maps.has D, by rw [← h4]; exact (by rw [h4]; exact (h4 ▸ hr)), h2, h3, h4, h2⟩ ⟨hgr.1, hgr.2, hgr.3, hgr.size, fun k hk => hgr.block k hk (by simp)⟩)
theorem wp_next {r : Nat} {left : Int → Bool} {cnt : Nat} (h : RG w b r ks f left cnt) (hg : o.guard = none) (it : Operand) (hop : o.op = Op.next it false) (hit : a.eval it = .pointer (some ⟨r, 0, none⟩))
    (hDone : (∀ x, left x = false) → wpList Try.prog ops Q rest (a.put o.dst (.tuple #[.bool false])) w)
    (hMore : ∀ (x : Int) (w' : World) (cnt' : Nat), W64 x → W64 (f x) → x ∈ ks → RG w' b r ks f (fun z => left z && !decide (z = x)) cnt' → cnt' < cnt → w.grownBy w' (some r) → (Instr.entry (.pointer (some ⟨r, 0, none⟩))).run Try.prog w' = .ok (.tuple #[.int .i64 x, .int .i64 (f x)]) w' →
      wpList Try.prog ops Q rest (a.put o.dst (.tuple #[.bool true, .int .i64 x, .int .i64 (f x)])) w') : wpList Try.prog ops Q (o :: rest) a w := by
  obtain ⟨D, lf, h1, h2, h3, h4, h5⟩ := h
  refine wpList_next_ranges_ii w hg it hop 3 3 .i64 .i64 law3 Try.underlying3 Try.underlying3 b r _ D lf cnt hit h1 (fun _ hl => hDone (fun x => by rw [← h5]; exact hl _)) (fun x c w' cnt' hwx hwc hlx hat hr hlt hgr hs hen => ?_)
  have hc : c = f x := by
    have h6 := hat zd
    rw [h3 x] at h6
    injection h6 with h6
    injection h6 with _ h6
    exact h6.symm
  subst hc
  refine hMore x w' cnt' (W64.of hwx) (W64.of hwc) (of_decide_eq_true ((h2 x).symm.trans (has_true_of_atKey hat))) ⟨D, _, hr, h2, h3, h4, fun z => ?_⟩ hlt hgr hen
  rw [h5]
  congr 1
  by_cases hz : z = x
  · subst hz
    simp [Lit.sameKey]
  · rw [sameKey_ne (ky_ne hz)]
    simp [hz]
end
end Go.Proofs.Ytginlhengebgaaa.Lk
namespace Go.Proofs.Ytginlhengebgaaa.Lk
open Go Go.RowKit Go.Lib Go.Maps Go.Proofs.YtginlhengebgaaaW.PrintWords Go.Proofs.YtginlhengebgaaaW.PrintLast Go.Proofs.YtginlhengebgaaaW.PrintMore Go.Proofs.Ytginlhengebgaaa.PLockupEither Go.Proofs.Ytginlhengebgaaa.Bs
set_option linter.unusedVariables false
set_option linter.unusedSimpArgs false

abbrev kI : Kd Int := Kd.int .i64
theorem reads_of {w : World} {A : Option Addr} {n : Nat} {xs : List Int} (h : Kd.C kI w A n xs) : ReadsInt w .i64 A n xs := Kd.reads_of_C (d := (0 : Int)) (h1 := fun _ => rfl) h
theorem C_int {w : World} {A : Option Addr} {n : Nat} {xs : List Int} (h : ReadsInt w .i64 A n xs) : Kd.C kI w A n xs := Kd.C_of_reads (d := (0 : Int)) (h1 := fun _ => rfl) h
theorem C_cell {w : World} {A : Option Addr} {n : Nat} {xs : List Int} (h : Kd.C kI w A n xs) (i : Nat) (hi : i < xs.length) : ∃ ad, A = some ad ∧ w.cell? (ad.add i) = some (.int .i64 xs[i]) := by
  obtain ⟨ad, rfl, h0⟩ := Kd.at_int h (i : Int) (by omega) (by have := h.1; omega)
  have hrd : rd xs (i : Int) = xs[i] := by simp [rd, List.getD_eq_getElem?_getD, hi]
  rw [hrd, Int.toNat_natCast] at h0
  exact ⟨ad, rfl, h0⟩
theorem own_far {w w1 : World} {bo g n : Nat} {v : Value} {xs : List Value} (h : w.ownsRow bo 3 1 v n xs) (hg : w.grownBy w1 (some g)) (hlt : g < bo) : w1.ownsRow bo 3 1 v n xs := by
  refine own_other h (row := some g) hg ?_
  by_cases hv : v.ownBlock = none
  · exact .inl hv
  · refine .inr fun e => ?_
    have := World.ownsRow.lt h g e
    omega
theorem own_lower {w : World} {base base' : Nat} {e : TypeId} {size : Nat} {v : Value} {n : Nat} {xs : List Value} (h : w.ownsRow base e size v n xs) (hb : base' ≤ base) : w.ownsRow base' e size v n xs := by
  obtain ⟨h1, h2⟩ := h
  refine ⟨h1, ?_⟩
  rcases h2 with h2 | ⟨g, cap, cur, e1, e2, e3⟩
  · exact .inl h2
  · exact .inr ⟨g, cap, cur, e1, Nat.le_trans hb e2, e3⟩
theorem own_ne {w : World} {bo g n : Nat} {v : Value} {xs : List Value} (h : w.ownsRow bo 3 1 v n xs) (hlt : g < bo) : v.ownBlock ≠ some g := fun e => by
  have := World.ownsRow.lt h g e
  omega
theorem own_keep {w w1 : World} {bo n : Nat} {v : Value} {xs : List Value} (h : w.ownsRow bo 3 1 v n xs) (hb : Below w.heap.size w w1) : w1.ownsRow bo 3 1 v n xs := by
  refine own_other h (row := none) ⟨hb.os, hb.tape, hb.output, hb.size, fun k hk _ => hb.block k hk⟩ ?_
  by_cases hv : v.ownBlock = none
  · exact .inl hv
  · exact .inr hv
theorem gb_trans {a b c : World} {r : Option Nat} (h1 : a.grownBy b r) (h2 : b.grownBy c r) : a.grownBy c r :=
  ⟨h2.1.trans h1.1, h2.2.trans h1.2, h2.3.trans h1.3, Nat.le_trans h1.size h2.size, fun k hk hn => (h2.block k (Nat.lt_of_lt_of_le hk h1.size) hn).trans (h1.block k hk hn)⟩
theorem gb_below {a b : World} (r : Option Nat) (h : Below a.heap.size a b) : a.grownBy b r := ⟨h.1, h.2, h.3, h.size, fun k hk _ => h.block k hk⟩
theorem blk_grown {w w' : World} {g b : Nat} {cs : Array Value} {t : TypeId} (h : w.heap[g]? = some (.cells cs t (0, 0))) (hg : w.grownBy w' (some b)) (hne : g ≠ b) : w'.heap[g]? = some (.cells cs t (0, 0)) :=
  (hg.block g (Array.getElem?_eq_some_iff.1 h).1 (fun e => hne (by injection e))).trans h
theorem at32 {w : World} {A : Option Addr} {n : Nat} {xs : List S32} (h : Kd.C k32 w A n xs) (i : Nat) (hi : i < xs.length) : ∃ ad, A = some ad ∧ w.cell? (ad.add (i * 2)) = some (.int .i64 xs[i].f0) ∧ w.cell? ⟨(ad.add (i * 2)).block, (ad.add (i * 2)).off + 1, none⟩ = some (.int .i64 xs[i].f1) := by
  obtain ⟨ad, e, h0, h1⟩ := at_T32 h (i : Int) (by omega) (by have := h.1; omega)
  have hrd : rd_T32 xs (i : Int) = xs[i] := by unfold rd_T32; simp [List.getD_eq_getElem?_getD, hi]
  rw [hrd, Int.toNat_natCast] at h0 h1
  exact ⟨ad, e, h0, h1⟩

/-- one key more -/
def addK (ks : List Int) (x : Int) : List Int := if x ∈ ks then ks else ks ++ [x]
theorem addK_len (ks : List Int) (x : Int) : (addK ks x).length ≤ ks.length + 1 := by unfold addK; split <;> simp
theorem addK_nodup {ks : List Int} (h : ks.Nodup) (x : Int) : (addK ks x).Nodup := by
  unfold addK
  split
  · exact h
  · rename_i hx
    exact List.nodup_append.2 ⟨h, by simp, fun a ha b hb => by rw [List.mem_singleton.1 hb]; exact fun e => hx (e ▸ ha)⟩
abbrev wI (x : Int) : Int := wrap64 x
theorem wI_w (x : Int) : W64 (wI x) := by unfold W64 wI wrap64; omega
theorem wI_id {x : Int} (h : W64 x) : IntKind.i64.wrap x = x := by unfold W64 at h; rw [IntKind.wrap_i64]; omega
theorem upd_self (f : Int → Int) (x : Int) : upd f x (f x) = f := by
  funext y
  unfold upd
  split
  · rename_i h; rw [h]
  · rfl
def fillP : List S32 → List Int → (Int → Int) → List Int × (Int → Int)
  | [], ks, f => (ks, f)
  | p :: l, ks, f => fillP l (addK (addK ks p.f0) p.f1) (upd f p.f1 (wI (f p.f1 + 1)))
def decP : List S32 → Int → List Int → (Int → Int) → List Int × (Int → Int)
  | [], _, ks, f => (ks, f)
  | p :: l, m, ks, f => if p.f0 = m then decP l m (addK ks p.f1) (upd f p.f1 (wI (f p.f1 - 1))) else decP l m ks f
/-- m is the least key that waits for nobody -/
def IsLeast (ks : List Int) (f : Int → Int) (m : Int) : Prop := m ∈ ks ∧ f m = 0 ∧ ∀ x ∈ ks, f x = 0 → m ≤ x
def leastOf (ks : List Int) (f : Int → Int) : Option Int := (ks.filter (fun x => decide (f x = 0))).min?
theorem leastOf_some {ks : List Int} {f : Int → Int} {m : Int} (h : IsLeast ks f m) : leastOf ks f = some m := by
  unfold leastOf
  rw [List.min?_eq_some_iff]
  exact ⟨List.mem_filter.2 ⟨h.1, decide_eq_true h.2.1⟩, fun x hx => h.2.2 x (List.mem_filter.1 hx).1 (of_decide_eq_true (List.mem_filter.1 hx).2)⟩
theorem leastOf_none {ks : List Int} {f : Int → Int} (h : ∀ x ∈ ks, f x ≠ 0) : leastOf ks f = none := by
  unfold leastOf
  rw [List.min?_eq_none_iff, List.filter_eq_nil_iff]
  intro x hx
  simpa using h x hx
def rankG (l : List S32) : Nat → List Int → (Int → Int) → List Int → Option (List Int × Bool)
  | 0, _, _, _ => none
  | k + 1, ks, f, out => if ks = [] then some (out, true) else match leastOf ks f with
    | none => some ([], false)
    | some m => if ks.length ≤ 10000 ∧ out.length ≤ 10000 then rankG l k (decP l m (ks.erase m) (upd f m 0)).1 (decP l m (ks.erase m) (upd f m 0)).2 (out ++ [m]) else none
/-- what Rank tells -/
def rankF (K : Nat) (l : List S32) : Option (List Int × Bool × Int) := if 200 < l.length then some ([], false, 2) else (rankG l K (fillP l [] (fun _ => 0)).1 (fillP l [] (fun _ => 0)).2 []).map fun x => (x.1, x.2, 0)
theorem RG.left_eq {w : World} {b r : Nat} {ks : List Int} {f : Int → Int} {left : Int → Bool} {cnt : Nat} (h : RG w b r ks f left cnt) : w.rangeLeft b r = cnt := by
  obtain ⟨D, lf, h1, _⟩ := h
  exact h1.left_eq
/-- as far as the range has come -/
structure Seen (ks : List Int) (f : Int → Int) (left : Int → Bool) (least : Int) (some_ : Bool) : Prop where
  no : some_ = false → ∀ x ∈ ks, left x = false → f x ≠ 0
  yes : some_ = true → W64 least ∧ least ∈ ks ∧ f least = 0 ∧ ∀ x ∈ ks, left x = false → f x = 0 → least ≤ x
theorem Seen.start (ks : List Int) (f : Int → Int) : Seen ks f (fun x => decide (x ∈ ks)) 0 false :=
  ⟨fun _ x hx hl => absurd hx (of_decide_eq_false hl), fun h => by cases h⟩
theorem left_cases {left : Int → Bool} {x z : Int} (h : (left z && !decide (z = x)) = false) : left z = false ∨ z = x := by
  rw [Bool.and_eq_false_iff] at h
  rcases h with h | h
  · exact .inl h
  · exact .inr (by simpa using h)
theorem Seen.stay {ks : List Int} {f : Int → Int} {left : Int → Bool} {least x : Int} {some_ : Bool} (h : Seen ks f left least some_) (hx : f x ≠ 0 ∨ (some_ = true ∧ least ≤ x)) : Seen ks f (fun z => left z && !decide (z = x)) least some_ := by
  refine ⟨fun hs z hz hl hf => ?_, fun hs => ?_⟩
  · rcases left_cases hl with h1 | h1
    · exact h.no hs z hz h1 hf
    · subst h1
      rcases hx with h2 | h2
      · exact h2 hf
      · rw [hs] at h2; cases h2.1
  · obtain ⟨h1, h2, h3, h4⟩ := h.yes hs
    refine ⟨h1, h2, h3, fun z hz hl hf => ?_⟩
    rcases left_cases hl with h5 | h5
    · exact h4 z hz h5 hf
    · subst h5
      rcases hx with h6 | h6
      · exact absurd hf h6
      · exact h6.2
theorem Seen.take {ks : List Int} {f : Int → Int} {left : Int → Bool} {least x : Int} {some_ : Bool} (h : Seen ks f left least some_) (hw : W64 x) (hk : x ∈ ks) (hf : f x = 0) (hx : some_ = false ∨ x < least) : Seen ks f (fun z => left z && !decide (z = x)) x true := by
  refine ⟨fun hs => by (cases hs), fun _ => ⟨hw, hk, hf, fun z hz hl hzf => ?_⟩⟩
  rcases left_cases hl with h5 | h5
  · rcases hx with h6 | h6
    · exact absurd hzf (h.no h6 z hz h5)
    · cases hs : some_ with
      | false => exact absurd hzf (h.no hs z hz h5)
      | true =>
        have := (h.yes hs).2.2.2 z hz h5 hzf
        omega
  · rw [h5]; exact Int.le_refl _
theorem Seen.least {ks : List Int} {f : Int → Int} {left : Int → Bool} {least : Int} {some_ : Bool} (h : Seen ks f left least some_) (hl : ∀ x, left x = false) : (some_ = false ∧ leastOf ks f = none) ∨ (some_ = true ∧ leastOf ks f = some least ∧ W64 least) := by
  cases hs : some_ with
  | false => exact .inl ⟨rfl, leastOf_none (fun x hx => h.no hs x hx (hl x))⟩
  | true =>
    obtain ⟨h1, h2, h3, h4⟩ := h.yes hs
    exact .inr ⟨rfl, leastOf_some ⟨h2, h3, fun x hx hf => h4 x hx (hl x) hf⟩, h1⟩

theorem own_row {w w1 : World} {bo g n : Nat} {v : Value} {xs : List Value} (h : w.ownsRow bo 3 1 v n xs) (hg : w.grownBy w1 (some g)) (hne : v.ownBlock ≠ some g) : w1.ownsRow bo 3 1 v n xs := by
  refine own_other h (row := some g) hg ?_
  by_cases hv : v.ownBlock = none
  · exact .inl hv
  · exact .inr hne
set_option maxHeartbeats 16000000 in
set_option maxRecDepth 100000 in
theorem rank_calls (K : Nat) (w : World) (A : Option Addr) (c : Nat) (l : List S32) (r : List Int) (ok : Bool) (e : Int) (hr : Kd.C k32 w A l.length l) (hc : l.length ≤ c) (hw : ∀ p ∈ l, W64 p.f0 ∧ W64 p.f1) (h : rankF K l = some (r, ok, e)) :
    Calls Try.prog 14 #[.slice A l.length c] w fun en w' => ∃ v, en = .returned (.tuple #[v, .bool ok, .int .i64 e]) ∧ w'.ownsRow w.heap.size 3 1 v r.length (nums .i64 r) ∧ Below w.heap.size w w' := by
  have HR := Aside0.mk hr
  have HW := Aside0.mk hw
  unfold rankF at h
  clear hr hw
  by_cases hl : 200 < l.length
  · rw [if_pos hl] at h
    simp only [Option.some.injEq, Prod.mk.injEq] at h
    obtain ⟨rfl, rfl, rfl⟩ := h
    have hl1 : (200 : Int) < (l.length : Int) := by omega
    go_enter Try.func14, Try.ntmps14
    go_wp2
    exact bodyPost_ret (v := .tuple #[.slice none 0 0, .bool false, .int .i64 2]) (by simp [results, Try.f14, go_sem]) rfl ⟨_, rfl, World.ownsRow_nil _ _ _ _, Below.refl _ _⟩
  · rw [if_neg hl] at h
    obtain ⟨⟨x1, x2⟩, hx, h⟩ := Option.map_eq_some_iff.1 h
    simp only [Prod.mk.injEq] at h
    obtain ⟨rfl, rfl, rfl⟩ := h
    have HG := Aside0.mk hx
    have hl2 : l.length ≤ 200 := by omega
    have hl1 : (l.length : Int) ≤ 200 := by omega
    clear h hx
    have hmm := @run_makeMap Try.prog
    go_enter Try.func14, Try.ntmps14
    go_upto_region 4 with (fail)
    clear hmm
    have HM0 := Aside0.mk (MI.new w)
    have HB0 := Aside0.mk (below_alloc (Below.refl w.heap.size w) (.map #[] 0))
    have hsz : (w.alloc (.map #[] 0)).heap.size = w.heap.size + 1 := Array.size_push _
    obtain ⟨b, hb⟩ : ∃ b, b = w.heap.size := ⟨_, rfl⟩
    have HBE := Aside0.mk hb
    have HSZ := Aside0.mk (show b + 1 ≤ (w.alloc (.map #[] 0)).heap.size by rw [hsz, hb]; exact Nat.le_refl _)
    rw [← hb] at HM0 ⊢
    generalize (w.alloc (.map #[] 0)) = W0 at HM0 HB0 HSZ ⊢
    clear hb hsz
    obtain ⟨FN, hFN⟩ : ∃ FN, FN = fillP l [] (fun _ => 0) := ⟨_, rfl⟩
    rw [← hFN] at HG
    have HF0 := Aside0.mk (show fillP (l.drop 0) [] (fun _ => 0) = FN from hFN.symm)
    clear hFN
    go_wp2_with fail
    go_loopw [21] (fun v21 wr => ∃ (i : Nat) (ks : List Int) (f : Int → Int), v21 = .int .i64 (i : Int) ∧ i ≤ l.length ∧ Aside0 (ks.length ≤ 2 * i) ∧ Aside0 ks.Nodup ∧ Aside0 (fillP (l.drop i) ks f = FN) ∧ Aside0 (MI wr b ks f) ∧ Aside0 (Below w.heap.size w wr) ∧ Aside0 (b + 1 ≤ wr.heap.size)) (fun v21 _ => l.length - (intOf v21).toNat)
    case atStart => exact ⟨0, [], _, rfl, Nat.zero_le _, ⟨Nat.zero_le _⟩, ⟨List.nodup_nil⟩, HF0, HM0, HB0, HSZ⟩
    case round =>
      clear HF0 HM0 HB0 HSZ
      obtain ⟨i, ks, f, rfl, hi, HKL, HND, HF, HM, HB, HSZ⟩ := hrel
      by_cases hlt : i < l.length
      · have hlt1 : (i : Int) < (l.length : Int) := by omega
        obtain ⟨ad, rfl, h0, h1⟩ := at32 (Kd.C_below HR.out HB.out) i hlt
        have hwx := HW.out l[i] (List.getElem_mem hlt)
        have H := HF.out
        rw [List.drop_eq_getElem_cons hlt] at H
        simp only [fillP] at H
        obtain ⟨x, hx⟩ : ∃ x, x = l[i].f0 := ⟨_, rfl⟩
        obtain ⟨y, hy⟩ : ∃ y, y = l[i].f1 := ⟨_, rfl⟩
        rw [← hx] at h0 hwx H
        rw [← hy] at h1 hwx H
        have HH := Aside0.mk H
        obtain ⟨hwx, hwy⟩ := hwx
        have HWX := Aside0.mk hwx
        have HWY := Aside0.mk hwy
        clear hx hy H HF hwx hwy
        go_upto_region 7 with (fail)
        have hba := below_alloc (Below.refl wr.heap.size wr) (.cells #[Value.int .i64 x, Value.int .i64 y] 32)
        have n1 := heap_alloc_new wr (.cells #[Value.int .i64 x, Value.int .i64 y] 32)
        have HB1 := Aside0.mk (below_then HB.out HB.out.size hba)
        have HM1 := Aside0.mk (HM.out.below hba)
        have HNE := Aside0.mk (show wr.heap.size ≠ b by have := HSZ.out; omega)
        have HSZ1 := Aside0.mk (Nat.le_trans HSZ.out hba.size)
        obtain ⟨g, hg⟩ : ∃ g, g = wr.heap.size := ⟨_, rfl⟩
        rw [← hg] at n1 HNE ⊢
        have k0 := blk_cell n1 0
        simp only [List.getElem?_toArray, List.getElem?_cons_zero, List.getElem?_cons_succ] at k0
        generalize (wr.alloc (.cells #[Value.int .i64 x, Value.int .i64 y] 32)) = W1 at n1 k0 HB1 HM1 HSZ1 ⊢
        have HK1 := Aside0.mk n1
        clear h0 h1 hba n1 hg HB HM HSZ
        go_wp2_with (first
          | (at_lookup; refine wp_look HM1.out rfl _ _ rfl rfl _ rfl HWX.out ?_; intro hwf; have hwr := wI_id hwf; have HWF := Aside0.mk hwf; clear hwf)
          | (at_mapUpdate; refine wp_put HM1.out rfl _ _ _ rfl rfl (by have := HKL.out; omega) _ _ rfl HWX.out rfl HWF.out ?_; intro w2 hm2 hg2; rw [upd_self] at hm2; have HM2 := Aside0.mk (show MI w2 b (addK ks x) f from hm2); have hk2 := blk_grown HK1.out hg2 HNE.out; have HK2 := Aside0.mk hk2; have HB2 := Aside0.mk (Below.grown HB1.out hg2 HB1.out.size (fun k hk => by cases hk; rw [HBE.out]; exact Nat.le_refl _)); have HSZ2 := Aside0.mk (Nat.le_trans HSZ1.out hg2.size); have k1 := blk_cell hk2 1; simp only [List.getElem?_toArray, List.getElem?_cons_zero, List.getElem?_cons_succ] at k1; clear hm2 hg2 hk2 k0 hwr)
          | (at_lookup; refine wp_look HM2.out rfl _ _ rfl rfl _ rfl HWY.out ?_; intro hwf2; clear hwf2)
          | (at_mapUpdate; refine wp_put HM2.out rfl _ _ _ rfl rfl (by have := HKL.out; have := addK_len ks x; omega) _ _ rfl HWY.out rfl (wI_w _) ?_; intro w3 hm3 hg3; have HM3 := Aside0.mk (show MI w3 b (addK (addK ks x) y) (upd f y (wI (f y + 1))) from hm3); have HB3 := Aside0.mk (Below.grown HB2.out hg3 HB2.out.size (fun k hk => by cases hk; rw [HBE.out]; exact Nat.le_refl _)); have HSZ3 := Aside0.mk (Nat.le_trans HSZ2.out hg3.size); clear hm3 hg3)
          | fail)
        go_roundw
        case rel => exact ⟨i + 1, _, _, by go_num, hlt, ⟨by have := HKL.out; have h1 := addK_len ks x; have h2 := addK_len (addK ks x) y; omega⟩, ⟨addK_nodup (addK_nodup HND.out _) _⟩, HH, HM3, HB3, HSZ3⟩
        case measure => simp [intOf]; omega
      · have HFE := Aside0.mk (show (ks, f) = FN by
          have h := HF.out
          rw [List.drop_eq_nil_of_le (by omega)] at h
          exact h)
        have hle : l.length ≤ i := by omega
        have HG2 := Aside0.mk (show rankG l K ks f [] = some (x1, x2) by have h := HG.out; rw [← HFE.out] at h; exact h)
        have HBO := Aside0.mk (show b < b + 1 ∧ w.heap.size ≤ b + 1 by rw [HBE.out]; exact ⟨by omega, by omega⟩)
        clear HG HF HFE
        go_wp2_with fail
        go_loopg [8] K (fun kq v8 wq => ∃ (ks : List Int) (f : Int → Int) (out : List Int), Aside0 (rankG l kq ks f out = some (x1, x2)) ∧ Aside0 (kq ≤ K) ∧ Aside0 ks.Nodup ∧ Aside0 (MI wq b ks f) ∧ Aside0 (wq.ownsRow (b + 1) 3 1 v8 out.length (nums .i64 out)) ∧ Aside0 (Below w.heap.size w wq) ∧ Aside0 (b + 1 ≤ wq.heap.size))
        case atStart => exact ⟨ks, f, [], HG2, ⟨Nat.le_refl _⟩, HND, HM, ⟨World.ownsRow_nil _ _ _ _⟩, HB, HSZ⟩
        case round =>
          clear HG2 HND HM HB HSZ
          obtain ⟨ks, f, out, HG, HKK, HND, HM, HO, HB, HSZ⟩ := hrel
          cases gk with
          | zero => exact absurd HG.out (by simp [rankG])
          | succ k1 =>
            have H := HG.out
            simp only [rankG] at H
            by_cases hks : ks = []
            · subst hks
              rw [if_pos rfl] at H
              simp only [Option.some.injEq, Prod.mk.injEq] at H
              obtain ⟨rfl, rfl⟩ := H
              go_wp2_with (at_len; refine wp_len HM.out rfl _ rfl rfl ?_)
              exact bodyPost_ret (v := .tuple #[u8, .bool true, .int .i64 0]) (by simp [results, Try.f14, go_sem]) rfl ⟨_, rfl, own_lower HO.out HBO.out.2, HB.out⟩
            · rw [if_neg hks] at H
              have HH := Aside0.mk H
              have hkp : 0 < ks.length := List.length_pos_iff.2 hks
              have hkp1 : (0 : Int) < (ks.length : Int) := by omega
              clear H HG hks
              go_wp2_with (first
                | (at_len; refine wp_len HM.out rfl _ rfl rfl ?_)
                | (at_range; refine wp_range HM.out rfl _ rfl rfl ?_; intro w5 hrg hb5; have HRG0 := Aside0.mk hrg; have HB5 := Aside0.mk hb5; clear hrg hb5)
                | fail)
              go_frame
              obtain ⟨rr, hrr⟩ : ∃ rr, rr = wr.heap.size := ⟨_, rfl⟩
              have HON := Aside0.mk (show u8.ownBlock ≠ some rr from fun e => by
                have := World.ownsRow.lt HO.out rr e
                omega)
              have HRR := Aside0.mk (show w.heap.size ≤ rr by have := HB.out.size; omega)
              have HO5 := Aside0.mk (own_keep HO.out HB5.out)
              have HBw := Aside0.mk (below_then HB.out HB.out.size HB5.out)
              have HSZ5 := Aside0.mk (Nat.le_trans HSZ.out HB5.out.size)
              rw [← hrr] at HRG0 ⊢
              clear hrr HO HB HB5 HSZ HM
              go_loopw [9, 10] (fun v9 v10 wq => ∃ (least : Int) (sm : Bool) (left : Int → Bool) (cnt : Nat), v9 = .int .i64 least ∧ v10 = .bool sm ∧ Aside0 (RG wq b rr ks f left cnt) ∧ Aside0 (Seen ks f left least sm) ∧ Aside0 (wq.ownsRow (b + 1) 3 1 u8 out.length (nums .i64 out)) ∧ Aside0 (Below w.heap.size w wq) ∧ Aside0 (b + 1 ≤ wq.heap.size)) (fun _ _ wq => wq.rangeLeft b rr)
              case atStart => exact ⟨0, false, _, _, rfl, rfl, HRG0, ⟨Seen.start ks f⟩, HO5, HBw, HSZ5⟩
              case round =>
                clear HRG0 HO5 HBw HSZ5
                obtain ⟨least, sm, left, cnt, rfl, rfl, HRG, HS, HO, HB, HSZ⟩ := hrel
                go_wp2_with (at_next; refine wp_next HRG.out rfl _ rfl rfl ?_ ?_)
                · intro hl0
                  have HL := HS.out.least hl0
                  have HM := Aside0.mk HRG.out.map
                  have H := HH.out
                  clear HS HRG hl0
                  rcases HL with ⟨rfl, h2⟩ | ⟨rfl, h2, h3⟩
                  · rw [h2] at H
                    simp only [Option.some.injEq, Prod.mk.injEq] at H
                    obtain ⟨rfl, rfl⟩ := H
                    clear HH h2
                    go_wp2
                    exact bodyPost_ret (v := .tuple #[.slice none 0 0, .bool false, .int .i64 0]) (by simp [results, Try.f14, go_sem]) rfl ⟨_, rfl, World.ownsRow_nil _ _ _ _, HB.out⟩
                  · rw [h2] at H
                    by_cases hgd : ks.length ≤ 10000 ∧ out.length ≤ 10000
                    · simp only [if_pos hgd] at H
                      have HGD := Aside0.mk hgd
                      have HLW := Aside0.mk h3
                      obtain ⟨FD, hFD⟩ : ∃ FD, FD = decP l least (ks.erase least) (upd f least 0) := ⟨_, rfl⟩
                      rw [← hFD] at H
                      have HN := Aside0.mk H
                      have HFD := Aside0.mk (show decP (l.drop 0) least (ks.erase least) (upd f least 0) = FD from hFD.symm)
                      clear HH h2 h3 hgd H hFD
                      have hba := below_alloc (Below.refl wr.heap.size wr) (.cells #[Value.int .i64 least] 3)
                      have HOa := Aside0.mk (own_keep HO.out hba)
                      have HMa := Aside0.mk (HM.out.below hba)
                      have HSa := Aside0.mk (Nat.le_trans HSZ.out hba.size)
                      have HA := Aside0.mk (Below.alloc (Below.refl (b + 1) wr) HSZ.out (.cells #[Value.int .i64 least] 3))
                      have HNB := Aside0.mk (own_ne HO.out HBO.out.1)
                      clear hba
                      go_wp2_with (first
                        | (at_builtin; refine print_append_row (w0 := wr) (b + 1) rfl _ _ 24 3 .i64 8 rfl Try.underlying24 infoInt (by decide) _ out [least] _ 1 1 rfl rfl HOa.out (reads_lit _ [least] (by simp) _) HA.out HSa.out (by have := HGD.out; show (out.length + 1) * 8 ≤ _; omega) ?_; intro v1 w6 hown hB hg hat; have HO6 := Aside0.mk hown; have HB6 := Aside0.mk (Below.trans HB.out (Below.mono hB HBO.out.2)); have HM6 := Aside0.mk (HMa.out.kept hg (fun e => HNB.out e.symm)); have HS6 := Aside0.mk (Nat.le_trans HSZ.out hB.size); clear hown hB hg hat)
                        | (at_delete; refine wp_del HM6.out HND.out rfl _ _ rfl rfl _ rfl HLW.out ?_; intro w7 hm7 hg7; have HM7 := Aside0.mk hm7; have HO7 := Aside0.mk (own_far HO6.out hg7 HBO.out.1); have HB7 := Aside0.mk (Below.grown HB6.out hg7 HB6.out.size (fun k hk => by cases hk; rw [HBE.out]; exact Nat.le_refl _)); have HS7 := Aside0.mk (Nat.le_trans HS6.out hg7.size); clear hm7 hg7)
                        | fail)
                      go_loopw [68] (fun v68 wq => ∃ (i : Nat) (ks2 : List Int) (f2 : Int → Int), v68 = .int .i64 (i : Int) ∧ i ≤ l.length ∧ Aside0 (ks2.length ≤ 10000 + i) ∧ Aside0 ks2.Nodup ∧ Aside0 (decP (l.drop i) least ks2 f2 = FD) ∧ Aside0 (MI wq b ks2 f2) ∧ Aside0 (wq.ownsRow (b + 1) 3 1 v1 (out ++ [least]).length (nums .i64 (out ++ [least]))) ∧ Aside0 (Below w.heap.size w wq) ∧ Aside0 (b + 1 ≤ wq.heap.size)) (fun v68 _ => l.length - (intOf v68).toNat)
                      case atStart => exact ⟨0, _, _, rfl, Nat.zero_le _, ⟨by have h1 := HGD.out.1; have h2 := List.length_erase_le (a := least) (l := ks); omega⟩, ⟨HND.out.erase _⟩, HFD, HM7, HO7, HB7, HS7⟩
                      case round =>
                        clear HFD HM7 HO7 HB7 HS7 HO6 HB6 HM6 HS6 HOa HMa HSa HA HO HB HSZ HM
                        obtain ⟨i, ks2, f2, rfl, hi, HKL, HND2, HF, HM, HO, HB, HSZ⟩ := hrel
                        by_cases hlt : i < l.length
                        · have hlt1 : (i : Int) < (l.length : Int) := by omega
                          obtain ⟨ad, rfl, h0, h1⟩ := at32 (Kd.C_below HR.out HB.out) i hlt
                          have hwx := HW.out l[i] (List.getElem_mem hlt)
                          have H := HF.out
                          rw [List.drop_eq_getElem_cons hlt] at H
                          simp only [decP] at H
                          obtain ⟨x, hx⟩ : ∃ x, x = l[i].f0 := ⟨_, rfl⟩
                          obtain ⟨y, hy⟩ : ∃ y, y = l[i].f1 := ⟨_, rfl⟩
                          rw [← hx] at h0 hwx H
                          rw [← hy] at h1 hwx H
                          have HH := Aside0.mk H
                          obtain ⟨hwx, hwy⟩ := hwx
                          have HWY := Aside0.mk hwy
                          clear hx hy H HF hwx hwy
                          go_upto_region 25 with (fail)
                          have hba := below_alloc (Below.refl wr.heap.size wr) (.cells #[Value.int .i64 x, Value.int .i64 y] 32)
                          have n1 := heap_alloc_new wr (.cells #[Value.int .i64 x, Value.int .i64 y] 32)
                          have HB1 := Aside0.mk (below_then HB.out HB.out.size hba)
                          have HM1 := Aside0.mk (HM.out.below hba)
                          have HO1 := Aside0.mk (own_keep HO.out hba)
                          have HSZ1 := Aside0.mk (Nat.le_trans HSZ.out hba.size)
                          obtain ⟨g, hg⟩ : ∃ g, g = wr.heap.size := ⟨_, rfl⟩
                          rw [← hg] at n1 ⊢
                          have k0 := blk_cell n1 0
                          have k1 := blk_cell n1 1
                          simp only [List.getElem?_toArray, List.getElem?_cons_zero, List.getElem?_cons_succ] at k0 k1
                          generalize (wr.alloc (.cells #[Value.int .i64 x, Value.int .i64 y] 32)) = W1 at n1 k0 k1 HB1 HM1 HO1 HSZ1 ⊢
                          clear h0 h1 hba n1 hg HB HM HSZ HO
                          by_cases hxl : x = least
                          · have HH2 := Aside0.mk (show decP (l.drop (i + 1)) least (addK ks2 y) (upd f2 y (wI (f2 y - 1))) = FD by have h := HH.out; rwa [if_pos hxl] at h)
                            have d1 : (x == least) = true := beq_iff_eq.2 hxl
                            clear HH hxl
                            go_wp2_with (first
                              | (at_lookup; refine wp_look HM1.out rfl _ _ rfl rfl _ rfl HWY.out ?_; intro hwf2; clear hwf2)
                              | (at_mapUpdate; refine wp_put HM1.out rfl _ _ _ rfl rfl (by have := HKL.out; omega) _ _ rfl HWY.out rfl (wI_w _) ?_; intro w3 hm3 hg3; have HM3 := Aside0.mk (show MI w3 b (addK ks2 y) (upd f2 y (wI (f2 y - 1))) from hm3); have HO3 := Aside0.mk (own_far HO1.out hg3 HBO.out.1); have HB3 := Aside0.mk (Below.grown HB1.out hg3 HB1.out.size (fun k hk => by cases hk; rw [HBE.out]; exact Nat.le_refl _)); have HSZ3 := Aside0.mk (Nat.le_trans HSZ1.out hg3.size); clear hm3 hg3)
                              | fail)
                            go_roundw
                            case rel => exact ⟨i + 1, _, _, by go_num, hlt, ⟨by have := HKL.out; have h1 := addK_len ks2 y; omega⟩, ⟨addK_nodup HND2.out _⟩, HH2, HM3, HO3, HB3, HSZ3⟩
                            case measure => simp [intOf]; omega
                          · have HH2 := Aside0.mk (show decP (l.drop (i + 1)) least ks2 f2 = FD by have h := HH.out; rwa [if_neg hxl] at h)
                            have d1 : (x == least) = false := beq_eq_false_iff_ne.2 hxl
                            clear HH hxl
                            go_wp2
                            go_roundw
                            case rel => exact ⟨i + 1, _, _, by go_num, hlt, ⟨by have := HKL.out; omega⟩, HND2, HH2, HM1, HO1, HB1, HSZ1⟩
                            case measure => simp [intOf]; omega
                        · have HFE := Aside0.mk (show (ks2, f2) = FD by
                            have h := HF.out
                            rw [List.drop_eq_nil_of_le (by omega)] at h
                            exact h)
                          have hle : l.length ≤ i := by omega
                          go_wp2
                          go_roundg k1
                          case measure => have := HKK.out; omega
                          case rel => exact ⟨ks2, f2, out ++ [least], ⟨by have h := HN.out; rw [← HFE.out] at h; exact h⟩, ⟨by have := HKK.out; omega⟩, HND2, HM, HO, HB, HSZ⟩
                    · simp only [if_neg hgd] at H
                      cases H
                · intro x w7 cnt2 hwx hwf hlx hrg7 hlt7 hg7 hen
                  have HRG7 := Aside0.mk hrg7
                  have HO7 := Aside0.mk (own_row HO.out hg7 HON.out)
                  have HB7 := Aside0.mk (Below.grown HB.out hg7 HB.out.size (fun k hk => by cases hk; exact HRR.out))
                  have HS7 := Aside0.mk (Nat.le_trans HSZ.out hg7.size)
                  have HLT := Aside0.mk (show w7.rangeLeft b rr < wr.rangeLeft b rr by rw [hrg7.left_eq, HRG.out.left_eq]; exact hlt7)
                  have HXK := Aside0.mk hlx
                  have HWX := Aside0.mk hwx
                  clear hrg7 hlt7 hg7 HRG HO HB HSZ hlx hwf hwx
                  by_cases hf0 : f x = 0
                  · have HF0 := Aside0.mk hf0
                    cases sm with
                    | false =>
                      have HS2 := Aside0.mk (HS.out.take HWX.out HXK.out hf0 (.inl rfl))
                      go_wp2
                      go_roundw
                      case rel => exact ⟨x, true, _, cnt2, rfl, rfl, HRG7, HS2, HO7, HB7, HS7⟩
                      case measure => exact HLT.out
                    | true =>
                      by_cases hxl : x < least
                      · have HS2 := Aside0.mk (HS.out.take HWX.out HXK.out hf0 (.inr hxl))
                        go_wp2
                        go_roundw
                        case rel => exact ⟨x, true, _, cnt2, rfl, rfl, HRG7, HS2, HO7, HB7, HS7⟩
                        case measure => exact HLT.out
                      · have HS2 := Aside0.mk (HS.out.stay (x := x) (.inr ⟨rfl, by omega⟩))
                        have hlx2 : least ≤ x := by omega
                        go_wp2
                        go_roundw
                        case rel => exact ⟨least, true, _, cnt2, rfl, rfl, HRG7, HS2, HO7, HB7, HS7⟩
                        case measure => exact HLT.out
                  · have HS2 := Aside0.mk (HS.out.stay (x := x) (.inl hf0))
                    have d1 : (f x == 0) = false := beq_eq_false_iff_ne.2 hf0
                    clear hf0
                    go_wp2
                    go_roundw
                    case rel => exact ⟨least, sm, _, cnt2, rfl, rfl, HRG7, HS2, HO7, HB7, HS7⟩
                    case measure => exact HLT.out
end Go.Proofs.Ytginlhengebgaaa.Lk
namespace Go.Proofs.Ytginlhengebgaaa.Lk
open Go Go.RowKit Go.Lib Go.Maps Go.Proofs.YtginlhengebgaaaW.PrintWords Go.Proofs.YtginlhengebgaaaW.PrintLast Go.Proofs.YtginlhengebgaaaW.PrintMore Go.Proofs.Ytginlhengebgaaa.PLockupEither Go.Proofs.Ytginlhengebgaaa.Bs
set_option linter.unusedVariables false
set_option linter.unusedSimpArgs false

structure S30 where
  f0 : Int
  f1 : Int
  f2 : Int
def z30 : S30 := ⟨(0 : Int), (0 : Int), (0 : Int)⟩
def k30 : Kd S30 := Kd.iso (Kd.pair (Kd.int .i64) (Kd.pair (Kd.int .i64) (Kd.int .i64))) (fun x : S30 => (x.f0, x.f1, x.f2))
theorem k30_open {w : World} {x : S30} {cs : List Value} (h : k30.K w x cs) : cs = [.int .i64 x.f0, .int .i64 x.f1, .int .i64 x.f2] := by
  obtain ⟨_, _, rfl, rfl, ⟨_, _, rfl, rfl, rfl⟩⟩ := h
  exact rfl
theorem at30 {w : World} {A : Option Addr} {n : Nat} {xs : List S30} (h : Kd.C k30 w A n xs) (i : Nat) (hi : i < xs.length) : ∃ ad, A = some ad ∧ w.cell? (ad.add (i * 3)) = some (.int .i64 xs[i].f0) ∧ w.cell? ⟨(ad.add (i * 3)).block, (ad.add (i * 3)).off + 1, none⟩ = some (.int .i64 xs[i].f1) ∧ w.cell? ⟨(ad.add (i * 3)).block, (ad.add (i * 3)).off + 2, none⟩ = some (.int .i64 xs[i].f2) := by
  obtain ⟨ad, c, e, _, hK, hc0⟩ := Kd.C_get h z30 (i : Int) (by omega) (by have := h.1; omega)
  rw [Int.toNat_natCast, show xs.getD i z30 = xs[i] by simp [List.getD_eq_getElem?_getD, hi]] at hK
  rw [Int.toNat_natCast] at hc0
  have hc : ∀ j u, c[j]? = some u → w.cell? (ad.add (i * 3 + j)) = some u := hc0
  obtain rfl := k30_open hK
  exact ⟨ad, e, hc 0 _ rfl, by rw [← add_field _ _ 1 (by omega)]; exact hc 1 _ rfl, by rw [← add_field _ _ 2 (by omega)]; exact hc 2 _ rfl⟩

theorem index_l0 (l : List Int) (n : Int) (hb : l.length ≤ 100000) : ∀ (j i f : Nat), i + j = l.length → ∃ p : Int, slices_Index_int_int.l0 (f + j + 1) l n (l.length : Int) (i : Int) = some p ∧ (0 ≤ p ↔ n ∈ l.drop i) ∧ (0 ≤ p → ∃ q : Nat, p = (q : Int) ∧ q < l.length ∧ l.getD q 0 = n ∧ ∀ j, i ≤ j → j < q → l.getD j 0 ≠ n) ∧ (p < 0 → p = -1)
  | 0, i, f, h => by
    refine ⟨-1, ?_, ?_, fun h => by omega, fun _ => rfl⟩
    · show slices_Index_int_int.l0 (f + 1) _ _ _ _ = _
      rw [slices_Index_int_int.l0, if_neg (by omega)]
    · rw [List.drop_eq_nil_of_le (by omega)]
      exact ⟨fun h => absurd h (by decide), fun h => by cases h⟩
  | j + 1, i, f, h => by
    have hi : i < l.length := by omega
    have e1 : rd l (i : Int) = l[i] := by simp [rd, List.getD_eq_getElem?_getD, hi]
    have e2 : l.getD i 0 = l[i] := by simp [List.getD_eq_getElem?_getD, hi]
    rw [show f + (j + 1) + 1 = f + j + 1 + 1 by omega, slices_Index_int_int.l0, if_pos (by omega), if_pos (by omega), if_pos (by omega), e1, List.drop_eq_getElem_cons hi]
    by_cases he : n = l[i]
    · rw [if_pos he]
      exact ⟨(i : Int), rfl, ⟨fun _ => by rw [he]; exact List.mem_cons_self, fun _ => by omega⟩, fun _ => ⟨i, rfl, hi, by rw [e2, he], fun j h1 h2 => by omega⟩, fun h => by omega⟩
    · rw [if_neg he, show wrap64 ((i : Int) + 1) = ((i + 1 : Nat) : Int) by unfold wrap64; omega]
      obtain ⟨p, h1, h2, h3, h4⟩ := index_l0 l n hb j (i + 1) f (by omega)
      refine ⟨p, h1, ⟨fun hp => List.mem_cons_of_mem _ (h2.1 hp), fun hm => h2.2 (by
        rcases List.mem_cons.1 hm with h5 | h5
        · exact absurd h5 he
        · exact h5)⟩, fun hp => ?_, h4⟩
      obtain ⟨q, h5, h6, h7, h8⟩ := h3 hp
      refine ⟨q, h5, h6, h7, fun j h9 h10 => ?_⟩
      by_cases hji : j = i
      · rw [hji, e2]; exact fun e => he e.symm
      · exact h8 j (by omega) h10
theorem index_f (l : List Int) (n : Int) (hb : l.length ≤ 900) : ∃ p : Int, slices_Index_int_int.f 1000 l n = some p ∧ (0 ≤ p ↔ n ∈ l) ∧ (0 ≤ p → ∃ q : Nat, p = (q : Int) ∧ q < l.length ∧ l.getD q 0 = n ∧ ∀ j, j < q → l.getD j 0 ≠ n) ∧ (p < 0 → p = -1) := by
  obtain ⟨f, hf⟩ : ∃ f, 1000 = f + l.length + 1 := ⟨1000 - (l.length + 1), by omega⟩
  obtain ⟨p, h1, h2, h3, h4⟩ := index_l0 l n (by omega) l.length 0 f (by omega)
  rw [← hf] at h1
  refine ⟨p, h1, h2, fun hp => ?_, h4⟩
  obtain ⟨q, h5, h6, h7, h8⟩ := h3 hp
  exact ⟨q, h5, h6, h7, fun j hj => h8 j (Nat.zero_le _) hj⟩
theorem contains_f (l : List Int) (n : Int) (hb : l.length ≤ 900) : slices_Contains_int_int.f 1000 l n = some (decide (n ∈ l)) := by
  obtain ⟨p, h1, h2, _⟩ := index_f l n hb
  unfold slices_Contains_int_int.f
  rw [h1]
  dsimp only [Option.bind]
  exact congrArg some (decide_eq_decide.2 h2)
/-- a thread that may be -/
def thr (n : Int) : Bool := decide (0 ≤ n) && decide (n < 8)
theorem thread_calls (w : World) (n : Int) : Calls Try.prog 29 #[.int .i64 n] w fun e w' => e = .returned (.bool (thr n)) ∧ Drawn0 w w' := by
  refine lockup_thread.calls n (thr n) w ?_
  unfold lockup_thread.f thr
  by_cases h : n ≥ 0
  · rw [if_pos h, decide_eq_true (show 0 ≤ n from h), Bool.true_and]
  · rw [if_neg h, decide_eq_false (show ¬ 0 ≤ n from h), Bool.false_and]
theorem thr_w {n : Int} (h : thr n = true) : W64 n := by
  unfold thr at h
  simp at h
  unfold W64
  omega
/-- who waits for whom, put down one by one -/
def linkF : List S30 → List Int → (Int → Int) → Int × List Int × (Int → Int)
  | [], ks, f => (0, ks, f)
  | p :: l, ks, f => if (thr p.f0 && thr p.f1) = false then (1, ks, f) else if p.f0 ∈ ks then (6, ks, f) else linkF l (ks ++ [p.f0]) (upd f p.f0 p.f1)
/-- from x on, to t again? -/
def chase (ks : List Int) (f : Int → Int) (t : Int) : Nat → List Int → Int → Option (Option (List Int))
  | 0, _, _ => none
  | k + 1, ring, x => if x ∈ ks then (if f x = t then some (some ring) else if ring.length ≤ 500 then (if f x ∈ ring then some none else chase ks f t k (ring ++ [f x]) (f x)) else none) else some none
def tourF (K : Nat) (ks : List Int) (f : Int → Int) : Nat → Int → Option (Option (List Int))
  | 0, _ => some none
  | j + 1, t => (chase ks f t K [t] t).bind fun x => match x with
    | some r => some (some r)
    | none => tourF K ks f j (t + 1)
/-- what Ring tells -/
def ringF (K : Nat) (l : List S30) : Option (List Int × Bool × Int) :=
  if 8 < l.length then some ([], false, 2) else if (linkF l [] (fun _ => 0)).1 ≠ 0 then some ([], false, (linkF l [] (fun _ => 0)).1) else
    (tourF K (linkF l [] (fun _ => 0)).2.1 (linkF l [] (fun _ => 0)).2.2 8 0).map fun x => match x with
      | some r => (r, true, 0)
      | none => ([], false, 0)

set_option maxHeartbeats 16000000 in
set_option maxRecDepth 100000 in
theorem ring_calls (K : Nat) (w : World) (A : Option Addr) (c : Nat) (l : List S30) (r : List Int) (is : Bool) (e : Int) (hr : Kd.C k30 w A l.length l) (hc : l.length ≤ c) (h : ringF K l = some (r, is, e)) :
    Calls Try.prog 13 #[.slice A l.length c] w fun en w' => ∃ v, en = .returned (.tuple #[v, .bool is, .int .i64 e]) ∧ w'.ownsRow w.heap.size 3 1 v r.length (nums .i64 r) ∧ Below w.heap.size w w' := by
  have HR := Aside0.mk hr
  unfold ringF at h
  clear hr
  by_cases hl : 8 < l.length
  · rw [if_pos hl] at h
    simp only [Option.some.injEq, Prod.mk.injEq] at h
    obtain ⟨rfl, rfl, rfl⟩ := h
    have hl1 : (8 : Int) < (l.length : Int) := by omega
    go_enter Try.func13, Try.ntmps13
    go_wp2
    exact bodyPost_ret (v := .tuple #[.slice none 0 0, .bool false, .int .i64 2]) (by simp [results, Try.f13, go_sem]) rfl ⟨_, rfl, World.ownsRow_nil _ _ _ _, Below.refl _ _⟩
  · rw [if_neg hl] at h
    have hl2 : l.length ≤ 8 := by omega
    have hl1 : (l.length : Int) ≤ 8 := by omega
    obtain ⟨FN, hFN⟩ : ∃ FN, FN = linkF l [] (fun _ => 0) := ⟨_, rfl⟩
    rw [← hFN] at h
    have HG := Aside0.mk h
    have HF0 := Aside0.mk (show linkF (l.drop 0) [] (fun _ => 0) = FN from hFN.symm)
    clear h hFN
    have hmm := @run_makeMap Try.prog
    go_enter Try.func13, Try.ntmps13
    go_upto_region 4 with (fail)
    clear hmm
    have HM0 := Aside0.mk (MI.new w)
    have HB0 := Aside0.mk (below_alloc (Below.refl w.heap.size w) (.map #[] 0))
    have hsz : (w.alloc (.map #[] 0)).heap.size = w.heap.size + 1 := Array.size_push _
    obtain ⟨b, hb⟩ : ∃ b, b = w.heap.size := ⟨_, rfl⟩
    have HBE := Aside0.mk hb
    have HBO := Aside0.mk (show b < b + 1 ∧ w.heap.size ≤ b + 1 by rw [hb]; exact ⟨by omega, by omega⟩)
    have HSZ := Aside0.mk (show b + 1 ≤ (w.alloc (.map #[] 0)).heap.size by rw [hsz, hb]; exact Nat.le_refl _)
    rw [← hb] at HM0 ⊢
    generalize (w.alloc (.map #[] 0)) = W0 at HM0 HB0 HSZ ⊢
    clear hb hsz
    go_wp2_with fail
    go_loopw [20] (fun v20 wr => ∃ (i : Nat) (ks : List Int) (f : Int → Int), v20 = .int .i64 (i : Int) ∧ i ≤ l.length ∧ Aside0 (ks.length ≤ i) ∧ Aside0 (linkF (l.drop i) ks f = FN) ∧ Aside0 (MI wr b ks f) ∧ Aside0 (Below w.heap.size w wr) ∧ Aside0 (b + 1 ≤ wr.heap.size)) (fun v20 _ => l.length - (intOf v20).toNat)
    case atStart => exact ⟨0, [], _, rfl, Nat.zero_le _, ⟨Nat.zero_le _⟩, HF0, HM0, HB0, HSZ⟩
    case round =>
      clear HF0 HM0 HB0 HSZ
      obtain ⟨i, ks, f, rfl, hi, HKL, HF, HM, HB, HSZ⟩ := hrel
      by_cases hlt : i < l.length
      · have hlt1 : (i : Int) < (l.length : Int) := by omega
        obtain ⟨ad, rfl, h0, h1, h2⟩ := at30 (Kd.C_below HR.out HB.out) i hlt
        have H := HF.out
        rw [List.drop_eq_getElem_cons hlt] at H
        simp only [linkF] at H
        generalize l[i].f0 = x at h0 H
        generalize l[i].f1 = y at h1 H
        generalize l[i].f2 = z at h2
        have HH := Aside0.mk H
        clear H HF
        go_upto_region 7 with (fail)
        have hba := below_alloc (Below.refl wr.heap.size wr) (.cells #[Value.int .i64 x, Value.int .i64 y, Value.int .i64 z] 30)
        have n1 := heap_alloc_new wr (.cells #[Value.int .i64 x, Value.int .i64 y, Value.int .i64 z] 30)
        have HB1 := Aside0.mk (below_then HB.out HB.out.size hba)
        have HM1 := Aside0.mk (HM.out.below hba)
        have HSZ1 := Aside0.mk (Nat.le_trans HSZ.out hba.size)
        obtain ⟨g, hg⟩ : ∃ g, g = wr.heap.size := ⟨_, rfl⟩
        rw [← hg] at n1 ⊢
        have k0 := blk_cell n1 0
        simp only [List.getElem?_toArray, List.getElem?_cons_zero, List.getElem?_cons_succ] at k0
        generalize (wr.alloc (.cells #[Value.int .i64 x, Value.int .i64 y, Value.int .i64 z] 30)) = W1 at n1 k0 HB1 HM1 HSZ1 ⊢
        have HK1 := Aside0.mk n1
        clear h0 h1 h2 hba n1 hg HB HM HSZ
        go_wp2_with fail
        refine (thread_calls _ x).mono ?_
        rintro en w2 ⟨rfl, hd⟩
        have hb := hd.below
        have hk2 := blk_below HK1.out hb
        have HK2 := Aside0.mk hk2
        have HB2 := Aside0.mk (below_then HB1.out HB1.out.size hb)
        have HM2 := Aside0.mk (HM1.out.below hb)
        have HSZ2 := Aside0.mk (Nat.le_trans HSZ1.out hb.size)
        clear hb hd k0 HK1 HB1 HM1 HSZ1
        have k0 := blk_cell hk2 0
        have k1 := blk_cell hk2 1
        simp only [List.getElem?_toArray, List.getElem?_cons_zero, List.getElem?_cons_succ] at k0 k1
        clear hk2
        cases hx : thr x with
        | false =>
          have HE := Aside0.mk (show r = [] ∧ is = false ∧ e = 1 by
            have h1 := HH.out
            rw [hx, Bool.false_and, if_pos rfl] at h1
            have h2 := HG.out
            rw [← h1] at h2
            rw [if_pos (show (1 : Int) ≠ 0 by decide)] at h2
            simp only [Option.some.injEq, Prod.mk.injEq] at h2
            exact ⟨h2.1.symm, h2.2.1.symm, h2.2.2.symm⟩)
          obtain ⟨rfl, rfl, rfl⟩ := HE.out
          clear hx HH HG HE
          go_wp2
          exact bodyPost_ret (v := .tuple #[.slice none 0 0, .bool false, .int .i64 1]) (by simp [results, Try.f13, go_sem]) rfl ⟨_, rfl, World.ownsRow_nil _ _ _ _, HB2.out⟩
        | true =>
          have HX := Aside0.mk hx
          clear hx
          go_wp2_with fail
          refine (thread_calls _ y).mono ?_
          rintro en w3 ⟨rfl, hd⟩
          have hb := hd.below
          have hk3 := blk_below HK2.out hb
          have HK3 := Aside0.mk hk3
          have HB3 := Aside0.mk (below_then HB2.out HB2.out.size hb)
          have HM3 := Aside0.mk (HM2.out.below hb)
          have HSZ3 := Aside0.mk (Nat.le_trans HSZ2.out hb.size)
          clear hb hd k0 k1 HK2 HB2 HM2 HSZ2
          have k0 := blk_cell hk3 0
          have k1 := blk_cell hk3 1
          simp only [List.getElem?_toArray, List.getElem?_cons_zero, List.getElem?_cons_succ] at k0 k1
          clear hk3
          cases hy : thr y with
          | false =>
            have HE := Aside0.mk (show r = [] ∧ is = false ∧ e = 1 by
              have h1 := HH.out
              rw [hy, Bool.and_false, if_pos rfl] at h1
              have h2 := HG.out
              rw [← h1] at h2
              rw [if_pos (show (1 : Int) ≠ 0 by decide)] at h2
              simp only [Option.some.injEq, Prod.mk.injEq] at h2
              exact ⟨h2.1.symm, h2.2.1.symm, h2.2.2.symm⟩)
            obtain ⟨rfl, rfl, rfl⟩ := HE.out
            clear hy HH HG HE HX
            go_wp2
            exact bodyPost_ret (v := .tuple #[.slice none 0 0, .bool false, .int .i64 1]) (by simp [results, Try.f13, go_sem]) rfl ⟨_, rfl, World.ownsRow_nil _ _ _ _, HB3.out⟩
          | true =>
            have HY := Aside0.mk hy
            have HH2 := Aside0.mk (show (if x ∈ ks then (6, ks, f) else linkF (l.drop (i + 1)) (ks ++ [x]) (upd f x y)) = FN by
              have h := HH.out
              rw [HX.out, hy, Bool.true_and] at h
              rwa [if_neg (by decide)] at h)
            clear hy HH
            have HWX := Aside0.mk (thr_w HX.out)
            have HWY := Aside0.mk (thr_w HY.out)
            by_cases hm : x ∈ ks
            · have HE := Aside0.mk (show r = [] ∧ is = false ∧ e = 6 by
                have h1 := HH2.out
                rw [if_pos hm] at h1
                have h2 := HG.out
                rw [← h1] at h2
                rw [if_pos (show (6 : Int) ≠ 0 by decide)] at h2
                simp only [Option.some.injEq, Prod.mk.injEq] at h2
                exact ⟨h2.1.symm, h2.2.1.symm, h2.2.2.symm⟩)
              obtain ⟨rfl, rfl, rfl⟩ := HE.out
              have dm : decide (x ∈ ks) = true := decide_eq_true hm
              clear HH2 HG HE HX HY
              go_wp2_with (at_lookup; refine wp_look2 HM3.out rfl _ _ rfl rfl _ rfl HWX.out ?_; intro hwf; clear hwf; rw [dm])
              exact bodyPost_ret (v := .tuple #[.slice none 0 0, .bool false, .int .i64 6]) (by simp [results, Try.f13, go_sem]) rfl ⟨_, rfl, World.ownsRow_nil _ _ _ _, HB3.out⟩
            · have HH3 := Aside0.mk (show linkF (l.drop (i + 1)) (ks ++ [x]) (upd f x y) = FN by have h := HH2.out; rwa [if_neg hm] at h)
              have dm : decide (x ∈ ks) = false := decide_eq_false hm
              have HNM := Aside0.mk hm
              clear HH2 HX HY hm
              go_wp2_with (first
                | (at_lookup; refine wp_look2 HM3.out rfl _ _ rfl rfl _ rfl HWX.out ?_; intro hwf; clear hwf; rw [dm])
                | (at_mapUpdate; refine wp_put HM3.out rfl _ _ _ rfl rfl (by have := HKL.out; omega) _ _ rfl HWX.out rfl HWY.out ?_; intro w4 hm4 hg4; rw [if_neg HNM.out] at hm4; have HM4 := Aside0.mk hm4; have HB4 := Aside0.mk (Below.grown HB3.out hg4 HB3.out.size (fun k hk => by cases hk; rw [HBE.out]; exact Nat.le_refl _)); have HSZ4 := Aside0.mk (Nat.le_trans HSZ3.out hg4.size); clear hm4 hg4)
                | fail)
              go_roundw
              case rel => exact ⟨i + 1, _, _, by go_num, hlt, ⟨by have := HKL.out; rw [List.length_append]; show _ + 1 ≤ _; omega⟩, HH3, HM4, HB4, HSZ4⟩
              case measure => simp [intOf]; omega
      · have HFE := Aside0.mk (show (0, ks, f) = FN by
          have h := HF.out
          rw [List.drop_eq_nil_of_le (by omega)] at h
          exact h)
        have hle : l.length ≤ i := by omega
        obtain ⟨res, htour, hres⟩ := Option.map_eq_some_iff.1 (show (tourF K ks f 8 0).map (fun x => match x with
          | some r => (r, true, (0 : Int))
          | none => ([], false, 0)) = some (r, is, e) by
          have h := HG.out
          rw [← HFE.out] at h
          rwa [if_neg (fun h => h rfl)] at h)
        have HT0 := Aside0.mk (show tourF K ks f (8 - 0) ((0 : Nat) : Int) = some res from htour)
        have HRES := Aside0.mk hres
        clear HG HF HFE htour hres
        go_wp2_with fail
        go_loopw [48] (fun v48 wq => ∃ t : Nat, v48 = .int .i64 (t : Int) ∧ t ≤ 8 ∧ Aside0 (tourF K ks f (8 - t) (t : Int) = some res) ∧ Aside0 (MI wq b ks f) ∧ Aside0 (Below w.heap.size w wq) ∧ Aside0 (b + 1 ≤ wq.heap.size)) (fun v48 _ => 8 - (intOf v48).toNat)
        case atStart => exact ⟨0, rfl, Nat.zero_le _, HT0, HM, HB, HSZ⟩
        case round =>
          clear HT0 HM HB HSZ
          obtain ⟨t, rfl, ht, HT, HM, HB, HSZ⟩ := hrel
          by_cases hlt : t < 8
          · have hlt1 : (t : Int) < 8 := by omega
            have HWT := Aside0.mk (show W64 (t : Int) by unfold W64; omega)
            have H := HT.out
            rw [show 8 - t = (8 - (t + 1)) + 1 by omega] at H
            simp only [tourF] at H
            obtain ⟨cr, hcr, H⟩ := Option.bind_eq_some_iff.1 H
            have HCR := Aside0.mk hcr
            have HH := Aside0.mk H
            clear hcr H HT
            have hba := below_alloc (Below.refl wr.heap.size wr) (.cells #[Value.int .i64 (t : Int)] 3)
            have HB1 := Aside0.mk (below_then HB.out HB.out.size hba)
            have HM1 := Aside0.mk (HM.out.below hba)
            have HSZ1 := Aside0.mk (Nat.le_trans HSZ.out hba.size)
            have HO1 := Aside0.mk (own_lower (own_lit wr [(t : Int)] (by simp)) HSZ.out)
            clear hba HM HB HSZ
            go_wp2_with (at_lookup; refine wp_look2 HM1.out rfl _ _ rfl rfl _ rfl HWT.out ?_; intro hwf; have HWF := Aside0.mk hwf; clear hwf)
            go_loopg [11, 12, 13] K (fun kq v11 v12 v13 wq => ∃ (ring : List Int) (x : Int), v12 = .int .i64 (f x) ∧ v13 = .bool (decide (x ∈ ks)) ∧ Aside0 (W64 (f x)) ∧ Aside0 (chase ks f (t : Int) kq ring x = some cr) ∧ Aside0 (kq ≤ K) ∧ Aside0 (MI wq b ks f) ∧ Aside0 (wq.ownsRow (b + 1) 3 1 v11 ring.length (nums .i64 ring)) ∧ Aside0 (Below w.heap.size w wq) ∧ Aside0 (b + 1 ≤ wq.heap.size))
            case atStart => exact ⟨[(t : Int)], (t : Int), rfl, rfl, HWF, HCR, ⟨Nat.le_refl _⟩, HM1, HO1, HB1, HSZ1⟩
            case round =>
              clear HCR HM1 HO1 HB1 HSZ1
              obtain ⟨ring, x, rfl, rfl, HWF, HCR, HKK, HM, HO, HB, HSZ⟩ := hrel
              cases gk with
              | zero => exact absurd HCR.out (by simp [chase])
              | succ k1 =>
                have H := HCR.out
                simp only [chase] at H
                obtain ⟨A11, d11, rfl, hd11, hr11⟩ := own_rd HO.out
                have HR11 := Aside0.mk hr11
                clear hr11 HCR
                by_cases hm : x ∈ ks
                · rw [if_pos hm] at H
                  have dm : decide (x ∈ ks) = true := decide_eq_true hm
                  rw [dm]
                  obtain ⟨n, hn⟩ : ∃ n, n = f x := ⟨_, rfl⟩
                  rw [← hn] at H HWF ⊢
                  clear hm dm hn
                  by_cases hnt : n = (t : Int)
                  · rw [if_pos hnt] at H
                    have hcr := (Option.some.inj H)
                    subst hcr
                    have HE := Aside0.mk (show r = ring ∧ is = true ∧ e = 0 by
                      have h1 := HH.out
                      simp only [Option.some.injEq] at h1
                      have h2 := HRES.out
                      rw [← h1] at h2
                      simp only [Prod.mk.injEq] at h2
                      exact ⟨h2.1.symm, h2.2.1.symm, h2.2.2.symm⟩)
                    obtain ⟨rfl, rfl, rfl⟩ := HE.out
                    subst hnt
                    clear H HH HRES HE
                    go_wp2
                    exact bodyPost_ret (v := .tuple #[.slice A11 r.length d11, .bool true, .int .i64 0]) (by simp [results, Try.f13, go_sem]) rfl ⟨_, rfl, own_lower HO.out HBO.out.2, HB.out⟩
                  · rw [if_neg hnt] at H
                    have d1 : (n == (t : Int)) = false := beq_eq_false_iff_ne.2 hnt
                    by_cases hrl : ring.length ≤ 500
                    · rw [if_pos hrl] at H
                      have HCO := Aside0.mk (slices_Contains_int_int.calls 1000 A11 d11 ring n _ wr (C_int HR11.out) hd11 (contains_f ring n (by omega)))
                      clear hnt
                      go_wp2_with fail
                      refine HCO.out.mono ?_
                      rintro en w5 ⟨rfl, hd⟩
                      have hb := hd.below
                      have HM5 := Aside0.mk (HM.out.below hb)
                      have HO5 := Aside0.mk (own_keep HO.out hb)
                      have HB5 := Aside0.mk (below_then HB.out HB.out.size hb)
                      have HSZ5 := Aside0.mk (Nat.le_trans HSZ.out hb.size)
                      clear hb hd HCO HM HO HB HSZ
                      by_cases hmr : n ∈ ring
                      · rw [if_pos hmr] at H
                        have hcr := (Option.some.inj H)
                        subst hcr
                        rw [decide_eq_true hmr]
                        have HN := Aside0.mk (show tourF K ks f (8 - (t + 1)) ((t : Int) + 1) = some res from HH.out)
                        clear H HH hmr
                        go_wp2
                        go_roundw
                        case rel => exact ⟨t + 1, by go_num, hlt, HN, HM5, HB5, HSZ5⟩
                        case measure => simp [intOf]; omega
                      · rw [if_neg hmr] at H
                        have HCN := Aside0.mk H
                        rw [decide_eq_false hmr]
                        have HRL := Aside0.mk hrl
                        clear H hmr hrl
                        have hba := below_alloc (Below.refl w5.heap.size w5) (.cells #[Value.int .i64 n] 3)
                        have HOa := Aside0.mk (own_keep HO5.out hba)
                        have HMa := Aside0.mk (HM5.out.below hba)
                        have HSa := Aside0.mk (Nat.le_trans HSZ5.out hba.size)
                        have HA := Aside0.mk (Below.alloc (Below.refl (b + 1) w5) HSZ5.out (.cells #[Value.int .i64 n] 3))
                        have HNB := Aside0.mk (own_ne HO5.out HBO.out.1)
                        clear hba
                        go_wp2_with (first
                          | (at_builtin; refine print_append_row (w0 := w5) (b + 1) rfl _ _ 24 3 .i64 8 rfl Try.underlying24 infoInt (by decide) _ ring [n] _ 1 1 rfl rfl HOa.out (reads_lit _ [n] (by simp) _) HA.out HSa.out (by have := HRL.out; show (ring.length + 1) * 8 ≤ _; omega) ?_; intro v1 w6 hown hB hg hat; have HO6 := Aside0.mk hown; have HB6 := Aside0.mk (Below.trans HB5.out (Below.mono hB HBO.out.2)); have HM6 := Aside0.mk (HMa.out.kept hg (fun e => HNB.out e.symm)); have HS6 := Aside0.mk (Nat.le_trans HSZ5.out hB.size); clear hown hB hg hat)
                          | (at_lookup; refine wp_look2 HM6.out rfl _ _ rfl rfl _ rfl HWF.out ?_; intro hwf; have HWN := Aside0.mk hwf; clear hwf)
                          | fail)
                        go_roundg k1
                        case measure => have := HKK.out; omega
                        case rel => exact ⟨ring ++ [n], n, rfl, rfl, HWN, HCN, ⟨by have := HKK.out; omega⟩, HM6, HO6, HB6, HS6⟩
                    · rw [if_neg hrl] at H
                      cases H
                · rw [if_neg hm] at H
                  have hcr := (Option.some.inj H)
                  subst hcr
                  have dm : decide (x ∈ ks) = false := decide_eq_false hm
                  rw [dm]
                  have HN := Aside0.mk (show tourF K ks f (8 - (t + 1)) ((t : Int) + 1) = some res from HH.out)
                  clear H HH hm dm
                  go_wp2
                  go_roundw
                  case rel => exact ⟨t + 1, by go_num, hlt, HN, HM, HB, HSZ⟩
                  case measure => simp [intOf]; omega
          · have HE := Aside0.mk (show r = [] ∧ is = false ∧ e = 0 by
              have h := HT.out
              rw [show 8 - t = 0 by omega] at h
              simp only [tourF, Option.some.injEq] at h
              have h2 := HRES.out
              rw [← h] at h2
              simp only [Prod.mk.injEq] at h2
              exact ⟨h2.1.symm, h2.2.1.symm, h2.2.2.symm⟩)
            obtain ⟨rfl, rfl, rfl⟩ := HE.out
            have hle8 : (8 : Int) ≤ (t : Int) := by omega
            have hle8n : 8 ≤ t := by omega
            clear HE HRES HT
            go_wp2
            exact bodyPost_ret (v := .tuple #[.slice none 0 0, .bool false, .int .i64 0]) (by simp [results, Try.f13, go_sem]) rfl ⟨_, rfl, World.ownsRow_nil _ _ _ _, HB.out⟩
end Go.Proofs.Ytginlhengebgaaa.Lk
