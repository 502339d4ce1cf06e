/- A map that a call makes itself: what it holds, as a list of pairs; its look-ups and its stores. -/
import Derived.WalkKit
import Derived.Laws.StructEq
import Derived.RangeFuncRecord
import Derived.Maps.OwnOps
import Derived.KernelRfl
namespace Go.Proofs.Ytginlhengebgaaa.Mp
open Go Go.RowKit
set_option linter.unusedVariables false
set_option linter.unusedSimpArgs false
variable {K V : Type}

/-- the first pair at x: its place, and its value -/
def seek [DecidableEq K] (x : K) : List (K × V) → Nat → Option (Nat × V)
  | [], _ => none
  | (k, v) :: m, i => if x = k then some (i, v) else seek x m (i + 1)
def get [DecidableEq K] (m : List (K × V)) (x : K) : Option V := (seek x m 0).map (·.2)
def put [DecidableEq K] (m : List (K × V)) (x : K) (v : V) : List (K × V) := match seek x m 0 with
  | some (i, _) => m.set i (x, v)
  | none => m ++ [(x, v)]

theorem seek_shift [DecidableEq K] (x : K) : ∀ (m : List (K × V)) (i : Nat), seek x m i = (seek x m 0).map (fun p => (p.1 + i, p.2))
  | [], _ => rfl
  | (k, v) :: m, i => by
    simp only [seek]
    by_cases h : x = k
    · simp [h]
    · rw [if_neg h, if_neg h, seek_shift x m (i + 1), seek_shift x m (0 + 1)]
      cases seek x m 0 with
      | none => rfl
      | some p => simp; omega
theorem get_nil [DecidableEq K] (x : K) : get ([] : List (K × V)) x = none := rfl
theorem get_cons [DecidableEq K] (k : K) (v : V) (m : List (K × V)) (x : K) : get ((k, v) :: m) x = if x = k then some v else get m x := by
  unfold get
  simp only [seek]
  by_cases h : x = k
  · simp [h]
  · rw [if_neg h, if_neg h, seek_shift]
    cases seek x m 0 <;> rfl
theorem seek_lt [DecidableEq K] {x : K} : ∀ {m : List (K × V)} {i j : Nat} {v : V}, seek x m i = some (j, v) → i ≤ j ∧ j < i + m.length ∧ m[j - i]? = some (x, v)
  | (k, v0) :: m, i, j, v, h => by
    simp only [seek] at h
    by_cases hk : x = k
    · rw [if_pos hk] at h
      simp only [Option.some.injEq, Prod.mk.injEq] at h
      obtain ⟨rfl, rfl⟩ := h
      subst hk
      refine ⟨Nat.le_refl _, by simp, by simp⟩
    · rw [if_neg hk] at h
      obtain ⟨h1, h2, h3⟩ := seek_lt h
      refine ⟨by omega, by simp only [List.length_cons]; omega, ?_⟩
      rw [show j - i = (j - (i + 1)) + 1 by omega, List.getElem?_cons_succ]
      exact h3
theorem get_append [DecidableEq K] (m n : List (K × V)) (x : K) : get (m ++ n) x = (get m x).orElse fun _ => get n x := by
  induction m with
  | nil => simp [get_nil]
  | cons p m ih =>
    obtain ⟨k, v⟩ := p
    rw [List.cons_append, get_cons, get_cons, ih]
    by_cases h : x = k <;> simp [h]
theorem get_set [DecidableEq K] {x : K} {v : V} : ∀ {m : List (K × V)} {i : Nat} {v0 : V}, seek x m 0 = some (i, v0) → ∀ y, get (m.set i (x, v)) y = if y = x then some v else get m y
  | (k, v1) :: m, i, v0, h, y => by
    simp only [seek] at h
    by_cases hk : x = k
    · subst hk
      rw [if_pos rfl] at h
      simp only [Option.some.injEq, Prod.mk.injEq] at h
      obtain ⟨rfl, rfl⟩ := h
      rw [List.set_cons_zero, get_cons, get_cons]
      by_cases hy : y = x <;> simp [hy]
    · rw [if_neg hk, seek_shift] at h
      cases hs : seek x m 0 with
      | none => rw [hs] at h; cases h
      | some p =>
        rw [hs] at h
        simp only [Option.map_some, Option.some.injEq, Prod.mk.injEq] at h
        obtain ⟨rfl, rfl⟩ := h
        rw [List.set_cons_succ, get_cons, get_cons, get_set (v0 := p.2) (i := p.1) hs y]
        by_cases hy : y = k
        · subst hy
          rw [if_pos rfl, if_pos rfl, if_neg (fun e => hk e.symm)]
        · rw [if_neg hy, if_neg hy]
theorem get_put [DecidableEq K] (m : List (K × V)) (x : K) (v : V) (y : K) : get (put m x v) y = if y = x then some v else get m y := by
  unfold put
  cases hs : seek x m 0 with
  | some p => exact get_set (v0 := p.2) (i := p.1) hs y
  | none =>
    simp only
    rw [get_append, get_cons, get_nil]
    by_cases hy : y = x
    · subst hy
      have : get m y = none := by unfold get; rw [hs]; rfl
      simp [this]
    · simp [hy]
theorem put_length [DecidableEq K] (m : List (K × V)) (x : K) (v : V) : (put m x v).length ≤ m.length + 1 := by
  unfold put
  cases seek x m 0 <;> simp

section
variable {P : Program}
/-- keys of type k: how they lie, and that they are held one against the other -/
structure KeyAt [DecidableEq K] (P : Program) (k : TypeId) (ek : K → Value) : Prop where mk ::
  eq : ∀ (x y : K) (w : World), Sem.run P (Op.equal k (ek x) (ek y)) w = .ok (decide (x = y)) w
  now : ∀ (d : TypeDesc), P.underlying k = some d → ∀ (x y : K), Instr.sameNow d (ek x) (ek y) = none ∨ Instr.sameNow d (ek x) (ek y) = some (decide (x = y))
  und : ∃ d, P.underlying k = some d
  check : ∀ (x : K) (b : Bool) (w : World), Sem.run P (Instr.checkKey b 10000 k (ek x)) w = .ok () w
  bits : ∀ (x : K), Instr.sameBits 10000 (ek x) (ek x) = true

/-- block b holds the pairs m -/
def Holds (w : World) (b : Nat) (ek : K → Value) (ev : V → Value) (m : List (K × V)) : Prop :=
  ∃ es clock, w.heap[b]? = some (.map es clock) ∧ es.toList.map (fun e => (e.key, e.val)) = m.map (fun p => (ek p.1, ev p.2))

theorem findAsking_run [DecidableEq K] {k : TypeId} {ek : K → Value} {ev : V → Value} (hk : KeyAt P k ek) (x : K) (w : World) : ∀ (es : List MapEntry) (m : List (K × V)) (i : Nat), es.map (fun e => (e.key, e.val)) = m.map (fun p => (ek p.1, ev p.2)) →
    Sem.run P (Instr.findAsking k (ek x) es i) w = .ok ((seek x m i).map fun p => (p.1, ev p.2)) w
  | [], [], i, _ => rfl
  | [], _ :: _, i, h => by simp at h
  | _ :: _, [], i, h => by simp at h
  | e :: es, (k0, v0) :: m, i, h => by
    simp only [List.map_cons, List.cons.injEq, Prod.mk.injEq] at h
    obtain ⟨⟨h1, h2⟩, h3⟩ := h
    simp only [Instr.findAsking, Sem.run_bind, h1, hk.eq, Result.andThen_ok, seek]
    by_cases hx : x = k0
    · simp [hx, h2]
    · rw [if_neg hx]
      simp only [hx, decide_false, Bool.false_eq_true, if_false]
      exact findAsking_run hk x w es m (i + 1) h3

theorem findNow_run [DecidableEq K] {k : TypeId} {ek : K → Value} {ev : V → Value} (hk : KeyAt P k ek) {d : TypeDesc} (hd : P.underlying k = some d) (x : K) : ∀ (es : List MapEntry) (m : List (K × V)) (i : Nat), es.map (fun e => (e.key, e.val)) = m.map (fun p => (ek p.1, ev p.2)) →
    Instr.findNow d (ek x) es i = none ∨ Instr.findNow d (ek x) es i = some ((seek x m i).map fun p => (p.1, ev p.2))
  | [], [], i, _ => .inr rfl
  | [], _ :: _, i, h => by simp at h
  | _ :: _, [], i, h => by simp at h
  | e :: es, (k0, v0) :: m, i, h => by
    simp only [List.map_cons, List.cons.injEq, Prod.mk.injEq] at h
    obtain ⟨⟨h1, h2⟩, h3⟩ := h
    simp only [Instr.findNow, seek, h1]
    rcases hk.now d hd x k0 with hn | hn
    · left; rw [hn]
    · by_cases hx : x = k0
      · right; rw [hn]; simp [hx, h2]
      · rw [hn]
        simp only [hx, decide_false, if_false]
        exact findNow_run hk hd x es m (i + 1) h3

theorem findKey_run [DecidableEq K] {k : TypeId} {ek : K → Value} {ev : V → Value} (hk : KeyAt P k ek) (x : K) (w : World) (es : List MapEntry) (m : List (K × V)) (h : es.map (fun e => (e.key, e.val)) = m.map (fun p => (ek p.1, ev p.2))) :
    Sem.run P (Instr.findKey k (ek x) es) w = .ok ((seek x m 0).map fun p => (p.1, ev p.2)) w := by
  obtain ⟨d, hd⟩ := hk.und
  simp only [Instr.findKey, Sem.run_bind, run_underlying hd, Result.andThen_ok]
  rcases findNow_run (ev := ev) hk hd x es m 0 h with hn | hn
  · rw [hn]; exact findAsking_run hk x w es m 0 h
  · rw [hn]; rfl

/-- m[x], x's value or nothing -/
def orZero (ev : V → Value) (z : Value) : Option V → Value
  | some v => ev v
  | none => z
theorem lookup_run [DecidableEq K] {t k e : TypeId} {ek : K → Value} {ev : V → Value} {w : World} {b : Nat} {m : List (K × V)} (hk : KeyAt P k ek) (ht : P.underlying t = some (.map k e)) {z : Value} (hz : (zeroValue e).run P w = .ok z w)
    (h : Holds w b ek ev m) (x : K) (c : Bool) : Sem.run P (Instr.lookup t (.map (some b)) (ek x) c) w = .ok (if c then .tuple #[orZero ev z (get m x), .bool (get m x).isSome] else orZero ev z (get m x)) w := by
  obtain ⟨es, clock, hb, hes⟩ := h
  simp only [Instr.lookup, Sem.run_bind, run_underlying ht, Result.andThen_ok, MapKept.run_getObj_map hb, Sem.run_pure, hk.check, findKey_run hk x w es.toList m hes, get]
  cases seek x m 0 with
  | none => cases c <;> simp [orZero, hz]
  | some p => cases c <;> simp [orZero]

theorem map_modify {es : Array MapEntry} {m : List (K × V)} {ek : K → Value} {ev : V → Value} {i : Nat} {x : K} {v : V} (h : es.toList.map (fun e => (e.key, e.val)) = m.map (fun p => (ek p.1, ev p.2))) (f : MapEntry → MapEntry) (hf : ∀ e, (f e).key = ek x ∧ (f e).val = ev v) :
    (es.modify i f).toList.map (fun e => (e.key, e.val)) = (m.set i (x, v)).map (fun p => (ek p.1, ev p.2)) := by
  apply List.ext_getElem?
  intro j
  have hj := congrArg (fun l => l[j]?) h
  simp only [List.getElem?_map] at hj ⊢
  rw [Array.getElem?_toList, Array.getElem?_modify, List.getElem?_set]
  rw [Array.getElem?_toList] at hj
  by_cases hij : i = j
  · subst hij
    rw [if_pos rfl, if_pos rfl]
    by_cases hl : i < m.length
    · rw [if_pos hl]
      rw [List.getElem?_eq_getElem hl] at hj
      cases he : es[i]? with
      | none => rw [he] at hj; simp at hj
      | some e => simp [(hf e).1, (hf e).2]
    · rw [if_neg hl]
      rw [List.getElem?_eq_none (by omega)] at hj
      cases he : es[i]? with
      | none => rfl
      | some e => rw [he] at hj; simp at hj
  · rw [if_neg hij, if_neg hij]
    exact hj

/-- m[x] = v -/
theorem update_run [DecidableEq K] {t k e : TypeId} {ek : K → Value} {ev : V → Value} {w : World} {b : Nat} {m : List (K × V)} (hk : KeyAt P k ek) (ht : P.underlying t = some (.map k e)) (h : Holds w b ek ev m) (x : K) (v : V) :
    ∃ w', Sem.run P (Instr.mapUpdate t (.map (some b)) (ek x) (ev v)) w = .ok () w' ∧ Holds w' b ek ev (put m x v) ∧ w.grownBy w' (some b) ∧ w'.heap.size = w.heap.size := by
  obtain ⟨es, clock, hb, hes⟩ := h
  have hlt : b < w.heap.size := by
    rcases Nat.lt_or_ge b w.heap.size with h' | h'
    · exact h'
    · rw [Array.getElem?_eq_none h'] at hb; cases hb
  have hset : ∀ o : Obj, ∃ w', Sem.run P (setObj b o) w = .ok () w' ∧ w'.heap[b]? = some o ∧ w.grownBy w' (some b) ∧ w'.heap.size = w.heap.size := fun o => by
    refine ⟨{ w with heap := w.heap.setIfInBounds b o }, MapKept.run_setObj_map o hb, ?_, ⟨rfl, rfl, rfl, by simp, fun i hi hr => ?_⟩, by simp⟩
    · simp [hlt]
    · have : b ≠ i := fun e => hr (by rw [e])
      simp [Array.getElem?_setIfInBounds, this]
  simp only [Instr.mapUpdate, Sem.run_bind, run_underlying ht, Result.andThen_ok, MapKept.run_getObj_map hb, hk.check, findKey_run hk x w es.toList m hes, put]
  cases hs : seek x m 0 with
  | none =>
    obtain ⟨w', h1, h2, h3, h4⟩ := hset (.map (es.push { key := ek x, val := ev v, born := clock }) (clock + 1))
    refine ⟨w', by simpa using h1, ⟨_, _, h2, ?_⟩, h3, h4⟩
    simp [hes]
  | some p =>
    obtain ⟨i, v0⟩ := p
    obtain ⟨_, _, hi⟩ := seek_lt hs
    rw [Nat.sub_zero] at hi
    have hkey : ((es[i]?).map (·.key)).getD (ek x) = ek x := by
      have hj := congrArg (fun l => l[i]?) hes
      simp only [List.getElem?_map, hi, Option.map_some, Array.getElem?_toList] at hj
      cases he : es[i]? with
      | none => rfl
      | some e0 =>
        rw [he] at hj
        simp only [Option.map_some, Option.some.injEq, Prod.mk.injEq] at hj
        simp [hj.1]
    obtain ⟨w', h1, h2, h3, h4⟩ := hset (.map (es.modify i fun e0 => { e0 with key := ek x, val := ev v }) clock)
    refine ⟨w', ?_, ⟨_, _, h2, map_modify hes _ (fun e0 => ⟨rfl, rfl⟩)⟩, h3, h4⟩
    simp only [Option.map_some, Sem.run_bind, hkey, Instr.keyThatStays, hk.bits, if_true, Sem.run_pure, Result.andThen_ok]
    exact h1

theorem holds_made (w : World) (ek : K → Value) (ev : V → Value) : Holds (w.alloc (.map #[] 0)) w.heap.size ek ev ([] : List (K × V)) :=
  ⟨#[], 0, World.alloc_heap_new w _, rfl⟩
theorem Holds.lt {w : World} {b : Nat} {ek : K → Value} {ev : V → Value} {m : List (K × V)} (h : Holds w b ek ev m) : b < w.heap.size := by
  obtain ⟨es, clock, hb, _⟩ := h
  rcases Nat.lt_or_ge b w.heap.size with h' | h'
  · exact h'
  · rw [Array.getElem?_eq_none h'] at hb; cases hb
theorem Holds.kept {w w' : World} {b : Nat} {ek : K → Value} {ev : V → Value} {m : List (K × V)} (h : Holds w b ek ev m) (hb : w'.heap[b]? = w.heap[b]?) : Holds w' b ek ev m := by
  obtain ⟨es, clock, h1, h2⟩ := h
  exact ⟨es, clock, hb.trans h1, h2⟩
theorem Holds.below {w w' : World} {b : Nat} {ek : K → Value} {ev : V → Value} {m : List (K × V)} (h : Holds w b ek ev m) (hb : Below w.heap.size w w') : Holds w' b ek ev m := h.kept (hb.block b h.lt)
theorem Holds.setCell {w : World} {b : Nat} {ek : K → Value} {ev : V → Value} {m : List (K × V)} (h : Holds w b ek ev m) {a : Addr} (ha : b ≠ a.block) (u : Value) : Holds (w.setCell a u) b ek ev m :=
  h.kept (Below.heap_setCell w a u b ha)

section
variable {ops : Array Oper} {rest : List Oper} {o : Oper} {a : Act} {Q : Exit → Act → World → Prop} {W : World}
/-- v, ok := m[x] in a walk -/
theorem wpList_look [DecidableEq K] (hg : o.guard = none) (mo xo : Operand) (t : TypeId) (hop : o.op = Op.lookup t mo xo true) {k e : TypeId} {ek : K → Value} {ev : V → Value} (hk : KeyAt P k ek) (ht : P.underlying t = some (.map k e)) {z : Value} (hz : ∀ w, (zeroValue e).run P w = .ok z w)
    (b : Nat) (m : List (K × V)) (x : K) (hm : a.eval mo = .map (some b)) (hx : a.eval xo = ek x) (h : Holds W b ek ev m) (v : Value) (s : Bool) (hv : orZero ev z (get m x) = v) (hs : (get m x).isSome = s)
    (hK : wpList P ops Q rest (a.put o.dst (.tuple #[v, .bool s])) W) : wpList P ops Q (o :: rest) a W := by
  refine wpList_plain hg fun K' hK' => ?_
  have hrun := lookup_run hk ht (hz W) h x true
  subst hv hs
  unfold Oper.wp
  simp [execOp, hop, hm, hx, hrun, Result.andThen]
  exact hK' _ _ hK
/-- m[x] in a walk -/
theorem wpList_look1 [DecidableEq K] (hg : o.guard = none) (mo xo : Operand) (t : TypeId) (hop : o.op = Op.lookup t mo xo false) {k e : TypeId} {ek : K → Value} {ev : V → Value} (hk : KeyAt P k ek) (ht : P.underlying t = some (.map k e)) {z : Value} (hz : ∀ w, (zeroValue e).run P w = .ok z w)
    (b : Nat) (m : List (K × V)) (x : K) (hm : a.eval mo = .map (some b)) (hx : a.eval xo = ek x) (h : Holds W b ek ev m) (v : Value) (hv : orZero ev z (get m x) = v)
    (hK : wpList P ops Q rest (a.put o.dst v) W) : wpList P ops Q (o :: rest) a W := by
  refine wpList_plain hg fun K' hK' => ?_
  have hrun := lookup_run hk ht (hz W) h x false
  subst hv
  unfold Oper.wp
  simp [execOp, hop, hm, hx, hrun, Result.andThen]
  exact hK' _ _ hK
/-- m[x] = v in a walk -/
theorem wpList_upd [DecidableEq K] (hg : o.guard = none) (mo xo vo : Operand) (t : TypeId) (hop : o.op = Op.mapUpdate t mo xo vo) {k e : TypeId} {ek : K → Value} {ev : V → Value} (hk : KeyAt P k ek) (ht : P.underlying t = some (.map k e))
    (b : Nat) (m : List (K × V)) (x : K) (v : V) (hm : a.eval mo = .map (some b)) (hx : a.eval xo = ek x) (hv : a.eval vo = ev v) (h : Holds W b ek ev m)
    (hK : ∀ w', Holds w' b ek ev (put m x v) → W.grownBy w' (some b) → w'.heap.size = W.heap.size → wpList P ops Q rest (a.put o.dst undef) w') : wpList P ops Q (o :: rest) a W := by
  refine wpList_plain hg fun K' hK' => ?_
  obtain ⟨w', hrun, h1, h2, h3⟩ := update_run hk ht h x v
  unfold Oper.wp
  simp [execOp, hop, hm, hx, hv, hrun, Result.andThen]
  exact hK' _ _ (hK w' h1 h2 h3)
end
theorem int_beq (x y : Int) : (x == y) = decide (x = y) := by rw [Bool.eq_iff_iff]; simp
/-- keys that are ints -/
theorem key_int {k : TypeId} {q : IntKind} (hk : P.underlying k = some (.int q)) : KeyAt P k (fun x : Int => .int q x) where
  eq x y w := by
    have h : Op.equal k (.int q x) (.int q y) = Op.equalIn (9999 + 1) k (.int q x) (.int q y) := rfl
    rw [h]
    generalize (9999 : Nat) = d
    simp [Op.equalIn, run_underlying hk, int_beq]
  now d hd x y := by
    rw [hk] at hd
    obtain rfl : d = .int q := by simpa using hd.symm
    right
    simp [Instr.sameNow, int_beq]
  und := ⟨_, hk⟩
  check x b w := by
    have h : Instr.checkKey b 10000 k (.int q x) = Instr.checkKey b (9999 + 1) k (.int q x) := rfl
    rw [h]
    generalize (9999 : Nat) = d
    simp [Instr.checkKey, run_underlying hk]
  bits x := by
    have h : Instr.sameBits 10000 (.int q x) (.int q x) = Instr.sameBits (9999 + 1) (.int q x) (.int q x) := rfl
    rw [h]
    generalize (9999 : Nat) = d
    simp [Instr.sameBits]
end
end Go.Proofs.Ytginlhengebgaaa.Mp
