/- A weaver of edges: its maps, its rows, and what a change leaves of them; delete of a map of one's own. The weaver's pairs: edge, all. The weaver's event: its walk. Printed by wip/tools/genckc.py. -/
import Derived.Test.YtginlhengebgaaaLockI
import Derived.Test.YtginlhengebgaaaCkQ
import Derived.Test.YtginlhengebgaaaRegionDirty
import Derived.Deep.CutRange
namespace Go.Proofs.Ytginlhengebgaaa.Mp
open Go Go.RowKit
set_option linter.unusedVariables false
set_option linter.unusedSimpArgs false
variable {K V : Type}
/-- without the first pair at x -/
def del [DecidableEq K] (x : K) : List (K × V) → List (K × V)
  | [] => []
  | (k, v) :: m => if x = k then m else (k, v) :: del x m
theorem seek_del [DecidableEq K] (x : K) : ∀ (m : List (K × V)) (i : Nat), match seek x m i with
    | some (j, _) => ∃ q, j = i + q ∧ q < m.length ∧ m.eraseIdx q = del x m
    | none => del x m = m
  | [], i => rfl
  | (k, v) :: m, i => by
    simp only [seek, del]
    by_cases h : x = k
    · rw [if_pos h, if_pos h]
      exact ⟨0, rfl, Nat.succ_pos _, rfl⟩
    · rw [if_neg h, if_neg h]
      have ih := seek_del x m (i + 1)
      cases hs : seek x m (i + 1) with
      | none =>
        rw [hs] at ih
        simp only at ih ⊢
        rw [ih]
      | some p =>
        rw [hs] at ih
        obtain ⟨q, h1, h2, h3⟩ := ih
        exact ⟨q + 1, by omega, by simpa using h2, by rw [List.eraseIdx_cons_succ, h3]⟩
def Nd (m : List (K × V)) : Prop := (m.map Prod.fst).Nodup
theorem get_none [DecidableEq K] {x : K} : ∀ {m : List (K × V)}, x ∉ m.map Prod.fst → get m x = none
  | [], _ => rfl
  | (k, v) :: m, h => by
    rw [get_cons, if_neg (fun e => h (by simp [e]))]
    exact get_none (fun h1 => h (by simp at h1 ⊢; exact .inr h1))
theorem get_del [DecidableEq K] (x : K) : ∀ (m : List (K × V)), Nd m → ∀ y, get (del x m) y = if y = x then none else get m y
  | [], _, y => by simp [del, get_nil]
  | (k, v) :: m, h, y => by
    unfold Nd at h
    rw [List.map_cons, List.nodup_cons] at h
    simp only [del]
    by_cases hx : x = k
    · rw [if_pos hx, get_cons]
      by_cases hy : y = x
      · rw [if_pos hy, hy, hx]; exact get_none h.1
      · rw [if_neg hy, if_neg (fun e => hy (e.trans hx.symm))]
    · rw [if_neg hx, get_cons, get_cons, get_del x m h.2 y]
      by_cases hy : y = k
      · rw [if_pos hy, if_pos hy, if_neg (fun e => hx (e.symm.trans hy))]
      · rw [if_neg hy, if_neg hy]
theorem del_sub [DecidableEq K] (x : K) : ∀ (m : List (K × V)), List.Sublist (del x m) m
  | [] => List.Sublist.refl _
  | (k, v) :: m => by
    simp only [del]
    split
    · exact List.sublist_cons_self _ _
    · exact (del_sub x m).cons_cons _
theorem nd_del [DecidableEq K] {m : List (K × V)} (x : K) (h : Nd m) : Nd (del x m) := List.Nodup.sublist ((del_sub x m).map _) h
theorem set_fst [DecidableEq K] {x : K} {v : V} : ∀ {m : List (K × V)} {i j : Nat} {v0 : V}, seek x m i = some (j, v0) → (m.set (j - i) (x, v)).map Prod.fst = m.map Prod.fst
  | (k, v1) :: m, i, j, v0, h => by
    simp only [seek] at h
    by_cases hk : x = k
    · rw [if_pos hk] at h
      simp only [Option.some.injEq, Prod.mk.injEq] at h
      obtain ⟨rfl, rfl⟩ := h
      rw [Nat.sub_self, List.set_cons_zero]
      simp [hk]
    · rw [if_neg hk] at h
      obtain ⟨h1, h2, h3⟩ := seek_lt h
      have := set_fst (v := v) h
      rw [show j - i = (j - (i + 1)) + 1 by omega, List.set_cons_succ, List.map_cons, List.map_cons, this]
theorem seek_none [DecidableEq K] {x : K} : ∀ {m : List (K × V)} {i : Nat}, seek x m i = none → x ∉ m.map Prod.fst
  | [], _, _ => by simp
  | (k, v) :: m, i, h => by
    simp only [seek] at h
    by_cases hk : x = k
    · rw [if_pos hk] at h; cases h
    · rw [if_neg hk] at h
      have := seek_none h
      simp at this ⊢
      exact ⟨hk, this⟩
theorem nd_put [DecidableEq K] {m : List (K × V)} (x : K) (v : V) (h : Nd m) : Nd (put m x v) := by
  unfold put
  cases hs : seek x m 0 with
  | some p =>
    obtain ⟨j, v0⟩ := p
    have h1 := set_fst (v := v) hs
    rw [Nat.sub_zero] at h1
    unfold Nd
    simp only
    rw [h1]
    exact h
  | none =>
    unfold Nd at h ⊢
    simp only
    rw [List.map_append]
    refine List.nodup_append.2 ⟨h, by simp, fun a ha b hb => ?_⟩
    simp at hb
    subst hb
    rintro rfl
    exact seek_none hs ha
section
variable {P : Program}
theorem map_erase {α β : Type} (f : α → β) : ∀ (l : List α) (i : Nat), (l.eraseIdx i).map f = (l.map f).eraseIdx i
  | [], i => by simp
  | x :: l, 0 => rfl
  | x :: l, i + 1 => by rw [List.eraseIdx_cons_succ, List.map_cons, List.map_cons, List.eraseIdx_cons_succ, map_erase f l i]
/-- delete(m, x) -/
theorem delete_run [DecidableEq K] {t k e ty kt : TypeId} {ek : K → Value} {ev : V → Value} {w : World} {b : Nat} {m : List (K × V)} (hk : KeyAt P k ek) (ht : P.underlying t = some (.map k e)) (h : Holds w b ek ev m) (x : K) :
    ∃ w', Sem.run P (Builtin.delete_ #[t, kt] ty #[.map (some b), ek x]) w = .ok (.tuple #[]) w' ∧ Holds w' b ek ev (del x m) ∧ w.grownBy w' (some b) ∧ w'.heap.size = w.heap.size := by
  obtain ⟨es, clock, hb, hes⟩ := h
  have hlt : b < w.heap.size := by
    rcases Nat.lt_or_ge b w.heap.size with h' | h'
    · exact h'
    · rw [Array.getElem?_eq_none h'] at hb; cases hb
  have hset : ∀ o : Obj, ∃ w', Sem.run P (setObj b o) w = .ok () w' ∧ w'.heap[b]? = some o ∧ w.grownBy w' (some b) ∧ w'.heap.size = w.heap.size := fun o => by
    refine ⟨{ w with heap := w.heap.setIfInBounds b o }, MapKept.run_setObj_map o hb, ?_, ⟨rfl, rfl, rfl, by simp, fun i hi hr => ?_⟩, by simp⟩
    · simp [hlt]
    · have : b ≠ i := fun e => hr (by rw [e])
      simp [Array.getElem?_setIfInBounds, this]
  have hsd := seek_del x m 0
  cases hs : seek x m 0 with
  | none =>
    rw [hs] at hsd
    obtain ⟨w', h1, h2, h3, h4⟩ := hset (.map es clock)
    refine ⟨w', ?_, ⟨_, _, h2, by rw [hes, hsd]⟩, h3, h4⟩
    simp [Builtin.delete_, Sem.run_bind, run_underlying ht, MapKept.run_getObj_map hb, hk.check, findKey_run hk x w es.toList m hes, hs, h1]
  | some p =>
    obtain ⟨i, v0⟩ := p
    rw [hs] at hsd
    obtain ⟨q, hq1, hq2, hq3⟩ := hsd
    rw [Nat.zero_add] at hq1
    subst hq1
    obtain ⟨w', h1, h2, h3, h4⟩ := hset (.map (es.eraseIdxIfInBounds i) clock)
    refine ⟨w', ?_, ⟨_, _, h2, ?_⟩, h3, h4⟩
    · simp [Builtin.delete_, Sem.run_bind, run_underlying ht, MapKept.run_getObj_map hb, hk.check, findKey_run hk x w es.toList m hes, hs, h1]
    · rw [Array.toList_eraseIdxIfInBounds, map_erase, hes, ← map_erase, hq3]
end
end Go.Proofs.Ytginlhengebgaaa.Mp
namespace Go.Proofs.Ytginlhengebgaaa.Ck
open Go Go.RowKit Go.Maps Go.Proofs.YtginlhengebgaaaW Go.Proofs.YtginlhengebgaaaW.PrintWords Go.Proofs.YtginlhengebgaaaW.PrintLast Go.Proofs.YtginlhengebgaaaW.PrintMore Go.Proofs.Ytginlhengebgaaa.PLockupEither Go.Proofs.Ytginlhengebgaaa.Bs Go.Proofs.Ytginlhengebgaaa.RegionVal Go.Proofs.Ytginlhengebgaaa.Lk
open Go.Lib hiding intOf
set_option linter.unusedVariables false
set_option linter.unusedSimpArgs false
/-- an event as it lies: twelve cells; three of them told -/
def CE.In (x : CE) (cs : List Value) : Prop := cs.length = 12 ∧ (∀ u ∈ cs, u.oneCell' = true) ∧ cs[0]? = some (.int .i64 x.k) ∧ cs[2]? = some (.int .i64 x.t) ∧ cs[6]? = some (.int .i64 x.a) ∧ cs[7]? = some (.int .i64 x.b)
def kC : Kd CE where
  sz := 12
  E := []
  K _ x cs := x.In cs
  M _ _ _ x cs := x.In cs
  K_len h := h.1
  K_one h u hu := h.2.1 u hu
  K_below _ h := h
  K_of_M h := h
  M_mono _ h := h
  M_bound h := h
  M_move _ h := h
  M_lower _ h := h
def EvC (g : Nat) (x : CE) (w : World) : Prop := ∃ cs, w.heap[g]? = some (.cells cs 41 (0, 0)) ∧ x.In cs.toList
theorem EvC.lt {g : Nat} {x : CE} {w : World} (h : EvC g x w) : g < w.heap.size := by
  obtain ⟨cs, h, _⟩ := h
  rcases Nat.lt_or_ge g w.heap.size with h1 | h1
  · exact h1
  · rw [Array.getElem?_eq_none h1] at h; cases h
theorem EvC.kept {g : Nat} {x : CE} {w w' : World} (h : EvC g x w) (hk : w'.heap[g]? = w.heap[g]?) : EvC g x w' := by
  obtain ⟨cs, h1, h2⟩ := h
  exact ⟨cs, hk.trans h1, h2⟩
theorem EvC.below {g : Nat} {x : CE} {w w' : World} (h : EvC g x w) (hb : Below w.heap.size w w') : EvC g x w' := h.kept (hb.block g h.lt)
theorem EvC.grown {g : Nat} {x : CE} {w w' : World} {r : Option Nat} (h : EvC g x w) (hg : w.grownBy w' r) (hne : r ≠ some g) : EvC g x w' := h.kept (hg.block g h.lt (fun e => hne e.symm))
theorem EvC.cell {g : Nat} {x : CE} {w : World} (h : EvC g x w) : w.cell? ⟨g, 0, none⟩ = some (.int .i64 x.k) ∧ w.cell? ⟨g, 2, none⟩ = some (.int .i64 x.t) ∧ w.cell? ⟨g, 6, none⟩ = some (.int .i64 x.a) ∧ w.cell? ⟨g, 7, none⟩ = some (.int .i64 x.b) := by
  obtain ⟨cs, h1, h2⟩ := h
  refine ⟨?_, ?_, ?_, ?_⟩
  · rw [blk_cell h1, ← Array.getElem?_toList]; exact h2.2.2.1
  · rw [blk_cell h1, ← Array.getElem?_toList]; exact h2.2.2.2.1
  · rw [blk_cell h1, ← Array.getElem?_toList]; exact h2.2.2.2.2.1
  · rw [blk_cell h1, ← Array.getElem?_toList]; exact h2.2.2.2.2.2
structure WM where
  o : Bool → List (Int × Int)
  r : Bool → List (Int × Value)
  v : Value
def m0 : WM := ⟨fun _ => [], fun _ => [], .slice none 0 0⟩
def bO (nb : Nat) : Bool → Nat
  | false => nb
  | true => nb + 2
def bR (nb : Nat) : Bool → Nat
  | false => nb + 1
  | true => nb + 3
def wCells (nb : Nat) (v : Value) : Array Value := #[.map (some (bO nb false)), .map (some (bR nb false)), .map (some (bO nb true)), .map (some (bR nb true)), v]
/-- the weaver at nb + 4, its maps ahead of it, its rows behind -/
structure WV (w : World) (nb : Nat) (m : WM) (s : Wv) : Prop where
  cell : w.heap[nb + 4]? = some (.cells (wCells nb m.v) 91 (0, 0))
  ho : ∀ q, Mp.Holds w (bO nb q) (Value.int .i64) (Value.int .i64) (m.o q)
  hr : ∀ q, Mp.Holds w (bR nb q) (Value.int .i64) id (m.r q)
  nd : ∀ q, Mp.Nd (m.r q)
  eqo : ∀ q x, Mp.get (m.o q) x = s.o q x
  row : ∀ q x, w.ownsRow (nb + 5) 3 1 (valAt (m.r q) x) (s.g q x).length (nums .i64 (s.g q x))
  apart : ∀ q x p y, ¬ (q = p ∧ x = y) → (valAt (m.r q) x).ownBlock = none ∨ (valAt (m.r q) x).ownBlock ≠ (valAt (m.r p) y).ownBlock
  outr : Kd.R k32 32 w (nb + 5) (fun _ => True) m.v s.out
theorem bO_lt (nb : Nat) (q : Bool) : bO nb q < nb + 4 ∧ nb ≤ bO nb q := by cases q <;> simp [bO]
theorem bR_lt (nb : Nat) (q : Bool) : bR nb q < nb + 4 ∧ nb ≤ bR nb q := by cases q <;> simp [bR]
theorem bOR (nb : Nat) (q p : Bool) : bO nb q ≠ bR nb p := by cases q <;> cases p <;> simp [bO, bR] <;> omega
theorem bO_inj {nb : Nat} {q p : Bool} (h : q ≠ p) : bO nb q ≠ bO nb p := by cases q <;> cases p <;> simp [bO] at h ⊢
theorem bR_inj {nb : Nat} {q p : Bool} (h : q ≠ p) : bR nb q ≠ bR nb p := by cases q <;> cases p <;> simp [bR] at h ⊢
theorem out_far {w w' : World} {b bo : Nat} {v : Value} {out : List S32} (h : Kd.R k32 32 w bo (fun _ => True) v out) (hg : w.grownBy w' (some b)) (hlt : b < bo) : Kd.R k32 32 w' bo (fun _ => True) v out :=
  Kd.R_mono (Kd.R_grown (Kd.R_bound h) hg (fun k hk e => by
    injection e with e
    have := hk.2.1
    omega)) (fun _ hk => hk.1)
theorem WV.below {w w' : World} {nb : Nat} {m : WM} {s : Wv} (h : WV w nb m s) (hb : Below w.heap.size w w') : WV w' nb m s :=
  ⟨blk_below h.cell hb, fun q => (h.ho q).below hb, fun q => (h.hr q).below hb, h.nd, h.eqo, fun q x => own_keep (h.row q x) hb, h.apart, Kd.R_below h.outr hb⟩
theorem WV.size {w : World} {nb : Nat} {m : WM} {s : Wv} (h : WV w nb m s) : nb + 5 ≤ w.heap.size := by
  have := (Array.getElem?_eq_some_iff.1 h.cell).1
  omega
def WM.setO (m : WM) (q : Bool) (x j : Int) : WM := { m with o := fun p => if p = q then Mp.put (m.o q) x j else m.o p }
def WM.setR (m : WM) (q : Bool) (x : Int) (v : Value) : WM := { m with r := fun p => if p = q then Mp.put (m.r q) x v else m.r p }
def WM.delR (m : WM) (q : Bool) (x : Int) : WM := { m with r := fun p => if p = q then Mp.del x (m.r q) else m.r p }
theorem WV.setO {w w' : World} {nb : Nat} {m : WM} {s : Wv} {q : Bool} {x j : Int} (h : WV w nb m s) (hh : Mp.Holds w' (bO nb q) (Value.int .i64) (Value.int .i64) (Mp.put (m.o q) x j)) (hg : w.grownBy w' (some (bO nb q))) : WV w' nb (m.setO q x j) (s.setO q x j) := by
  have hq := bO_lt nb q
  refine ⟨blk_grown h.cell hg (by omega), fun p => ?_, fun p => (h.hr p).kept (hg.block _ (h.hr p).lt (fun e => by injection e with e; exact bOR nb q p e.symm)), h.nd, fun p y => ?_, fun p y => own_far (h.row p y) hg (by omega), h.apart, out_far h.outr hg (by omega)⟩
  · show Mp.Holds w' (bO nb p) _ _ (if p = q then Mp.put (m.o q) x j else m.o p)
    by_cases hp : p = q
    · rw [if_pos hp, hp]; exact hh
    · rw [if_neg hp]; exact (h.ho p).kept (hg.block _ (h.ho p).lt (fun e => by injection e with e; exact bO_inj hp e))
  · show Mp.get (if p = q then Mp.put (m.o q) x j else m.o p) y = if p = q ∧ y = x then some j else s.o p y
    by_cases hp : p = q
    · rw [if_pos hp, Mp.get_put, h.eqo]
      by_cases hy : y = x
      · rw [if_pos hy, if_pos ⟨hp, hy⟩]
      · rw [if_neg hy, if_neg (fun e => hy e.2), hp]
    · rw [if_neg hp, if_neg (fun e => hp e.1), h.eqo]
/-- the row at x has turned, and is stored -/
theorem WV.turn {w w1 w2 : World} {nb : Nat} {m : WM} {s : Wv} {q : Bool} {x : Int} {v1 : Value} {l : List Int} (h : WV w nb m s) (hg : w.grownBy w1 (valAt (m.r q) x).ownBlock) (hr : w1.ownsRow (nb + 5) 3 1 v1 l.length (nums .i64 l))
    (hloc : v1.ownBlock = (valAt (m.r q) x).ownBlock ∨ ∃ k, v1.ownBlock = some k ∧ w.heap.size ≤ k) (hm : Mp.Holds w2 (bR nb q) (Value.int .i64) id (Mp.put (m.r q) x v1)) (hg2 : w1.grownBy w2 (some (bR nb q))) : WV w2 nb (m.setR q x v1) (s.setG q x l) := by
  have hq := bR_lt nb q
  have hb : ∀ k, k < nb + 5 → (valAt (m.r q) x).ownBlock ≠ some k := fun k hk e => by have := Lk.own_base (h.row q x) k e; omega
  have hfar : ∀ {v : Value} {n : Nat} {xs : List Value}, w1.ownsRow (nb + 5) 3 1 v n xs → w2.ownsRow (nb + 5) 3 1 v n xs := fun ho => own_far ho hg2 (by omega)
  have hne : ∀ p y, ¬ (p = q ∧ y = x) → (valAt (m.r p) y).ownBlock = none ∨ (valAt (m.r p) y).ownBlock ≠ v1.ownBlock := fun p y hy => by
    rcases hloc with h1 | ⟨k, h1, h2⟩
    · rw [h1]; exact h.apart p y q x hy
    · rw [h1]
      cases hv : (valAt (m.r p) y).ownBlock with
      | none => exact .inl rfl
      | some z =>
        refine .inr fun e => ?_
        have := World.ownsRow.lt (h.row p y) z hv
        injection e with e
        omega
  have hc1 : w1.heap[nb + 4]? = some (.cells (wCells nb m.v) 91 (0, 0)) := (hg.block _ (Array.getElem?_eq_some_iff.1 h.cell).1 (fun e => hb (nb + 4) (by omega) e.symm)).trans h.cell
  have hval : ∀ p y, valAt ((m.setR q x v1).r p) y = if p = q ∧ y = x then v1 else valAt (m.r p) y := fun p y => by
    show valAt (if p = q then Mp.put (m.r q) x v1 else m.r p) y = _
    by_cases hp : p = q
    · rw [if_pos hp, valAt_put]
      by_cases hy : y = x
      · rw [if_pos hy, if_pos ⟨hp, hy⟩]
      · rw [if_neg hy, if_neg (fun e => hy e.2), hp]
    · rw [if_neg hp, if_neg (fun e => hp e.1)]
  refine ⟨blk_grown hc1 hg2 (by omega), fun p => ?_, fun p => ?_, fun p => ?_, h.eqo, fun p y => ?_, fun p y p' y' hn => ?_, ?_⟩
  · have k1 := (h.ho p).kept (hg.block _ (h.ho p).lt (fun e => hb _ (by have := bO_lt nb p; omega) e.symm))
    exact k1.kept (hg2.block _ k1.lt (fun e => by injection e with e; exact bOR nb p q e))
  · show Mp.Holds w2 (bR nb p) _ _ (if p = q then Mp.put (m.r q) x v1 else m.r p)
    by_cases hp : p = q
    · rw [if_pos hp, hp]; exact hm
    · rw [if_neg hp]
      have k1 := (h.hr p).kept (hg.block _ (h.hr p).lt (fun e => hb _ (by have := bR_lt nb p; omega) e.symm))
      exact k1.kept (hg2.block _ k1.lt (fun e => by injection e with e; exact bR_inj hp e))
  · show Mp.Nd (if p = q then Mp.put (m.r q) x v1 else m.r p)
    split
    · exact Mp.nd_put x v1 (h.nd q)
    · exact h.nd p
  · rw [hval]
    show w2.ownsRow (nb + 5) 3 1 _ (if p = q ∧ y = x then l else s.g p y).length (nums .i64 (if p = q ∧ y = x then l else s.g p y))
    by_cases hy : p = q ∧ y = x
    · rw [if_pos hy, if_pos hy]; exact hfar hr
    · rw [if_neg hy, if_neg hy]; exact hfar (own_grown (h.row p y) hg (h.apart p y q x hy))
  · rw [hval, hval]
    by_cases hy : p = q ∧ y = x
    · by_cases hz : p' = q ∧ y' = x
      · exact absurd ⟨hy.1.trans hz.1.symm, hy.2.trans hz.2.symm⟩ hn
      · rw [if_pos hy, if_neg hz]
        rcases hne p' y' hz with h1 | h1
        · cases hv : v1.ownBlock with
          | none => exact .inl rfl
          | some z => exact .inr (by rw [h1]; simp)
        · exact .inr (fun e => h1 e.symm)
    · rw [if_neg hy]
      by_cases hz : p' = q ∧ y' = x
      · rw [if_pos hz]; exact hne p y hy
      · rw [if_neg hz]; exact h.apart p y p' y' hn
  · exact out_far (Kd.R_over h.outr (R_int (h.row q x)) (by decide) hg) hg2 (by omega)
/-- the row at x is gone -/
theorem WV.drop {w w' : World} {nb : Nat} {m : WM} {s : Wv} {q : Bool} {x : Int} (h : WV w nb m s) (hm : Mp.Holds w' (bR nb q) (Value.int .i64) id (Mp.del x (m.r q))) (hg : w.grownBy w' (some (bR nb q))) : WV w' nb (m.delR q x) (s.setG q x []) := by
  have hq := bR_lt nb q
  have hval : ∀ p y, valAt ((m.delR q x).r p) y = if p = q ∧ y = x then .slice none 0 0 else valAt (m.r p) y := fun p y => by
    show valAt (if p = q then Mp.del x (m.r q) else m.r p) y = _
    by_cases hp : p = q
    · rw [if_pos hp]
      unfold valAt
      rw [Mp.get_del x _ (h.nd q)]
      by_cases hy : y = x
      · rw [if_pos hy, if_pos ⟨hp, hy⟩]; rfl
      · rw [if_neg hy, if_neg (fun e => hy e.2), hp]
    · rw [if_neg hp, if_neg (fun e => hp e.1)]
  refine ⟨blk_grown h.cell hg (by omega), fun p => (h.ho p).kept (hg.block _ (h.ho p).lt (fun e => by injection e with e; exact bOR nb p q e)), fun p => ?_, fun p => ?_, h.eqo, fun p y => ?_, fun p y p' y' hn => ?_, out_far h.outr hg (by omega)⟩
  · show Mp.Holds w' (bR nb p) _ _ (if p = q then Mp.del x (m.r q) else m.r p)
    by_cases hp : p = q
    · rw [if_pos hp, hp]; exact hm
    · rw [if_neg hp]; exact (h.hr p).kept (hg.block _ (h.hr p).lt (fun e => by injection e with e; exact bR_inj hp e))
  · show Mp.Nd (if p = q then Mp.del x (m.r q) else m.r p)
    split
    · exact Mp.nd_del x (h.nd q)
    · exact h.nd p
  · rw [hval]
    show w'.ownsRow (nb + 5) 3 1 _ (if p = q ∧ y = x then [] else s.g p y).length (nums .i64 (if p = q ∧ y = x then [] else s.g p y))
    by_cases hy : p = q ∧ y = x
    · rw [if_pos hy, if_pos hy]; exact World.ownsRow_nil _ _ _ _
    · rw [if_neg hy, if_neg hy]; exact own_far (h.row p y) hg (by omega)
  · rw [hval, hval]
    by_cases hy : p = q ∧ y = x
    · rw [if_pos hy]; exact .inl rfl
    · rw [if_neg hy]
      by_cases hz : p' = q ∧ y' = x
      · rw [if_pos hz]
        cases hv : (valAt (m.r p) y).ownBlock with
        | none => exact .inl rfl
        | some z => exact .inr (by simp [Value.ownBlock])
      · rw [if_neg hz]; exact h.apart p y p' y' hn
/-- the pairs have grown, and are stored -/
theorem WV.outer {w w1 w2 : World} {nb : Nat} {m : WM} {s : Wv} {v' : Value} {out' : List S32} (h : WV w nb m s) (hg : w.grownBy w1 m.v.ownBlock) (hr : Kd.R k32 32 w1 (nb + 5) (fun _ => True) v' out')
    (hc : w2.heap[nb + 4]? = some (.cells (wCells nb v') 91 (0, 0))) (hg2 : w1.grownBy w2 (some (nb + 4))) : WV w2 nb { m with v := v' } { s with out := out' } := by
  obtain ⟨inner, hown⟩ := Kd.R_own h.outr
  have hb : ∀ k, k < nb + 5 → m.v.ownBlock ≠ some k := fun k hk e => by have := Lk.own_base hown k e; omega
  have hap : ∀ q x, (valAt (m.r q) x).ownBlock = none ∨ (valAt (m.r q) x).ownBlock ≠ m.v.ownBlock := fun q x => by
    cases hx : (valAt (m.r q) x).ownBlock with
    | none => exact .inl rfl
    | some k =>
      refine .inr fun e => ?_
      obtain ⟨c1, h1⟩ := own_type (h.row q x) k hx
      obtain ⟨c2, h2⟩ := own_type hown k e.symm
      rw [h1] at h2
      injection h2 with h2
      injection h2 with _ h2
      exact absurd h2 (by decide)
  refine ⟨hc, fun p => ?_, fun p => ?_, h.nd, h.eqo, fun p y => own_far (own_grown (h.row p y) hg (hap p y)) hg2 (by omega), h.apart, out_far hr hg2 (by omega)⟩
  · have hp := bO_lt nb p
    have k1 := (h.ho p).kept (hg.block _ (h.ho p).lt (fun e => hb _ (by omega) e.symm))
    exact k1.kept (hg2.block _ k1.lt (fun e => by injection e with e; omega))
  · have hp := bR_lt nb p
    have k1 := (h.hr p).kept (hg.block _ (h.hr p).lt (fun e => hb _ (by omega) e.symm))
    exact k1.kept (hg2.block _ k1.lt (fun e => by injection e with e; omega))
theorem WV.ev {w w' : World} {nb g : Nat} {m : WM} {s : Wv} {x : CE} {q : Bool} {y : Int} (h : WV w nb m s) (he : EvC g x w) (hg : w.grownBy w' (valAt (m.r q) y).ownBlock) : EvC g x w' := by
  refine he.grown hg (fun e => ?_)
  obtain ⟨c1, h1⟩ := own_type (h.row q y) g e
  obtain ⟨cs, h2, _⟩ := he
  rw [h1] at h2
  injection h2 with h2
  injection h2 with _ h2
  exact absurd h2 (by decide)
end Go.Proofs.Ytginlhengebgaaa.Ck
namespace Go.Proofs.Ytginlhengebgaaa.Ck
open Go Go.RowKit Go.Maps Go.Proofs.YtginlhengebgaaaW Go.Proofs.YtginlhengebgaaaW.PrintWords Go.Proofs.YtginlhengebgaaaW.PrintLast Go.Proofs.YtginlhengebgaaaW.PrintMore Go.Proofs.Ytginlhengebgaaa.PLockupEither Go.Proofs.Ytginlhengebgaaa.Bs Go.Proofs.Ytginlhengebgaaa.RegionVal Go.Proofs.Ytginlhengebgaaa.Lk
open Go.Lib hiding intOf
set_option linter.unusedVariables false
set_option linter.unusedSimpArgs false
theorem info28 : (Try.prog.info? 28).map (·.size) = some 1 := by kernel_rfl
theorem run_storeV (w : World) (nb : Nat) (v : Value) (A : Option Addr) (n c : Nat) (hk : w.heap[nb + 4]? = some (.cells (wCells nb v) 91 (0, 0))) : Sem.run Try.prog (Instr.storeAt 28 (.pointer (some ⟨nb + 4, 4, none⟩)) (.slice A n c)) w = .ok () (w.setCell ⟨nb + 4, 4, none⟩ (.slice A n c)) :=
  run_store_run (P := Try.prog) 28 (.slice A n c) [.slice A n c] hk rfl info28 (by simp [wCells]) (by intro q hq; obtain rfl := List.mem_singleton.1 hq; rfl)
theorem grown_set (w : World) (g o : Nat) (v : Value) : w.grownBy (w.setCell ⟨g, o, none⟩ v) (some g) := by
  have h := setCells_same g [v] o w
  exact ⟨h.1, h.2.1, h.2.2.1, Nat.le_of_eq h.2.2.2.symm, fun k _ hne => Below.heap_setCell w ⟨g, o, none⟩ v k (fun e => hne (by rw [e]))⟩
/-- what an edge leaves: an event that lies behind the maps stays -/
def KeepsE (nb : Nat) (w w' : World) : Prop := ∀ g x, nb + 5 ≤ g → EvC g x w → EvC g x w'
theorem KeepsE.refl (nb : Nat) (w : World) : KeepsE nb w w := fun _ _ _ h => h
theorem KeepsE.trans {nb : Nat} {a b c : World} (h : KeepsE nb a b) (k : KeepsE nb b c) : KeepsE nb a c := fun g x hg hx => k g x hg (h g x hg hx)
set_option maxHeartbeats 8000000 in
set_option maxRecDepth 100000 in
theorem edge_calls (w : World) (nb : Nat) (m : WM) (s : Wv) (i j : Int) (h : WV w nb m s) (hl : s.out.length ≤ 1000000) :
    Calls Try.prog 72 #[.pointer (some ⟨nb + 4, 0, none⟩), .int .i64 i, .int .i64 j] w fun e w' => e = .returned (.tuple #[]) ∧ ∃ v', WV w' nb { m with v := v' } (s.one i j) ∧ Below nb w w' ∧ KeepsE nb w w' := by
  have HW := Aside0.mk h
  have HSZ := Aside0.mk h.size
  have HL := Aside0.mk (show (s.out.length + 1) * 16 ≤ 140737488355328 by omega)
  have HC := Aside0.mk h.cell
  have k4 : w.cell? ⟨nb + 4, 4, none⟩ = some m.v := by rw [blk_cell h.cell]; rfl
  obtain ⟨A0, c0, hv0, hc0, _⟩ := Kd.R_reads h.outr
  rw [hv0] at k4
  have HV0 := Aside0.mk hv0
  have HO := Aside0.mk (show Kd.R k32 32 w (nb + 5) (fun _ => True) (.slice A0 s.out.length c0) s.out by rw [← hv0]; exact h.outr)
  clear h hl hv0
  go_enter Try.func72, Try.ntmps72
  go_wp2_with (first
    | (at_builtin; refine Kd.R_append_rows k32 (w0 := w) (nb + 5) rfl _ _ 28 32 (.agg #[.int .i64 0, .int .i64 0]) 16 rfl Try.underlying28 info32z rfl (by decide) (by omega) _ s.out [⟨i, j⟩] _ 1 1 (fun _ => True) (fun _ => False) rfl rfl (Kd.R_alloc HO.out _) (C_one32 (heap_alloc_new _ _)) (fun x cs h => by obtain rfl := k32_open h; exact k32_mkM _ _ _ x) (fun _ h => h.elim) (fun _ _ => trivial) (Below.alloc (Below.refl (nb + 5) w) HSZ.out _) (Nat.le_trans HSZ.out (below_alloc (Below.refl _ _) _).size) HL.out ?_; intro v1 w6 hown hB hg hat; obtain ⟨A1, c1, hv1, _, _⟩ := Kd.R_reads hown; subst hv1; have HO6 := Aside0.mk hown; have HB6 := Aside0.mk hB; have HG6 := Aside0.mk hg; have HAT := Aside0.mk hat; have HC6 := Aside0.mk ((HG6.out.block (nb + 4) (Nat.lt_of_lt_of_le (by have := HSZ.out; omega) (below_alloc (Below.refl w.heap.size w) _).size) (fun e => by obtain ⟨inner, ho⟩ := Kd.R_own (Kd.R_alloc HO.out (.cells #[.int .i64 i, .int .i64 j] 32)); have := Lk.own_base ho (nb + 4) e.symm; omega)).trans (blk_alloc HC.out (.cells #[.int .i64 i, .int .i64 j] 32))); clear hown hB hg hat)
    | (refine wpl_store rfl rfl rfl rfl rfl (run_storeV _ nb _ _ _ _ HC6.out) ?_)
    | fail)
  have hl1 : (s.out ++ [(⟨i, j⟩ : S32)]).length = s.out.length + 1 := by simp
  have HO7 := HO6.out
  rw [hl1] at HO7
  have HGg := Aside0.mk (grown_set w6 (nb + 4) 4 (.slice A1 (s.out.length + 1) c1))
  have HG0 := Aside0.mk (show (w.alloc (.cells #[.int .i64 i, .int .i64 j] 32)).grownBy w6 m.v.ownBlock by rw [HV0.out]; exact HG6.out)
  refine bodyPost_end (v := .tuple #[]) (results_none rfl _ _ _) rfl ⟨rfl, _, (HW.out.below (below_alloc (Below.refl w.heap.size w) _)).outer HG0.out HO7 (blk_put HC6.out 4 _ rfl) HGg.out, ?_, ?_⟩
  · have h := Below.grown (Below.mono HB6.out (show nb ≤ nb + 5 by omega)) HGg.out (by have := HB6.out.size; have := HSZ.out; omega) (fun k hk => by injection hk with hk; omega)
    exact h
  · intro g x hg hx
    have h1 := hx.below (below_alloc (Below.refl w.heap.size w) (.cells #[.int .i64 i, .int .i64 j] 32))
    have h2 := h1.grown HG0.out (fun e => by
      obtain ⟨inner, ho⟩ := Kd.R_own (Kd.R_alloc HW.out.outr (.cells #[.int .i64 i, .int .i64 j] 32))
      obtain ⟨c1, k1⟩ := own_type ho g e
      obtain ⟨cs, k2, _⟩ := h1
      rw [k1] at k2
      injection k2 with k2
      injection k2 with _ k2
      exact absurd k2 (by decide))
    exact h2.grown HGg.out (fun e => by injection e with e; omega)
set_option maxHeartbeats 8000000 in
set_option maxRecDepth 100000 in
theorem all_calls (w : World) (nb : Nat) (m : WM) (s : Wv) (q : Bool) (y j : Int) (h : WV w nb m s) (hl : s.out.length + (s.g q y).length ≤ 1000000) (hn : (s.g q y).length ≤ 1000) :
    Calls Try.prog 73 #[.pointer (some ⟨nb + 4, 0, none⟩), valAt (m.r q) y, .int .i64 j] w fun e w' => e = .returned (.tuple #[]) ∧ ∃ v', WV w' nb { m with v := v' } (s.all (s.g q y) j) ∧ Below nb w w' ∧ KeepsE nb w w' := by
  obtain ⟨A8, c8, hv8, hc8, _⟩ := own_rd (h.row q y)
  rw [hv8]
  have HV8 := Aside0.mk hv8
  have HW := Aside0.mk h
  have HL := Aside0.mk hl
  obtain ⟨l, hll⟩ : ∃ l, l = s.g q y := ⟨_, rfl⟩
  rw [← hll] at hc8 hn hv8 ⊢
  have HLL := Aside0.mk hll
  clear h hv8 hl hll
  go_enter Try.func73, Try.ntmps73
  go_wp2_with fail
  go_loopw [10] (fun v10 wr => ∃ k : Nat, v10 = .int .i64 (k : Int) ∧ k ≤ l.length ∧ Aside0 (∃ v', WV wr nb { m with v := v' } (s.all (l.take k) j)) ∧ Aside0 (Below nb w wr) ∧ Aside0 (KeepsE nb w wr)) (fun v10 _ => l.length - (intOf v10).toNat)
  case atStart => exact ⟨0, rfl, Nat.zero_le _, ⟨⟨m.v, by simpa [Wv.all] using HW.out⟩⟩, ⟨Below.refl _ _⟩, ⟨KeepsE.refl _ _⟩⟩
  case round =>
    obtain ⟨k, rfl, hk, HWk, HB, HK⟩ := hrel
    by_cases hlt : k < l.length
    · obtain ⟨v', hW'⟩ := HWk.out
      have hr := hW'.row q y
      rw [show ((s.all (l.take k) j).g q y) = l from HLL.out.symm] at hr
      obtain ⟨A9, c9, hv9, hd9, hr9⟩ := own_rd hr
      have hv9' : valAt (m.r q) y = .slice A9 l.length c9 := hv9
      rw [HV8.out] at hv9'
      injection hv9' with hA9 hn9 hce
      subst hA9
      subst hce
      clear hn9
      obtain ⟨ad8, hA8, hc8⟩ := hr9.2.2 (by omega)
      subst hA8
      obtain ⟨z, hz⟩ : ∃ z, z = l[k] := ⟨_, rfl⟩
      have kj : wr.cell? (ad8.add k) = some (.int .i64 z) := by
        have h := hc8 k hlt
        rw [hz]
        simpa [List.getD_eq_getElem?_getD, hlt] using h
      have HST := Aside0.mk (show (s.all (l.take k) j).one z j = s.all (l.take (k + 1)) j by
        unfold Wv.all Wv.one
        rw [List.take_succ_eq_append_getElem hlt, hz, List.map_append, List.append_assoc]
        rfl)
      have hlt1 : (k : Int) < (l.length : Int) := by omega
      have hk1000 : k < 1000 := by omega
      have HE := Aside0.mk (edge_calls wr nb _ _ z j hW' (by
        have h1 := HL.out
        rw [← HLL.out] at h1
        show (s.out ++ _).length ≤ _
        rw [List.length_append, List.length_map, List.length_take]
        omega))
      clear hr9 hc8 hz hv9 hr hW' HWk
      go_wp2_with fail
      refine HE.out.mono ?_
      rintro e w2 ⟨rfl, v2, hW2, hB2, hK2⟩
      rw [HST.out] at hW2
      have HW2 := Aside0.mk hW2
      have HB2 := Aside0.mk (Below.trans HB.out hB2)
      have HK2 := Aside0.mk (KeepsE.trans HK.out hK2)
      clear hW2 hB2 hK2 HE
      go_wp2
      go_roundw
      case rel =>
        exact ⟨k + 1, by go_num, hlt, ⟨⟨v2, HW2.out⟩⟩, HB2, HK2⟩
      case measure => simp [intOf]; omega
    · have HE := Aside0.mk (show ∃ v', WV wr nb { m with v := v' } (s.all l j) by
        obtain ⟨v', h⟩ := HWk.out
        rw [List.take_of_length_le (by omega)] at h
        exact ⟨v', h⟩)
      clear HWk
      go_wp2
      exact bodyPost_end (v := .tuple #[]) (results_none rfl _ _ _) rfl ⟨rfl, HE.out.choose, HE.out.choose_spec, HB.out, HK.out⟩
end Go.Proofs.Ytginlhengebgaaa.Ck
namespace Go.Proofs.Ytginlhengebgaaa.Ck
open Go Go.RowKit Go.Maps Go.Proofs.YtginlhengebgaaaW Go.Proofs.YtginlhengebgaaaW.PrintWords Go.Proofs.YtginlhengebgaaaW.PrintLast Go.Proofs.YtginlhengebgaaaW.PrintMore Go.Proofs.Ytginlhengebgaaa.PLockupEither Go.Proofs.Ytginlhengebgaaa.Bs Go.Proofs.Ytginlhengebgaaa.RegionVal Go.Proofs.Ytginlhengebgaaa.Lk
open Go.Lib hiding intOf
set_option linter.unusedVariables false
set_option linter.unusedSimpArgs false
section
variable {P : Program} {L : List Oper} {ds : List Nat} {T U : World → Prop} {a0 : Act} {Q : Exit → Act → World → Prop}
theorem wp_dirty1 (ds : List Nat) (T U : World → Prop) (hTU : ∀ w, T w → U w) (pre post : List (Nat × Bool)) (hc : (Region.noSelect L.toArray && dstOk L a0.tmps.size && (DT.leaf pre post).ok L.toArray ds (Array.replicate L.length false) && Nat.ble (DT.leaf pre post).depth L.length) = true) (hm : P.follows .mixedOrders = true) {id : Nat} {w : World} (hS : T w.drew)
    (hQ : ∀ c a d v w, Q (.panic c) (Act.put a d v) w → Q (.panic c) a w)
    (h : SeqE P L T a0 (fun env w => SeqE P L U a0 (fun F w' => Q .normal (puts a0 F) w') post env w) pre [] w.drew) : (Code.region id L.toArray true).wp P Q a0 w :=
  wp_dirty ds T U hTU (fun a F w' => Q .normal (puts a F) w') (.leaf pre post) hc hm hS hQ (fun _ _ h => h) h
end
section
variable {P : Program} {L : List Oper} {S : World → Prop} {a0 : Act} {K : List (Nat × Value) → World → Prop} {rest : List (Nat × Bool)} {env : List (Nat × Value)} {w : World} {i d : Nat} {T : TypeId} {pos : String} {after : Array Edge} {g : Option (Nat × Bool)}
theorem se_look {t : TypeId} {m x : Operand} {c : Bool} {vm vx v : Value} (ho : want.nthO L i = some ⟨some d, .lookup t m x c, T, pos, after, g⟩) (hg : want L a0 env g = some true) (hm : rdo a0 env m = some vm) (hx : rdo a0 env x = some vx)
    (hr : ∀ w, S w → Sem.run P (Instr.lookup t vm vx c) w = .ok v w) (h : SeqE P L S a0 K rest ((d, v) :: env) w) : SeqE P L S a0 K ((i, false) :: rest) env w :=
  se_gen ho hg (fun w hw => by
    have h1 := hr w hw
    simp only [execOp]
    rw [ev_of hm, ev_of hx]
    simp only [Sem.run_bind]
    rw [h1]
    rfl) h
/-- delete(m, x) -/
theorem se_del {ts : Array TypeId} {m x : Operand} {vm vx v : Value} {w' : World} (ho : want.nthO L i = some ⟨none, .call { callee := .builtin .delete, args := #[m, x], argTypes := ts }, T, pos, after, g⟩) (hg : want L a0 env g = some true) (hm : rdo a0 env m = some vm) (hx : rdo a0 env x = some vx)
    (hr : Sem.run P (Builtin.delete_ ts T #[vm, vx]) w = .ok v w') (hS : S w') (h : SeqE P L S a0 K rest env w') : SeqE P L S a0 K ((i, true) :: rest) env w := by
  refine ⟨_, ho, .inl ⟨hg, ?_⟩⟩
  have h1 : (execOp (ev a0 env) ⟨none, .call { callee := .builtin .delete, args := #[m, x], argTypes := ts }, T, pos, after, g⟩).run P w = .ok (.value v) w' := by
    simp [execOp, resolve, invoke, builtin, Sem.run_bind, ev_of hm, ev_of hx, hr]
  rw [h1]
  exact ⟨hS, h⟩
end
theorem fld0 {w : World} {nb : Nat} {v : Value} (h : w.heap[nb + 4]? = some (.cells (wCells nb v) 91 (0, 0))) : Sem.run Try.prog (Instr.loadAt 64 (.pointer (some ⟨nb + 4, 0, none⟩))) w = .ok (.map (some (bO nb false))) w := by
  have k : w.cell? ⟨nb + 4, 0, none⟩ = some (.map (some (bO nb false))) := by rw [blk_cell h]; rfl
  go_simp
theorem fld1 {w : World} {nb : Nat} {v : Value} (h : w.heap[nb + 4]? = some (.cells (wCells nb v) 91 (0, 0))) : Sem.run Try.prog (Instr.loadAt 67 (.pointer (some ⟨nb + 4, 1, none⟩))) w = .ok (.map (some (bR nb false))) w := by
  have k : w.cell? ⟨nb + 4, 1, none⟩ = some (.map (some (bR nb false))) := by rw [blk_cell h]; rfl
  go_simp
theorem fld2 {w : World} {nb : Nat} {v : Value} (h : w.heap[nb + 4]? = some (.cells (wCells nb v) 91 (0, 0))) : Sem.run Try.prog (Instr.loadAt 64 (.pointer (some ⟨nb + 4, 2, none⟩))) w = .ok (.map (some (bO nb true))) w := by
  have k : w.cell? ⟨nb + 4, 2, none⟩ = some (.map (some (bO nb true))) := by rw [blk_cell h]; rfl
  go_simp
theorem fld3 {w : World} {nb : Nat} {v : Value} (h : w.heap[nb + 4]? = some (.cells (wCells nb v) 91 (0, 0))) : Sem.run Try.prog (Instr.loadAt 67 (.pointer (some ⟨nb + 4, 3, none⟩))) w = .ok (.map (some (bR nb true))) w := by
  have k : w.cell? ⟨nb + 4, 3, none⟩ = some (.map (some (bR nb true))) := by rw [blk_cell h]; rfl
  go_simp
theorem evl0 {w : World} {gx : Nat} {x : CE} (h : EvC gx x w) : Sem.run Try.prog (Instr.loadAt 3 (.pointer (some ⟨gx, 0, none⟩))) w = .ok (.int .i64 x.k) w := by
  have k := h.cell.1
  go_simp
theorem evl2 {w : World} {gx : Nat} {x : CE} (h : EvC gx x w) : Sem.run Try.prog (Instr.loadAt 3 (.pointer (some ⟨gx, 2, none⟩))) w = .ok (.int .i64 x.t) w := by
  have k := h.cell.2.1
  go_simp
theorem evl6 {w : World} {gx : Nat} {x : CE} (h : EvC gx x w) : Sem.run Try.prog (Instr.loadAt 3 (.pointer (some ⟨gx, 6, none⟩))) w = .ok (.int .i64 x.a) w := by
  have k := h.cell.2.2.1
  go_simp
def orI : Option Int → Int
  | some i => i
  | none => 0
theorem WV.look2 {w : World} {nb : Nat} {m : WM} {s : Wv} (h : WV w nb m s) (q : Bool) (y : Int) : Sem.run Try.prog (Instr.lookup 64 (.map (some (bO nb q))) (.int .i64 y) true) w = .ok (.tuple #[.int .i64 (orI (s.o q y)), .bool (s.o q y).isSome]) w := by
  have h1 := Mp.lookup_run keyI Try.underlying64 (zero3 w) (h.ho q) y true
  rw [if_pos rfl, h.eqo q y] at h1
  rw [h1]
  cases s.o q y <;> rfl
theorem look1 {w : World} {b : Nat} {m : List (Int × Value)} (h : Mp.Holds w b (Value.int .i64) id m) (y : Int) : Sem.run Try.prog (Instr.lookup 67 (.map (some b)) (.int .i64 y) false) w = .ok (valAt m y) w := by
  have h1 := Mp.lookup_run keyI Try.underlying67 (zero24 w) h y false
  rw [if_neg (by decide), orZ] at h1
  exact h1
theorem may_some {s : Wv} {q : Bool} {x j i : Int} (h : true = (s.o q x).isSome) (hi : i = orI (s.o q x)) : s.may q x j = s.one i j := by
  unfold Wv.may
  cases ho : s.o q x with
  | none => rw [ho] at h; cases h
  | some k => rw [ho] at hi; simp only [orI] at hi; rw [hi]
theorem may_none {s : Wv} {q : Bool} {x j : Int} (h : false = (s.o q x).isSome) : s.may q x j = s := by
  unfold Wv.may
  cases ho : s.o q x with
  | none => rfl
  | some k => rw [ho] at h; cases h
theorem may_len (s : Wv) (q : Bool) (x j : Int) : (s.may q x j).out.length ≤ s.out.length + 1 := by
  unfold Wv.may
  cases s.o q x with
  | none => exact Nat.le_succ _
  | some k => simp [Wv.one]
theorem may_g (s : Wv) (q : Bool) (x j : Int) : (s.may q x j).g = s.g := by
  unfold Wv.may
  cases s.o q x <;> rfl
theorem head_len {s : Wv} {j : Nat} {x : CE} (h : Ahead s j) (hl : s.out.length ≤ 500000) : (wHead s (j : Int) x).out.length ≤ 500001 + j ∧ ∀ q y, ((wHead s (j : Int) x).g q y).length ≤ j := by
  obtain ⟨e, h1, _, _, h2⟩ := head_step (x := x) h
  refine ⟨by rw [h1, List.length_append]; omega, fun q y => (head_g (x := x) h q y).2.1⟩
set_option maxHeartbeats 32000000 in
set_option maxRecDepth 100000 in
theorem event_calls (w : World) (nb : Nat) (m : WM) (s : Wv) (j : Nat) (x : CE) (cs : List Value) (hcs : x.In cs) (h : WV w nb m s) (hj : j ≤ 900) (hA : Ahead s j) (hl : s.out.length ≤ 500000) :
    Calls Try.prog 51 #[.pointer (some ⟨nb + 4, 0, none⟩), .int .i64 (j : Int), .agg cs.toArray] w fun e w' => e = .returned (.tuple #[]) ∧ ∃ m', WV w' nb m' (wStep s (j : Int) x) ∧ Below nb w w' := by
  have HA := Aside0.mk hA
  have HLO := Aside0.mk hl
  clear hA hl
  go_enter Try.func51, Try.ntmps51

  go_wp2_with fail
  have HE := Aside0.mk (show EvC w.heap.size x (w.alloc (.cells cs.toArray 41)) from ⟨cs.toArray, heap_alloc_new w _, by simpa using hcs⟩)
  have HW := Aside0.mk (h.below (below_alloc (Below.refl _ _) (.cells cs.toArray 41)))
  have HB := Aside0.mk (Below.mono (below_alloc (Below.refl w.heap.size w) (.cells cs.toArray 41)) (show nb ≤ w.heap.size by have := h.size; omega))
  have HGX := Aside0.mk (show nb + 5 ≤ w.heap.size from h.size)
  have HSZ0 := Aside0.mk (show nb + 5 ≤ w.heap.size from h.size)
  obtain ⟨gx, hgx⟩ : ∃ gx, gx = w.heap.size := ⟨_, rfl⟩
  rw [← hgx] at HE HGX ⊢
  generalize w.alloc (.cells cs.toArray 41) = W at HE HW HB ⊢
  clear hgx h hcs
  obtain ⟨i0, hi0⟩ : ∃ i0, i0 = orI (s.o false x.t) := ⟨_, rfl⟩
  obtain ⟨b0, hb0⟩ : ∃ b0, b0 = (s.o false x.t).isSome := ⟨_, rfl⟩
  have HI0 := Aside0.mk hi0
  have HB0 := Aside0.mk hb0
  clear hi0 hb0
  refine wp_eff (S := (fun w' => EvC gx x w' ∧ WV w' nb m s)) [(0, false), (1, false), (2, false), (3, false), (4, false), (5, false), (6, false), (7, false), (8, false), (9, false), (10, false), (11, false)] (by kernel_rfl) (by kernel_rfl) ⟨HE.out.below (below_drew1 (Below.refl _ _)), HW.out.below (below_drew1 (Below.refl _ _))⟩ (fun _ _ d _ _ h => by cases d <;> exact h) ?_
  refine se_move rfl rfl rfl ?_
  refine se_un (v := .pointer (some ⟨nb + 4, 0, none⟩)) rfl rfl rfl rfl rfl (fun w' hw => by go_simp) ?_
  refine se_un (v := .pointer (some ⟨nb + 4, 0, none⟩)) rfl rfl rfl rfl rfl (fun w' hw => by go_simp) ?_
  refine se_load (v := .map (some (bO nb false))) rfl rfl rfl (fun w' hw => fld0 hw.2.cell) ?_
  refine se_un (v := .pointer (some ⟨gx, 2, none⟩)) rfl rfl rfl rfl rfl (fun w' hw => by go_simp) ?_
  refine se_load (v := .int .i64 x.t) rfl rfl rfl (fun w' hw => evl2 hw.1) ?_
  refine se_look (v := .tuple #[.int .i64 i0, .bool b0]) rfl rfl rfl rfl (fun w' hw => by rw [HI0.out, HB0.out]; exact hw.2.look2 false _) ?_
  refine se_move rfl rfl rfl ?_
  refine se_un (v := .int .i64 i0) rfl rfl rfl rfl rfl (fun w' hw => by go_simp) ?_
  refine se_un (v := .bool b0) rfl rfl rfl rfl rfl (fun w' hw => by go_simp) ?_
  refine se_assign rfl rfl rfl ?_
  refine se_assign rfl rfl rfl ?_
  intro hS
  have HE := Aside0.mk hS.1
  have HW := Aside0.mk hS.2
  have HB := Aside0.mk (below_drew HB.out)
  clear hS
  simp only [puts, Act.put, List.setIfInBounds_toArray, List.set_cons_zero, List.set_cons_succ]
  go_upto_if 20 with fail
  go_cut [] from 20 to 24 (fun wx => Aside0 (∃ v', WV wx nb { m with v := v' } (s.may false x.t (j : Int))) ∧ Aside0 (EvC gx x wx) ∧ Aside0 (Below nb w wx))
  case first =>
    cases b0 with
    | true =>
      have HM := Aside0.mk (show s.may false x.t (j : Int) = s.one i0 (j : Int) from may_some HB0.out HI0.out)
      have HC := Aside0.mk (edge_calls _ nb m s i0 (j : Int) HW.out (by have := HLO.out; omega))
      go_wp2_with fail
      refine HC.out.mono ?_
      rintro e w2 ⟨rfl, v2, hW2, hB2, hK2⟩
      have HX := Aside0.mk (And.intro (show ∃ v', WV w2 nb { m with v := v' } (s.may false x.t (j : Int)) by rw [HM.out]; exact ⟨v2, hW2⟩) (And.intro (hK2 gx x HGX.out HE.out) (Below.trans HB.out hB2)))
      clear hW2 hB2 hK2 HC
      go_wp2_with fail
      go_meet
      exact ⟨⟨HX.out.1⟩, ⟨HX.out.2.1⟩, ⟨HX.out.2.2⟩⟩
    | false =>
      have HM := Aside0.mk (show s.may false x.t (j : Int) = s from may_none HB0.out)
      go_wp2_with fail
      go_meet
      exact ⟨⟨⟨m.v, by rw [HM.out]; exact HW.out⟩⟩, HE, HB⟩
  case rest =>
    obtain ⟨HW', HE, HB⟩ := hcut
    obtain ⟨v', hW'⟩ := HW'.out
    have HW := Aside0.mk hW'
    clear hW' HW'
    obtain ⟨s1, hs1⟩ : ∃ s1, s1 = s.may false x.t (j : Int) := ⟨_, rfl⟩
    have HLA := Aside0.mk (show s1.out.length + (s1.g false x.t).length ≤ 1000000 by
      have h1 := may_len s false x.t (j : Int)
      have h2 := HLO.out
      have h3 := HA.out.len false x.t
      rw [hs1, may_g]
      omega)
    have HLB := Aside0.mk (show (s1.g false x.t).length ≤ 1000 by
      have h3 := HA.out.len false x.t
      rw [hs1, may_g]
      omega)
    have HHD := Aside0.mk (show wHead s (j : Int) x = ((s1.all (s1.g false x.t) (j : Int)).setG false x.t []).setO false x.t (j : Int) by
      unfold wHead
      rw [hs1, may_g])
    rw [← hs1] at HW
    clear hs1
    go_wp2_with fail
    refine wp_eff (S := (fun w' => EvC gx x w' ∧ (∃ v, w'.heap[nb + 4]? = some (.cells (wCells nb v) 91 (0, 0))) ∧ Mp.Holds w' (bR nb false) (Value.int .i64) id (m.r false))) [(0, false), (1, false), (2, false), (3, false), (4, false), (5, false), (6, false), (7, false), (8, false), (9, true)] (by kernel_rfl) (by kernel_rfl) ⟨HE.out.below (below_drew1 (Below.refl _ _)), ⟨_, (HW.out.below (below_drew1 (Below.refl _ _))).cell⟩, (HW.out.below (below_drew1 (Below.refl _ _))).hr false⟩ (fun _ _ d _ _ h => by cases d <;> exact h) ?_
    refine se_move rfl rfl rfl ?_
    refine se_move rfl rfl rfl ?_
    refine se_un (v := .pointer (some ⟨nb + 4, 0, none⟩)) rfl rfl rfl rfl rfl (fun w' hw => by go_simp) ?_
    refine se_un (v := .pointer (some ⟨nb + 4, 1, none⟩)) rfl rfl rfl rfl rfl (fun w' hw => by go_simp) ?_
    refine se_load (v := .map (some (bR nb false))) rfl rfl rfl (fun w' hw => fld1 hw.2.1.choose_spec) ?_
    refine se_un (v := .pointer (some ⟨gx, 2, none⟩)) rfl rfl rfl rfl rfl (fun w' hw => by go_simp) ?_
    refine se_load (v := .int .i64 x.t) rfl rfl rfl (fun w' hw => evl2 hw.1) ?_
    refine se_look (v := valAt (m.r false) x.t) rfl rfl rfl rfl (fun w' hw => look1 hw.2.2 _) ?_
    refine se_move rfl rfl rfl ?_
    refine se_call (vs := [.pointer (some ⟨nb + 4, 0, none⟩), valAt (m.r false) x.t, .int .i64 (j : Int)]) rfl rfl Try.func73 (by kernel_rfl) rfl (by kernel_rfl) ?_
    refine (all_calls _ nb _ s1 false x.t (j : Int) (HW.out.below (below_drew1 (Below.refl _ _))) HLA.out HLB.out).mono ?_
    rintro e w2 ⟨rfl, v2, hW2, hB2, hK2⟩
    have hE2 := hK2 gx x HGX.out (HE.out.below (below_drew1 (Below.refl _ _)))
    refine ⟨_, rfl, ⟨hE2, ⟨_, hW2.cell⟩, hW2.hr false⟩, ?_⟩
    intro _
    have HE := Aside0.mk hE2
    have HW := Aside0.mk hW2
    have HB := Aside0.mk (Below.trans (below_drew HB.out) hB2)
    clear hW2 hB2 hK2 hE2
    simp only [puts, Act.put, List.setIfInBounds_toArray, List.set_cons_zero, List.set_cons_succ]
    go_wp2_with fail
    refine wp_eff (S := (fun w' => EvC gx x w' ∧ ∃ v, w'.heap[nb + 4]? = some (.cells (wCells nb v) 91 (0, 0)))) [(0, false), (1, false), (2, false), (3, false), (4, false), (5, false), (6, true)] (by kernel_rfl) (by kernel_rfl) ⟨HE.out.below (below_drew1 (Below.refl _ _)), ⟨_, (HW.out.below (below_drew1 (Below.refl _ _))).cell⟩⟩ (fun _ _ d _ _ h => by cases d <;> exact h) ?_
    refine se_move rfl rfl rfl ?_
    refine se_un (v := .pointer (some ⟨nb + 4, 0, none⟩)) rfl rfl rfl rfl rfl (fun w' hw => by go_simp) ?_
    refine se_un (v := .pointer (some ⟨nb + 4, 1, none⟩)) rfl rfl rfl rfl rfl (fun w' hw => by go_simp) ?_
    refine se_load (v := .map (some (bR nb false))) rfl rfl rfl (fun w' hw => fld1 hw.2.choose_spec) ?_
    refine se_un (v := .pointer (some ⟨gx, 2, none⟩)) rfl rfl rfl rfl rfl (fun w' hw => by go_simp) ?_
    refine se_load (v := .int .i64 x.t) rfl rfl rfl (fun w' hw => evl2 hw.1) ?_
    obtain ⟨x2, hu, hh2, hg2, hs2⟩ := Mp.delete_run (ty := _) (kt := 3) keyI Try.underlying67 ((HW.out.below (below_drew1 (Below.refl _ _))).hr false) x.t
    have hW2 := (HW.out.below (below_drew1 (Below.refl _ _))).drop hh2 hg2
    have hE2 := (HE.out.below (below_drew1 (Below.refl _ _))).grown hg2 (fun e => by injection e with e; have := bR_lt nb false; have := HGX.out; omega)
    refine se_del rfl rfl rfl rfl hu ⟨hE2, _, hW2.cell⟩ ?_
    intro _
    have HE := Aside0.mk hE2
    have HW := Aside0.mk hW2
    have HB := Aside0.mk (Below.grown (below_drew HB.out) hg2 (by have := (below_drew HB.out).size; have := HSZ0.out; omega) (fun k hk => by injection hk with hk; have := bR_lt nb false; omega))
    clear hW2 hE2 hu hh2 hg2 hs2
    simp only [puts, Act.put, List.setIfInBounds_toArray, List.set_cons_zero, List.set_cons_succ]
    go_wp2_with fail
    refine wp_eff (S := (fun w' => EvC gx x w' ∧ ∃ v, w'.heap[nb + 4]? = some (.cells (wCells nb v) 91 (0, 0)))) [(0, false), (1, false), (2, false), (3, false), (4, false), (5, false), (6, false), (7, true)] (by kernel_rfl) (by kernel_rfl) ⟨HE.out.below (below_drew1 (Below.refl _ _)), ⟨_, (HW.out.below (below_drew1 (Below.refl _ _))).cell⟩⟩ (fun _ _ d _ _ h => by cases d <;> exact h) ?_
    refine se_move rfl rfl rfl ?_
    refine se_un (v := .pointer (some ⟨nb + 4, 0, none⟩)) rfl rfl rfl rfl rfl (fun w' hw => by go_simp) ?_
    refine se_un (v := .pointer (some ⟨nb + 4, 0, none⟩)) rfl rfl rfl rfl rfl (fun w' hw => by go_simp) ?_
    refine se_load (v := .map (some (bO nb false))) rfl rfl rfl (fun w' hw => fld0 hw.2.choose_spec) ?_
    refine se_un (v := .pointer (some ⟨gx, 2, none⟩)) rfl rfl rfl rfl rfl (fun w' hw => by go_simp) ?_
    refine se_load (v := .int .i64 x.t) rfl rfl rfl (fun w' hw => evl2 hw.1) ?_
    refine se_move rfl rfl rfl ?_
    obtain ⟨x2, hu, hh2, hg2, hs2⟩ := Mp.update_run keyI Try.underlying64 ((HW.out.below (below_drew1 (Below.refl _ _))).ho false) x.t (j : Int)
    have hW2 := (HW.out.below (below_drew1 (Below.refl _ _))).setO hh2 hg2
    have hE2 := (HE.out.below (below_drew1 (Below.refl _ _))).grown hg2 (fun e => by injection e with e; have := bO_lt nb false; have := HGX.out; omega)
    refine se_mapUpd rfl rfl rfl rfl rfl hu ⟨hE2, _, hW2.cell⟩ ?_
    intro _
    have HE := Aside0.mk hE2
    have HW := Aside0.mk hW2
    have HB := Aside0.mk (Below.grown (below_drew HB.out) hg2 (by have := (below_drew HB.out).size; have := HSZ0.out; omega) (fun k hk => by injection hk with hk; have := bO_lt nb false; omega))
    clear hW2 hE2 hu hh2 hg2 hs2
    simp only [puts, Act.put, List.setIfInBounds_toArray, List.set_cons_zero, List.set_cons_succ]
    rw [← HHD.out] at HW
    obtain ⟨s2, hs2⟩ : ∃ s2, s2 = wHead s (j : Int) x := ⟨_, rfl⟩
    rw [← hs2] at HW
    have HS2 := Aside0.mk hs2
    have HHL := Aside0.mk (head_len (x := x) HA.out HLO.out)
    rw [← hs2] at HHL
    clear hs2
    generalize hm1 : (({ m with v := v2 } : WM).delR false x.t).setO false x.t (j : Int) = m1 at HW
    clear hm1
    have HE0 := HE.out.cell
    have k0 := HE0.1
    have HLG := Aside0.mk (show ∀ q y, (s2.g q y).length ≤ 900 from fun q y => by have := HHL.out.2 q y; omega)
    have HLO2 := Aside0.mk (show s2.out.length ≤ 600000 by have := HHL.out.1; omega)
    clear HE0 HHL HHD HLA HLB HA HLO hj
    by_cases hk11 : x.k = 11
    · skip
      have d9 : (x.k == 11) = true := beq_iff_eq.2 hk11
      have HST := Aside0.mk (show wStep s (j : Int) x = s2.setG false x.a (s2.g false x.a ++ [(j : Int)]) by
        unfold wStep
        simp only
        rw [← HS2.out, if_pos hk11])
      clear hk11
      go_wp2_with fail
      skip
      skip
      refine wp_dirty1 [16] (fun w' => EvC gx x w' ∧ (∃ v, w'.heap[nb + 4]? = some (.cells (wCells nb v) 91 (0, 0))) ∧ Mp.Holds w' (bR nb false) (Value.int .i64) id (m1.r false)) (fun _ => True) (fun _ _ => trivial) [(0, false), (1, false), (2, false), (3, false), (4, false), (5, false), (6, false), (7, false), (8, false), (9, false), (10, false), (11, false), (12, false), (13, false), (14, true), (15, true)] [(16, true)] (by kernel_rfl) (by kernel_rfl) ⟨HE.out.below (below_drew1 (Below.refl _ _)), ⟨_, (HW.out.below (below_drew1 (Below.refl _ _))).cell⟩, (HW.out.below (below_drew1 (Below.refl _ _))).hr false⟩ (fun _ _ d _ _ h => by cases d <;> exact h) ?_
      refine se_move rfl rfl rfl ?_
      refine se_un (v := .pointer (some ⟨nb + 4, 0, none⟩)) rfl rfl rfl rfl rfl (fun w' hw => by go_simp) ?_
      refine se_un (v := .pointer (some ⟨nb + 4, 1, none⟩)) rfl rfl rfl rfl rfl (fun w' hw => by go_simp) ?_
      refine se_load (v := .map (some (bR nb false))) rfl rfl rfl (fun w' hw => fld1 hw.2.1.choose_spec) ?_
      refine se_un (v := .pointer (some ⟨gx, 6, none⟩)) rfl rfl rfl rfl rfl (fun w' hw => by go_simp) ?_
      refine se_load (v := .int .i64 x.a) rfl rfl rfl (fun w' hw => evl6 hw.1) ?_
      refine se_move rfl rfl rfl ?_
      refine se_un (v := .pointer (some ⟨nb + 4, 0, none⟩)) rfl rfl rfl rfl rfl (fun w' hw => by go_simp) ?_
      refine se_un (v := .pointer (some ⟨nb + 4, 1, none⟩)) rfl rfl rfl rfl rfl (fun w' hw => by go_simp) ?_
      refine se_load (v := .map (some (bR nb false))) rfl rfl rfl (fun w' hw => fld1 hw.2.1.choose_spec) ?_
      refine se_un (v := .pointer (some ⟨gx, 6, none⟩)) rfl rfl rfl rfl rfl (fun w' hw => by go_simp) ?_
      refine se_load (v := .int .i64 x.a) rfl rfl rfl (fun w' hw => evl6 hw.1) ?_
      refine se_look (v := valAt (m1.r false) x.a) rfl rfl rfl rfl (fun w' hw => look1 hw.2.2 _) ?_
      refine se_move rfl rfl rfl ?_
      have HWa := Aside0.mk ((HW.out.below (below_drew1 (Below.refl _ _))).below (below_alloc (Below.refl _ _) (.cells #[.int .i64 (j : Int)] 3)))
      have HEa := Aside0.mk ((HE.out.below (below_drew1 (Below.refl _ _))).below (below_alloc (Below.refl _ _) (.cells #[.int .i64 (j : Int)] 3)))
      refine se_lit (vs := [(0, .int .i64 (j : Int))]) rfl rfl rfl (run_lit3 _ _) ⟨HEa.out, ⟨_, HWa.out.cell⟩, HWa.out.hr false⟩ ?_
      obtain ⟨v1, x1, hx1, ho1, hb1, hg1, hat1⟩ := own_app (w0 := x2) (nb + 5) (valAt (m1.r false) x.a) (s2.g false x.a) (j : Int) _ (HWa.out.row false x.a) (reads_lit x2.drew [(j : Int)] (by simp) 3) (Below.alloc (below_drew (Below.refl (nb + 5) x2)) HW.out.size _) HWa.out.size (by have := HLG.out false x.a; omega)
      have he1 := HWa.out.ev HEa.out hg1
      have hh1 := (HWa.out.hr false).kept (hg1.block _ (HWa.out.hr false).lt (fun e => by have := Lk.own_base (HWa.out.row false x.a) _ e.symm; have := bR_lt nb false; omega))
      have hc1 := (hg1.block _ (Array.getElem?_eq_some_iff.1 HWa.out.cell).1 (fun e => by have := Lk.own_base (HWa.out.row false x.a) _ e.symm; omega)).trans HWa.out.cell
      refine se_made rfl rfl rfl hx1 ⟨he1, ⟨_, hc1⟩, hh1⟩ ?_
      obtain ⟨x3, hu, hh2, hg2, hs2⟩ := Mp.update_run keyI Try.underlying67 hh1 x.a v1
      refine se_mapUpd rfl rfl rfl rfl rfl hu trivial ?_
      have HW := Aside0.mk (HWa.out.turn hg1 ho1 hat1 hh2 hg2)
      have HB := Aside0.mk (Below.grown (Below.trans HB.out (Below.mono hb1 (show nb ≤ nb + 5 by omega))) hg2 (by have := (Below.trans HB.out (Below.mono hb1 (show nb ≤ nb + 5 by omega))).size; have := HSZ0.out; omega) (fun k hk => by injection hk with hk; have := bR_lt nb false; omega))
      clear HWa HEa he1 hh1 hc1 hx1 ho1 hb1 hg1 hat1 hu hh2 hg2 hs2
      simp only [SeqE, puts, Act.put, List.setIfInBounds_toArray, List.set_cons_zero, List.set_cons_succ]
      go_wp2
      exact bodyPost_end (v := .tuple #[]) (results_none rfl _ _ _) rfl ⟨rfl, _, (show WV _ nb _ (wStep s (j : Int) x) by rw [HST.out]; exact HW.out), HB.out⟩
    · by_cases hk17 : x.k = 17
      · skip
        have d0 : (x.k == 11) = false := beq_eq_false_iff_ne.2 hk11
        have d9 : (x.k == 17) = true := beq_iff_eq.2 hk17
        have HST := Aside0.mk (show wStep s (j : Int) x = s2.setO true x.t (j : Int) by
          unfold wStep
          simp only
          rw [← HS2.out, if_neg hk11, if_pos hk17])
        clear hk11 hk17
        go_wp2_with fail
        refine wp_eff (S := (fun w' => EvC gx x w' ∧ ∃ v, w'.heap[nb + 4]? = some (.cells (wCells nb v) 91 (0, 0)))) [(0, false), (1, false), (2, false), (3, false), (4, false), (5, false), (6, false), (7, true)] (by kernel_rfl) (by kernel_rfl) ⟨HE.out.below (below_drew1 (Below.refl _ _)), ⟨_, (HW.out.below (below_drew1 (Below.refl _ _))).cell⟩⟩ (fun _ _ d _ _ h => by cases d <;> exact h) ?_
        refine se_move rfl rfl rfl ?_
        refine se_un (v := .pointer (some ⟨nb + 4, 0, none⟩)) rfl rfl rfl rfl rfl (fun w' hw => by go_simp) ?_
        refine se_un (v := .pointer (some ⟨nb + 4, 2, none⟩)) rfl rfl rfl rfl rfl (fun w' hw => by go_simp) ?_
        refine se_load (v := .map (some (bO nb true))) rfl rfl rfl (fun w' hw => fld2 hw.2.choose_spec) ?_
        refine se_un (v := .pointer (some ⟨gx, 2, none⟩)) rfl rfl rfl rfl rfl (fun w' hw => by go_simp) ?_
        refine se_load (v := .int .i64 x.t) rfl rfl rfl (fun w' hw => evl2 hw.1) ?_
        refine se_move rfl rfl rfl ?_
        obtain ⟨x2, hu, hh2, hg2, hs2⟩ := Mp.update_run keyI Try.underlying64 ((HW.out.below (below_drew1 (Below.refl _ _))).ho true) x.t (j : Int)
        have hW2 := (HW.out.below (below_drew1 (Below.refl _ _))).setO hh2 hg2
        have hE2 := (HE.out.below (below_drew1 (Below.refl _ _))).grown hg2 (fun e => by injection e with e; have := bO_lt nb true; have := HGX.out; omega)
        refine se_mapUpd rfl rfl rfl rfl rfl hu ⟨hE2, _, hW2.cell⟩ ?_
        intro _
        have HE := Aside0.mk hE2
        have HW := Aside0.mk hW2
        have HB := Aside0.mk (Below.grown (below_drew HB.out) hg2 (by have := (below_drew HB.out).size; have := HSZ0.out; omega) (fun k hk => by injection hk with hk; have := bO_lt nb true; omega))
        clear hW2 hE2 hu hh2 hg2 hs2
        simp only [puts, Act.put, List.setIfInBounds_toArray, List.set_cons_zero, List.set_cons_succ]
        go_wp2
        exact bodyPost_end (v := .tuple #[]) (results_none rfl _ _ _) rfl ⟨rfl, _, (show WV _ nb _ (wStep s (j : Int) x) by rw [HST.out]; exact HW.out), HB.out⟩
      · by_cases hk12 : x.k = 12
        · skip
          have d0 : (x.k == 11) = false := beq_eq_false_iff_ne.2 hk11
          have d1 : (x.k == 17) = false := beq_eq_false_iff_ne.2 hk17
          have d9 : (x.k == 12) = true := beq_iff_eq.2 hk12
          have HST := Aside0.mk (show wStep s (j : Int) x = s2.may true x.a (j : Int) by
            unfold wStep
            simp only
            rw [← HS2.out, if_neg hk11, if_neg hk17, if_pos hk12])
          clear hk11 hk17 hk12
          obtain ⟨i0, hi0⟩ : ∃ i0, i0 = orI (s2.o true x.a) := ⟨_, rfl⟩
          obtain ⟨b0, hb0⟩ : ∃ b0, b0 = (s2.o true x.a).isSome := ⟨_, rfl⟩
          have HI0 := Aside0.mk hi0
          have HB0 := Aside0.mk hb0
          clear hi0 hb0
          go_wp2_with fail
          refine wp_eff (S := (fun w' => EvC gx x w' ∧ WV w' nb m1 s2)) [(0, false), (1, false), (2, false), (3, false), (4, false), (5, false), (6, false), (7, false), (8, false), (9, false), (10, false), (11, false)] (by kernel_rfl) (by kernel_rfl) ⟨HE.out.below (below_drew1 (Below.refl _ _)), HW.out.below (below_drew1 (Below.refl _ _))⟩ (fun _ _ d _ _ h => by cases d <;> exact h) ?_
          refine se_move rfl rfl rfl ?_
          refine se_un (v := .pointer (some ⟨nb + 4, 0, none⟩)) rfl rfl rfl rfl rfl (fun w' hw => by go_simp) ?_
          refine se_un (v := .pointer (some ⟨nb + 4, 2, none⟩)) rfl rfl rfl rfl rfl (fun w' hw => by go_simp) ?_
          refine se_load (v := .map (some (bO nb true))) rfl rfl rfl (fun w' hw => fld2 hw.2.cell) ?_
          refine se_un (v := .pointer (some ⟨gx, 6, none⟩)) rfl rfl rfl rfl rfl (fun w' hw => by go_simp) ?_
          refine se_load (v := .int .i64 x.a) rfl rfl rfl (fun w' hw => evl6 hw.1) ?_
          refine se_look (v := .tuple #[.int .i64 i0, .bool b0]) rfl rfl rfl rfl (fun w' hw => by rw [HI0.out, HB0.out]; exact hw.2.look2 true _) ?_
          refine se_move rfl rfl rfl ?_
          refine se_un (v := .int .i64 i0) rfl rfl rfl rfl rfl (fun w' hw => by go_simp) ?_
          refine se_un (v := .bool b0) rfl rfl rfl rfl rfl (fun w' hw => by go_simp) ?_
          refine se_assign rfl rfl rfl ?_
          refine se_assign rfl rfl rfl ?_
          intro hS
          have HE := Aside0.mk hS.1
          have HW := Aside0.mk hS.2
          have HB := Aside0.mk (below_drew HB.out)
          clear hS
          simp only [puts, Act.put, List.setIfInBounds_toArray, List.set_cons_zero, List.set_cons_succ]
          cases b0 with
          | true =>
            have HM := Aside0.mk (show s2.may true x.a (j : Int) = s2.one i0 (j : Int) from may_some HB0.out HI0.out)
            have HC := Aside0.mk (edge_calls _ nb m1 s2 i0 (j : Int) HW.out (by have := HLO2.out; omega))
            go_wp2_with fail
            refine HC.out.mono ?_
            rintro e w2 ⟨rfl, v3, hW2, hB2, hK2⟩
            have HX := Aside0.mk (And.intro (show WV w2 nb { m1 with v := v3 } (wStep s (j : Int) x) by rw [HST.out, HM.out]; exact hW2) (Below.trans HB.out hB2))
            clear hW2 hB2 hK2 HC
            go_wp2
            exact bodyPost_end (v := .tuple #[]) (results_none rfl _ _ _) rfl ⟨rfl, _, HX.out.1, HX.out.2⟩
          | false =>
            have HM := Aside0.mk (show s2.may true x.a (j : Int) = s2 from may_none HB0.out)
            go_wp2
            exact bodyPost_end (v := .tuple #[]) (results_none rfl _ _ _) rfl ⟨rfl, m1, (show WV _ nb m1 (wStep s (j : Int) x) by rw [HST.out, HM.out]; exact HW.out), HB.out⟩
        · by_cases hk14 : x.k = 14
          · skip
            have d0 : (x.k == 11) = false := beq_eq_false_iff_ne.2 hk11
            have d1 : (x.k == 17) = false := beq_eq_false_iff_ne.2 hk17
            have d2 : (x.k == 12) = false := beq_eq_false_iff_ne.2 hk12
            have d9 : (x.k == 14) = true := beq_iff_eq.2 hk14
            have HST := Aside0.mk (show wStep s (j : Int) x = s2.setG true x.a (s2.g true x.a ++ [(j : Int)]) by
              unfold wStep
              simp only
              rw [← HS2.out, if_neg hk11, if_neg hk17, if_neg hk12, if_pos hk14])
            clear hk11 hk17 hk12 hk14
            go_wp2_with fail
            refine wp_dirty1 [16] (fun w' => EvC gx x w' ∧ (∃ v, w'.heap[nb + 4]? = some (.cells (wCells nb v) 91 (0, 0))) ∧ Mp.Holds w' (bR nb true) (Value.int .i64) id (m1.r true)) (fun _ => True) (fun _ _ => trivial) [(0, false), (1, false), (2, false), (3, false), (4, false), (5, false), (6, false), (7, false), (8, false), (9, false), (10, false), (11, false), (12, false), (13, false), (14, true), (15, true)] [(16, true)] (by kernel_rfl) (by kernel_rfl) ⟨HE.out.below (below_drew1 (Below.refl _ _)), ⟨_, (HW.out.below (below_drew1 (Below.refl _ _))).cell⟩, (HW.out.below (below_drew1 (Below.refl _ _))).hr true⟩ (fun _ _ d _ _ h => by cases d <;> exact h) ?_
            refine se_move rfl rfl rfl ?_
            refine se_un (v := .pointer (some ⟨nb + 4, 0, none⟩)) rfl rfl rfl rfl rfl (fun w' hw => by go_simp) ?_
            refine se_un (v := .pointer (some ⟨nb + 4, 3, none⟩)) rfl rfl rfl rfl rfl (fun w' hw => by go_simp) ?_
            refine se_load (v := .map (some (bR nb true))) rfl rfl rfl (fun w' hw => fld3 hw.2.1.choose_spec) ?_
            refine se_un (v := .pointer (some ⟨gx, 6, none⟩)) rfl rfl rfl rfl rfl (fun w' hw => by go_simp) ?_
            refine se_load (v := .int .i64 x.a) rfl rfl rfl (fun w' hw => evl6 hw.1) ?_
            refine se_move rfl rfl rfl ?_
            refine se_un (v := .pointer (some ⟨nb + 4, 0, none⟩)) rfl rfl rfl rfl rfl (fun w' hw => by go_simp) ?_
            refine se_un (v := .pointer (some ⟨nb + 4, 3, none⟩)) rfl rfl rfl rfl rfl (fun w' hw => by go_simp) ?_
            refine se_load (v := .map (some (bR nb true))) rfl rfl rfl (fun w' hw => fld3 hw.2.1.choose_spec) ?_
            refine se_un (v := .pointer (some ⟨gx, 6, none⟩)) rfl rfl rfl rfl rfl (fun w' hw => by go_simp) ?_
            refine se_load (v := .int .i64 x.a) rfl rfl rfl (fun w' hw => evl6 hw.1) ?_
            refine se_look (v := valAt (m1.r true) x.a) rfl rfl rfl rfl (fun w' hw => look1 hw.2.2 _) ?_
            refine se_move rfl rfl rfl ?_
            have HWa := Aside0.mk ((HW.out.below (below_drew1 (Below.refl _ _))).below (below_alloc (Below.refl _ _) (.cells #[.int .i64 (j : Int)] 3)))
            have HEa := Aside0.mk ((HE.out.below (below_drew1 (Below.refl _ _))).below (below_alloc (Below.refl _ _) (.cells #[.int .i64 (j : Int)] 3)))
            refine se_lit (vs := [(0, .int .i64 (j : Int))]) rfl rfl rfl (run_lit3 _ _) ⟨HEa.out, ⟨_, HWa.out.cell⟩, HWa.out.hr true⟩ ?_
            obtain ⟨v1, x1, hx1, ho1, hb1, hg1, hat1⟩ := own_app (w0 := x2) (nb + 5) (valAt (m1.r true) x.a) (s2.g true x.a) (j : Int) _ (HWa.out.row true x.a) (reads_lit x2.drew [(j : Int)] (by simp) 3) (Below.alloc (below_drew (Below.refl (nb + 5) x2)) HW.out.size _) HWa.out.size (by have := HLG.out true x.a; omega)
            have he1 := HWa.out.ev HEa.out hg1
            have hh1 := (HWa.out.hr true).kept (hg1.block _ (HWa.out.hr true).lt (fun e => by have := Lk.own_base (HWa.out.row true x.a) _ e.symm; have := bR_lt nb true; omega))
            have hc1 := (hg1.block _ (Array.getElem?_eq_some_iff.1 HWa.out.cell).1 (fun e => by have := Lk.own_base (HWa.out.row true x.a) _ e.symm; omega)).trans HWa.out.cell
            refine se_made rfl rfl rfl hx1 ⟨he1, ⟨_, hc1⟩, hh1⟩ ?_
            obtain ⟨x3, hu, hh2, hg2, hs2⟩ := Mp.update_run keyI Try.underlying67 hh1 x.a v1
            refine se_mapUpd rfl rfl rfl rfl rfl hu trivial ?_
            have HW := Aside0.mk (HWa.out.turn hg1 ho1 hat1 hh2 hg2)
            have HB := Aside0.mk (Below.grown (Below.trans HB.out (Below.mono hb1 (show nb ≤ nb + 5 by omega))) hg2 (by have := (Below.trans HB.out (Below.mono hb1 (show nb ≤ nb + 5 by omega))).size; have := HSZ0.out; omega) (fun k hk => by injection hk with hk; have := bR_lt nb true; omega))
            clear HWa HEa he1 hh1 hc1 hx1 ho1 hb1 hg1 hat1 hu hh2 hg2 hs2
            simp only [SeqE, puts, Act.put, List.setIfInBounds_toArray, List.set_cons_zero, List.set_cons_succ]
            go_wp2
            exact bodyPost_end (v := .tuple #[]) (results_none rfl _ _ _) rfl ⟨rfl, _, (show WV _ nb _ (wStep s (j : Int) x) by rw [HST.out]; exact HW.out), HB.out⟩
          · by_cases hk13 : x.k = 13
            · skip
              have d0 : (x.k == 11) = false := beq_eq_false_iff_ne.2 hk11
              have d1 : (x.k == 17) = false := beq_eq_false_iff_ne.2 hk17
              have d2 : (x.k == 12) = false := beq_eq_false_iff_ne.2 hk12
              have d3 : (x.k == 14) = false := beq_eq_false_iff_ne.2 hk14
              have d9 : (x.k == 13) = true := beq_iff_eq.2 hk13
              have HST := Aside0.mk (show wStep s (j : Int) x = (s2.all (s2.g true x.a) (j : Int)).setG true x.a [] by
                unfold wStep
                simp only
                rw [← HS2.out, if_neg hk11, if_neg hk17, if_neg hk12, if_neg hk14, if_pos hk13])
              clear hk11 hk17 hk12 hk14 hk13
              have HLA := Aside0.mk (show s2.out.length + (s2.g true x.a).length ≤ 1000000 by have h1 := HLO2.out; have h2 := HLG.out true x.a; omega)
              have HLB := Aside0.mk (show (s2.g true x.a).length ≤ 1000 by have h2 := HLG.out true x.a; omega)
              go_wp2_with fail
              refine wp_eff (S := (fun w' => EvC gx x w' ∧ (∃ v, w'.heap[nb + 4]? = some (.cells (wCells nb v) 91 (0, 0))) ∧ Mp.Holds w' (bR nb true) (Value.int .i64) id (m1.r true))) [(0, false), (1, false), (2, false), (3, false), (4, false), (5, false), (6, false), (7, false), (8, false), (9, true)] (by kernel_rfl) (by kernel_rfl) ⟨HE.out.below (below_drew1 (Below.refl _ _)), ⟨_, (HW.out.below (below_drew1 (Below.refl _ _))).cell⟩, (HW.out.below (below_drew1 (Below.refl _ _))).hr true⟩ (fun _ _ d _ _ h => by cases d <;> exact h) ?_
              refine se_move rfl rfl rfl ?_
              refine se_move rfl rfl rfl ?_
              refine se_un (v := .pointer (some ⟨nb + 4, 0, none⟩)) rfl rfl rfl rfl rfl (fun w' hw => by go_simp) ?_
              refine se_un (v := .pointer (some ⟨nb + 4, 3, none⟩)) rfl rfl rfl rfl rfl (fun w' hw => by go_simp) ?_
              refine se_load (v := .map (some (bR nb true))) rfl rfl rfl (fun w' hw => fld3 hw.2.1.choose_spec) ?_
              refine se_un (v := .pointer (some ⟨gx, 6, none⟩)) rfl rfl rfl rfl rfl (fun w' hw => by go_simp) ?_
              refine se_load (v := .int .i64 x.a) rfl rfl rfl (fun w' hw => evl6 hw.1) ?_
              refine se_look (v := valAt (m1.r true) x.a) rfl rfl rfl rfl (fun w' hw => look1 hw.2.2 _) ?_
              refine se_move rfl rfl rfl ?_
              refine se_call (vs := [.pointer (some ⟨nb + 4, 0, none⟩), valAt (m1.r true) x.a, .int .i64 (j : Int)]) rfl rfl Try.func73 (by kernel_rfl) rfl (by kernel_rfl) ?_
              refine (all_calls _ nb _ s2 true x.a (j : Int) (HW.out.below (below_drew1 (Below.refl _ _))) HLA.out HLB.out).mono ?_
              rintro e w2 ⟨rfl, v2, hW2, hB2, hK2⟩
              have hE2 := hK2 gx x HGX.out (HE.out.below (below_drew1 (Below.refl _ _)))
              refine ⟨_, rfl, ⟨hE2, ⟨_, hW2.cell⟩, hW2.hr true⟩, ?_⟩
              intro _
              have HE := Aside0.mk hE2
              have HW := Aside0.mk hW2
              have HB := Aside0.mk (Below.trans (below_drew HB.out) hB2)
              clear hW2 hB2 hK2 hE2
              simp only [puts, Act.put, List.setIfInBounds_toArray, List.set_cons_zero, List.set_cons_succ]
              go_wp2_with fail
              refine wp_eff (S := (fun w' => EvC gx x w' ∧ ∃ v, w'.heap[nb + 4]? = some (.cells (wCells nb v) 91 (0, 0)))) [(0, false), (1, false), (2, false), (3, false), (4, false), (5, false), (6, true)] (by kernel_rfl) (by kernel_rfl) ⟨HE.out.below (below_drew1 (Below.refl _ _)), ⟨_, (HW.out.below (below_drew1 (Below.refl _ _))).cell⟩⟩ (fun _ _ d _ _ h => by cases d <;> exact h) ?_
              refine se_move rfl rfl rfl ?_
              refine se_un (v := .pointer (some ⟨nb + 4, 0, none⟩)) rfl rfl rfl rfl rfl (fun w' hw => by go_simp) ?_
              refine se_un (v := .pointer (some ⟨nb + 4, 3, none⟩)) rfl rfl rfl rfl rfl (fun w' hw => by go_simp) ?_
              refine se_load (v := .map (some (bR nb true))) rfl rfl rfl (fun w' hw => fld3 hw.2.choose_spec) ?_
              refine se_un (v := .pointer (some ⟨gx, 6, none⟩)) rfl rfl rfl rfl rfl (fun w' hw => by go_simp) ?_
              refine se_load (v := .int .i64 x.a) rfl rfl rfl (fun w' hw => evl6 hw.1) ?_
              obtain ⟨x2, hu, hh2, hg2, hs2⟩ := Mp.delete_run (ty := _) (kt := 3) keyI Try.underlying67 ((HW.out.below (below_drew1 (Below.refl _ _))).hr true) x.a
              have hW2 := (HW.out.below (below_drew1 (Below.refl _ _))).drop hh2 hg2
              have hE2 := (HE.out.below (below_drew1 (Below.refl _ _))).grown hg2 (fun e => by injection e with e; have := bR_lt nb true; have := HGX.out; omega)
              refine se_del rfl rfl rfl rfl hu ⟨hE2, _, hW2.cell⟩ ?_
              intro _
              have HE := Aside0.mk hE2
              have HW := Aside0.mk hW2
              have HB := Aside0.mk (Below.grown (below_drew HB.out) hg2 (by have := (below_drew HB.out).size; have := HSZ0.out; omega) (fun k hk => by injection hk with hk; have := bR_lt nb true; omega))
              clear hW2 hE2 hu hh2 hg2 hs2
              simp only [puts, Act.put, List.setIfInBounds_toArray, List.set_cons_zero, List.set_cons_succ]
              go_wp2
              exact bodyPost_end (v := .tuple #[]) (results_none rfl _ _ _) rfl ⟨rfl, _, (show WV _ nb _ (wStep s (j : Int) x) by rw [HST.out]; exact HW.out), HB.out⟩
            · skip
              have d0 : (x.k == 11) = false := beq_eq_false_iff_ne.2 hk11
              have d1 : (x.k == 17) = false := beq_eq_false_iff_ne.2 hk17
              have d2 : (x.k == 12) = false := beq_eq_false_iff_ne.2 hk12
              have d3 : (x.k == 14) = false := beq_eq_false_iff_ne.2 hk14
              have d4 : (x.k == 13) = false := beq_eq_false_iff_ne.2 hk13
              have HST := Aside0.mk (show wStep s (j : Int) x = s2 by
                unfold wStep
                simp only
                rw [← HS2.out, if_neg hk11, if_neg hk17, if_neg hk12, if_neg hk14, if_neg hk13])
              clear hk11 hk17 hk12 hk14 hk13
              go_wp2
              exact bodyPost_end (v := .tuple #[]) (results_none rfl _ _ _) rfl ⟨rfl, _, (show WV _ nb _ (wStep s (j : Int) x) by rw [HST.out]; exact HW.out), HB.out⟩
end Go.Proofs.Ytginlhengebgaaa.Ck
