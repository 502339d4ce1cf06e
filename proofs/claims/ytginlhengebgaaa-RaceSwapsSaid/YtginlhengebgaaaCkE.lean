/- clocks: its walk. -/
import Derived.Test.YtginlhengebgaaaCkD
namespace Go.Proofs.Ytginlhengebgaaa.Ck
open Go Go.RowKit Go.Maps Go.Proofs.YtginlhengebgaaaW Go.Proofs.YtginlhengebgaaaW.PrintWords Go.Proofs.YtginlhengebgaaaW.PrintLast Go.Proofs.YtginlhengebgaaaW.PrintMore Go.Proofs.Ytginlhengebgaaa.PLockupEither Go.Proofs.Ytginlhengebgaaa.Bs Go.Proofs.Ytginlhengebgaaa.RegionVal Go.Proofs.Ytginlhengebgaaa.Lk
open Go.Lib hiding intOf
set_option linter.unusedVariables false
set_option linter.unusedSimpArgs false
theorem makeI24 (n : Nat) (hn : n ≤ 100000) (W : World) : Sem.run Try.prog (Instr.makeSlice 24 (.int .i64 (n : Int)) (.int .i64 (n : Int))) W = .ok (.slice (some ⟨W.heap.size, 0, none⟩) n n) (W.alloc (.cells (nums .i64 (z0 n)).toArray 3)) := by
  obtain ⟨i0, hi, hz0, hz1, hz2⟩ := info_parts infoI24
  have h := run_make W 24 3 i0 (.int .i64 0) Try.underlying24 hi hz0 .i64 .i64 (n : Int) (n : Int) (by omega) (by omega) (by rw [hz2]; omega) (by omega)
  rw [hz1] at h
  simp only [Int.toNat_natCast, Nat.mul_one] at h
  rw [show madeCells (Value.int IntKind.i64 0).cells n = (nums .i64 (z0 n)).toArray by
    apply Array.ext
    · simp [madeCells, nums, z0]
    · intro i h1 h2
      simp only [madeCells, nums, z0, Value.cells, Array.getElem_map, Array.getElem_range, List.getElem_toArray, List.getElem_map, List.getElem_replicate]
      rw [show (#[Value.int IntKind.i64 0] : Array Value).size = 1 from rfl, Nat.mod_one]
      rfl] at h
  exact h
theorem info24z : (Try.prog.info? 24).map (fun i => (i.zero, i.size, i.bytes)) = some (some (.slice none 0 0), 1, 24) := by kernel_rfl
theorem info24 : (Try.prog.info? 24).map (·.size) = some 1 := by kernel_rfl
theorem info3' : (Try.prog.info? 3).map (·.size) = some 1 := by kernel_rfl
theorem makeT (n : Nat) (hn : n ≤ 1000) (W : World) : Sem.run Try.prog (Instr.makeSlice 48 (.int .i64 (n : Int)) (.int .i64 (n : Int))) W = .ok (.slice (some ⟨W.heap.size, 0, none⟩) n n) (W.alloc (.cells (Array.replicate n (.slice none 0 0)) 24)) := by
  obtain ⟨i0, hi, hz0, hz1, hz2⟩ := info_parts info24z
  have h := run_make W 48 24 i0 (.slice none 0 0) Try.underlying48 hi hz0 .i64 .i64 (n : Int) (n : Int) (by omega) (by omega) (by rw [hz2]; omega) (by omega)
  rw [hz1] at h
  simp only [Int.toNat_natCast, Nat.mul_one] at h
  rw [show madeCells (Value.slice none 0 0).cells n = (List.replicate n (.slice none 0 0)).toArray by
    apply Array.ext
    · simp [madeCells]
    · intro i h1 h2
      simp only [madeCells, Value.cells, Array.getElem_map, Array.getElem_range, List.getElem_toArray, List.getElem_replicate]
      rw [show (#[Value.slice none 0 0] : Array Value).size = 1 from rfl, Nat.mod_one]
      rfl, List.toArray_replicate] at h
  exact h
/-- where row j lies -/
def slot (g0 th j : Nat) : Value := .slice (some ⟨g0 + 1 + j, 0, none⟩) th th
def tabL (g0 th n i : Nat) : List Value := (List.range n).map (fun j => if j < i then slot g0 th j else .slice none 0 0)
theorem tabL_zero (g0 th n : Nat) : tabL g0 th n 0 = List.replicate n (.slice none 0 0) := by
  apply List.ext_getElem
  · simp [tabL]
  · intro j h1 h2
    simp [tabL]
theorem tabL_set (g0 th n i : Nat) (hi : i < n) : (tabL g0 th n i).toArray.setIfInBounds i (slot g0 th i) = (tabL g0 th n (i + 1)).toArray := by
  apply Array.ext
  · simp [tabL]
  · intro j h1 h2
    rw [Array.getElem_setIfInBounds (by simpa [tabL] using h2)]
    by_cases hij : i = j
    · subst hij
      simp [tabL]
    · rw [if_neg hij]
      simp only [tabL, List.getElem_toArray, List.getElem_map, List.getElem_range]
      by_cases h : j < i
      · rw [if_pos h, if_pos (by omega)]
      · rw [if_neg h, if_neg (by omega)]
/-- i rows are made -/
structure BK (w : World) (g0 th n i : Nat) : Prop where
  tab : w.heap[g0]? = some (.cells (tabL g0 th n i).toArray 24 (0, 0))
  row : ∀ j, j < i → w.heap[g0 + 1 + j]? = some (.cells (nums .i64 (z0 th)).toArray 3 (0, 0))
  size : w.heap.size = g0 + 1 + i
theorem BK.step {w : World} {g0 th n i : Nat} (h : BK w g0 th n i) (hi : i < n) :
    ∃ w', Sem.run Try.prog (Instr.storeAt 24 (.pointer (some ⟨g0, i, none⟩)) (slot g0 th i)) (w.alloc (.cells (nums .i64 (z0 th)).toArray 3)) = .ok () w' ∧ BK w' g0 th n (i + 1) ∧ ∀ a, Below g0 a w → Below g0 a w' := by
  have k1 := blk_alloc h.tab (.cells (nums .i64 (z0 th)).toArray 3)
  have hn := heap_alloc_new w (.cells (nums .i64 (z0 th)).toArray 3)
  rw [h.size] at hn
  have hrun := run_store_run (P := Try.prog) 24 (slot g0 th i) [slot g0 th i] k1 rfl info24 (by simp [tabL]; omega) (by intro q hq; obtain rfl := List.mem_singleton.1 hq; rfl) (o := i)
  refine ⟨_, hrun, ⟨?_, fun j hj => ?_, ?_⟩, fun a hb => below_setCells (Nat.le_refl _) _ _ _ (Below.alloc hb (by rw [h.size]; omega) _)⟩
  · have := blk_put k1 i (slot g0 th i) (tabL_set g0 th n i hi)
    exact this
  · have hg := grown_set (w.alloc (.cells (nums .i64 (z0 th)).toArray 3)) g0 i (slot g0 th i)
    refine blk_grown (b := g0) ?_ hg (by omega)
    by_cases hji : j = i
    · subst hji; exact hn
    · exact blk_alloc (h.row j (by omega)) _
  · have hs := (setCells_same g0 [slot g0 th i] i (w.alloc (.cells (nums .i64 (z0 th)).toArray 3))).2.2.2
    rw [hs, World.size_alloc, h.size]
    omega
/-- rows of clocks: a table at g0, row j at g0 + 1 + j -/
structure CK (w : World) (g0 th : Nat) (R : List (List Int)) : Prop where
  tab : w.heap[g0]? = some (.cells (tabL g0 th R.length R.length).toArray 24 (0, 0))
  row : ∀ j (hj : j < R.length), w.heap[g0 + 1 + j]? = some (.cells (nums .i64 R[j]).toArray 3 (0, 0))
  len : ∀ r ∈ R, r.length = th
theorem BK.done {w : World} {g0 th n : Nat} (h : BK w g0 th n n) : CK w g0 th (List.replicate n (z0 th)) := by
  refine ⟨by rw [List.length_replicate]; exact h.tab, fun j hj => ?_, fun r hr => by rw [List.eq_of_mem_replicate hr]; simp [z0]⟩
  rw [List.getElem_replicate]
  exact h.row j (by simpa using hj)
theorem CK.size {w : World} {g0 th : Nat} {R : List (List Int)} (h : CK w g0 th R) : g0 + R.length < w.heap.size := by
  rcases Nat.eq_zero_or_pos R.length with h0 | h0
  · have := (Array.getElem?_eq_some_iff.1 h.tab).1
    omega
  · have := (Array.getElem?_eq_some_iff.1 (h.row (R.length - 1) (by omega))).1
    omega
theorem CK.below {w w' : World} {g0 th : Nat} {R : List (List Int)} (h : CK w g0 th R) (hb : Below w.heap.size w w') : CK w' g0 th R :=
  ⟨blk_below h.tab hb, fun j hj => blk_below (h.row j hj) hb, h.len⟩
theorem CK.cellT {w : World} {g0 th : Nat} {R : List (List Int)} (h : CK w g0 th R) {i : Nat} (hi : i < R.length) : w.cell? ⟨g0, i, none⟩ = some (slot g0 th i) := by
  rw [blk_cell h.tab]
  simp [tabL, hi]
theorem CK.cellR {w : World} {g0 th : Nat} {R : List (List Int)} (h : CK w g0 th R) {i t : Nat} (hi : i < R.length) (ht : t < th) : w.cell? ⟨g0 + 1 + i, t, none⟩ = some (.int .i64 (R[i].getD t 0)) := by
  rw [blk_cell (h.row i hi)]
  have := h.len R[i] (List.getElem_mem hi)
  simp [nums, List.getD_eq_getElem?_getD, show t < R[i].length by omega]
theorem nums_set (r : List Int) (t : Nat) (v : Int) : (nums .i64 r).toArray.setIfInBounds t (.int .i64 v) = (nums .i64 (r.set t v)).toArray := by
  apply Array.toList_inj.1
  simp [nums, List.map_set]
/-- one number stored -/
theorem CK.store {w : World} {g0 th : Nat} {R : List (List Int)} (h : CK w g0 th R) {i t : Nat} (hi : i < R.length) (ht : t < th) (v : Int) :
    ∃ w', Sem.run Try.prog (Instr.storeAt 3 (.pointer (some ⟨g0 + 1 + i, t, none⟩)) (.int .i64 v)) w = .ok () w' ∧ CK w' g0 th (R.set i (R[i].set t v)) ∧ w.grownBy w' (some (g0 + 1 + i)) := by
  have hl := h.len R[i] (List.getElem_mem hi)
  have hrun := run_store_run (P := Try.prog) 3 (.int .i64 v) [.int .i64 v] (h.row i hi) rfl info3' (by simp [nums]; omega) (by intro q hq; obtain rfl := List.mem_singleton.1 hq; rfl) (o := t)
  have hg := grown_set w (g0 + 1 + i) t (.int .i64 v)
  refine ⟨_, hrun, ⟨?_, fun j hj => ?_, fun r hr => ?_⟩, hg⟩
  · rw [List.length_set]; exact blk_grown (b := g0 + 1 + i) h.tab hg (by omega)
  · rw [List.length_set] at hj
    by_cases hij : i = j
    · subst hij
      rw [List.getElem_set_self]
      exact blk_put (h.row i hi) t (.int .i64 v) (nums_set _ _ _)
    · rw [List.getElem_set_ne hij]
      exact blk_grown (b := g0 + 1 + i) (h.row j hj) hg (by omega)
  · rcases List.mem_or_eq_of_mem_set hr with hr | rfl
    · exact h.len r hr
    · rw [List.length_set]; exact hl
theorem mid_get {α : Type} {R S : List α} {a : α} {j : Nat} (hR : R.length = j) (h : j < (R ++ a :: S).length) : (R ++ a :: S)[j] = a := by
  subst hR
  rw [List.getElem_append_right (Nat.le_refl _)]
  simp
theorem mid_set {α : Type} {R S : List α} {a b : α} {j : Nat} (hR : R.length = j) : (R ++ a :: S).set j b = R ++ b :: S := by
  subst hR
  rw [List.set_append_right _ _ (Nat.le_refl _), Nat.sub_self]
  rfl
theorem CK.mid {w : World} {g0 th j : Nat} {R S : List (List Int)} {a : List Int} (h : CK w g0 th (R ++ a :: S)) (hR : R.length = j) {t : Nat} (ht : t < th) (v : Int) :
    ∃ w', Sem.run Try.prog (Instr.storeAt 3 (.pointer (some ⟨g0 + 1 + j, t, none⟩)) (.int .i64 v)) w = .ok () w' ∧ CK w' g0 th (R ++ a.set t v :: S) ∧ w.grownBy w' (some (g0 + 1 + j)) := by
  have hj : j < (R ++ a :: S).length := by rw [List.length_append, List.length_cons]; omega
  obtain ⟨w', h1, h2, h3⟩ := h.store hj ht v
  rw [mid_get hR hj, mid_set hR] at h2
  exact ⟨w', h1, h2, h3⟩
theorem CK.midT {w : World} {g0 th j : Nat} {R S : List (List Int)} {a : List Int} (h : CK w g0 th (R ++ a :: S)) (hR : R.length = j) : w.cell? ⟨g0, j, none⟩ = some (slot g0 th j) :=
  h.cellT (by rw [List.length_append, List.length_cons]; omega)
theorem CK.midR {w : World} {g0 th j t : Nat} {R S : List (List Int)} {a : List Int} (h : CK w g0 th (R ++ a :: S)) (hR : R.length = j) (ht : t < th) : w.cell? ⟨g0 + 1 + j, t, none⟩ = some (.int .i64 (a.getD t 0)) := by
  have hj : j < (R ++ a :: S).length := by rw [List.length_append, List.length_cons]; omega
  have h1 := h.cellR hj ht
  rw [mid_get hR hj] at h1
  exact h1
theorem CK.lowT {w : World} {g0 th i : Nat} {R S : List (List Int)} (h : CK w g0 th (R ++ S)) (hi : i < R.length) : w.cell? ⟨g0, i, none⟩ = some (slot g0 th i) := h.cellT (by rw [List.length_append]; omega)
theorem CK.lowR {w : World} {g0 th i t : Nat} {R S : List (List Int)} (h : CK w g0 th (R ++ S)) (hi : i < R.length) (ht : t < th) : w.cell? ⟨g0 + 1 + i, t, none⟩ = some (.int .i64 ((R.getD i []).getD t 0)) := by
  have h1 := h.cellR (i := i) (by rw [List.length_append]; omega) ht
  rw [List.getElem_append_left hi] at h1
  rw [show R.getD i [] = R[i] by simp [List.getD_eq_getElem?_getD, hi]]
  exact h1
theorem CK.midL {w : World} {g0 th : Nat} {R S : List (List Int)} {a : List Int} (h : CK w g0 th (R ++ a :: S)) : a.length = th := h.len a (by simp)
theorem ldT {w : World} {g0 th j : Nat} (h : w.cell? ⟨g0, j, none⟩ = some (slot g0 th j)) : Sem.run Try.prog (Instr.loadAt 24 (.pointer (some ⟨g0, j, none⟩))) w = .ok (.slice (some ⟨g0 + 1 + j, 0, none⟩) th th) w := by
  unfold slot at h
  go_simp
theorem ldR {w : World} {g t : Nat} {x : Int} (h : w.cell? ⟨g, t, none⟩ = some (.int .i64 x)) : Sem.run Try.prog (Instr.loadAt 3 (.pointer (some ⟨g, t, none⟩))) w = .ok (.int .i64 x) w := by
  go_simp
/-- t numbers of the greater ones are taken -/
def parR (cur ri : List Int) (t : Nat) : List Int := (List.zipWith max cur ri).take t ++ cur.drop t
theorem parR_zero (cur ri : List Int) : parR cur ri 0 = cur := by simp [parR]
theorem parR_all {th : Nat} {cur ri : List Int} (h1 : cur.length = th) (h2 : ri.length = th) : parR cur ri th = List.zipWith max cur ri := by
  unfold parR
  rw [List.take_of_length_le (by rw [List.length_zipWith]; omega), List.drop_eq_nil_of_le (by omega), List.append_nil]
theorem parR_get {th : Nat} {cur ri : List Int} (h1 : cur.length = th) (h2 : ri.length = th) {t : Nat} (ht : t < th) : (parR cur ri t).getD t 0 = cur.getD t 0 := by
  unfold parR
  rw [List.getD_eq_getElem?_getD, List.getElem?_append_right (by rw [List.length_take, List.length_zipWith]; omega), List.length_take, List.length_zipWith, List.getElem?_drop, List.getD_eq_getElem?_getD]
  congr 2
  omega
theorem parR_step {th : Nat} {cur ri : List Int} (h1 : cur.length = th) (h2 : ri.length = th) {t : Nat} (ht : t < th) : (parR cur ri t).set t (max (cur.getD t 0) (ri.getD t 0)) = parR cur ri (t + 1) := by
  have hz : (List.zipWith max cur ri).length = th := by rw [List.length_zipWith]; omega
  unfold parR
  rw [List.set_append_right _ _ (by rw [List.length_take]; omega), List.length_take, hz, show t - min t th = 0 by omega, List.drop_eq_getElem_cons (show t < cur.length by omega), List.set_cons_zero, List.take_succ_eq_append_getElem (show t < (List.zipWith max cur ri).length by omega), List.append_assoc]
  congr 2
  simp [List.getD_eq_getElem?_getD, show t < cur.length by omega, show t < ri.length by omega]
def slen : Value → Nat
  | .slice _ n _ => n
  | _ => 0
theorem at1_snoc_eq {pre : List S32} {p : S32} {j : Nat} (h : p.f1 = (j : Int)) : at1 (pre ++ [p]) j = at1 pre j ++ [p] := by
  unfold at1
  rw [List.filter_append]
  simp [h]
theorem at1_done {E pre rs : List S32} {j : Nat} (h : E = pre ++ rs) (hr : ∀ q ∈ rs, q.f1 ≠ (j : Int)) : at1 pre j = at1 E j := by
  subst h
  unfold at1
  have h2 : rs.filter (fun p => decide (p.f1 = (j : Int))) = [] := List.filter_eq_nil_iff.2 (fun q hq => by simpa using hr q hq)
  rw [List.filter_append, h2, List.append_nil]
theorem at1_none {pre : List S32} {j : Nat} (h : ∀ q ∈ pre, q.f1 < (j : Int)) : at1 pre j = [] := by
  unfold at1
  exact List.filter_eq_nil_iff.2 (fun q hq => by have := h q hq; simp; omega)
/-- what is left behind the first edge -/
theorem rest_cut {W : World} {ok : Nat → Prop} {A : Option Addr} {c : Nat} {p : S32} {rs : List S32} (hF : Kd.F k32 W ok A (p :: rs).length (p :: rs)) (hc : (p :: rs).length ≤ c) :
    ∃ A8, Sem.run Try.prog (Instr.sliceAt 28 (.slice A (rs.length + 1) c) (some (.int .i64 1)) none none) W = .ok (.slice A8 rs.length (c - 1)) W ∧ Kd.F k32 W ok A8 rs.length rs := by
  have h := Kd.F_cut hF (m := 1) (by simp) hc
  rw [List.drop_one, List.tail_cons] at h
  refine ⟨_, ?_, h⟩
  rw [List.length_cons] at hc
  clear h hF
  have hk : k32.sz = 2 := rfl
  have h1 : (1 : Int) ≤ ((rs.length + 1 : Nat) : Int) := by omega
  rw [hk]
  go_simp
  intro h
  exact absurd h (by omega)
section
variable {P : Program} {ops : Array Oper} {rest : List Oper} {o : Oper} {a : Act} {Q : Exit → Act → World → Prop} {W W' : World} {t : TypeId} {x y : Operand} {vx vy v : Value}
theorem wpl_slice1 (hgd : o.guard = none) (ho : o.op = .slice t x (some y) none none) (hx : a.eval x = vx) (hy : a.eval y = vy) (hr : Sem.run P (Instr.sliceAt t vx (some vy) none none) W = .ok v W) (h : wpList P ops Q rest (a.put o.dst v) W) : wpList P ops Q (o :: rest) a W :=
  Kd.event_run hgd (by
    obtain ⟨d, op, ty, ps, af, g⟩ := o
    simp only at ho
    subst ho
    simp only [execOp, hx, hy, Option.map_some, Option.map_none, Sem.run_bind]
    rw [hr]
    rfl) h
end
theorem ck_load0 {w : World} {ad : Addr} {n : Nat} {l : List S32} (h : Kd.C k32 w (some ad) n l) {i : Nat} (hi : i < l.length) {x : Int} (hx : x = l[i].f0) : w.cell? (ad.add (i * 2)) = some (.int .i64 x) := by
  obtain ⟨ad', e, k0, _⟩ := at32 h i hi
  injection e with e
  subst e
  rw [hx]; exact k0
theorem ck_load1 {w : World} {ad : Addr} {n : Nat} {l : List S32} (h : Kd.C k32 w (some ad) n l) {i : Nat} (hi : i < l.length) {x : Int} (hx : x = l[i].f1) : w.cell? ⟨(ad.add (i * 2)).block, (ad.add (i * 2)).off + 1, none⟩ = some (.int .i64 x) := by
  obtain ⟨ad', e, _, k1⟩ := at32 h i hi
  injection e with e
  subst e
  rw [hx]; exact k1
theorem max_run (w : World) (a b : Int) (ts : Array TypeId) (cs : Array Bool) (h : ts = #[3, 3]) : Sem.run Try.prog (builtin .max ts 3 cs #[.int .i64 a, .int .i64 b]) w = .ok (.value (.int .i64 (max a b))) w := by
  subst h
  go_simp
set_option maxHeartbeats 16000000 in
set_option maxRecDepth 100000 in
theorem clocks_calls (w : World) (A : Option Addr) (c : Nat) (l : List CE) (th : Nat) (hr : Kd.C kC w A l.length l) (hc : l.length ≤ c) (hl : l.length ≤ 200) (hth : th ≤ 8) (ht : ∀ x ∈ l, 0 ≤ x.t ∧ x.t < (th : Int)) :
    Calls Try.prog 39 #[.slice A l.length c, .int .i64 (th : Int)] w fun e w' => ∃ g0 E, e = .returned (.slice (some ⟨g0, 0, none⟩) l.length l.length) ∧ IsE l E ∧ CK w' g0 th (rowsF l th E l.length) ∧ w.heap.size ≤ g0 ∧ Below w.heap.size w w' := by
  have HR := Aside0.mk hr
  have HT := Aside0.mk ht
  have hmk := makeT l.length (by omega)
  have hmi := makeI24 th (by omega)
  clear hr ht
  go_enter Try.func39, Try.ntmps39
  go_wp2_with fail
  have HBK := Aside0.mk (show BK (w.alloc (.cells (Array.replicate l.length (Value.slice none 0 0)) 24)) w.heap.size th l.length 0 from ⟨by rw [tabL_zero, List.toArray_replicate]; exact heap_alloc_new w _, fun j hj => absurd hj (Nat.not_lt_zero _), by rw [World.size_alloc]⟩)
  have HB := Aside0.mk (below_alloc (Below.refl w.heap.size w) (.cells (Array.replicate l.length (Value.slice none 0 0)) 24))
  have HRS := Aside0.mk (Kd.C_below HR.out HB.out)
  generalize (w.alloc (.cells (Array.replicate l.length (Value.slice none 0 0)) 24)) = W0 at HBK HB HRS ⊢
  obtain ⟨g0, hg0⟩ : ∃ g0, g0 = w.heap.size := ⟨_, rfl⟩
  have HG0 := Aside0.mk hg0
  rw [← hg0] at HBK HB ⊢
  clear hg0 HRS
  go_loopw [17] (fun v17 wr => ∃ i : Nat, v17 = .int .i64 (i : Int) ∧ i ≤ l.length ∧ Aside0 (BK wr g0 th l.length i) ∧ Aside0 (Below g0 w wr)) (fun v17 _ => l.length - (intOf v17).toNat)
  case atStart => exact ⟨0, rfl, Nat.zero_le _, HBK, HB⟩
  case round =>
    clear HBK HB
    obtain ⟨i, rfl, hi, HBK, HB⟩ := hrel
    by_cases hlt : i < l.length
    · have hlt1 : (i : Int) < (l.length : Int) := by omega
      have hi200 : i < 200 := by omega
      have hsz := HBK.out.size
      obtain ⟨w2, hrun, hbk, hbe⟩ := HBK.out.step hlt
      have HRUN := Aside0.mk hrun
      have HBK2 := Aside0.mk hbk
      have HB2 := Aside0.mk (hbe _ HB.out)
      clear hrun hbk hbe
      go_wp2_with (first
        | ((with_reducible refine gate_dst (N := 23) rfl ?_); refine Kd.event_run (v := slot g0 th i) (w1 := wr.alloc (.cells (nums .i64 (z0 th)).toArray 3)) rfl ?hr ?_; (case hr => (have h := hmi wr; rw [hsz] at h; simp only [execOp, Sem.run_bind]; exact (by simpa [Act.eval, slot] using congrArg (fun r => r.andThen fun v w' => Result.ok (Next.value v) w') h))))
        | (refine wpl_store rfl rfl rfl rfl rfl HRUN.out ?_)
        | fail)
      clear HBK HB HRUN hsz
      go_roundw
      case rel => exact ⟨i + 1, by go_num, hlt, HBK2, HB2⟩
      case measure => simp [intOf]; omega
    · have HCK := Aside0.mk (show CK wr g0 th (List.replicate l.length (z0 th)) by
        have h := HBK.out
        rw [show i = l.length by omega] at h
        exact h.done)
      have HB1 := Aside0.mk (show Below w.heap.size w wr by have h := HB.out; rw [HG0.out] at h; exact h)
      have HRS := Aside0.mk (Kd.C_below HR.out HB1.out)
      clear HBK HB hi hmk hmi
      go_wp2_with fail
      refine (edges_calls wr A c l HRS.out hc hl).mono ?_
      rintro e w3 ⟨v7, E, rfl, hE, hRE, hb3⟩
      obtain ⟨A6, c6, rfl, hc6, _⟩ := Kd.R_reads hRE
      have HE := Aside0.mk hE
      have HF := Aside0.mk (show Kd.F k32 w3 (fun k => g0 + l.length < k) A6 E.length E from Kd.F_mono (Kd.R_F (Kd.R_bound hRE)) (fun k hk => by have h1 := HCK.out.size; rw [List.length_replicate] at h1; have := hk.2.1; omega))
      have HCK3 := Aside0.mk (HCK.out.below hb3)
      have HB3 := Aside0.mk (below_then HB1.out HB1.out.size hb3)
      clear hE hRE hb3 HCK HB1 HRS
      go_wp2_with fail
      go_loopw [7, 30] (fun v7 v30 wr => ∃ (j : Nat) (pre rs : List S32) (A7 : Option Addr) (c7 : Nat), v30 = .int .i64 (j : Int) ∧ j ≤ l.length ∧ v7 = .slice A7 rs.length c7 ∧ rs.length ≤ c7 ∧ Aside0 (E = pre ++ rs ∧ (∀ q ∈ pre, q.f1 < (j : Int)) ∧ (∀ q ∈ rs, (j : Int) ≤ q.f1)) ∧ Aside0 (Kd.F k32 wr (fun k => g0 + l.length < k) A7 rs.length rs) ∧ Aside0 (CK wr g0 th (rowsF l th E j ++ List.replicate (l.length - j) (z0 th))) ∧ Aside0 (Below w.heap.size w wr)) (fun _ v30 _ => l.length - (intOf v30).toNat)
      case atStart => exact ⟨0, [], E, A6, c6, rfl, Nat.zero_le _, rfl, hc6, ⟨rfl, fun q hq => (by cases hq), fun q hq => by have := HE.out.bound q hq; omega⟩, HF, ⟨by simpa [rowsF] using HCK3.out⟩, HB3⟩
      case round =>
        clear HF HCK3 HB3
        obtain ⟨j, pre, rs, A7, c7, rfl, hj, rfl, hc7, HP, HF, HCK, HB⟩ := hrel
        by_cases hlj : j < l.length
        · have hlj1 : (j : Int) < (l.length : Int) := by omega
          have hj200 : j < 200 := by omega
          obtain ⟨ad, hA⟩ : ∃ ad, A = some ad := by
            obtain ⟨ad, h, _⟩ := HR.out.2.2 (show 0 < l.length by omega)
            exact ⟨ad, h⟩
          subst hA
          obtain ⟨x, hx⟩ : ∃ x, x = l[j] := ⟨_, rfl⟩
          obtain ⟨cs, hcs, hld⟩ := C_loadC (Kd.C_below HR.out HB.out) j hlj
          rw [← hx] at hcs
          have HCS := Aside0.mk hcs
          have HL := Aside0.mk hld
          have HX := Aside0.mk (show 0 ≤ x.t ∧ x.t < (th : Int) from HT.out x (by rw [hx]; exact List.getElem_mem hlj))
          have HXJ := Aside0.mk (show l.getD j zC = x by rw [hx]; simp [List.getD_eq_getElem?_getD, hlj])
          have HCK0 := Aside0.mk (show CK wr g0 th (rowsF l th E j ++ mx (rowsF l th E j) (z0 th) (at1 pre j) :: List.replicate (l.length - j - 1) (z0 th)) by
            have h := HCK.out
            rw [show l.length - j = (l.length - j - 1) + 1 by omega, List.replicate_succ] at h
            rw [at1_none HP.out.2.1]
            exact h)
          have HP0 := Aside0.mk (show E = pre ++ rs ∧ (∀ q ∈ pre, q.f1 ≤ (j : Int)) ∧ (∀ q ∈ rs, (j : Int) ≤ q.f1) from ⟨HP.out.1, fun q hq => by have := HP.out.2.1 q hq; omega, HP.out.2.2⟩)
          clear hx hcs hld HCK HP
          obtain ⟨RJ, hRJ⟩ : ∃ RJ, RJ = rowsF l th E j := ⟨_, rfl⟩
          have hRJL : RJ.length = j := by rw [hRJ]; exact rowsF_len l th E j
          have HRL := Aside0.mk hRJL
          have HRJ := Aside0.mk hRJ
          rw [← hRJ] at HCK0
          clear hRJ hRJL
          go_wp2_with (first
            | ((with_reducible refine gate_dst (N := 34) rfl ?_); refine wpl_load (v := .agg cs.toArray) rfl rfl rfl HL.out ?_)
            | ((with_reducible refine gate_dst (N := 9) rfl ?_); refine box_event ?hg (N := 9) ?hd (cs := zc41) (t := 41) ?hr ?_; (case hd => rfl); (case hg => rfl); (case hr => go_simp; rfl); intro g9 hgx w1 hbox hb; have HGX := Aside0.mk hgx; have HBX := Aside0.mk hbox; have HBW := Aside0.mk hb; clear hbox hb hgx)
            | ((with_reducible refine gate_store (t := 41) (p := 9) rfl ?_); obtain ⟨w2, hrun, hk2, hbel⟩ := fresh_storeC HBX.out rfl HCS.out; refine wpl_store rfl rfl rfl rfl rfl hrun ?_; have HK2 := Aside0.mk hk2; have HBW2 := Aside0.mk (hbel wr.heap.size wr (by rw [HGX.out]; exact Nat.le_refl _) HBW.out); clear hrun hk2 hbel)
            | fail)
          have HCK2 := Aside0.mk (HCK0.out.below HBW2.out)
          have HF2 := Aside0.mk (Kd.F_below HF.out HBW2.out)
          have HB2 := Aside0.mk (below_then HB.out HB.out.size HBW2.out)
          have HEV2 := Aside0.mk (show EvC g9 x w2 from ⟨cs.toArray, HK2.out, by simpa using HCS.out⟩)
          have HG9 := Aside0.mk (show g0 + l.length < g9 by have h1 := HCK0.out.size; rw [List.length_append, List.length_cons, List.length_replicate, HRL.out] at h1; have := HGX.out; omega)
          clear HCK0 HF HB HBW HBW2 HBX HGX HK2 HL HCS
          go_loopw [7] (fun v7 wr => ∃ (pre rs : List S32) (A7 : Option Addr) (c7 : Nat), v7 = .slice A7 rs.length c7 ∧ rs.length ≤ c7 ∧ Aside0 (E = pre ++ rs ∧ (∀ q ∈ pre, q.f1 ≤ (j : Int)) ∧ (∀ q ∈ rs, (j : Int) ≤ q.f1)) ∧ Aside0 (Kd.F k32 wr (fun k => g0 + l.length < k) A7 rs.length rs) ∧ Aside0 (CK wr g0 th (RJ ++ mx RJ (z0 th) (at1 pre j) :: List.replicate (l.length - j - 1) (z0 th))) ∧ Aside0 (EvC g9 x wr) ∧ Aside0 (Below w.heap.size w wr)) (fun v7 _ => slen v7)
          case atStart => exact ⟨pre, rs, A7, c7, rfl, hc7, HP0, HF2, HCK2, HEV2, HB2⟩
          case round =>
            clear HP0 HF2 HCK2 HEV2 HB2 hc7
            obtain ⟨pre, rs, A7, c7, rfl, hc7, HP, HF, HCK, HEV, HB⟩ := hrel
            cases rs with
            | nil =>
              have HDN := Aside0.mk (show at1 pre j = at1 E j from at1_done HP.out.1 (fun q hq => (by cases hq)))
              have HPX : Aside0 (E = pre ++ [] ∧ (∀ q ∈ pre, q.f1 < ((j + 1 : Nat) : Int)) ∧ (∀ q ∈ ([] : List S32), ((j + 1 : Nat) : Int) ≤ q.f1)) := ⟨HP.out.1, fun q hq => by have := HP.out.2.1 q hq; omega, fun q hq => (by cases hq)⟩
              obtain ⟨tn, htn⟩ : ∃ tn : Nat, x.t = (tn : Int) := ⟨x.t.toNat, by have := HX.out; omega⟩
              have htn2 : tn < th := by have := HX.out; omega
              have htn3 : (tn : Int) < (th : Int) := by omega
              have HTN := Aside0.mk htn
              obtain ⟨cur, hcur⟩ : ∃ cur, cur = mx RJ (z0 th) (at1 pre j) := ⟨_, rfl⟩
              have HCUR := Aside0.mk (show RowB th (j : Int) cur by
                rw [hcur]
                refine mx_B _ _ _ (z0_B th _ (by omega)) (fun q hq => ?_)
                obtain ⟨q1, q2⟩ := at1_mem.1 hq
                have := HE.out.bound q (by rw [HP.out.1]; exact List.mem_append.2 (.inl q1))
                rw [HRJ.out]
                exact rowsF_B l th E (fun p hp => ⟨(HE.out.bound p hp).1, (HE.out.bound p hp).2.1⟩) j q.f0.toNat (by omega))
              have HNX := Aside0.mk (show rowsF l th E (j + 1) = RJ ++ [bump cur tn] by
                show rowsF l th E j ++ [bump (mx (rowsF l th E j) (z0 th) (at1 E j)) (l.getD j zC).t.toNat] = _
                rw [HXJ.out, HTN.out, Int.toNat_natCast, hcur, HRJ.out, HDN.out])
              rw [← hcur] at HCK
              obtain ⟨cv, hcv⟩ : ∃ cv, cv = cur.getD tn 0 := ⟨_, rfl⟩
              have hcvb := HCUR.out.2 tn htn2
              rw [← hcv] at hcvb
              have HCV := Aside0.mk hcv
              have hwcv : IntKind.i64.wrap (cv + 1) = cv + 1 := by rw [IntKind.wrap_i64]; omega
              clear hcur htn hcv hcvb
              go_wp2_with fail
              have hckd := HCK.out.below (below_drew1 (Below.refl wr.heap.size wr))
              obtain ⟨w4, hst, hck4, hgr⟩ := hckd.mid HRL.out htn2 (cv + 1)
              refine wp_dirty1 [10] (fun w' => EvC g9 x w' ∧ w'.cell? ⟨g0, j, none⟩ = some (slot g0 th j) ∧ w'.cell? ⟨g0 + 1 + j, tn, none⟩ = some (.int .i64 cv)) (fun _ => True) (fun _ _ => trivial) [(0, false), (1, false), (2, false), (3, false), (4, false), (5, false), (6, false), (7, false), (8, false), (9, false)] [(10, true)] (by kernel_rfl) (by kernel_rfl) ⟨HEV.out.below (below_drew1 (Below.refl _ _)), hckd.midT HRL.out, by rw [HCV.out]; exact hckd.midR HRL.out htn2⟩ (fun _ _ d _ _ h => by cases d <;> exact h) ?_
              refine se_move rfl rfl rfl ?_
              refine se_move rfl rfl rfl ?_
              refine se_indexAddr (v := .pointer (some ⟨g0, j, none⟩)) rfl rfl rfl rfl (fun w' hw => by go_simp) ?_
              refine se_load (v := .slice (some ⟨g0 + 1 + j, 0, none⟩) th th) rfl rfl rfl (fun w' hw => ldT hw.2.1) ?_
              refine se_un (v := .pointer (some ⟨g9, 2, none⟩)) rfl rfl rfl rfl rfl (fun w' hw => by go_simp) ?_
              refine se_load (v := .int .i64 (tn : Int)) rfl rfl rfl (fun w' hw => by rw [← HTN.out]; exact evl2 hw.1) ?_
              refine se_indexAddr (v := .pointer (some ⟨g0 + 1 + j, tn, none⟩)) rfl rfl rfl rfl (fun w' hw => by go_simp) ?_
              refine se_load (v := .int .i64 cv) rfl rfl rfl (fun w' hw => ldR hw.2.2) ?_
              refine se_bin (v := .int .i64 (cv + 1)) rfl rfl rfl rfl (fun w' hw => by go_simp) ?_
              refine se_indexAddr (v := .pointer (some ⟨g0 + 1 + j, tn, none⟩)) rfl rfl rfl rfl (fun w' hw => by go_simp) ?_
              refine se_store rfl rfl rfl rfl hst trivial ?_
              have HCK4 := Aside0.mk (show CK w4 g0 th (rowsF l th E (j + 1) ++ List.replicate (l.length - (j + 1)) (z0 th)) by
                rw [HNX.out, List.append_assoc, show l.length - (j + 1) = l.length - j - 1 by omega]
                have h := hck4
                rw [HCV.out] at h
                exact h)
              have HF4 := Aside0.mk (Kd.F_grown (Kd.F_drew HF.out) hgr (fun k hk e => by injection e with e; omega))
              have HB4 := Aside0.mk (Below.grown (below_drew HB.out) hgr (below_drew HB.out).size (fun k hk => by injection hk with hk; have := HG0.out; omega))
              clear hckd hst hck4 hgr HCK HF HB HEV
              simp only [SeqE, puts, Act.put, List.setIfInBounds_toArray, List.set_cons_zero, List.set_cons_succ]
              go_wp2
              go_roundw
              case rel => exact ⟨j + 1, pre, _, _, c7, by go_num, hlj, rfl, hc7, HPX, HF4, HCK4, HB4⟩
              case measure => simp [intOf]; omega
            | cons p rs =>
              obtain ⟨ad7, hA7⟩ : ∃ ad, A7 = some ad := by
                obtain ⟨ad, h, _⟩ := (Kd.F_now HF.out).2.2 (by simp)
                exact ⟨ad, h⟩
              subst hA7
              have hgt : (0 : Int) < (rs.length : Int) + 1 := by omega
              obtain ⟨y1, hy1⟩ : ∃ y1, y1 = p.f1 := ⟨_, rfl⟩
              have k1 : wr.cell? ⟨ad7.block, ad7.off + 1, none⟩ = some (.int .i64 y1) := ck_load1 (Kd.F_now HF.out) (i := 0) (by simp) hy1
              by_cases hpj : y1 = (j : Int)
              · have d1 : (y1 == (j : Int)) = true := beq_iff_eq.2 hpj
                have hpb := HE.out.bound p (by rw [HP.out.1]; simp)
                obtain ⟨i0, hi0⟩ : ∃ i0 : Nat, (i0 : Int) = p.f0 := ⟨p.f0.toNat, by omega⟩
                have hi0j : i0 < j := by omega
                have hi1 : (i0 : Int) < (l.length : Int) := by omega
                have k0 : wr.cell? ad7 = some (.int .i64 (i0 : Int)) := ck_load0 (Kd.F_now HF.out) (i := 0) (by simp) hi0
                have kT : wr.cell? ⟨g0, i0, none⟩ = some (.slice (some ⟨g0 + 1 + i0, 0, none⟩) th th) := HCK.out.lowT (by rw [HRL.out]; exact hi0j)
                obtain ⟨ri, hri⟩ : ∃ ri, ri = RJ.getD i0 [] := ⟨_, rfl⟩
                have HRIL := Aside0.mk (show ri.length = th by
                  rw [hri, HRJ.out]
                  exact (rowsF_B l th E (fun p hp => ⟨(HE.out.bound p hp).1, (HE.out.bound p hp).2.1⟩) j i0 hi0j).1)
                obtain ⟨cur, hcur⟩ : ∃ cur, cur = mx RJ (z0 th) (at1 pre j) := ⟨_, rfl⟩
                rw [← hcur] at HCK
                have HCL := Aside0.mk HCK.out.midL
                have HNEW := Aside0.mk (show mx RJ (z0 th) (at1 (pre ++ [p]) j) = List.zipWith max cur ri by
                  rw [at1_snoc_eq (hy1.symm.trans hpj), mx_snoc, hcur, hri]
                  unfold rowAt
                  rw [← hi0, Int.toNat_natCast])
                have HRI := Aside0.mk hri
                have HP2 := Aside0.mk (show E = (pre ++ [p]) ++ rs ∧ (∀ q ∈ pre ++ [p], q.f1 ≤ (j : Int)) ∧ (∀ q ∈ rs, (j : Int) ≤ q.f1) from ⟨by rw [HP.out.1]; simp, fun q hq => (List.mem_append.1 hq).elim (HP.out.2.1 q) (fun h => by rw [List.mem_singleton.1 h]; omega), fun q hq => HP.out.2.2 q (List.mem_cons_of_mem _ hq)⟩)
                have hc71 : rs.length ≤ c7 - 1 := by simp at hc7; omega
                have HCW := Aside0.mk hc7
                clear hri hcur hpb hy1 hi0 HP
                go_wp2_with fail
                go_loopw [54] (fun v54 wr => ∃ t : Nat, v54 = .int .i64 (t : Int) ∧ t ≤ th ∧ Aside0 (CK wr g0 th (RJ ++ parR cur ri t :: List.replicate (l.length - j - 1) (z0 th))) ∧ Aside0 (Kd.F k32 wr (fun k => g0 + l.length < k) (some ad7) (p :: rs).length (p :: rs)) ∧ Aside0 (EvC g9 x wr) ∧ Aside0 (Below w.heap.size w wr)) (fun v54 _ => th - (intOf v54).toNat)
                case atStart => exact ⟨0, rfl, Nat.zero_le _, ⟨by rw [parR_zero]; exact HCK.out⟩, HF, HEV, HB⟩
                case round =>
                  clear HCK HF HEV HB k0 k1 kT
                  obtain ⟨t, rfl, htt, HCK, HF, HEV, HB⟩ := hrel
                  by_cases htl : t < th
                  · have htl1 : (t : Int) < (th : Int) := by omega
                    have ht8 : t < 8 := by omega
                    obtain ⟨b, hb⟩ : ∃ b, b = ri.getD t 0 := ⟨_, rfl⟩
                    have kI : wr.cell? ⟨g0 + 1 + i0, t, none⟩ = some (.int .i64 b) := by
                      rw [hb, HRI.out]
                      exact HCK.out.lowR (by rw [HRL.out]; exact hi0j) htl
                    obtain ⟨a, ha⟩ : ∃ a, a = cur.getD t 0 := ⟨_, rfl⟩
                    have HPS := Aside0.mk (show (parR cur ri t).set t (max a b) = parR cur ri (t + 1) by
                      rw [ha, hb]
                      exact parR_step HCL.out HRIL.out htl)
                    have HPG := Aside0.mk (show a = (parR cur ri t).getD t 0 by rw [ha]; exact (parR_get HCL.out HRIL.out htl).symm)
                    clear ha hb
                    go_wp2_with fail
                    have hckd := HCK.out.below (below_drew1 (Below.refl wr.heap.size wr))
                    obtain ⟨w4, hst, hck4, hgr⟩ := hckd.mid HRL.out htl (max a b)
                    refine wp_dirty1 [15] (fun w' => w'.cell? ⟨g0, j, none⟩ = some (slot g0 th j) ∧ w'.cell? ⟨g0 + 1 + j, t, none⟩ = some (.int .i64 a)) (fun _ => True) (fun _ _ => trivial) [(0, false), (1, false), (2, false), (3, false), (4, false), (5, false), (6, false), (7, false), (8, false), (9, false), (10, false), (11, false), (12, false), (13, true), (14, false)] [(15, true)] (by kernel_rfl) (by kernel_rfl) ⟨hckd.midT HRL.out, by rw [HPG.out]; exact hckd.midR HRL.out htl⟩ (fun _ _ d _ _ h => by cases d <;> exact h) ?_
                    refine se_move rfl rfl rfl ?_
                    refine se_move rfl rfl rfl ?_
                    refine se_indexAddr (v := .pointer (some ⟨g0, j, none⟩)) rfl rfl rfl rfl (fun w' hw => by go_simp) ?_
                    refine se_load (v := .slice (some ⟨g0 + 1 + j, 0, none⟩) th th) rfl rfl rfl (fun w' hw => ldT hw.1) ?_
                    refine se_move rfl rfl rfl ?_
                    refine se_move rfl rfl rfl ?_
                    refine se_move rfl rfl rfl ?_
                    refine se_indexAddr (v := .pointer (some ⟨g0, j, none⟩)) rfl rfl rfl rfl (fun w' hw => by go_simp) ?_
                    refine se_load (v := .slice (some ⟨g0 + 1 + j, 0, none⟩) th th) rfl rfl rfl (fun w' hw => ldT hw.1) ?_
                    refine se_move rfl rfl rfl ?_
                    refine se_indexAddr (v := .pointer (some ⟨g0 + 1 + j, t, none⟩)) rfl rfl rfl rfl (fun w' hw => by go_simp) ?_
                    refine se_load (v := .int .i64 a) rfl rfl rfl (fun w' hw => ldR hw.2) ?_
                    refine se_move rfl rfl rfl ?_
                    refine se_made (vs := [.int .i64 a, .int .i64 b]) (v := .int .i64 (max a b)) rfl rfl rfl (max_run _ a b _ _ rfl) ⟨hckd.midT HRL.out, by rw [HPG.out]; exact hckd.midR HRL.out htl⟩ ?_
                    refine se_indexAddr (v := .pointer (some ⟨g0 + 1 + j, t, none⟩)) rfl rfl rfl rfl (fun w' hw => by go_simp) ?_
                    refine se_store rfl rfl rfl rfl hst trivial ?_
                    rw [HPS.out] at hck4
                    have HCK4 := Aside0.mk hck4
                    have HF4 := Aside0.mk (Kd.F_grown (Kd.F_drew HF.out) hgr (fun k hk e => by injection e with e; omega))
                    have HEV4 := Aside0.mk ((HEV.out.below (below_drew1 (Below.refl _ _))).grown hgr (fun e => by injection e with e; have := HG9.out; omega))
                    have HB4 := Aside0.mk (Below.grown (below_drew HB.out) hgr (below_drew HB.out).size (fun k hk => by injection hk with hk; have := HG0.out; omega))
                    clear hckd hst hck4 hgr HCK HF HB HEV
                    simp only [SeqE, puts, Act.put, List.setIfInBounds_toArray, List.set_cons_zero, List.set_cons_succ]
                    go_wp2
                    go_roundw
                    case rel => exact ⟨t + 1, by go_num, htl, HCK4, HF4, HEV4, HB4⟩
                    case measure => simp [intOf]; omega
                  · have HCK5 := Aside0.mk (show CK wr g0 th (RJ ++ mx RJ (z0 th) (at1 (pre ++ [p]) j) :: List.replicate (l.length - j - 1) (z0 th)) by
                      have h := HCK.out
                      rw [show t = th by omega, parR_all HCL.out HRIL.out] at h
                      rw [HNEW.out]
                      exact h)
                    obtain ⟨A8, hsl, hF8⟩ := rest_cut HF.out HCW.out
                    have HSL := Aside0.mk hsl
                    have HF8 := Aside0.mk hF8
                    clear hsl hF8 HCK HF
                    go_wp2_with (first
                      | (refine wpl_slice1 rfl rfl rfl rfl HSL.out ?_)
                      | fail)
                    go_roundw
                    case rel => exact ⟨pre ++ [p], rs, A8, c7 - 1, rfl, hc71, HP2, HF8, HCK5, HEV, HB⟩
                    case measure => simp [slen]
              · have d1 : (y1 == (j : Int)) = false := beq_eq_false_iff_ne.2 hpj
                have hsrt : ∀ q ∈ p :: rs, (j : Int) < q.f1 := fun q hq => by
                  have h1 := HP.out.2.2 p List.mem_cons_self
                  have h2 := HE.out.1
                  rw [HP.out.1] at h2
                  have h3 := (List.pairwise_append.1 h2).2.1
                  rw [List.pairwise_cons] at h3
                  rcases List.mem_cons.1 hq with rfl | hq
                  · omega
                  · have := h3.1 q hq
                    unfold pq at this
                    omega
                have HDN := Aside0.mk (show at1 pre j = at1 E j from at1_done HP.out.1 (fun q hq => by have := hsrt q hq; omega))
                have HPX : Aside0 (E = pre ++ (p :: rs) ∧ (∀ q ∈ pre, q.f1 < ((j + 1 : Nat) : Int)) ∧ (∀ q ∈ p :: rs, ((j + 1 : Nat) : Int) ≤ q.f1)) := ⟨HP.out.1, fun q hq => by have := HP.out.2.1 q hq; omega, fun q hq => by have := hsrt q hq; omega⟩
                clear hsrt hy1
                obtain ⟨tn, htn⟩ : ∃ tn : Nat, x.t = (tn : Int) := ⟨x.t.toNat, by have := HX.out; omega⟩
                have htn2 : tn < th := by have := HX.out; omega
                have htn3 : (tn : Int) < (th : Int) := by omega
                have HTN := Aside0.mk htn
                obtain ⟨cur, hcur⟩ : ∃ cur, cur = mx RJ (z0 th) (at1 pre j) := ⟨_, rfl⟩
                have HCUR := Aside0.mk (show RowB th (j : Int) cur by
                  rw [hcur]
                  refine mx_B _ _ _ (z0_B th _ (by omega)) (fun q hq => ?_)
                  obtain ⟨q1, q2⟩ := at1_mem.1 hq
                  have := HE.out.bound q (by rw [HP.out.1]; exact List.mem_append.2 (.inl q1))
                  rw [HRJ.out]
                  exact rowsF_B l th E (fun p hp => ⟨(HE.out.bound p hp).1, (HE.out.bound p hp).2.1⟩) j q.f0.toNat (by omega))
                have HNX := Aside0.mk (show rowsF l th E (j + 1) = RJ ++ [bump cur tn] by
                  show rowsF l th E j ++ [bump (mx (rowsF l th E j) (z0 th) (at1 E j)) (l.getD j zC).t.toNat] = _
                  rw [HXJ.out, HTN.out, Int.toNat_natCast, hcur, HRJ.out, HDN.out])
                rw [← hcur] at HCK
                obtain ⟨cv, hcv⟩ : ∃ cv, cv = cur.getD tn 0 := ⟨_, rfl⟩
                have hcvb := HCUR.out.2 tn htn2
                rw [← hcv] at hcvb
                have HCV := Aside0.mk hcv
                have hwcv : IntKind.i64.wrap (cv + 1) = cv + 1 := by rw [IntKind.wrap_i64]; omega
                clear hcur htn hcv hcvb
                go_wp2_with fail
                have hckd := HCK.out.below (below_drew1 (Below.refl wr.heap.size wr))
                obtain ⟨w4, hst, hck4, hgr⟩ := hckd.mid HRL.out htn2 (cv + 1)
                refine wp_dirty1 [10] (fun w' => EvC g9 x w' ∧ w'.cell? ⟨g0, j, none⟩ = some (slot g0 th j) ∧ w'.cell? ⟨g0 + 1 + j, tn, none⟩ = some (.int .i64 cv)) (fun _ => True) (fun _ _ => trivial) [(0, false), (1, false), (2, false), (3, false), (4, false), (5, false), (6, false), (7, false), (8, false), (9, false)] [(10, true)] (by kernel_rfl) (by kernel_rfl) ⟨HEV.out.below (below_drew1 (Below.refl _ _)), hckd.midT HRL.out, by rw [HCV.out]; exact hckd.midR HRL.out htn2⟩ (fun _ _ d _ _ h => by cases d <;> exact h) ?_
                refine se_move rfl rfl rfl ?_
                refine se_move rfl rfl rfl ?_
                refine se_indexAddr (v := .pointer (some ⟨g0, j, none⟩)) rfl rfl rfl rfl (fun w' hw => by go_simp) ?_
                refine se_load (v := .slice (some ⟨g0 + 1 + j, 0, none⟩) th th) rfl rfl rfl (fun w' hw => ldT hw.2.1) ?_
                refine se_un (v := .pointer (some ⟨g9, 2, none⟩)) rfl rfl rfl rfl rfl (fun w' hw => by go_simp) ?_
                refine se_load (v := .int .i64 (tn : Int)) rfl rfl rfl (fun w' hw => by rw [← HTN.out]; exact evl2 hw.1) ?_
                refine se_indexAddr (v := .pointer (some ⟨g0 + 1 + j, tn, none⟩)) rfl rfl rfl rfl (fun w' hw => by go_simp) ?_
                refine se_load (v := .int .i64 cv) rfl rfl rfl (fun w' hw => ldR hw.2.2) ?_
                refine se_bin (v := .int .i64 (cv + 1)) rfl rfl rfl rfl (fun w' hw => by go_simp) ?_
                refine se_indexAddr (v := .pointer (some ⟨g0 + 1 + j, tn, none⟩)) rfl rfl rfl rfl (fun w' hw => by go_simp) ?_
                refine se_store rfl rfl rfl rfl hst trivial ?_
                have HCK4 := Aside0.mk (show CK w4 g0 th (rowsF l th E (j + 1) ++ List.replicate (l.length - (j + 1)) (z0 th)) by
                  rw [HNX.out, List.append_assoc, show l.length - (j + 1) = l.length - j - 1 by omega]
                  have h := hck4
                  rw [HCV.out] at h
                  exact h)
                have HF4 := Aside0.mk (Kd.F_grown (Kd.F_drew HF.out) hgr (fun k hk e => by injection e with e; omega))
                have HB4 := Aside0.mk (Below.grown (below_drew HB.out) hgr (below_drew HB.out).size (fun k hk => by injection hk with hk; have := HG0.out; omega))
                clear hckd hst hck4 hgr HCK HF HB HEV
                simp only [SeqE, puts, Act.put, List.setIfInBounds_toArray, List.set_cons_zero, List.set_cons_succ]
                go_wp2
                go_roundw
                case rel => exact ⟨j + 1, pre, _, _, c7, by go_num, hlj, rfl, hc7, HPX, HF4, HCK4, HB4⟩
                case measure => simp [intOf]; omega
        · have HCKE := Aside0.mk (show CK wr g0 th (rowsF l th E l.length) by
            have h := HCK.out
            rw [show j = l.length by omega, Nat.sub_self, List.replicate_zero, List.append_nil] at h
            exact h)
          clear HCK
          go_wp2
          exact bodyPost_ret (v := .slice (some ⟨g0, 0, none⟩) l.length l.length) (by simp [results, Try.f39, go_sem]) rfl ⟨g0, E, rfl, HE.out, HCKE.out, by rw [HG0.out]; exact Nat.le_refl _, HB.out⟩
end Go.Proofs.Ytginlhengebgaaa.Ck
