/- A map from numbers to lists of numbers, each list a row of the call's own: look-ups, stores; append, Delete on such a row. -/
import Derived.Test.YtginlhengebgaaaLockC
import Derived.Test.YtginlhengebgaaaLockSh
import Derived.Test.YtginlhengebgaaaMap
import Derived.Test.YtginlhengebgaaaRegionDirty
namespace Go.Proofs.Ytginlhengebgaaa.Lk
open Go Go.RowKit Go.Maps Go.Proofs.YtginlhengebgaaaW Go.Proofs.YtginlhengebgaaaW.PrintWords Go.Proofs.YtginlhengebgaaaW.PrintLast Go.Proofs.YtginlhengebgaaaW.PrintMore Go.Proofs.Ytginlhengebgaaa.PLockupEither Go.Proofs.Ytginlhengebgaaa.Bs Go.Proofs.Ytginlhengebgaaa.RegionVal
open Go.Lib hiding intOf
set_option linter.unusedVariables false
set_option linter.unusedSimpArgs false

theorem app_rows {P : Program} {α : Type} (d : Kd α) {Rr : α → List Value → Prop} {w0 W : World} (base : Nat) (t e : TypeId) (z : Value) (bytes : Nat)
    (ht : P.underlying t = some (.slice e)) (hinfo : (P.info? e).map (fun i => (i.zero, i.size, i.bytes)) = some (some z, d.sz, bytes)) (hz : z.cells.size = d.sz) (hs0 : 0 < d.sz) (hb0 : 0 < bytes)
    (v : Value) (xs ys : List α) (A : Option Addr) (m c : Nat) (ok okp : Nat → Prop)
    (HO : d.R e W base ok v xs) (HR : ReadsRow Rr d.sz W A m ys) (hKM : ∀ x cs, Rr x cs → d.M W base okp x cs) (hokp : ∀ k, okp k → ok k ∧ some k ≠ v.ownBlock) (hfresh : ∀ k, W.heap.size ≤ k → ok k)
    (HB : Below base w0 W) (hbase : base ≤ W.heap.size) (hl : (xs.length + m) * bytes ≤ 140737488355328) :
    ∃ v1 w1, Sem.run P (builtin .append #[t, t] t #[false, false] #[v, .slice A m c]) W = .ok (.value v1) w1 ∧ d.R e w1 base ok v1 (xs ++ ys) ∧ Below base w0 w1 ∧ W.grownBy w1 v.ownBlock ∧ (v1.ownBlock = v.ownBlock ∨ ∃ b, v1.ownBlock = some b ∧ W.heap.size ≤ b) := by
  have h := Kd.R_append_rows_step (P := P) (o := { dst := some 0, op := .call { callee := .builtin .append, args := #[.tmp 0, .tmp 1], argTypes := #[t, t] }, type := t, pos := "", after := #[], guard := none }) (a := ⟨#[v, .slice A m c], []⟩) (ops := #[])
    (Kc := fun a' w' => ∃ v1, a'.tmps[0]? = some v1 ∧ d.R e w' base ok v1 (xs ++ ys) ∧ Below base w0 w' ∧ W.grownBy w' v.ownBlock ∧ (v1.ownBlock = v.ownBlock ∨ ∃ b, v1.ownBlock = some b ∧ W.heap.size ≤ b)) (Q := fun _ _ _ => False)
    d base (by rfl) (.tmp 0) (.tmp 1) t e z bytes rfl ht hinfo hz hs0 hb0 v xs ys A m c ok okp (by rfl) (by rfl) HO HR hKM hokp hfresh HB hbase hl (fun v1 w1 h1 h2 h3 h4 => ⟨v1, by simp [Act.put], h1, h2, h3, h4⟩)
  rw [if_pos (by rfl)] at h
  have hr : (execOp (Act.eval ⟨#[v, .slice A m c], []⟩) { dst := some 0, op := .call { callee := .builtin .append, args := #[.tmp 0, .tmp 1], argTypes := #[t, t] }, type := t, pos := "", after := #[], guard := none }).run P W = Sem.run P (builtin .append #[t, t] t #[false, false] #[v, .slice A m c]) W := by
    simp [execOp, resolve, invoke, Act.eval]
  unfold Oper.wp at h
  rw [hr] at h
  simp only [builtin, Sem.run_bind] at h ⊢
  generalize (Builtin.append_ #[t, t] t #[v, .slice A m c]).run P W = r at h ⊢
  rcases r with ⟨v1, w1⟩ | ⟨hh, w1⟩
  · simp only [Result.andThen_ok, Sem.run_pure] at h ⊢
    obtain ⟨v2, h1, h2, h3, h4, h5⟩ := h
    simp [Act.put] at h1
    subst h1
    exact ⟨v1, w1, rfl, h2, h3, h4, h5⟩
  · exfalso
    cases hh <;> exact h
section
variable {P : Program} {L : List Oper} {S : World → Prop} {a0 : Act} {K : List (Nat × Value) → World → Prop} {rest : List (Nat × Bool)} {env : List (Nat × Value)} {w : World} {i : Nat} {T : TypeId} {pos : String} {after : Array Edge} {g : Option (Nat × Bool)}
/-- m[x] = y in a region that draws its order -/
theorem se_mapUpd {t : TypeId} {m x y : Operand} {vm vx vy : Value} {w' : World} (ho : want.nthO L i = some ⟨none, .mapUpdate t m x y, T, pos, after, g⟩) (hg : want L a0 env g = some true) (hm : rdo a0 env m = some vm) (hx : rdo a0 env x = some vx) (hy : rdo a0 env y = some vy)
    (hr : Sem.run P (Instr.mapUpdate t vm vx vy) w = .ok () w') (hS : S w') (h : SeqE P L S a0 K rest env w') : SeqE P L S a0 K ((i, true) :: rest) env w := by
  refine ⟨_, ho, .inl ⟨hg, ?_⟩⟩
  have h1 : (execOp (ev a0 env) ⟨none, .mapUpdate t m x y, T, pos, after, g⟩).run P w = .ok .skip w' := by
    simp only [execOp, ev_of hm, ev_of hx, ev_of hy, Sem.run_bind]
    rw [hr]
    rfl
  rw [h1]
  exact ⟨hS, h⟩
end
theorem R_int {w : World} {base : Nat} {v : Value} {xs : List Int} (h : w.ownsRow base 3 1 v xs.length (nums .i64 xs)) : Kd.R kI 3 w base (fun _ => True) v xs := Kd.R_of_own h (fun _ _ => trivial)
/-- the list that stands at x -/
def valAt (m : List (Int × Value)) (x : Int) : Value := (Mp.get m x).getD (.slice none 0 0)
theorem valAt_put (m : List (Int × Value)) (x : Int) (v : Value) (y : Int) : valAt (Mp.put m x v) y = if y = x then v else valAt m y := by
  unfold valAt
  rw [Mp.get_put]
  split <;> rfl
/-- g, with l at x -/
def updL (g : Int → List Int) (x : Int) (l : List Int) : Int → List Int := fun y => if y = x then l else g y
theorem own_type {w : World} {base : Nat} {e : TypeId} {size n : Nat} {v : Value} {xs : List Value} (h : w.ownsRow base e size v n xs) (k : Nat) (hk : v.ownBlock = some k) : ∃ cells, w.heap[k]? = some (.cells cells e (0, 0)) := own_typed h k hk
/-- block b is a map of rows of one's own, apart from each other; vo is a row of pairs -/
structure GR (w : World) (b bo : Nat) (m : List (Int × Value)) (g : Int → List Int) (vo : Value) (out : List S32) : Prop where
  map : Mp.Holds w b (Value.int .i64) id m
  lt : b < bo
  row : ∀ x, w.ownsRow bo 3 1 (valAt m x) (g x).length (nums .i64 (g x))
  apart : ∀ x y, x ≠ y → (valAt m x).ownBlock = none ∨ (valAt m x).ownBlock ≠ (valAt m y).ownBlock
  outr : Kd.R k32 32 w bo (fun _ => True) vo out
theorem GR.apartO {w : World} {b bo : Nat} {m : List (Int × Value)} {g : Int → List Int} {vo : Value} {out : List S32} (h : GR w b bo m g vo out) (x : Int) : (valAt m x).ownBlock = none ∨ (valAt m x).ownBlock ≠ vo.ownBlock := by
  cases hx : (valAt m x).ownBlock with
  | none => exact .inl rfl
  | some k =>
    refine .inr fun e => ?_
    obtain ⟨c1, h1⟩ := own_type (h.row x) k hx
    obtain ⟨inner, ho⟩ := Kd.R_own h.outr
    obtain ⟨c2, h2⟩ := own_type ho k e.symm
    rw [h1] at h2
    injection h2 with h2
    injection h2 with _ h2
    exact absurd h2 (by decide)
theorem GR.new (w : World) (bo : Nat) (h : w.heap.size < bo) : GR (w.alloc (.map #[] 0)) w.heap.size bo [] (fun _ => []) (.slice none 0 0) [] :=
  ⟨Mp.holds_made w _ _, h, fun x => World.ownsRow_nil _ _ _ _, fun x y _ => .inl rfl, Kd.R_nil _ _ _ _ _⟩
theorem GR.below {w w' : World} {b bo : Nat} {m : List (Int × Value)} {g : Int → List Int} {vo : Value} {out : List S32} (h : GR w b bo m g vo out) (hb : Below w.heap.size w w') : GR w' b bo m g vo out :=
  ⟨h.map.below hb, h.lt, fun x => own_keep (h.row x) hb, h.apart, Kd.R_below h.outr hb⟩
theorem own_base {w : World} {bo : Nat} {e : TypeId} {size n : Nat} {v : Value} {xs : List Value} (h : w.ownsRow bo e size v n xs) (k : Nat) (hk : v.ownBlock = some k) : bo ≤ k := by
  rcases h.2 with ⟨rfl, _⟩ | ⟨g, cap, cur, rfl, hg, _⟩
  · cases hk
  · have hgk : g = k := by simpa [Value.ownBlock] using hk
    omega
theorem own_grown {w w' : World} {bo : Nat} {n : Nat} {v : Value} {xs : List Value} {row : Option Nat} (h : w.ownsRow bo 3 1 v n xs) (hg : w.grownBy w' row) (hne : v.ownBlock = none ∨ v.ownBlock ≠ row) : w'.ownsRow bo 3 1 v n xs := own_other h (row := row) hg hne
/-- the pairs have grown -/
theorem GR.outer {w w' : World} {b bo : Nat} {m : List (Int × Value)} {g : Int → List Int} {vo vo' : Value} {out out' : List S32} (h : GR w b bo m g vo out) (hg : w.grownBy w' vo.ownBlock) (hr : Kd.R k32 32 w' bo (fun _ => True) vo' out') : GR w' b bo m g vo' out' := by
  refine ⟨h.map.kept (hg.block b h.map.lt (fun e => ?_)), h.lt, fun x => own_grown (h.row x) hg (h.apartO x), h.apart, hr⟩
  obtain ⟨inner, ho⟩ := Kd.R_own h.outr
  have := own_base ho b e.symm
  have := h.lt
  omega
/-- the list at x has turned, and is stored -/
theorem GR.turn {w w1 w2 : World} {b bo : Nat} {m : List (Int × Value)} {g : Int → List Int} {vo v1 : Value} {out : List S32} {x : Int} {l : List Int} (h : GR w b bo m g vo out) (hg : w.grownBy w1 (valAt m x).ownBlock) (hr : w1.ownsRow bo 3 1 v1 l.length (nums .i64 l))
    (hloc : v1.ownBlock = (valAt m x).ownBlock ∨ ∃ k, v1.ownBlock = some k ∧ w.heap.size ≤ k) (hm : Mp.Holds w2 b (Value.int .i64) id (Mp.put m x v1)) (hg2 : w1.grownBy w2 (some b)) : GR w2 b bo (Mp.put m x v1) (updL g x l) vo out := by
  have hfar : ∀ {v : Value} {n : Nat} {xs : List Value}, w1.ownsRow bo 3 1 v n xs → w2.ownsRow bo 3 1 v n xs := fun ho => own_far ho hg2 h.lt
  have hne : ∀ y, y ≠ x → (valAt m y).ownBlock = none ∨ (valAt m y).ownBlock ≠ v1.ownBlock := fun y hy => by
    rcases hloc with h1 | ⟨k, h1, h2⟩
    · rw [h1]; exact h.apart y x hy
    · rw [h1]
      cases hv : (valAt m y).ownBlock with
      | none => exact .inl rfl
      | some q =>
        refine .inr fun e => ?_
        have := World.ownsRow.lt (h.row y) q hv
        injection e with e
        omega
  refine ⟨hm, h.lt, fun y => ?_, fun y z hyz => ?_, ?_⟩
  · rw [valAt_put]
    unfold updL
    by_cases hy : y = x
    · rw [if_pos hy, if_pos hy]; exact hfar hr
    · rw [if_neg hy, if_neg hy]; exact hfar (own_grown (h.row y) hg (h.apart y x hy))
  · rw [valAt_put, valAt_put]
    by_cases hy : y = x
    · by_cases hz : z = x
      · exact absurd (hy.trans hz.symm) hyz
      · rw [if_pos hy, if_neg hz]
        rcases hne z hz with h1 | h1
        · cases hv : v1.ownBlock with
          | none => exact .inl rfl
          | some q => exact .inr (by rw [h1]; simp)
        · exact .inr (fun e => h1 e.symm)
    · rw [if_neg hy]
      by_cases hz : z = x
      · rw [if_pos hz]; exact hne y hy
      · rw [if_neg hz]; exact h.apart y z hyz
  · have h1 : Kd.R k32 32 w1 bo (fun _ => True) vo out := Kd.R_over h.outr (R_int (h.row x)) (by decide) hg
    exact Kd.R_mono (Kd.R_grown (Kd.R_bound h1) hg2 (fun k hk e => by
      injection e with e
      have := hk.2.1
      have := h.lt
      omega)) (fun _ hk => hk.1)
/-- slices.Delete of one number -/
theorem delete_calls (W : World) (bo : Nat) (v : Value) (xs : List Int) (q : Nat) (h : W.ownsRow bo 3 1 v xs.length (nums .i64 xs)) (hq : q < xs.length) :
    Calls Try.prog 32 #[v, .int .i64 (q : Int), .int .i64 ((q + 1 : Nat) : Int)] W fun e w' => ∃ v1, e = .returned v1 ∧ w'.ownsRow bo 3 1 v1 (xs.take q ++ xs.drop (q + 1)).length (nums .i64 (xs.take q ++ xs.drop (q + 1))) ∧ W.grownBy w' v.ownBlock ∧ v1.ownBlock = v.ownBlock := by
  rcases h.2 with ⟨hv, hn⟩ | ⟨g, cap, cur, rfl, hbg, hh, hnc, hcm, hcs, htk⟩
  · omega
  rw [Nat.mul_one] at htk hcs
  have hnl : (nums .i64 xs).length = xs.length := by simp [nums]
  refine (lk_Delete_cells g 0 xs.length cap q (q + 1) xs W (Nat.le_refl _) hnc (by unfold maxLen at hcm; omega) (by omega) hq (fun j hj => by
    rw [Nat.zero_add, blk_cell hh, ← Array.getElem?_toList]
    have h1 : (cur.toList.take xs.length)[j]? = (nums .i64 xs)[j]? := by rw [htk]
    rw [List.getElem?_take, if_pos hj] at h1
    rw [h1]
    simp [nums, List.getD_eq_getElem?_getD, hj]) (fun j hj => blk_frozen hh _)).mono ?_
  rintro e w' ⟨rfl, ⟨n, rfl⟩⟩
  have hh2 : (W.drewN n).heap[g]? = some (.cells cur 3 (0, 0)) := hh
  rw [List.take_length]
  have hlen : ((xs.take q ++ xs.drop (q + 1) ++ List.replicate (q + 1 - q) 0).map (Value.int .i64)).length = xs.length := by
    rw [List.length_map, List.length_append, List.length_append, List.length_take, List.length_drop, List.length_replicate]
    omega
  obtain ⟨c1, k1, k2, k3⟩ := setCells_row ((xs.take q ++ xs.drop (q + 1) ++ List.replicate (q + 1 - q) 0).map (Value.int .i64)) 0 (W.drewN n) cur hh2 (by rw [hlen, hcs]; omega)
  have hl2 : (xs.take q ++ xs.drop (q + 1)).length = xs.length - (q + 1 - q) := by
    rw [List.length_append, List.length_take, List.length_drop]
    omega
  refine ⟨_, rfl, ⟨by simp [nums], .inr ⟨g, cap, c1, by rw [hl2], hbg, k1, by rw [hl2]; omega, hcm, by rw [k2, hcs, Nat.mul_one], ?_⟩⟩, ?_, rfl⟩
  · rw [Nat.mul_one, k3, List.take_zero, List.nil_append, List.map_append, List.append_assoc]
    exact List.take_left' (by rw [List.length_map])
  · exact gb_trans (gb_below _ (pw_below_drewN (Below.refl _ _) n)) ⟨(setCells_same g _ _ _).1, (setCells_same g _ _ _).2.1, (setCells_same g _ _ _).2.2.1, Nat.le_of_eq (setCells_same g _ _ _).2.2.2.symm, fun k _ hne => setCells_far _ _ _ (fun e => hne (by rw [e]; rfl))⟩
end Go.Proofs.Ytginlhengebgaaa.Lk
