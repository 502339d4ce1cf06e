/- pages: a store of one's own, in a box; appends to its roots. -/
import Derived.Test.YtblalidpeccabacPageH
import Derived.Test.YtblalidpeccabacRegionTree
namespace Go.Proofs.Ytblalidpeccabac.Pg
open Go Go.RowKit Go.Lib Go.Proofs.YtblalidpeccabacW.PrintWords Go.Proofs.YtblalidpeccabacW.PrintLast Go.Proofs.YtblalidpeccabacW.PrintMore Go.Proofs.Ytblalidpeccabac.PPagesBack Go.Proofs.Ytblalidpeccabac.Bs Go.Proofs.Ytblalidpeccabac.RegionVal
set_option linter.unusedVariables false
set_option linter.unusedSimpArgs false

/-- block b is a store of one's own; whatever lay in w0 lies there still -/
structure Box (w0 : World) (b : Nat) (w : World) (s : St) (vP vU vR : Value) : Prop where mk ::
  le : w0.heap.size ≤ b
  blk : w.heap[b]? = some (.cells #[vP, vU, vR] 26 (0, 0))
  P : Kd.R kP 38 w w0.heap.size (fun _ => True) vP s.ps
  U : Kd.R kI 3 w w0.heap.size (fun _ => True) vU s.us
  R : Kd.R kR 23 w w0.heap.size (fun k => some k ≠ vU.ownBlock) vR s.rs
  below : Below w0.heap.size w0 w

theorem run_build (w : World) (A : Option Addr) (n a : Nat) (B : Option Addr) (m b : Nat) : Sem.run Try.prog (Instr.build 26 #[(0, .slice A n a), (1, .slice B m b)]) w = .ok (.agg #[.slice A n a, .slice B m b, .slice none 0 0]) w := by
  go_simp
theorem run_alloc26 (w : World) : Sem.run Try.prog (Instr.alloc 26 true (.tuple #[])) w = .ok (.pointer (some ⟨w.heap.size, 0, none⟩)) (w.alloc (.cells #[.slice none 0 0, .slice none 0 0, .slice none 0 0] 26)) := by
  go_simp
/-- a store's three fields, put -/
def put3 (w : World) (g : Nat) (v0 v1 v2 : Value) : World := ((w.setCell ⟨g, 0, none⟩ v0).setCell ⟨g, 1, none⟩ v1).setCell ⟨g, 2, none⟩ v2
theorem info26 : (Try.prog.info? 26).map (·.size) = some 3 := by kernel_rfl
theorem run_store26 (w : World) (g : Nat) (u0 u1 u2 v0 v1 v2 : Value) (hk : w.heap[g]? = some (.cells #[u0, u1, u2] 26 (0, 0))) (h0 : v0.oneCell' = true) (h1 : v1.oneCell' = true) (h2 : v2.oneCell' = true) : Sem.run Try.prog (Instr.storeAt 26 (.pointer (some ⟨g, 0, none⟩)) (.agg #[v0, v1, v2])) w = .ok () (put3 w g v0 v1 v2) :=
  run_store_run (P := Try.prog) 26 (.agg #[v0, v1, v2]) [v0, v1, v2] hk rfl info26 (by simp) (by
    intro q hq
    simp only [List.mem_cons, List.not_mem_nil, or_false] at hq
    rcases hq with rfl | rfl | rfl <;> assumption)
theorem put3_blk {w : World} {g : Nat} {u0 u1 u2 v0 v1 v2 : Value} (hk : w.heap[g]? = some (.cells #[u0, u1, u2] 26 (0, 0))) : (put3 w g v0 v1 v2).heap[g]? = some (.cells #[v0, v1, v2] 26 (0, 0)) :=
  blk_put (blk_put (blk_put hk 0 v0 rfl) 1 v1 rfl) 2 v2 rfl
theorem put3_R {α : Type} {d : Kd α} {e : Nat} {w : World} {g : Nat} {u0 u1 u2 v0 v1 v2 v : Value} {base : Nat} {ok : Nat → Prop} {xs : List α} (hk : w.heap[g]? = some (.cells #[u0, u1, u2] 26 (0, 0))) (ht : ∀ q, q ∈ e :: d.E → q ≠ 26) (h : d.R e w base ok v xs) : d.R e (put3 w g v0 v1 v2) base ok v xs :=
  Kd.R_set (Kd.R_set (Kd.R_set h hk ht 0 v0) (blk_put hk 0 v0 rfl) ht 1 v1) (blk_put (blk_put hk 0 v0 rfl) 1 v1 rfl) ht 2 v2
theorem put3_below {w0 w : World} {base g : Nat} {v0 v1 v2 : Value} (hb : Below base w0 w) (hg : base ≤ g) : Below base w0 (put3 w g v0 v1 v2) :=
  ((hb.setCell (p := ⟨g, 0, none⟩) hg v0).setCell (p := ⟨g, 1, none⟩) hg v1).setCell (p := ⟨g, 2, none⟩) hg v2
theorem noP : ∀ q, q ∈ 38 :: kP.E → q ≠ 26 := by intro q hq; have h : q ∈ [38] := hq; obtain rfl := List.mem_singleton.1 h; decide
theorem noI : ∀ q, q ∈ 3 :: kI.E → q ≠ 26 := by intro q hq; have h : q ∈ [3] := hq; obtain rfl := List.mem_singleton.1 h; decide
theorem noR : ∀ q, q ∈ 23 :: kR.E → q ≠ 26 := by
  intro q hq
  have h : q ∈ [23, 3] := hq
  have : q = 23 ∨ q = 3 := by simpa using h
  rcases this with rfl | rfl <;> decide

/-- append(v, ys...) to a row of one's own, of any kind -/
theorem app_rows {P : Program} {α : Type} (d : Kd α) {Rr : α → List Value → Prop} {w0 W : World} (base : Nat) (t e : TypeId) (z : Value) (bytes : Nat)
    (ht : P.underlying t = some (.slice e)) (hinfo : (P.info? e).map (fun i => (i.zero, i.size, i.bytes)) = some (some z, d.sz, bytes)) (hz : z.cells.size = d.sz) (hs0 : 0 < d.sz) (hb0 : 0 < bytes)
    (v : Value) (xs ys : List α) (A : Option Addr) (m c : Nat) (ok okp : Nat → Prop)
    (HO : d.R e W base ok v xs) (HR : ReadsRow Rr d.sz W A m ys) (hKM : ∀ x cs, Rr x cs → d.M W base okp x cs) (hokp : ∀ k, okp k → ok k ∧ some k ≠ v.ownBlock) (hfresh : ∀ k, W.heap.size ≤ k → ok k)
    (HB : Below base w0 W) (hbase : base ≤ W.heap.size) (hl : (xs.length + m) * bytes ≤ 140737488355328) :
    ∃ v1 w1, Sem.run P (builtin .append #[t, t] t #[false, false] #[v, .slice A m c]) W = .ok (.value v1) w1 ∧ d.R e w1 base ok v1 (xs ++ ys) ∧ Below base w0 w1 ∧ W.grownBy w1 v.ownBlock ∧ (v1.ownBlock = v.ownBlock ∨ ∃ b, v1.ownBlock = some b ∧ W.heap.size ≤ b) := by
  have h := Kd.R_append_rows_step (P := P) (o := { dst := some 0, op := .call { callee := .builtin .append, args := #[.tmp 0, .tmp 1], argTypes := #[t, t] }, type := t, pos := "", after := #[], guard := none }) (a := ⟨#[v, .slice A m c], []⟩) (ops := #[])
    (Kc := fun a' w' => ∃ v1, a'.tmps[0]? = some v1 ∧ d.R e w' base ok v1 (xs ++ ys) ∧ Below base w0 w' ∧ W.grownBy w' v.ownBlock ∧ (v1.ownBlock = v.ownBlock ∨ ∃ b, v1.ownBlock = some b ∧ W.heap.size ≤ b)) (Q := fun _ _ _ => False)
    d base (by rfl) (.tmp 0) (.tmp 1) t e z bytes rfl ht hinfo hz hs0 hb0 v xs ys A m c ok okp (by rfl) (by rfl) HO HR hKM hokp hfresh HB hbase hl (fun v1 w1 h1 h2 h3 h4 => ⟨v1, by simp [Act.put], h1, h2, h3, h4⟩)
  rw [if_pos (by rfl)] at h
  have hr : (execOp (Act.eval ⟨#[v, .slice A m c], []⟩) { dst := some 0, op := .call { callee := .builtin .append, args := #[.tmp 0, .tmp 1], argTypes := #[t, t] }, type := t, pos := "", after := #[], guard := none }).run P W = Sem.run P (builtin .append #[t, t] t #[false, false] #[v, .slice A m c]) W := by
    simp [execOp, resolve, invoke, Act.eval]
  unfold Oper.wp at h
  rw [hr] at h
  simp only [builtin, Sem.run_bind] at h ⊢
  generalize (Builtin.append_ #[t, t] t #[v, .slice A m c]).run P W = r at h ⊢
  rcases r with ⟨v1, w1⟩ | ⟨hh, w1⟩
  · simp only [Result.andThen_ok, Sem.run_pure] at h ⊢
    obtain ⟨v2, h1, h2, h3, h4, h5⟩ := h
    simp [Act.put] at h1
    subst h1
    exact ⟨v1, w1, rfl, h2, h3, h4, h5⟩
  · exfalso
    cases hh <;> exact h
theorem Box.keep {w0 w w' : World} {b : Nat} {s : St} {vP vU vR : Value} (h : Box w0 b w s vP vU vR) (hb : Below w.heap.size w w') : Box w0 b w' s vP vU vR :=
  ⟨h.le, blk_below h.blk hb, Kd.R_below h.P hb, Kd.R_below h.U hb, Kd.R_below h.R hb, below_then h.below h.below.size hb⟩
theorem infoS : (Try.prog.info? 23).map (fun i => (i.zero, i.size, i.bytes)) = some (some (.slice none 0 0), 1, 24) := by kernel_rfl
theorem R_other {α β : Type} {d : Kd α} {d' : Kd β} {e e' : Nat} {w w1 : World} {base base' : Nat} {ok ok' : Nat → Prop} {v u : Value} {xs : List α} {ys : List β} (h : d.R e w base ok v xs) (hu : d'.R e' w base' ok' u ys) (ht : ∀ q, q ∈ e :: d.E → q ≠ e') (hg : w.grownBy w1 u.ownBlock) : d.R e w1 base ok v xs :=
  Kd.R_over h hu ht hg
/-- append(roots, r), r a fresh row -/
theorem box_append {w0 W0 W : World} {b : Nat} {s : St} {vP vU vR v : Value} {r : List Int} (h : Box w0 b W0 s vP vU vR) (hW : Below W0.heap.size W0 W) (hv : Kd.R kI 3 W W0.heap.size (fun _ => True) v r) (hl : s.rs.length ≤ 1000) :
    ∃ A n c x1, Sem.run Try.prog (builtin .append #[24, 24] 24 #[false, false] #[vR, .slice (some ⟨W.heap.size, 0, none⟩) 1 1]) (W.alloc (.cells #[v] 23)) = .ok (.value (.slice A n c)) x1 ∧ x1.heap[b]? = some (.cells #[vP, vU, vR] 26 (0, 0)) ∧
      Kd.R kP 38 x1 w0.heap.size (fun _ => True) vP s.ps ∧ Kd.R kI 3 x1 w0.heap.size (fun _ => True) vU s.us ∧ Kd.R kR 23 x1 w0.heap.size (fun k => some k ≠ vU.ownBlock) (.slice A n c) (s.rs ++ [r]) ∧ Below w0.heap.size w0 x1 ∧ W0.heap.size ≤ x1.heap.size ∧
      (∀ k, k < W0.heap.size → some k ≠ vR.ownBlock → x1.heap[k]? = W0.heap[k]?) := by
  have hB := h.keep hW
  have hl1 : Below W.heap.size W (W.alloc (.cells #[v] 23)) := below_alloc (Below.refl _ _) _
  have hB1 := hB.keep hl1
  have hv1 := Kd.R_below hv hl1
  obtain ⟨Av, cv, hve, _⟩ := Kd.R_reads hv
  have hnew := heap_alloc_new W (.cells #[v] 23)
  have hUlt := Kd.R_lt h.U
  have hRlt := Kd.R_lt h.R
  have hvb := Kd.R_base hv
  obtain ⟨v1, x1, hrun, hR1, hb1, hg1, hat⟩ := app_rows (P := Try.prog) kR (Rr := fun y cs => kR.M (W.alloc (.cells #[v] 23)) w0.heap.size (fun k => v.ownBlock = some k) y cs) (w0 := w0) w0.heap.size 24 23 (.slice none 0 0) 24 Try.underlying24 infoS rfl (by decide) (by omega)
    vR s.rs [r] (some ⟨W.heap.size, 0, none⟩) 1 1 (fun k => some k ≠ vU.ownBlock) (fun k => v.ownBlock = some k) hB1.R
    ⟨rfl, by omega, fun _ => ⟨_, rfl, fun j p hj => by
      have hj0 : j = 0 := by
        rcases Nat.eq_zero_or_pos j with h | h
        · exact h
        · rw [List.getElem?_eq_none (by simp; omega)] at hj; cases hj
      subst hj0
      simp only [List.getElem?_cons_zero, Option.some.injEq] at hj
      subst hj
      refine ⟨[v], rfl, ⟨v, rfl, ?_⟩, fun i u hu => ?_⟩
      · obtain ⟨_, hrow⟩ := Kd.R_lower hv1 h.below.size
        exact ⟨fun k hk => hk, hrow.imp_ (fun _ _ hp => hp)⟩
      · have hi0 : i = 0 := by
          rcases Nat.eq_zero_or_pos i with h | h
          · exact h
          · rw [List.getElem?_eq_none (by simp; omega)] at hu; cases hu
        subst hi0
        rw [add_plain, blk_cell hnew]
        simpa using hu⟩⟩
    (fun x cs hp => hp) (fun k hk => ⟨fun e => by have h1 := hvb k hk; have h2 := hUlt k e.symm; omega, fun e => by have h1 := hvb k hk; have h2 := hRlt k e.symm; omega⟩)
    (fun k hk e => by have h2 := hUlt k e.symm; have h3 := hW.size; have h4 := hl1.size; omega) hB1.below hB1.below.size (by omega)
  obtain ⟨A, c, hv1e, _⟩ := Kd.R_reads hR1
  subst hv1e
  have hbR : ∀ k, vR.ownBlock = some k → k ≠ b := fun k hk e => by
    subst e
    obtain ⟨cells, hc⟩ := Kd.R_typed hB1.R k hk
    rw [hB1.blk] at hc
    cases hc
  refine ⟨A, _, c, x1, hrun, blk_grown hB1.blk hg1 (fun e => hbR b e.symm rfl), R_other hB1.P hB1.R ?_ hg1, R_other hB1.U hB1.R ?_ hg1, hR1, hb1, Nat.le_trans hW.size (Nat.le_trans hl1.size hg1.size), ?_⟩
  · intro q hq; have h : q ∈ [38] := hq; obtain rfl := List.mem_singleton.1 h; decide
  · intro q hq; have h : q ∈ [3] := hq; obtain rfl := List.mem_singleton.1 h; decide
  · intro k hk hne
    exact (hg1.block k (by have := hW.size; have := hl1.size; omega) hne).trans ((hl1.block k (by have := hW.size; omega)).trans (hW.block k hk))
theorem info24 : (Try.prog.info? 24).map (·.size) = some 1 := by kernel_rfl
theorem run_storeR (w : World) (g : Nat) (u0 u1 u2 : Value) (A : Option Addr) (n c : Nat) (hk : w.heap[g]? = some (.cells #[u0, u1, u2] 26 (0, 0))) : Sem.run Try.prog (Instr.storeAt 24 (.pointer (some ⟨g, 2, none⟩)) (.slice A n c)) w = .ok () (w.setCell ⟨g, 2, none⟩ (.slice A n c)) :=
  run_store_run (P := Try.prog) 24 (.slice A n c) [.slice A n c] hk rfl info24 (by simp) (by
    intro q hq
    obtain rfl := List.mem_singleton.1 hq
    rfl)
theorem run_loadR (w : World) (g : Nat) (u0 u1 : Value) (A : Option Addr) (n c : Nat) (hk : w.heap[g]? = some (.cells #[u0, u1, .slice A n c] 26 (0, 0))) : Sem.run Try.prog (Instr.loadAt 24 (.pointer (some ⟨g, 2, none⟩))) w = .ok (.slice A n c) w := by
  have h := blk_cell hk 2
  simp only [List.getElem?_toArray, List.getElem?_cons_zero, List.getElem?_cons_succ] at h
  go_simp
theorem run_lit24 (w : World) (A : Option Addr) (n c : Nat) : Sem.run Try.prog (Instr.buildSlice 24 1 #[(0, .slice A n c)]) w = .ok (.slice (some ⟨w.heap.size, 0, none⟩) 1 1) (w.alloc (.cells #[.slice A n c] 23)) := by
  go_simp
theorem box_put {w0 x1 : World} {b : Nat} {vP vU vR v1 : Value} {s : St} {rs : List (List Int)} (hle : w0.heap.size ≤ b) (hk : x1.heap[b]? = some (.cells #[vP, vU, vR] 26 (0, 0))) (hP : Kd.R kP 38 x1 w0.heap.size (fun _ => True) vP s.ps) (hU : Kd.R kI 3 x1 w0.heap.size (fun _ => True) vU s.us)
    (hR : Kd.R kR 23 x1 w0.heap.size (fun k => some k ≠ vU.ownBlock) v1 rs) (hb : Below w0.heap.size w0 x1) : Box w0 b (x1.setCell ⟨b, 2, none⟩ v1) ⟨s.ps, s.us, rs⟩ vP vU v1 :=
  ⟨hle, blk_put hk 2 v1 rfl, Kd.R_set hP hk noP 2 v1, Kd.R_set hU hk noI 2 v1, Kd.R_set hR hk noR 2 v1, hb.setCell (p := ⟨b, 2, none⟩) hle v1⟩
end Go.Proofs.Ytblalidpeccabac.Pg
