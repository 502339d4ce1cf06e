/- pages: appends to a store of one's own: pages, uses. pages: a page of a store of one's own, put. -/
import Derived.Test.YtblalidpeccabacPageX
import Derived.Test.YtblalidpeccabacRegionDirty
namespace Go.Proofs.Ytblalidpeccabac.Pg
open Go Go.RowKit Go.Lib Go.Proofs.YtblalidpeccabacW.PrintWords Go.Proofs.YtblalidpeccabacW.PrintLast Go.Proofs.YtblalidpeccabacW.PrintMore Go.Proofs.Ytblalidpeccabac.PPagesBack Go.Proofs.Ytblalidpeccabac.Bs Go.Proofs.Ytblalidpeccabac.RegionVal
set_option linter.unusedVariables false
set_option linter.unusedSimpArgs false

/-- a store of one's own on its way: block b holds xP, xU, vR still -/
structure Core (w0 : World) (b : Nat) (w : World) (s : St) (xP xU vP vU vR : Value) : Prop where mk ::
  le : w0.heap.size ≤ b
  blk : w.heap[b]? = some (.cells #[xP, xU, vR] 26 (0, 0))
  P : Kd.R kP 38 w w0.heap.size (fun _ => True) vP s.ps
  U : Kd.R kI 3 w w0.heap.size (fun _ => True) vU s.us
  R : Kd.R kR 23 w w0.heap.size (fun k => some k ≠ vU.ownBlock) vR s.rs
  below : Below w0.heap.size w0 w
theorem Box.core {w0 w : World} {b : Nat} {s : St} {vP vU vR : Value} (h : Box w0 b w s vP vU vR) : Core w0 b w s vP vU vP vU vR := ⟨h.le, h.blk, h.P, h.U, h.R, h.below⟩
theorem Core.keep {w0 w w' : World} {b : Nat} {s : St} {xP xU vP vU vR : Value} (h : Core w0 b w s xP xU vP vU vR) (hb : Below w.heap.size w w') : Core w0 b w' s xP xU vP vU vR :=
  ⟨h.le, blk_below h.blk hb, Kd.R_below h.P hb, Kd.R_below h.U hb, Kd.R_below h.R hb, below_then h.below h.below.size hb⟩
theorem noP23 : ∀ q, q ∈ 23 :: kR.E → q ≠ 38 := by
  intro q hq
  have h : q ∈ [23, 3] := hq
  have : q = 23 ∨ q = 3 := by simpa using h
  rcases this with rfl | rfl <;> decide
theorem noP3 : ∀ q, q ∈ 3 :: kI.E → q ≠ 38 := by intro q hq; have h : q ∈ [3] := hq; obtain rfl := List.mem_singleton.1 h; decide
theorem noU38 : ∀ q, q ∈ 38 :: kP.E → q ≠ 3 := by intro q hq; have h : q ∈ [38] := hq; obtain rfl := List.mem_singleton.1 h; decide
theorem row_one {α : Type} {R : α → List Value → Prop} {w : World} {g n : Nat} {t : TypeId} {x : α} {cs : List Value} (hk : w.heap[g]? = some (.cells cs.toArray t (0, 0))) (hl : cs.length = n) (hR : R x cs) : ReadsRow R n w (some ⟨g, 0, none⟩) 1 [x] :=
  ⟨rfl, by omega, fun _ => ⟨_, rfl, fun j p hj => by
    have hj0 : j = 0 := by
      rcases Nat.eq_zero_or_pos j with h | h
      · exact h
      · rw [List.getElem?_eq_none (by simp; omega)] at hj; cases hj
    subst hj0
    simp only [List.getElem?_cons_zero, Option.some.injEq] at hj
    subst hj
    refine ⟨cs, hl, hR, fun i u hu => ?_⟩
    rw [Nat.zero_mul, Nat.zero_add, add_plain, blk_cell hk]
    simpa using hu⟩⟩
/-- append(pages, p) -/
theorem core_appendP {w0 w : World} {b g : Nat} {s : St} {xP xU vP vU vR : Value} {p0 p1 p2 p3 : Int} (h : Core w0 b w s xP xU vP vU vR) (hg : w.heap[g]? = some (.cells #[.int .i64 p0, .int .i64 p1, .int .i64 p2, .int .i64 p3] 38 (0, 0))) (hl : s.ps.length ≤ 1000) :
    ∃ A c x1, Sem.run Try.prog (builtin .append #[22, 22] 22 #[false, false] #[vP, .slice (some ⟨g, 0, none⟩) 1 1]) w = .ok (.value (.slice A (s.ps.length + 1) c)) x1 ∧ Core w0 b x1 ⟨s.ps ++ [[p0, p1, p2, p3]], s.us, s.rs⟩ xP xU (.slice A (s.ps.length + 1) c) vU vR ∧ w.heap.size ≤ x1.heap.size ∧
      (∀ (k : Nat) (cells : Array Value) (t : TypeId), w.heap[k]? = some (.cells cells t (0, 0)) → t ≠ 38 → x1.heap[k]? = w.heap[k]?) ∧ (∀ k : Nat, k < w.heap.size → some k ≠ vP.ownBlock → x1.heap[k]? = w.heap[k]?) ∧ (∀ k : Nat, k < w.heap.size → some k ≠ vP.ownBlock → some k ≠ (Value.slice A (s.ps.length + 1) c).ownBlock) := by
  obtain ⟨v1, x1, hrun, hR1, hb1, hg1, hat⟩ := app_rows (P := Try.prog) kP (Rr := fun y cs => kP.M w w0.heap.size (fun _ => False) y cs) (w0 := w0) w0.heap.size 22 38 (.agg #[.int .i64 0, .int .i64 0, .int .i64 0, .int .i64 0]) 32 Try.underlying22 info38 rfl (by decide) (by omega)
    vP s.ps [[p0, p1, p2, p3]] (some ⟨g, 0, none⟩) 1 1 (fun _ => True) (fun _ => False) h.P (row_one (cs := encs (Value.int .i64) [p0, p1, p2, p3]) hg rfl (Kd.arr_of_cells rfl)) (fun _ _ hp => hp) (fun _ hk => hk.elim) (fun _ _ => trivial) h.below h.below.size (by omega)
  obtain ⟨A, c, hv1e, _⟩ := Kd.R_reads hR1
  subst hv1e
  rw [List.length_append] at hrun hR1 hat
  have hty : ∀ (k : Nat) (cells : Array Value) (t : TypeId), w.heap[k]? = some (.cells cells t (0, 0)) → t ≠ 38 → x1.heap[k]? = w.heap[k]? := fun k cells t hk ht => hg1.block k (blk_lt hk) (fun e => by
    obtain ⟨cells', hc⟩ := Kd.R_typed h.P k e.symm
    rw [hk] at hc
    cases hc
    exact ht rfl)
  exact ⟨A, c, x1, hrun, ⟨h.le, (hty b _ 26 h.blk (by decide)).trans h.blk, hR1, Kd.R_over h.U h.P noP3 hg1, Kd.R_over h.R h.P noP23 hg1, hb1⟩, hg1.size, hty, fun k hk hne => hg1.block k hk hne, fun k hk hne e => by
    rcases hat with ha | ⟨q, ha, hq⟩
    · exact hne (e.trans ha)
    · have h2 := e.trans ha
      have h3 : k = q := by simpa using h2
      omega⟩
/-- append(uses, 0) -/
theorem core_appendU {w0 w : World} {b g : Nat} {s : St} {xP xU vP vU vR : Value} {n : Int} (h : Core w0 b w s xP xU vP vU vR) (hg : w.heap[g]? = some (.cells #[.int .i64 n] 3 (0, 0))) (hl : s.us.length ≤ 1000) :
    ∃ A c x1, Sem.run Try.prog (builtin .append #[23, 23] 23 #[false, false] #[vU, .slice (some ⟨g, 0, none⟩) 1 1]) w = .ok (.value (.slice A (s.us.length + 1) c)) x1 ∧ Core w0 b x1 ⟨s.ps, s.us ++ [n], s.rs⟩ xP xU vP (.slice A (s.us.length + 1) c) vR ∧ w.heap.size ≤ x1.heap.size ∧
      (∀ k : Nat, k < w.heap.size → some k ≠ vU.ownBlock → x1.heap[k]? = w.heap[k]?) ∧ ((Value.slice A (s.us.length + 1) c).ownBlock = vU.ownBlock ∨ ∃ q, (Value.slice A (s.us.length + 1) c).ownBlock = some q ∧ w.heap.size ≤ q) := by
  obtain ⟨v1, x1, hrun, hR1, hb1, hg1, hat⟩ := app_rows (P := Try.prog) kI (Rr := fun y cs => kI.M w w0.heap.size (fun _ => False) y cs) (w0 := w0) w0.heap.size 23 3 (.int .i64 0) 8 Try.underlying23 infoInt rfl (by decide) (by omega)
    vU s.us [n] (some ⟨g, 0, none⟩) 1 1 (fun _ => True) (fun _ => False) h.U (row_one (cs := [.int .i64 n]) hg rfl rfl) (fun _ _ hp => hp) (fun _ hk => hk.elim) (fun _ _ => trivial) h.below h.below.size (by omega)
  obtain ⟨A, c, hv1e, _⟩ := Kd.R_reads hR1
  subst hv1e
  rw [List.length_append] at hrun hR1 hat
  have hne : ∀ k, k < w.heap.size → some k ≠ vU.ownBlock → x1.heap[k]? = w.heap[k]? := fun k hk hn => hg1.block k hk hn
  have hbU : some b ≠ vU.ownBlock := fun e => by
    obtain ⟨cells', hc⟩ := Kd.R_typed h.U b e.symm
    rw [h.blk] at hc
    cases hc
  refine ⟨A, c, x1, hrun, ⟨h.le, (hne b (blk_lt h.blk) hbU).trans h.blk, Kd.R_over h.P h.U noU38 hg1, hR1, ?_, hb1⟩, hg1.size, hne, hat⟩
  refine Kd.R_mono (Kd.R_move (Kd.R_bound h.R) (fun k hk => hne k hk.2.2.1 hk.1)) (fun k hk e => ?_)
  rcases hat with ha | ⟨q, ha, hq⟩
  · exact hk.1 (e.trans ha)
  · have : k = q := by
      have h2 := e.trans ha
      simpa using h2
    have := hk.2.2.1
    omega
end Go.Proofs.Ytblalidpeccabac.Pg
namespace Go.Proofs.Ytblalidpeccabac.Pg
open Go Go.RowKit Go.Lib Go.Proofs.YtblalidpeccabacW.PrintWords Go.Proofs.YtblalidpeccabacW.PrintLast Go.Proofs.YtblalidpeccabacW.PrintMore Go.Proofs.Ytblalidpeccabac.PPagesBack Go.Proofs.Ytblalidpeccabac.Bs Go.Proofs.Ytblalidpeccabac.RegionVal
set_option linter.unusedVariables false
set_option linter.unusedSimpArgs false

theorem box_page {w0 w : World} {b : Nat} {s : St} {vP vU vR : Value} (h : Box w0 b w s vP vU vR) (k : Nat) (hk : k < s.ps.length) (p0 p1 p2 p3 : Int) :
    ∃ g c w', vP = .slice (some ⟨g, 0, none⟩) s.ps.length c ∧ Sem.run Try.prog (Instr.storeAt 38 (.pointer (some ⟨g, k * 4, none⟩)) (.agg #[.int .i64 p0, .int .i64 p1, .int .i64 p2, .int .i64 p3])) w = .ok () w' ∧
      Box w0 b w' ⟨s.ps.set k [p0, p1, p2, p3], s.us, s.rs⟩ vP vU vR ∧ w.grownBy w' (some g) := by
  obtain ⟨g, c, rfl, hg, hlt, cells, hcells⟩ := Kd.R_form h.P (by omega)
  have hC := (Kd.R_reads' h.P).2.2
  obtain ⟨ad, q0, q1, q2, q3, had, hq, e0, e1, e2, e3⟩ := at_P hC k hk
  obtain rfl := Option.some.inj had
  have hcc : ∀ (j : Nat) (u : Value), (encs (Value.int .i64) [q0, q1, q2, q3])[j]? = some u → w.cell? ⟨g, (k : Int).toNat * 4 + j, none⟩ = some u := by
    intro j u hu
    have hj : j < 4 := by
      rcases Nat.lt_or_ge j 4 with h | h
      · exact h
      · rw [List.getElem?_eq_none (by simpa [encs] using h)] at hu; cases hu
    have h4 : j = 0 ∨ j = 1 ∨ j = 2 ∨ j = 3 := by omega
    rw [Int.toNat_natCast]
    rw [add_plain] at e0 e1 e2 e3
    simp only [Nat.zero_add] at e0 e1 e2 e3
    rcases h4 with rfl | rfl | rfl | rfl <;> (simp only [encs, List.map_cons, List.map_nil, List.getElem?_cons_zero, List.getElem?_cons_succ, Option.some.injEq] at hu; subst hu)
    · simpa using e0
    · exact e1
    · exact e2
    · exact e3
  obtain ⟨hR, hgr⟩ := Kd.R_seg (d := kP) h.P (k : Int) (by omega) (by omega) (c := encs (Value.int .i64) [q0, q1, q2, q3]) (j := 0) (seg := encs (Value.int .i64) [p0, p1, p2, p3]) (x' := [p0, p1, p2, p3]) (okp := fun _ => False) rfl (fun j u hu => hcc j u hu) (Nat.le_refl 4) (by
    rw [List.take_zero, List.nil_append, List.drop_eq_nil_of_le (by simp [encs]), List.append_nil]
    exact Kd.arr_of_cells rfl) (fun _ hk => hk.elim)
  obtain ⟨inner, hown⟩ := Kd.R_own h.P
  rcases hown.2 with ⟨hv, _⟩ | ⟨g', cap', cur, hv, hb, hh, hnc, hcm, hcs, _⟩
  · cases hv
  injection hv with ha _ hc
  injection ha with ha
  injection ha with hg'
  subst hg'; subst hc
  have hrun := run_store_run (P := Try.prog) 38 (.agg #[.int .i64 p0, .int .i64 p1, .int .i64 p2, .int .i64 p3]) [.int .i64 p0, .int .i64 p1, .int .i64 p2, .int .i64 p3] (o := k * 4) hh rfl (by kernel_rfl) (by
    rw [hcs]
    show k * 4 + 4 ≤ c * 4
    omega) (by
    intro q hq
    simp only [List.mem_cons, List.not_mem_nil, or_false] at hq
    rcases hq with rfl | rfl | rfl | rfl <;> rfl)
  have hgr' : w.grownBy (w.setCells g (k * 4) [.int .i64 p0, .int .i64 p1, .int .i64 p2, .int .i64 p3]) (some g) := hgr
  have hR' : Kd.R kP 38 (w.setCells g (k * 4) [.int .i64 p0, .int .i64 p1, .int .i64 p2, .int .i64 p3]) w0.heap.size (fun _ => True) (.slice (some ⟨g, 0, none⟩) s.ps.length c) (s.ps.set k [p0, p1, p2, p3]) := hR
  have hgb : some b ≠ some g := fun e => by
    have e2 : b = g := by simpa using e
    subst e2
    rw [h.blk] at hh
    cases hh
  have hown' : (Value.slice (some ⟨g, 0, none⟩) s.ps.length c).ownBlock = some g := rfl
  refine ⟨g, c, _, rfl, hrun, ⟨h.le, blk_grown h.blk hgr' hgb, hR', ?_, ?_, ?_⟩, hgr'⟩
  · exact Kd.R_over h.U h.P noP3 (by rw [hown']; exact hgr')
  · exact Kd.R_over h.R h.P noP23 (by rw [hown']; exact hgr')
  · exact h.below.grown hgr' h.below.size (fun k hk => by cases hk; exact hb)
end Go.Proofs.Ytblalidpeccabac.Pg
