/- pages.fresh: its walk. -/
import Derived.Test.YtblalidpeccabacPageL
import Derived.Test.YtblalidpeccabacPageI
namespace Go.Proofs.Ytblalidpeccabac.Pg
open Go Go.RowKit Go.Lib Go.Proofs.YtblalidpeccabacW.PrintWords Go.Proofs.YtblalidpeccabacW.PrintLast Go.Proofs.YtblalidpeccabacW.PrintMore Go.Proofs.Ytblalidpeccabac.PPagesBack Go.Proofs.Ytblalidpeccabac.Bs Go.Proofs.Ytblalidpeccabac.RegionVal
set_option linter.unusedVariables false
set_option linter.unusedSimpArgs false

section
attribute [local go_sem high] eqA38
theorem eql38 (p0 p1 p2 p3 : Int) (w : World) : (binOp .eql 38 (.agg #[.int .i64 p0, .int .i64 p1, .int .i64 p2, .int .i64 p3]) (.agg #[.int .i64 0, .int .i64 0, .int .i64 0, .int .i64 0])).run Try.prog w = .ok (.bool (decide ([p0, p1, p2, p3] = [0, 0, 0, 0]))) w := by
  rw [show decide ([p0, p1, p2, p3] = [0, 0, 0, 0]) = (p0 == 0 && (p1 == 0 && (p2 == 0 && (p3 == 0 && true)))) by rw [Bool.eq_iff_iff]; simp]
  go_simp
end
def freshF (s : St) (p : List Int) : St × Int :=
  if p = [0, 0, 0, 0] then (s, -1)
  else if idxF s.us 0 < 0 then (⟨s.ps ++ [p], s.us ++ [0], s.rs⟩, (s.ps.length : Int))
  else (⟨s.ps.set (idxF s.us 0).toNat p, s.us, s.rs⟩, idxF s.us 0)
theorem se_asE {P : Program} {L : List Oper} {S : World → Prop} {a0 : Act} {K : List (Nat × Value) → World → Prop} {env : List (Nat × Value)} {rest : List (Nat × Bool)} {i : Nat} {w : World} (hS : S w) (h : SeqE P L S a0 K ((i, false) :: rest) env w) : SeqE P L S a0 K ((i, true) :: rest) env w := by
  obtain ⟨o, ho, v, hy, h⟩ := h
  rcases hy with ⟨hw, hr⟩ | ⟨hw, rfl⟩
  · refine ⟨o, ho, .inl ⟨hw, ?_⟩⟩
    rw [hr w hS]
    exact ⟨hS, h⟩
  · exact ⟨o, ho, .inr ⟨hw, h⟩⟩
theorem idx_lt {l : List Int} {x : Int} (h : ¬ idxF l x < 0) : ∃ k : Nat, idxF l x = (k : Int) ∧ k < l.length := by
  unfold idxF at *
  cases hf : l.findIdx? (fun y => decide (x = y)) with
  | none => rw [hf] at h; exact absurd (by decide) h
  | some k => exact ⟨k, rfl, (List.findIdx?_eq_some_iff_getElem.1 hf).1⟩

theorem run_lit22 (w : World) (p0 p1 p2 p3 : Int) : Sem.run Try.prog (Instr.buildSlice 22 1 #[(0, .agg #[.int .i64 p0, .int .i64 p1, .int .i64 p2, .int .i64 p3])]) w = .ok (.slice (some ⟨w.heap.size, 0, none⟩) 1 1) (w.alloc (.cells #[.int .i64 p0, .int .i64 p1, .int .i64 p2, .int .i64 p3] 38)) := by
  go_simp
theorem run_lit23 (w : World) (n : Int) : Sem.run Try.prog (Instr.buildSlice 23 1 #[(0, .int .i64 n)]) w = .ok (.slice (some ⟨w.heap.size, 0, none⟩) 1 1) (w.alloc (.cells #[.int .i64 n] 3)) := by
  go_simp
theorem info22 : (Try.prog.info? 22).map (·.size) = some 1 := by kernel_rfl
theorem info23 : (Try.prog.info? 23).map (·.size) = some 1 := by kernel_rfl
theorem run_storeP (w : World) (g : Nat) (u0 u1 u2 : Value) (A : Option Addr) (n c : Nat) (hk : w.heap[g]? = some (.cells #[u0, u1, u2] 26 (0, 0))) : Sem.run Try.prog (Instr.storeAt 22 (.pointer (some ⟨g, 0, none⟩)) (.slice A n c)) w = .ok () (w.setCell ⟨g, 0, none⟩ (.slice A n c)) :=
  run_store_run (P := Try.prog) 22 (.slice A n c) [.slice A n c] hk rfl info22 (by simp) (by intro q hq; obtain rfl := List.mem_singleton.1 hq; rfl)
theorem run_storeU (w : World) (g : Nat) (u0 u1 u2 : Value) (A : Option Addr) (n c : Nat) (hk : w.heap[g]? = some (.cells #[u0, u1, u2] 26 (0, 0))) : Sem.run Try.prog (Instr.storeAt 23 (.pointer (some ⟨g, 1, none⟩)) (.slice A n c)) w = .ok () (w.setCell ⟨g, 1, none⟩ (.slice A n c)) :=
  run_store_run (P := Try.prog) 23 (.slice A n c) [.slice A n c] hk rfl info23 (by simp) (by intro q hq; obtain rfl := List.mem_singleton.1 hq; rfl)
/-- both fields put -/
theorem core_put {w0 w : World} {b : Nat} {s : St} {xP xU vP vU vR : Value} (h : Core w0 b w s xP xU vP vU vR) : Box w0 b ((w.setCell ⟨b, 0, none⟩ vP).setCell ⟨b, 1, none⟩ vU) s vP vU vR :=
  have k1 := blk_put h.blk 0 vP (cs' := #[vP, xU, vR]) rfl
  ⟨h.le, blk_put k1 1 vU rfl, Kd.R_set (Kd.R_set h.P h.blk noP 0 vP) k1 noP 1 vU, Kd.R_set (Kd.R_set h.U h.blk noI 0 vP) k1 noI 1 vU, Kd.R_set (Kd.R_set h.R h.blk noR 0 vP) k1 noR 1 vU,
    (h.below.setCell (p := ⟨b, 0, none⟩) h.le vP).setCell (p := ⟨b, 1, none⟩) h.le vU⟩

/-- blocks that are no pages, no stores, and not the uses, are kept, and are not the uses -/
def Kept (w w' : World) (vU vU' : Value) : Prop := ∀ (k : Nat) (cells : Array Value) (t : Nat), w.heap[k]? = some (.cells cells t (0, 0)) → t ≠ 38 → t ≠ 26 → some k ≠ vU.ownBlock → w'.heap[k]? = w.heap[k]? ∧ some k ≠ vU'.ownBlock
theorem Kept.trans {a b c : World} {u v x : Value} (h : Kept a b u v) (k : Kept b c v x) : Kept a c u x := fun i cells t hi ht ht2 hn =>
  have h1 := h i cells t hi ht ht2 hn
  have h2 := k i cells t (h1.1.trans hi) ht ht2 h1.2
  ⟨h2.1.trans h1.1, h2.2⟩
theorem Kept.of_below {w w' : World} {v : Value} (h : Below w.heap.size w w') : Kept w w' v v := fun k cells t hk _ _ hn => ⟨h.block k (blk_lt hk), hn⟩
theorem Kept.of_ty {w w' : World} {v : Value} (hty : ∀ (k : Nat) (cells : Array Value) (t : TypeId), w.heap[k]? = some (.cells cells t (0, 0)) → t ≠ 38 → w'.heap[k]? = w.heap[k]?) : Kept w w' v v := fun k cells t hk ht _ hn => ⟨hty k cells t hk ht, hn⟩
theorem Kept.of_app {w w' : World} {v v' : Value} (hnu : ∀ k : Nat, k < w.heap.size → some k ≠ v.ownBlock → w'.heap[k]? = w.heap[k]?) (hat : v'.ownBlock = v.ownBlock ∨ ∃ q, v'.ownBlock = some q ∧ w.heap.size ≤ q) : Kept w w' v v' := fun k cells t hk _ _ hn =>
  ⟨hnu k (blk_lt hk) hn, fun e => by
    rcases hat with h | ⟨q, h, hq⟩
    · exact hn (e.trans h)
    · have h2 := e.trans h
      have h3 : k = q := by simpa using h2
      have := blk_lt hk
      omega⟩
theorem Kept.of_set {w : World} {v u : Value} {b j : Nat} {cs : Array Value} (hb : w.heap[b]? = some (.cells cs 26 (0, 0))) : Kept w (w.setCell ⟨b, j, none⟩ u) v v := fun k cells t hk _ ht hn =>
  ⟨Below.heap_setCell w ⟨b, j, none⟩ u k (fun e => by
    have e2 : k = b := e
    subst e2
    rw [hk] at hb
    cases hb
    exact ht rfl), hn⟩

set_option maxHeartbeats 8000000 in
set_option maxRecDepth 100000 in
theorem fresh_calls (w0 w : World) (b : Nat) (s : St) (vP vU vR : Value) (p0 p1 p2 p3 : Int) (h : Box w0 b w s vP vU vR) (hlen : s.us.length = s.ps.length) (hl : s.ps.length ≤ 400) :
    Calls Try.prog 29 #[.pointer (some ⟨b, 0, none⟩), .agg #[.int .i64 p0, .int .i64 p1, .int .i64 p2, .int .i64 p3]] w fun e w' => ∃ vP' vU', e = .returned (.int .i64 (freshF s [p0, p1, p2, p3]).2) ∧ Box w0 b w' (freshF s [p0, p1, p2, p3]).1 vP' vU' vR ∧
      Kept w w' vU vU' ∧ w.heap.size ≤ w'.heap.size := by
  have HB := Aside0.mk h
  have HLEN := Aside0.mk hlen
  have n1 := heap_alloc_new w (.cells #[.int .i64 p0, .int .i64 p1, .int .i64 p2, .int .i64 p3] 38)
  obtain ⟨q, hq⟩ : ∃ q, q = w.heap.size := ⟨_, rfl⟩
  obtain ⟨W1, hW1⟩ : ∃ W1, W1 = w.alloc (.cells #[.int .i64 p0, .int .i64 p1, .int .i64 p2, .int .i64 p3] 38) := ⟨_, rfl⟩
  have hb1 : Below w.heap.size w W1 := by rw [hW1]; exact below_alloc (Below.refl _ _) _
  rw [← hW1, ← hq] at n1
  have HQ1 := Aside0.mk n1
  have HB1 := Aside0.mk hb1
  have HX1 := Aside0.mk (h.keep hb1)
  have HWW := Aside0.mk hW1
  have HQQ := Aside0.mk hq
  have z0 := blk_cell n1 0
  have z1 := blk_cell n1 1
  have z2 := blk_cell n1 2
  have z3 := blk_cell n1 3
  simp only [List.getElem?_toArray, List.getElem?_cons_zero, List.getElem?_cons_succ] at z0 z1 z2 z3
  obtain ⟨BU, bU, rfl, hbU, hCU⟩ := Kd.R_reads h.U
  obtain ⟨AP, aP, rfl, _⟩ := Kd.R_reads h.P
  have hblk := HX1.out.blk
  have f0 := blk_cell hblk 0
  have f1 := blk_cell hblk 1
  simp only [List.getElem?_toArray, List.getElem?_cons_zero, List.getElem?_cons_succ] at f0 f1
  have HQP := Aside0.mk (show some q ≠ (Value.slice AP s.ps.length aP).ownBlock from fun e => by have := Kd.R_lt h.P q e.symm; omega)
  have HQU := Aside0.mk (show some q ≠ (Value.slice BU s.us.length bU).ownBlock from fun e => by have := Kd.R_lt h.U q e.symm; omega)
  have HQB := Aside0.mk (show q ≠ b from fun e => by have := blk_lt h.blk; omega)
  have HKE := Aside0.mk (Kept.of_below (v := .slice BU s.us.length bU) hb1)
  have hul : s.us.length ≤ 1000 := by omega
  clear hW1 n1 hq h hblk hb1 hlen
  by_cases hz : [p0, p1, p2, p3] = [0, 0, 0, 0]
  · have hql : ∀ w : World, (binOp .eql 38 (.agg #[.int .i64 p0, .int .i64 p1, .int .i64 p2, .int .i64 p3]) (.agg #[.int .i64 0, .int .i64 0, .int .i64 0, .int .i64 0])).run Try.prog w = .ok (.bool true) w := fun w => by rw [eql38, decide_eq_true hz]
    have HE := Aside0.mk (show freshF s [p0, p1, p2, p3] = (s, -1) by unfold freshF; rw [if_pos hz])
    clear hz
    go_enter Try.func29, Try.ntmps29
    go_upto_region 1 with (fail)
    rw [← HWW.out, ← HQQ.out]
    go_wp2
    go_ret
    refine ⟨_, _, by rw [HE.out]; rfl, by rw [HE.out]; exact HX1.out, HKE.out, HB1.out.size⟩
  · have hql : ∀ w : World, (binOp .eql 38 (.agg #[.int .i64 p0, .int .i64 p1, .int .i64 p2, .int .i64 p3]) (.agg #[.int .i64 0, .int .i64 0, .int .i64 0, .int .i64 0])).run Try.prog w = .ok (.bool false) w := fun w => by rw [eql38, decide_eq_false hz]
    have HE0 := Aside0.mk (show freshF s [p0, p1, p2, p3] = if idxF s.us 0 < 0 then (⟨s.ps ++ [[p0, p1, p2, p3]], s.us ++ [0], s.rs⟩, (s.ps.length : Int)) else (⟨s.ps.set (idxF s.us 0).toNat [p0, p1, p2, p3], s.us, s.rs⟩, idxF s.us 0) by unfold freshF; rw [if_neg hz])
    have HIX := Aside0.mk (index_calls W1 BU bU s.us 0 (Kd.C_below hCU HB1.out) hbU hul)
    clear hz hCU
    go_enter Try.func29, Try.ntmps29
    go_upto_region 1 with (fail)
    rw [← HWW.out, ← HQQ.out]
    go_wp2_with fail
    refine HIX.out.mono ?_
    rintro e w2 ⟨rfl, hb⟩
    have HB2 := Aside0.mk hb
    have HX2 := Aside0.mk (HX1.out.keep hb)
    have HQ2 := Aside0.mk (blk_below HQ1.out hb)
    clear z0 z1 z2 z3 f0 f1 hql HIX hb
    by_cases hneg : idxF s.us 0 < 0
    · have HE := Aside0.mk (show freshF s [p0, p1, p2, p3] = (⟨s.ps ++ [[p0, p1, p2, p3]], s.us ++ [0], s.rs⟩, (s.ps.length : Int)) by rw [HE0.out, if_pos hneg])
      generalize idxF s.us 0 = ix at hneg HE0 ⊢
      have f0 := blk_cell HX2.out.blk 0
      have f1 := blk_cell HX2.out.blk 1
      simp only [List.getElem?_toArray, List.getElem?_cons_zero, List.getElem?_cons_succ] at f0 f1
      go_wp2_with fail
      refine wp_dirty [17, 20] (fun w' => w'.heap[b]? = some (.cells #[.slice AP s.ps.length aP, .slice BU s.us.length bU, vR] 26 (0, 0)) ∧ w'.heap[q]? = some (.cells #[.int .i64 p0, .int .i64 p1, .int .i64 p2, .int .i64 p3] 38 (0, 0))) (fun _ => True) (fun _ _ => trivial)
        (fun a0 F w' => ∃ (g1 g2 : Nat) (A2 : Option Addr) (c2 : Nat) (B2 : Option Addr) (d2 : Nat), puts a0 F = puts a0 [(39, .pointer (some ⟨b, 1, none⟩)), (38, .pointer (some ⟨b, 0, none⟩)), (37, .pointer (some ⟨b, 0, none⟩)), (36, .pointer (some ⟨b, 0, none⟩)), (35, .slice B2 (s.us.length + 1) d2), (34, .slice (some ⟨g2, 0, none⟩) 1 1), (29, .slice A2 (s.ps.length + 1) c2), (28, .slice (some ⟨g1, 0, none⟩) 1 1),
            (33, .slice BU s.us.length bU), (32, .pointer (some ⟨b, 1, none⟩)), (31, .pointer (some ⟨b, 0, none⟩)), (30, .pointer (some ⟨b, 0, none⟩)), (27, .agg #[.int .i64 p0, .int .i64 p1, .int .i64 p2, .int .i64 p3]), (26, .slice AP s.ps.length aP), (25, .pointer (some ⟨b, 0, none⟩)), (24, .pointer (some ⟨b, 0, none⟩)), (23, .pointer (some ⟨b, 0, none⟩)), (22, .pointer (some ⟨b, 0, none⟩)), (21, .pointer (some ⟨b, 0, none⟩))] ∧
          Box w0 b w' ⟨s.ps ++ [[p0, p1, p2, p3]], s.us ++ [0], s.rs⟩ (.slice A2 (s.ps.length + 1) c2) (.slice B2 (s.us.length + 1) d2) vR ∧ w'.heap[q]? = some (.cells #[.int .i64 p0, .int .i64 p1, .int .i64 p2, .int .i64 p3] 38 (0, 0)) ∧ w2.heap.size ≤ w'.heap.size ∧ Kept w2 w' (.slice BU s.us.length bU) (.slice B2 (s.us.length + 1) d2) ∧ some q ≠ (Value.slice A2 (s.ps.length + 1) c2).ownBlock)
        (.fork [(0, false), (1, false), (2, false), (3, false), (4, false), (5, false), (6, false), (9, false), (10, false), (11, false), (12, false)] 7
          (.fork [] 8 (.leaf [(13, true), (14, true), (15, true), (16, true)] [(17, true), (18, false), (19, false), (20, true)]) 13 (.leaf [(8, true), (14, true), (15, true), (16, true)] [(17, true), (18, false), (19, false), (20, true)])) 13
          (.leaf [(7, true), (8, true), (14, true), (15, true), (16, true)] [(17, true), (18, false), (19, false), (20, true)]))
        (by kernel_rfl) (by kernel_rfl) ⟨blk_below HX2.out.blk (below_drew1 (Below.refl _ _)), blk_below HQ2.out (below_drew1 (Below.refl _ _))⟩ (fun _ _ d _ _ h => by cases d <;> exact h) ?_ ?_
      · rintro F w4 ⟨g1, g2, A2, c2, B2, d2, hputs, hbx, hq4, hs4, hkp, hqA⟩
        rw [hputs]
        have hB4 := hbx.keep (below_drew1 (Below.refl w4.heap.size w4))
        have hq5 := blk_below hq4 (below_drew1 (Below.refl w4.heap.size w4))
        have hk5 := hkp.trans (Kept.of_below (below_drew1 (Below.refl w4.heap.size w4)))
        have hlk : s.ps.length < (s.ps ++ [[p0, p1, p2, p3]]).length := by simp
        obtain ⟨g, cg, w5, hvp, hrun, hB5, hgr⟩ := box_page hB4 s.ps.length hlk p0 p1 p2 p3
        injection hvp with ha hb hc
        subst ha; subst hc
        clear hputs hkp hb
        simp only [puts, Act.put, List.setIfInBounds_toArray, List.set_cons_zero, List.set_cons_succ]
        go_wp2_with fail
        have hgq : some q ≠ some g := hqA
        have hlt1 : (s.ps.length : Int) < ((s.ps.length + 1 : Nat) : Int) := by omega
        refine wp_eff (S := fun w' => w'.heap[b]? = some (.cells #[.slice (some ⟨g, 0, none⟩) (s.ps.length + 1) c2, .slice B2 (s.us.length + 1) d2, vR] 26 (0, 0)) ∧ w'.heap[q]? = some (.cells #[.int .i64 p0, .int .i64 p1, .int .i64 p2, .int .i64 p3] 38 (0, 0))) [(0, false), (1, false), (2, false), (3, false), (4, false), (5, false), (6, false), (7, true)] (by kernel_rfl) (by kernel_rfl) ⟨hB4.blk, hq5⟩ (fun _ _ d _ _ h => by cases d <;> exact h) ?_
        refine se_move rfl rfl rfl ?_
        refine se_un rfl rfl rfl rfl rfl (fun w' hw => by go_simp; with_reducible rfl) ?_
        refine se_un rfl rfl rfl rfl rfl (fun w' hw => by go_simp; with_reducible rfl) ?_
        refine se_un rfl rfl rfl rfl rfl (fun w' hw => by have x := blk_cell hw.1 0; simp only [List.getElem?_toArray, List.getElem?_cons_zero, List.getElem?_cons_succ] at x; go_simp; with_reducible rfl) ?_
        refine se_move rfl rfl rfl ?_
        refine se_un rfl rfl rfl rfl rfl (fun w' hw => by have k0 := blk_cell hw.2 0; have k1 := blk_cell hw.2 1; have k2 := blk_cell hw.2 2; have k3 := blk_cell hw.2 3; simp only [List.getElem?_toArray, List.getElem?_cons_zero, List.getElem?_cons_succ] at k0 k1 k2 k3; go_simp; with_reducible rfl) ?_
        refine se_indexAddr (v := .pointer (some ⟨g, s.ps.length * 4, none⟩)) rfl rfl rfl rfl (fun w' hw => by go_simp; intro h; exact absurd h (by omega)) ?_
        refine se_store rfl rfl rfl rfl hrun ⟨hB5.blk, blk_grown hq5 hgr hgq⟩ ?_
        intro _
        have hset : (s.ps ++ [[p0, p1, p2, p3]]).set s.ps.length [p0, p1, p2, p3] = s.ps ++ [[p0, p1, p2, p3]] := by simp
        have hB6 : Box w0 b w5 ⟨s.ps ++ [[p0, p1, p2, p3]], s.us ++ [0], s.rs⟩ (.slice (some ⟨g, 0, none⟩) (s.ps.length + 1) c2) (.slice B2 (s.us.length + 1) d2) vR := by
          have := hB5
          rwa [hset] at this
        have hk6 : Kept w4.drew w5 (.slice B2 (s.us.length + 1) d2) (.slice B2 (s.us.length + 1) d2) := fun k cells t hk ht _ hn => ⟨hgr.block k (blk_lt hk) (fun e => by
          obtain ⟨cc, hcc⟩ := Kd.R_typed hB4.P g rfl
          have e2 : k = g := by simpa using e
          subst e2
          rw [hk] at hcc
          cases hcc
          exact ht rfl), hn⟩
        have HB6 := Aside0.mk hB6
        have HK6 := Aside0.mk (((Kept.of_below HB1.out).trans ((Kept.of_below HB2.out).trans (hk5.trans hk6))))
        have HS6 := Aside0.mk (show w.heap.size ≤ w5.heap.size from Nat.le_trans HB1.out.size (Nat.le_trans HB2.out.size (Nat.le_trans hs4 (Nat.le_trans (below_drew1 (Below.refl w4.heap.size w4)).size hgr.size))))
        clear hB4 hB5 hB6 hk5 hk6 hrun hgr hq4 hq5 hbx hqA hgq hset hs4
        simp only [puts, Act.put, List.setIfInBounds_toArray, List.set_cons_zero, List.set_cons_succ]
        go_wp2
        go_ret
        exact ⟨_, _, by rw [HE.out]; rfl, by rw [HE.out]; exact HB6.out, HK6.out, HS6.out⟩
      · refine se_move rfl rfl rfl ?_
        refine se_move rfl rfl rfl ?_
        refine se_move rfl rfl rfl ?_
        refine se_un rfl rfl rfl rfl rfl (fun w' hw => by go_simp; with_reducible rfl) ?_
        refine se_un rfl rfl rfl rfl rfl (fun w' hw => by go_simp; with_reducible rfl) ?_
        refine se_un rfl rfl rfl rfl rfl (fun w' hw => by have x := blk_cell hw.1 0; simp only [List.getElem?_toArray, List.getElem?_cons_zero, List.getElem?_cons_succ] at x; go_simp; with_reducible rfl) ?_
        refine se_un rfl rfl rfl rfl rfl (fun w' hw => by have k0 := blk_cell hw.2 0; have k1 := blk_cell hw.2 1; have k2 := blk_cell hw.2 2; have k3 := blk_cell hw.2 3; simp only [List.getElem?_toArray, List.getElem?_cons_zero, List.getElem?_cons_succ] at k0 k1 k2 k3; go_simp; with_reducible rfl) ?_
        refine se_move rfl rfl rfl ?_
        refine se_un rfl rfl rfl rfl rfl (fun w' hw => by go_simp; with_reducible rfl) ?_
        refine se_un rfl rfl rfl rfl rfl (fun w' hw => by go_simp; with_reducible rfl) ?_
        refine se_un rfl rfl rfl rfl rfl (fun w' hw => by have x := blk_cell hw.1 1; simp only [List.getElem?_toArray, List.getElem?_cons_zero, List.getElem?_cons_succ] at x; go_simp; with_reducible rfl) ?_
        have hC0 := HX2.out.core.keep (below_drew1 (Below.refl w2.heap.size w2))
        have hq0 := blk_below HQ2.out (below_drew1 (Below.refl w2.heap.size w2))
        have hs0 : w2.heap.size ≤ w2.drew.heap.size := (below_drew1 (Below.refl w2.heap.size w2)).size
        have hul : s.us.length ≤ 1000 := by have := HLEN.out; omega
        have hqP := HQP.out
        have hqU := HQU.out
        have hqb := HQB.out
        refine ⟨?_, ?_⟩
        · refine se_lit (vs := [(0, .agg #[.int .i64 p0, .int .i64 p1, .int .i64 p2, .int .i64 p3])]) rfl rfl rfl (run_lit22 _ _ _ _ _) ⟨blk_alloc hC0.blk _, blk_alloc hq0 _⟩ ?_
          have hC1 := hC0.keep (below_alloc (Below.refl _ _) (.cells #[.int .i64 p0, .int .i64 p1, .int .i64 p2, .int .i64 p3] 38))
          have hq1 := blk_alloc hq0 (.cells #[.int .i64 p0, .int .i64 p1, .int .i64 p2, .int .i64 p3] 38)
          have hg1 := heap_alloc_new w2.drew (.cells #[.int .i64 p0, .int .i64 p1, .int .i64 p2, .int .i64 p3] 38)
          have hs1 : w2.heap.size ≤ (w2.drew.alloc (.cells #[.int .i64 p0, .int .i64 p1, .int .i64 p2, .int .i64 p3] 38)).heap.size := by rw [World.size_alloc]; omega
          refine ⟨?_, ?_⟩
          · obtain ⟨A2, c2, x1, hrun, hC2, hsz, hty, hnp, hnq⟩ := core_appendP hC1 hg1 (by omega)
            have hq2 := (hnp q (blk_lt hq1) hqP).trans hq1
            refine se_made rfl rfl rfl hrun ⟨hC2.blk, hq2⟩ ?_
            refine se_lit (vs := [(0, .int .i64 0)]) rfl rfl rfl (run_lit23 _ _) ⟨blk_alloc hC2.blk _, blk_alloc hq2 _⟩ ?_
            have hC3 := hC2.keep (below_alloc (Below.refl _ _) (.cells #[.int .i64 0] 3))
            have hq3 := blk_alloc hq2 (.cells #[.int .i64 0] 3)
            have hg2 := heap_alloc_new x1 (.cells #[.int .i64 0] 3)
            obtain ⟨B2, d2, x2, hrun2, hC4, hsz2, hnu, hat⟩ := core_appendU hC3 hg2 hul
            have hq4 := (hnu q (blk_lt hq3) hqU).trans hq3
            have hs4 : w2.heap.size ≤ x2.heap.size := by rw [World.size_alloc] at hsz2; omega
            refine se_made rfl rfl rfl hrun2 ⟨hC4.blk, hq4⟩ ?_
            refine se_asE ⟨hC4.blk, hq4⟩ ?_
            refine se_un rfl rfl rfl rfl rfl (fun w' hw => by go_simp; with_reducible rfl) ?_
            refine se_asE ⟨hC4.blk, hq4⟩ ?_
            refine se_un rfl rfl rfl rfl rfl (fun w' hw => by go_simp; with_reducible rfl) ?_
            refine se_store rfl rfl rfl rfl (run_storeP _ _ _ _ _ _ _ _ hC4.blk) trivial ?_
            refine se_un rfl rfl rfl rfl rfl (fun w' hw => by go_simp; with_reducible rfl) ?_
            refine se_un rfl rfl rfl rfl rfl (fun w' hw => by go_simp; with_reducible rfl) ?_
            refine se_store rfl rfl rfl rfl (run_storeU _ _ _ _ _ _ _ _ (blk_put hC4.blk 0 _ (cs' := #[_, _, _]) rfl)) trivial ?_
            exact ⟨_, _, A2, c2, B2, d2, rfl, core_put hC4, blk_far (blk_far hq4 (p := ⟨b, 0, none⟩) hqb _) (p := ⟨b, 1, none⟩) hqb _, by simpa [World.setCell] using hs4, ((Kept.of_below (below_drew1 (Below.refl w2.heap.size w2))).trans (Kept.of_below (below_alloc (Below.refl _ _) _))).trans ((Kept.of_ty hty).trans ((Kept.of_below (below_alloc (Below.refl _ _) _)).trans ((Kept.of_app hnu hat).trans ((Kept.of_set hC4.blk).trans (Kept.of_set (blk_put hC4.blk 0 _ (cs' := #[_, _, _]) rfl)))))), hnq q (blk_lt hq1) hqP⟩
          · refine se_lit (vs := [(0, .int .i64 0)]) rfl rfl rfl (run_lit23 _ _) ⟨blk_alloc hC1.blk _, blk_alloc hq1 _⟩ ?_
            have hC2 := hC1.keep (below_alloc (Below.refl _ _) (.cells #[.int .i64 0] 3))
            have hq2 := blk_alloc hq1 (.cells #[.int .i64 0] 3)
            have hg1' := blk_alloc hg1 (.cells #[.int .i64 0] 3)
            have hg2 := heap_alloc_new (w2.drew.alloc (.cells #[.int .i64 p0, .int .i64 p1, .int .i64 p2, .int .i64 p3] 38)) (.cells #[.int .i64 0] 3)
            obtain ⟨A2, c2, x1, hrun, hC3, hsz, hty, hnp, hnq⟩ := core_appendP hC2 hg1' (by omega)
            have hq3 := (hnp q (blk_lt hq2) hqP).trans hq2
            have hg2' := (hty _ _ 3 hg2 (by decide)).trans hg2
            refine se_made rfl rfl rfl hrun ⟨hC3.blk, hq3⟩ ?_
            obtain ⟨B2, d2, x2, hrun2, hC4, hsz2, hnu, hat⟩ := core_appendU hC3 hg2' hul
            have hq4 := (hnu q (blk_lt hq3) hqU).trans hq3
            have hs4 : w2.heap.size ≤ x2.heap.size := by rw [World.size_alloc] at hsz; omega
            refine se_made rfl rfl rfl hrun2 ⟨hC4.blk, hq4⟩ ?_
            refine se_asE ⟨hC4.blk, hq4⟩ ?_
            refine se_un rfl rfl rfl rfl rfl (fun w' hw => by go_simp; with_reducible rfl) ?_
            refine se_asE ⟨hC4.blk, hq4⟩ ?_
            refine se_un rfl rfl rfl rfl rfl (fun w' hw => by go_simp; with_reducible rfl) ?_
            refine se_store rfl rfl rfl rfl (run_storeP _ _ _ _ _ _ _ _ hC4.blk) trivial ?_
            refine se_un rfl rfl rfl rfl rfl (fun w' hw => by go_simp; with_reducible rfl) ?_
            refine se_un rfl rfl rfl rfl rfl (fun w' hw => by go_simp; with_reducible rfl) ?_
            refine se_store rfl rfl rfl rfl (run_storeU _ _ _ _ _ _ _ _ (blk_put hC4.blk 0 _ (cs' := #[_, _, _]) rfl)) trivial ?_
            exact ⟨_, _, A2, c2, B2, d2, puts_cons _ _ (puts_cons _ _ (puts_cons _ _ (puts_cons _ _ (puts_cons _ _ (puts_swap _ (by decide) _ _ _))))), core_put hC4, blk_far (blk_far hq4 (p := ⟨b, 0, none⟩) hqb _) (p := ⟨b, 1, none⟩) hqb _, by simpa [World.setCell] using hs4, ((Kept.of_below (below_drew1 (Below.refl w2.heap.size w2))).trans (Kept.of_below (below_alloc (Below.refl _ _) _))).trans ((Kept.of_below (below_alloc (Below.refl _ _) _)).trans ((Kept.of_ty hty).trans ((Kept.of_app hnu hat).trans ((Kept.of_set hC4.blk).trans (Kept.of_set (blk_put hC4.blk 0 _ (cs' := #[_, _, _]) rfl)))))), hnq q (blk_lt hq2) hqP⟩
        · refine se_lit (vs := [(0, .int .i64 0)]) rfl rfl rfl (run_lit23 _ _) ⟨blk_alloc hC0.blk _, blk_alloc hq0 _⟩ ?_
          have hC1 := hC0.keep (below_alloc (Below.refl _ _) (.cells #[.int .i64 0] 3))
          have hq1 := blk_alloc hq0 (.cells #[.int .i64 0] 3)
          have hg2 := heap_alloc_new w2.drew (.cells #[.int .i64 0] 3)
          refine se_lit (vs := [(0, .agg #[.int .i64 p0, .int .i64 p1, .int .i64 p2, .int .i64 p3])]) rfl rfl rfl (run_lit22 _ _ _ _ _) ⟨blk_alloc hC1.blk _, blk_alloc hq1 _⟩ ?_
          have hC2 := hC1.keep (below_alloc (Below.refl _ _) (.cells #[.int .i64 p0, .int .i64 p1, .int .i64 p2, .int .i64 p3] 38))
          have hq2 := blk_alloc hq1 (.cells #[.int .i64 p0, .int .i64 p1, .int .i64 p2, .int .i64 p3] 38)
          have hg1 := heap_alloc_new (w2.drew.alloc (.cells #[.int .i64 0] 3)) (.cells #[.int .i64 p0, .int .i64 p1, .int .i64 p2, .int .i64 p3] 38)
          have hg2' := blk_alloc hg2 (.cells #[.int .i64 p0, .int .i64 p1, .int .i64 p2, .int .i64 p3] 38)
          obtain ⟨A2, c2, x1, hrun, hC3, hsz, hty, hnp, hnq⟩ := core_appendP hC2 hg1 (by omega)
          have hq3 := (hnp q (blk_lt hq2) hqP).trans hq2
          have hg2'' := (hty _ _ 3 hg2' (by decide)).trans hg2'
          refine se_made rfl rfl rfl hrun ⟨hC3.blk, hq3⟩ ?_
          obtain ⟨B2, d2, x2, hrun2, hC4, hsz2, hnu, hat⟩ := core_appendU hC3 hg2'' hul
          have hq4 := (hnu q (blk_lt hq3) hqU).trans hq3
          have hs4 : w2.heap.size ≤ x2.heap.size := by rw [World.size_alloc, World.size_alloc] at hsz; omega
          refine se_made rfl rfl rfl hrun2 ⟨hC4.blk, hq4⟩ ?_
          refine se_asE ⟨hC4.blk, hq4⟩ ?_
          refine se_un rfl rfl rfl rfl rfl (fun w' hw => by go_simp; with_reducible rfl) ?_
          refine se_asE ⟨hC4.blk, hq4⟩ ?_
          refine se_un rfl rfl rfl rfl rfl (fun w' hw => by go_simp; with_reducible rfl) ?_
          refine se_store rfl rfl rfl rfl (run_storeP _ _ _ _ _ _ _ _ hC4.blk) trivial ?_
          refine se_un rfl rfl rfl rfl rfl (fun w' hw => by go_simp; with_reducible rfl) ?_
          refine se_un rfl rfl rfl rfl rfl (fun w' hw => by go_simp; with_reducible rfl) ?_
          refine se_store rfl rfl rfl rfl (run_storeU _ _ _ _ _ _ _ _ (blk_put hC4.blk 0 _ (cs' := #[_, _, _]) rfl)) trivial ?_
          exact ⟨_, _, A2, c2, B2, d2, (puts_cons _ _ (puts_cons _ _ (puts_cons _ _ (puts_cons _ _ (puts_cons _ _ (puts_cons _ _ (puts_swap _ (by decide) _ _ _))))))).trans (puts_cons _ _ (puts_cons _ _ (puts_cons _ _ (puts_cons _ _ (puts_cons _ _ (puts_swap _ (by decide) _ _ _)))))), core_put hC4, blk_far (blk_far hq4 (p := ⟨b, 0, none⟩) hqb _) (p := ⟨b, 1, none⟩) hqb _, by simpa [World.setCell] using hs4, ((Kept.of_below (below_drew1 (Below.refl w2.heap.size w2))).trans (Kept.of_below (below_alloc (Below.refl _ _) _))).trans ((Kept.of_below (below_alloc (Below.refl _ _) _)).trans ((Kept.of_ty hty).trans ((Kept.of_app hnu hat).trans ((Kept.of_set hC4.blk).trans (Kept.of_set (blk_put hC4.blk 0 _ (cs' := #[_, _, _]) rfl)))))), hnq q (blk_lt hq2) hqP⟩
    · obtain ⟨j, hj, hjl⟩ := idx_lt hneg
      have HE := Aside0.mk (show freshF s [p0, p1, p2, p3] = (⟨s.ps.set j [p0, p1, p2, p3], s.us, s.rs⟩, (j : Int)) by rw [HE0.out, if_neg hneg, hj, Int.toNat_natCast])
      rw [hj]
      have hjp : j < s.ps.length := by have := HLEN.out; omega
      have q0 : decide ((j : Int) < 0) = false := decide_eq_false (by omega)
      have hB4 := HX2.out.keep (below_drew1 (Below.refl w2.heap.size w2))
      have hq5 := blk_below HQ2.out (below_drew1 (Below.refl w2.heap.size w2))
      obtain ⟨g, cg, w5, hvp, hrun, hB5, hgr⟩ := box_page hB4 j hjp p0 p1 p2 p3
      injection hvp with ha hb hc
      subst ha; subst hc
      have hgq : some q ≠ some g := HQP.out
      have hlt1 : (j : Int) < (s.ps.length : Int) := by omega
      clear hneg hj hjl hb
      go_wp2_with fail
      refine wp_eff (S := fun w' => w'.heap[b]? = some (.cells #[.slice (some ⟨g, 0, none⟩) s.ps.length aP, .slice BU s.us.length bU, vR] 26 (0, 0)) ∧ w'.heap[q]? = some (.cells #[.int .i64 p0, .int .i64 p1, .int .i64 p2, .int .i64 p3] 38 (0, 0))) [(0, false), (1, false), (2, false), (3, false), (4, false), (5, false), (6, false), (7, true)] (by kernel_rfl) (by kernel_rfl) ⟨hB4.blk, hq5⟩ (fun _ _ d _ _ h => by cases d <;> exact h) ?_
      refine se_move rfl rfl rfl ?_
      refine se_un rfl rfl rfl rfl rfl (fun w' hw => by go_simp; with_reducible rfl) ?_
      refine se_un rfl rfl rfl rfl rfl (fun w' hw => by go_simp; with_reducible rfl) ?_
      refine se_un rfl rfl rfl rfl rfl (fun w' hw => by have x := blk_cell hw.1 0; simp only [List.getElem?_toArray, List.getElem?_cons_zero, List.getElem?_cons_succ] at x; go_simp; with_reducible rfl) ?_
      refine se_move rfl rfl rfl ?_
      refine se_un rfl rfl rfl rfl rfl (fun w' hw => by have k0 := blk_cell hw.2 0; have k1 := blk_cell hw.2 1; have k2 := blk_cell hw.2 2; have k3 := blk_cell hw.2 3; simp only [List.getElem?_toArray, List.getElem?_cons_zero, List.getElem?_cons_succ] at k0 k1 k2 k3; go_simp; with_reducible rfl) ?_
      refine se_indexAddr (v := .pointer (some ⟨g, j * 4, none⟩)) rfl rfl rfl rfl (fun w' hw => by go_simp) ?_
      refine se_store rfl rfl rfl rfl hrun ⟨hB5.blk, blk_grown hq5 hgr hgq⟩ ?_
      intro _
      have hk6 : Kept w2.drew w5 (.slice BU s.us.length bU) (.slice BU s.us.length bU) := fun k cells t hk ht _ hn => ⟨hgr.block k (blk_lt hk) (fun e => by
        obtain ⟨cc, hcc⟩ := Kd.R_typed hB4.P g rfl
        have e2 : k = g := by simpa using e
        subst e2
        rw [hk] at hcc
        cases hcc
        exact ht rfl), hn⟩
      have HB6 := Aside0.mk hB5
      have HK6 := Aside0.mk ((Kept.of_below HB1.out).trans ((Kept.of_below HB2.out).trans ((Kept.of_below (below_drew1 (Below.refl w2.heap.size w2))).trans hk6)))
      have HS6 := Aside0.mk (show w.heap.size ≤ w5.heap.size from Nat.le_trans HB1.out.size (Nat.le_trans HB2.out.size (Nat.le_trans (below_drew1 (Below.refl w2.heap.size w2)).size hgr.size)))
      clear hB4 hB5 hk6 hrun hgr hq5 hgq
      simp only [puts, Act.put, List.setIfInBounds_toArray, List.set_cons_zero, List.set_cons_succ]
      go_wp2
      go_ret
      exact ⟨_, _, by rw [HE.out]; rfl, by rw [HE.out]; exact HB6.out, HK6.out, HS6.out⟩
end Go.Proofs.Ytblalidpeccabac.Pg
