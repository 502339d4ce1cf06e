/- A row of pairs of one's own: its loads and stores; pairs compared; a stretch cleared; rows without what stands twice. -/
import Derived.Test.YtlgkcjkicankmaaLockF
import Derived.Lib.SliceRun
namespace Go.Proofs.Ytlgkcjkicankmaa.Lk
open Go Go.RowKit Go.Maps Go.Proofs.YtlgkcjkicankmaaW Go.Proofs.YtlgkcjkicankmaaW.PrintWords Go.Proofs.YtlgkcjkicankmaaW.PrintLast Go.Proofs.YtlgkcjkicankmaaW.PrintMore Go.Proofs.Ytlgkcjkicankmaa.PLockupEither Go.Proofs.Ytlgkcjkicankmaa.Bs Go.Proofs.Ytlgkcjkicankmaa.RegionVal
open Go.Lib hiding intOf
set_option linter.unusedVariables false
set_option linter.unusedSimpArgs false

theorem s32_ext {x y : S32} (h0 : x.f0 = y.f0) (h1 : x.f1 = y.f1) : x = y := by
  cases x; cases y; simp only at h0 h1; rw [h0, h1]
theorem dd2_snoc : ∀ (l : List S32) (p z : S32), dd2 p (l ++ [z]) = dd2 p l ++ (if (l.getLast?.getD p).f0 = z.f0 ∧ (l.getLast?.getD p).f1 = z.f1 then [] else [z])
  | [], p, z => by
    show dd2 p [z] = [] ++ (if p.f0 = z.f0 ∧ p.f1 = z.f1 then [] else [z])
    rw [List.nil_append]
    simp only [dd2]
  | y :: l, p, z => by
    have h := dd2_snoc l y z
    have e : (y :: l).getLast?.getD p = l.getLast?.getD y := by
      cases l with
      | nil => rfl
      | cons a b => simp [List.getLast?_cons]
    rw [e, List.cons_append]
    simp only [dd2]
    rw [h]
    by_cases hpy : p.f0 = y.f0 ∧ p.f1 = y.f1
    · rw [if_pos hpy, if_pos hpy]
    · rw [if_neg hpy, if_neg hpy]
      rfl
theorem dd_take {L : List S32} {t : Nat} (h1 : t + 1 < L.length) : dd (L.take (t + 1 + 1)) = dd (L.take (t + 1)) ++ (if L[t].f0 = L[t + 1].f0 ∧ L[t].f1 = L[t + 1].f1 then [] else [L[t + 1]]) := by
  rw [List.take_succ_eq_append_getElem h1]
  cases L with
  | nil => simp at h1
  | cons x l =>
    have h2 : t < l.length := by simpa using h1
    rw [List.take_succ_cons, List.cons_append]
    simp only [dd]
    rw [dd2_snoc, List.cons_append]
    have e : ((l.take t).getLast?.getD x) = (x :: l)[t]'(by simp; omega) := by
      cases t with
      | zero => rfl
      | succ t =>
        rw [List.getLast?_take, if_neg (by omega)]
        simp [show t < l.length by omega]
    rw [e]
theorem dd_short {L : List S32} (h : L.length < 2) : dd L = L := by
  match L, h with
  | [], _ => rfl
  | [x], _ => rfl
def v32 (x : S32) : Value := .agg (c32 x).toArray
theorem eq32_same (i j : Nat) (x : S32) (W : World) : Sem.run Try.prog (do eqGuard .eql 32 (.tmp i) (.tmp j) (v32 x) (v32 x); binOp .eql 32 (v32 x) (v32 x) : Sem Value) W = .ok (.bool true) W := by
  have hu := Try.underlying32
  unfold v32 c32
  go_simp
theorem eq32_ne (i j : Nat) (x y : S32) (hk : ¬ (x.f0 = y.f0 ∧ x.f1 = y.f1)) (W : World) : Sem.run Try.prog (do eqGuard .eql 32 (.tmp i) (.tmp j) (v32 x) (v32 y); binOp .eql 32 (v32 x) (v32 y) : Sem Value) W = .ok (.bool false) W := by
  have hu := Try.underlying32
  unfold v32 c32
  by_cases h0 : x.f0 = y.f0
  · have h1 : x.f1 ≠ y.f1 := fun h => hk ⟨h0, h⟩
    rw [h0]
    clear h0
    go_simp
  · go_simp
theorem eq32_of (i j : Nat) (x y : S32) (h : x = y) (W : World) : Sem.run Try.prog (do eqGuard .eql 32 (.tmp i) (.tmp j) (v32 x) (v32 y); binOp .eql 32 (v32 x) (v32 y) : Sem Value) W = .ok (.bool true) W := by
  rw [h]
  exact eq32_same i j y W
theorem ne32_same (i j : Nat) (x : S32) (W : World) : Sem.run Try.prog (do eqGuard .neq 32 (.tmp i) (.tmp j) (v32 x) (v32 x); binOp .neq 32 (v32 x) (v32 x) : Sem Value) W = .ok (.bool false) W := by
  have hu := Try.underlying32
  unfold v32 c32
  go_simp
theorem ne32_of (i j : Nat) (x y : S32) (h : x = y) (W : World) : Sem.run Try.prog (do eqGuard .neq 32 (.tmp i) (.tmp j) (v32 x) (v32 y); binOp .neq 32 (v32 x) (v32 y) : Sem Value) W = .ok (.bool false) W := by
  rw [h]
  exact ne32_same i j y W
theorem ne32_ne (i j : Nat) (x y : S32) (hk : ¬ (x.f0 = y.f0 ∧ x.f1 = y.f1)) (W : World) : Sem.run Try.prog (do eqGuard .neq 32 (.tmp i) (.tmp j) (v32 x) (v32 y); binOp .neq 32 (v32 x) (v32 y) : Sem Value) W = .ok (.bool true) W := by
  have hu := Try.underlying32
  unfold v32 c32
  by_cases h0 : x.f0 = y.f0
  · have h1 : x.f1 ≠ y.f1 := fun h => hk ⟨h0, h⟩
    rw [h0]
    clear h0
    go_simp
  · go_simp
abbrev RE (w : World) (base g n c : Nat) (xs : List S32) : Prop := Kd.R k32 32 w base (fun _ => True) (.slice (some ⟨g, 0, none⟩) n c) xs
theorem RE.len {w : World} {base g n c : Nat} {xs : List S32} (h : RE w base g n c xs) : n = xs.length := (Kd.R_reads' h).1
theorem RE.cells {w : World} {base g n c : Nat} {xs : List S32} (h : RE w base g n c xs) (i : Nat) (hi : i < xs.length) : w.rangeAt g (i * 2) (c32 xs[i]) := by
  obtain ⟨cs, hcl, hM, hcell, _⟩ := Kd.R_elem h z32 (i : Int) (by omega) (by have := h.len; omega)
  rw [show xs.getD (Int.toNat (i : Int)) z32 = xs[i] by simp [List.getD_eq_getElem?_getD, hi]] at hM
  obtain rfl := k32_openM hM
  intro j v hv
  have := hcell j v hv
  rwa [Int.toNat_natCast] at this
theorem info32 : (Try.prog.info? 32).map (·.size) = some 2 := by kernel_rfl
theorem RE.load {w : World} {base g n c : Nat} {xs : List S32} (h : RE w base g n c xs) (i : Nat) (hi : i < xs.length) : Sem.run Try.prog (Instr.loadAt 32 (.pointer (some ⟨g, i * 2, none⟩))) w = .ok (v32 xs[i]) w :=
  run_loadAt_mid w g (i * 2) 32 (c32 xs[i]) _ (h.cells i hi) Try.underlying32 rfl info32
theorem RE.blk {w : World} {base g n c : Nat} {xs : List S32} (h : RE w base g n c xs) : ∃ cur, base ≤ g ∧ w.heap[g]? = some (.cells cur 32 (0, 0)) ∧ n ≤ c ∧ c ≤ maxLen ∧ cur.size = c * 2 ∧ cur.toList.take (n * 2) = flat xs := by
  obtain ⟨_, inner, ho, hr⟩ := h
  have hi := flat_of hr
  rcases ho.2 with ⟨hv, _⟩ | ⟨g', cap', cur, hv, hb, hh, hnc, hcm, hcs, htk⟩
  · cases hv
  injection hv with ha hb' hc
  injection ha with ha
  injection ha with hg'
  subst hg'; subst hc
  have hn := RE.len (w := w) (base := base) (g := g) (n := n) (c := c) (xs := xs) ⟨fun _ _ => trivial, inner, ho, hr⟩
  exact ⟨cur, hb, hh, by omega, hcm, hcs, by rw [← hi]; rw [hn]; exact htk⟩
theorem RE.mk' {w : World} {base g n c : Nat} {xs : List S32} (cur : Array Value) (hl : xs.length = n) (hb : base ≤ g) (hh : w.heap[g]? = some (.cells cur 32 (0, 0))) (hnc : n ≤ c) (hcm : c ≤ maxLen) (hcs : cur.size = c * 2) (htk : cur.toList.take (n * 2) = flat xs) : RE w base g n c xs := by
  subst hl
  exact ⟨fun k hk => trivial, flat xs, ⟨by rw [flat_len]; rfl, .inr ⟨g, c, cur, rfl, hb, hh, hnc, hcm, hcs, htk⟩⟩, reps_flat _ _ _ _⟩
theorem RE.store {w : World} {base g n c : Nat} {xs : List S32} (h : RE w base g n c xs) (i : Nat) (hi : i < xs.length) (x : S32) :
    ∃ w', Sem.run Try.prog (Instr.storeAt 32 (.pointer (some ⟨g, i * 2, none⟩)) (v32 x)) w = .ok () w' ∧ RE w' base g n c (xs.set i x) ∧ w.grownBy w' (some g) := by
  have hn := h.len
  obtain ⟨hR, hgr⟩ := Kd.R_seg (d := k32) h (i : Int) (by omega) (by omega) (c := c32 xs[i]) (j := 0) (seg := c32 x) (x' := x) (okp := fun _ => False) rfl (fun j u hu => by
    have := h.cells i hi j u hu
    rwa [Int.toNat_natCast]) (Nat.le_refl 2) (by
    rw [List.take_zero, List.nil_append, List.drop_eq_nil_of_le (by simp [c32]), List.append_nil]
    exact k32_mkM _ _ _ x) (fun _ hk => hk.elim)
  obtain ⟨cur, hb, hh, hnc, hcm, hcs, _⟩ := h.blk
  have hrun := run_store_run (P := Try.prog) 32 (v32 x) (c32 x) (o := i * 2) hh rfl info32 (by
    rw [hcs]
    show i * 2 + 2 ≤ c * 2
    omega) (by
    intro q hq
    simp only [c32, List.mem_cons, List.not_mem_nil, or_false] at hq
    rcases hq with rfl | rfl <;> rfl)
  exact ⟨_, hrun, hR, hgr⟩
theorem RE.below {w w' : World} {base g n c : Nat} {xs : List S32} (h : RE w base g n c xs) (hb : Below w.heap.size w w') : RE w' base g n c xs := Kd.R_below h hb
theorem zero32 (w : World) : (zeroValue 32).run Try.prog w = .ok (.agg #[.int .i64 0, .int .i64 0]) w := by kernel_rfl
theorem zeros_eq (n : Nat) : (Builtin.zeroCells (Value.agg #[.int .i64 0, .int .i64 0]).cells n).toList = List.replicate (n * 2) (.int .i64 0) := by
  apply List.ext_getElem
  · simp [Builtin.zeroCells, Value.cells]
  · intro t h1 h2
    have hm : t % 2 < 2 := Nat.mod_lt _ (by omega)
    simp [Builtin.zeroCells, Value.cells]
    rcases Nat.mod_two_eq_zero_or_one t with h | h <;> simp [h]
/-- the stretch from i on is cleared; what is ahead of it stays -/
theorem RE.clear {w : World} {base g n c : Nat} {xs : List S32} (h : RE w base g n c xs) (i : Nat) (hi : i < n) (ty : TypeId) :
    ∃ w', (Builtin.clear_ #[28] ty #[.slice (some ⟨g, i * 2, none⟩) (n - i) (c - i)]).run Try.prog w = .ok (.tuple #[]) w' ∧ RE w' base g i c (xs.take i) ∧ w.grownBy w' (some g) := by
  have hn := h.len
  obtain ⟨cur, hb, hh, hnc, hcm, hcs, htk⟩ := h.blk
  have hst := run_storeCells_cells (P := Try.prog) g (i * 2) (List.replicate ((n - i) * 2) (Value.int .i64 0)) 0 w (fun j hj => by
    rw [List.length_replicate] at hj
    rw [blk_cell hh, Array.getElem?_eq_getElem (by omega)]
    rfl) (fun j hj => blk_frozen hh _) (by intro v hv'; rw [List.eq_of_mem_replicate hv']; rfl)
  simp only [Nat.add_zero] at hst
  have hrun : (Builtin.clear_ #[28] ty #[.slice (some ⟨g, i * 2, none⟩) (n - i) (c - i)]).run Try.prog w = .ok (.tuple #[]) (w.setCells g (i * 2) (List.replicate ((n - i) * 2) (Value.int .i64 0))) := by
    obtain ⟨m, hm⟩ : ∃ m, n - i = m + 1 := ⟨n - i - 1, by omega⟩
    rw [hm] at hst ⊢
    simp [Builtin.clear_, run_underlying Try.underlying28, zero32, zeros_eq, hst]
  obtain ⟨cs', h1, h2, h3⟩ := setCells_row (List.replicate ((n - i) * 2) (Value.int .i64 0)) (i * 2) w cur hh (by rw [List.length_replicate, hcs]; omega)
  refine ⟨_, hrun, RE.mk' cs' (by rw [List.length_take]; omega) hb h1 (by omega) hcm (by rw [h2, hcs]) ?_, ⟨(setCells_same g _ _ _).1, (setCells_same g _ _ _).2.1, (setCells_same g _ _ _).2.2.1, Nat.le_of_eq (setCells_same g _ _ _).2.2.2.symm, fun k _ hne => setCells_far _ _ _ (fun e => hne (by rw [e]))⟩⟩
  rw [h3, List.append_assoc, List.take_left' (by rw [List.length_take, Array.length_toList, hcs]; omega)]
  have e1 : (cur.toList.take (n * 2)).take (i * 2) = (flat xs).take (i * 2) := by rw [htk]
  rw [List.take_take, Nat.min_eq_left (by omega)] at e1
  rw [e1]
  clear e1 htk h3 h2 h1 hrun hst hcs hcm hnc hh hb h hn hi
  induction xs generalizing i with
  | nil => simp [flat]
  | cons x l ih =>
    cases i with
    | zero => simp [flat]
    | succ i =>
      rw [flat_cons, show (i + 1) * 2 = i * 2 + 1 + 1 by omega, List.take_succ_cons, List.take_succ_cons, List.take_succ_cons, flat_cons, ih]
structure St (w0 : World) (base g n c : Nat) (L : List S32) (w : World) : Prop where
  re : RE w base g n c L
  gr : w0.grownBy w (some g)
theorem St.below {w0 w w' : World} {base g n c : Nat} {L : List S32} (h : St w0 base g n c L w) (hb : Below w.heap.size w w') : St w0 base g n c L w' := ⟨h.re.below hb, gb_trans h.gr (gb_below _ hb)⟩
end Go.Proofs.Ytlgkcjkicankmaa.Lk
