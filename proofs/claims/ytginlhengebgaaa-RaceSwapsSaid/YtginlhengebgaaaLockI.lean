/- lockup.Order: its walk. lockup.Order: its walk. A row of pairs of one's own: its loads and stores; pairs compared; a stretch cleared; rows without what stands twice. slices.Compact of pairs: its walk. lockup.Order with sorting and compacting done; lockupBegun. -/
import Derived.Test.YtginlhengebgaaaLockS
import Derived.Lib.SliceRun
import Derived.Test.YtginlhengebgaaaSame
import Derived.Shelf.SlSortCmp.NoneTotal
namespace Go.Proofs.Ytginlhengebgaaa.Lk
open Go Go.RowKit Go.Maps Go.Proofs.YtginlhengebgaaaW Go.Proofs.YtginlhengebgaaaW.PrintWords Go.Proofs.YtginlhengebgaaaW.PrintLast Go.Proofs.YtginlhengebgaaaW.PrintMore Go.Proofs.Ytginlhengebgaaa.PLockupEither Go.Proofs.Ytginlhengebgaaa.Bs Go.Proofs.Ytginlhengebgaaa.RegionVal
open Go.Lib hiding intOf
set_option linter.unusedVariables false
set_option linter.unusedSimpArgs false

/-- an event: of which kind, of which thread, with which A; nothing else -/
structure Ev where
  k : Int
  t : Int
  a : Int
def zE : Ev := ⟨0, 0, 0⟩
def c41 (x : Ev) : List Value := [.int .i64 x.k, .int .i64 0, .int .i64 x.t, .int .i64 0, .int .i64 0, .int .i64 0, .int .i64 x.a, .int .i64 0, .int .i64 0, .int .i64 0, .int .i64 0, .int .i64 0]
def v41 (x : Ev) : Value := .agg (c41 x).toArray
theorem c41_one (x : Ev) : ∀ u ∈ c41 x, u.oneCell' = true := by
  intro q hq
  simp only [c41, List.mem_cons, List.not_mem_nil, or_false] at hq
  rcases hq with rfl | rfl | rfl | rfl | rfl | rfl | rfl | rfl | rfl | rfl | rfl | rfl <;> rfl
def k41 : Kd Ev where
  sz := 12
  E := []
  K _ x cs := cs = c41 x
  M _ _ _ x cs := cs = c41 x
  K_len h := by subst h; rfl
  K_one h u hu := by subst h; exact c41_one _ u hu
  K_below _ h := h
  K_of_M h := h
  M_mono _ h := h
  M_bound h := h
  M_move _ h := h
  M_lower _ h := h
theorem ad_add (ad : Addr) (k j : Nat) : (ad.add k).add j = ad.add (k + j) := by
  unfold Addr.add
  by_cases hk : k = 0
  · subst hk; simp
  · by_cases hj : j = 0
    · subst hj; simp
    · rw [if_neg hk, if_neg hj, if_neg (by omega)]
      simp [Nat.add_assoc]
theorem info41 : (Try.prog.info? 41).map (·.size) = some 12 := by kernel_rfl
theorem C_load41 {w : World} {ad : Addr} {n : Nat} {xs : List Ev} (h : Kd.C k41 w (some ad) n xs) (i : Nat) (hi : i < xs.length) : Sem.run Try.prog (Instr.loadAt 41 (.pointer (some (ad.add (i * 12))))) w = .ok (v41 xs[i]) w := by
  obtain ⟨ad', c, e, hl, hK, hc⟩ := Kd.C_get h zE (i : Int) (by omega) (by have := h.1; omega)
  obtain rfl := Option.some.inj e
  rw [show xs.getD (Int.toNat (i : Int)) zE = xs[i] by simp [List.getD_eq_getElem?_getD, hi]] at hK
  have hK2 : c = c41 xs[i] := hK
  subst hK2
  have hcells : (loadCells (ad.add (i * 12)) (c41 xs[i]).length).run Try.prog w = .ok (c41 xs[i]).toArray w :=
    run_loadCells_list (P := Try.prog) w (ad.add (i * 12)) (c41 xs[i]) (fun j v hv => by
      rw [ad_add]
      have := hc j v hv
      rwa [Int.toNat_natCast] at this)
  have hs : (sizeOf 41).run Try.prog w = .ok (c41 xs[i]).length w := by
    cases hq : Try.prog.info? 41 with
    | none => have := info41; simp [hq] at this
    | some q => have h2 : q.size = 12 := by have := info41; simpa [hq] using this
                simp [sizeOf, typeInfo, hq, h2, c41]
  simp [Instr.loadAt, Instr.sureAddr, loadVar, Sem.run_bind, Try.isAgg41, hs, v41]
  have h12 : (c41 xs[i]).length = 12 := rfl
  rw [h12] at hcells
  rw [hcells]
  rfl
section
variable {P : Program} {ops : Array Oper} {rest : List Oper} {o : Oper} {a : Act} {Q : Exit → Act → World → Prop} {W W' : World} {t : TypeId} {x y : Operand} {vx vy v : Value}
/-- a load whose run is told, in a plain region -/
theorem wpl_load (hgd : o.guard = none) (ho : o.op = .load t x) (hx : a.eval x = vx) (hr : Sem.run P (Instr.loadAt t vx) W = .ok v W) (h : wpList P ops Q rest (a.put o.dst v) W) : wpList P ops Q (o :: rest) a W :=
  Kd.event_run hgd (by
    obtain ⟨d, op, ty, ps, af, g⟩ := o
    simp only at ho
    subst ho
    simp only [execOp, hx, Sem.run_bind]
    rw [hr]
    rfl) h
/-- a store whose run is told, in a plain region -/
theorem wpl_store (hgd : o.guard = none) (ho : o.op = .store t x y) (hN : o.dst = none) (hx : a.eval x = vx) (hy : a.eval y = vy) (hr : Sem.run P (Instr.storeAt t vx vy) W = .ok () W') (h : wpList P ops Q rest a W') : wpList P ops Q (o :: rest) a W := by
  have hrun : (execOp a.eval o).run P W = .ok .skip W' := by
    obtain ⟨d, op, ty, ps, af, g⟩ := o
    simp only at ho
    subst ho
    simp only [execOp, hx, hy, Sem.run_bind]
    rw [hr]
    rfl
  refine wpList_plain hgd fun K hK => ?_
  unfold Oper.wp
  rw [hrun]
  show K (a.put o.dst undef) W'
  rw [hN]
  exact hK _ _ h
end
/-- an event that is stored into a new block -/
theorem fresh_store {W : World} {g : Nat} {cs : Array Value} (hb : W.heap[g]? = some (.cells cs 41 (0, 0))) (hs : cs.size = 12) (x : Ev) :
    ∃ W', Sem.run Try.prog (Instr.storeAt 41 (.pointer (some ⟨g, 0, none⟩)) (v41 x)) W = .ok () W' ∧ W'.heap[g]? = some (.cells (c41 x).toArray 41 (0, 0)) ∧ ∀ (B : Nat) (a : World), B ≤ g → Below B a W → Below B a W' := by
  have hrun := run_store_run (P := Try.prog) 41 (v41 x) (c41 x) (o := 0) hb rfl info41 (by rw [hs]; exact Nat.le_refl _) (c41_one x)
  obtain ⟨cs', h1, h2, h3⟩ := setCells_row (c41 x) 0 W cs hb (by rw [hs]; exact Nat.le_refl _)
  refine ⟨_, hrun, ?_, fun B a hB hba => below_setCells hB _ _ _ hba⟩
  rw [h1]
  have h4 : cs' = (c41 x).toArray := by
    apply Array.toList_inj.1
    rw [h3, List.take_zero, List.nil_append, List.drop_eq_nil_of_le (by rw [Array.length_toList, hs]; exact Nat.le_refl _), List.append_nil]
  rw [h4]
def zc41 : Array Value := #[.int .i64 0, .int .i64 0, .int .i64 0, .int .i64 0, .int .i64 0, .int .i64 0, .int .i64 0, .int .i64 0, .int .i64 0, .int .i64 0, .int .i64 0, .int .i64 0]

/-- one event more: who has which locks; which pairs there are -/
def evStep (g : Int → List Int) (out : List S32) (x : Ev) : (Int → List Int) × List S32 :=
  if x.k = 13 then ((if x.a ∈ g x.t then g else updL g x.t (g x.t ++ [x.a])), out ++ ((g x.t).filter (fun n => decide (n ≠ x.a))).map (fun n => ⟨n, x.a⟩))
  else if x.k = 14 ∧ x.a ∈ g x.t then (updL g x.t ((g x.t).erase x.a), out) else (g, out)
def evFold : List Ev → (Int → List Int) → List S32 → (Int → List Int) × List S32
  | [], g, out => (g, out)
  | x :: l, g, out => evFold l (evStep g out x).1 (evStep g out x).2
theorem zero24 (w : World) : (zeroValue 24).run Try.prog w = .ok (.slice none 0 0) w := Try.zeroValue24 w
theorem keyI : Mp.KeyAt Try.prog 3 (fun x : Int => .int .i64 x) := Mp.key_int Try.underlying3
theorem orZ (m : List (Int × Value)) (x : Int) : Mp.orZero id (.slice none 0 0) (Mp.get m x) = valAt m x := by
  unfold valAt
  cases Mp.get m x <;> rfl
theorem info32z : (Try.prog.info? 32).map (fun i => (i.zero, i.size, i.bytes)) = some (some (.agg #[.int .i64 0, .int .i64 0]), 2, 16) := by kernel_rfl
theorem C_one32 {W : World} {g : Nat} {a b : Int} (hb : W.heap[g]? = some (.cells #[.int .i64 a, .int .i64 b] 32 (0, 0))) : Kd.C k32 W (some ⟨g, 0, none⟩) 1 [⟨a, b⟩] := by
  refine ⟨rfl, by omega, fun _ => ⟨_, rfl, fun j p hj => ?_⟩⟩
  match j, hj with
  | 0, hj =>
    obtain rfl := Option.some.inj hj
    refine ⟨[.int .i64 a, .int .i64 b], rfl, k32_mk _ ⟨a, b⟩, fun i u hu => ?_⟩
    rw [Addr.add_mid, blk_cell hb]
    match i, hu with
    | 0, hu => obtain rfl := Option.some.inj hu; rfl
    | 1, hu => obtain rfl := Option.some.inj hu; rfl
theorem take_erase : ∀ (l : List Int) (q : Nat) (a : Int), q < l.length → l.getD q 0 = a → (∀ j, j < q → l.getD j 0 ≠ a) → l.take q ++ l.drop (q + 1) = l.erase a
  | x :: l, 0, a, _, h, _ => by
    have hx : x = a := h
    subst hx
    simp
  | x :: l, q + 1, a, hq, h, hj => by
    have hx : x ≠ a := hj 0 (by omega)
    rw [List.erase_cons_tail (by simpa using hx), ← take_erase l q a (by simpa using hq) h (fun j h1 => hj (j + 1) (by omega))]
    rfl
theorem evStep_len (g : Int → List Int) (out : List S32) (x : Ev) (i : Nat) (hg : ∀ t, (g t).length ≤ i) : (∀ t, ((evStep g out x).1 t).length ≤ i + 1) ∧ (evStep g out x).2.length ≤ out.length + i := by
  unfold evStep
  by_cases h1 : x.k = 13
  · rw [if_pos h1]
    refine ⟨fun t => ?_, ?_⟩
    · show ((if x.a ∈ g x.t then g else updL g x.t (g x.t ++ [x.a])) t).length ≤ i + 1
      split
      · have := hg t; omega
      · unfold updL
        split
        · rw [List.length_append]; have := hg x.t; show _ + 1 ≤ _; omega
        · have := hg t; omega
    · show (out ++ _).length ≤ _
      rw [List.length_append, List.length_map]
      have := List.length_filter_le (fun n => decide (n ≠ x.a)) (g x.t)
      have := hg x.t
      omega
  · rw [if_neg h1]
    split
    · refine ⟨fun t => ?_, Nat.le_add_right _ _⟩
      show ((updL g x.t ((g x.t).erase x.a)) t).length ≤ i + 1
      unfold updL
      split
      · have := List.length_erase_le (a := x.a) (l := g x.t); have := hg x.t; omega
      · have := hg t; omega
    · exact ⟨fun t => by have := hg t; show (g t).length ≤ _; omega, Nat.le_add_right _ _⟩
end Go.Proofs.Ytginlhengebgaaa.Lk
namespace Go.Proofs.Ytginlhengebgaaa.Lk
open Go Go.RowKit Go.Maps Go.Proofs.YtginlhengebgaaaW Go.Proofs.YtginlhengebgaaaW.PrintWords Go.Proofs.YtginlhengebgaaaW.PrintLast Go.Proofs.YtginlhengebgaaaW.PrintMore Go.Proofs.Ytginlhengebgaaa.PLockupEither Go.Proofs.Ytginlhengebgaaa.Bs Go.Proofs.Ytginlhengebgaaa.RegionVal
open Go.Lib hiding intOf
set_option linter.unusedVariables false
set_option linter.unusedSimpArgs false

theorem ev_cell {w : World} {g : Nat} {x : Ev} (h : w.heap[g]? = some (.cells (c41 x).toArray 41 (0, 0))) : w.cell? ⟨g, 0, none⟩ = some (.int .i64 x.k) ∧ w.cell? ⟨g, 2, none⟩ = some (.int .i64 x.t) ∧ w.cell? ⟨g, 6, none⟩ = some (.int .i64 x.a) :=
  ⟨by rw [blk_cell h]; rfl, by rw [blk_cell h]; rfl, by rw [blk_cell h]; rfl⟩
/-- the pairs that one event adds, so far -/
def prs (own : List Int) (a : Int) (j : Nat) : List S32 := ((own.take j).filter (fun n => decide (n ≠ a))).map (fun n => ⟨n, a⟩)
theorem prs_step {own : List Int} {j : Nat} (a : Int) (hj : j < own.length) : prs own a (j + 1) = prs own a j ++ (if own[j] = a then [] else [⟨own[j], a⟩]) := by
  unfold prs
  rw [List.take_succ_eq_append_getElem hj, List.filter_append, List.map_append]
  by_cases h : own[j] = a
  · rw [if_pos h]; simp [h]
  · rw [if_neg h]; simp [h]
theorem prs_len (own : List Int) (a : Int) (j : Nat) : (prs own a j).length ≤ own.length := by
  unfold prs
  rw [List.length_map]
  exact Nat.le_trans (List.length_filter_le _ _) (by rw [List.length_take]; omega)
/-- without what stands twice, one behind the other -/
def dd2 : S32 → List S32 → List S32
  | _, [] => []
  | p, y :: l => if p.f0 = y.f0 ∧ p.f1 = y.f1 then dd2 y l else y :: dd2 y l
def dd : List S32 → List S32
  | [] => []
  | x :: l => x :: dd2 x l
def EvAt (g : Nat) (x : Ev) (w : World) : Prop := w.heap[g]? = some (.cells (c41 x).toArray 41 (0, 0))
theorem EvAt.below {g : Nat} {x : Ev} {w w' : World} (h : EvAt g x w) (hb : Below w.heap.size w w') : EvAt g x w' := blk_below h hb
theorem EvAt.grown {g b : Nat} {x : Ev} {w w' : World} (h : EvAt g x w) (hg : w.grownBy w' (some b)) (hne : g ≠ b) : EvAt g x w' := blk_grown h hg hne
theorem EvAt.lt {g : Nat} {x : Ev} {w : World} (h : EvAt g x w) : g < w.heap.size := by
  rcases Nat.lt_or_ge g w.heap.size with h1 | h1
  · exact h1
  · unfold EvAt at h
    rw [Array.getElem?_eq_none h1] at h
    cases h
theorem EvAt.grownO {g : Nat} {x : Ev} {w w' : World} {r : Option Nat} (h : EvAt g x w) (hg : w.grownBy w' r) (hne : r ≠ some g) : EvAt g x w' :=
  (hg.block g h.lt (fun e => hne e.symm)).trans h
theorem load2 {g : Nat} {x : Ev} {w : World} (h : EvAt g x w) : Sem.run Try.prog (Instr.loadAt 3 (.pointer (some ⟨g, 2, none⟩))) w = .ok (.int .i64 x.t) w := by
  have h1 := (ev_cell h).2.1
  go_simp
theorem load6 {g : Nat} {x : Ev} {w : World} (h : EvAt g x w) : Sem.run Try.prog (Instr.loadAt 3 (.pointer (some ⟨g, 6, none⟩))) w = .ok (.int .i64 x.a) w := by
  have h1 := (ev_cell h).2.2
  go_simp
theorem run_lit3 (w : World) (n : Int) : Sem.run Try.prog (Instr.buildSlice 24 1 #[(0, .int .i64 n)]) w = .ok (.slice (some ⟨w.heap.size, 0, none⟩) 1 1) (w.alloc (.cells #[.int .i64 n] 3)) := by
  go_simp
theorem own_blk {w : World} {base k : Nat} {e : TypeId} {size n : Nat} {v : Value} {xs : List Value} (h : w.ownsRow base e size v n xs) (hk : w.heap.size ≤ k) : v.ownBlock ≠ some k := fun e1 => by
  have := World.ownsRow.lt h k e1
  omega
theorem prs_all (own : List Int) (a : Int) : prs own a own.length = (own.filter (fun n => decide (n ≠ a))).map (fun n => ⟨n, a⟩) := by
  unfold prs
  rw [List.take_length]
theorem infoI24 : (Try.prog.info? 3).map (fun i => (i.zero, i.size, i.bytes)) = some (some (.int .i64 0), 1, 8) := by kernel_rfl

theorem own_app {w0 W : World} (base : Nat) (v : Value) (xs : List Int) (n : Int) (ad : Addr) (HO : W.ownsRow base 3 1 v xs.length (nums .i64 xs)) (HR : ReadsInt W .i64 (some ad) 1 [n]) (HB : Below base w0 W) (hbase : base ≤ W.heap.size) (hl : (xs.length + 1) * 8 ≤ 140737488355328) :
    ∃ v1 x1, Sem.run Try.prog (builtin .append #[24, 24] 24 #[false, false] #[v, .slice (some ad) 1 1]) W = .ok (.value v1) x1 ∧ x1.ownsRow base 3 1 v1 (xs ++ [n]).length (nums .i64 (xs ++ [n])) ∧ Below base w0 x1 ∧ W.grownBy x1 v.ownBlock ∧ (v1.ownBlock = v.ownBlock ∨ ∃ b, v1.ownBlock = some b ∧ W.heap.size ≤ b) := by
  obtain ⟨v1, x1, hrun, hR1, hb1, hg1, hat⟩ := app_rows (P := Try.prog) kI (Rr := kI.K W) (w0 := w0) base 24 3 (.int .i64 0) 8 Try.underlying24 infoI24 rfl (by decide) (by omega)
    v xs [n] (some ad) 1 1 (fun _ => True) (fun _ => False) (R_int HO) (C_int HR) (fun _ _ hp => hp) (fun _ hk => hk.elim) (fun _ _ => trivial) HB hbase hl
  exact ⟨v1, x1, hrun, Kd.own_of_R (enc := Value.int .i64) hR1, hb1, hg1, hat⟩
theorem GR.mapGrown {w w1 : World} {b bo : Nat} {m : List (Int × Value)} {g : Int → List Int} {vo : Value} {out : List S32} {x : Int} (h : GR w b bo m g vo out) (hg : w.grownBy w1 (valAt m x).ownBlock) : Mp.Holds w1 b (Value.int .i64) id m :=
  h.map.kept (hg.block b h.map.lt (fun e => own_ne (h.row x) h.lt e.symm))
section
variable {P : Program} {L : List Oper} {S : World → Prop} {a0 : Act} {K : List (Nat × Value) → World → Prop} {env : List (Nat × Value)} {rest : List (Nat × Bool)} {i : Nat} {w : World} {d : Nat} {Ty : TypeId} {pos : String} {after : Array Edge} {g : Option (Nat × Bool)}
/-- a load whose run is told -/
theorem se_load {t : TypeId} {x : Operand} {vx v : Value} (ho : want.nthO L i = some ⟨some d, .load t x, Ty, pos, after, g⟩) (hg : want L a0 env g = some true) (hx : rdo a0 env x = some vx)
    (hr : ∀ w, S w → Sem.run P (Instr.loadAt t vx) w = .ok v w) (h : SeqE P L S a0 K rest ((d, v) :: env) w) : SeqE P L S a0 K ((i, false) :: rest) env w :=
  se_gen ho hg (fun w hw => by
    simp only [execOp, ev_of hx, Sem.run_bind]
    rw [hr w hw]
    rfl) h
end
theorem GR.rd {w : World} {b bo : Nat} {m : List (Int × Value)} {g : Int → List Int} {vo : Value} {out : List S32} (h : GR w b bo m g vo out) {x : Int} {A : Option Addr} {c : Nat} (hv : valAt m x = .slice A (g x).length c) : ReadsInt w .i64 A (g x).length (g x) := by
  obtain ⟨A', c', e, _, hr⟩ := own_rd (h.row x)
  rw [hv] at e
  injection e with e1 e2 e3
  rw [e1]
  exact hr
set_option maxHeartbeats 32000000 in
set_option maxRecDepth 100000 in
theorem order_calls (w : World) (A : Option Addr) (c : Nat) (l : List Ev) (ps : List S32) (hr : Kd.C k41 w A l.length l) (hc : l.length ≤ c) (hl : l.length ≤ 200) (hps : (evFold l (fun _ => []) []).2 = ps)
    (hfin : ∀ (W : World) (v : Value), Kd.R k32 32 W w.heap.size (fun _ => True) v ps → Calls Try.prog 33 #[v, .func (.func 34) #[] #[]] W fun e W' => e = .returned (.tuple #[]) ∧ ∃ ys, ys.Perm ps ∧ SrtP ys ∧ Kd.R k32 32 W' w.heap.size (fun _ => True) v ys ∧ W.grownBy W' v.ownBlock)
    (hcom : ∀ (W : World) (v : Value) (ys : List S32), ys.Perm ps → SrtP ys → Kd.R k32 32 W w.heap.size (fun _ => True) v ys → Calls Try.prog 35 #[v] W fun e W' => ∃ v1 zs, e = .returned v1 ∧ zs = dd ys ∧ Kd.R k32 32 W' w.heap.size (fun _ => True) v1 zs ∧ W.grownBy W' v.ownBlock) :
    Calls Try.prog 16 #[.slice A l.length c] w fun e w' => ∃ v ys, e = .returned (.tuple #[v, .int .i64 0]) ∧ ys.Perm ps ∧ SrtP ys ∧ Kd.R k32 32 w' w.heap.size (fun _ => True) v (dd ys) ∧ Below w.heap.size w w' := by
  have HR := Aside0.mk hr
  have hl1 : (l.length : Int) ≤ 200 := by omega
  have HFI := Aside0.mk hfin
  have HCO := Aside0.mk hcom
  obtain ⟨FN, hFN⟩ : ∃ FN, FN = evFold l (fun _ => []) [] := ⟨_, rfl⟩
  have HPS := Aside0.mk (show FN.2 = ps by rw [hFN]; exact hps)
  have HF0 := Aside0.mk (show evFold (l.drop 0) (fun _ => []) [] = FN from hFN.symm)
  clear hr hfin hcom hFN hps
  have hmm := @run_makeMap Try.prog
  go_enter Try.func16, Try.ntmps16
  go_upto_region 4 with (fail)
  clear hmm
  have HG0 := Aside0.mk (GR.new w (w.heap.size + 1) (by omega))
  have HB0 := Aside0.mk (below_alloc (Below.refl w.heap.size w) (.map #[] 0))
  have hsz : (w.alloc (.map #[] 0)).heap.size = w.heap.size + 1 := Array.size_push _
  obtain ⟨b, hb⟩ : ∃ b, b = w.heap.size := ⟨_, rfl⟩
  have HBE := Aside0.mk hb
  have HBO := Aside0.mk (show b < b + 1 ∧ w.heap.size ≤ b + 1 by rw [hb]; exact ⟨by omega, by omega⟩)
  have HSZ := Aside0.mk (show b + 1 ≤ (w.alloc (.map #[] 0)).heap.size by rw [hsz, hb]; exact Nat.le_refl _)
  rw [← hb] at HG0 ⊢
  generalize (w.alloc (.map #[] 0)) = W0 at HG0 HB0 HSZ ⊢
  clear hb hsz
  go_wp2_with fail
  go_loopw [5, 18] (fun v5 v18 wr => ∃ (i : Nat) (m : List (Int × Value)) (g : Int → List Int) (out : List S32), v18 = .int .i64 (i : Int) ∧ i ≤ l.length ∧ Aside0 (∀ t, (g t).length ≤ i) ∧ Aside0 (out.length ≤ 200 * i) ∧ Aside0 (evFold (l.drop i) g out = FN) ∧ Aside0 (GR wr b (b + 1) m g v5 out) ∧ Aside0 (Below w.heap.size w wr) ∧ Aside0 (b + 1 ≤ wr.heap.size)) (fun _ v18 _ => l.length - (intOf v18).toNat)
  case atStart => exact ⟨0, [], _, [], rfl, Nat.zero_le _, ⟨fun _ => by simp⟩, ⟨by simp⟩, HF0, HG0, HB0, HSZ⟩
  case round =>
    clear HF0 HG0 HB0 HSZ
    obtain ⟨i, m, g, out, rfl, hi, HGL, HOL, HF, HG, HB, HSZ⟩ := hrel
    by_cases hlt : i < l.length
    · have hlt1 : (i : Int) < (l.length : Int) := by omega
      obtain ⟨ad, hA⟩ : ∃ ad, A = some ad := by
        obtain ⟨ad, h, _⟩ := HR.out.2.2 (show 0 < l.length by omega)
        exact ⟨ad, h⟩
      subst hA
      obtain ⟨x, hx⟩ : ∃ x, x = l[i] := ⟨_, rfl⟩
      have H := HF.out
      rw [List.drop_eq_getElem_cons hlt, ← hx] at H
      simp only [evFold] at H
      have HL := Aside0.mk (show Sem.run Try.prog (Instr.loadAt 41 (.pointer (some (ad.add (i * 12))))) wr = .ok (v41 x) wr from by rw [hx]; exact C_load41 (Kd.C_below HR.out HB.out) i hlt)
      have HN := Aside0.mk H
      have HEL := Aside0.mk (evStep_len g out x i HGL.out)
      clear hx H HF
      go_upto_region 8 with (first
        | ((with_reducible refine gate_dst (N := 21) rfl ?_); refine wpl_load (v := v41 x) rfl rfl rfl HL.out ?_)
        | ((with_reducible refine gate_dst (N := 7) rfl ?_); refine box_event ?hg (N := 7) ?hd (cs := zc41) (t := 41) ?hr ?_; (case hd => rfl); (case hg => rfl); (case hr => go_simp; rfl); intro gx hgx w1 hbox hb; have HGX := Aside0.mk hgx; have HBX := Aside0.mk hbox; have HBW := Aside0.mk hb; clear hbox hb hgx)
        | ((with_reducible refine gate_store (t := 41) (p := 7) rfl ?_); obtain ⟨w2, hrun, hk2, hbel⟩ := fresh_store HBX.out rfl x; refine wpl_store rfl rfl rfl rfl rfl hrun ?_; have HK2 := Aside0.mk hk2; have HBW2 := Aside0.mk (hbel wr.heap.size wr (by rw [HGX.out]; exact Nat.le_refl _) HBW.out); clear hrun hk2 hbel)
        | fail)
      have HG2 := Aside0.mk (HG.out.below HBW2.out)
      have HB2 := Aside0.mk (below_then HB.out HB.out.size HBW2.out)
      have HSZ2 := Aside0.mk (Nat.le_trans HSZ.out HBW2.out.size)
      have HE2 := Aside0.mk (show EvAt gx x w2 from HK2.out)
      have HOG := Aside0.mk (show (valAt m x.t).ownBlock ≠ some gx ∧ u5.ownBlock ≠ some gx ∧ gx ≠ b from ⟨own_blk (k := gx) (HG.out.row x.t) (by rw [HGX.out]; exact Nat.le_refl _), (by obtain ⟨inner, ho⟩ := Kd.R_own HG.out.outr; exact own_blk (k := gx) ho (by rw [HGX.out]; exact Nat.le_refl _)), (by have h1 := HGX.out; have h2 := HSZ.out; omega)⟩)
      obtain ⟨k0, k2, k6⟩ := ev_cell HK2.out
      clear HG HB HSZ HBX HBW HK2 HBW2 HGX HL
      have HOL2 := Aside0.mk (show (g x.t).length ≤ 200 from Nat.le_trans (HGL.out x.t) (by omega))
      obtain ⟨A8, d8, hv8, hd8, hr8⟩ := own_rd (HG2.out.row x.t)
      have HV8 := Aside0.mk hv8
      obtain ⟨p, hp1, hp2, hp3, hp4⟩ := index_f (g x.t) x.a (by have := HOL2.out; omega)
      have HIX := Aside0.mk (slices_Index_int_int.calls 1000 A8 d8 (g x.t) x.a p w2 (C_int hr8) hd8 hp1)
      have HP := Aside0.mk (And.intro hp2 (And.intro hp3 hp4))
      clear hv8 hr8 hp1 hp2 hp3 hp4
      go_wp2_with (first
        | (at_lookup; refine Mp.wpList_look1 rfl _ _ 67 rfl keyI Try.underlying67 zero24 b m x.t rfl rfl HG2.out.map _ (orZ m x.t) ?_; rw [HV8.out])
        | fail)
      refine HIX.out.mono ?_
      rintro en w4 ⟨rfl, hd⟩
      have hb := hd.below
      have HG4 := Aside0.mk (HG2.out.below hb)
      have HB4 := Aside0.mk (below_then HB2.out HB2.out.size hb)
      have HSZ4 := Aside0.mk (Nat.le_trans HSZ2.out hb.size)
      have HE4 := Aside0.mk (HE2.out.below hb)
      clear hb hd k0 k2 k6 HIX HG2 HB2 HSZ2 HE2
      obtain ⟨k0, k2, k6⟩ := ev_cell HE4.out
      by_cases hk13 : x.k = 13
      · have d1 : (x.k == 13) = true := beq_iff_eq.2 hk13
        have HK13 := Aside0.mk hk13
        have HV5 := Aside0.mk HOG.out.2.1
        clear hk13
        go_wp2_with fail
        go_loopw [5, 36] (fun v5 v36 wq => ∃ (j : Nat), v36 = .int .i64 (j : Int) ∧ j ≤ (g x.t).length ∧ Aside0 (GR wq b (b + 1) m g v5 (out ++ prs (g x.t) x.a j)) ∧ Aside0 (v5.ownBlock ≠ some gx) ∧ Aside0 (EvAt gx x wq) ∧ Aside0 (Below w.heap.size w wq) ∧ Aside0 (b + 1 ≤ wq.heap.size)) (fun _ v36 _ => (g x.t).length - (intOf v36).toNat)
        case atStart => exact ⟨0, rfl, Nat.zero_le _, ⟨by have h := HG4.out; simpa [prs] using h⟩, HV5, HE4, HB4, HSZ4⟩
        case round =>
          clear HG4 HV5 HE4 HB4 HSZ4 k0 k2 k6
          obtain ⟨j, rfl, hj, HG, HV, HE, HB, HSZ⟩ := hrel
          obtain ⟨k0, k2, k6⟩ := ev_cell HE.out
          by_cases hlj : j < (g x.t).length
          · have hlj1 : (j : Int) < ((g x.t).length : Int) := by omega
            have hj200 : j < 200 := by have := HOL2.out; omega
            obtain ⟨ad8, hA8, hc8⟩ := (HG.out.rd HV8.out).2.2 (by omega)
            obtain ⟨n, hn⟩ : ∃ n, n = (g x.t)[j] := ⟨_, rfl⟩
            have kj : wr.cell? (ad8.add j) = some (.int .i64 n) := by
              have h := hc8 j hlj
              rw [hn]
              simpa [List.getD_eq_getElem?_getD, hlj] using h
            have hs := prs_step x.a hlj
            rw [← hn] at hs
            subst hA8
            clear hc8 hn
            by_cases hne : n = x.a
            · have HS := Aside0.mk (show prs (g x.t) x.a (j + 1) = prs (g x.t) x.a j by rw [hs, if_pos hne, List.append_nil])
              have d2 : (n == x.a) = true := beq_iff_eq.2 hne
              clear hs hne
              go_wp2
              go_roundw
              case rel => exact ⟨j + 1, by go_num, hlj, by rw [HS.out]; exact HG, HV, HE, HB, HSZ⟩
              case measure => simp [intOf]; omega
            · have HS := Aside0.mk (show prs (g x.t) x.a (j + 1) = prs (g x.t) x.a j ++ [⟨n, x.a⟩] by rw [hs, if_neg hne])
              have d2 : (n == x.a) = false := beq_eq_false_iff_ne.2 hne
              have HL15 := Aside0.mk (show ((out ++ prs (g x.t) x.a j).length + 1) * 16 ≤ 140737488355328 by
                have h1 := HOL.out
                have h2 := prs_len (g x.t) x.a j
                have h3 := HOL2.out
                rw [List.length_append]
                omega)
              clear hs hne
              go_wp2_with (first
                | (at_builtin; refine Kd.R_append_rows k32 (w0 := wr) (b + 1) rfl _ _ 28 32 (.agg #[.int .i64 0, .int .i64 0]) 16 rfl Try.underlying28 info32z rfl (by decide) (by omega) _ (out ++ prs (g x.t) x.a j) [⟨n, x.a⟩] _ 1 1 (fun _ => True) (fun _ => False) rfl rfl (Kd.R_alloc HG.out.outr _) (C_one32 (heap_alloc_new _ _)) (fun x cs h => by obtain rfl := k32_open h; exact k32_mkM _ _ _ x) (fun _ h => h.elim) (fun _ _ => trivial) (Below.alloc (Below.refl (b + 1) wr) HSZ.out _) (Nat.le_trans HSZ.out (below_alloc (Below.refl _ _) _).size) HL15.out ?_; intro v1 w6 hown hB hg hat; have HO6 := Aside0.mk hown; have HB6 := Aside0.mk hB; have HG6 := Aside0.mk hg; have HAT := Aside0.mk hat; clear hown hB hg hat)
                | fail)
              have HGa := Aside0.mk (HG.out.below (below_alloc (Below.refl wr.heap.size wr) (.cells #[Value.int .i64 n, Value.int .i64 x.a] 32)))
              have HG7 := Aside0.mk (show GR w6 b (b + 1) m g v1 (out ++ prs (g x.t) x.a (j + 1)) by rw [HS.out, ← List.append_assoc]; exact HGa.out.outer HG6.out HO6.out)
              have HE7 := Aside0.mk ((HE.out.below (below_alloc (Below.refl wr.heap.size wr) (.cells #[Value.int .i64 n, Value.int .i64 x.a] 32))).grownO HG6.out HV.out)
              have HV7 := Aside0.mk (show v1.ownBlock ≠ some gx from fun e => by
                rcases HAT.out with h | ⟨q, h, h2⟩
                · exact HV.out (h.symm.trans e)
                · rw [h] at e
                  injection e with e
                  have h3 := HE.out.lt
                  have h4 := (below_alloc (Below.refl wr.heap.size wr) (.cells #[Value.int .i64 n, Value.int .i64 x.a] 32)).size
                  omega)
              have HB7 := Aside0.mk (Below.trans HB.out (Below.mono HB6.out HBO.out.2))
              have HSZ7 := Aside0.mk (Nat.le_trans HSZ.out HB6.out.size)
              clear HGa HO6 HB6 HG6 HAT HG HE HV HB HSZ
              go_roundw
              case rel => exact ⟨j + 1, by go_num, hlj, HG7, HV7, HE7, HB7, HSZ7⟩
              case measure => simp [intOf]; omega
          · have hjl : j = (g x.t).length := by omega
            subst hjl
            have hlen : (g x.t).length ≤ 200 := HOL2.out
            have HGL5 := Aside0.mk (show GR wr b (b + 1) m g u5 (out ++ prs (g x.t) x.a (g x.t).length) from HG.out)
            clear HG
            by_cases hp : p < 0
            · have hnm : x.a ∉ g x.t := fun h => by have := HP.out.1.2 h; omega
              have HEV := Aside0.mk (show evStep g out x = (updL g x.t (g x.t ++ [x.a]), out ++ prs (g x.t) x.a (g x.t).length) by
                unfold evStep
                rw [if_pos HK13.out, if_neg hnm, prs_all])
              clear hnm
              go_wp2_with fail
              have HGa := Aside0.mk (HGL5.out.below (below_alloc (below_drew (Below.refl wr.heap.size wr)) (.cells #[Value.int .i64 x.a] 3)))
              have HEa := Aside0.mk (HE.out.below (below_alloc (below_drew (Below.refl wr.heap.size wr)) (.cells #[Value.int .i64 x.a] 3)))
              refine wp_eff (S := EvAt gx x) [(0, false), (1, false), (2, false), (3, false), (4, false), (5, false), (6, true), (7, true), (8, true)] (by kernel_rfl) (by kernel_rfl) (HE.out.below (below_drew (Below.refl _ _))) (fun _ _ d _ _ h => by cases d <;> exact h) ?_
              refine se_move rfl rfl rfl ?_
              refine se_un (v := .pointer (some ⟨gx, 2, none⟩)) rfl rfl rfl rfl rfl (fun w' hw => by go_simp) ?_
              refine se_load (v := .int .i64 x.t) rfl rfl rfl (fun w' hw => load2 hw) ?_
              refine se_move rfl rfl rfl ?_
              refine se_un (v := .pointer (some ⟨gx, 6, none⟩)) rfl rfl rfl rfl rfl (fun w' hw => by go_simp) ?_
              refine se_load (v := .int .i64 x.a) rfl rfl rfl (fun w' hw => load6 hw) ?_
              refine se_lit (vs := [(0, .int .i64 x.a)]) rfl rfl rfl (run_lit3 _ _) HEa.out ?_
              obtain ⟨v1, x1, hx1, ho1, hb1, hg1, hat1⟩ := own_app (w0 := wr) (b + 1) (valAt m x.t) (g x.t) x.a _ (HGa.out.row x.t) (reads_lit wr.drew [x.a] (by simp) 3) (Below.alloc (below_drew (Below.refl (b + 1) wr)) HSZ.out _) (Nat.le_trans HSZ.out (below_alloc (below_drew (Below.refl wr.heap.size wr)) (.cells #[Value.int .i64 x.a] 3)).size) (by omega)
              have he1 := HEa.out.grownO hg1 HOG.out.1
              rw [HV8.out] at hx1
              refine se_made rfl rfl rfl hx1 he1 ?_
              obtain ⟨x2, hu, hh2, hg2, hs2⟩ := Mp.update_run keyI Try.underlying67 (HGa.out.mapGrown hg1) x.t v1
              have he2 := he1.grown hg2 HOG.out.2.2
              refine se_mapUpd rfl rfl rfl rfl rfl hu he2 ?_
              have HG7 := Aside0.mk (HGa.out.turn hg1 ho1 hat1 hh2 hg2)
              have HB6 := Below.trans HB.out (Below.mono hb1 HBO.out.2)
              have HB7 := Aside0.mk (Below.grown HB6 hg2 HB6.size (fun k hk => by cases hk; rw [HBE.out]; exact Nat.le_refl _))
              have HSZ7 := Aside0.mk (Nat.le_trans (Nat.le_trans HSZ.out hb1.size) hg2.size)
              clear HGa HEa he1 he2 hx1 ho1 hb1 hg1 hat1 hu hh2 hg2 hs2 HB6 HB HSZ HGL5 k0 k2 k6 HE HV
              intro _
              simp only [puts, Act.put, List.setIfInBounds_toArray, List.set_cons_zero, List.set_cons_succ]
              have HLN := Aside0.mk HEL.out
              go_wp2
              go_roundw
              case rel => exact ⟨i + 1, _, _, _, by go_num, hlt, ⟨by have h := HLN.out.1; rw [HEV.out] at h; exact h⟩, ⟨by have h1 := HOL.out; have h2 := prs_len (g x.t) x.a (g x.t).length; rw [List.length_append]; omega⟩, ⟨by have h := HN.out; rw [HEV.out] at h; exact h⟩, HG7, HB7, HSZ7⟩
              case measure => simp [intOf]; omega
            · have hm : x.a ∈ g x.t := HP.out.1.1 (by omega)
              have HEV := Aside0.mk (show evStep g out x = (g, out ++ prs (g x.t) x.a (g x.t).length) by
                unfold evStep
                rw [if_pos HK13.out, if_pos hm, prs_all])
              have hp1 : 0 ≤ p := by omega
              clear hm
              go_wp2
              go_roundw
              case rel => exact ⟨i + 1, m, g, _, by go_num, hlt, ⟨fun t => by have := HGL.out t; omega⟩, ⟨by have h1 := HOL.out; have h2 := prs_len (g x.t) x.a (g x.t).length; rw [List.length_append]; omega⟩, ⟨by have h := HN.out; rw [HEV.out] at h; exact h⟩, HGL5, HB, HSZ⟩
              case measure => simp [intOf]; omega
      · by_cases hk14 : x.k = 14 ∧ 0 ≤ p
        · have HK13 := Aside0.mk hk13
          obtain ⟨hk14, hp0⟩ := hk14
          have d1 : (x.k == 13) = false := beq_eq_false_iff_ne.2 hk13
          have d2 : (x.k == 14) = true := beq_iff_eq.2 hk14
          obtain ⟨q, rfl, hq, hq1, hq2⟩ := HP.out.2.1 hp0
          have hm : x.a ∈ g x.t := HP.out.1.1 hp0
          have HEV := Aside0.mk (show evStep g out x = (updL g x.t ((g x.t).take q ++ (g x.t).drop (q + 1)), out) by
            unfold evStep
            rw [if_neg HK13.out, if_pos ⟨hk14, hm⟩, take_erase (g x.t) q x.a hq hq1 hq2])
          have hq200 : q < 200 := by have := HOL2.out; omega
          have hw1 : wrap64 ((q : Int) + 1) = ((q + 1 : Nat) : Int) := by unfold wrap64; omega
          clear hk13 hk14 hm hq1 hq2
          go_wp2_with fail
          have HGa := Aside0.mk (HG4.out.below (below_drew (Below.refl w4.heap.size w4)))
          have HEa := Aside0.mk (HE4.out.below (below_drew (Below.refl w4.heap.size w4)))
          refine wp_eff (S := EvAt gx x) [(0, false), (1, false), (2, false), (3, false), (4, false), (5, false), (6, false), (7, true), (8, true)] (by kernel_rfl) (by kernel_rfl) HEa.out (fun _ _ d _ _ h => by cases d <;> exact h) ?_
          refine se_move rfl rfl rfl ?_
          refine se_un (v := .pointer (some ⟨gx, 2, none⟩)) rfl rfl rfl rfl rfl (fun w' hw => by go_simp) ?_
          refine se_load (v := .int .i64 x.t) rfl rfl rfl (fun w' hw => load2 hw) ?_
          refine se_move rfl rfl rfl ?_
          refine se_move rfl rfl rfl ?_
          refine se_move rfl rfl rfl ?_
          refine se_bin (v := .int .i64 ((q + 1 : Nat) : Int)) rfl rfl rfl rfl (fun w' hw => by go_simp; exact wI_id (by unfold W64; omega)) ?_
          refine se_call (vs := [.slice A8 (g x.t).length d8, .int .i64 (q : Int), .int .i64 ((q + 1 : Nat) : Int)]) rfl rfl Try.func32 (by kernel_rfl) rfl (by kernel_rfl) ?_
          have hdc := delete_calls w4.drew (b + 1) (valAt m x.t) (g x.t) q (HGa.out.row x.t) hq
          rw [HV8.out] at hdc
          refine hdc.mono ?_
          rintro en x1 ⟨v1, rfl, ho1, hg1, hat1⟩
          rw [← HV8.out] at hg1 hat1
          have he1 := HEa.out.grownO hg1 HOG.out.1
          refine ⟨v1, rfl, he1, ?_⟩
          obtain ⟨x2, hu, hh2, hg2, hs2⟩ := Mp.update_run keyI Try.underlying67 (HGa.out.mapGrown hg1) x.t v1
          have he2 := he1.grown hg2 HOG.out.2.2
          refine se_mapUpd rfl rfl rfl rfl rfl hu he2 ?_
          have HG7 := Aside0.mk (HGa.out.turn hg1 ho1 (.inl hat1) hh2 hg2)
          have HB6 := Below.grown (below_drew HB4.out) hg1 (below_drew HB4.out).size (fun k hk => Nat.le_trans HBO.out.2 (own_base (HGa.out.row x.t) k hk))
          have HB7 := Aside0.mk (Below.grown HB6 hg2 HB6.size (fun k hk => by cases hk; rw [HBE.out]; exact Nat.le_refl _))
          have HSZ7 := Aside0.mk (Nat.le_trans (Nat.le_trans HSZ4.out hg1.size) hg2.size)
          clear HGa HEa he1 he2 hdc ho1 hg1 hat1 hu hh2 hg2 hs2 HB6 HB4 HSZ4 HG4 k0 k2 k6 HE4
          intro _
          simp only [puts, Act.put, List.setIfInBounds_toArray, List.set_cons_zero, List.set_cons_succ]
          go_wp2
          go_roundw
          case rel => exact ⟨i + 1, _, _, _, by go_num, hlt, ⟨by have h := HEL.out.1; rw [HEV.out] at h; exact h⟩, ⟨by have h1 := HOL.out; omega⟩, ⟨by have h := HN.out; rw [HEV.out] at h; exact h⟩, HG7, HB7, HSZ7⟩
          case measure => simp [intOf]; omega
        · have HEV := Aside0.mk (show evStep g out x = (g, out) by
            unfold evStep
            rw [if_neg hk13, if_neg (fun h => hk14 ⟨h.1, HP.out.1.2 h.2⟩)])
          have d1 : (x.k == 13) = false := beq_eq_false_iff_ne.2 hk13
          by_cases hk4 : x.k = 14
          · have d2 : (x.k == 14) = true := beq_iff_eq.2 hk4
            have hp : p < 0 := by
              rcases Int.lt_or_le p 0 with h | h
              · exact h
              · exact absurd ⟨hk4, h⟩ hk14
            clear hk13 hk14 hk4
            go_wp2
            go_roundw
            case rel => exact ⟨i + 1, m, g, _, by go_num, hlt, ⟨fun t => by have := HGL.out t; omega⟩, ⟨by have h1 := HOL.out; omega⟩, ⟨by have h := HN.out; rw [HEV.out] at h; exact h⟩, HG4, HB4, HSZ4⟩
            case measure => simp [intOf]; omega
          · have d2 : (x.k == 14) = false := beq_eq_false_iff_ne.2 hk4
            clear hk13 hk14 hk4
            go_wp2
            go_roundw
            case rel => exact ⟨i + 1, m, g, _, by go_num, hlt, ⟨fun t => by have := HGL.out t; omega⟩, ⟨by have h1 := HOL.out; omega⟩, ⟨by have h := HN.out; rw [HEV.out] at h; exact h⟩, HG4, HB4, HSZ4⟩
            case measure => simp [intOf]; omega
    · have HFE := Aside0.mk (show out = ps by
        have h := HF.out
        rw [List.drop_eq_nil_of_le (by omega)] at h
        simp only [evFold] at h
        have h2 := HPS.out
        rw [← h] at h2
        exact h2)
      have hle : l.length ≤ i := by omega
      clear HF
      have HPR := Aside0.mk (show Kd.R k32 32 wr w.heap.size (fun _ => True) u5 ps by have h := HG.out.outr; rw [HFE.out] at h; exact Kd.R_lower h HBO.out.2)
      clear HG
      go_wp2_with fail
      refine (HFI.out _ _ HPR.out).mono ?_
      rintro en w5 ⟨rfl, ys, hperm, hsrt, hR5, hg5⟩
      have HPM := Aside0.mk hperm
      have HSR := Aside0.mk hsrt
      have HR5 := Aside0.mk hR5
      have HB5 := Aside0.mk (Below.grown HB.out hg5 HB.out.size (fun k hk => by obtain ⟨inner, ho⟩ := Kd.R_own HPR.out; exact own_base ho k hk))
      clear hperm hsrt hR5 hg5 HB HSZ
      go_wp2_with fail
      refine (HCO.out _ _ ys HPM.out HSR.out HR5.out).mono ?_
      rintro en w6 ⟨v1, zs, rfl, rfl, hR6, hg6⟩
      have HR6 := Aside0.mk hR6
      have HB6 := Aside0.mk (Below.grown HB5.out hg6 HB5.out.size (fun k hk => by obtain ⟨inner, ho⟩ := Kd.R_own HR5.out; exact own_base ho k hk))
      clear hR6 hg6
      go_wp2
      exact bodyPost_ret (v := .tuple #[v1, .int .i64 0]) (by simp [results, Try.f16, go_sem]) rfl ⟨_, ys, rfl, HPM.out, HSR.out, HR6.out, HB6.out⟩
end Go.Proofs.Ytginlhengebgaaa.Lk
namespace Go.Proofs.Ytginlhengebgaaa.Lk
open Go Go.RowKit Go.Maps Go.Proofs.YtginlhengebgaaaW Go.Proofs.YtginlhengebgaaaW.PrintWords Go.Proofs.YtginlhengebgaaaW.PrintLast Go.Proofs.YtginlhengebgaaaW.PrintMore Go.Proofs.Ytginlhengebgaaa.PLockupEither Go.Proofs.Ytginlhengebgaaa.Bs Go.Proofs.Ytginlhengebgaaa.RegionVal
open Go.Lib hiding intOf
set_option linter.unusedVariables false
set_option linter.unusedSimpArgs false

theorem s32_ext {x y : S32} (h0 : x.f0 = y.f0) (h1 : x.f1 = y.f1) : x = y := by
  cases x; cases y; simp only at h0 h1; rw [h0, h1]
theorem dd2_snoc : ∀ (l : List S32) (p z : S32), dd2 p (l ++ [z]) = dd2 p l ++ (if (l.getLast?.getD p).f0 = z.f0 ∧ (l.getLast?.getD p).f1 = z.f1 then [] else [z])
  | [], p, z => by
    show dd2 p [z] = [] ++ (if p.f0 = z.f0 ∧ p.f1 = z.f1 then [] else [z])
    rw [List.nil_append]
    simp only [dd2]
  | y :: l, p, z => by
    have h := dd2_snoc l y z
    have e : (y :: l).getLast?.getD p = l.getLast?.getD y := by
      cases l with
      | nil => rfl
      | cons a b => simp [List.getLast?_cons]
    rw [e, List.cons_append]
    simp only [dd2]
    rw [h]
    by_cases hpy : p.f0 = y.f0 ∧ p.f1 = y.f1
    · rw [if_pos hpy, if_pos hpy]
    · rw [if_neg hpy, if_neg hpy]
      rfl
theorem dd_take {L : List S32} {t : Nat} (h1 : t + 1 < L.length) : dd (L.take (t + 1 + 1)) = dd (L.take (t + 1)) ++ (if L[t].f0 = L[t + 1].f0 ∧ L[t].f1 = L[t + 1].f1 then [] else [L[t + 1]]) := by
  rw [List.take_succ_eq_append_getElem h1]
  cases L with
  | nil => simp at h1
  | cons x l =>
    have h2 : t < l.length := by simpa using h1
    rw [List.take_succ_cons, List.cons_append]
    simp only [dd]
    rw [dd2_snoc, List.cons_append]
    have e : ((l.take t).getLast?.getD x) = (x :: l)[t]'(by simp; omega) := by
      cases t with
      | zero => rfl
      | succ t =>
        rw [List.getLast?_take, if_neg (by omega)]
        simp [show t < l.length by omega]
    rw [e]
theorem dd_short {L : List S32} (h : L.length < 2) : dd L = L := by
  match L, h with
  | [], _ => rfl
  | [x], _ => rfl
def v32 (x : S32) : Value := .agg (c32 x).toArray
theorem eq32_same (i j : Nat) (x : S32) (W : World) : Sem.run Try.prog (do eqGuard .eql 32 (.tmp i) (.tmp j) (v32 x) (v32 x); binOp .eql 32 (v32 x) (v32 x) : Sem Value) W = .ok (.bool true) W := by
  have hu := Try.underlying32
  unfold v32 c32
  go_simp
theorem eq32_ne (i j : Nat) (x y : S32) (hk : ¬ (x.f0 = y.f0 ∧ x.f1 = y.f1)) (W : World) : Sem.run Try.prog (do eqGuard .eql 32 (.tmp i) (.tmp j) (v32 x) (v32 y); binOp .eql 32 (v32 x) (v32 y) : Sem Value) W = .ok (.bool false) W := by
  have hu := Try.underlying32
  unfold v32 c32
  by_cases h0 : x.f0 = y.f0
  · have h1 : x.f1 ≠ y.f1 := fun h => hk ⟨h0, h⟩
    rw [h0]
    clear h0
    go_simp
  · go_simp
theorem eq32_of (i j : Nat) (x y : S32) (h : x = y) (W : World) : Sem.run Try.prog (do eqGuard .eql 32 (.tmp i) (.tmp j) (v32 x) (v32 y); binOp .eql 32 (v32 x) (v32 y) : Sem Value) W = .ok (.bool true) W := by
  rw [h]
  exact eq32_same i j y W
theorem ne32_same (i j : Nat) (x : S32) (W : World) : Sem.run Try.prog (do eqGuard .neq 32 (.tmp i) (.tmp j) (v32 x) (v32 x); binOp .neq 32 (v32 x) (v32 x) : Sem Value) W = .ok (.bool false) W := by
  have hu := Try.underlying32
  unfold v32 c32
  go_simp
theorem ne32_of (i j : Nat) (x y : S32) (h : x = y) (W : World) : Sem.run Try.prog (do eqGuard .neq 32 (.tmp i) (.tmp j) (v32 x) (v32 y); binOp .neq 32 (v32 x) (v32 y) : Sem Value) W = .ok (.bool false) W := by
  rw [h]
  exact ne32_same i j y W
theorem ne32_ne (i j : Nat) (x y : S32) (hk : ¬ (x.f0 = y.f0 ∧ x.f1 = y.f1)) (W : World) : Sem.run Try.prog (do eqGuard .neq 32 (.tmp i) (.tmp j) (v32 x) (v32 y); binOp .neq 32 (v32 x) (v32 y) : Sem Value) W = .ok (.bool true) W := by
  have hu := Try.underlying32
  unfold v32 c32
  by_cases h0 : x.f0 = y.f0
  · have h1 : x.f1 ≠ y.f1 := fun h => hk ⟨h0, h⟩
    rw [h0]
    clear h0
    go_simp
  · go_simp
abbrev RE (w : World) (base g n c : Nat) (xs : List S32) : Prop := Kd.R k32 32 w base (fun _ => True) (.slice (some ⟨g, 0, none⟩) n c) xs
theorem RE.len {w : World} {base g n c : Nat} {xs : List S32} (h : RE w base g n c xs) : n = xs.length := (Kd.R_reads' h).1
theorem RE.cells {w : World} {base g n c : Nat} {xs : List S32} (h : RE w base g n c xs) (i : Nat) (hi : i < xs.length) : w.rangeAt g (i * 2) (c32 xs[i]) := by
  obtain ⟨cs, hcl, hM, hcell, _⟩ := Kd.R_elem h z32 (i : Int) (by omega) (by have := h.len; omega)
  rw [show xs.getD (Int.toNat (i : Int)) z32 = xs[i] by simp [List.getD_eq_getElem?_getD, hi]] at hM
  obtain rfl := k32_openM hM
  intro j v hv
  have := hcell j v hv
  rwa [Int.toNat_natCast] at this
theorem info32 : (Try.prog.info? 32).map (·.size) = some 2 := by kernel_rfl
theorem RE.load {w : World} {base g n c : Nat} {xs : List S32} (h : RE w base g n c xs) (i : Nat) (hi : i < xs.length) : Sem.run Try.prog (Instr.loadAt 32 (.pointer (some ⟨g, i * 2, none⟩))) w = .ok (v32 xs[i]) w :=
  run_loadAt_mid w g (i * 2) 32 (c32 xs[i]) _ (h.cells i hi) Try.underlying32 rfl info32
theorem RE.blk {w : World} {base g n c : Nat} {xs : List S32} (h : RE w base g n c xs) : ∃ cur, base ≤ g ∧ w.heap[g]? = some (.cells cur 32 (0, 0)) ∧ n ≤ c ∧ c ≤ maxLen ∧ cur.size = c * 2 ∧ cur.toList.take (n * 2) = flat xs := by
  obtain ⟨_, inner, ho, hr⟩ := h
  have hi := flat_of hr
  rcases ho.2 with ⟨hv, _⟩ | ⟨g', cap', cur, hv, hb, hh, hnc, hcm, hcs, htk⟩
  · cases hv
  injection hv with ha hb' hc
  injection ha with ha
  injection ha with hg'
  subst hg'; subst hc
  have hn := RE.len (w := w) (base := base) (g := g) (n := n) (c := c) (xs := xs) ⟨fun _ _ => trivial, inner, ho, hr⟩
  exact ⟨cur, hb, hh, by omega, hcm, hcs, by rw [← hi]; rw [hn]; exact htk⟩
theorem RE.mk' {w : World} {base g n c : Nat} {xs : List S32} (cur : Array Value) (hl : xs.length = n) (hb : base ≤ g) (hh : w.heap[g]? = some (.cells cur 32 (0, 0))) (hnc : n ≤ c) (hcm : c ≤ maxLen) (hcs : cur.size = c * 2) (htk : cur.toList.take (n * 2) = flat xs) : RE w base g n c xs := by
  subst hl
  exact ⟨fun k hk => trivial, flat xs, ⟨by rw [flat_len]; rfl, .inr ⟨g, c, cur, rfl, hb, hh, hnc, hcm, hcs, htk⟩⟩, reps_flat _ _ _ _⟩
theorem RE.store {w : World} {base g n c : Nat} {xs : List S32} (h : RE w base g n c xs) (i : Nat) (hi : i < xs.length) (x : S32) :
    ∃ w', Sem.run Try.prog (Instr.storeAt 32 (.pointer (some ⟨g, i * 2, none⟩)) (v32 x)) w = .ok () w' ∧ RE w' base g n c (xs.set i x) ∧ w.grownBy w' (some g) := by
  have hn := h.len
  obtain ⟨hR, hgr⟩ := Kd.R_seg (d := k32) h (i : Int) (by omega) (by omega) (c := c32 xs[i]) (j := 0) (seg := c32 x) (x' := x) (okp := fun _ => False) rfl (fun j u hu => by
    have := h.cells i hi j u hu
    rwa [Int.toNat_natCast]) (Nat.le_refl 2) (by
    rw [List.take_zero, List.nil_append, List.drop_eq_nil_of_le (by simp [c32]), List.append_nil]
    exact k32_mkM _ _ _ x) (fun _ hk => hk.elim)
  obtain ⟨cur, hb, hh, hnc, hcm, hcs, _⟩ := h.blk
  have hrun := run_store_run (P := Try.prog) 32 (v32 x) (c32 x) (o := i * 2) hh rfl info32 (by
    rw [hcs]
    show i * 2 + 2 ≤ c * 2
    omega) (by
    intro q hq
    simp only [c32, List.mem_cons, List.not_mem_nil, or_false] at hq
    rcases hq with rfl | rfl <;> rfl)
  exact ⟨_, hrun, hR, hgr⟩
theorem RE.below {w w' : World} {base g n c : Nat} {xs : List S32} (h : RE w base g n c xs) (hb : Below w.heap.size w w') : RE w' base g n c xs := Kd.R_below h hb
theorem zero32 (w : World) : (zeroValue 32).run Try.prog w = .ok (.agg #[.int .i64 0, .int .i64 0]) w := by kernel_rfl
theorem zeros_eq (n : Nat) : (Builtin.zeroCells (Value.agg #[.int .i64 0, .int .i64 0]).cells n).toList = List.replicate (n * 2) (.int .i64 0) := by
  apply List.ext_getElem
  · simp [Builtin.zeroCells, Value.cells]
  · intro t h1 h2
    have hm : t % 2 < 2 := Nat.mod_lt _ (by omega)
    simp [Builtin.zeroCells, Value.cells]
    rcases Nat.mod_two_eq_zero_or_one t with h | h <;> simp [h]
/-- the stretch from i on is cleared; what is ahead of it stays -/
theorem RE.clear {w : World} {base g n c : Nat} {xs : List S32} (h : RE w base g n c xs) (i : Nat) (hi : i < n) (ty : TypeId) :
    ∃ w', (Builtin.clear_ #[28] ty #[.slice (some ⟨g, i * 2, none⟩) (n - i) (c - i)]).run Try.prog w = .ok (.tuple #[]) w' ∧ RE w' base g i c (xs.take i) ∧ w.grownBy w' (some g) := by
  have hn := h.len
  obtain ⟨cur, hb, hh, hnc, hcm, hcs, htk⟩ := h.blk
  have hst := run_storeCells_cells (P := Try.prog) g (i * 2) (List.replicate ((n - i) * 2) (Value.int .i64 0)) 0 w (fun j hj => by
    rw [List.length_replicate] at hj
    rw [blk_cell hh, Array.getElem?_eq_getElem (by omega)]
    rfl) (fun j hj => blk_frozen hh _) (by intro v hv'; rw [List.eq_of_mem_replicate hv']; rfl)
  simp only [Nat.add_zero] at hst
  have hrun : (Builtin.clear_ #[28] ty #[.slice (some ⟨g, i * 2, none⟩) (n - i) (c - i)]).run Try.prog w = .ok (.tuple #[]) (w.setCells g (i * 2) (List.replicate ((n - i) * 2) (Value.int .i64 0))) := by
    obtain ⟨m, hm⟩ : ∃ m, n - i = m + 1 := ⟨n - i - 1, by omega⟩
    rw [hm] at hst ⊢
    simp [Builtin.clear_, run_underlying Try.underlying28, zero32, zeros_eq, hst]
  obtain ⟨cs', h1, h2, h3⟩ := setCells_row (List.replicate ((n - i) * 2) (Value.int .i64 0)) (i * 2) w cur hh (by rw [List.length_replicate, hcs]; omega)
  refine ⟨_, hrun, RE.mk' cs' (by rw [List.length_take]; omega) hb h1 (by omega) hcm (by rw [h2, hcs]) ?_, ⟨(setCells_same g _ _ _).1, (setCells_same g _ _ _).2.1, (setCells_same g _ _ _).2.2.1, Nat.le_of_eq (setCells_same g _ _ _).2.2.2.symm, fun k _ hne => setCells_far _ _ _ (fun e => hne (by rw [e]))⟩⟩
  rw [h3, List.append_assoc, List.take_left' (by rw [List.length_take, Array.length_toList, hcs]; omega)]
  have e1 : (cur.toList.take (n * 2)).take (i * 2) = (flat xs).take (i * 2) := by rw [htk]
  rw [List.take_take, Nat.min_eq_left (by omega)] at e1
  rw [e1]
  clear e1 htk h3 h2 h1 hrun hst hcs hcm hnc hh hb h hn hi
  induction xs generalizing i with
  | nil => simp [flat]
  | cons x l ih =>
    cases i with
    | zero => simp [flat]
    | succ i =>
      rw [flat_cons, show (i + 1) * 2 = i * 2 + 1 + 1 by omega, List.take_succ_cons, List.take_succ_cons, List.take_succ_cons, flat_cons, ih]
structure St (w0 : World) (base g n c : Nat) (L : List S32) (w : World) : Prop where
  re : RE w base g n c L
  gr : w0.grownBy w (some g)
theorem St.below {w0 w w' : World} {base g n c : Nat} {L : List S32} (h : St w0 base g n c L w) (hb : Below w.heap.size w w') : St w0 base g n c L w' := ⟨h.re.below hb, gb_trans h.gr (gb_below _ hb)⟩
end Go.Proofs.Ytginlhengebgaaa.Lk
namespace Go.Proofs.Ytginlhengebgaaa.Lk
open Go Go.RowKit Go.Maps Go.Proofs.YtginlhengebgaaaW Go.Proofs.YtginlhengebgaaaW.PrintWords Go.Proofs.YtginlhengebgaaaW.PrintLast Go.Proofs.YtginlhengebgaaaW.PrintMore Go.Proofs.Ytginlhengebgaaa.PLockupEither Go.Proofs.Ytginlhengebgaaa.Bs Go.Proofs.Ytginlhengebgaaa.RegionVal
open Go.Lib hiding intOf
set_option linter.unusedVariables false
set_option linter.unusedSimpArgs false

set_option maxHeartbeats 16000000 in
set_option maxRecDepth 100000 in
theorem compact_calls (w : World) (base : Nat) (v : Value) (L : List S32) (hR : Kd.R k32 32 w base (fun _ => True) v L) (hl : L.length ≤ 100000) :
    Calls Try.prog 35 #[v] w fun e w' => ∃ v1 zs, e = .returned v1 ∧ zs = dd L ∧ Kd.R k32 32 w' base (fun _ => True) v1 zs ∧ w.grownBy w' v.ownBlock := by
  obtain ⟨A, c, rfl, hc, hrd⟩ := Kd.R_reads hR
  clear hrd
  have HR := Aside0.mk hR
  by_cases hl2 : L.length < 2
  · have hl3 : (L.length : Int) < 2 := by omega
    clear hR
    go_enter Try.func35, Try.ntmps35
    go_wp2
    exact bodyPost_ret (v := .slice A L.length c) (by simp [results, Try.f35, go_sem]) rfl ⟨_, L, rfl, (dd_short hl2).symm, HR.out, World.grownBy.refl w _⟩
  · have hl3 : (2 : Int) ≤ (L.length : Int) := by omega
    obtain ⟨g, hA⟩ : ∃ g, A = some ⟨g, 0, none⟩ := by
      obtain ⟨inner, ho⟩ := Kd.R_own hR
      rcases ho.2 with ⟨hv, hn⟩ | ⟨g', cap', cur, hv, _⟩
      · injection hv with _ h2 _
        omega
      · injection hv with ha _ _
        exact ⟨g', ha⟩
    subst hA
    have HS0 := Aside0.mk (show St w base g L.length c L w from ⟨hR, World.grownBy.refl w _⟩)
    have HOB := Aside0.mk (show (Value.slice (some ⟨g, 0, none⟩) L.length c).ownBlock = some g from rfl)
    obtain ⟨n, hn⟩ : ∃ n, n = L.length := ⟨_, rfl⟩
    have HN := Aside0.mk hn
    rw [← hn] at hl hl2 hl3 HS0 HOB hc ⊢
    clear hn
    clear hR HR
    go_enter Try.func35, Try.ntmps35
    go_wp2_with fail
    go_loopw [3] (fun v3 wr => ∃ k : Nat, v3 = .int .i64 (k : Int) ∧ 1 ≤ k ∧ k ≤ n ∧ Aside0 (dd (L.take k) = L.take k) ∧ Aside0 (St w base g n c L wr)) (fun v3 _ => n - (intOf v3).toNat)
    case atStart => exact ⟨1, rfl, Nat.le_refl _, by omega, ⟨dd_short (by rw [List.length_take]; omega)⟩, HS0⟩
    case round =>
      clear HS0
      obtain ⟨k, rfl, hk1, hkn, HD, HST⟩ := hrel
      by_cases hlt : k < n
      · have hlt1 : (k : Int) < (n : Int) := by omega
        obtain ⟨t, hkt⟩ : ∃ t, k = t + 1 := ⟨k - 1, by omega⟩
        have HKT := Aside0.mk hkt
        have hwk : IntKind.i64.wrap ((k : Int) - 1) = (t : Int) := by rw [IntKind.wrap_i64]; omega
        have ht1 : (t : Int) < (n : Int) := by omega
        have hkL : k < L.length := by have := HN.out; omega
        have htL : t < L.length := by have := HN.out; omega
        obtain ⟨y, hy⟩ : ∃ y, y = L[k]'hkL := ⟨_, rfl⟩
        obtain ⟨x, hx⟩ : ∃ x, x = L[t]'htL := ⟨_, rfl⟩
        have HLy := Aside0.mk (show ∀ w', St w base g n c L w' → Sem.run Try.prog (Instr.loadAt 32 (.pointer (some ⟨g, k * 2, none⟩))) w' = .ok (v32 y) w' from fun w' h => by rw [hy]; exact h.re.load k _)
        have HLx := Aside0.mk (show ∀ w', St w base g n c L w' → Sem.run Try.prog (Instr.loadAt 32 (.pointer (some ⟨g, t * 2, none⟩))) w' = .ok (v32 x) w' from fun w' h => by rw [hx]; exact h.re.load t _)
        have hdt : dd (L.take (k + 1)) = L.take k ++ (if x.f0 = y.f0 ∧ x.f1 = y.f1 then [] else [y]) := by
          have h := HD.out
          have hkt := HKT.out
          subst hkt
          rw [dd_take (L := L) (t := t) (by have := HN.out; omega), h, hx, hy]
        have hYE := hy
        clear hx hy hkt
        by_cases hxy : x.f0 = y.f0 ∧ x.f1 = y.f1
        · have HXY := Aside0.mk (s32_ext hxy.1 hxy.2)
          rw [if_pos hxy, List.append_nil] at hdt
          have HDT := Aside0.mk hdt
          clear hdt hxy hYE HD
          go_wp2_with fail
          refine wp_eff (S := St w base g n c L) [(0, false), (1, false), (2, false), (3, false), (4, false), (5, false), (6, false), (7, false), (8, false), (9, false)] (by kernel_rfl) (by kernel_rfl) (HST.out.below (below_drew1 (Below.refl _ _))) (fun _ _ d _ _ h => by cases d <;> exact h) ?_
          refine se_move rfl rfl rfl ?_
          refine se_move rfl rfl rfl ?_
          refine se_indexAddr (v := .pointer (some ⟨g, k * 2, none⟩)) rfl rfl rfl rfl (fun w' hw => by go_simp) ?_
          refine se_load (v := v32 y) rfl rfl rfl (fun w' hw => HLy.out w' hw) ?_
          refine se_move rfl rfl rfl ?_
          refine se_move rfl rfl rfl ?_
          refine se_bin (v := .int .i64 ((t : Nat) : Int)) rfl rfl rfl rfl (fun w' hw => by go_simp) ?_
          refine se_indexAddr (v := .pointer (some ⟨g, t * 2, none⟩)) rfl rfl rfl rfl (fun w' hw => by go_simp) ?_
          refine se_load (v := v32 x) rfl rfl rfl (fun w' hw => HLx.out w' hw) ?_
          refine se_bin (v := .bool true) rfl rfl rfl rfl (fun w' hw => (eq32_of _ _ y x HXY.out.symm) w') ?_
          intro hR_
          have HST2 := Aside0.mk hR_
          clear hR_ HST
          have HST := HST2
          clear HST2
          simp only [SeqE, puts, Act.put, List.setIfInBounds_toArray, List.set_cons_zero, List.set_cons_succ]
          have hkc : k < c := by omega
          have hkc1 : (k : Int) < (c : Int) := by omega
          have hkn1 : (k : Int) ≤ (n : Int) := by omega
          go_wp2_with fail
          go_loopw [3, 5] (fun v3 v5 wr => ∃ (i q : Nat) (M : List S32), v3 = .int .i64 (i : Int) ∧ v5 = .int .i64 (q : Int) ∧ 1 ≤ q ∧ k + q ≤ n ∧ i < k + q ∧ Aside0 (M.length = n) ∧ Aside0 (M.take i = dd (L.take (k + q))) ∧ Aside0 (∀ j, k + q ≤ j + 1 → M[j]? = L[j]?) ∧ Aside0 (St w base g n c M wr)) (fun _ v5 _ => n - (intOf v5).toNat)
          case atStart => exact ⟨k, 1, L, rfl, rfl, Nat.le_refl _, by omega, by omega, ⟨HN.out.symm⟩, ⟨HDT.out.symm⟩, ⟨fun _ _ => rfl⟩, HST⟩
          case round =>
            clear HST HDT HLx HLy
            obtain ⟨i, q, M, rfl, rfl, hq1, hqn, hiq, HM, HMT, HMR, HST⟩ := hrel
            by_cases hlt2 : k + q < n
            · have hlt3 : (q : Int) < ((n - k : Nat) : Int) := by omega
              have hlt4 : q < n - k := by omega
              obtain ⟨p, hqp⟩ : ∃ p, q = p + 1 := ⟨q - 1, by omega⟩
              have hwq : IntKind.i64.wrap ((q : Int) - 1) = (p : Int) := by rw [IntKind.wrap_i64]; omega
              have hp3 : (p : Int) < ((n - k : Nat) : Int) := by omega
              have hp4 : p < n - k := by omega
              have hyL : k + q < L.length := by have := HN.out; omega
              have hxL : k + p < L.length := by have := HN.out; omega
              have hyM : k + q < M.length := by have := HM.out; omega
              have hxM : k + p < M.length := by have := HM.out; omega
              have HQP := Aside0.mk hqp
              obtain ⟨y, hy⟩ : ∃ y, y = M[k + q]'hyM := ⟨_, rfl⟩
              obtain ⟨x, hx⟩ : ∃ x, x = M[k + p]'hxM := ⟨_, rfl⟩
              have HLy := Aside0.mk (show ∀ w', St w base g n c M w' → Sem.run Try.prog (Instr.loadAt 32 (.pointer (some ⟨g, (k + q) * 2, none⟩))) w' = .ok (v32 y) w' from fun w' h => by rw [hy]; exact h.re.load (k + q) _)
              have HLx := Aside0.mk (show ∀ w', St w base g n c M w' → Sem.run Try.prog (Instr.loadAt 32 (.pointer (some ⟨g, (k + p) * 2, none⟩))) w' = .ok (v32 x) w' from fun w' h => by rw [hx]; exact h.re.load (k + p) _)
              have hyl : y = L[k + q]'hyL := by
                have h := HMR.out (k + q) (by omega)
                rw [List.getElem?_eq_getElem hyM, List.getElem?_eq_getElem hyL] at h
                rw [hy]; exact Option.some.inj h
              have hxl : x = L[k + p]'hxL := by
                have h := HMR.out (k + p) (by omega)
                rw [List.getElem?_eq_getElem hxM, List.getElem?_eq_getElem hxL] at h
                rw [hx]; exact Option.some.inj h
              have hdt : dd (L.take (k + q + 1)) = M.take i ++ (if x.f0 = y.f0 ∧ x.f1 = y.f1 then [] else [y]) := by
                subst hqp
                rw [HMT.out, hxl, hyl]
                exact dd_take (L := L) (t := k + p) hyL
              clear hy hx hyl hxl hqp
              by_cases hxy : x.f0 = y.f0 ∧ x.f1 = y.f1
              · have HXY := Aside0.mk (s32_ext hxy.1 hxy.2)
                rw [if_pos hxy, List.append_nil] at hdt
                have HDT := Aside0.mk hdt
                clear hdt hxy
                go_wp2_with fail
                refine wp_eff (S := St w base g n c M) [(0, false), (1, false), (2, false), (3, false), (4, false), (5, false), (6, false), (7, false), (8, false), (9, false)] (by kernel_rfl) (by kernel_rfl) (HST.out.below (below_drew1 (Below.refl _ _))) (fun _ _ d _ _ h => by cases d <;> exact h) ?_
                refine se_move rfl rfl rfl ?_
                refine se_move rfl rfl rfl ?_
                refine se_indexAddr (v := .pointer (some ⟨g, (k + q) * 2, none⟩)) rfl rfl rfl rfl (fun w' hw => by go_simp; try omega) ?_
                refine se_load (v := v32 y) rfl rfl rfl (fun w' hw => HLy.out w' hw) ?_
                refine se_move rfl rfl rfl ?_
                refine se_move rfl rfl rfl ?_
                refine se_bin (v := .int .i64 ((p : Nat) : Int)) rfl rfl rfl rfl (fun w' hw => by go_simp) ?_
                refine se_indexAddr (v := .pointer (some ⟨g, (k + p) * 2, none⟩)) rfl rfl rfl rfl (fun w' hw => by go_simp; try omega) ?_
                refine se_load (v := v32 x) rfl rfl rfl (fun w' hw => HLx.out w' hw) ?_
                refine se_bin (v := .bool false) rfl rfl rfl rfl (fun w' hw => (ne32_of _ _ y x HXY.out.symm) w') ?_
                intro hR_
                have HST2 := Aside0.mk hR_
                clear hR_ HST
                have HST := HST2
                clear HST2
                simp only [SeqE, puts, Act.put, List.setIfInBounds_toArray, List.set_cons_zero, List.set_cons_succ]
                go_wp2
                go_roundw
                case rel => exact ⟨i, q + 1, M, rfl, by go_num, by omega, by omega, by omega, HM, ⟨HDT.out.symm⟩, ⟨fun j hj => HMR.out j (by omega)⟩, HST⟩
                case measure => simp [intOf]; omega
              · have HNE := Aside0.mk (show ¬ (y.f0 = x.f0 ∧ y.f1 = x.f1) from fun h => hxy ⟨h.1.symm, h.2.symm⟩)
                rw [if_neg hxy] at hdt
                have HDT := Aside0.mk hdt
                have hin : (i : Int) < (n : Int) := by omega
                have hin2 : i < n := by omega
                clear hdt hxy
                go_wp2_with fail
                refine wp_eff (S := St w base g n c M) [(0, false), (1, false), (2, false), (3, false), (4, false), (5, false), (6, false), (7, false), (8, false), (9, false)] (by kernel_rfl) (by kernel_rfl) (HST.out.below (below_drew1 (Below.refl _ _))) (fun _ _ d _ _ h => by cases d <;> exact h) ?_
                refine se_move rfl rfl rfl ?_
                refine se_move rfl rfl rfl ?_
                refine se_indexAddr (v := .pointer (some ⟨g, (k + q) * 2, none⟩)) rfl rfl rfl rfl (fun w' hw => by go_simp; try omega) ?_
                refine se_load (v := v32 y) rfl rfl rfl (fun w' hw => HLy.out w' hw) ?_
                refine se_move rfl rfl rfl ?_
                refine se_move rfl rfl rfl ?_
                refine se_bin (v := .int .i64 ((p : Nat) : Int)) rfl rfl rfl rfl (fun w' hw => by go_simp) ?_
                refine se_indexAddr (v := .pointer (some ⟨g, (k + p) * 2, none⟩)) rfl rfl rfl rfl (fun w' hw => by go_simp; try omega) ?_
                refine se_load (v := v32 x) rfl rfl rfl (fun w' hw => HLx.out w' hw) ?_
                refine se_bin (v := .bool true) rfl rfl rfl rfl (fun w' hw => (ne32_ne _ _ y x HNE.out) w') ?_
                intro hR_
                have HST2 := Aside0.mk hR_
                clear hR_ HST
                have HST := HST2
                clear HST2
                simp only [SeqE, puts, Act.put, List.setIfInBounds_toArray, List.set_cons_zero, List.set_cons_succ]
                have HLz := Aside0.mk (show ∀ w', St w base g n c M w' → Sem.run Try.prog (Instr.loadAt 32 (.pointer (some ⟨g, k * 2 + q * 2, none⟩))) w' = .ok (v32 y) w' from fun w' h => by rw [← Nat.add_mul]; exact HLy.out w' h)
                have hiM : i < M.length := by have := HM.out; omega
                go_wp2_with (first
                  | ((with_reducible refine gate_dst (N := 50) rfl ?_); refine wpl_load (v := v32 y) rfl rfl rfl (HLz.out _ HST.out) ?_)
                  | ((with_reducible refine gate_store (t := 32) (p := 51) rfl ?_); obtain ⟨w2, hrun, hre, hgr⟩ := HST.out.re.store i hiM y; refine wpl_store rfl rfl rfl rfl rfl hrun ?_; have HST2 := Aside0.mk (show St w base g n c (M.set i y) w2 from ⟨hre, gb_trans HST.out.gr hgr⟩); clear hrun hre hgr)
                  | fail)
                go_roundw
                case rel => exact ⟨i + 1, q + 1, M.set i y, by go_num, by go_num, by omega, by omega, by omega, ⟨by rw [List.length_set]; exact HM.out⟩, ⟨by
                  have h := HDT.out
                  rw [show k + (q + 1) = k + q + 1 by omega, h, List.take_succ_eq_append_getElem (by rw [List.length_set]; exact hiM), List.getElem_set_self, List.take_set_of_le (Nat.le_refl _)]⟩, ⟨fun j hj => by rw [List.getElem?_set_ne (by omega)]; exact HMR.out j (by omega)⟩, HST2⟩
                case measure => simp [intOf]; omega
            · have hqe : k + q = n := by omega
              have hlt3 : ((n - k : Nat) : Int) ≤ (q : Int) := by omega
              have hlt4 : n - k ≤ q := by omega
              have hin2 : i < n := by omega
              have hin : (i : Int) < (n : Int) := by omega
              have hic : i < c := by omega
              have hic1 : (i : Int) < (c : Int) := by omega
              have hic2 : (i : Int) ≤ (c : Int) := by omega
              have HMF := Aside0.mk (show M.take i = dd L by
                have h := HMT.out
                rw [hqe, List.take_of_length_le (l := L) (by have := HN.out; omega)] at h
                exact h)
              clear HMT
              obtain ⟨w3, hcl, hre3, hg3⟩ := HST.out.re.clear i hin2 0
              have HRE3 := Aside0.mk (show RE w3 base g i c (dd L) by rw [← HMF.out]; exact hre3)
              have HG3 := Aside0.mk (gb_trans HST.out.gr hg3)
              have HIL := Aside0.mk (HRE3.out.len)
              clear hre3 hg3
              go_wp2
              exact bodyPost_ret (v := .slice (some ⟨g, 0, none⟩) i c) (by simp [results, Try.f35, go_sem]) rfl ⟨_, dd L, rfl, rfl, HRE3.out, HG3.out⟩
        · have HNE := Aside0.mk (show ¬ (y.f0 = x.f0 ∧ y.f1 = x.f1) from fun h => hxy ⟨h.1.symm, h.2.symm⟩)
          rw [if_neg hxy] at hdt
          have HDT := Aside0.mk (show dd (L.take (k + 1)) = L.take (k + 1) by rw [hdt, hYE, ← List.take_succ_eq_append_getElem])
          clear hdt hxy hYE HD
          go_wp2_with fail
          refine wp_eff (S := St w base g n c L) [(0, false), (1, false), (2, false), (3, false), (4, false), (5, false), (6, false), (7, false), (8, false), (9, false)] (by kernel_rfl) (by kernel_rfl) (HST.out.below (below_drew1 (Below.refl _ _))) (fun _ _ d _ _ h => by cases d <;> exact h) ?_
          refine se_move rfl rfl rfl ?_
          refine se_move rfl rfl rfl ?_
          refine se_indexAddr (v := .pointer (some ⟨g, k * 2, none⟩)) rfl rfl rfl rfl (fun w' hw => by go_simp) ?_
          refine se_load (v := v32 y) rfl rfl rfl (fun w' hw => HLy.out w' hw) ?_
          refine se_move rfl rfl rfl ?_
          refine se_move rfl rfl rfl ?_
          refine se_bin (v := .int .i64 ((t : Nat) : Int)) rfl rfl rfl rfl (fun w' hw => by go_simp) ?_
          refine se_indexAddr (v := .pointer (some ⟨g, t * 2, none⟩)) rfl rfl rfl rfl (fun w' hw => by go_simp) ?_
          refine se_load (v := v32 x) rfl rfl rfl (fun w' hw => HLx.out w' hw) ?_
          refine se_bin (v := .bool false) rfl rfl rfl rfl (fun w' hw => (eq32_ne _ _ y x HNE.out) w') ?_
          intro hR_
          have HST2 := Aside0.mk hR_
          clear hR_ HST
          have HST := HST2
          clear HST2
          simp only [SeqE, puts, Act.put, List.setIfInBounds_toArray, List.set_cons_zero, List.set_cons_succ]
          go_wp2
          go_roundw
          case rel => exact ⟨k + 1, by go_num, by omega, hlt, HDT, HST⟩
          case measure => simp [intOf]; omega
      · have hkn2 : k = n := by omega
        subst hkn2
        have HDF := Aside0.mk (show L = dd L by
          have h := HD.out
          rw [List.take_of_length_le (by have := HN.out; omega)] at h
          exact h.symm)
        clear HD
        go_wp2
        exact bodyPost_ret (v := .slice (some ⟨g, 0, none⟩) k c) (by simp [results, Try.f35, go_sem]) rfl ⟨_, L, rfl, HDF.out, HST.out.re, HST.out.gr⟩
end Go.Proofs.Ytginlhengebgaaa.Lk
namespace Go.Proofs.Ytginlhengebgaaa.Lk
open Go Go.RowKit Go.Maps Go.Proofs.YtginlhengebgaaaW Go.Proofs.YtginlhengebgaaaW.PrintWords Go.Proofs.YtginlhengebgaaaW.PrintLast Go.Proofs.YtginlhengebgaaaW.PrintMore Go.Proofs.Ytginlhengebgaaa.PLockupEither Go.Proofs.Ytginlhengebgaaa.Bs Go.Proofs.Ytginlhengebgaaa.RegionVal
open Go.Lib hiding intOf
set_option linter.unusedVariables false
set_option linter.unusedSimpArgs false

theorem sort_all (w : World) (bo : Nat) (v : Value) (xs : List S32) (h : Kd.R k32 32 w bo (fun _ => True) v xs) (hl : xs.length ≤ 100000) :
    Calls Try.prog 33 #[v, .func (.func 34) #[] #[]] w fun e w' => e = .returned (.tuple #[]) ∧ ∃ ys, ys.Perm xs ∧ SrtP ys ∧ Kd.R k32 32 w' bo (fun _ => True) v ys ∧ w.grownBy w' v.ownBlock := by
  by_cases hp : 0 < xs.length
  · exact sort_calls w bo v xs h hp hl
  · obtain rfl : xs = [] := List.eq_nil_of_length_eq_zero (by omega)
    obtain ⟨A, c, rfl, _, _⟩ := Kd.R_reads h
    refine (Go.Proofs.AnyF.slices_SortFunc_none sortLays A c _ w).mono ?_
    rintro e w' ⟨rfl, rfl⟩
    exact ⟨rfl, [], List.Perm.refl _, fun i j _ hj => absurd hj (by simp), h, World.grownBy.refl _ _⟩
theorem evFold_len : ∀ (l : List Ev) (g : Int → List Int) (out : List S32) (i : Nat), (∀ t, (g t).length ≤ i) → i + l.length ≤ 200 → (evFold l g out).2.length ≤ out.length + 200 * l.length
  | [], g, out, i, _, _ => by simp [evFold]
  | x :: l, g, out, i, hg, hi => by
    rw [List.length_cons] at hi
    obtain ⟨h1, h2⟩ := evStep_len g out x i hg
    have := evFold_len l (evStep g out x).1 (evStep g out x).2 (i + 1) h1 (by omega)
    simp only [evFold, List.length_cons]
    omega
theorem order_full (w : World) (A : Option Addr) (c : Nat) (l : List Ev) (hr : Kd.C k41 w A l.length l) (hc : l.length ≤ c) (hl : l.length ≤ 200) :
    Calls Try.prog 16 #[.slice A l.length c] w fun e w' => ∃ v ys, e = .returned (.tuple #[v, .int .i64 0]) ∧ ys.Perm (evFold l (fun _ => []) []).2 ∧ SrtP ys ∧ Kd.R k32 32 w' w.heap.size (fun _ => True) v (dd ys) ∧ Below w.heap.size w w' := by
  have hlen := evFold_len l (fun _ => []) [] 0 (fun _ => Nat.le_refl _) (by omega)
  rw [List.length_nil] at hlen
  refine order_calls w A c l _ hr hc hl rfl (fun W v h => sort_all W _ v _ h (by omega)) (fun W v ys hp _ h => compact_calls W _ v ys h (by rw [hp.length_eq]; omega))
theorem flatMap_get {α : Type} (ce : α → List Value) (sz : Nat) (hl : ∀ x, (ce x).length = sz) : ∀ (xs : List α) (j i : Nat) (hj : j < xs.length), i < sz → (xs.flatMap ce)[j * sz + i]? = (ce xs[j])[i]?
  | x :: xs, 0, i, hj, hi => by
    rw [List.flatMap_cons, Nat.zero_mul, Nat.zero_add, List.getElem?_append_left (by rw [hl]; exact hi)]
    rfl
  | x :: xs, j + 1, i, hj, hi => by
    rw [List.flatMap_cons, Nat.add_mul, Nat.one_mul, List.getElem?_append_right (by rw [hl]; omega), hl, show j * sz + sz + i - sz = j * sz + i by omega]
    exact flatMap_get ce sz hl xs j i (by simpa using hj) hi
/-- a literal row -/
theorem C_flat {α : Type} (d : Kd α) (ce : α → List Value) (hk : ∀ w x, d.K w x (ce x)) (hl : ∀ x, (ce x).length = d.sz) (xs : List α) (hx : xs.length ≤ 1000) {W : World} {g : Nat} {t : TypeId} (hb : W.heap[g]? = some (.cells (xs.flatMap ce).toArray t (0, 0))) : Kd.C d W (some ⟨g, 0, none⟩) xs.length xs := by
  refine ⟨rfl, by omega, fun _ => ⟨_, rfl, fun j p hj => ?_⟩⟩
  obtain ⟨hj1, rfl⟩ := List.getElem?_eq_some_iff.1 hj
  refine ⟨ce xs[j], hl _, hk _ _, fun i u hu => ?_⟩
  have hi : i < d.sz := by
    have := (List.getElem?_eq_some_iff.1 hu).1
    rw [hl] at this
    exact this
  rw [Addr.add_mid, blk_cell hb, List.getElem?_toArray, Nat.zero_add, flatMap_get ce d.sz hl xs j i hj1 hi]
  exact hu
def c30 (x : S30) : List Value := [.int .i64 x.f0, .int .i64 x.f1, .int .i64 x.f2]
theorem k30_mk (w : World) (x : S30) : k30.K w x (c30 x) := ⟨[.int .i64 x.f0], [.int .i64 x.f1, .int .i64 x.f2], rfl, rfl, [.int .i64 x.f1], [.int .i64 x.f2], rfl, rfl, rfl⟩
def lWaits : List S30 := [⟨3, 1, 0⟩, ⟨1, 2, 0⟩, ⟨2, 1, 0⟩]
def lEvs : List Ev := [⟨13, 0, 8⟩, ⟨13, 0, 4⟩, ⟨14, 0, 8⟩, ⟨13, 0, 6⟩]
def lPrs : List S32 := [⟨5, 2⟩, ⟨5, 1⟩, ⟨2, 1⟩]
theorem w_lP : ∀ p ∈ lPrs, W64 p.f0 ∧ W64 p.f1 := by unfold lPrs W64; intro p hp; simp at hp; rcases hp with rfl | rfl | rfl <;> simp
theorem w_l1 : ∀ p ∈ [(⟨1, 1⟩ : S32)], W64 p.f0 ∧ W64 p.f1 := by unfold W64; intro p hp; simp at hp; subst hp; simp
theorem ring_lW : ringF 20 lWaits = some ([1, 2], true, 0) := by kernel_rfl
theorem rank_lP : rankF 20 lPrs = some ([5, 2, 1], true, 0) := by kernel_rfl
theorem rank_l1 : rankF 20 [⟨1, 1⟩] = some ([], false, 0) := by kernel_rfl
theorem fold_lE : (evFold lEvs (fun _ => []) []).2 = [⟨8, 4⟩, ⟨4, 6⟩] := by kernel_rfl
theorem ord_lE {ys : List S32} (hp : ys.Perm [⟨8, 4⟩, ⟨4, 6⟩]) (hs : SrtP ys) : dd ys = [⟨4, 6⟩, ⟨8, 4⟩] := by
  have hlen := hp.length_eq
  match ys, hlen with
  | [a, b], _ =>
    have ha := hp.mem_iff (a := a)
    have hb := hp.mem_iff (a := b)
    simp at ha hb
    have h1 := hs 0 1 (by omega) (by simp)
    simp only [List.getElem_cons_zero, List.getElem_cons_succ] at h1
    rcases ha with rfl | rfl
    · rcases hb with rfl | rfl
      · exfalso
        have h2 := hp.mem_iff (a := ⟨4, 6⟩)
        simp at h2
      · exact absurd (Or.inl (by decide)) h1
    · rcases hb with rfl | rfl
      · simp [dd, dd2]
      · exfalso
        have h2 := hp.mem_iff (a := ⟨8, 4⟩)
        simp at h2
/-- a row of the call's own, whose cells lie at the head of a block -/
theorem RE.form {w : World} {base : Nat} {v : Value} {xs : List S32} (h : Kd.R k32 32 w base (fun _ => True) v xs) (n : Nat) (hn : xs.length = n) (hp : 0 < n) : ∃ g c, v = .slice (some ⟨g, 0, none⟩) n c := by
  subst hn
  obtain ⟨g, c, rfl, _⟩ := Kd.R_form h hp
  exact ⟨g, c, rfl⟩
set_option maxHeartbeats 16000000 in
set_option maxRecDepth 100000 in
theorem begun_calls (w : World) : Calls Try.prog 12 #[] w fun e w' => e = .returned (.bool true) ∧ Below w.heap.size w w' := by
  have HC0 := Aside0.mk (C_flat k30 c30 k30_mk (fun _ => rfl) lWaits (by decide) (heap_alloc_new w (.cells (lWaits.flatMap c30).toArray 30)))
  have HB0 := Aside0.mk (below_alloc (Below.refl w.heap.size w) (.cells (lWaits.flatMap c30).toArray 30))
  go_enter Try.func12, Try.ntmps12
  go_wp2_with fail
  refine (ring_calls 20 _ (some ⟨w.heap.size, 0, none⟩) 3 lWaits [1, 2] true 0 HC0.out (by decide) ring_lW).mono ?_
  rintro e w1 ⟨v1, rfl, ho1, hb1⟩
  have HB1 := Aside0.mk (below_then HB0.out HB0.out.size hb1)
  have HO1 := Aside0.mk (own_lower ho1 HB0.out.size)
  clear ho1 hb1 HC0 HB0
  have hba := below_alloc (Below.refl w1.heap.size w1) (.cells (lEvs.flatMap c41).toArray 41)
  have HC1 := Aside0.mk (C_flat k41 c41 (fun _ _ => rfl) (fun _ => rfl) lEvs (by decide) (heap_alloc_new w1 (.cells (lEvs.flatMap c41).toArray 41)))
  have HB1a := Aside0.mk (below_then HB1.out HB1.out.size hba)
  have HO1a := Aside0.mk (own_keep HO1.out hba)
  clear hba HB1 HO1
  go_wp2_with fail
  refine (order_full _ (some ⟨w1.heap.size, 0, none⟩) 4 lEvs HC1.out (by decide) (by decide)).mono ?_
  rintro e w2 ⟨v2, ys, rfl, hperm, hsrt, hR2, hb2⟩
  rw [fold_lE] at hperm
  rw [ord_lE hperm hsrt] at hR2
  have HB2 := Aside0.mk (below_then HB1a.out HB1a.out.size hb2)
  have HO2 := Aside0.mk (own_keep HO1a.out hb2)
  have HR2 := Aside0.mk (Kd.R_lower hR2 HB1a.out.size)
  clear hR2 hb2 hperm hsrt HC1 HB1a HO1a
  have hba := below_alloc (Below.refl w2.heap.size w2) (.cells (lPrs.flatMap c32).toArray 32)
  have HC2 := Aside0.mk (C_flat k32 c32 (fun w x => k32_mk w x) (fun _ => rfl) lPrs (by decide) (heap_alloc_new w2 (.cells (lPrs.flatMap c32).toArray 32)))
  have HB2a := Aside0.mk (below_then HB2.out HB2.out.size hba)
  have HO2a := Aside0.mk (own_keep HO2.out hba)
  have HR2a := Aside0.mk (Kd.R_below HR2.out hba)
  clear hba HB2 HO2 HR2
  go_wp2_with fail
  refine (rank_calls 20 _ (some ⟨w2.heap.size, 0, none⟩) 3 lPrs [5, 2, 1] true 0 HC2.out (by decide) w_lP rank_lP).mono ?_
  rintro e w3 ⟨v3, rfl, ho3, hb3⟩
  have HB3 := Aside0.mk (below_then HB2a.out HB2a.out.size hb3)
  have HO3 := Aside0.mk (own_keep HO2a.out hb3)
  have HR3 := Aside0.mk (Kd.R_below HR2a.out hb3)
  have HP3 := Aside0.mk (own_lower ho3 HB2a.out.size)
  clear ho3 hb3 HC2 HB2a HO2a HR2a
  have hba := below_alloc (Below.refl w3.heap.size w3) (.cells ([(⟨1, 1⟩ : S32)].flatMap c32).toArray 32)
  have HC3 := Aside0.mk (C_flat k32 c32 (fun w x => k32_mk w x) (fun _ => rfl) [(⟨1, 1⟩ : S32)] (by decide) (heap_alloc_new w3 (.cells ([(⟨1, 1⟩ : S32)].flatMap c32).toArray 32)))
  have HB3a := Aside0.mk (below_then HB3.out HB3.out.size hba)
  have HO3a := Aside0.mk (own_keep HO3.out hba)
  have HR3a := Aside0.mk (Kd.R_below HR3.out hba)
  have HP3a := Aside0.mk (own_keep HP3.out hba)
  clear hba HB3 HO3 HR3 HP3
  go_wp2_with fail
  refine (rank_calls 20 _ (some ⟨w3.heap.size, 0, none⟩) 1 [⟨1, 1⟩] [] false 0 HC3.out (by decide) w_l1 rank_l1).mono ?_
  rintro e w4 ⟨v4, rfl, ho4, hb4⟩
  have HB4 := Aside0.mk (below_then HB3a.out HB3a.out.size hb4)
  have HO4 := Aside0.mk (own_keep HO3a.out hb4)
  have HR4 := Aside0.mk (Kd.R_below HR3a.out hb4)
  have HP4 := Aside0.mk (own_keep HP3a.out hb4)
  clear ho4 hb4 HC3 HB3a HO3a HR3a HP3a
  have hba := below_alloc (Below.refl w4.heap.size w4) (.cells (nums .i64 [1, 2]).toArray 3)
  have HL := Aside0.mk (reads_lit w4 [1, 2] (by decide) 3)
  have HB4a := Aside0.mk (below_then HB4.out HB4.out.size hba)
  have HO4a := Aside0.mk (own_keep HO4.out hba)
  have HR4a := Aside0.mk (Kd.R_below HR4.out hba)
  have HP4a := Aside0.mk (own_keep HP4.out hba)
  clear hba HB4 HO4 HR4 HP4
  obtain ⟨A1, c1, rfl, hc1, hr1⟩ := own_rd HO4a.out
  have HQ1 := Aside0.mk hr1
  obtain ⟨A3, c3, rfl, hc3, hr3⟩ := own_rd HP4a.out
  clear hr1 hr3
  obtain ⟨g, c2, rfl⟩ := RE.form HR4a.out 2 rfl (by omega)
  go_wp2_with fail
  refine (same_calls _ A1 c1 [1, 2] (some ⟨w4.heap.size, 0, none⟩) 2 [1, 2] HQ1.out HL.out).mono ?_
  rintro e w5 ⟨rfl, hb5⟩
  have HB5 := Aside0.mk (below_then HB4a.out HB4a.out.size hb5)
  have HR5 := Aside0.mk (show RE w5 w.heap.size g 2 c2 [⟨4, 6⟩, ⟨8, 4⟩] from Kd.R_below HR4a.out hb5)
  have HP5 := Aside0.mk (own_keep HP4a.out hb5)
  clear hb5 HL HB4a HO4a HR4a HP4a HQ1
  have k0 := HR5.out.cells 0 (by decide) 0 (.int .i64 4) rfl
  have k1 := HR5.out.cells 0 (by decide) 1 (.int .i64 6) rfl
  have k2 := HR5.out.cells 1 (by decide) 0 (.int .i64 8) rfl
  have k3 := HR5.out.cells 1 (by decide) 1 (.int .i64 4) rfl
  simp only [Nat.zero_mul, Nat.zero_add, Nat.one_mul, Nat.add_zero] at k0 k1 k2 k3
  have HP5a := Aside0.mk (own_keep HP5.out (below_alloc (Below.refl w5.heap.size w5) (.cells (nums .i64 [5, 2, 1]).toArray 3)))
  have HL5 := Aside0.mk (reads_lit w5 [5, 2, 1] (by decide) 3)
  have HB5a := Aside0.mk (below_then HB5.out HB5.out.size (below_alloc (Below.refl w5.heap.size w5) (.cells (nums .i64 [5, 2, 1]).toArray 3)))
  have hdec1 : decide (([1, 2] : List Int) = [1, 2]) = true := by decide
  rw [hdec1]
  clear hdec1
  have hu32 := Try.underlying32
  go_wp2_with fail
  obtain ⟨A6, c6, e6, hc6, hr6⟩ := own_rd HP5a.out
  injection e6 with e6 _ e6c
  subst e6 e6c
  refine (same_calls _ A3 c3 [5, 2, 1] (some ⟨w5.heap.size, 0, none⟩) 3 [5, 2, 1] hr6 HL5.out).mono ?_
  rintro e w6 ⟨rfl, hb6⟩
  have HB6 := Aside0.mk (below_then HB5a.out HB5a.out.size hb6)
  have hdec2 : decide (([5, 2, 1] : List Int) = [5, 2, 1]) = true := by decide
  rw [hdec2]
  clear hdec2 hb6 hr6 HL5 HB5a HP5a k0 k1 k2 k3
  go_wp2
  exact bodyPost_ret (v := .bool true) (by simp [results, Try.f12, go_sem]) rfl ⟨rfl, HB6.out⟩
end Go.Proofs.Ytginlhengebgaaa.Lk
