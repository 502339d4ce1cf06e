/- lockup.Order: its walk. -/
import Derived.Test.YtlgkcjkicankmaaLockS
namespace Go.Proofs.Ytlgkcjkicankmaa.Lk
open Go Go.RowKit Go.Maps Go.Proofs.YtlgkcjkicankmaaW Go.Proofs.YtlgkcjkicankmaaW.PrintWords Go.Proofs.YtlgkcjkicankmaaW.PrintLast Go.Proofs.YtlgkcjkicankmaaW.PrintMore Go.Proofs.Ytlgkcjkicankmaa.PLockupEither Go.Proofs.Ytlgkcjkicankmaa.Bs Go.Proofs.Ytlgkcjkicankmaa.RegionVal
open Go.Lib hiding intOf
set_option linter.unusedVariables false
set_option linter.unusedSimpArgs false

/-- an event: of which kind, of which thread, with which A; nothing else -/
structure Ev where
  k : Int
  t : Int
  a : Int
def zE : Ev := ⟨0, 0, 0⟩
def c41 (x : Ev) : List Value := [.int .i64 x.k, .int .i64 0, .int .i64 x.t, .int .i64 0, .int .i64 0, .int .i64 0, .int .i64 x.a, .int .i64 0, .int .i64 0, .int .i64 0, .int .i64 0, .int .i64 0]
def v41 (x : Ev) : Value := .agg (c41 x).toArray
theorem c41_one (x : Ev) : ∀ u ∈ c41 x, u.oneCell' = true := by
  intro q hq
  simp only [c41, List.mem_cons, List.not_mem_nil, or_false] at hq
  rcases hq with rfl | rfl | rfl | rfl | rfl | rfl | rfl | rfl | rfl | rfl | rfl | rfl <;> rfl
def k41 : Kd Ev where
  sz := 12
  E := []
  K _ x cs := cs = c41 x
  M _ _ _ x cs := cs = c41 x
  K_len h := by subst h; rfl
  K_one h u hu := by subst h; exact c41_one _ u hu
  K_below _ h := h
  K_of_M h := h
  M_mono _ h := h
  M_bound h := h
  M_move _ h := h
  M_lower _ h := h
theorem ad_add (ad : Addr) (k j : Nat) : (ad.add k).add j = ad.add (k + j) := by
  unfold Addr.add
  by_cases hk : k = 0
  · subst hk; simp
  · by_cases hj : j = 0
    · subst hj; simp
    · rw [if_neg hk, if_neg hj, if_neg (by omega)]
      simp [Nat.add_assoc]
theorem info41 : (Try.prog.info? 41).map (·.size) = some 12 := by kernel_rfl
theorem C_load41 {w : World} {ad : Addr} {n : Nat} {xs : List Ev} (h : Kd.C k41 w (some ad) n xs) (i : Nat) (hi : i < xs.length) : Sem.run Try.prog (Instr.loadAt 41 (.pointer (some (ad.add (i * 12))))) w = .ok (v41 xs[i]) w := by
  obtain ⟨ad', c, e, hl, hK, hc⟩ := Kd.C_get h zE (i : Int) (by omega) (by have := h.1; omega)
  obtain rfl := Option.some.inj e
  rw [show xs.getD (Int.toNat (i : Int)) zE = xs[i] by simp [List.getD_eq_getElem?_getD, hi]] at hK
  have hK2 : c = c41 xs[i] := hK
  subst hK2
  have hcells : (loadCells (ad.add (i * 12)) (c41 xs[i]).length).run Try.prog w = .ok (c41 xs[i]).toArray w :=
    run_loadCells_list (P := Try.prog) w (ad.add (i * 12)) (c41 xs[i]) (fun j v hv => by
      rw [ad_add]
      have := hc j v hv
      rwa [Int.toNat_natCast] at this)
  have hs : (sizeOf 41).run Try.prog w = .ok (c41 xs[i]).length w := by
    cases hq : Try.prog.info? 41 with
    | none => have := info41; simp [hq] at this
    | some q => have h2 : q.size = 12 := by have := info41; simpa [hq] using this
                simp [sizeOf, typeInfo, hq, h2, c41]
  simp [Instr.loadAt, Instr.sureAddr, loadVar, Sem.run_bind, Try.isAgg41, hs, v41]
  have h12 : (c41 xs[i]).length = 12 := rfl
  rw [h12] at hcells
  rw [hcells]
  rfl
section
variable {P : Program} {ops : Array Oper} {rest : List Oper} {o : Oper} {a : Act} {Q : Exit → Act → World → Prop} {W W' : World} {t : TypeId} {x y : Operand} {vx vy v : Value}
/-- a load whose run is told, in a plain region -/
theorem wpl_load (hgd : o.guard = none) (ho : o.op = .load t x) (hx : a.eval x = vx) (hr : Sem.run P (Instr.loadAt t vx) W = .ok v W) (h : wpList P ops Q rest (a.put o.dst v) W) : wpList P ops Q (o :: rest) a W :=
  Kd.event_run hgd (by
    obtain ⟨d, op, ty, ps, af, g⟩ := o
    simp only at ho
    subst ho
    simp only [execOp, hx, Sem.run_bind]
    rw [hr]
    rfl) h
/-- a store whose run is told, in a plain region -/
theorem wpl_store (hgd : o.guard = none) (ho : o.op = .store t x y) (hN : o.dst = none) (hx : a.eval x = vx) (hy : a.eval y = vy) (hr : Sem.run P (Instr.storeAt t vx vy) W = .ok () W') (h : wpList P ops Q rest a W') : wpList P ops Q (o :: rest) a W := by
  have hrun : (execOp a.eval o).run P W = .ok .skip W' := by
    obtain ⟨d, op, ty, ps, af, g⟩ := o
    simp only at ho
    subst ho
    simp only [execOp, hx, hy, Sem.run_bind]
    rw [hr]
    rfl
  refine wpList_plain hgd fun K hK => ?_
  unfold Oper.wp
  rw [hrun]
  show K (a.put o.dst undef) W'
  rw [hN]
  exact hK _ _ h
end
/-- an event that is stored into a new block -/
theorem fresh_store {W : World} {g : Nat} {cs : Array Value} (hb : W.heap[g]? = some (.cells cs 41 (0, 0))) (hs : cs.size = 12) (x : Ev) :
    ∃ W', Sem.run Try.prog (Instr.storeAt 41 (.pointer (some ⟨g, 0, none⟩)) (v41 x)) W = .ok () W' ∧ W'.heap[g]? = some (.cells (c41 x).toArray 41 (0, 0)) ∧ ∀ (B : Nat) (a : World), B ≤ g → Below B a W → Below B a W' := by
  have hrun := run_store_run (P := Try.prog) 41 (v41 x) (c41 x) (o := 0) hb rfl info41 (by rw [hs]; exact Nat.le_refl _) (c41_one x)
  obtain ⟨cs', h1, h2, h3⟩ := setCells_row (c41 x) 0 W cs hb (by rw [hs]; exact Nat.le_refl _)
  refine ⟨_, hrun, ?_, fun B a hB hba => below_setCells hB _ _ _ hba⟩
  rw [h1]
  have h4 : cs' = (c41 x).toArray := by
    apply Array.toList_inj.1
    rw [h3, List.take_zero, List.nil_append, List.drop_eq_nil_of_le (by rw [Array.length_toList, hs]; exact Nat.le_refl _), List.append_nil]
  rw [h4]
def zc41 : Array Value := #[.int .i64 0, .int .i64 0, .int .i64 0, .int .i64 0, .int .i64 0, .int .i64 0, .int .i64 0, .int .i64 0, .int .i64 0, .int .i64 0, .int .i64 0, .int .i64 0]

/-- one event more: who has which locks; which pairs there are -/
def evStep (g : Int → List Int) (out : List S32) (x : Ev) : (Int → List Int) × List S32 :=
  if x.k = 13 then ((if x.a ∈ g x.t then g else updL g x.t (g x.t ++ [x.a])), out ++ ((g x.t).filter (fun n => decide (n ≠ x.a))).map (fun n => ⟨n, x.a⟩))
  else if x.k = 14 ∧ x.a ∈ g x.t then (updL g x.t ((g x.t).erase x.a), out) else (g, out)
def evFold : List Ev → (Int → List Int) → List S32 → (Int → List Int) × List S32
  | [], g, out => (g, out)
  | x :: l, g, out => evFold l (evStep g out x).1 (evStep g out x).2
theorem zero24 (w : World) : (zeroValue 24).run Try.prog w = .ok (.slice none 0 0) w := Try.zeroValue24 w
theorem keyI : Mp.KeyAt Try.prog 3 (fun x : Int => .int .i64 x) := Mp.key_int Try.underlying3
theorem orZ (m : List (Int × Value)) (x : Int) : Mp.orZero id (.slice none 0 0) (Mp.get m x) = valAt m x := by
  unfold valAt
  cases Mp.get m x <;> rfl
theorem info32z : (Try.prog.info? 32).map (fun i => (i.zero, i.size, i.bytes)) = some (some (.agg #[.int .i64 0, .int .i64 0]), 2, 16) := by kernel_rfl
theorem C_one32 {W : World} {g : Nat} {a b : Int} (hb : W.heap[g]? = some (.cells #[.int .i64 a, .int .i64 b] 32 (0, 0))) : Kd.C k32 W (some ⟨g, 0, none⟩) 1 [⟨a, b⟩] := by
  refine ⟨rfl, by omega, fun _ => ⟨_, rfl, fun j p hj => ?_⟩⟩
  match j, hj with
  | 0, hj =>
    obtain rfl := Option.some.inj hj
    refine ⟨[.int .i64 a, .int .i64 b], rfl, k32_mk _ ⟨a, b⟩, fun i u hu => ?_⟩
    rw [Addr.add_mid, blk_cell hb]
    match i, hu with
    | 0, hu => obtain rfl := Option.some.inj hu; rfl
    | 1, hu => obtain rfl := Option.some.inj hu; rfl
theorem take_erase : ∀ (l : List Int) (q : Nat) (a : Int), q < l.length → l.getD q 0 = a → (∀ j, j < q → l.getD j 0 ≠ a) → l.take q ++ l.drop (q + 1) = l.erase a
  | x :: l, 0, a, _, h, _ => by
    have hx : x = a := h
    subst hx
    simp
  | x :: l, q + 1, a, hq, h, hj => by
    have hx : x ≠ a := hj 0 (by omega)
    rw [List.erase_cons_tail (by simpa using hx), ← take_erase l q a (by simpa using hq) h (fun j h1 => hj (j + 1) (by omega))]
    rfl
theorem evStep_len (g : Int → List Int) (out : List S32) (x : Ev) (i : Nat) (hg : ∀ t, (g t).length ≤ i) : (∀ t, ((evStep g out x).1 t).length ≤ i + 1) ∧ (evStep g out x).2.length ≤ out.length + i := by
  unfold evStep
  by_cases h1 : x.k = 13
  · rw [if_pos h1]
    refine ⟨fun t => ?_, ?_⟩
    · show ((if x.a ∈ g x.t then g else updL g x.t (g x.t ++ [x.a])) t).length ≤ i + 1
      split
      · have := hg t; omega
      · unfold updL
        split
        · rw [List.length_append]; have := hg x.t; show _ + 1 ≤ _; omega
        · have := hg t; omega
    · show (out ++ _).length ≤ _
      rw [List.length_append, List.length_map]
      have := List.length_filter_le (fun n => decide (n ≠ x.a)) (g x.t)
      have := hg x.t
      omega
  · rw [if_neg h1]
    split
    · refine ⟨fun t => ?_, Nat.le_add_right _ _⟩
      show ((updL g x.t ((g x.t).erase x.a)) t).length ≤ i + 1
      unfold updL
      split
      · have := List.length_erase_le (a := x.a) (l := g x.t); have := hg x.t; omega
      · have := hg t; omega
    · exact ⟨fun t => by have := hg t; show (g t).length ≤ _; omega, Nat.le_add_right _ _⟩
end Go.Proofs.Ytlgkcjkicankmaa.Lk
