/- The steps of a region's run in the order of the text: one law for each kind of operation (over YtmageoieajhhdaaDoorRegionVal). -/
import Derived.Test.YtmageoieajhhdaaDoorRegionVal
import Derived.WalkKit
namespace Go.Proofs.YtmageoieajhhdaaDoor.RegionVal
open Go Go.RowKit

def nth : List Value → Nat → Option Value
  | [], _ => none
  | x :: _, 0 => some x
  | _ :: xs, n + 1 => nth xs n

theorem nth_eq : ∀ (l : List Value) (n : Nat), nth l n = l[n]?
  | [], n => by simp [nth]
  | x :: xs, 0 => by simp [nth]
  | x :: xs, n + 1 => by simp [nth, nth_eq xs n]

/-- an operand, read -/
def rdo (a0 : Act) (env : List (Nat × Value)) : Operand → Option Value
  | .tmp t => match look env t with
    | some v => some v
    | none => nth a0.tmps.toList t
  | .const v => some v
  | .global g => some (.pointer (some ⟨g, 0, none⟩))
  | .func f => some (.func (.func f) #[] #[])

section
variable {P : Program} {ops : Array Oper} {S : World → Prop} {a0 : Act} {K : List (Nat × Value) → Prop} {env : List (Nat × Value)} {rest : List Oper}
  {d : Nat} {T : TypeId} {pos : String} {after : Array Edge} {g : Option (Nat × Bool)}

theorem ev_of {x : Operand} {v : Value} (h : rdo a0 env x = some v) : ev a0 env x = v := by
  cases x with
  | tmp t =>
    simp only [rdo] at h
    simp only [ev]
    cases hl : look env t with
    | some u => rw [hl] at h; simpa using h
    | none =>
      rw [hl] at h
      simp only [nth_eq] at h
      simp only [Array.getD_eq_getD_getElem?]
      rw [← Array.getElem?_toList, h]
      rfl
  | const u => simpa [rdo, ev] using h
  | global u => simpa [rdo, ev] using h
  | func u => simpa [rdo, ev] using h

/-- is it wanted, by what has been yielded -/
def want (ops : List Oper) (a0 : Act) (env : List (Nat × Value)) : Option (Nat × Bool) → Option Bool
  | none => some true
  | some (j, b) => match (nthO ops j).bind (·.dst) with
    | some t => match rdo a0 env (.tmp t) with
      | some (.bool c) => some (c == b)
      | some _ => some false
      | none => none
    | none => some false
where nthO : List Oper → Nat → Option Oper
  | [], _ => none
  | x :: _, 0 => some x
  | _ :: xs, n + 1 => nthO xs n

theorem nthO_eq : ∀ (l : List Oper) (n : Nat), want.nthO l n = l[n]?
  | [], n => by simp [want.nthO]
  | x :: xs, 0 => by simp [want.nthO]
  | x :: xs, n + 1 => by simp [want.nthO, nthO_eq xs n]

theorem wanted_of {o : Oper} {L : List Oper} {b : Bool} (h : want L a0 env o.guard = some b) : Region.wanted o (yl L.toArray a0 env) = b := by
  unfold Region.wanted
  cases hg : o.guard with
  | none => rw [hg] at h; simpa [want] using h
  | some gw =>
    obtain ⟨j, c⟩ := gw
    rw [hg] at h
    simp only [want, nthO_eq] at h
    simp only [yl, List.getElem?_toArray]
    cases hd : (L[j]?).bind (·.dst) with
    | none => rw [hd] at h; simp at h; subst h; simp
    | some t =>
      rw [hd] at h
      simp only at h ⊢
      cases hr : rdo a0 env (.tmp t) with
      | none => rw [hr] at h; simp at h
      | some u =>
        rw [hr] at h
        rw [ev_of hr]
        cases u <;> simp at h ⊢ <;> try exact h
        all_goals (subst h; rfl)

variable {L : List Oper}

theorem st_skip {op : Op} (hg : want L a0 env g = some false) (h : SeqOk P L.toArray S a0 K rest ((d, undef) :: env)) : SeqOk P L.toArray S a0 K (⟨some d, op, T, pos, after, g⟩ :: rest) env :=
  ⟨undef, .inr ⟨wanted_of hg, rfl⟩, h⟩

theorem st_gen {o : Oper} {v : Value} (hg : want L a0 env o.guard = some true) (hr : ∀ w, S w → (execOp (ev a0 env) o).run P w = .ok (.value v) w) (h : SeqOk P L.toArray S a0 K rest (ext o v env)) : SeqOk P L.toArray S a0 K (o :: rest) env :=
  ⟨v, .inl ⟨wanted_of hg, fun w hw => by rw [hr w hw]; exact ⟨rfl, hw⟩⟩, h⟩

theorem st_move {x : Operand} {v : Value} (hg : want L a0 env g = some true) (hx : rdo a0 env x = some v) (h : SeqOk P L.toArray S a0 K rest ((d, v) :: env)) :
    SeqOk P L.toArray S a0 K (⟨some d, .move x, T, pos, after, g⟩ :: rest) env :=
  st_gen hg (fun w _ => by simp only [execOp]; rw [ev_of hx]; rfl) h
theorem st_assign {x : Operand} {v : Value} (hg : want L a0 env g = some true) (hx : rdo a0 env x = some v) (h : SeqOk P L.toArray S a0 K rest ((d, v) :: env)) :
    SeqOk P L.toArray S a0 K (⟨some d, .assign x, T, pos, after, g⟩ :: rest) env :=
  st_gen hg (fun w _ => by simp only [execOp]; rw [ev_of hx]; rfl) h
theorem st_pickT {c x y : Operand} {v : Value} (hg : want L a0 env g = some true) (hc : rdo a0 env c = some (.bool true)) (hx : rdo a0 env x = some v) (h : SeqOk P L.toArray S a0 K rest ((d, v) :: env)) :
    SeqOk P L.toArray S a0 K (⟨some d, .pick c x y, T, pos, after, g⟩ :: rest) env :=
  st_gen hg (fun w _ => by simp only [execOp]; rw [ev_of hc, ev_of hx]; rfl) h
theorem st_pickF {c x y : Operand} {v : Value} (hg : want L a0 env g = some true) (hc : rdo a0 env c = some (.bool false)) (hx : rdo a0 env y = some v) (h : SeqOk P L.toArray S a0 K rest ((d, v) :: env)) :
    SeqOk P L.toArray S a0 K (⟨some d, .pick c x y, T, pos, after, g⟩ :: rest) env :=
  st_gen hg (fun w _ => by simp only [execOp]; rw [ev_of hc, ev_of hx]; rfl) h

def noSel : Op → Bool
  | .select .. => false
  | _ => true

/-- one operand -/
theorem st_un {op : Op} {x : Operand} {vx v : Value} (hg : want L a0 env g = some true) (ho : op.operands = #[x]) (hs : noSel op = true) (hx : rdo a0 env x = some vx)
    (hr : ∀ w, S w → (execOp (fun _ => vx) ⟨some d, op, T, pos, after, g⟩).run P w = .ok (.value v) w) (h : SeqOk P L.toArray S a0 K rest ((d, v) :: env)) :
    SeqOk P L.toArray S a0 K (⟨some d, op, T, pos, after, g⟩ :: rest) env :=
  st_gen hg (fun w hw => by
    rw [execOp_congr (ρ := ev a0 env) (ρ' := fun _ => vx) ⟨some d, op, T, pos, after, g⟩ (fun cs b e => by simp only at e; subst e; simp [noSel] at hs) (fun z hz => by
      simp only [ho] at hz
      rw [show z = x by simpa using hz]; exact ev_of hx)]
    exact hr w hw) h

/-- an operation on two values -/
theorem st_bin {b : BinOp} {t t' : TypeId} {x y : Operand} {vx vy v : Value} (hg : want L a0 env g = some true) (hx : rdo a0 env x = some vx) (hy : rdo a0 env y = some vy)
    (hr : ∀ w, S w → Sem.run P (do eqGuard b t x y vx vy; binOp b t vx vy : Sem Value) w = .ok v w) (h : SeqOk P L.toArray S a0 K rest ((d, v) :: env)) :
    SeqOk P L.toArray S a0 K (⟨some d, .binOp b t x y t', T, pos, after, g⟩ :: rest) env :=
  st_gen hg (fun w hw => by
    have h1 := hr w hw
    simp only [execOp]
    rw [ev_of hx, ev_of hy]
    simp only [Sem.run_bind] at h1 ⊢
    rw [h1]
    rfl) h

theorem st_indexAddr {t : TypeId} {x y : Operand} {vx vy v : Value} (hg : want L a0 env g = some true) (hx : rdo a0 env x = some vx) (hy : rdo a0 env y = some vy)
    (hr : ∀ w, S w → Sem.run P (Instr.indexAt t vx vy) w = .ok v w) (h : SeqOk P L.toArray S a0 K rest ((d, v) :: env)) :
    SeqOk P L.toArray S a0 K (⟨some d, .indexAddr t x y, T, pos, after, g⟩ :: rest) env :=
  st_gen hg (fun w hw => by
    have h1 := hr w hw
    simp only [execOp]
    rw [ev_of hx, ev_of hy]
    simp only [Sem.run_bind]
    rw [h1]
    rfl) h

theorem st_index {t : TypeId} {x y : Operand} {vx vy v : Value} (hg : want L a0 env g = some true) (hx : rdo a0 env x = some vx) (hy : rdo a0 env y = some vy)
    (hr : ∀ w, S w → Sem.run P (Instr.index t vx vy) w = .ok v w) (h : SeqOk P L.toArray S a0 K rest ((d, v) :: env)) :
    SeqOk P L.toArray S a0 K (⟨some d, .index t x y, T, pos, after, g⟩ :: rest) env :=
  st_gen hg (fun w hw => by
    have h1 := hr w hw
    simp only [execOp]
    rw [ev_of hx, ev_of hy]
    simp only [Sem.run_bind]
    rw [h1]
    rfl) h

/-- all operands of a call -/
def rdos (a0 : Act) (env : List (Nat × Value)) : List Operand → Option (List Value)
  | [] => some []
  | x :: xs => match rdo a0 env x, rdos a0 env xs with
    | some v, some vs => some (v :: vs)
    | _, _ => none

theorem evs_of : ∀ {xs : List Operand} {vs : List Value}, rdos a0 env xs = some vs → xs.map (ev a0 env) = vs
  | [], vs, h => by simpa [rdos] using h
  | x :: xs, vs, h => by
    simp only [rdos] at h
    cases hx : rdo a0 env x with
    | none => rw [hx] at h; simp at h
    | some v =>
      cases hxs : rdos a0 env xs with
      | none => rw [hx, hxs] at h; simp at h
      | some us =>
        rw [hx, hxs] at h
        simp only [Option.some.injEq] at h
        rw [← h, List.map_cons, ev_of hx, evs_of hxs]

theorem st_call {f : FuncId} {fn : Func} {xs : List Operand} {vs : List Value} {ts : Array TypeId} {v : Value} (hg : want L a0 env g = some true) (hf : P.funcs[f]? = some fn) (hb : fn.body.isSome = true) (hx : rdos a0 env xs = some vs)
    (hname : (fn.name == "runtime.NumGoroutine") = false)
    (hc : ∀ w, S w → Calls P f vs.toArray w fun e w' => e = .returned v ∧ S w') (h : SeqOk P L.toArray S a0 K rest ((d, v) :: env)) :
    SeqOk P L.toArray S a0 K (⟨some d, .call { callee := .value (.func f), args := xs.toArray, argTypes := ts }, T, pos, after, g⟩ :: rest) env :=
  ⟨v, .inl ⟨wanted_of hg, fun w hw => by
    have h1 : (execOp (ev a0 env) ⟨some d, .call { callee := .value (.func f), args := xs.toArray, argTypes := ts }, T, pos, after, g⟩).run P w = .ok (.enter f vs.toArray) w := by
      have he := evs_of hx
      have h2 : Sem.run P (callFunc f vs.toArray) w = .ok (.enter f vs.toArray) w := by
        have h1 : fn.name ≠ "runtime.NumGoroutine" := by simpa using hname
        obtain ⟨c, hc'⟩ := Option.isSome_iff_exists.1 hb
        simp [callFunc, hf, h1, hc']
      simp [execOp, resolve, ev, he, Deferred.ofValue, invoke, h2]
    rw [h1]
    exact hc w hw⟩, h⟩

/-- a builtin -/
theorem st_builtin {b : Builtin} {xs : List Operand} {vs : List Value} {ts : Array TypeId} {v : Value} (hg : want L a0 env g = some true) (hx : rdos a0 env xs = some vs)
    (hr : ∀ w, S w → Sem.run P (builtin b ts T (xs.map fun | .const _ => true | _ => false).toArray vs.toArray) w = .ok (.value v) w) (h : SeqOk P L.toArray S a0 K rest ((d, v) :: env)) :
    SeqOk P L.toArray S a0 K (⟨some d, .call { callee := .builtin b, args := xs.toArray, argTypes := ts }, T, pos, after, g⟩ :: rest) env :=
  st_gen hg (fun w hw => by
    have h1 := hr w hw
    have he := evs_of hx
    simp only [execOp, resolve, List.map_toArray, he, pure_bind, invoke]
    exact h1) h

def rdOpt (a0 : Act) (env : List (Nat × Value)) : Option Operand → Option (Option Value)
  | none => some none
  | some x => match rdo a0 env x with
    | some v => some (some v)
    | none => none

theorem evOpt_of {x : Option Operand} {v : Option Value} (h : rdOpt a0 env x = some v) : x.map (ev a0 env) = v := by
  cases x with
  | none => simpa [rdOpt] using h
  | some x =>
    simp only [rdOpt] at h
    cases hx : rdo a0 env x with
    | none => rw [hx] at h; simp at h
    | some u =>
      rw [hx] at h
      simp only [Option.some.injEq] at h
      rw [← h, Option.map_some, ev_of hx]

theorem st_slice {t : TypeId} {x : Operand} {lo hi mx : Option Operand} {vx v : Value} {vlo vhi vmx : Option Value} (hg : want L a0 env g = some true) (hx : rdo a0 env x = some vx) (hlo : rdOpt a0 env lo = some vlo) (hhi : rdOpt a0 env hi = some vhi) (hmx : rdOpt a0 env mx = some vmx)
    (hr : ∀ w, S w → Sem.run P (Instr.sliceAt t vx vlo vhi vmx) w = .ok v w) (h : SeqOk P L.toArray S a0 K rest ((d, v) :: env)) :
    SeqOk P L.toArray S a0 K (⟨some d, .slice t x lo hi mx, T, pos, after, g⟩ :: rest) env :=
  st_gen hg (fun w hw => by
    have h1 := hr w hw
    simp only [execOp]
    rw [ev_of hx, evOpt_of hlo, evOpt_of hhi, evOpt_of hmx]
    simp only [Sem.run_bind]
    rw [h1]
    rfl) h

end
end Go.Proofs.YtmageoieajhhdaaDoor.RegionVal
