/- A region that draws its order, with operations that make or write memory in one chain: it is run in one order, told beforehand: what only reads is taken first, what writes comes when nothing else may. Conditions: the Bool 'effB' on the region's text and that order, and one condition S on worlds that every operation keeps. -/
import Derived.OrdersHeld
import Derived.Test.YtmageoieajhhdaaDoorRegionStep
namespace Go.Proofs.YtmageoieajhhdaaDoor.RegionVal
open Go Go.RowKit

/-- what becomes of an operation: its value and the world behind it -/
def Eff (P : Program) (R : Value → World → Prop) : Result Next → Prop
  | .ok (.value v) w' => R v w'
  | .ok .skip w' => R undef w'
  | .ok (.enter f args) w' => Calls P f args w' fun e w'' => ∃ v, e = .returned v ∧ R v w''
  | _ => False

/-- the run in the order told -/
def SeqE (P : Program) (L : List Oper) (S : World → Prop) (a0 : Act) (K : List (Nat × Value) → World → Prop) : List (Nat × Bool) → List (Nat × Value) → World → Prop
  | [], env, w => K env w
  | (i, eff) :: rest, env, w => ∃ o, want.nthO L i = some o ∧ match eff with
    | false => ∃ v, ((want L a0 env o.guard = some true ∧ ∀ w, S w → (execOp (ev a0 env) o).run P w = .ok (.value v) w) ∨ (want L a0 env o.guard = some false ∧ v = undef)) ∧ SeqE P L S a0 K rest (ext o v env) w
    | true => (want L a0 env o.guard = some true ∧ Eff P (fun v w' => S w' ∧ SeqE P L S a0 K rest (ext o v env) w') ((execOp (ev a0 env) o).run P w)) ∨ (want L a0 env o.guard = some false ∧ SeqE P L S a0 K rest (ext o undef env) w)

def dstOk (L : List Oper) (n : Nat) : Bool := L.all fun o => match o.dst with
  | some d => Nat.blt d n
  | none => true

/-- is the order fit for the region's text -/
def effB (ops : Array Oper) : List (Nat × Bool) → Array Bool → Bool
  | [], listed => (Region.ready .any ops listed).isEmpty
  | (i, eff) :: rest, listed => (match eff with
      | false => Region.free .any ops listed i && (Region.ready .any ops listed).contains i
      | true => Region.ready .any ops listed == [i]) && effB ops rest (listed.setIfInBounds i true)

section
variable {P : Program} {L : List Oper} {S : World → Prop} {a0 : Act} {Q : Exit → Act → World → Prop}

theorem puts_eval (env : List (Nat × Value)) (hd : ∀ d ∈ env.map (·.1), d < a0.tmps.size) (x : Operand) : (puts a0 env).eval x = ev a0 env x := by
  cases x with
  | tmp t =>
    by_cases ht : t < a0.tmps.size
    · simp only [Act.eval, Array.getD_eq_getD_getElem?, puts_get env t ht, Option.getD_some]
    · have hn : t ∉ env.map (·.1) := fun h => ht (hd t h)
      have h1 : (puts a0 env).tmps[t]? = none := Array.getElem?_eq_none (by rw [puts_size]; exact Nat.le_of_not_lt ht)
      have h2 : a0.tmps[t]? = none := Array.getElem?_eq_none (Nat.le_of_not_lt ht)
      simp only [Act.eval, ev, look_none hn, Array.getD_eq_getD_getElem?, h1, h2]
  | const v => rfl
  | global g => rfl
  | func f => rfl

theorem puts_yl (env : List (Nat × Value)) (hd : ∀ d ∈ env.map (·.1), d < a0.tmps.size) (j : Nat) : yielded L.toArray (puts a0 env).tmps j = yl L.toArray a0 env j := by
  unfold yielded yl
  cases h : (L.toArray[j]?).bind (·.dst) with
  | none => rfl
  | some t =>
    have h1 := puts_eval (a0 := a0) env hd (.tmp t)
    simp only [Act.eval] at h1
    simp only [Option.bind_some]
    rw [← h1]
    cases ht : (puts a0 env).tmps[t]? with
    | none => simp [Array.getD_eq_getD_getElem?, ht, undef]
    | some x => simp [Array.getD_eq_getD_getElem?, ht]; cases x <;> rfl

theorem puts_wanted {o : Oper} {env : List (Nat × Value)} (hd : ∀ d ∈ env.map (·.1), d < a0.tmps.size) {b : Bool} (h : want L a0 env o.guard = some b) : Region.wanted o (yielded L.toArray (puts a0 env).tmps) = b := by
  rw [← wanted_of h]
  unfold Region.wanted
  cases hg : o.guard with
  | none => rfl
  | some gw => simp only [puts_yl env hd]

theorem puts_ext (o : Oper) (v : Value) (env : List (Nat × Value)) : (puts a0 env).put o.dst v = puts a0 (ext o v env) := by
  cases h : o.dst with
  | none => simp [ext, h, Act.put]
  | some d => simp [ext, h, puts]

theorem ext_lt {o : Oper} {v : Value} {env : List (Nat × Value)} (ho : ∀ d, o.dst = some d → d < a0.tmps.size) (hd : ∀ d ∈ env.map (·.1), d < a0.tmps.size) : ∀ d ∈ (ext o v env).map (·.1), d < a0.tmps.size := by
  intro d hm
  cases h : o.dst with
  | none => simp only [ext, h] at hm; exact hd d hm
  | some d0 =>
    simp only [ext, h, List.map_cons, List.mem_cons] at hm
    rcases hm with rfl | hm
    · exact ho _ h
    · exact hd d hm

theorem seqE_sound (hs : Region.noSelect L.toArray = true) (hdst : ∀ o ∈ L, ∀ d, o.dst = some d → d < a0.tmps.size) (hQ : ∀ c a d v w, Q (.panic c) (Act.put a d v) w → Q (.panic c) a w) :
    ∀ (ord : List (Nat × Bool)) (listed : Array Bool) (env : List (Nat × Value)) (w : World) (fuel : Nat), ord.length ≤ fuel → effB L.toArray ord listed = true → (∀ d ∈ env.map (·.1), d < a0.tmps.size) → S w →
      SeqE P L S a0 (fun F w' => S w' → Q .normal (puts a0 F) w') ord env w → wpAnyH P .any L.toArray Q S fuel listed (puts a0 env) w := by
  intro ord
  induction ord with
  | nil =>
    intro listed env w fuel _ hb _ hS h
    simp only [effB, List.isEmpty_iff] at hb
    exact wpAnyH_done hb (h hS) fuel
  | cons x rest ih =>
    obtain ⟨i, eff⟩ := x
    intro listed env w fuel hf hb hd hS h
    obtain ⟨fuel, rfl⟩ : ∃ f, fuel = f + 1 := ⟨fuel - 1, by simp at hf; omega⟩
    obtain ⟨o, ho, h⟩ := h
    rw [nthO_eq] at ho
    have ho' : L.toArray[i]? = some o := by simpa using ho
    have hod : ∀ d, o.dst = some d → d < a0.tmps.size := hdst o (List.mem_of_getElem? ho)
    simp only [List.length_cons] at hf
    have hselo : ∀ cs b, o.op ≠ .select cs b := Region.noSelect_spec hs i o |> fun k cs b => k cs b ho'
    have hexec : execOp (puts a0 env).eval o = execOp (ev a0 env) o := execOp_congr o hselo fun x _ => puts_eval env hd x
    cases eff with
    | false =>
      simp only [effB, Bool.and_eq_true] at hb
      obtain ⟨⟨hfree, hready⟩, hb⟩ := hb
      obtain ⟨v, hy, h⟩ := h
      refine wpAnyH_take (i := i) (oi := o) (v := v) ho' hs hfree hready (fun c a w => hQ c a o.dst v w) ?_ hS ?_
      · rcases hy with ⟨hw, hr⟩ | ⟨hw, rfl⟩
        · exact .inl ⟨puts_wanted hd hw, fun w hw => by rw [hexec]; exact hr w hw⟩
        · exact .inr ⟨puts_wanted hd hw, rfl⟩
      · rw [puts_ext]
        exact ih _ _ w fuel (by omega) hb (ext_lt hod hd) hS h
    | true =>
      simp only [effB, Bool.and_eq_true, beq_iff_eq] at hb
      obtain ⟨hready, hb⟩ := hb
      refine wpAnyH_all (rs := [i]) hready (by simp) ?_
      intro j hj
      obtain rfl : j = i := by simpa using hj
      have hnext : ∀ v w', S w' → SeqE P L S a0 (fun F w' => S w' → Q .normal (puts a0 F) w') rest (ext o v env) w' → S w' ∧ wpAnyH P .any L.toArray Q S fuel (listed.setIfInBounds j true) ((puts a0 env).put o.dst v) w' := by
        intro v w' hS' h'
        rw [puts_ext]
        exact ⟨hS', ih _ _ w' fuel (by omega) hb (ext_lt hod hd) hS' h'⟩
      unfold wpOp
      simp only [ho']
      rcases h with ⟨hw, h⟩ | ⟨hw, h⟩
      · rw [if_pos (puts_wanted hd hw)]
        refine .inl ?_
        unfold Oper.wp
        rw [hexec]
        generalize (execOp (ev a0 env) o).run P w = r at *
        cases r with
        | ok n w' =>
          cases n <;> simp only [Eff] at h <;> simp only [Oper.upon]
          case value u => exact hnext _ _ h.1 h.2
          case skip => exact hnext _ _ h.1 h.2
          case enter f args =>
            refine Calls.mono h ?_
            rintro e w'' ⟨v, rfl, h1, h2⟩
            exact hnext _ _ h1 h2
          all_goals exact h.elim
        | halt x w' => exact h.elim
      · rw [if_neg (by rw [puts_wanted hd hw]; decide)]
        exact hnext _ _ hS h

/-- THE LAW. -/
theorem wp_eff (ord : List (Nat × Bool)) (hc : (Region.noSelect L.toArray && dstOk L a0.tmps.size && effB L.toArray ord (Array.replicate L.length false) && Nat.ble ord.length L.length) = true) (hm : P.follows .mixedOrders = true) {id : Nat} {w : World} (hS : S w.drew)
    (hQ : ∀ c a d v w, Q (.panic c) (Act.put a d v) w → Q (.panic c) a w)
    (h : SeqE P L S a0 (fun F w' => S w' → Q .normal (puts a0 F) w') ord [] w.drew) : (Code.region id L.toArray true).wp P Q a0 w := by
  simp only [Bool.and_eq_true] at hc
  obtain ⟨⟨⟨h1, h2⟩, h3⟩, h4⟩ := hc
  refine wp_region_held (S := S) hm ?_
  refine seqE_sound h1 ?_ hQ ord _ [] _ _ ?_ ?_ (by simp) hS h
  · intro o ho d hd
    have := List.all_eq_true.1 h2 o ho
    rw [hd] at this
    simpa [Nat.blt_eq] using this
  · simpa using Nat.le_of_ble_eq_true h4
  · simpa using h3

variable {K : List (Nat × Value) → World → Prop} {env : List (Nat × Value)} {rest : List (Nat × Bool)} {i : Nat} {w : World} {d : Nat} {T : TypeId} {pos : String} {after : Array Edge} {g : Option (Nat × Bool)}

theorem se_skip {op : Op} {b : Bool} (ho : want.nthO L i = some ⟨some d, op, T, pos, after, g⟩) (hg : want L a0 env g = some false) (h : SeqE P L S a0 K rest ((d, undef) :: env) w) : SeqE P L S a0 K ((i, b) :: rest) env w := by
  refine ⟨_, ho, ?_⟩
  cases b with
  | false => exact ⟨undef, .inr ⟨hg, rfl⟩, h⟩
  | true => exact .inr ⟨hg, h⟩
theorem se_gen {op : Op} {v : Value} (ho : want.nthO L i = some ⟨some d, op, T, pos, after, g⟩) (hg : want L a0 env g = some true) (hr : ∀ w, S w → (execOp (ev a0 env) ⟨some d, op, T, pos, after, g⟩).run P w = .ok (.value v) w)
    (h : SeqE P L S a0 K rest ((d, v) :: env) w) : SeqE P L S a0 K ((i, false) :: rest) env w := ⟨_, ho, v, .inl ⟨hg, hr⟩, h⟩
theorem se_move {x : Operand} {v : Value} (ho : want.nthO L i = some ⟨some d, .move x, T, pos, after, g⟩) (hg : want L a0 env g = some true) (hx : rdo a0 env x = some v) (h : SeqE P L S a0 K rest ((d, v) :: env) w) :
    SeqE P L S a0 K ((i, false) :: rest) env w := se_gen ho hg (fun w _ => by simp only [execOp]; rw [ev_of hx]; rfl) h
theorem se_assign {x : Operand} {v : Value} (ho : want.nthO L i = some ⟨some d, .assign x, T, pos, after, g⟩) (hg : want L a0 env g = some true) (hx : rdo a0 env x = some v) (h : SeqE P L S a0 K rest ((d, v) :: env) w) :
    SeqE P L S a0 K ((i, false) :: rest) env w := se_gen ho hg (fun w _ => by simp only [execOp]; rw [ev_of hx]; rfl) h
theorem se_pickT {c x y : Operand} {v : Value} (ho : want.nthO L i = some ⟨some d, .pick c x y, T, pos, after, g⟩) (hg : want L a0 env g = some true) (hc : rdo a0 env c = some (.bool true)) (hx : rdo a0 env x = some v) (h : SeqE P L S a0 K rest ((d, v) :: env) w) :
    SeqE P L S a0 K ((i, false) :: rest) env w := se_gen ho hg (fun w _ => by simp only [execOp]; rw [ev_of hc, ev_of hx]; rfl) h
theorem se_pickF {c x y : Operand} {v : Value} (ho : want.nthO L i = some ⟨some d, .pick c x y, T, pos, after, g⟩) (hg : want L a0 env g = some true) (hc : rdo a0 env c = some (.bool false)) (hx : rdo a0 env y = some v) (h : SeqE P L S a0 K rest ((d, v) :: env) w) :
    SeqE P L S a0 K ((i, false) :: rest) env w := se_gen ho hg (fun w _ => by simp only [execOp]; rw [ev_of hc, ev_of hx]; rfl) h
theorem se_un {op : Op} {x : Operand} {vx v : Value} (ho : want.nthO L i = some ⟨some d, op, T, pos, after, g⟩) (hg : want L a0 env g = some true) (hop : op.operands = #[x]) (hs : noSel op = true) (hx : rdo a0 env x = some vx)
    (hr : ∀ w, S w → (execOp (fun _ => vx) ⟨some d, op, T, pos, after, g⟩).run P w = .ok (.value v) w) (h : SeqE P L S a0 K rest ((d, v) :: env) w) :
    SeqE P L S a0 K ((i, false) :: rest) env w :=
  se_gen ho hg (fun w hw => by
    rw [execOp_congr (ρ := ev a0 env) (ρ' := fun _ => vx) ⟨some d, op, T, pos, after, g⟩ (fun cs b e => by simp only at e; subst e; simp [noSel] at hs) (fun z hz => by
      simp only [hop] at hz
      rw [show z = x by simpa using hz]; exact ev_of hx)]
    exact hr w hw) h
theorem se_bin {b : BinOp} {t t' : TypeId} {x y : Operand} {vx vy v : Value} (ho : want.nthO L i = some ⟨some d, .binOp b t x y t', T, pos, after, g⟩) (hg : want L a0 env g = some true) (hx : rdo a0 env x = some vx) (hy : rdo a0 env y = some vy)
    (hr : ∀ w, S w → Sem.run P (do eqGuard b t x y vx vy; binOp b t vx vy : Sem Value) w = .ok v w) (h : SeqE P L S a0 K rest ((d, v) :: env) w) :
    SeqE P L S a0 K ((i, false) :: rest) env w :=
  se_gen ho hg (fun w hw => by
    have h1 := hr w hw
    simp only [execOp]
    rw [ev_of hx, ev_of hy]
    simp only [Sem.run_bind] at h1 ⊢
    rw [h1]
    rfl) h
theorem se_indexAddr {t : TypeId} {x y : Operand} {vx vy v : Value} (ho : want.nthO L i = some ⟨some d, .indexAddr t x y, T, pos, after, g⟩) (hg : want L a0 env g = some true) (hx : rdo a0 env x = some vx) (hy : rdo a0 env y = some vy)
    (hr : ∀ w, S w → Sem.run P (Instr.indexAt t vx vy) w = .ok v w) (h : SeqE P L S a0 K rest ((d, v) :: env) w) :
    SeqE P L S a0 K ((i, false) :: rest) env w :=
  se_gen ho hg (fun w hw => by
    have h1 := hr w hw
    simp only [execOp]
    rw [ev_of hx, ev_of hy]
    simp only [Sem.run_bind]
    rw [h1]
    rfl) h
theorem se_builtin {b : Builtin} {xs : List Operand} {vs : List Value} {ts : Array TypeId} {v : Value} (ho : want.nthO L i = some ⟨some d, .call { callee := .builtin b, args := xs.toArray, argTypes := ts }, T, pos, after, g⟩) (hg : want L a0 env g = some true) (hx : rdos a0 env xs = some vs)
    (hr : ∀ w, S w → Sem.run P (builtin b ts T (xs.map fun | .const _ => true | _ => false).toArray vs.toArray) w = .ok (.value v) w) (h : SeqE P L S a0 K rest ((d, v) :: env) w) :
    SeqE P L S a0 K ((i, false) :: rest) env w :=
  se_gen ho hg (fun w hw => by
    have h1 := hr w hw
    have he := evs_of hx
    simp only [execOp, resolve, List.map_toArray, he, pure_bind, invoke]
    exact h1) h
theorem se_slice {t : TypeId} {x : Operand} {lo hi mx : Option Operand} {vx v : Value} {vlo vhi vmx : Option Value} (ho : want.nthO L i = some ⟨some d, .slice t x lo hi mx, T, pos, after, g⟩) (hg : want L a0 env g = some true) (hx : rdo a0 env x = some vx) (hlo : rdOpt a0 env lo = some vlo) (hhi : rdOpt a0 env hi = some vhi) (hmx : rdOpt a0 env mx = some vmx)
    (hr : ∀ w, S w → Sem.run P (Instr.sliceAt t vx vlo vhi vmx) w = .ok v w) (h : SeqE P L S a0 K rest ((d, v) :: env) w) :
    SeqE P L S a0 K ((i, false) :: rest) env w :=
  se_gen ho hg (fun w hw => by
    have h1 := hr w hw
    simp only [execOp]
    rw [ev_of hx, evOpt_of hlo, evOpt_of hhi, evOpt_of hmx]
    simp only [Sem.run_bind]
    rw [h1]
    rfl) h

/-- what makes or writes memory -/
theorem se_eff {op : Op} (ho : want.nthO L i = some ⟨some d, op, T, pos, after, g⟩) (hg : want L a0 env g = some true)
    (h : Eff P (fun v w' => S w' ∧ SeqE P L S a0 K rest ((d, v) :: env) w') ((execOp (ev a0 env) ⟨some d, op, T, pos, after, g⟩).run P w)) : SeqE P L S a0 K ((i, true) :: rest) env w := ⟨_, ho, .inl ⟨hg, h⟩⟩

theorem se_call {f : FuncId} {fn : Func} {xs : List Operand} {vs : List Value} {ts : Array TypeId} (ho : want.nthO L i = some ⟨some d, .call { callee := .value (.func f), args := xs.toArray, argTypes := ts }, T, pos, after, g⟩) (hg : want L a0 env g = some true) (hf : P.funcs[f]? = some fn) (hb : fn.body.isSome = true) (hx : rdos a0 env xs = some vs)
    (hname : (fn.name == "runtime.NumGoroutine") = false)
    (h : Calls P f vs.toArray w fun e w' => ∃ v, e = .returned v ∧ S w' ∧ SeqE P L S a0 K rest ((d, v) :: env) w') :
    SeqE P L S a0 K ((i, true) :: rest) env w := by
  refine se_eff ho hg ?_
  have h1 : (execOp (ev a0 env) ⟨some d, .call { callee := .value (.func f), args := xs.toArray, argTypes := ts }, T, pos, after, g⟩).run P w = .ok (.enter f vs.toArray) w := by
    have he := evs_of hx
    have h2 : Sem.run P (callFunc f vs.toArray) w = .ok (.enter f vs.toArray) w := by
      have h1 : fn.name ≠ "runtime.NumGoroutine" := by simpa using hname
      obtain ⟨c, hc'⟩ := Option.isSome_iff_exists.1 hb
      simp [callFunc, hf, h1, hc']
    simp [execOp, resolve, ev, he, Deferred.ofValue, invoke, h2]
  rw [h1]
  exact h

/-- a builtin that makes memory: its run told -/
theorem se_made {b : Builtin} {xs : List Operand} {vs : List Value} {ts : Array TypeId} {v : Value} {w' : World} (ho : want.nthO L i = some ⟨some d, .call { callee := .builtin b, args := xs.toArray, argTypes := ts }, T, pos, after, g⟩) (hg : want L a0 env g = some true) (hx : rdos a0 env xs = some vs)
    (hr : Sem.run P (builtin b ts T (xs.map fun | .const _ => true | _ => false).toArray vs.toArray) w = .ok (.value v) w') (hS : S w') (h : SeqE P L S a0 K rest ((d, v) :: env) w') :
    SeqE P L S a0 K ((i, true) :: rest) env w := by
  refine se_eff ho hg ?_
  have h1 : (execOp (ev a0 env) ⟨some d, .call { callee := .builtin b, args := xs.toArray, argTypes := ts }, T, pos, after, g⟩).run P w = .ok (.value v) w' := by
    have he := evs_of hx
    simp only [execOp, resolve, List.map_toArray, he, pure_bind, invoke]
    exact hr
  rw [h1]
  exact ⟨hS, h⟩

/-- a literal of a slice -/
theorem se_lit {t : TypeId} {n : Nat} {ps : List (Nat × Operand)} {vs : List (Nat × Value)} {v : Value} {w' : World} (ho : want.nthO L i = some ⟨some d, .buildSlice t n ps.toArray, T, pos, after, g⟩) (hg : want L a0 env g = some true) (hx : ps.map (fun x => (x.1, rdo a0 env x.2)) = vs.map (fun x => (x.1, some x.2)))
    (hr : Sem.run P (Instr.buildSlice t n vs.toArray) w = .ok v w') (hS : S w') (h : SeqE P L S a0 K rest ((d, v) :: env) w') :
    SeqE P L S a0 K ((i, true) :: rest) env w := by
  refine se_eff ho hg ?_
  have he : (ps.toArray.map fun (i, x) => (i, ev a0 env x)) = vs.toArray := by
    rw [List.map_toArray]
    congr 1
    clear hr ho
    induction ps generalizing vs with
    | nil => cases vs with
      | nil => rfl
      | cons v vs => simp at hx
    | cons p ps ih => cases vs with
      | nil => simp at hx
      | cons q vs =>
        simp only [List.map_cons, List.cons.injEq, Prod.mk.injEq] at hx
        obtain ⟨⟨h1, h2⟩, h3⟩ := hx
        obtain ⟨p1, p2⟩ := p
        obtain ⟨q1, q2⟩ := q
        simp only at h1 h2
        subst h1
        rw [List.map_cons, ih h3]
        simp only [ev_of h2]
  have h1 : (execOp (ev a0 env) ⟨some d, .buildSlice t n ps.toArray, T, pos, after, g⟩).run P w = .ok (.value v) w' := by
    simp only [execOp]
    rw [he]
    simp only [Sem.run_bind]
    rw [hr]
    rfl
  rw [h1]
  exact ⟨hS, h⟩
end
end Go.Proofs.YtmageoieajhhdaaDoor.RegionVal
