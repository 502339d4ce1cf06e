/- A region that draws its order in which operations that make or write memory may come in several orders, two at a choice: a tree of runs; all end in J. -/
import Derived.Test.YtmageoieajhhdaaDoorRegionTwo
namespace Go.Proofs.YtmageoieajhhdaaDoor.RegionVal
open Go Go.RowKit
set_option linter.unusedVariables false

inductive OT where
  | leaf (ord : List (Nat × Bool))
  | fork (ps : List (Nat × Bool)) (i : Nat) (t : OT) (j : Nat) (u : OT)

/-- an order's beginning: is it fit, and what is listed behind it -/
def preB (ops : Array Oper) : List (Nat × Bool) → Array Bool → Option (Array Bool)
  | [], listed => some listed
  | (i, eff) :: rest, listed => if (match eff with
      | false => Region.free .any ops listed i && (Region.ready .any ops listed).contains i
      | true => Region.ready .any ops listed == [i]) then preB ops rest (listed.setIfInBounds i true) else none
def OT.ok (ops : Array Oper) : OT → Array Bool → Bool
  | .leaf ord, listed => effB ops ord listed
  | .fork ps i t j u, listed => match preB ops ps listed with
    | some l => Region.ready .any ops l == [i, j] && t.ok ops (l.setIfInBounds i true) && u.ok ops (l.setIfInBounds j true)
    | none => false
def OT.depth : OT → Nat
  | .leaf ord => ord.length
  | .fork ps i t j u => ps.length + 1 + Nat.max t.depth u.depth
def SeqT (P : Program) (L : List Oper) (S : World → Prop) (a0 : Act) (K : List (Nat × Value) → World → Prop) : OT → List (Nat × Value) → World → Prop
  | .leaf ord, env, w => SeqE P L S a0 K ord env w
  | .fork ps i t j u, env, w => SeqE P L S a0 (fun env w => SeqE P L S a0 (fun env w => SeqT P L S a0 K t env w) [(i, true)] env w ∧ SeqE P L S a0 (fun env w => SeqT P L S a0 K u env w) [(j, true)] env w) ps env w

section
variable {P : Program} {L : List Oper} {S : World → Prop} {a0 : Act} {Q : Exit → Act → World → Prop}

theorem seqE_prefix (hs : Region.noSelect L.toArray = true) (hdst : ∀ o ∈ L, ∀ d, o.dst = some d → d < a0.tmps.size) (hQ : ∀ c a d v w, Q (.panic c) (Act.put a d v) w → Q (.panic c) a w)
    (K : List (Nat × Value) → World → Prop) (l' : Array Bool) (m : Nat) (hK : ∀ env w, (∀ d ∈ env.map (·.1), d < a0.tmps.size) → S w → K env w → wpAnyH P .any L.toArray Q S m l' (puts a0 env) w) :
    ∀ (ord : List (Nat × Bool)) (listed : Array Bool) (env : List (Nat × Value)) (w : World), preB L.toArray ord listed = some l' → (∀ d ∈ env.map (·.1), d < a0.tmps.size) → S w →
      SeqE P L S a0 K ord env w → wpAnyH P .any L.toArray Q S (ord.length + m) listed (puts a0 env) w := by
  intro ord
  induction ord with
  | nil =>
    intro listed env w hb hd hS h
    simp only [preB, Option.some.injEq] at hb
    subst hb
    rw [List.length_nil, Nat.zero_add]
    exact hK env w hd hS h
  | cons x rest ih =>
    obtain ⟨i, eff⟩ := x
    intro listed env w hb hd hS h
    rw [show ((i, eff) :: rest).length + m = (rest.length + m) + 1 by simp; omega]
    obtain ⟨o, ho, h⟩ := h
    rw [nthO_eq] at ho
    have ho' : L.toArray[i]? = some o := by simpa using ho
    have hod : ∀ d, o.dst = some d → d < a0.tmps.size := hdst o (List.mem_of_getElem? ho)
    have hselo : ∀ cs b, o.op ≠ .select cs b := Region.noSelect_spec hs i o |> fun k cs b => k cs b ho'
    have hexec : execOp (puts a0 env).eval o = execOp (ev a0 env) o := execOp_congr o hselo fun x _ => puts_eval env hd x
    cases eff with
    | false =>
      simp only [preB] at hb
      split at hb
      case isFalse => cases hb
      rename_i hc
      simp only [Bool.and_eq_true] at hc
      obtain ⟨hfree, hready⟩ := hc
      obtain ⟨v, hy, h⟩ := h
      refine wpAnyH_take (i := i) (oi := o) (v := v) ho' hs hfree hready (fun c a w => hQ c a o.dst v w) ?_ hS ?_
      · rcases hy with ⟨hw, hr⟩ | ⟨hw, rfl⟩
        · exact .inl ⟨puts_wanted hd hw, fun w hw => by rw [hexec]; exact hr w hw⟩
        · exact .inr ⟨puts_wanted hd hw, rfl⟩
      · rw [puts_ext]
        exact ih _ _ w hb (ext_lt hod hd) hS h
    | true =>
      simp only [preB] at hb
      split at hb
      case isFalse => cases hb
      rename_i hready
      rw [beq_iff_eq] at hready
      refine wpAnyH_all (rs := [i]) hready (by simp) ?_
      intro j hj
      obtain rfl : j = i := by simpa using hj
      have hnext : ∀ v w', S w' → SeqE P L S a0 K rest (ext o v env) w' → S w' ∧ wpAnyH P .any L.toArray Q S (rest.length + m) (listed.setIfInBounds j true) ((puts a0 env).put o.dst v) w' := by
        intro v w' hS' h'
        rw [puts_ext]
        exact ⟨hS', ih _ _ w' hb (ext_lt hod hd) hS' h'⟩
      unfold wpOp
      simp only [ho']
      rcases h with ⟨hw, h⟩ | ⟨hw, h⟩
      · rw [if_pos (puts_wanted hd hw)]
        refine .inl ?_
        unfold Oper.wp
        rw [hexec]
        generalize (execOp (ev a0 env) o).run P w = r at *
        cases r with
        | ok n w' =>
          cases n <;> simp only [Eff] at h <;> simp only [Oper.upon]
          case value u => exact hnext _ _ h.1 h.2
          case skip => exact hnext _ _ h.1 h.2
          case enter f args =>
            refine Calls.mono h ?_
            rintro e w'' ⟨v, rfl, h1, h2⟩
            exact hnext _ _ h1 h2
          all_goals exact h.elim
        | halt x w' => exact h.elim
      · rw [if_neg (by rw [puts_wanted hd hw]; decide)]
        exact hnext _ _ hS h

/-- one operation that is ready, run -/
theorem step_one (hs : Region.noSelect L.toArray = true) (hdst : ∀ o ∈ L, ∀ d, o.dst = some d → d < a0.tmps.size) (i : Nat) (K : List (Nat × Value) → World → Prop) (listed : Array Bool) (env : List (Nat × Value)) (w : World) (fuel : Nat)
    (hK : ∀ env w, (∀ d ∈ env.map (·.1), d < a0.tmps.size) → S w → K env w → wpAnyH P .any L.toArray Q S fuel (listed.setIfInBounds i true) (puts a0 env) w) (hd : ∀ d ∈ env.map (·.1), d < a0.tmps.size) (hS : S w)
    (h : SeqE P L S a0 K [(i, true)] env w) :
    wpOp P L.toArray Q i (fun a' w' => S w' ∧ wpAnyH P .any L.toArray Q S fuel (listed.setIfInBounds i true) a' w') (puts a0 env) w := by
  obtain ⟨o, ho, h⟩ := h
  rw [nthO_eq] at ho
  have ho' : L.toArray[i]? = some o := by simpa using ho
  have hod : ∀ d, o.dst = some d → d < a0.tmps.size := hdst o (List.mem_of_getElem? ho)
  have hselo : ∀ cs b, o.op ≠ .select cs b := Region.noSelect_spec hs i o |> fun k cs b => k cs b ho'
  have hexec : execOp (puts a0 env).eval o = execOp (ev a0 env) o := execOp_congr o hselo fun x _ => puts_eval env hd x
  have hnext : ∀ v w', S w' → K (ext o v env) w' → S w' ∧ wpAnyH P .any L.toArray Q S fuel (listed.setIfInBounds i true) ((puts a0 env).put o.dst v) w' := by
    intro v w' hS' h'
    rw [puts_ext]
    exact ⟨hS', hK _ w' (ext_lt hod hd) hS' h'⟩
  unfold wpOp
  simp only [ho']
  rcases h with ⟨hw, h⟩ | ⟨hw, h⟩
  · rw [if_pos (puts_wanted hd hw)]
    refine .inl ?_
    unfold Oper.wp
    rw [hexec]
    generalize (execOp (ev a0 env) o).run P w = r at *
    cases r with
    | ok n w' =>
      cases n <;> simp only [Eff] at h <;> simp only [Oper.upon]
      case value u => exact hnext _ _ h.1 h.2
      case skip => exact hnext _ _ h.1 h.2
      case enter f args =>
        refine Calls.mono h ?_
        rintro e w'' ⟨v, rfl, h1, h2⟩
        exact hnext _ _ h1 h2
      all_goals exact h.elim
    | halt x w' => exact h.elim
  · rw [if_neg (by rw [puts_wanted hd hw]; decide)]
    exact hnext _ _ hS h

theorem seqT_sound (hs : Region.noSelect L.toArray = true) (hdst : ∀ o ∈ L, ∀ d, o.dst = some d → d < a0.tmps.size) (hQ : ∀ c a d v w, Q (.panic c) (Act.put a d v) w → Q (.panic c) a w) :
    ∀ (t : OT) (listed : Array Bool) (env : List (Nat × Value)) (w : World) (fuel : Nat), t.depth ≤ fuel → t.ok L.toArray listed = true → (∀ d ∈ env.map (·.1), d < a0.tmps.size) → S w →
      SeqT P L S a0 (fun F w' => S w' → Q .normal (puts a0 F) w') t env w → wpAnyH P .any L.toArray Q S fuel listed (puts a0 env) w
  | .leaf ord, listed, env, w, fuel, hf, hb, hd, hS, h => seqE_sound hs hdst hQ ord listed env w fuel hf hb hd hS h
  | .fork ps i t j u, listed, env, w, fuel, hf, hb, hd, hS, h => by
    unfold OT.ok at hb
    cases hp : preB L.toArray ps listed with
    | none => rw [hp] at hb; cases hb
    | some l =>
      rw [hp] at hb
      simp only [Bool.and_eq_true, beq_iff_eq] at hb
      obtain ⟨⟨hready, hb1⟩, hb2⟩ := hb
      unfold OT.depth at hf
      have hm1 := Nat.le_max_left t.depth u.depth
      have hm2 := Nat.le_max_right t.depth u.depth
      have hmx : Nat.max t.depth u.depth = max t.depth u.depth := rfl
      rw [hmx] at hf
      obtain ⟨m, rfl⟩ : ∃ m, fuel = ps.length + (m + 1) := ⟨fuel - ps.length - 1, by omega⟩
      refine seqE_prefix hs hdst hQ _ l (m + 1) (fun env w hd hS h => ?_) ps listed env w hp hd hS h
      obtain ⟨h1, h2⟩ := h
      refine wpAnyH_all (rs := [i, j]) hready (by simp) ?_
      intro k hk
      rcases List.mem_cons.1 hk with rfl | hk
      · exact step_one hs hdst k _ l env w m (fun env w hd hS h => seqT_sound hs hdst hQ t _ env w m (by omega) hb1 hd hS h) hd hS h1
      · obtain rfl : k = j := by simpa using hk
        exact step_one hs hdst k _ l env w m (fun env w hd hS h => seqT_sound hs hdst hQ u _ env w m (by omega) hb2 hd hS h) hd hS h2
theorem SeqT.mono {K K' : List (Nat × Value) → World → Prop} (hK : ∀ F w, K F w → K' F w) : ∀ {t : OT} {env : List (Nat × Value)} {w : World}, SeqT P L S a0 K t env w → SeqT P L S a0 K' t env w
  | .leaf ord, env, w, h => SeqE.mono hK h
  | .fork ps i t j u, env, w, h => SeqE.mono (fun F w h => ⟨SeqE.mono (fun F w h => SeqT.mono hK h) h.1, SeqE.mono (fun F w h => SeqT.mono hK h) h.2⟩) h
/-- THE LAW: every run of the tree ends in J. -/
theorem wp_tree (J : Act → List (Nat × Value) → World → Prop) (t : OT) (hc : (Region.noSelect L.toArray && dstOk L a0.tmps.size && t.ok L.toArray (Array.replicate L.length false) && Nat.ble t.depth L.length) = true) (hm : P.follows .mixedOrders = true) {id : Nat} {w : World} (hS : S w.drew)
    (hQ : ∀ c a d v w, Q (.panic c) (Act.put a d v) w → Q (.panic c) a w)
    (hJ : ∀ F w', J a0 F w' → Q .normal (puts a0 F) w')
    (h : SeqT P L S a0 (J a0) t [] w.drew) : (Code.region id L.toArray true).wp P Q a0 w := by
  simp only [Bool.and_eq_true] at hc
  obtain ⟨⟨⟨h1, h2⟩, h3⟩, h4⟩ := hc
  refine wp_region_held (S := S) hm ?_
  refine seqT_sound h1 ?_ hQ t _ [] _ _ ?_ ?_ (by simp) hS (h.mono (fun F w h (_ : S w) => hJ F w h))
  · intro o ho d hd
    have := List.all_eq_true.1 h2 o ho
    rw [hd] at this
    simpa [Nat.blt_eq] using this
  · simpa using Nat.le_of_ble_eq_true h4
  · simpa using h3
end
section
variable {P : Program} {L : List Oper} {S : World → Prop} {a0 : Act} {K : List (Nat × Value) → World → Prop} {env : List (Nat × Value)} {rest : List (Nat × Bool)} {i : Nat} {w : World} {d : Nat} {T : TypeId} {pos : String} {after : Array Edge} {g : Option (Nat × Bool)}
theorem parts_eq {ps : List (Nat × Operand)} {vs : List (Nat × Value)} (hx : ps.map (fun x => (x.1, rdo a0 env x.2)) = vs.map (fun x => (x.1, some x.2))) : (ps.toArray.map fun (i, x) => (i, ev a0 env x)) = vs.toArray := by
  rw [List.map_toArray]
  congr 1
  induction ps generalizing vs with
  | nil => cases vs with
    | nil => rfl
    | cons v vs => simp at hx
  | cons p ps ih => cases vs with
    | nil => simp at hx
    | cons q vs =>
      simp only [List.map_cons, List.cons.injEq, Prod.mk.injEq] at hx
      obtain ⟨⟨h1, h2⟩, h3⟩ := hx
      obtain ⟨p1, p2⟩ := p
      obtain ⟨q1, q2⟩ := q
      simp only at h1 h2
      subst h1
      rw [List.map_cons, ih h3]
      simp only [ev_of h2]
/-- a struct's value -/
theorem se_build {t : TypeId} {ps : List (Nat × Operand)} {vs : List (Nat × Value)} {v : Value} (ho : want.nthO L i = some ⟨some d, .build t ps.toArray, T, pos, after, g⟩) (hg : want L a0 env g = some true) (hx : ps.map (fun x => (x.1, rdo a0 env x.2)) = vs.map (fun x => (x.1, some x.2)))
    (hr : ∀ w, S w → Sem.run P (Instr.build t vs.toArray) w = .ok v w) (h : SeqE P L S a0 K rest ((d, v) :: env) w) : SeqE P L S a0 K ((i, false) :: rest) env w := by
  refine se_gen ho hg (fun w hw => ?_) h
  simp only [execOp]
  rw [parts_eq hx]
  simp only [Sem.run_bind]
  rw [hr w hw]
  rfl
/-- a variable in memory -/
theorem se_alloc {e : TypeId} {v : Value} {w' : World} (ho : want.nthO L i = some ⟨some d, .alloc e, T, pos, after, g⟩) (hg : want L a0 env g = some true) (hr : Sem.run P (Instr.alloc e true (.tuple #[])) w = .ok v w') (hS : S w') (h : SeqE P L S a0 K rest ((d, v) :: env) w') :
    SeqE P L S a0 K ((i, true) :: rest) env w := by
  refine se_eff ho hg ?_
  have h1 : (execOp (ev a0 env) ⟨some d, .alloc e, T, pos, after, g⟩).run P w = .ok (.value v) w' := by
    simp only [execOp, Sem.run_bind]
    rw [hr]
    rfl
  rw [h1]
  exact ⟨hS, h⟩
/-- a load, where it is not known of every world what lies there -/
theorem se_loadE {t : TypeId} {x : Operand} {vx v : Value} (ho : want.nthO L i = some ⟨some d, .load t x, T, pos, after, g⟩) (hg : want L a0 env g = some true) (hx : rdo a0 env x = some vx)
    (hr : Sem.run P (Instr.loadAt t vx) w = .ok v w) (hS : S w) (h : SeqE P L S a0 K rest ((d, v) :: env) w) : SeqE P L S a0 K ((i, true) :: rest) env w := by
  refine se_eff ho hg ?_
  have h1 : (execOp (ev a0 env) ⟨some d, .load t x, T, pos, after, g⟩).run P w = .ok (.value v) w := by
    simp only [execOp, ev_of hx, Sem.run_bind]
    rw [hr]
    rfl
  rw [h1]
  exact ⟨hS, h⟩
/-- a store -/
theorem se_store {t : TypeId} {x y : Operand} {vx vy : Value} {w' : World} (ho : want.nthO L i = some ⟨none, .store t x y, T, pos, after, g⟩) (hg : want L a0 env g = some true) (hx : rdo a0 env x = some vx) (hy : rdo a0 env y = some vy)
    (hr : Sem.run P (Instr.storeAt t vx vy) w = .ok () w') (hS : S w') (h : SeqE P L S a0 K rest env w') : SeqE P L S a0 K ((i, true) :: rest) env w := by
  refine ⟨_, ho, .inl ⟨hg, ?_⟩⟩
  have h1 : (execOp (ev a0 env) ⟨none, .store t x y, T, pos, after, g⟩).run P w = .ok .skip w' := by
    simp only [execOp, ev_of hx, ev_of hy, Sem.run_bind]
    rw [hr]
    rfl
  rw [h1]
  exact ⟨hS, h⟩
end
end Go.Proofs.YtmageoieajhhdaaDoor.RegionVal
