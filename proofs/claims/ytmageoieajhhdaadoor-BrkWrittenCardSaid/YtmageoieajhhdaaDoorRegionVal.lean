/- A region that draws its order, whose operations all yield, in the order of the text, values that hang on no order: it ends in the frame that the order of the text gives, in whatever order it goes. Conditions: the Bool 'seqB' on the region's text, and one condition S on worlds that every operation keeps. -/
import Derived.Orders
import Derived.Below
namespace Go.Proofs.YtmageoieajhhdaaDoor.RegionVal
open Go

def look : List (Nat × Value) → Nat → Option Value
  | [], _ => none
  | (d, v) :: env, t => cond (Nat.beq d t) (some v) (look env t)

def ev (a0 : Act) (env : List (Nat × Value)) : Operand → Value
  | .tmp t => match look env t with
    | some v => v
    | none => a0.tmps.getD t undef
  | .const v => v
  | .global g => .pointer (some ⟨g, 0, none⟩)
  | .func f => .func (.func f) #[] #[]

def yl (ops : Array Oper) (a0 : Act) (env : List (Nat × Value)) (j : Nat) : Option Bool :=
  match (ops[j]?).bind (·.dst) with
  | some t => match ev a0 env (.tmp t) with
    | .bool b => some b
    | _ => none
  | none => none

def Res (P : Program) (S : World → Prop) (v : Value) : Result Next → Prop
  | .ok (.value v') w' => v' = v ∧ S w'
  | .ok .skip w' => undef = v ∧ S w'
  | .ok (.enter f args) w' => Calls P f args w' fun e w'' => e = .returned v ∧ S w''
  | _ => False

/-- operation o yields v -/
def Yld (P : Program) (ops : Array Oper) (S : World → Prop) (a0 : Act) (env : List (Nat × Value)) (o : Oper) (v : Value) : Prop :=
  (Region.wanted o (yl ops a0 env) = true ∧ ∀ w, S w → Res P S v ((execOp (ev a0 env) o).run P w)) ∨ (Region.wanted o (yl ops a0 env) = false ∧ v = undef)

def ext (o : Oper) (v : Value) (env : List (Nat × Value)) : List (Nat × Value) :=
  match o.dst with
  | some d => (d, v) :: env
  | none => env

def SeqOk (P : Program) (ops : Array Oper) (S : World → Prop) (a0 : Act) (K : List (Nat × Value) → Prop) : List Oper → List (Nat × Value) → Prop
  | [], env => K env
  | o :: rest, env => ∃ v, Yld P ops S a0 env o v ∧ SeqOk P ops S a0 K rest (ext o v env)

def puts (a0 : Act) : List (Nat × Value) → Act
  | [] => a0
  | (d, v) :: env => (puts a0 env).put (some d) v

/-- the region's text is fit for it -/
def seqB (ops : List Oper) (n : Nat) : Bool :=
  let ds := ops.map (·.dst)
  (List.range ops.length).all fun i => match ops[i]? with
    | none => true
    | some o =>
      (match o.op with | .select .. => false | _ => true) &&
      (match o.dst with | some d => Nat.blt d n && (ds.drop (i + 1)).all (fun x => x != some d) | none => true) &&
      o.after.toList.all (fun e => !Region.binds .any e || Nat.blt e.on i) &&
      (o.looksAt ops.toArray).all fun t => o.after.toList.any (fun e => Region.binds .any e && (ds.getD e.on none == some t)) ||
        (List.range ops.length).all fun k => match ops[k]? with
          | none => true
          | some ok => ok.dst != some t || (Nat.blt i k && ok.after.toList.any (fun e => Region.binds .any e && Nat.beq e.on i))

section
variable {P : Program} {ops : Array Oper} {S : World → Prop} {a0 : Act} {Q : Exit → Act → World → Prop}

theorem look_append_of_not_mem : ∀ {G env : List (Nat × Value)} {t : Nat}, t ∉ G.map (·.1) → look (G ++ env) t = look env t
  | [], env, t, _ => rfl
  | (d, v) :: G, env, t, h => by
    simp only [List.map_cons, List.mem_cons, not_or] at h
    have hd : Nat.beq d t = false := by
      cases hb : Nat.beq d t with
      | false => rfl
      | true => exact absurd (Nat.eq_of_beq_eq_true hb).symm h.1
    simp only [List.cons_append, look, hd, cond_false]
    exact look_append_of_not_mem h.2

theorem look_none : ∀ {env : List (Nat × Value)} {t : Nat}, t ∉ env.map (·.1) → look env t = none
  | [], _, _ => rfl
  | (d, v) :: env, t, h => by
    have h1 := look_append_of_not_mem (G := (d, v) :: env) (env := []) h
    rw [List.append_nil] at h1
    rw [h1]
    rfl

theorem drop_cons {α : Type} {L : List α} {i : Nat} {o : α} (h : L[i]? = some o) : L.drop i = o :: L.drop (i + 1) := by
  obtain ⟨hl, rfl⟩ := List.getElem?_eq_some_iff.1 h
  exact List.drop_eq_getElem_cons hl

theorem puts_defers : ∀ env, (puts a0 env).defers = a0.defers
  | [] => rfl
  | (d, v) :: env => by simp only [puts, Act.put]; exact puts_defers env
theorem puts_size : ∀ env, (puts a0 env).tmps.size = a0.tmps.size
  | [] => rfl
  | (d, v) :: env => by simp only [puts, Act.put, Array.size_setIfInBounds]; exact puts_size env
theorem puts_get : ∀ env t, t < a0.tmps.size → (puts a0 env).tmps[t]? = some (ev a0 env (.tmp t))
  | [], t, h => by simp [puts, ev, look, Array.getD_eq_getD_getElem?, h]
  | (d, v) :: env, t, h => by
    have ih := puts_get env t h
    simp only [puts, Act.put]
    by_cases e : d = t
    · subst e
      have hs : d < (puts a0 env).tmps.size := by rw [puts_size]; exact h
      rw [Array.getElem?_setIfInBounds_self]
      simp [ev, look, hs]
    · rw [Array.getElem?_setIfInBounds_ne e, ih]
      have hd : Nat.beq d t = false := by
        cases hb : Nat.beq d t with
        | false => rfl
        | true => exact absurd (Nat.eq_of_beq_eq_true hb) e
      simp only [ev, look, hd, cond_false]

/-- the run in the order of the text, told -/
theorem seq_told {K : List (Nat × Value) → Prop} : ∀ (L : List Oper) (env : List (Nat × Value)), SeqOk P ops S a0 K L env →
    ∃ F, K F ∧ (∃ G, F = G ++ env ∧ ∀ d ∈ G.map (·.1), some d ∈ L.map (·.dst)) ∧
      ∀ i o, L[i]? = some o → ∃ v envi G, Yld P ops S a0 envi o v ∧ F = G ++ ext o v envi ∧ (∀ d ∈ G.map (·.1), some d ∈ (L.drop (i + 1)).map (·.dst)) ∧ ∀ d ∈ envi.map (·.1), d ∈ env.map (·.1) ∨ some d ∈ (L.take i).map (·.dst)
  | [], env, h => ⟨env, h, ⟨[], rfl, by simp⟩, by simp⟩
  | o :: rest, env, h => by
    obtain ⟨v, hy, hs⟩ := h
    obtain ⟨F, hK, ⟨G, hG, hGd⟩, hall⟩ := seq_told rest (ext o v env) hs
    refine ⟨F, hK, ?_, ?_⟩
    · cases hd : o.dst with
      | none =>
        refine ⟨G, by rw [hG]; simp [ext, hd], fun d hm => ?_⟩
        simp only [List.map_cons, List.mem_cons]
        exact .inr (hGd d hm)
      | some d0 =>
        refine ⟨G ++ [(d0, v)], by rw [hG]; simp [ext, hd], fun d hm => ?_⟩
        simp only [List.map_append, List.map_cons, List.map_nil, List.mem_append, List.mem_singleton] at hm
        simp only [List.map_cons, List.mem_cons]
        rcases hm with hm | rfl
        · exact .inr (hGd d hm)
        · exact .inl hd.symm
    · intro i o' hi
      cases i with
      | zero =>
        simp only [List.getElem?_cons_zero, Option.some.injEq] at hi
        subst hi
        exact ⟨v, env, G, hy, hG, by simpa using hGd, fun d hd => .inl hd⟩
      | succ i =>
        simp only [List.getElem?_cons_succ] at hi
        obtain ⟨v', envi, G', h1, h2, h3, h4⟩ := hall i o' hi
        refine ⟨v', envi, G', h1, h2, by simpa using h3, fun d hd => ?_⟩
        rw [List.take_succ_cons, List.map_cons, List.mem_cons]
        rcases h4 d hd with h5 | h5
        · cases hdo : o.dst with
          | none => exact .inl (by simpa [ext, hdo] using h5)
          | some d0 =>
            simp only [ext, hdo, List.map_cons, List.mem_cons] at h5
            rcases h5 with rfl | h5
            · exact .inr (.inl rfl)
            · exact .inl h5
        · exact .inr (.inr h5)

theorem ev_eq {envi G : List (Nat × Value)} {t : Nat} (h : t ∉ G.map (·.1)) : ev a0 (G ++ envi) (.tmp t) = ev a0 envi (.tmp t) := by
  simp only [ev, look_append_of_not_mem h]

theorem wp_val (hc : seqB ops.toList a0.tmps.size = true) (hm : P.follows .mixedOrders = true) {id : Nat} {w : World} (hS : S w.drew)
    (h : SeqOk P ops S a0 (fun F => ∀ w', S w' → Q .normal (puts a0 F) w') ops.toList []) : (Code.region id ops true).wp P Q a0 w := by
  obtain ⟨F, hK, ⟨G0, hF0, hG0⟩, hall⟩ := seq_told ops.toList [] h
  simp only [List.append_nil] at hF0
  subst hF0
  -- the check, op by op
  have hck : ∀ (i : Nat) (o : Oper), ops[i]? = some o → (∀ cs b, o.op ≠ .select cs b) ∧ (∀ d, o.dst = some d → d < a0.tmps.size ∧ some d ∉ (ops.toList.map (·.dst)).drop (i + 1)) ∧ (∀ e ∈ o.after, Region.binds .any e = true → e.on < i) ∧
      ∀ t ∈ o.looksAt ops, (∃ e ∈ o.after, Region.binds .any e = true ∧ ∃ oe, ops[e.on]? = some oe ∧ oe.dst = some t) ∨ ∀ (k : Nat) (ok : Oper), ops[k]? = some ok → ok.dst = some t → i < k ∧ ∃ e ∈ ok.after, Region.binds .any e = true ∧ e.on = i := by
    intro i o hi
    have hi' : ops.toList[i]? = some o := by simpa using hi
    have hlt : i < ops.toList.length := (List.getElem?_eq_some_iff.1 hi').1
    have h1 := (List.all_eq_true.1 hc) i (List.mem_range.2 hlt)
    simp only [hi', Bool.and_eq_true] at h1
    obtain ⟨⟨⟨h1, h2⟩, h3⟩, h4⟩ := h1
    refine ⟨(fun cs b he => by rw [he] at h1; cases h1), fun d hd => ?_, fun e he hb => ?_, fun t ht => ?_⟩
    · rw [hd] at h2
      simp only [Bool.and_eq_true] at h2
      refine ⟨by have := h2.1; simpa [Nat.blt_eq] using this, fun hmem => ?_⟩
      have := (List.all_eq_true.1 h2.2) _ hmem
      simp at this
    · have := (List.all_eq_true.1 h3) e (by simpa using he)
      rw [hb] at this
      simpa [Nat.blt_eq] using this
    · have h5 := (List.all_eq_true.1 h4) t (by simpa using ht)
      simp only [Bool.or_eq_true] at h5
      rcases h5 with h6 | h6
      · obtain ⟨e, he, hb⟩ := List.any_eq_true.1 h6
        simp only [Bool.and_eq_true, beq_iff_eq] at hb
        refine .inl ⟨e, by simpa using he, hb.1, ?_⟩
        have h7 := hb.2
        rw [List.getD_eq_getElem?_getD, List.getElem?_map] at h7
        cases ho : ops.toList[e.on]? with
        | none => rw [ho] at h7; simp at h7
        | some oe => rw [ho] at h7; exact ⟨oe, by simpa using ho, by simpa using h7⟩
      · refine .inr fun k ok hk hkd => ?_
        have hk' : ops.toList[k]? = some ok := by simpa using hk
        have h7 := (List.all_eq_true.1 h6) k (List.mem_range.2 (List.getElem?_eq_some_iff.1 hk').1)
        simp only [hk', hkd, bne_self_eq_false, Bool.false_or, Bool.and_eq_true] at h7
        obtain ⟨h8, h9⟩ := h7
        obtain ⟨e, he, hb⟩ := List.any_eq_true.1 h9
        simp only [Bool.and_eq_true] at hb
        exact ⟨by simpa [Nat.blt_eq] using h8, e, by simpa using he, hb.1, Nat.eq_of_beq_eq_true hb.2⟩
  -- each operation, in the final values
  have hnd : ∀ (i k : Nat) (oi ok : Oper) (d : Tmp), ops[i]? = some oi → ops[k]? = some ok → oi.dst = some d → ok.dst = some d → i = k := by
    intro i k oi ok d hi hk hdi hdk
    rcases Nat.lt_trichotomy i k with hlt | he | hlt
    · exfalso
      refine ((hck i oi hi).2.1 d hdi).2 ?_
      rw [← List.map_drop]
      refine List.mem_map.2 ⟨ok, ?_, hdk⟩
      rw [List.mem_iff_getElem?]
      exact ⟨k - (i + 1), by rw [List.getElem?_drop]; rw [show i + 1 + (k - (i + 1)) = k by omega]; simpa using hk⟩
    · exact he
    · exfalso
      refine ((hck k ok hk).2.1 d hdk).2 ?_
      rw [← List.map_drop]
      refine List.mem_map.2 ⟨oi, ?_, hdi⟩
      rw [List.mem_iff_getElem?]
      exact ⟨i - (k + 1), by rw [List.getElem?_drop]; rw [show k + 1 + (i - (k + 1)) = i by omega]; simpa using hi⟩
  have hop : ∀ (i : Nat) (o : Oper), ops[i]? = some o → ∃ v, (∀ d, o.dst = some d → ev a0 F (.tmp d) = v) ∧
      ∀ a : Act, (∀ t ∈ o.looksAt ops, (∃ e ∈ o.after, Region.binds .any e = true ∧ ∃ oe, ops[e.on]? = some oe ∧ oe.dst = some t) ∧ a.tmps.getD t undef = ev a0 F (.tmp t) ∨ (∀ (k : Nat) (ok : Oper), ops[k]? = some ok → ok.dst = some t → i < k) ∧ a.tmps.getD t undef = a0.tmps.getD t undef) →
        (Region.wanted o (yielded ops a.tmps) = true ∧ ∀ w, S w → Res P S v ((execOp a.eval o).run P w)) ∨ (Region.wanted o (yielded ops a.tmps) = false ∧ v = undef) := by
    intro i o hi
    obtain ⟨k1, k2, k3, k4⟩ := hck i o hi
    obtain ⟨v, envi, G, hy, hG, hGd, henv⟩ := hall i o (by simpa using hi)
    refine ⟨v, fun d hd => ?_, fun a ha => ?_⟩
    · have hn : d ∉ G.map (·.1) := fun hmem => (k2 d hd).2 (by rw [← List.map_drop]; exact hGd d hmem)
      rw [hG, ev_eq hn]
      simp only [ext, hd, ev, look]
      have : Nat.beq d d = true := Nat.beq_refl d
      simp [this]
    · have hlook : ∀ t ∈ o.looksAt ops, a.tmps.getD t undef = ev a0 envi (.tmp t) := by
        intro t ht
        rcases ha t ht with ⟨⟨e, he, hb, oe, hoe, hdt⟩, h⟩ | ⟨hw, h⟩
        · rw [h, hG]
          have hei := k3 e he hb
          have hn : t ∉ G.map (·.1) := fun hm' => by
            obtain ⟨ok, hok, hokd⟩ := List.mem_map.1 (hGd t hm')
            obtain ⟨q, hq⟩ := List.mem_iff_getElem?.1 hok
            rw [List.getElem?_drop] at hq
            have := hnd e.on (i + 1 + q) oe ok t hoe (by simpa using hq) hdt hokd
            omega
          rw [ev_eq hn]
          cases hd : o.dst with
          | none => simp [ext, hd]
          | some d =>
            have hne : Nat.beq d t = false := by
              cases hb' : Nat.beq d t with
              | false => rfl
              | true =>
                have := Nat.eq_of_beq_eq_true hb'
                subst this
                have := hnd e.on i oe o d hoe hi hdt hd
                omega
            simp [ext, hd, ev, look, hne]
        · have hn : t ∉ envi.map (·.1) := fun hm' => by
            rcases henv t hm' with h1 | h1
            · simp at h1
            · obtain ⟨ok, hok, hokd⟩ := List.mem_map.1 h1
              obtain ⟨q, hq⟩ := List.mem_iff_getElem?.1 hok
              have hq' := (List.getElem?_eq_some_iff.1 hq).1
              rw [List.length_take] at hq'
              have hq2 : ops[q]? = some ok := by
                rw [List.getElem?_take] at hq
                split at hq
                · simpa using hq
                · cases hq
              have := hw q ok hq2 hokd
              omega
          rw [h]
          simp only [ev, look_none hn]
      have he : execOp a.eval o = execOp (ev a0 envi) o := execOp_congr o k1 fun x hx => by
        cases x with
        | tmp t => exact hlook t (List.mem_append_left _ (List.mem_filterMap.2 ⟨.tmp t, by simpa using hx, rfl⟩))
        | const v => rfl
        | global g => rfl
        | func f => rfl
      have hw : Region.wanted o (yielded ops a.tmps) = Region.wanted o (yl ops a0 envi) := by
        unfold Region.wanted
        cases hg : o.guard with
        | none => rfl
        | some gw =>
          obtain ⟨g, want⟩ := gw
          have : yielded ops a.tmps g = yl ops a0 envi g := by
            unfold yielded yl
            cases hd : (ops[g]?).bind (·.dst) with
            | none => rfl
            | some t =>
              have := hlook t (by simp [Oper.looksAt, hg, hd])
              simp only [Option.bind_some]
              rw [← this]
              cases ht : a.tmps[t]? with
              | none => simp [Array.getD_eq_getD_getElem?, ht, undef]
              | some x => simp [Array.getD_eq_getD_getElem?, ht]; cases x <;> rfl
          simp only [this]
      rw [hw, he]
      exact hy
  -- whatever order
  have main : ∀ (fuel : Nat) (listed : Array Bool) (a : Act) (w : World), listed.size = ops.size → ((List.range ops.size).filter fun i => !listed.getD i true).length ≤ fuel → a.defers = a0.defers → a.tmps.size = a0.tmps.size →
      (∀ (j : Nat) (o : Oper) (d : Tmp), listed.getD j false = true → ops[j]? = some o → o.dst = some d → a.tmps[d]? = some (ev a0 F (.tmp d))) → (∀ t, (∀ (j : Nat) (o : Oper), listed.getD j false = true → ops[j]? = some o → o.dst ≠ some t) → a.tmps[t]? = a0.tmps[t]?) → (∀ (j : Nat) (o : Oper), listed.getD j false = true → ops[j]? = some o → ∀ e ∈ o.after, Region.binds .any e = true → listed.getD e.on false = true) → S w →
      wpAny P .any ops Q fuel listed a w := by
    -- nothing ready: all have come up
    have hend : ∀ (listed : Array Bool) (a : Act) (w : World), listed.size = ops.size → a.defers = a0.defers → a.tmps.size = a0.tmps.size →
        (∀ (j : Nat) (o : Oper) (d : Tmp), listed.getD j false = true → ops[j]? = some o → o.dst = some d → a.tmps[d]? = some (ev a0 F (.tmp d))) → (∀ t, (∀ (j : Nat) (o : Oper), listed.getD j false = true → ops[j]? = some o → o.dst ≠ some t) → a.tmps[t]? = a0.tmps[t]?) → S w → Region.ready .any ops listed = [] → Q .normal a w := by
      intro listed a w hls hd hsz hA hB hSw hr
      have hl : ∀ n, ∀ i, i < n → i < ops.size → listed.getD i false = true := by
        intro n
        induction n with
        | zero => intro i hi; omega
        | succ n ih =>
          intro i hi hi2
          cases hb : listed.getD i false with
          | true => rfl
          | false =>
            have hmem : i ∈ Region.ready .any ops listed := by
              rw [mem_ready]
              obtain ⟨o, ho⟩ : ∃ o, ops[i]? = some o := ⟨ops[i], by simp [hi2]⟩
              refine ⟨?_, o, ho, fun e he hbe => ?_⟩
              · rw [Array.getD_eq_getD_getElem?] at hb ⊢
                have : i < listed.size := by omega
                simp [this] at hb ⊢
                exact hb
              · have := (hck i o ho).2.2.1 e he hbe
                exact ih e.on (by omega) (by omega)
            rw [hr] at hmem; cases hmem
      have haF : a = puts a0 F := by
        have h1 : a.tmps = (puts a0 F).tmps := by
          apply Array.ext_getElem?
          intro t
          by_cases hmem : some t ∈ ops.toList.map (·.dst)
          · obtain ⟨o, ho, hod⟩ := List.mem_map.1 hmem
            obtain ⟨j, hj⟩ := List.mem_iff_getElem?.1 ho
            have hj' : ops[j]? = some o := by simpa using hj
            have hjlt : j < ops.size := (Array.getElem?_eq_some_iff.1 hj').1
            rw [hA j o t (hl (j + 1) j (by omega) hjlt) hj' hod]
            rw [puts_get F t ((hck j o hj').2.1 t hod).1]
          · rw [hB t (fun j o _ ho hd => hmem (List.mem_map.2 ⟨o, List.mem_iff_getElem?.2 ⟨j, by simpa using ho⟩, hd⟩))]
            by_cases ht : t < a0.tmps.size
            · rw [puts_get F t ht]
              have hn : t ∉ F.map (·.1) := fun hm' => hmem (hG0 t hm')
              simp [ev, look_none hn, Array.getD_eq_getD_getElem?, ht]
            · rw [Array.getElem?_eq_none (by omega), Array.getElem?_eq_none (by rw [puts_size]; omega)]
        obtain ⟨at1, ad1⟩ := a
        simp only at h1 hd
        have h2 := puts_defers (a0 := a0) F
        cases hp : puts a0 F with
        | mk t2 d2 =>
          rw [hp] at h1 h2
          simp only at h1 h2
          rw [h1, hd, h2]
      rw [haF]
      exact hK w hSw
    intro fuel
    induction fuel with
    | zero =>
      intro listed a w hls hn hd hsz hA hB hC hSw
      have hr : Region.ready .any ops listed = [] := by
        cases hr : Region.ready .any ops listed with
        | nil => rfl
        | cons j js =>
          have hj : j ∈ Region.ready .any ops listed := by rw [hr]; exact List.mem_cons_self ..
          have h0 := (mem_ready.1 hj)
          obtain ⟨h0, o, ho, _⟩ := h0
          have : j ∈ (List.range ops.size).filter fun i => !listed.getD i true := List.mem_filter.2 ⟨List.mem_range.2 (Array.getElem?_eq_some_iff.1 ho).1, by simp [h0]⟩
          have := List.length_pos_of_mem this
          omega
      exact ⟨hr, hend listed a w hls hd hsz hA hB hSw hr⟩
    | succ fuel ih =>
      intro listed a w hls hn hd hsz hA hB hC hSw
      refine ⟨hend listed a w hls hd hsz hA hB hSw, fun i hi => ?_⟩
      obtain ⟨h0, o, ho, hedge⟩ := mem_ready.1 hi
      have hilt : i < ops.size := (Array.getElem?_eq_some_iff.1 ho).1
      obtain ⟨k1, k2, k3, k4⟩ := hck i o ho
      obtain ⟨v, hv, hrun⟩ := hop i o ho
      have hun : listed.getD i false = false := by
        rw [Array.getD_eq_getD_getElem?] at h0 ⊢
        have : i < listed.size := by omega
        simp [this] at h0 ⊢
        exact h0
      have hlook : ∀ t ∈ o.looksAt ops, (∃ e ∈ o.after, Region.binds .any e = true ∧ ∃ oe, ops[e.on]? = some oe ∧ oe.dst = some t) ∧ a.tmps.getD t undef = ev a0 F (.tmp t) ∨ (∀ (k : Nat) (ok : Oper), ops[k]? = some ok → ok.dst = some t → i < k) ∧ a.tmps.getD t undef = a0.tmps.getD t undef := by
        intro t ht
        rcases k4 t ht with ⟨e, he, hb, oe, hoe, hdt⟩ | hw
        · refine .inl ⟨⟨e, he, hb, oe, hoe, hdt⟩, ?_⟩
          have := hA e.on oe t (hedge e he hb) hoe hdt
          rw [Array.getD_eq_getD_getElem?, this]; rfl
        · refine .inr ⟨fun k ok hk hkd => (hw k ok hk hkd).1, ?_⟩
          have := hB t (fun j oj hj hoj hjd => by
            obtain ⟨_, e, he, hb, heq⟩ := hw j oj hoj hjd
            have := hC j oj hj hoj e he hb
            rw [heq, hun] at this
            cases this)
          simp only [Array.getD_eq_getD_getElem?, this]
      have hnext : ∀ w', S w' → wpAny P .any ops Q fuel (listed.setIfInBounds i true) (a.put o.dst v) w' := by
        intro w' hSw'
        have hputd : (a.put o.dst v).defers = a.defers := by cases o.dst <;> rfl
        have hputs : (a.put o.dst v).tmps.size = a.tmps.size := by cases o.dst <;> simp [Act.put]
        refine ih _ _ _ (by simpa using hls) ?_ (hputd.trans hd) (hputs.trans hsz) ?_ ?_ ?_ hSw'
        · -- one fewer
          have hsub : ∀ (L : List Nat), L.Nodup → i ∈ L → (L.filter fun j => !(listed.setIfInBounds i true).getD j true).length < (L.filter fun j => !listed.getD j true).length := by
            intro L
            induction L with
            | nil => intro _ hmem; cases hmem
            | cons x L ihL =>
              intro hnd hmem
              have hx : ∀ j, j ≠ i → (listed.setIfInBounds i true).getD j true = listed.getD j true := fun j hj => getD_set_ne true (Ne.symm hj)
              have hi0 : (listed.setIfInBounds i true).getD i true = true := by
                rw [Array.getD_eq_getD_getElem?, Array.getElem?_setIfInBounds_self]
                split <;> rfl
              by_cases hxi : x = i
              · subst hxi
                have hnot : x ∉ L := (List.nodup_cons.1 hnd).1
                have heq : L.filter (fun j => !(listed.setIfInBounds x true).getD j true) = L.filter (fun j => !listed.getD j true) := by
                  apply List.filter_congr
                  intro j hj
                  rw [hx j (fun e => hnot (e ▸ hj))]
                rw [List.filter_cons, List.filter_cons, hi0, h0, heq]
                simp
              · have := ihL (List.nodup_cons.1 hnd).2 (by
                  rcases List.mem_cons.1 hmem with e | e
                  · exact absurd e.symm hxi
                  · exact e)
                rw [List.filter_cons, List.filter_cons, hx x hxi]
                split
                · simp only [List.length_cons]; omega
                · exact this
          have := hsub (List.range ops.size) List.nodup_range (List.mem_range.2 hilt)
          omega
        · intro j oj d hj hoj hdj
          by_cases hji : j = i
          · subst hji
            rw [ho] at hoj
            cases hoj
            have hlt := (k2 d hdj).1
            have : (a.put o.dst v).tmps[d]? = some v := by
              rw [hdj]
              simp only [Act.put]
              rw [Array.getElem?_setIfInBounds_self]
              have : d < a.tmps.size := by rw [hsz]; exact hlt
              simp [this]
            rw [this, hv d hdj]
          · have hj' : listed.getD j false = true := by rw [getD_set_ne false (Ne.symm hji)] at hj; exact hj
            have h1 := hA j oj d hj' hoj hdj
            have hne : ∀ d', o.dst = some d' → d' ≠ d := by
              intro d' hd' e
              subst e
              exact hji (hnd j i oj o d' hoj ho hdj hd')
            cases hod : o.dst with
            | none => simpa [Act.put] using h1
            | some d' =>
              simp only [Act.put]
              rw [Array.getElem?_setIfInBounds_ne (hne d' hod)]
              exact h1
        · intro t ht
          have h1 := hB t (fun j oj hj hoj => ht j oj (by
            by_cases hji : j = i
            · subst hji; rw [hun] at hj; cases hj
            · rw [getD_set_ne false (Ne.symm hji)]; exact hj) hoj)
          cases hod : o.dst with
          | none => simpa [Act.put] using h1
          | some d' =>
            have hne : d' ≠ t := fun e => ht i o (by
              rw [Array.getD_eq_getD_getElem?, Array.getElem?_setIfInBounds_self]
              have : i < listed.size := by omega
              simp [this]) ho (by rw [hod, e])
            simp only [Act.put]
            rw [Array.getElem?_setIfInBounds_ne hne]
            exact h1
        · intro j oj hj hoj e he hb
          by_cases hji : j = i
          · subst hji
            rw [ho] at hoj
            cases hoj
            have h1 := hedge e he hb
            have hne : e.on ≠ j := fun heq => by rw [heq, hun] at h1; cases h1
            rw [getD_set_ne false (Ne.symm hne)]; exact h1
          · rw [getD_set_ne false (Ne.symm hji)] at hj
            have h1 := hC j oj hj hoj e he hb
            have hne : e.on ≠ i := fun heq => by rw [heq, hun] at h1; cases h1
            rw [getD_set_ne false (Ne.symm hne)]; exact h1
      unfold wpOp
      simp only [ho]
      rcases hrun a hlook with ⟨hw, hr⟩ | ⟨hw, rfl⟩
      · rw [if_pos hw]
        refine .inl ?_
        have h1 := hr w hSw
        unfold Oper.wp
        generalize (execOp a.eval o).run P w = r at *
        cases r with
        | ok n w' =>
          cases n <;> simp only [Res] at h1 <;> simp only [Oper.upon]
          case value u => obtain ⟨rfl, h1⟩ := h1; exact hnext _ h1
          case skip => obtain ⟨rfl, h1⟩ := h1; exact hnext _ h1
          case enter f args =>
            refine Calls.mono h1 ?_
            rintro e w'' ⟨rfl, h2⟩
            exact hnext _ h2
          all_goals exact h1.elim
        | halt x w' => exact h1.elim
      · rw [if_neg (by rw [hw]; decide)]
        exact hnext _ hSw
  have hnone : ∀ (j : Nat), (Array.replicate ops.size false).getD j false = true → False := by
    intro j hj
    rw [Array.getD_eq_getD_getElem?] at hj
    by_cases hlt : j < ops.size
    · simp [hlt] at hj
    · simp [hlt] at hj
  refine wp_region_any hm (main ops.size _ a0 _ (by simp) ?_ rfl rfl ?_ (fun _ _ => rfl) ?_ hS)
  · exact Nat.le_trans (List.length_filter_le _ _) (by simp)
  · intro j o d hj
    exact (hnone j hj).elim
  · intro j o hj
    exact (hnone j hj).elim

end
end Go.Proofs.YtmageoieajhhdaaDoor.RegionVal
