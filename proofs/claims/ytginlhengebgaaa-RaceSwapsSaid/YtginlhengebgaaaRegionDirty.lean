/- A region that draws its order, whose operations all yield, in the order of the text, values that hang on no order: it ends in the frame that the order of the text gives, in whatever order it goes. Conditions: the Bool 'seqB' on the region's text, and one condition S on worlds that every operation keeps. The steps of a region's run in the order of the text: one law for each kind of operation (over YtginlhengebgaaaRegionVal). A region that draws its order, with operations that make or write memory in one chain: it is run in one order, told beforehand: what only reads is taken first, what writes comes when nothing else may. Conditions: the Bool 'effB' on the region's text and that order, and one condition S on worlds that every operation keeps. A region that draws its order in which two operations that make or write memory may come in either order: both are run. A region that draws its order in which operations that make or write memory may come in several orders, two at a choice: a tree of runs; all end in J. A region that draws its order and stores to what it has read: what is read yields its value as long as none of the dirty operations (those that store there) has come; they wait for it. Two conditions: T ahead of the dirty ones, U all along. -/
import Derived.Orders
import Derived.Below
import Derived.WalkKit
import Derived.OrdersHeld
namespace Go.Proofs.Ytginlhengebgaaa.RegionVal
open Go

def look : List (Nat × Value) → Nat → Option Value
  | [], _ => none
  | (d, v) :: env, t => cond (Nat.beq d t) (some v) (look env t)

def ev (a0 : Act) (env : List (Nat × Value)) : Operand → Value
  | .tmp t => match look env t with
    | some v => v
    | none => a0.tmps.getD t undef
  | .const v => v
  | .global g => .pointer (some ⟨g, 0, none⟩)
  | .func f => .func (.func f) #[] #[]

def yl (ops : Array Oper) (a0 : Act) (env : List (Nat × Value)) (j : Nat) : Option Bool :=
  match (ops[j]?).bind (·.dst) with
  | some t => match ev a0 env (.tmp t) with
    | .bool b => some b
    | _ => none
  | none => none

def Res (P : Program) (S : World → Prop) (v : Value) : Result Next → Prop
  | .ok (.value v') w' => v' = v ∧ S w'
  | .ok .skip w' => undef = v ∧ S w'
  | .ok (.enter f args) w' => Calls P f args w' fun e w'' => e = .returned v ∧ S w''
  | _ => False

/-- operation o yields v -/
def Yld (P : Program) (ops : Array Oper) (S : World → Prop) (a0 : Act) (env : List (Nat × Value)) (o : Oper) (v : Value) : Prop :=
  (Region.wanted o (yl ops a0 env) = true ∧ ∀ w, S w → Res P S v ((execOp (ev a0 env) o).run P w)) ∨ (Region.wanted o (yl ops a0 env) = false ∧ v = undef)

def ext (o : Oper) (v : Value) (env : List (Nat × Value)) : List (Nat × Value) :=
  match o.dst with
  | some d => (d, v) :: env
  | none => env

def SeqOk (P : Program) (ops : Array Oper) (S : World → Prop) (a0 : Act) (K : List (Nat × Value) → Prop) : List Oper → List (Nat × Value) → Prop
  | [], env => K env
  | o :: rest, env => ∃ v, Yld P ops S a0 env o v ∧ SeqOk P ops S a0 K rest (ext o v env)

def puts (a0 : Act) : List (Nat × Value) → Act
  | [] => a0
  | (d, v) :: env => (puts a0 env).put (some d) v

/-- the region's text is fit for it -/
def seqB (ops : List Oper) (n : Nat) : Bool :=
  let ds := ops.map (·.dst)
  (List.range ops.length).all fun i => match ops[i]? with
    | none => true
    | some o =>
      (match o.op with | .select .. => false | _ => true) &&
      (match o.dst with | some d => Nat.blt d n && (ds.drop (i + 1)).all (fun x => x != some d) | none => true) &&
      o.after.toList.all (fun e => !Region.binds .any e || Nat.blt e.on i) &&
      (o.looksAt ops.toArray).all fun t => o.after.toList.any (fun e => Region.binds .any e && (ds.getD e.on none == some t)) ||
        (List.range ops.length).all fun k => match ops[k]? with
          | none => true
          | some ok => ok.dst != some t || (Nat.blt i k && ok.after.toList.any (fun e => Region.binds .any e && Nat.beq e.on i))

section
variable {P : Program} {ops : Array Oper} {S : World → Prop} {a0 : Act} {Q : Exit → Act → World → Prop}

theorem look_append_of_not_mem : ∀ {G env : List (Nat × Value)} {t : Nat}, t ∉ G.map (·.1) → look (G ++ env) t = look env t
  | [], env, t, _ => rfl
  | (d, v) :: G, env, t, h => by
    simp only [List.map_cons, List.mem_cons, not_or] at h
    have hd : Nat.beq d t = false := by
      cases hb : Nat.beq d t with
      | false => rfl
      | true => exact absurd (Nat.eq_of_beq_eq_true hb).symm h.1
    simp only [List.cons_append, look, hd, cond_false]
    exact look_append_of_not_mem h.2

theorem look_none : ∀ {env : List (Nat × Value)} {t : Nat}, t ∉ env.map (·.1) → look env t = none
  | [], _, _ => rfl
  | (d, v) :: env, t, h => by
    have h1 := look_append_of_not_mem (G := (d, v) :: env) (env := []) h
    rw [List.append_nil] at h1
    rw [h1]
    rfl

theorem drop_cons {α : Type} {L : List α} {i : Nat} {o : α} (h : L[i]? = some o) : L.drop i = o :: L.drop (i + 1) := by
  obtain ⟨hl, rfl⟩ := List.getElem?_eq_some_iff.1 h
  exact List.drop_eq_getElem_cons hl

theorem puts_defers : ∀ env, (puts a0 env).defers = a0.defers
  | [] => rfl
  | (d, v) :: env => by simp only [puts, Act.put]; exact puts_defers env
theorem puts_size : ∀ env, (puts a0 env).tmps.size = a0.tmps.size
  | [] => rfl
  | (d, v) :: env => by simp only [puts, Act.put, Array.size_setIfInBounds]; exact puts_size env
theorem puts_get : ∀ env t, t < a0.tmps.size → (puts a0 env).tmps[t]? = some (ev a0 env (.tmp t))
  | [], t, h => by simp [puts, ev, look, Array.getD_eq_getD_getElem?, h]
  | (d, v) :: env, t, h => by
    have ih := puts_get env t h
    simp only [puts, Act.put]
    by_cases e : d = t
    · subst e
      have hs : d < (puts a0 env).tmps.size := by rw [puts_size]; exact h
      rw [Array.getElem?_setIfInBounds_self]
      simp [ev, look, hs]
    · rw [Array.getElem?_setIfInBounds_ne e, ih]
      have hd : Nat.beq d t = false := by
        cases hb : Nat.beq d t with
        | false => rfl
        | true => exact absurd (Nat.eq_of_beq_eq_true hb) e
      simp only [ev, look, hd, cond_false]

/-- the run in the order of the text, told -/
theorem seq_told {K : List (Nat × Value) → Prop} : ∀ (L : List Oper) (env : List (Nat × Value)), SeqOk P ops S a0 K L env →
    ∃ F, K F ∧ (∃ G, F = G ++ env ∧ ∀ d ∈ G.map (·.1), some d ∈ L.map (·.dst)) ∧
      ∀ i o, L[i]? = some o → ∃ v envi G, Yld P ops S a0 envi o v ∧ F = G ++ ext o v envi ∧ (∀ d ∈ G.map (·.1), some d ∈ (L.drop (i + 1)).map (·.dst)) ∧ ∀ d ∈ envi.map (·.1), d ∈ env.map (·.1) ∨ some d ∈ (L.take i).map (·.dst)
  | [], env, h => ⟨env, h, ⟨[], rfl, by simp⟩, by simp⟩
  | o :: rest, env, h => by
    obtain ⟨v, hy, hs⟩ := h
    obtain ⟨F, hK, ⟨G, hG, hGd⟩, hall⟩ := seq_told rest (ext o v env) hs
    refine ⟨F, hK, ?_, ?_⟩
    · cases hd : o.dst with
      | none =>
        refine ⟨G, by rw [hG]; simp [ext, hd], fun d hm => ?_⟩
        simp only [List.map_cons, List.mem_cons]
        exact .inr (hGd d hm)
      | some d0 =>
        refine ⟨G ++ [(d0, v)], by rw [hG]; simp [ext, hd], fun d hm => ?_⟩
        simp only [List.map_append, List.map_cons, List.map_nil, List.mem_append, List.mem_singleton] at hm
        simp only [List.map_cons, List.mem_cons]
        rcases hm with hm | rfl
        · exact .inr (hGd d hm)
        · exact .inl hd.symm
    · intro i o' hi
      cases i with
      | zero =>
        simp only [List.getElem?_cons_zero, Option.some.injEq] at hi
        subst hi
        exact ⟨v, env, G, hy, hG, by simpa using hGd, fun d hd => .inl hd⟩
      | succ i =>
        simp only [List.getElem?_cons_succ] at hi
        obtain ⟨v', envi, G', h1, h2, h3, h4⟩ := hall i o' hi
        refine ⟨v', envi, G', h1, h2, by simpa using h3, fun d hd => ?_⟩
        rw [List.take_succ_cons, List.map_cons, List.mem_cons]
        rcases h4 d hd with h5 | h5
        · cases hdo : o.dst with
          | none => exact .inl (by simpa [ext, hdo] using h5)
          | some d0 =>
            simp only [ext, hdo, List.map_cons, List.mem_cons] at h5
            rcases h5 with rfl | h5
            · exact .inr (.inl rfl)
            · exact .inl h5
        · exact .inr (.inr h5)

theorem ev_eq {envi G : List (Nat × Value)} {t : Nat} (h : t ∉ G.map (·.1)) : ev a0 (G ++ envi) (.tmp t) = ev a0 envi (.tmp t) := by
  simp only [ev, look_append_of_not_mem h]

theorem wp_val (hc : seqB ops.toList a0.tmps.size = true) (hm : P.follows .mixedOrders = true) {id : Nat} {w : World} (hS : S w.drew)
    (h : SeqOk P ops S a0 (fun F => ∀ w', S w' → Q .normal (puts a0 F) w') ops.toList []) : (Code.region id ops true).wp P Q a0 w := by
  obtain ⟨F, hK, ⟨G0, hF0, hG0⟩, hall⟩ := seq_told ops.toList [] h
  simp only [List.append_nil] at hF0
  subst hF0
  -- the check, op by op
  have hck : ∀ (i : Nat) (o : Oper), ops[i]? = some o → (∀ cs b, o.op ≠ .select cs b) ∧ (∀ d, o.dst = some d → d < a0.tmps.size ∧ some d ∉ (ops.toList.map (·.dst)).drop (i + 1)) ∧ (∀ e ∈ o.after, Region.binds .any e = true → e.on < i) ∧
      ∀ t ∈ o.looksAt ops, (∃ e ∈ o.after, Region.binds .any e = true ∧ ∃ oe, ops[e.on]? = some oe ∧ oe.dst = some t) ∨ ∀ (k : Nat) (ok : Oper), ops[k]? = some ok → ok.dst = some t → i < k ∧ ∃ e ∈ ok.after, Region.binds .any e = true ∧ e.on = i := by
    intro i o hi
    have hi' : ops.toList[i]? = some o := by simpa using hi
    have hlt : i < ops.toList.length := (List.getElem?_eq_some_iff.1 hi').1
    have h1 := (List.all_eq_true.1 hc) i (List.mem_range.2 hlt)
    simp only [hi', Bool.and_eq_true] at h1
    obtain ⟨⟨⟨h1, h2⟩, h3⟩, h4⟩ := h1
    refine ⟨(fun cs b he => by rw [he] at h1; cases h1), fun d hd => ?_, fun e he hb => ?_, fun t ht => ?_⟩
    · rw [hd] at h2
      simp only [Bool.and_eq_true] at h2
      refine ⟨by have := h2.1; simpa [Nat.blt_eq] using this, fun hmem => ?_⟩
      have := (List.all_eq_true.1 h2.2) _ hmem
      simp at this
    · have := (List.all_eq_true.1 h3) e (by simpa using he)
      rw [hb] at this
      simpa [Nat.blt_eq] using this
    · have h5 := (List.all_eq_true.1 h4) t (by simpa using ht)
      simp only [Bool.or_eq_true] at h5
      rcases h5 with h6 | h6
      · obtain ⟨e, he, hb⟩ := List.any_eq_true.1 h6
        simp only [Bool.and_eq_true, beq_iff_eq] at hb
        refine .inl ⟨e, by simpa using he, hb.1, ?_⟩
        have h7 := hb.2
        rw [List.getD_eq_getElem?_getD, List.getElem?_map] at h7
        cases ho : ops.toList[e.on]? with
        | none => rw [ho] at h7; simp at h7
        | some oe => rw [ho] at h7; exact ⟨oe, by simpa using ho, by simpa using h7⟩
      · refine .inr fun k ok hk hkd => ?_
        have hk' : ops.toList[k]? = some ok := by simpa using hk
        have h7 := (List.all_eq_true.1 h6) k (List.mem_range.2 (List.getElem?_eq_some_iff.1 hk').1)
        simp only [hk', hkd, bne_self_eq_false, Bool.false_or, Bool.and_eq_true] at h7
        obtain ⟨h8, h9⟩ := h7
        obtain ⟨e, he, hb⟩ := List.any_eq_true.1 h9
        simp only [Bool.and_eq_true] at hb
        exact ⟨by simpa [Nat.blt_eq] using h8, e, by simpa using he, hb.1, Nat.eq_of_beq_eq_true hb.2⟩
  -- each operation, in the final values
  have hnd : ∀ (i k : Nat) (oi ok : Oper) (d : Tmp), ops[i]? = some oi → ops[k]? = some ok → oi.dst = some d → ok.dst = some d → i = k := by
    intro i k oi ok d hi hk hdi hdk
    rcases Nat.lt_trichotomy i k with hlt | he | hlt
    · exfalso
      refine ((hck i oi hi).2.1 d hdi).2 ?_
      rw [← List.map_drop]
      refine List.mem_map.2 ⟨ok, ?_, hdk⟩
      rw [List.mem_iff_getElem?]
      exact ⟨k - (i + 1), by rw [List.getElem?_drop]; rw [show i + 1 + (k - (i + 1)) = k by omega]; simpa using hk⟩
    · exact he
    · exfalso
      refine ((hck k ok hk).2.1 d hdk).2 ?_
      rw [← List.map_drop]
      refine List.mem_map.2 ⟨oi, ?_, hdi⟩
      rw [List.mem_iff_getElem?]
      exact ⟨i - (k + 1), by rw [List.getElem?_drop]; rw [show k + 1 + (i - (k + 1)) = i by omega]; simpa using hi⟩
  have hop : ∀ (i : Nat) (o : Oper), ops[i]? = some o → ∃ v, (∀ d, o.dst = some d → ev a0 F (.tmp d) = v) ∧
      ∀ a : Act, (∀ t ∈ o.looksAt ops, (∃ e ∈ o.after, Region.binds .any e = true ∧ ∃ oe, ops[e.on]? = some oe ∧ oe.dst = some t) ∧ a.tmps.getD t undef = ev a0 F (.tmp t) ∨ (∀ (k : Nat) (ok : Oper), ops[k]? = some ok → ok.dst = some t → i < k) ∧ a.tmps.getD t undef = a0.tmps.getD t undef) →
        (Region.wanted o (yielded ops a.tmps) = true ∧ ∀ w, S w → Res P S v ((execOp a.eval o).run P w)) ∨ (Region.wanted o (yielded ops a.tmps) = false ∧ v = undef) := by
    intro i o hi
    obtain ⟨k1, k2, k3, k4⟩ := hck i o hi
    obtain ⟨v, envi, G, hy, hG, hGd, henv⟩ := hall i o (by simpa using hi)
    refine ⟨v, fun d hd => ?_, fun a ha => ?_⟩
    · have hn : d ∉ G.map (·.1) := fun hmem => (k2 d hd).2 (by rw [← List.map_drop]; exact hGd d hmem)
      rw [hG, ev_eq hn]
      simp only [ext, hd, ev, look]
      have : Nat.beq d d = true := Nat.beq_refl d
      simp [this]
    · have hlook : ∀ t ∈ o.looksAt ops, a.tmps.getD t undef = ev a0 envi (.tmp t) := by
        intro t ht
        rcases ha t ht with ⟨⟨e, he, hb, oe, hoe, hdt⟩, h⟩ | ⟨hw, h⟩
        · rw [h, hG]
          have hei := k3 e he hb
          have hn : t ∉ G.map (·.1) := fun hm' => by
            obtain ⟨ok, hok, hokd⟩ := List.mem_map.1 (hGd t hm')
            obtain ⟨q, hq⟩ := List.mem_iff_getElem?.1 hok
            rw [List.getElem?_drop] at hq
            have := hnd e.on (i + 1 + q) oe ok t hoe (by simpa using hq) hdt hokd
            omega
          rw [ev_eq hn]
          cases hd : o.dst with
          | none => simp [ext, hd]
          | some d =>
            have hne : Nat.beq d t = false := by
              cases hb' : Nat.beq d t with
              | false => rfl
              | true =>
                have := Nat.eq_of_beq_eq_true hb'
                subst this
                have := hnd e.on i oe o d hoe hi hdt hd
                omega
            simp [ext, hd, ev, look, hne]
        · have hn : t ∉ envi.map (·.1) := fun hm' => by
            rcases henv t hm' with h1 | h1
            · simp at h1
            · obtain ⟨ok, hok, hokd⟩ := List.mem_map.1 h1
              obtain ⟨q, hq⟩ := List.mem_iff_getElem?.1 hok
              have hq' := (List.getElem?_eq_some_iff.1 hq).1
              rw [List.length_take] at hq'
              have hq2 : ops[q]? = some ok := by
                rw [List.getElem?_take] at hq
                split at hq
                · simpa using hq
                · cases hq
              have := hw q ok hq2 hokd
              omega
          rw [h]
          simp only [ev, look_none hn]
      have he : execOp a.eval o = execOp (ev a0 envi) o := execOp_congr o k1 fun x hx => by
        cases x with
        | tmp t => exact hlook t (List.mem_append_left _ (List.mem_filterMap.2 ⟨.tmp t, by simpa using hx, rfl⟩))
        | const v => rfl
        | global g => rfl
        | func f => rfl
      have hw : Region.wanted o (yielded ops a.tmps) = Region.wanted o (yl ops a0 envi) := by
        unfold Region.wanted
        cases hg : o.guard with
        | none => rfl
        | some gw =>
          obtain ⟨g, want⟩ := gw
          have : yielded ops a.tmps g = yl ops a0 envi g := by
            unfold yielded yl
            cases hd : (ops[g]?).bind (·.dst) with
            | none => rfl
            | some t =>
              have := hlook t (by simp [Oper.looksAt, hg, hd])
              simp only [Option.bind_some]
              rw [← this]
              cases ht : a.tmps[t]? with
              | none => simp [Array.getD_eq_getD_getElem?, ht, undef]
              | some x => simp [Array.getD_eq_getD_getElem?, ht]; cases x <;> rfl
          simp only [this]
      rw [hw, he]
      exact hy
  -- whatever order
  have main : ∀ (fuel : Nat) (listed : Array Bool) (a : Act) (w : World), listed.size = ops.size → ((List.range ops.size).filter fun i => !listed.getD i true).length ≤ fuel → a.defers = a0.defers → a.tmps.size = a0.tmps.size →
      (∀ (j : Nat) (o : Oper) (d : Tmp), listed.getD j false = true → ops[j]? = some o → o.dst = some d → a.tmps[d]? = some (ev a0 F (.tmp d))) → (∀ t, (∀ (j : Nat) (o : Oper), listed.getD j false = true → ops[j]? = some o → o.dst ≠ some t) → a.tmps[t]? = a0.tmps[t]?) → (∀ (j : Nat) (o : Oper), listed.getD j false = true → ops[j]? = some o → ∀ e ∈ o.after, Region.binds .any e = true → listed.getD e.on false = true) → S w →
      wpAny P .any ops Q fuel listed a w := by
    -- nothing ready: all have come up
    have hend : ∀ (listed : Array Bool) (a : Act) (w : World), listed.size = ops.size → a.defers = a0.defers → a.tmps.size = a0.tmps.size →
        (∀ (j : Nat) (o : Oper) (d : Tmp), listed.getD j false = true → ops[j]? = some o → o.dst = some d → a.tmps[d]? = some (ev a0 F (.tmp d))) → (∀ t, (∀ (j : Nat) (o : Oper), listed.getD j false = true → ops[j]? = some o → o.dst ≠ some t) → a.tmps[t]? = a0.tmps[t]?) → S w → Region.ready .any ops listed = [] → Q .normal a w := by
      intro listed a w hls hd hsz hA hB hSw hr
      have hl : ∀ n, ∀ i, i < n → i < ops.size → listed.getD i false = true := by
        intro n
        induction n with
        | zero => intro i hi; omega
        | succ n ih =>
          intro i hi hi2
          cases hb : listed.getD i false with
          | true => rfl
          | false =>
            have hmem : i ∈ Region.ready .any ops listed := by
              rw [mem_ready]
              obtain ⟨o, ho⟩ : ∃ o, ops[i]? = some o := ⟨ops[i], by simp [hi2]⟩
              refine ⟨?_, o, ho, fun e he hbe => ?_⟩
              · rw [Array.getD_eq_getD_getElem?] at hb ⊢
                have : i < listed.size := by omega
                simp [this] at hb ⊢
                exact hb
              · have := (hck i o ho).2.2.1 e he hbe
                exact ih e.on (by omega) (by omega)
            rw [hr] at hmem; cases hmem
      have haF : a = puts a0 F := by
        have h1 : a.tmps = (puts a0 F).tmps := by
          apply Array.ext_getElem?
          intro t
          by_cases hmem : some t ∈ ops.toList.map (·.dst)
          · obtain ⟨o, ho, hod⟩ := List.mem_map.1 hmem
            obtain ⟨j, hj⟩ := List.mem_iff_getElem?.1 ho
            have hj' : ops[j]? = some o := by simpa using hj
            have hjlt : j < ops.size := (Array.getElem?_eq_some_iff.1 hj').1
            rw [hA j o t (hl (j + 1) j (by omega) hjlt) hj' hod]
            rw [puts_get F t ((hck j o hj').2.1 t hod).1]
          · rw [hB t (fun j o _ ho hd => hmem (List.mem_map.2 ⟨o, List.mem_iff_getElem?.2 ⟨j, by simpa using ho⟩, hd⟩))]
            by_cases ht : t < a0.tmps.size
            · rw [puts_get F t ht]
              have hn : t ∉ F.map (·.1) := fun hm' => hmem (hG0 t hm')
              simp [ev, look_none hn, Array.getD_eq_getD_getElem?, ht]
            · rw [Array.getElem?_eq_none (by omega), Array.getElem?_eq_none (by rw [puts_size]; omega)]
        obtain ⟨at1, ad1⟩ := a
        simp only at h1 hd
        have h2 := puts_defers (a0 := a0) F
        cases hp : puts a0 F with
        | mk t2 d2 =>
          rw [hp] at h1 h2
          simp only at h1 h2
          rw [h1, hd, h2]
      rw [haF]
      exact hK w hSw
    intro fuel
    induction fuel with
    | zero =>
      intro listed a w hls hn hd hsz hA hB hC hSw
      have hr : Region.ready .any ops listed = [] := by
        cases hr : Region.ready .any ops listed with
        | nil => rfl
        | cons j js =>
          have hj : j ∈ Region.ready .any ops listed := by rw [hr]; exact List.mem_cons_self ..
          have h0 := (mem_ready.1 hj)
          obtain ⟨h0, o, ho, _⟩ := h0
          have : j ∈ (List.range ops.size).filter fun i => !listed.getD i true := List.mem_filter.2 ⟨List.mem_range.2 (Array.getElem?_eq_some_iff.1 ho).1, by simp [h0]⟩
          have := List.length_pos_of_mem this
          omega
      exact ⟨hr, hend listed a w hls hd hsz hA hB hSw hr⟩
    | succ fuel ih =>
      intro listed a w hls hn hd hsz hA hB hC hSw
      refine ⟨hend listed a w hls hd hsz hA hB hSw, fun i hi => ?_⟩
      obtain ⟨h0, o, ho, hedge⟩ := mem_ready.1 hi
      have hilt : i < ops.size := (Array.getElem?_eq_some_iff.1 ho).1
      obtain ⟨k1, k2, k3, k4⟩ := hck i o ho
      obtain ⟨v, hv, hrun⟩ := hop i o ho
      have hun : listed.getD i false = false := by
        rw [Array.getD_eq_getD_getElem?] at h0 ⊢
        have : i < listed.size := by omega
        simp [this] at h0 ⊢
        exact h0
      have hlook : ∀ t ∈ o.looksAt ops, (∃ e ∈ o.after, Region.binds .any e = true ∧ ∃ oe, ops[e.on]? = some oe ∧ oe.dst = some t) ∧ a.tmps.getD t undef = ev a0 F (.tmp t) ∨ (∀ (k : Nat) (ok : Oper), ops[k]? = some ok → ok.dst = some t → i < k) ∧ a.tmps.getD t undef = a0.tmps.getD t undef := by
        intro t ht
        rcases k4 t ht with ⟨e, he, hb, oe, hoe, hdt⟩ | hw
        · refine .inl ⟨⟨e, he, hb, oe, hoe, hdt⟩, ?_⟩
          have := hA e.on oe t (hedge e he hb) hoe hdt
          rw [Array.getD_eq_getD_getElem?, this]; rfl
        · refine .inr ⟨fun k ok hk hkd => (hw k ok hk hkd).1, ?_⟩
          have := hB t (fun j oj hj hoj hjd => by
            obtain ⟨_, e, he, hb, heq⟩ := hw j oj hoj hjd
            have := hC j oj hj hoj e he hb
            rw [heq, hun] at this
            cases this)
          simp only [Array.getD_eq_getD_getElem?, this]
      have hnext : ∀ w', S w' → wpAny P .any ops Q fuel (listed.setIfInBounds i true) (a.put o.dst v) w' := by
        intro w' hSw'
        have hputd : (a.put o.dst v).defers = a.defers := by cases o.dst <;> rfl
        have hputs : (a.put o.dst v).tmps.size = a.tmps.size := by cases o.dst <;> simp [Act.put]
        refine ih _ _ _ (by simpa using hls) ?_ (hputd.trans hd) (hputs.trans hsz) ?_ ?_ ?_ hSw'
        · -- one fewer
          have hsub : ∀ (L : List Nat), L.Nodup → i ∈ L → (L.filter fun j => !(listed.setIfInBounds i true).getD j true).length < (L.filter fun j => !listed.getD j true).length := by
            intro L
            induction L with
            | nil => intro _ hmem; cases hmem
            | cons x L ihL =>
              intro hnd hmem
              have hx : ∀ j, j ≠ i → (listed.setIfInBounds i true).getD j true = listed.getD j true := fun j hj => getD_set_ne true (Ne.symm hj)
              have hi0 : (listed.setIfInBounds i true).getD i true = true := by
                rw [Array.getD_eq_getD_getElem?, Array.getElem?_setIfInBounds_self]
                split <;> rfl
              by_cases hxi : x = i
              · subst hxi
                have hnot : x ∉ L := (List.nodup_cons.1 hnd).1
                have heq : L.filter (fun j => !(listed.setIfInBounds x true).getD j true) = L.filter (fun j => !listed.getD j true) := by
                  apply List.filter_congr
                  intro j hj
                  rw [hx j (fun e => hnot (e ▸ hj))]
                rw [List.filter_cons, List.filter_cons, hi0, h0, heq]
                simp
              · have := ihL (List.nodup_cons.1 hnd).2 (by
                  rcases List.mem_cons.1 hmem with e | e
                  · exact absurd e.symm hxi
                  · exact e)
                rw [List.filter_cons, List.filter_cons, hx x hxi]
                split
                · simp only [List.length_cons]; omega
                · exact this
          have := hsub (List.range ops.size) List.nodup_range (List.mem_range.2 hilt)
          omega
        · intro j oj d hj hoj hdj
          by_cases hji : j = i
          · subst hji
            rw [ho] at hoj
            cases hoj
            have hlt := (k2 d hdj).1
            have : (a.put o.dst v).tmps[d]? = some v := by
              rw [hdj]
              simp only [Act.put]
              rw [Array.getElem?_setIfInBounds_self]
              have : d < a.tmps.size := by rw [hsz]; exact hlt
              simp [this]
            rw [this, hv d hdj]
          · have hj' : listed.getD j false = true := by rw [getD_set_ne false (Ne.symm hji)] at hj; exact hj
            have h1 := hA j oj d hj' hoj hdj
            have hne : ∀ d', o.dst = some d' → d' ≠ d := by
              intro d' hd' e
              subst e
              exact hji (hnd j i oj o d' hoj ho hdj hd')
            cases hod : o.dst with
            | none => simpa [Act.put] using h1
            | some d' =>
              simp only [Act.put]
              rw [Array.getElem?_setIfInBounds_ne (hne d' hod)]
              exact h1
        · intro t ht
          have h1 := hB t (fun j oj hj hoj => ht j oj (by
            by_cases hji : j = i
            · subst hji; rw [hun] at hj; cases hj
            · rw [getD_set_ne false (Ne.symm hji)]; exact hj) hoj)
          cases hod : o.dst with
          | none => simpa [Act.put] using h1
          | some d' =>
            have hne : d' ≠ t := fun e => ht i o (by
              rw [Array.getD_eq_getD_getElem?, Array.getElem?_setIfInBounds_self]
              have : i < listed.size := by omega
              simp [this]) ho (by rw [hod, e])
            simp only [Act.put]
            rw [Array.getElem?_setIfInBounds_ne hne]
            exact h1
        · intro j oj hj hoj e he hb
          by_cases hji : j = i
          · subst hji
            rw [ho] at hoj
            cases hoj
            have h1 := hedge e he hb
            have hne : e.on ≠ j := fun heq => by rw [heq, hun] at h1; cases h1
            rw [getD_set_ne false (Ne.symm hne)]; exact h1
          · rw [getD_set_ne false (Ne.symm hji)] at hj
            have h1 := hC j oj hj hoj e he hb
            have hne : e.on ≠ i := fun heq => by rw [heq, hun] at h1; cases h1
            rw [getD_set_ne false (Ne.symm hne)]; exact h1
      unfold wpOp
      simp only [ho]
      rcases hrun a hlook with ⟨hw, hr⟩ | ⟨hw, rfl⟩
      · rw [if_pos hw]
        refine .inl ?_
        have h1 := hr w hSw
        unfold Oper.wp
        generalize (execOp a.eval o).run P w = r at *
        cases r with
        | ok n w' =>
          cases n <;> simp only [Res] at h1 <;> simp only [Oper.upon]
          case value u => obtain ⟨rfl, h1⟩ := h1; exact hnext _ h1
          case skip => obtain ⟨rfl, h1⟩ := h1; exact hnext _ h1
          case enter f args =>
            refine Calls.mono h1 ?_
            rintro e w'' ⟨rfl, h2⟩
            exact hnext _ h2
          all_goals exact h1.elim
        | halt x w' => exact h1.elim
      · rw [if_neg (by rw [hw]; decide)]
        exact hnext _ hSw
  have hnone : ∀ (j : Nat), (Array.replicate ops.size false).getD j false = true → False := by
    intro j hj
    rw [Array.getD_eq_getD_getElem?] at hj
    by_cases hlt : j < ops.size
    · simp [hlt] at hj
    · simp [hlt] at hj
  refine wp_region_any hm (main ops.size _ a0 _ (by simp) ?_ rfl rfl ?_ (fun _ _ => rfl) ?_ hS)
  · exact Nat.le_trans (List.length_filter_le _ _) (by simp)
  · intro j o d hj
    exact (hnone j hj).elim
  · intro j o hj
    exact (hnone j hj).elim

end
end Go.Proofs.Ytginlhengebgaaa.RegionVal
namespace Go.Proofs.Ytginlhengebgaaa.RegionVal
open Go Go.RowKit

def nth : List Value → Nat → Option Value
  | [], _ => none
  | x :: _, 0 => some x
  | _ :: xs, n + 1 => nth xs n

theorem nth_eq : ∀ (l : List Value) (n : Nat), nth l n = l[n]?
  | [], n => by simp [nth]
  | x :: xs, 0 => by simp [nth]
  | x :: xs, n + 1 => by simp [nth, nth_eq xs n]

/-- an operand, read -/
def rdo (a0 : Act) (env : List (Nat × Value)) : Operand → Option Value
  | .tmp t => match look env t with
    | some v => some v
    | none => nth a0.tmps.toList t
  | .const v => some v
  | .global g => some (.pointer (some ⟨g, 0, none⟩))
  | .func f => some (.func (.func f) #[] #[])

section
variable {P : Program} {ops : Array Oper} {S : World → Prop} {a0 : Act} {K : List (Nat × Value) → Prop} {env : List (Nat × Value)} {rest : List Oper}
  {d : Nat} {T : TypeId} {pos : String} {after : Array Edge} {g : Option (Nat × Bool)}

theorem ev_of {x : Operand} {v : Value} (h : rdo a0 env x = some v) : ev a0 env x = v := by
  cases x with
  | tmp t =>
    simp only [rdo] at h
    simp only [ev]
    cases hl : look env t with
    | some u => rw [hl] at h; simpa using h
    | none =>
      rw [hl] at h
      simp only [nth_eq] at h
      simp only [Array.getD_eq_getD_getElem?]
      rw [← Array.getElem?_toList, h]
      rfl
  | const u => simpa [rdo, ev] using h
  | global u => simpa [rdo, ev] using h
  | func u => simpa [rdo, ev] using h

/-- is it wanted, by what has been yielded -/
def want (ops : List Oper) (a0 : Act) (env : List (Nat × Value)) : Option (Nat × Bool) → Option Bool
  | none => some true
  | some (j, b) => match (nthO ops j).bind (·.dst) with
    | some t => match rdo a0 env (.tmp t) with
      | some (.bool c) => some (c == b)
      | some _ => some false
      | none => none
    | none => some false
where nthO : List Oper → Nat → Option Oper
  | [], _ => none
  | x :: _, 0 => some x
  | _ :: xs, n + 1 => nthO xs n

theorem nthO_eq : ∀ (l : List Oper) (n : Nat), want.nthO l n = l[n]?
  | [], n => by simp [want.nthO]
  | x :: xs, 0 => by simp [want.nthO]
  | x :: xs, n + 1 => by simp [want.nthO, nthO_eq xs n]

theorem wanted_of {o : Oper} {L : List Oper} {b : Bool} (h : want L a0 env o.guard = some b) : Region.wanted o (yl L.toArray a0 env) = b := by
  unfold Region.wanted
  cases hg : o.guard with
  | none => rw [hg] at h; simpa [want] using h
  | some gw =>
    obtain ⟨j, c⟩ := gw
    rw [hg] at h
    simp only [want, nthO_eq] at h
    simp only [yl, List.getElem?_toArray]
    cases hd : (L[j]?).bind (·.dst) with
    | none => rw [hd] at h; simp at h; subst h; simp
    | some t =>
      rw [hd] at h
      simp only at h ⊢
      cases hr : rdo a0 env (.tmp t) with
      | none => rw [hr] at h; simp at h
      | some u =>
        rw [hr] at h
        rw [ev_of hr]
        cases u <;> simp at h ⊢ <;> try exact h
        all_goals (subst h; rfl)

variable {L : List Oper}

theorem st_skip {op : Op} (hg : want L a0 env g = some false) (h : SeqOk P L.toArray S a0 K rest ((d, undef) :: env)) : SeqOk P L.toArray S a0 K (⟨some d, op, T, pos, after, g⟩ :: rest) env :=
  ⟨undef, .inr ⟨wanted_of hg, rfl⟩, h⟩

theorem st_gen {o : Oper} {v : Value} (hg : want L a0 env o.guard = some true) (hr : ∀ w, S w → (execOp (ev a0 env) o).run P w = .ok (.value v) w) (h : SeqOk P L.toArray S a0 K rest (ext o v env)) : SeqOk P L.toArray S a0 K (o :: rest) env :=
  ⟨v, .inl ⟨wanted_of hg, fun w hw => by rw [hr w hw]; exact ⟨rfl, hw⟩⟩, h⟩

theorem st_move {x : Operand} {v : Value} (hg : want L a0 env g = some true) (hx : rdo a0 env x = some v) (h : SeqOk P L.toArray S a0 K rest ((d, v) :: env)) :
    SeqOk P L.toArray S a0 K (⟨some d, .move x, T, pos, after, g⟩ :: rest) env :=
  st_gen hg (fun w _ => by simp only [execOp]; rw [ev_of hx]; rfl) h
theorem st_assign {x : Operand} {v : Value} (hg : want L a0 env g = some true) (hx : rdo a0 env x = some v) (h : SeqOk P L.toArray S a0 K rest ((d, v) :: env)) :
    SeqOk P L.toArray S a0 K (⟨some d, .assign x, T, pos, after, g⟩ :: rest) env :=
  st_gen hg (fun w _ => by simp only [execOp]; rw [ev_of hx]; rfl) h
theorem st_pickT {c x y : Operand} {v : Value} (hg : want L a0 env g = some true) (hc : rdo a0 env c = some (.bool true)) (hx : rdo a0 env x = some v) (h : SeqOk P L.toArray S a0 K rest ((d, v) :: env)) :
    SeqOk P L.toArray S a0 K (⟨some d, .pick c x y, T, pos, after, g⟩ :: rest) env :=
  st_gen hg (fun w _ => by simp only [execOp]; rw [ev_of hc, ev_of hx]; rfl) h
theorem st_pickF {c x y : Operand} {v : Value} (hg : want L a0 env g = some true) (hc : rdo a0 env c = some (.bool false)) (hx : rdo a0 env y = some v) (h : SeqOk P L.toArray S a0 K rest ((d, v) :: env)) :
    SeqOk P L.toArray S a0 K (⟨some d, .pick c x y, T, pos, after, g⟩ :: rest) env :=
  st_gen hg (fun w _ => by simp only [execOp]; rw [ev_of hc, ev_of hx]; rfl) h

def noSel : Op → Bool
  | .select .. => false
  | _ => true

/-- one operand -/
theorem st_un {op : Op} {x : Operand} {vx v : Value} (hg : want L a0 env g = some true) (ho : op.operands = #[x]) (hs : noSel op = true) (hx : rdo a0 env x = some vx)
    (hr : ∀ w, S w → (execOp (fun _ => vx) ⟨some d, op, T, pos, after, g⟩).run P w = .ok (.value v) w) (h : SeqOk P L.toArray S a0 K rest ((d, v) :: env)) :
    SeqOk P L.toArray S a0 K (⟨some d, op, T, pos, after, g⟩ :: rest) env :=
  st_gen hg (fun w hw => by
    rw [execOp_congr (ρ := ev a0 env) (ρ' := fun _ => vx) ⟨some d, op, T, pos, after, g⟩ (fun cs b e => by simp only at e; subst e; simp [noSel] at hs) (fun z hz => by
      simp only [ho] at hz
      rw [show z = x by simpa using hz]; exact ev_of hx)]
    exact hr w hw) h

/-- an operation on two values -/
theorem st_bin {b : BinOp} {t t' : TypeId} {x y : Operand} {vx vy v : Value} (hg : want L a0 env g = some true) (hx : rdo a0 env x = some vx) (hy : rdo a0 env y = some vy)
    (hr : ∀ w, S w → Sem.run P (do eqGuard b t x y vx vy; binOp b t vx vy : Sem Value) w = .ok v w) (h : SeqOk P L.toArray S a0 K rest ((d, v) :: env)) :
    SeqOk P L.toArray S a0 K (⟨some d, .binOp b t x y t', T, pos, after, g⟩ :: rest) env :=
  st_gen hg (fun w hw => by
    have h1 := hr w hw
    simp only [execOp]
    rw [ev_of hx, ev_of hy]
    simp only [Sem.run_bind] at h1 ⊢
    rw [h1]
    rfl) h

theorem st_indexAddr {t : TypeId} {x y : Operand} {vx vy v : Value} (hg : want L a0 env g = some true) (hx : rdo a0 env x = some vx) (hy : rdo a0 env y = some vy)
    (hr : ∀ w, S w → Sem.run P (Instr.indexAt t vx vy) w = .ok v w) (h : SeqOk P L.toArray S a0 K rest ((d, v) :: env)) :
    SeqOk P L.toArray S a0 K (⟨some d, .indexAddr t x y, T, pos, after, g⟩ :: rest) env :=
  st_gen hg (fun w hw => by
    have h1 := hr w hw
    simp only [execOp]
    rw [ev_of hx, ev_of hy]
    simp only [Sem.run_bind]
    rw [h1]
    rfl) h

theorem st_index {t : TypeId} {x y : Operand} {vx vy v : Value} (hg : want L a0 env g = some true) (hx : rdo a0 env x = some vx) (hy : rdo a0 env y = some vy)
    (hr : ∀ w, S w → Sem.run P (Instr.index t vx vy) w = .ok v w) (h : SeqOk P L.toArray S a0 K rest ((d, v) :: env)) :
    SeqOk P L.toArray S a0 K (⟨some d, .index t x y, T, pos, after, g⟩ :: rest) env :=
  st_gen hg (fun w hw => by
    have h1 := hr w hw
    simp only [execOp]
    rw [ev_of hx, ev_of hy]
    simp only [Sem.run_bind]
    rw [h1]
    rfl) h

/-- all operands of a call -/
def rdos (a0 : Act) (env : List (Nat × Value)) : List Operand → Option (List Value)
  | [] => some []
  | x :: xs => match rdo a0 env x, rdos a0 env xs with
    | some v, some vs => some (v :: vs)
    | _, _ => none

theorem evs_of : ∀ {xs : List Operand} {vs : List Value}, rdos a0 env xs = some vs → xs.map (ev a0 env) = vs
  | [], vs, h => by simpa [rdos] using h
  | x :: xs, vs, h => by
    simp only [rdos] at h
    cases hx : rdo a0 env x with
    | none => rw [hx] at h; simp at h
    | some v =>
      cases hxs : rdos a0 env xs with
      | none => rw [hx, hxs] at h; simp at h
      | some us =>
        rw [hx, hxs] at h
        simp only [Option.some.injEq] at h
        rw [← h, List.map_cons, ev_of hx, evs_of hxs]

theorem st_call {f : FuncId} {fn : Func} {xs : List Operand} {vs : List Value} {ts : Array TypeId} {v : Value} (hg : want L a0 env g = some true) (hf : P.funcs[f]? = some fn) (hb : fn.body.isSome = true) (hx : rdos a0 env xs = some vs)
    (hname : (fn.name == "runtime.NumGoroutine") = false)
    (hc : ∀ w, S w → Calls P f vs.toArray w fun e w' => e = .returned v ∧ S w') (h : SeqOk P L.toArray S a0 K rest ((d, v) :: env)) :
    SeqOk P L.toArray S a0 K (⟨some d, .call { callee := .value (.func f), args := xs.toArray, argTypes := ts }, T, pos, after, g⟩ :: rest) env :=
  ⟨v, .inl ⟨wanted_of hg, fun w hw => by
    have h1 : (execOp (ev a0 env) ⟨some d, .call { callee := .value (.func f), args := xs.toArray, argTypes := ts }, T, pos, after, g⟩).run P w = .ok (.enter f vs.toArray) w := by
      have he := evs_of hx
      have h2 : Sem.run P (callFunc f vs.toArray) w = .ok (.enter f vs.toArray) w := by
        have h1 : fn.name ≠ "runtime.NumGoroutine" := by simpa using hname
        obtain ⟨c, hc'⟩ := Option.isSome_iff_exists.1 hb
        simp [callFunc, hf, h1, hc']
      simp [execOp, resolve, ev, he, Deferred.ofValue, invoke, h2]
    rw [h1]
    exact hc w hw⟩, h⟩

/-- a builtin -/
theorem st_builtin {b : Builtin} {xs : List Operand} {vs : List Value} {ts : Array TypeId} {v : Value} (hg : want L a0 env g = some true) (hx : rdos a0 env xs = some vs)
    (hr : ∀ w, S w → Sem.run P (builtin b ts T (xs.map fun | .const _ => true | _ => false).toArray vs.toArray) w = .ok (.value v) w) (h : SeqOk P L.toArray S a0 K rest ((d, v) :: env)) :
    SeqOk P L.toArray S a0 K (⟨some d, .call { callee := .builtin b, args := xs.toArray, argTypes := ts }, T, pos, after, g⟩ :: rest) env :=
  st_gen hg (fun w hw => by
    have h1 := hr w hw
    have he := evs_of hx
    simp only [execOp, resolve, List.map_toArray, he, pure_bind, invoke]
    exact h1) h

def rdOpt (a0 : Act) (env : List (Nat × Value)) : Option Operand → Option (Option Value)
  | none => some none
  | some x => match rdo a0 env x with
    | some v => some (some v)
    | none => none

theorem evOpt_of {x : Option Operand} {v : Option Value} (h : rdOpt a0 env x = some v) : x.map (ev a0 env) = v := by
  cases x with
  | none => simpa [rdOpt] using h
  | some x =>
    simp only [rdOpt] at h
    cases hx : rdo a0 env x with
    | none => rw [hx] at h; simp at h
    | some u =>
      rw [hx] at h
      simp only [Option.some.injEq] at h
      rw [← h, Option.map_some, ev_of hx]

theorem st_slice {t : TypeId} {x : Operand} {lo hi mx : Option Operand} {vx v : Value} {vlo vhi vmx : Option Value} (hg : want L a0 env g = some true) (hx : rdo a0 env x = some vx) (hlo : rdOpt a0 env lo = some vlo) (hhi : rdOpt a0 env hi = some vhi) (hmx : rdOpt a0 env mx = some vmx)
    (hr : ∀ w, S w → Sem.run P (Instr.sliceAt t vx vlo vhi vmx) w = .ok v w) (h : SeqOk P L.toArray S a0 K rest ((d, v) :: env)) :
    SeqOk P L.toArray S a0 K (⟨some d, .slice t x lo hi mx, T, pos, after, g⟩ :: rest) env :=
  st_gen hg (fun w hw => by
    have h1 := hr w hw
    simp only [execOp]
    rw [ev_of hx, evOpt_of hlo, evOpt_of hhi, evOpt_of hmx]
    simp only [Sem.run_bind]
    rw [h1]
    rfl) h

end
end Go.Proofs.Ytginlhengebgaaa.RegionVal
namespace Go.Proofs.Ytginlhengebgaaa.RegionVal
open Go Go.RowKit

/-- what becomes of an operation: its value and the world behind it -/
def Eff (P : Program) (R : Value → World → Prop) : Result Next → Prop
  | .ok (.value v) w' => R v w'
  | .ok .skip w' => R undef w'
  | .ok (.enter f args) w' => Calls P f args w' fun e w'' => ∃ v, e = .returned v ∧ R v w''
  | _ => False

/-- the run in the order told -/
def SeqE (P : Program) (L : List Oper) (S : World → Prop) (a0 : Act) (K : List (Nat × Value) → World → Prop) : List (Nat × Bool) → List (Nat × Value) → World → Prop
  | [], env, w => K env w
  | (i, eff) :: rest, env, w => ∃ o, want.nthO L i = some o ∧ match eff with
    | false => ∃ v, ((want L a0 env o.guard = some true ∧ ∀ w, S w → (execOp (ev a0 env) o).run P w = .ok (.value v) w) ∨ (want L a0 env o.guard = some false ∧ v = undef)) ∧ SeqE P L S a0 K rest (ext o v env) w
    | true => (want L a0 env o.guard = some true ∧ Eff P (fun v w' => S w' ∧ SeqE P L S a0 K rest (ext o v env) w') ((execOp (ev a0 env) o).run P w)) ∨ (want L a0 env o.guard = some false ∧ SeqE P L S a0 K rest (ext o undef env) w)

def dstOk (L : List Oper) (n : Nat) : Bool := L.all fun o => match o.dst with
  | some d => Nat.blt d n
  | none => true

/-- is the order fit for the region's text -/
def effB (ops : Array Oper) : List (Nat × Bool) → Array Bool → Bool
  | [], listed => (Region.ready .any ops listed).isEmpty
  | (i, eff) :: rest, listed => (match eff with
      | false => Region.free .any ops listed i && (Region.ready .any ops listed).contains i
      | true => Region.ready .any ops listed == [i]) && effB ops rest (listed.setIfInBounds i true)

section
variable {P : Program} {L : List Oper} {S : World → Prop} {a0 : Act} {Q : Exit → Act → World → Prop}

theorem puts_eval (env : List (Nat × Value)) (hd : ∀ d ∈ env.map (·.1), d < a0.tmps.size) (x : Operand) : (puts a0 env).eval x = ev a0 env x := by
  cases x with
  | tmp t =>
    by_cases ht : t < a0.tmps.size
    · simp only [Act.eval, Array.getD_eq_getD_getElem?, puts_get env t ht, Option.getD_some]
    · have hn : t ∉ env.map (·.1) := fun h => ht (hd t h)
      have h1 : (puts a0 env).tmps[t]? = none := Array.getElem?_eq_none (by rw [puts_size]; exact Nat.le_of_not_lt ht)
      have h2 : a0.tmps[t]? = none := Array.getElem?_eq_none (Nat.le_of_not_lt ht)
      simp only [Act.eval, ev, look_none hn, Array.getD_eq_getD_getElem?, h1, h2]
  | const v => rfl
  | global g => rfl
  | func f => rfl

theorem puts_yl (env : List (Nat × Value)) (hd : ∀ d ∈ env.map (·.1), d < a0.tmps.size) (j : Nat) : yielded L.toArray (puts a0 env).tmps j = yl L.toArray a0 env j := by
  unfold yielded yl
  cases h : (L.toArray[j]?).bind (·.dst) with
  | none => rfl
  | some t =>
    have h1 := puts_eval (a0 := a0) env hd (.tmp t)
    simp only [Act.eval] at h1
    simp only [Option.bind_some]
    rw [← h1]
    cases ht : (puts a0 env).tmps[t]? with
    | none => simp [Array.getD_eq_getD_getElem?, ht, undef]
    | some x => simp [Array.getD_eq_getD_getElem?, ht]; cases x <;> rfl

theorem puts_wanted {o : Oper} {env : List (Nat × Value)} (hd : ∀ d ∈ env.map (·.1), d < a0.tmps.size) {b : Bool} (h : want L a0 env o.guard = some b) : Region.wanted o (yielded L.toArray (puts a0 env).tmps) = b := by
  rw [← wanted_of h]
  unfold Region.wanted
  cases hg : o.guard with
  | none => rfl
  | some gw => simp only [puts_yl env hd]

theorem puts_ext (o : Oper) (v : Value) (env : List (Nat × Value)) : (puts a0 env).put o.dst v = puts a0 (ext o v env) := by
  cases h : o.dst with
  | none => simp [ext, h, Act.put]
  | some d => simp [ext, h, puts]

theorem ext_lt {o : Oper} {v : Value} {env : List (Nat × Value)} (ho : ∀ d, o.dst = some d → d < a0.tmps.size) (hd : ∀ d ∈ env.map (·.1), d < a0.tmps.size) : ∀ d ∈ (ext o v env).map (·.1), d < a0.tmps.size := by
  intro d hm
  cases h : o.dst with
  | none => simp only [ext, h] at hm; exact hd d hm
  | some d0 =>
    simp only [ext, h, List.map_cons, List.mem_cons] at hm
    rcases hm with rfl | hm
    · exact ho _ h
    · exact hd d hm

theorem seqE_sound (hs : Region.noSelect L.toArray = true) (hdst : ∀ o ∈ L, ∀ d, o.dst = some d → d < a0.tmps.size) (hQ : ∀ c a d v w, Q (.panic c) (Act.put a d v) w → Q (.panic c) a w) :
    ∀ (ord : List (Nat × Bool)) (listed : Array Bool) (env : List (Nat × Value)) (w : World) (fuel : Nat), ord.length ≤ fuel → effB L.toArray ord listed = true → (∀ d ∈ env.map (·.1), d < a0.tmps.size) → S w →
      SeqE P L S a0 (fun F w' => S w' → Q .normal (puts a0 F) w') ord env w → wpAnyH P .any L.toArray Q S fuel listed (puts a0 env) w := by
  intro ord
  induction ord with
  | nil =>
    intro listed env w fuel _ hb _ hS h
    simp only [effB, List.isEmpty_iff] at hb
    exact wpAnyH_done hb (h hS) fuel
  | cons x rest ih =>
    obtain ⟨i, eff⟩ := x
    intro listed env w fuel hf hb hd hS h
    obtain ⟨fuel, rfl⟩ : ∃ f, fuel = f + 1 := ⟨fuel - 1, by simp at hf; omega⟩
    obtain ⟨o, ho, h⟩ := h
    rw [nthO_eq] at ho
    have ho' : L.toArray[i]? = some o := by simpa using ho
    have hod : ∀ d, o.dst = some d → d < a0.tmps.size := hdst o (List.mem_of_getElem? ho)
    simp only [List.length_cons] at hf
    have hselo : ∀ cs b, o.op ≠ .select cs b := Region.noSelect_spec hs i o |> fun k cs b => k cs b ho'
    have hexec : execOp (puts a0 env).eval o = execOp (ev a0 env) o := execOp_congr o hselo fun x _ => puts_eval env hd x
    cases eff with
    | false =>
      simp only [effB, Bool.and_eq_true] at hb
      obtain ⟨⟨hfree, hready⟩, hb⟩ := hb
      obtain ⟨v, hy, h⟩ := h
      refine wpAnyH_take (i := i) (oi := o) (v := v) ho' hs hfree hready (fun c a w => hQ c a o.dst v w) ?_ hS ?_
      · rcases hy with ⟨hw, hr⟩ | ⟨hw, rfl⟩
        · exact .inl ⟨puts_wanted hd hw, fun w hw => by rw [hexec]; exact hr w hw⟩
        · exact .inr ⟨puts_wanted hd hw, rfl⟩
      · rw [puts_ext]
        exact ih _ _ w fuel (by omega) hb (ext_lt hod hd) hS h
    | true =>
      simp only [effB, Bool.and_eq_true, beq_iff_eq] at hb
      obtain ⟨hready, hb⟩ := hb
      refine wpAnyH_all (rs := [i]) hready (by simp) ?_
      intro j hj
      obtain rfl : j = i := by simpa using hj
      have hnext : ∀ v w', S w' → SeqE P L S a0 (fun F w' => S w' → Q .normal (puts a0 F) w') rest (ext o v env) w' → S w' ∧ wpAnyH P .any L.toArray Q S fuel (listed.setIfInBounds j true) ((puts a0 env).put o.dst v) w' := by
        intro v w' hS' h'
        rw [puts_ext]
        exact ⟨hS', ih _ _ w' fuel (by omega) hb (ext_lt hod hd) hS' h'⟩
      unfold wpOp
      simp only [ho']
      rcases h with ⟨hw, h⟩ | ⟨hw, h⟩
      · rw [if_pos (puts_wanted hd hw)]
        refine .inl ?_
        unfold Oper.wp
        rw [hexec]
        generalize (execOp (ev a0 env) o).run P w = r at *
        cases r with
        | ok n w' =>
          cases n <;> simp only [Eff] at h <;> simp only [Oper.upon]
          case value u => exact hnext _ _ h.1 h.2
          case skip => exact hnext _ _ h.1 h.2
          case enter f args =>
            refine Calls.mono h ?_
            rintro e w'' ⟨v, rfl, h1, h2⟩
            exact hnext _ _ h1 h2
          all_goals exact h.elim
        | halt x w' => exact h.elim
      · rw [if_neg (by rw [puts_wanted hd hw]; decide)]
        exact hnext _ _ hS h

/-- THE LAW. -/
theorem wp_eff (ord : List (Nat × Bool)) (hc : (Region.noSelect L.toArray && dstOk L a0.tmps.size && effB L.toArray ord (Array.replicate L.length false) && Nat.ble ord.length L.length) = true) (hm : P.follows .mixedOrders = true) {id : Nat} {w : World} (hS : S w.drew)
    (hQ : ∀ c a d v w, Q (.panic c) (Act.put a d v) w → Q (.panic c) a w)
    (h : SeqE P L S a0 (fun F w' => S w' → Q .normal (puts a0 F) w') ord [] w.drew) : (Code.region id L.toArray true).wp P Q a0 w := by
  simp only [Bool.and_eq_true] at hc
  obtain ⟨⟨⟨h1, h2⟩, h3⟩, h4⟩ := hc
  refine wp_region_held (S := S) hm ?_
  refine seqE_sound h1 ?_ hQ ord _ [] _ _ ?_ ?_ (by simp) hS h
  · intro o ho d hd
    have := List.all_eq_true.1 h2 o ho
    rw [hd] at this
    simpa [Nat.blt_eq] using this
  · simpa using Nat.le_of_ble_eq_true h4
  · simpa using h3

variable {K : List (Nat × Value) → World → Prop} {env : List (Nat × Value)} {rest : List (Nat × Bool)} {i : Nat} {w : World} {d : Nat} {T : TypeId} {pos : String} {after : Array Edge} {g : Option (Nat × Bool)}

theorem se_skip {op : Op} {b : Bool} (ho : want.nthO L i = some ⟨some d, op, T, pos, after, g⟩) (hg : want L a0 env g = some false) (h : SeqE P L S a0 K rest ((d, undef) :: env) w) : SeqE P L S a0 K ((i, b) :: rest) env w := by
  refine ⟨_, ho, ?_⟩
  cases b with
  | false => exact ⟨undef, .inr ⟨hg, rfl⟩, h⟩
  | true => exact .inr ⟨hg, h⟩
theorem se_gen {op : Op} {v : Value} (ho : want.nthO L i = some ⟨some d, op, T, pos, after, g⟩) (hg : want L a0 env g = some true) (hr : ∀ w, S w → (execOp (ev a0 env) ⟨some d, op, T, pos, after, g⟩).run P w = .ok (.value v) w)
    (h : SeqE P L S a0 K rest ((d, v) :: env) w) : SeqE P L S a0 K ((i, false) :: rest) env w := ⟨_, ho, v, .inl ⟨hg, hr⟩, h⟩
theorem se_move {x : Operand} {v : Value} (ho : want.nthO L i = some ⟨some d, .move x, T, pos, after, g⟩) (hg : want L a0 env g = some true) (hx : rdo a0 env x = some v) (h : SeqE P L S a0 K rest ((d, v) :: env) w) :
    SeqE P L S a0 K ((i, false) :: rest) env w := se_gen ho hg (fun w _ => by simp only [execOp]; rw [ev_of hx]; rfl) h
theorem se_assign {x : Operand} {v : Value} (ho : want.nthO L i = some ⟨some d, .assign x, T, pos, after, g⟩) (hg : want L a0 env g = some true) (hx : rdo a0 env x = some v) (h : SeqE P L S a0 K rest ((d, v) :: env) w) :
    SeqE P L S a0 K ((i, false) :: rest) env w := se_gen ho hg (fun w _ => by simp only [execOp]; rw [ev_of hx]; rfl) h
theorem se_pickT {c x y : Operand} {v : Value} (ho : want.nthO L i = some ⟨some d, .pick c x y, T, pos, after, g⟩) (hg : want L a0 env g = some true) (hc : rdo a0 env c = some (.bool true)) (hx : rdo a0 env x = some v) (h : SeqE P L S a0 K rest ((d, v) :: env) w) :
    SeqE P L S a0 K ((i, false) :: rest) env w := se_gen ho hg (fun w _ => by simp only [execOp]; rw [ev_of hc, ev_of hx]; rfl) h
theorem se_pickF {c x y : Operand} {v : Value} (ho : want.nthO L i = some ⟨some d, .pick c x y, T, pos, after, g⟩) (hg : want L a0 env g = some true) (hc : rdo a0 env c = some (.bool false)) (hx : rdo a0 env y = some v) (h : SeqE P L S a0 K rest ((d, v) :: env) w) :
    SeqE P L S a0 K ((i, false) :: rest) env w := se_gen ho hg (fun w _ => by simp only [execOp]; rw [ev_of hc, ev_of hx]; rfl) h
theorem se_un {op : Op} {x : Operand} {vx v : Value} (ho : want.nthO L i = some ⟨some d, op, T, pos, after, g⟩) (hg : want L a0 env g = some true) (hop : op.operands = #[x]) (hs : noSel op = true) (hx : rdo a0 env x = some vx)
    (hr : ∀ w, S w → (execOp (fun _ => vx) ⟨some d, op, T, pos, after, g⟩).run P w = .ok (.value v) w) (h : SeqE P L S a0 K rest ((d, v) :: env) w) :
    SeqE P L S a0 K ((i, false) :: rest) env w :=
  se_gen ho hg (fun w hw => by
    rw [execOp_congr (ρ := ev a0 env) (ρ' := fun _ => vx) ⟨some d, op, T, pos, after, g⟩ (fun cs b e => by simp only at e; subst e; simp [noSel] at hs) (fun z hz => by
      simp only [hop] at hz
      rw [show z = x by simpa using hz]; exact ev_of hx)]
    exact hr w hw) h
theorem se_bin {b : BinOp} {t t' : TypeId} {x y : Operand} {vx vy v : Value} (ho : want.nthO L i = some ⟨some d, .binOp b t x y t', T, pos, after, g⟩) (hg : want L a0 env g = some true) (hx : rdo a0 env x = some vx) (hy : rdo a0 env y = some vy)
    (hr : ∀ w, S w → Sem.run P (do eqGuard b t x y vx vy; binOp b t vx vy : Sem Value) w = .ok v w) (h : SeqE P L S a0 K rest ((d, v) :: env) w) :
    SeqE P L S a0 K ((i, false) :: rest) env w :=
  se_gen ho hg (fun w hw => by
    have h1 := hr w hw
    simp only [execOp]
    rw [ev_of hx, ev_of hy]
    simp only [Sem.run_bind] at h1 ⊢
    rw [h1]
    rfl) h
theorem se_indexAddr {t : TypeId} {x y : Operand} {vx vy v : Value} (ho : want.nthO L i = some ⟨some d, .indexAddr t x y, T, pos, after, g⟩) (hg : want L a0 env g = some true) (hx : rdo a0 env x = some vx) (hy : rdo a0 env y = some vy)
    (hr : ∀ w, S w → Sem.run P (Instr.indexAt t vx vy) w = .ok v w) (h : SeqE P L S a0 K rest ((d, v) :: env) w) :
    SeqE P L S a0 K ((i, false) :: rest) env w :=
  se_gen ho hg (fun w hw => by
    have h1 := hr w hw
    simp only [execOp]
    rw [ev_of hx, ev_of hy]
    simp only [Sem.run_bind]
    rw [h1]
    rfl) h
theorem se_builtin {b : Builtin} {xs : List Operand} {vs : List Value} {ts : Array TypeId} {v : Value} (ho : want.nthO L i = some ⟨some d, .call { callee := .builtin b, args := xs.toArray, argTypes := ts }, T, pos, after, g⟩) (hg : want L a0 env g = some true) (hx : rdos a0 env xs = some vs)
    (hr : ∀ w, S w → Sem.run P (builtin b ts T (xs.map fun | .const _ => true | _ => false).toArray vs.toArray) w = .ok (.value v) w) (h : SeqE P L S a0 K rest ((d, v) :: env) w) :
    SeqE P L S a0 K ((i, false) :: rest) env w :=
  se_gen ho hg (fun w hw => by
    have h1 := hr w hw
    have he := evs_of hx
    simp only [execOp, resolve, List.map_toArray, he, pure_bind, invoke]
    exact h1) h
theorem se_slice {t : TypeId} {x : Operand} {lo hi mx : Option Operand} {vx v : Value} {vlo vhi vmx : Option Value} (ho : want.nthO L i = some ⟨some d, .slice t x lo hi mx, T, pos, after, g⟩) (hg : want L a0 env g = some true) (hx : rdo a0 env x = some vx) (hlo : rdOpt a0 env lo = some vlo) (hhi : rdOpt a0 env hi = some vhi) (hmx : rdOpt a0 env mx = some vmx)
    (hr : ∀ w, S w → Sem.run P (Instr.sliceAt t vx vlo vhi vmx) w = .ok v w) (h : SeqE P L S a0 K rest ((d, v) :: env) w) :
    SeqE P L S a0 K ((i, false) :: rest) env w :=
  se_gen ho hg (fun w hw => by
    have h1 := hr w hw
    simp only [execOp]
    rw [ev_of hx, evOpt_of hlo, evOpt_of hhi, evOpt_of hmx]
    simp only [Sem.run_bind]
    rw [h1]
    rfl) h

/-- what makes or writes memory -/
theorem se_eff {op : Op} (ho : want.nthO L i = some ⟨some d, op, T, pos, after, g⟩) (hg : want L a0 env g = some true)
    (h : Eff P (fun v w' => S w' ∧ SeqE P L S a0 K rest ((d, v) :: env) w') ((execOp (ev a0 env) ⟨some d, op, T, pos, after, g⟩).run P w)) : SeqE P L S a0 K ((i, true) :: rest) env w := ⟨_, ho, .inl ⟨hg, h⟩⟩

theorem se_call {f : FuncId} {fn : Func} {xs : List Operand} {vs : List Value} {ts : Array TypeId} (ho : want.nthO L i = some ⟨some d, .call { callee := .value (.func f), args := xs.toArray, argTypes := ts }, T, pos, after, g⟩) (hg : want L a0 env g = some true) (hf : P.funcs[f]? = some fn) (hb : fn.body.isSome = true) (hx : rdos a0 env xs = some vs)
    (hname : (fn.name == "runtime.NumGoroutine") = false)
    (h : Calls P f vs.toArray w fun e w' => ∃ v, e = .returned v ∧ S w' ∧ SeqE P L S a0 K rest ((d, v) :: env) w') :
    SeqE P L S a0 K ((i, true) :: rest) env w := by
  refine se_eff ho hg ?_
  have h1 : (execOp (ev a0 env) ⟨some d, .call { callee := .value (.func f), args := xs.toArray, argTypes := ts }, T, pos, after, g⟩).run P w = .ok (.enter f vs.toArray) w := by
    have he := evs_of hx
    have h2 : Sem.run P (callFunc f vs.toArray) w = .ok (.enter f vs.toArray) w := by
      have h1 : fn.name ≠ "runtime.NumGoroutine" := by simpa using hname
      obtain ⟨c, hc'⟩ := Option.isSome_iff_exists.1 hb
      simp [callFunc, hf, h1, hc']
    simp [execOp, resolve, ev, he, Deferred.ofValue, invoke, h2]
  rw [h1]
  exact h

/-- a builtin that makes memory: its run told -/
theorem se_made {b : Builtin} {xs : List Operand} {vs : List Value} {ts : Array TypeId} {v : Value} {w' : World} (ho : want.nthO L i = some ⟨some d, .call { callee := .builtin b, args := xs.toArray, argTypes := ts }, T, pos, after, g⟩) (hg : want L a0 env g = some true) (hx : rdos a0 env xs = some vs)
    (hr : Sem.run P (builtin b ts T (xs.map fun | .const _ => true | _ => false).toArray vs.toArray) w = .ok (.value v) w') (hS : S w') (h : SeqE P L S a0 K rest ((d, v) :: env) w') :
    SeqE P L S a0 K ((i, true) :: rest) env w := by
  refine se_eff ho hg ?_
  have h1 : (execOp (ev a0 env) ⟨some d, .call { callee := .builtin b, args := xs.toArray, argTypes := ts }, T, pos, after, g⟩).run P w = .ok (.value v) w' := by
    have he := evs_of hx
    simp only [execOp, resolve, List.map_toArray, he, pure_bind, invoke]
    exact hr
  rw [h1]
  exact ⟨hS, h⟩

/-- a literal of a slice -/
theorem se_lit {t : TypeId} {n : Nat} {ps : List (Nat × Operand)} {vs : List (Nat × Value)} {v : Value} {w' : World} (ho : want.nthO L i = some ⟨some d, .buildSlice t n ps.toArray, T, pos, after, g⟩) (hg : want L a0 env g = some true) (hx : ps.map (fun x => (x.1, rdo a0 env x.2)) = vs.map (fun x => (x.1, some x.2)))
    (hr : Sem.run P (Instr.buildSlice t n vs.toArray) w = .ok v w') (hS : S w') (h : SeqE P L S a0 K rest ((d, v) :: env) w') :
    SeqE P L S a0 K ((i, true) :: rest) env w := by
  refine se_eff ho hg ?_
  have he : (ps.toArray.map fun (i, x) => (i, ev a0 env x)) = vs.toArray := by
    rw [List.map_toArray]
    congr 1
    clear hr ho
    induction ps generalizing vs with
    | nil => cases vs with
      | nil => rfl
      | cons v vs => simp at hx
    | cons p ps ih => cases vs with
      | nil => simp at hx
      | cons q vs =>
        simp only [List.map_cons, List.cons.injEq, Prod.mk.injEq] at hx
        obtain ⟨⟨h1, h2⟩, h3⟩ := hx
        obtain ⟨p1, p2⟩ := p
        obtain ⟨q1, q2⟩ := q
        simp only at h1 h2
        subst h1
        rw [List.map_cons, ih h3]
        simp only [ev_of h2]
  have h1 : (execOp (ev a0 env) ⟨some d, .buildSlice t n ps.toArray, T, pos, after, g⟩).run P w = .ok (.value v) w' := by
    simp only [execOp]
    rw [he]
    simp only [Sem.run_bind]
    rw [hr]
    rfl
  rw [h1]
  exact ⟨hS, h⟩
end
end Go.Proofs.Ytginlhengebgaaa.RegionVal
namespace Go.Proofs.Ytginlhengebgaaa.RegionVal
open Go Go.RowKit
set_option linter.unusedVariables false

def effB2 (ops : Array Oper) (i j : Nat) (r1 r2 : List (Nat × Bool)) : List Nat → Array Bool → Bool
  | [], listed => Region.ready .any ops listed == [i, j] && effB ops r1 (listed.setIfInBounds i true) && effB ops r2 (listed.setIfInBounds j true)
  | p :: rest, listed => Region.free .any ops listed p && (Region.ready .any ops listed).contains p && effB2 ops i j r1 r2 rest (listed.setIfInBounds p true)
def pures (ps : List Nat) : List (Nat × Bool) := ps.map (fun p => (p, false))

section
variable {P : Program} {L : List Oper} {S : World → Prop} {a0 : Act} {Q : Exit → Act → World → Prop}

theorem eff_step (hs : Region.noSelect L.toArray = true) (hdst : ∀ o ∈ L, ∀ d, o.dst = some d → d < a0.tmps.size) (hQ : ∀ c a d v w, Q (.panic c) (Act.put a d v) w → Q (.panic c) a w)
    (i : Nat) (rest : List (Nat × Bool)) (listed : Array Bool) (env : List (Nat × Value)) (w : World) (fuel : Nat) (hf : rest.length ≤ fuel) (hb : effB L.toArray rest (listed.setIfInBounds i true) = true) (hd : ∀ d ∈ env.map (·.1), d < a0.tmps.size) (hS : S w)
    (h : SeqE P L S a0 (fun F w' => S w' → Q .normal (puts a0 F) w') ((i, true) :: rest) env w) :
    wpOp P L.toArray Q i (fun a' w' => S w' ∧ wpAnyH P .any L.toArray Q S fuel (listed.setIfInBounds i true) a' w') (puts a0 env) w := by
  obtain ⟨o, ho, h⟩ := h
  rw [nthO_eq] at ho
  have ho' : L.toArray[i]? = some o := by simpa using ho
  have hod : ∀ d, o.dst = some d → d < a0.tmps.size := hdst o (List.mem_of_getElem? ho)
  have hselo : ∀ cs b, o.op ≠ .select cs b := Region.noSelect_spec hs i o |> fun k cs b => k cs b ho'
  have hexec : execOp (puts a0 env).eval o = execOp (ev a0 env) o := execOp_congr o hselo fun x _ => puts_eval env hd x
  have hnext : ∀ v w', S w' → SeqE P L S a0 (fun F w' => S w' → Q .normal (puts a0 F) w') rest (ext o v env) w' → S w' ∧ wpAnyH P .any L.toArray Q S fuel (listed.setIfInBounds i true) ((puts a0 env).put o.dst v) w' := by
    intro v w' hS' h'
    rw [puts_ext]
    exact ⟨hS', seqE_sound hs hdst hQ rest _ _ w' fuel hf hb (ext_lt hod hd) hS' h'⟩
  unfold wpOp
  simp only [ho']
  rcases h with ⟨hw, h⟩ | ⟨hw, h⟩
  · rw [if_pos (puts_wanted hd hw)]
    refine .inl ?_
    unfold Oper.wp
    rw [hexec]
    generalize (execOp (ev a0 env) o).run P w = r at *
    cases r with
    | ok n w' =>
      cases n <;> simp only [Eff] at h <;> simp only [Oper.upon]
      case value u => exact hnext _ _ h.1 h.2
      case skip => exact hnext _ _ h.1 h.2
      case enter f args =>
        refine Calls.mono h ?_
        rintro e w'' ⟨v, rfl, h1, h2⟩
        exact hnext _ _ h1 h2
      all_goals exact h.elim
    | halt x w' => exact h.elim
  · rw [if_neg (by rw [puts_wanted hd hw]; decide)]
    exact hnext _ _ hS h

theorem seq2_sound (hs : Region.noSelect L.toArray = true) (hdst : ∀ o ∈ L, ∀ d, o.dst = some d → d < a0.tmps.size) (hQ : ∀ c a d v w, Q (.panic c) (Act.put a d v) w → Q (.panic c) a w) (i j : Nat) (r1 r2 : List (Nat × Bool)) :
    ∀ (ps : List Nat) (listed : Array Bool) (env : List (Nat × Value)) (w : World) (fuel : Nat), ps.length + r1.length + 1 ≤ fuel → ps.length + r2.length + 1 ≤ fuel → effB2 L.toArray i j r1 r2 ps listed = true → (∀ d ∈ env.map (·.1), d < a0.tmps.size) → S w →
      SeqE P L S a0 (fun env w => SeqE P L S a0 (fun F w' => S w' → Q .normal (puts a0 F) w') ((i, true) :: r1) env w ∧ SeqE P L S a0 (fun F w' => S w' → Q .normal (puts a0 F) w') ((j, true) :: r2) env w) (pures ps) env w → wpAnyH P .any L.toArray Q S fuel listed (puts a0 env) w := by
  intro ps
  induction ps with
  | nil =>
    intro listed env w fuel hf1 hf2 hb hd hS h
    obtain ⟨fuel, rfl⟩ : ∃ f, fuel = f + 1 := ⟨fuel - 1, by simp at hf1; omega⟩
    simp only [effB2, Bool.and_eq_true, beq_iff_eq] at hb
    obtain ⟨⟨hready, hb1⟩, hb2⟩ := hb
    obtain ⟨h1, h2⟩ := h
    simp only [List.length_nil] at hf1 hf2
    refine wpAnyH_all (rs := [i, j]) hready (by simp) ?_
    intro k hk
    rcases List.mem_cons.1 hk with rfl | hk
    · exact eff_step hs hdst hQ _ r1 listed env w fuel (by omega) hb1 hd hS h1
    · obtain rfl : k = j := by simpa using hk
      exact eff_step hs hdst hQ _ r2 listed env w fuel (by omega) hb2 hd hS h2
  | cons p rest ih =>
    intro listed env w fuel hf1 hf2 hb hd hS h
    obtain ⟨fuel, rfl⟩ : ∃ f, fuel = f + 1 := ⟨fuel - 1, by simp at hf1; omega⟩
    simp only [List.length_cons] at hf1 hf2
    obtain ⟨o, ho, v, hy, h⟩ := h
    rw [nthO_eq] at ho
    have ho' : L.toArray[p]? = some o := by simpa using ho
    have hod : ∀ d, o.dst = some d → d < a0.tmps.size := hdst o (List.mem_of_getElem? ho)
    have hselo : ∀ cs b, o.op ≠ .select cs b := Region.noSelect_spec hs p o |> fun k cs b => k cs b ho'
    have hexec : execOp (puts a0 env).eval o = execOp (ev a0 env) o := execOp_congr o hselo fun x _ => puts_eval env hd x
    simp only [effB2, Bool.and_eq_true] at hb
    obtain ⟨⟨hfree, hready⟩, hb⟩ := hb
    refine wpAnyH_take (i := p) (oi := o) (v := v) ho' hs hfree hready (fun c a w => hQ c a o.dst v w) ?_ hS ?_
    · rcases hy with ⟨hw, hr⟩ | ⟨hw, rfl⟩
      · exact .inl ⟨puts_wanted hd hw, fun w hw => by rw [hexec]; exact hr w hw⟩
      · exact .inr ⟨puts_wanted hd hw, rfl⟩
    · rw [puts_ext]
      exact ih _ _ w fuel (by omega) (by omega) hb (ext_lt hod hd) hS h

/-- THE LAW: ps come first (they only read), then i and j in either order, then r1 or r2. -/
theorem wp_two (ps : List Nat) (i j : Nat) (r1 r2 : List (Nat × Bool)) (hc : (Region.noSelect L.toArray && dstOk L a0.tmps.size && effB2 L.toArray i j r1 r2 ps (Array.replicate L.length false) && Nat.ble (ps.length + r1.length + 1) L.length && Nat.ble (ps.length + r2.length + 1) L.length) = true) (hm : P.follows .mixedOrders = true) {id : Nat} {w : World} (hS : S w.drew)
    (hQ : ∀ c a d v w, Q (.panic c) (Act.put a d v) w → Q (.panic c) a w)
    (h : SeqE P L S a0 (fun env w => SeqE P L S a0 (fun F w' => S w' → Q .normal (puts a0 F) w') ((i, true) :: r1) env w ∧ SeqE P L S a0 (fun F w' => S w' → Q .normal (puts a0 F) w') ((j, true) :: r2) env w) (pures ps) [] w.drew) : (Code.region id L.toArray true).wp P Q a0 w := by
  simp only [Bool.and_eq_true] at hc
  obtain ⟨⟨⟨⟨h1, h2⟩, h3⟩, h4⟩, h5⟩ := hc
  refine wp_region_held (S := S) hm ?_
  refine seq2_sound h1 ?_ hQ i j r1 r2 ps _ [] _ _ ?_ ?_ ?_ (by simp) hS h
  · intro o ho d hd
    have := List.all_eq_true.1 h2 o ho
    rw [hd] at this
    simpa [Nat.blt_eq] using this
  · simpa using Nat.le_of_ble_eq_true h4
  · simpa using Nat.le_of_ble_eq_true h5
  · simpa using h3
theorem Eff.mono {R R' : Value → World → Prop} (hR : ∀ v w, R v w → R' v w) {r : Result Next} (h : Eff P R r) : Eff P R' r := by
  cases r with
  | ok n w' =>
    cases n <;> simp only [Eff] at h ⊢
    case value u => exact hR _ _ h
    case skip => exact hR _ _ h
    case enter f args => exact h.mono fun e w ⟨v, h1, h2⟩ => ⟨v, h1, hR _ _ h2⟩
  | halt x w' => exact h.elim
theorem SeqE.mono {K K' : List (Nat × Value) → World → Prop} (hK : ∀ F w, K F w → K' F w) : ∀ {ord : List (Nat × Bool)} {env : List (Nat × Value)} {w : World}, SeqE P L S a0 K ord env w → SeqE P L S a0 K' ord env w
  | [], env, w, h => hK _ _ h
  | (i, false) :: rest, env, w, ⟨o, ho, v, hv, h⟩ => ⟨o, ho, v, hv, SeqE.mono hK h⟩
  | (i, true) :: rest, env, w, ⟨o, ho, h⟩ => ⟨o, ho, h.imp (fun ⟨h1, h2⟩ => ⟨h1, h2.mono fun v w' h3 => ⟨h3.1, SeqE.mono hK h3.2⟩⟩) (fun ⟨h1, h2⟩ => ⟨h1, SeqE.mono hK h2⟩)⟩
/-- THE LAW, what follows shown once: both orders end in J. -/
theorem wp_join (J : List (Nat × Value) → World → Prop) (ps : List Nat) (i j : Nat) (r1 r2 : List (Nat × Bool)) (hc : (Region.noSelect L.toArray && dstOk L a0.tmps.size && effB2 L.toArray i j r1 r2 ps (Array.replicate L.length false) && Nat.ble (ps.length + r1.length + 1) L.length && Nat.ble (ps.length + r2.length + 1) L.length) = true) (hm : P.follows .mixedOrders = true) {id : Nat} {w : World} (hS : S w.drew)
    (hQ : ∀ c a d v w, Q (.panic c) (Act.put a d v) w → Q (.panic c) a w)
    (hJ : ∀ F w', J F w' → Q .normal (puts a0 F) w')
    (h : SeqE P L S a0 (fun env w => SeqE P L S a0 J ((i, true) :: r1) env w ∧ SeqE P L S a0 J ((j, true) :: r2) env w) (pures ps) [] w.drew) : (Code.region id L.toArray true).wp P Q a0 w :=
  wp_two ps i j r1 r2 hc hm hS hQ (h.mono fun F w h => ⟨h.1.mono (fun F w h (_ : S w) => hJ F w h), h.2.mono (fun F w h (_ : S w) => hJ F w h)⟩)
end
theorem put_swap (a : Act) {d e : Nat} (h : d ≠ e) (u v : Value) : (a.put (some d) u).put (some e) v = (a.put (some e) v).put (some d) u := by
  simp only [Act.put]
  rw [Array.setIfInBounds_comm _ _ h]
theorem puts_cons (a : Act) (x : Nat × Value) {E F : List (Nat × Value)} (h : puts a E = puts a F) : puts a (x :: E) = puts a (x :: F) := by
  obtain ⟨d, v⟩ := x
  simp only [puts, h]
theorem puts_swap (a : Act) {d e : Nat} (h : d ≠ e) (u v : Value) (E : List (Nat × Value)) : puts a ((e, v) :: (d, u) :: E) = puts a ((d, u) :: (e, v) :: E) := put_swap _ h u v
end Go.Proofs.Ytginlhengebgaaa.RegionVal
namespace Go.Proofs.Ytginlhengebgaaa.RegionVal
open Go Go.RowKit
set_option linter.unusedVariables false

inductive OT where
  | leaf (ord : List (Nat × Bool))
  | fork (ps : List (Nat × Bool)) (i : Nat) (t : OT) (j : Nat) (u : OT)

/-- an order's beginning: is it fit, and what is listed behind it -/
def preB (ops : Array Oper) : List (Nat × Bool) → Array Bool → Option (Array Bool)
  | [], listed => some listed
  | (i, eff) :: rest, listed => if (match eff with
      | false => Region.free .any ops listed i && (Region.ready .any ops listed).contains i
      | true => Region.ready .any ops listed == [i]) then preB ops rest (listed.setIfInBounds i true) else none
def OT.ok (ops : Array Oper) : OT → Array Bool → Bool
  | .leaf ord, listed => effB ops ord listed
  | .fork ps i t j u, listed => match preB ops ps listed with
    | some l => Region.ready .any ops l == [i, j] && t.ok ops (l.setIfInBounds i true) && u.ok ops (l.setIfInBounds j true)
    | none => false
def OT.depth : OT → Nat
  | .leaf ord => ord.length
  | .fork ps i t j u => ps.length + 1 + Nat.max t.depth u.depth
def SeqT (P : Program) (L : List Oper) (S : World → Prop) (a0 : Act) (K : List (Nat × Value) → World → Prop) : OT → List (Nat × Value) → World → Prop
  | .leaf ord, env, w => SeqE P L S a0 K ord env w
  | .fork ps i t j u, env, w => SeqE P L S a0 (fun env w => SeqE P L S a0 (fun env w => SeqT P L S a0 K t env w) [(i, true)] env w ∧ SeqE P L S a0 (fun env w => SeqT P L S a0 K u env w) [(j, true)] env w) ps env w

section
variable {P : Program} {L : List Oper} {S : World → Prop} {a0 : Act} {Q : Exit → Act → World → Prop}

theorem seqE_prefix (hs : Region.noSelect L.toArray = true) (hdst : ∀ o ∈ L, ∀ d, o.dst = some d → d < a0.tmps.size) (hQ : ∀ c a d v w, Q (.panic c) (Act.put a d v) w → Q (.panic c) a w)
    (K : List (Nat × Value) → World → Prop) (l' : Array Bool) (m : Nat) (hK : ∀ env w, (∀ d ∈ env.map (·.1), d < a0.tmps.size) → S w → K env w → wpAnyH P .any L.toArray Q S m l' (puts a0 env) w) :
    ∀ (ord : List (Nat × Bool)) (listed : Array Bool) (env : List (Nat × Value)) (w : World), preB L.toArray ord listed = some l' → (∀ d ∈ env.map (·.1), d < a0.tmps.size) → S w →
      SeqE P L S a0 K ord env w → wpAnyH P .any L.toArray Q S (ord.length + m) listed (puts a0 env) w := by
  intro ord
  induction ord with
  | nil =>
    intro listed env w hb hd hS h
    simp only [preB, Option.some.injEq] at hb
    subst hb
    rw [List.length_nil, Nat.zero_add]
    exact hK env w hd hS h
  | cons x rest ih =>
    obtain ⟨i, eff⟩ := x
    intro listed env w hb hd hS h
    rw [show ((i, eff) :: rest).length + m = (rest.length + m) + 1 by simp; omega]
    obtain ⟨o, ho, h⟩ := h
    rw [nthO_eq] at ho
    have ho' : L.toArray[i]? = some o := by simpa using ho
    have hod : ∀ d, o.dst = some d → d < a0.tmps.size := hdst o (List.mem_of_getElem? ho)
    have hselo : ∀ cs b, o.op ≠ .select cs b := Region.noSelect_spec hs i o |> fun k cs b => k cs b ho'
    have hexec : execOp (puts a0 env).eval o = execOp (ev a0 env) o := execOp_congr o hselo fun x _ => puts_eval env hd x
    cases eff with
    | false =>
      simp only [preB] at hb
      split at hb
      case isFalse => cases hb
      rename_i hc
      simp only [Bool.and_eq_true] at hc
      obtain ⟨hfree, hready⟩ := hc
      obtain ⟨v, hy, h⟩ := h
      refine wpAnyH_take (i := i) (oi := o) (v := v) ho' hs hfree hready (fun c a w => hQ c a o.dst v w) ?_ hS ?_
      · rcases hy with ⟨hw, hr⟩ | ⟨hw, rfl⟩
        · exact .inl ⟨puts_wanted hd hw, fun w hw => by rw [hexec]; exact hr w hw⟩
        · exact .inr ⟨puts_wanted hd hw, rfl⟩
      · rw [puts_ext]
        exact ih _ _ w hb (ext_lt hod hd) hS h
    | true =>
      simp only [preB] at hb
      split at hb
      case isFalse => cases hb
      rename_i hready
      rw [beq_iff_eq] at hready
      refine wpAnyH_all (rs := [i]) hready (by simp) ?_
      intro j hj
      obtain rfl : j = i := by simpa using hj
      have hnext : ∀ v w', S w' → SeqE P L S a0 K rest (ext o v env) w' → S w' ∧ wpAnyH P .any L.toArray Q S (rest.length + m) (listed.setIfInBounds j true) ((puts a0 env).put o.dst v) w' := by
        intro v w' hS' h'
        rw [puts_ext]
        exact ⟨hS', ih _ _ w' hb (ext_lt hod hd) hS' h'⟩
      unfold wpOp
      simp only [ho']
      rcases h with ⟨hw, h⟩ | ⟨hw, h⟩
      · rw [if_pos (puts_wanted hd hw)]
        refine .inl ?_
        unfold Oper.wp
        rw [hexec]
        generalize (execOp (ev a0 env) o).run P w = r at *
        cases r with
        | ok n w' =>
          cases n <;> simp only [Eff] at h <;> simp only [Oper.upon]
          case value u => exact hnext _ _ h.1 h.2
          case skip => exact hnext _ _ h.1 h.2
          case enter f args =>
            refine Calls.mono h ?_
            rintro e w'' ⟨v, rfl, h1, h2⟩
            exact hnext _ _ h1 h2
          all_goals exact h.elim
        | halt x w' => exact h.elim
      · rw [if_neg (by rw [puts_wanted hd hw]; decide)]
        exact hnext _ _ hS h

/-- one operation that is ready, run -/
theorem step_one (hs : Region.noSelect L.toArray = true) (hdst : ∀ o ∈ L, ∀ d, o.dst = some d → d < a0.tmps.size) (i : Nat) (K : List (Nat × Value) → World → Prop) (listed : Array Bool) (env : List (Nat × Value)) (w : World) (fuel : Nat)
    (hK : ∀ env w, (∀ d ∈ env.map (·.1), d < a0.tmps.size) → S w → K env w → wpAnyH P .any L.toArray Q S fuel (listed.setIfInBounds i true) (puts a0 env) w) (hd : ∀ d ∈ env.map (·.1), d < a0.tmps.size) (hS : S w)
    (h : SeqE P L S a0 K [(i, true)] env w) :
    wpOp P L.toArray Q i (fun a' w' => S w' ∧ wpAnyH P .any L.toArray Q S fuel (listed.setIfInBounds i true) a' w') (puts a0 env) w := by
  obtain ⟨o, ho, h⟩ := h
  rw [nthO_eq] at ho
  have ho' : L.toArray[i]? = some o := by simpa using ho
  have hod : ∀ d, o.dst = some d → d < a0.tmps.size := hdst o (List.mem_of_getElem? ho)
  have hselo : ∀ cs b, o.op ≠ .select cs b := Region.noSelect_spec hs i o |> fun k cs b => k cs b ho'
  have hexec : execOp (puts a0 env).eval o = execOp (ev a0 env) o := execOp_congr o hselo fun x _ => puts_eval env hd x
  have hnext : ∀ v w', S w' → K (ext o v env) w' → S w' ∧ wpAnyH P .any L.toArray Q S fuel (listed.setIfInBounds i true) ((puts a0 env).put o.dst v) w' := by
    intro v w' hS' h'
    rw [puts_ext]
    exact ⟨hS', hK _ w' (ext_lt hod hd) hS' h'⟩
  unfold wpOp
  simp only [ho']
  rcases h with ⟨hw, h⟩ | ⟨hw, h⟩
  · rw [if_pos (puts_wanted hd hw)]
    refine .inl ?_
    unfold Oper.wp
    rw [hexec]
    generalize (execOp (ev a0 env) o).run P w = r at *
    cases r with
    | ok n w' =>
      cases n <;> simp only [Eff] at h <;> simp only [Oper.upon]
      case value u => exact hnext _ _ h.1 h.2
      case skip => exact hnext _ _ h.1 h.2
      case enter f args =>
        refine Calls.mono h ?_
        rintro e w'' ⟨v, rfl, h1, h2⟩
        exact hnext _ _ h1 h2
      all_goals exact h.elim
    | halt x w' => exact h.elim
  · rw [if_neg (by rw [puts_wanted hd hw]; decide)]
    exact hnext _ _ hS h

theorem seqT_sound (hs : Region.noSelect L.toArray = true) (hdst : ∀ o ∈ L, ∀ d, o.dst = some d → d < a0.tmps.size) (hQ : ∀ c a d v w, Q (.panic c) (Act.put a d v) w → Q (.panic c) a w) :
    ∀ (t : OT) (listed : Array Bool) (env : List (Nat × Value)) (w : World) (fuel : Nat), t.depth ≤ fuel → t.ok L.toArray listed = true → (∀ d ∈ env.map (·.1), d < a0.tmps.size) → S w →
      SeqT P L S a0 (fun F w' => S w' → Q .normal (puts a0 F) w') t env w → wpAnyH P .any L.toArray Q S fuel listed (puts a0 env) w
  | .leaf ord, listed, env, w, fuel, hf, hb, hd, hS, h => seqE_sound hs hdst hQ ord listed env w fuel hf hb hd hS h
  | .fork ps i t j u, listed, env, w, fuel, hf, hb, hd, hS, h => by
    unfold OT.ok at hb
    cases hp : preB L.toArray ps listed with
    | none => rw [hp] at hb; cases hb
    | some l =>
      rw [hp] at hb
      simp only [Bool.and_eq_true, beq_iff_eq] at hb
      obtain ⟨⟨hready, hb1⟩, hb2⟩ := hb
      unfold OT.depth at hf
      have hm1 := Nat.le_max_left t.depth u.depth
      have hm2 := Nat.le_max_right t.depth u.depth
      have hmx : Nat.max t.depth u.depth = max t.depth u.depth := rfl
      rw [hmx] at hf
      obtain ⟨m, rfl⟩ : ∃ m, fuel = ps.length + (m + 1) := ⟨fuel - ps.length - 1, by omega⟩
      refine seqE_prefix hs hdst hQ _ l (m + 1) (fun env w hd hS h => ?_) ps listed env w hp hd hS h
      obtain ⟨h1, h2⟩ := h
      refine wpAnyH_all (rs := [i, j]) hready (by simp) ?_
      intro k hk
      rcases List.mem_cons.1 hk with rfl | hk
      · exact step_one hs hdst k _ l env w m (fun env w hd hS h => seqT_sound hs hdst hQ t _ env w m (by omega) hb1 hd hS h) hd hS h1
      · obtain rfl : k = j := by simpa using hk
        exact step_one hs hdst k _ l env w m (fun env w hd hS h => seqT_sound hs hdst hQ u _ env w m (by omega) hb2 hd hS h) hd hS h2
theorem SeqT.mono {K K' : List (Nat × Value) → World → Prop} (hK : ∀ F w, K F w → K' F w) : ∀ {t : OT} {env : List (Nat × Value)} {w : World}, SeqT P L S a0 K t env w → SeqT P L S a0 K' t env w
  | .leaf ord, env, w, h => SeqE.mono hK h
  | .fork ps i t j u, env, w, h => SeqE.mono (fun F w h => ⟨SeqE.mono (fun F w h => SeqT.mono hK h) h.1, SeqE.mono (fun F w h => SeqT.mono hK h) h.2⟩) h
/-- THE LAW: every run of the tree ends in J. -/
theorem wp_tree (J : Act → List (Nat × Value) → World → Prop) (t : OT) (hc : (Region.noSelect L.toArray && dstOk L a0.tmps.size && t.ok L.toArray (Array.replicate L.length false) && Nat.ble t.depth L.length) = true) (hm : P.follows .mixedOrders = true) {id : Nat} {w : World} (hS : S w.drew)
    (hQ : ∀ c a d v w, Q (.panic c) (Act.put a d v) w → Q (.panic c) a w)
    (hJ : ∀ F w', J a0 F w' → Q .normal (puts a0 F) w')
    (h : SeqT P L S a0 (J a0) t [] w.drew) : (Code.region id L.toArray true).wp P Q a0 w := by
  simp only [Bool.and_eq_true] at hc
  obtain ⟨⟨⟨h1, h2⟩, h3⟩, h4⟩ := hc
  refine wp_region_held (S := S) hm ?_
  refine seqT_sound h1 ?_ hQ t _ [] _ _ ?_ ?_ (by simp) hS (h.mono (fun F w h (_ : S w) => hJ F w h))
  · intro o ho d hd
    have := List.all_eq_true.1 h2 o ho
    rw [hd] at this
    simpa [Nat.blt_eq] using this
  · simpa using Nat.le_of_ble_eq_true h4
  · simpa using h3
end
section
variable {P : Program} {L : List Oper} {S : World → Prop} {a0 : Act} {K : List (Nat × Value) → World → Prop} {env : List (Nat × Value)} {rest : List (Nat × Bool)} {i : Nat} {w : World} {d : Nat} {T : TypeId} {pos : String} {after : Array Edge} {g : Option (Nat × Bool)}
theorem parts_eq {ps : List (Nat × Operand)} {vs : List (Nat × Value)} (hx : ps.map (fun x => (x.1, rdo a0 env x.2)) = vs.map (fun x => (x.1, some x.2))) : (ps.toArray.map fun (i, x) => (i, ev a0 env x)) = vs.toArray := by
  rw [List.map_toArray]
  congr 1
  induction ps generalizing vs with
  | nil => cases vs with
    | nil => rfl
    | cons v vs => simp at hx
  | cons p ps ih => cases vs with
    | nil => simp at hx
    | cons q vs =>
      simp only [List.map_cons, List.cons.injEq, Prod.mk.injEq] at hx
      obtain ⟨⟨h1, h2⟩, h3⟩ := hx
      obtain ⟨p1, p2⟩ := p
      obtain ⟨q1, q2⟩ := q
      simp only at h1 h2
      subst h1
      rw [List.map_cons, ih h3]
      simp only [ev_of h2]
/-- a struct's value -/
theorem se_build {t : TypeId} {ps : List (Nat × Operand)} {vs : List (Nat × Value)} {v : Value} (ho : want.nthO L i = some ⟨some d, .build t ps.toArray, T, pos, after, g⟩) (hg : want L a0 env g = some true) (hx : ps.map (fun x => (x.1, rdo a0 env x.2)) = vs.map (fun x => (x.1, some x.2)))
    (hr : ∀ w, S w → Sem.run P (Instr.build t vs.toArray) w = .ok v w) (h : SeqE P L S a0 K rest ((d, v) :: env) w) : SeqE P L S a0 K ((i, false) :: rest) env w := by
  refine se_gen ho hg (fun w hw => ?_) h
  simp only [execOp]
  rw [parts_eq hx]
  simp only [Sem.run_bind]
  rw [hr w hw]
  rfl
/-- a variable in memory -/
theorem se_alloc {e : TypeId} {v : Value} {w' : World} (ho : want.nthO L i = some ⟨some d, .alloc e, T, pos, after, g⟩) (hg : want L a0 env g = some true) (hr : Sem.run P (Instr.alloc e true (.tuple #[])) w = .ok v w') (hS : S w') (h : SeqE P L S a0 K rest ((d, v) :: env) w') :
    SeqE P L S a0 K ((i, true) :: rest) env w := by
  refine se_eff ho hg ?_
  have h1 : (execOp (ev a0 env) ⟨some d, .alloc e, T, pos, after, g⟩).run P w = .ok (.value v) w' := by
    simp only [execOp, Sem.run_bind]
    rw [hr]
    rfl
  rw [h1]
  exact ⟨hS, h⟩
/-- a load, where it is not known of every world what lies there -/
theorem se_loadE {t : TypeId} {x : Operand} {vx v : Value} (ho : want.nthO L i = some ⟨some d, .load t x, T, pos, after, g⟩) (hg : want L a0 env g = some true) (hx : rdo a0 env x = some vx)
    (hr : Sem.run P (Instr.loadAt t vx) w = .ok v w) (hS : S w) (h : SeqE P L S a0 K rest ((d, v) :: env) w) : SeqE P L S a0 K ((i, true) :: rest) env w := by
  refine se_eff ho hg ?_
  have h1 : (execOp (ev a0 env) ⟨some d, .load t x, T, pos, after, g⟩).run P w = .ok (.value v) w := by
    simp only [execOp, ev_of hx, Sem.run_bind]
    rw [hr]
    rfl
  rw [h1]
  exact ⟨hS, h⟩
/-- a store -/
theorem se_store {t : TypeId} {x y : Operand} {vx vy : Value} {w' : World} (ho : want.nthO L i = some ⟨none, .store t x y, T, pos, after, g⟩) (hg : want L a0 env g = some true) (hx : rdo a0 env x = some vx) (hy : rdo a0 env y = some vy)
    (hr : Sem.run P (Instr.storeAt t vx vy) w = .ok () w') (hS : S w') (h : SeqE P L S a0 K rest env w') : SeqE P L S a0 K ((i, true) :: rest) env w := by
  refine ⟨_, ho, .inl ⟨hg, ?_⟩⟩
  have h1 : (execOp (ev a0 env) ⟨none, .store t x y, T, pos, after, g⟩).run P w = .ok .skip w' := by
    simp only [execOp, ev_of hx, ev_of hy, Sem.run_bind]
    rw [hr]
    rfl
  rw [h1]
  exact ⟨hS, h⟩
end
end Go.Proofs.Ytginlhengebgaaa.RegionVal
namespace Go.Proofs.Ytginlhengebgaaa.RegionVal
open Go Go.RowKit
set_option linter.unusedVariables false

def cleanB (ds : List Nat) (l : Array Bool) : Bool := ds.all fun d => !(l.getD d false)
def St (ds : List Nat) (T U : World → Prop) (l : Array Bool) (w : World) : Prop := U w ∧ (cleanB ds l = true → T w)
def wpAnyD (P : Program) (md : Region.Mode) (ops : Array Oper) (Q : Exit → Act → World → Prop) (ds : List Nat) (T U : World → Prop) : Nat → Array Bool → Act → World → Prop
  | 0, listed, a, w => Region.ready md ops listed = [] ∧ Q .normal a w
  | fuel + 1, listed, a, w =>
    (Region.ready md ops listed = [] → Q .normal a w) ∧
    ∀ i ∈ Region.ready md ops listed, wpOp P ops Q i (fun a' w' => St ds T U (listed.setIfInBounds i true) w' ∧ wpAnyD P md ops Q ds T U fuel (listed.setIfInBounds i true) a' w') a w
theorem wpAny_of_D {P : Program} {md : Region.Mode} {ops : Array Oper} {Q : Exit → Act → World → Prop} {ds : List Nat} {T U : World → Prop} : ∀ (fuel : Nat) (listed : Array Bool) (a : Act) (w : World), wpAnyD P md ops Q ds T U fuel listed a w → wpAny P md ops Q fuel listed a w
  | 0, _, _, _, h => h
  | fuel + 1, _, _, _, h => ⟨h.1, fun i hi => wpOp_mono (fun a' w' h' => wpAny_of_D fuel _ a' w' h'.2) (h.2 i hi)⟩
theorem clean_set {ds : List Nat} {l : Array Bool} {i : Nat} (hi : i ∉ ds) : cleanB ds (l.setIfInBounds i true) = cleanB ds l := by
  unfold cleanB
  rw [Bool.eq_iff_iff, List.all_eq_true, List.all_eq_true]
  constructor <;> intro h d hd <;> have := h d hd
  · have hne : i ≠ d := fun e => hi (by rw [e]; exact hd)
    rwa [getD_set_ne false hne] at this
  · have hne : i ≠ d := fun e => hi (by rw [e]; exact hd)
    rwa [getD_set_ne false hne]

section
variable {P : Program} {ops : Array Oper} {Q : Exit → Act → World → Prop} {md : Region.Mode} {ds : List Nat} {T U V : World → Prop}
theorem wpAnyD_first {i : Nat} {oi : Oper} {v : Value} (hi : ops[i]? = some oi) (hsel : ∀ (j : Nat) (o : Oper) cs b, ops[j]? = some o → o.op ≠ .select cs b)
    (hQ : ∀ c a w, Q (.panic c) (a.put oi.dst v) w → Q (.panic c) a w) (hid : i ∉ ds) (C : Array Bool → Prop) (hCV : ∀ l w, C l → St ds T U l w → V w)
    (hCs : ∀ l j oj, C l → ops[j]? = some oj → (∀ e ∈ oj.after, Region.binds md e = true → l.getD e.on false = true) → (∀ e ∈ oj.after, Region.binds md e = true → e.on ≠ i) → C (l.setIfInBounds j true)) :
    ∀ (fuel : Nat) (listed : Array Bool) (a : Act) (w : World),
      (∀ j oj, ops[j]? = some oj → j ≠ i → listed.getD j true = false → (∀ e ∈ oj.after, Region.binds md e = true → e.on ≠ i) → oi.apart ops oj = true) →
      i ∈ Region.ready md ops listed → C listed → YieldsIf P ops V oi v a → St ds T U listed w →
      wpAnyD P md ops Q ds T U fuel (listed.setIfInBounds i true) (a.put oi.dst v) w → wpAnyD P md ops Q ds T U (fuel + 1) listed a w := by
  intro fuel
  induction fuel with
  | zero =>
    intro listed a w _ hr hC hy hS H
    refine ⟨fun h => (by rw [h] at hr; cases hr), fun j hj => ?_⟩
    by_cases hji : j = i
    · subst hji; exact hy.wpOp hi (hCV _ _ hC hS) ⟨⟨hS.1, fun h => hS.2 (by rwa [clean_set hid] at h)⟩, H⟩
    · have := ready_mono hj hji
      rw [H.1] at this
      cases this
  | succ fuel ih =>
    intro listed a w hfree hr hC hy hS H
    refine ⟨fun h => (by rw [h] at hr; cases hr), fun j hj => ?_⟩
    by_cases hji : j = i
    · subst hji; exact hy.wpOp hi (hCV _ _ hC hS) ⟨⟨hS.1, fun h => hS.2 (by rwa [clean_set hid] at h)⟩, H⟩
    · have h1 := H.2 j (ready_mono hj hji)
      obtain ⟨hjun, oj, hoj, hall⟩ := mem_ready.1 hj
      have hnot : ∀ e ∈ oj.after, Region.binds md e = true → e.on ≠ i := fun e he hb heq => by
        have h1 := hall e he hb
        have h0 := (mem_ready.1 hr).1
        rw [heq] at h1
        rcases Nat.lt_or_ge i listed.size with h' | h'
        · simp [h'] at h0 h1; rw [h0] at h1; cases h1
        · simp [Array.getElem?_eq_none h'] at h1
      have h2 := wpOp_putIf hoj (hfree j oj hoj hji hjun hnot) (fun cs b => hsel i oi cs b hi) (fun cs b => hsel j oj cs b hoj) hQ hy h1
      have hfree' : ∀ k ok, ops[k]? = some ok → k ≠ i → (listed.setIfInBounds j true).getD k true = false →
          (∀ e ∈ ok.after, Region.binds md e = true → e.on ≠ i) → oi.apart ops ok = true := fun k ok hk hki hun hno => by
        refine hfree k ok hk hki ?_ hno
        by_cases hjk : j = k
        · subst hjk; exact hjun
        · rw [getD_set_ne true hjk] at hun; exact hun
      refine wpOp_mono (fun a' w' h3 => ?_) h2
      have hSt : St ds T U (listed.setIfInBounds j true) w' := ⟨h3.2.1.1, fun h => h3.2.1.2 (by rwa [Array.setIfInBounds_comm _ _ (Ne.symm hji), clean_set hid])⟩
      refine ⟨hSt, ih (listed.setIfInBounds j true) a' w' hfree' (ready_mono hr (Ne.symm hji)) (hCs _ j oj hC hoj hall hnot) h3.1 hSt ?_⟩
      rw [Array.setIfInBounds_comm _ _ hji]
      exact h3.2.2
end

def stepL (ops : Array Oper) (i : Nat) (D : List Nat) : List Nat := (List.range ops.size).filter fun j => match ops[j]? with
  | some o => o.after.any fun e => Region.binds .any e && (e.on == i || D.contains e.on)
  | none => false
/-- all that wait for i -/
def depL (ops : Array Oper) (i : Nat) : List Nat := stepL ops i (stepL ops i (stepL ops i (stepL ops i (stepL ops i (stepL ops i [])))))
def closedB (ops : Array Oper) (i : Nat) (D : List Nat) : Bool := D.all fun j => match ops[j]? with
  | some o => o.after.any fun e => Region.binds .any e && (e.on == i || D.contains e.on)
  | none => true
/-- the dirty ones wait for i -/
def depB (ops : Array Oper) (ds : List Nat) (i : Nat) (listed : Array Bool) : Bool := ds.all (fun d => (depL ops i).contains d) && cleanB (depL ops i) listed && closedB ops i (depL ops i)
def isMove (ops : Array Oper) (i : Nat) : Bool := match ops[i]? with
  | some o => (match o.op with | .move _ => true | _ => false)
  | none => false
/-- ahead of the dirty ones -/
def preT (ops : Array Oper) (ds : List Nat) : List (Nat × Bool) → Array Bool → Option (Array Bool)
  | [], listed => some listed
  | (i, false) :: rest, listed => if Region.free .any ops listed i && (Region.ready .any ops listed).contains i && !ds.contains i && cleanB ds listed && (depB ops ds i listed || isMove ops i) then preT ops ds rest (listed.setIfInBounds i true) else none
  | (i, true) :: rest, listed => if Region.ready .any ops listed == [i] && !ds.contains i && cleanB ds listed then preT ops ds rest (listed.setIfInBounds i true) else none
/-- behind the first of them -/
def postB (ops : Array Oper) (ds : List Nat) : List (Nat × Bool) → Array Bool → Bool
  | [], listed => (Region.ready .any ops listed).isEmpty
  | (i, false) :: rest, listed => Region.free .any ops listed i && (Region.ready .any ops listed).contains i && !ds.contains i && !cleanB ds listed && postB ops ds rest (listed.setIfInBounds i true)
  | (i, true) :: rest, listed => Region.ready .any ops listed == [i] && !cleanB ds (listed.setIfInBounds i true) && postB ops ds rest (listed.setIfInBounds i true)
inductive DT where
  | leaf (pre post : List (Nat × Bool))
  | fork (ps : List (Nat × Bool)) (i : Nat) (t : DT) (j : Nat) (u : DT)
def DT.ok (ops : Array Oper) (ds : List Nat) : DT → Array Bool → Bool
  | .leaf pre post, listed => match preT ops ds pre listed with
    | some l => postB ops ds post l
    | none => false
  | .fork ps i t j u, listed => match preT ops ds ps listed with
    | some l => Region.ready .any ops l == [i, j] && !ds.contains i && !ds.contains j && t.ok ops ds (l.setIfInBounds i true) && u.ok ops ds (l.setIfInBounds j true)
    | none => false
def DT.depth : DT → Nat
  | .leaf pre post => pre.length + post.length
  | .fork ps i t j u => ps.length + 1 + Nat.max t.depth u.depth
def SeqX (P : Program) (L : List Oper) (T U : World → Prop) (a0 : Act) (K : List (Nat × Value) → World → Prop) : DT → List (Nat × Value) → World → Prop
  | .leaf pre post, env, w => SeqE P L T a0 (fun env w => SeqE P L U a0 K post env w) pre env w
  | .fork ps i t j u, env, w => SeqE P L T a0 (fun env w => SeqE P L T a0 (fun env w => SeqX P L T U a0 K t env w) [(i, true)] env w ∧ SeqE P L T a0 (fun env w => SeqX P L T U a0 K u env w) [(j, true)] env w) ps env w

section
variable {P : Program} {L : List Oper} {ds : List Nat} {T U : World → Prop} {a0 : Act} {Q : Exit → Act → World → Prop}
/-- one operation run, whatever is asked behind it -/
theorem one_op (hs : Region.noSelect L.toArray = true) (hdst : ∀ o ∈ L, ∀ d, o.dst = some d → d < a0.tmps.size) (S : World → Prop) (i : Nat) (K : List (Nat × Value) → World → Prop) (R : Act → World → Prop) (env : List (Nat × Value)) (w : World)
    (hK : ∀ env w, (∀ d ∈ env.map (·.1), d < a0.tmps.size) → S w → K env w → R (puts a0 env) w) (hd : ∀ d ∈ env.map (·.1), d < a0.tmps.size) (hS : S w) (rest : List (Nat × Bool))
    (h : SeqE P L S a0 K [(i, true)] env w) : wpOp P L.toArray Q i R (puts a0 env) w := by
  obtain ⟨o, ho, h⟩ := h
  rw [nthO_eq] at ho
  have ho' : L.toArray[i]? = some o := by simpa using ho
  have hod : ∀ d, o.dst = some d → d < a0.tmps.size := hdst o (List.mem_of_getElem? ho)
  have hselo : ∀ cs b, o.op ≠ .select cs b := Region.noSelect_spec hs i o |> fun k cs b => k cs b ho'
  have hexec : execOp (puts a0 env).eval o = execOp (ev a0 env) o := execOp_congr o hselo fun x _ => puts_eval env hd x
  have hnext : ∀ v w', S w' → K (ext o v env) w' → R ((puts a0 env).put o.dst v) w' := by
    intro v w' hS' h'
    rw [puts_ext]
    exact hK _ w' (ext_lt hod hd) hS' h'
  unfold wpOp
  simp only [ho']
  rcases h with ⟨hw, h⟩ | ⟨hw, h⟩
  · rw [if_pos (puts_wanted hd hw)]
    refine .inl ?_
    unfold Oper.wp
    rw [hexec]
    generalize (execOp (ev a0 env) o).run P w = r at *
    cases r with
    | ok n w' =>
      cases n <;> simp only [Eff] at h <;> simp only [Oper.upon]
      case value u => exact hnext _ _ h.1 h.2
      case skip => exact hnext _ _ h.1 h.2
      case enter f args =>
        refine Calls.mono h ?_
        rintro e w'' ⟨v, rfl, h1, h2⟩
        exact hnext _ _ h1 h2
      all_goals exact h.elim
    | halt x w' => exact h.elim
  · rw [if_neg (by rw [puts_wanted hd hw]; decide)]
    exact hnext _ _ hS h
/-- the head of a run, as one operation -/
theorem head_of {S : World → Prop} {K : List (Nat × Value) → World → Prop} {i : Nat} {rest : List (Nat × Bool)} {env : List (Nat × Value)} {w : World} (h : SeqE P L S a0 K ((i, true) :: rest) env w) : SeqE P L S a0 (fun env w => SeqE P L S a0 K rest env w) [(i, true)] env w := h

theorem pre_sound (hTU : ∀ w, T w → U w) (hs : Region.noSelect L.toArray = true) (hdst : ∀ o ∈ L, ∀ d, o.dst = some d → d < a0.tmps.size) (hQ : ∀ c a d v w, Q (.panic c) (Act.put a d v) w → Q (.panic c) a w)
    (K : List (Nat × Value) → World → Prop) (l' : Array Bool) (m : Nat) (hK : ∀ env w, (∀ d ∈ env.map (·.1), d < a0.tmps.size) → T w → K env w → wpAnyD P .any L.toArray Q ds T U m l' (puts a0 env) w) :
    ∀ (ord : List (Nat × Bool)) (listed : Array Bool) (env : List (Nat × Value)) (w : World), preT L.toArray ds ord listed = some l' → (∀ d ∈ env.map (·.1), d < a0.tmps.size) → T w →
      SeqE P L T a0 K ord env w → wpAnyD P .any L.toArray Q ds T U (ord.length + m) listed (puts a0 env) w := by
  intro ord
  induction ord with
  | nil =>
    intro listed env w hb hd hS h
    simp only [preT, Option.some.injEq] at hb
    subst hb
    rw [List.length_nil, Nat.zero_add]
    exact hK env w hd hS h
  | cons x rest ih =>
    obtain ⟨i, eff⟩ := x
    intro listed env w hb hd hS h
    rw [show ((i, eff) :: rest).length + m = (rest.length + m) + 1 by simp; omega]
    cases eff with
    | false =>
      obtain ⟨o, ho, h⟩ := h
      rw [nthO_eq] at ho
      have ho' : L.toArray[i]? = some o := by simpa using ho
      have hod : ∀ d, o.dst = some d → d < a0.tmps.size := hdst o (List.mem_of_getElem? ho)
      have hselo : ∀ cs b, o.op ≠ .select cs b := Region.noSelect_spec hs i o |> fun k cs b => k cs b ho'
      have hexec : execOp (puts a0 env).eval o = execOp (ev a0 env) o := execOp_congr o hselo fun x _ => puts_eval env hd x
      simp only [preT] at hb
      split at hb
      case isFalse => cases hb
      rename_i hc
      simp only [Bool.and_eq_true, Bool.not_eq_true'] at hc
      obtain ⟨⟨⟨⟨hfree, hready⟩, hni⟩, hcl⟩, hdep⟩ := hc
      have hid : i ∉ ds := fun h => by
        have h2 : ds.contains i = true := by simpa using h
        rw [hni] at h2; cases h2
      obtain ⟨v, hy, h⟩ := h
      rw [Bool.or_eq_true] at hdep
      rcases hdep with hdep | hmv
      · unfold depB at hdep
        simp only [Bool.and_eq_true] at hdep
        obtain ⟨⟨hsub, hclD⟩, hclosed⟩ := hdep
        generalize depL L.toArray i = D at hsub hclD hclosed
        refine wpAnyD_first ho' (Region.noSelect_spec hs) (fun c a w => hQ c a o.dst v w) hid (V := T) (fun l => cleanB D l = true) (fun l w hc hst => hst.2 ?_) ?_ _ listed _ w (Region.free_spec ho' hfree) (by simpa using hready) hclD ?_ ⟨hTU w hS, fun _ => hS⟩ ?_
        · unfold cleanB at hc ⊢
          rw [List.all_eq_true] at hc ⊢
          intro d hd
          have h2 := List.all_eq_true.1 hsub d hd
          exact hc d (by simpa using h2)
        · intro l j oj hc hj hall hno
          rwa [clean_set (fun hjd => by
            have h1 := List.all_eq_true.1 hclosed j hjd
            rw [hj] at h1
            simp only [Array.any_eq_true', Bool.and_eq_true, Bool.or_eq_true, beq_iff_eq] at h1
            obtain ⟨e, he, hb, hon⟩ := h1
            rcases hon with hon | hon
            · exact hno e he hb hon
            · have h3 := hall e he hb
              have h4 := List.all_eq_true.1 hc e.on (by simpa using hon)
              rw [h3] at h4
              cases h4)]
        · rcases hy with ⟨hw, hr⟩ | ⟨hw, rfl⟩
          · exact .inl ⟨puts_wanted hd hw, fun w hw => by rw [hexec]; exact hr w hw⟩
          · exact .inr ⟨puts_wanted hd hw, rfl⟩
        · rw [puts_ext]
          exact ih _ _ w hb (ext_lt hod hd) hS h
      · have hmo : ∃ x, o.op = .move x := by
          unfold isMove at hmv
          rw [ho'] at hmv
          simp only at hmv
          split at hmv
          · rename_i x hx; exact ⟨x, hx⟩
          · cases hmv
        obtain ⟨x, hx⟩ := hmo
        have hrun : ∀ w', (execOp (ev a0 env) o).run P w' = .ok (.value (ev a0 env x)) w' := fun w' => by
          simp only [execOp, hx, Sem.run_pure]
        refine wpAnyD_first ho' (Region.noSelect_spec hs) (fun c a w => hQ c a o.dst v w) hid (V := fun _ => True) (fun _ => True) (fun _ _ _ _ => trivial) (fun _ _ _ _ _ _ _ => trivial) _ listed _ w (Region.free_spec ho' hfree) (by simpa using hready) trivial ?_ ⟨hTU w hS, fun _ => hS⟩ ?_
        · rcases hy with ⟨hw, hr⟩ | ⟨hw, rfl⟩
          · have hv : v = ev a0 env x := by
              have h1 := hr w hS
              rw [hrun w] at h1
              injection h1 with h1
              injection h1 with h1
              exact h1.symm
            exact .inl ⟨puts_wanted hd hw, fun w' _ => by rw [hexec, hrun w', hv]⟩
          · exact .inr ⟨puts_wanted hd hw, rfl⟩
        · rw [puts_ext]
          exact ih _ _ w hb (ext_lt hod hd) hS h
    | true =>
      simp only [preT] at hb
      split at hb
      case isFalse => cases hb
      rename_i hc
      simp only [Bool.and_eq_true, Bool.not_eq_true', beq_iff_eq] at hc
      obtain ⟨⟨hready, hni⟩, hcl⟩ := hc
      refine ⟨fun h0 => (by rw [hready] at h0; cases h0), fun j hj => ?_⟩
      rw [hready] at hj
      obtain rfl : j = i := by simpa using hj
      exact one_op hs hdst T j _ _ env w (fun env w hd hS h => ⟨⟨hTU w hS, fun _ => hS⟩, ih _ env w hb hd hS h⟩) hd hS [] (head_of h)

theorem post_sound (hs : Region.noSelect L.toArray = true) (hdst : ∀ o ∈ L, ∀ d, o.dst = some d → d < a0.tmps.size) (hQ : ∀ c a d v w, Q (.panic c) (Act.put a d v) w → Q (.panic c) a w) :
    ∀ (ord : List (Nat × Bool)) (listed : Array Bool) (env : List (Nat × Value)) (w : World) (fuel : Nat), ord.length ≤ fuel → postB L.toArray ds ord listed = true → (∀ d ∈ env.map (·.1), d < a0.tmps.size) → U w →
      SeqE P L U a0 (fun F w' => Q .normal (puts a0 F) w') ord env w → wpAnyD P .any L.toArray Q ds T U fuel listed (puts a0 env) w := by
  intro ord
  induction ord with
  | nil =>
    intro listed env w fuel _ hb hd hS h
    simp only [postB, List.isEmpty_iff] at hb
    cases fuel with
    | zero => exact ⟨hb, h⟩
    | succ n => exact ⟨fun _ => h, by rw [hb]; simp⟩
  | cons x rest ih =>
    obtain ⟨i, eff⟩ := x
    intro listed env w fuel hf hb hd hS h
    obtain ⟨fuel, rfl⟩ : ∃ f, fuel = f + 1 := ⟨fuel - 1, by simp at hf; omega⟩
    simp only [List.length_cons] at hf
    cases eff with
    | false =>
      obtain ⟨o, ho, h⟩ := h
      rw [nthO_eq] at ho
      have ho' : L.toArray[i]? = some o := by simpa using ho
      have hod : ∀ d, o.dst = some d → d < a0.tmps.size := hdst o (List.mem_of_getElem? ho)
      have hselo : ∀ cs b, o.op ≠ .select cs b := Region.noSelect_spec hs i o |> fun k cs b => k cs b ho'
      have hexec : execOp (puts a0 env).eval o = execOp (ev a0 env) o := execOp_congr o hselo fun x _ => puts_eval env hd x
      simp only [postB, Bool.and_eq_true, Bool.not_eq_true'] at hb
      obtain ⟨⟨⟨⟨hfree, hready⟩, hni⟩, hcl⟩, hb⟩ := hb
      have hid : i ∉ ds := fun h => by
        have h2 : ds.contains i = true := by simpa using h
        rw [hni] at h2; cases h2
      obtain ⟨v, hy, h⟩ := h
      refine wpAnyD_first ho' (Region.noSelect_spec hs) (fun c a w => hQ c a o.dst v w) hid (V := U) (fun l => True) (fun l w _ hst => hst.1) (fun _ _ _ _ _ _ _ => trivial) _ listed _ w (Region.free_spec ho' hfree) (by simpa using hready) trivial ?_ ⟨hS, fun h => by rw [hcl] at h; cases h⟩ ?_
      · rcases hy with ⟨hw, hr⟩ | ⟨hw, rfl⟩
        · exact .inl ⟨puts_wanted hd hw, fun w hw => by rw [hexec]; exact hr w hw⟩
        · exact .inr ⟨puts_wanted hd hw, rfl⟩
      · rw [puts_ext]
        exact ih _ _ w fuel (by omega) hb (ext_lt hod hd) hS h
    | true =>
      simp only [postB, Bool.and_eq_true, Bool.not_eq_true', beq_iff_eq] at hb
      obtain ⟨⟨hready, hcl⟩, hb⟩ := hb
      refine ⟨fun h0 => (by rw [hready] at h0; cases h0), fun j hj => ?_⟩
      rw [hready] at hj
      obtain rfl : j = i := by simpa using hj
      exact one_op hs hdst U j _ _ env w (fun env w hd hS h => ⟨⟨hS, fun h => by rw [hcl] at h; cases h⟩, ih _ env w fuel (by omega) hb hd hS h⟩) hd hS [] (head_of h)

theorem seqX_sound (hTU : ∀ w, T w → U w) (hs : Region.noSelect L.toArray = true) (hdst : ∀ o ∈ L, ∀ d, o.dst = some d → d < a0.tmps.size) (hQ : ∀ c a d v w, Q (.panic c) (Act.put a d v) w → Q (.panic c) a w) :
    ∀ (t : DT) (listed : Array Bool) (env : List (Nat × Value)) (w : World) (fuel : Nat), t.depth ≤ fuel → t.ok L.toArray ds listed = true → (∀ d ∈ env.map (·.1), d < a0.tmps.size) → T w →
      SeqX P L T U a0 (fun F w' => Q .normal (puts a0 F) w') t env w → wpAnyD P .any L.toArray Q ds T U fuel listed (puts a0 env) w
  | .leaf pre post, listed, env, w, fuel, hf, hb, hd, hS, h => by
    unfold DT.ok at hb
    cases hp : preT L.toArray ds pre listed with
    | none => rw [hp] at hb; cases hb
    | some l =>
      rw [hp] at hb
      unfold DT.depth at hf
      obtain ⟨m, rfl⟩ : ∃ m, fuel = pre.length + m := ⟨fuel - pre.length, by omega⟩
      exact pre_sound hTU hs hdst hQ _ l m (fun env w hd hS h => post_sound hs hdst hQ post l env w m (by omega) hb hd (hTU w hS) h) pre listed env w hp hd hS h
  | .fork ps i t j u, listed, env, w, fuel, hf, hb, hd, hS, h => by
    unfold DT.ok at hb
    cases hp : preT L.toArray ds ps listed with
    | none => rw [hp] at hb; cases hb
    | some l =>
      rw [hp] at hb
      simp only [Bool.and_eq_true, beq_iff_eq] at hb
      obtain ⟨⟨⟨⟨hready, _⟩, _⟩, hb1⟩, hb2⟩ := hb
      unfold DT.depth at hf
      have hm1 := Nat.le_max_left t.depth u.depth
      have hm2 := Nat.le_max_right t.depth u.depth
      have hmx : Nat.max t.depth u.depth = max t.depth u.depth := rfl
      rw [hmx] at hf
      obtain ⟨m, rfl⟩ : ∃ m, fuel = ps.length + (m + 1) := ⟨fuel - ps.length - 1, by omega⟩
      refine pre_sound hTU hs hdst hQ _ l (m + 1) (fun env w hd hS h => ?_) ps listed env w hp hd hS h
      obtain ⟨h1, h2⟩ := h
      refine ⟨fun h0 => (by rw [hready] at h0; cases h0), fun k hk => ?_⟩
      rw [hready] at hk
      rcases List.mem_cons.1 hk with rfl | hk
      · exact one_op hs hdst T k _ _ env w (fun env w hd hS h => ⟨⟨hTU w hS, fun _ => hS⟩, seqX_sound hTU hs hdst hQ t _ env w m (by omega) hb1 hd hS h⟩) hd hS [] h1
      · obtain rfl : k = j := by simpa using hk
        exact one_op hs hdst T k _ _ env w (fun env w hd hS h => ⟨⟨hTU w hS, fun _ => hS⟩, seqX_sound hTU hs hdst hQ u _ env w m (by omega) hb2 hd hS h⟩) hd hS [] h2
theorem SeqX.mono {K K' : List (Nat × Value) → World → Prop} (hK : ∀ F w, K F w → K' F w) : ∀ {t : DT} {env : List (Nat × Value)} {w : World}, SeqX P L T U a0 K t env w → SeqX P L T U a0 K' t env w
  | .leaf pre post, env, w, h => SeqE.mono (fun F w h => SeqE.mono hK h) h
  | .fork ps i t j u, env, w, h => SeqE.mono (fun F w h => ⟨SeqE.mono (fun F w h => SeqX.mono hK h) h.1, SeqE.mono (fun F w h => SeqX.mono hK h) h.2⟩) h
/-- THE LAW: ds are the dirty ones; every run of the tree ends in J. -/
theorem wp_dirty (ds : List Nat) (T U : World → Prop) (hTU : ∀ w, T w → U w) (J : Act → List (Nat × Value) → World → Prop) (t : DT) (hc : (Region.noSelect L.toArray && dstOk L a0.tmps.size && t.ok L.toArray ds (Array.replicate L.length false) && Nat.ble t.depth L.length) = true) (hm : P.follows .mixedOrders = true) {id : Nat} {w : World} (hS : T w.drew)
    (hQ : ∀ c a d v w, Q (.panic c) (Act.put a d v) w → Q (.panic c) a w)
    (hJ : ∀ F w', J a0 F w' → Q .normal (puts a0 F) w')
    (h : SeqX P L T U a0 (J a0) t [] w.drew) : (Code.region id L.toArray true).wp P Q a0 w := by
  simp only [Bool.and_eq_true] at hc
  obtain ⟨⟨⟨h1, h2⟩, h3⟩, h4⟩ := hc
  refine wp_region_any hm (wpAny_of_D (ds := ds) (T := T) (U := U) _ _ _ _ ?_)
  refine seqX_sound hTU h1 ?_ hQ t _ [] _ _ ?_ ?_ (by simp) hS (h.mono (fun F w h => hJ F w h))
  · intro o ho d hd
    have := List.all_eq_true.1 h2 o ho
    rw [hd] at this
    simpa [Nat.blt_eq] using this
  · simpa using Nat.le_of_ble_eq_true h4
  · simpa using h3
end
end Go.Proofs.Ytginlhengebgaaa.RegionVal
