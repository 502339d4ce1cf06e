/- A region that draws its order and stores to what it has read: what is read yields its value as long as none of the dirty operations (those that store there) has come; they wait for it. Two conditions: T ahead of the dirty ones, U all along. -/
import Derived.Test.YtmageoieajhhdaaDoorRegionTree
namespace Go.Proofs.YtmageoieajhhdaaDoor.RegionVal
open Go Go.RowKit
set_option linter.unusedVariables false

def cleanB (ds : List Nat) (l : Array Bool) : Bool := ds.all fun d => !(l.getD d false)
def St (ds : List Nat) (T U : World → Prop) (l : Array Bool) (w : World) : Prop := U w ∧ (cleanB ds l = true → T w)
def wpAnyD (P : Program) (md : Region.Mode) (ops : Array Oper) (Q : Exit → Act → World → Prop) (ds : List Nat) (T U : World → Prop) : Nat → Array Bool → Act → World → Prop
  | 0, listed, a, w => Region.ready md ops listed = [] ∧ Q .normal a w
  | fuel + 1, listed, a, w =>
    (Region.ready md ops listed = [] → Q .normal a w) ∧
    ∀ i ∈ Region.ready md ops listed, wpOp P ops Q i (fun a' w' => St ds T U (listed.setIfInBounds i true) w' ∧ wpAnyD P md ops Q ds T U fuel (listed.setIfInBounds i true) a' w') a w
theorem wpAny_of_D {P : Program} {md : Region.Mode} {ops : Array Oper} {Q : Exit → Act → World → Prop} {ds : List Nat} {T U : World → Prop} : ∀ (fuel : Nat) (listed : Array Bool) (a : Act) (w : World), wpAnyD P md ops Q ds T U fuel listed a w → wpAny P md ops Q fuel listed a w
  | 0, _, _, _, h => h
  | fuel + 1, _, _, _, h => ⟨h.1, fun i hi => wpOp_mono (fun a' w' h' => wpAny_of_D fuel _ a' w' h'.2) (h.2 i hi)⟩
theorem clean_set {ds : List Nat} {l : Array Bool} {i : Nat} (hi : i ∉ ds) : cleanB ds (l.setIfInBounds i true) = cleanB ds l := by
  unfold cleanB
  rw [Bool.eq_iff_iff, List.all_eq_true, List.all_eq_true]
  constructor <;> intro h d hd <;> have := h d hd
  · have hne : i ≠ d := fun e => hi (by rw [e]; exact hd)
    rwa [getD_set_ne false hne] at this
  · have hne : i ≠ d := fun e => hi (by rw [e]; exact hd)
    rwa [getD_set_ne false hne]

section
variable {P : Program} {ops : Array Oper} {Q : Exit → Act → World → Prop} {md : Region.Mode} {ds : List Nat} {T U V : World → Prop}
theorem wpAnyD_first {i : Nat} {oi : Oper} {v : Value} (hi : ops[i]? = some oi) (hsel : ∀ (j : Nat) (o : Oper) cs b, ops[j]? = some o → o.op ≠ .select cs b)
    (hQ : ∀ c a w, Q (.panic c) (a.put oi.dst v) w → Q (.panic c) a w) (hid : i ∉ ds) (C : Array Bool → Prop) (hCV : ∀ l w, C l → St ds T U l w → V w)
    (hCs : ∀ l j oj, C l → ops[j]? = some oj → (∀ e ∈ oj.after, Region.binds md e = true → l.getD e.on false = true) → (∀ e ∈ oj.after, Region.binds md e = true → e.on ≠ i) → C (l.setIfInBounds j true)) :
    ∀ (fuel : Nat) (listed : Array Bool) (a : Act) (w : World),
      (∀ j oj, ops[j]? = some oj → j ≠ i → listed.getD j true = false → (∀ e ∈ oj.after, Region.binds md e = true → e.on ≠ i) → oi.apart ops oj = true) →
      i ∈ Region.ready md ops listed → C listed → YieldsIf P ops V oi v a → St ds T U listed w →
      wpAnyD P md ops Q ds T U fuel (listed.setIfInBounds i true) (a.put oi.dst v) w → wpAnyD P md ops Q ds T U (fuel + 1) listed a w := by
  intro fuel
  induction fuel with
  | zero =>
    intro listed a w _ hr hC hy hS H
    refine ⟨fun h => (by rw [h] at hr; cases hr), fun j hj => ?_⟩
    by_cases hji : j = i
    · subst hji; exact hy.wpOp hi (hCV _ _ hC hS) ⟨⟨hS.1, fun h => hS.2 (by rwa [clean_set hid] at h)⟩, H⟩
    · have := ready_mono hj hji
      rw [H.1] at this
      cases this
  | succ fuel ih =>
    intro listed a w hfree hr hC hy hS H
    refine ⟨fun h => (by rw [h] at hr; cases hr), fun j hj => ?_⟩
    by_cases hji : j = i
    · subst hji; exact hy.wpOp hi (hCV _ _ hC hS) ⟨⟨hS.1, fun h => hS.2 (by rwa [clean_set hid] at h)⟩, H⟩
    · have h1 := H.2 j (ready_mono hj hji)
      obtain ⟨hjun, oj, hoj, hall⟩ := mem_ready.1 hj
      have hnot : ∀ e ∈ oj.after, Region.binds md e = true → e.on ≠ i := fun e he hb heq => by
        have h1 := hall e he hb
        have h0 := (mem_ready.1 hr).1
        rw [heq] at h1
        rcases Nat.lt_or_ge i listed.size with h' | h'
        · simp [h'] at h0 h1; rw [h0] at h1; cases h1
        · simp [Array.getElem?_eq_none h'] at h1
      have h2 := wpOp_putIf hoj (hfree j oj hoj hji hjun hnot) (fun cs b => hsel i oi cs b hi) (fun cs b => hsel j oj cs b hoj) hQ hy h1
      have hfree' : ∀ k ok, ops[k]? = some ok → k ≠ i → (listed.setIfInBounds j true).getD k true = false →
          (∀ e ∈ ok.after, Region.binds md e = true → e.on ≠ i) → oi.apart ops ok = true := fun k ok hk hki hun hno => by
        refine hfree k ok hk hki ?_ hno
        by_cases hjk : j = k
        · subst hjk; exact hjun
        · rw [getD_set_ne true hjk] at hun; exact hun
      refine wpOp_mono (fun a' w' h3 => ?_) h2
      have hSt : St ds T U (listed.setIfInBounds j true) w' := ⟨h3.2.1.1, fun h => h3.2.1.2 (by rwa [Array.setIfInBounds_comm _ _ (Ne.symm hji), clean_set hid])⟩
      refine ⟨hSt, ih (listed.setIfInBounds j true) a' w' hfree' (ready_mono hr (Ne.symm hji)) (hCs _ j oj hC hoj hall hnot) h3.1 hSt ?_⟩
      rw [Array.setIfInBounds_comm _ _ hji]
      exact h3.2.2
end

def stepL (ops : Array Oper) (i : Nat) (D : List Nat) : List Nat := (List.range ops.size).filter fun j => match ops[j]? with
  | some o => o.after.any fun e => Region.binds .any e && (e.on == i || D.contains e.on)
  | none => false
/-- all that wait for i -/
def depL (ops : Array Oper) (i : Nat) : List Nat := stepL ops i (stepL ops i (stepL ops i (stepL ops i (stepL ops i (stepL ops i [])))))
def closedB (ops : Array Oper) (i : Nat) (D : List Nat) : Bool := D.all fun j => match ops[j]? with
  | some o => o.after.any fun e => Region.binds .any e && (e.on == i || D.contains e.on)
  | none => true
/-- the dirty ones wait for i -/
def depB (ops : Array Oper) (ds : List Nat) (i : Nat) (listed : Array Bool) : Bool := ds.all (fun d => (depL ops i).contains d) && cleanB (depL ops i) listed && closedB ops i (depL ops i)
def isMove (ops : Array Oper) (i : Nat) : Bool := match ops[i]? with
  | some o => (match o.op with | .move _ => true | _ => false)
  | none => false
/-- ahead of the dirty ones -/
def preT (ops : Array Oper) (ds : List Nat) : List (Nat × Bool) → Array Bool → Option (Array Bool)
  | [], listed => some listed
  | (i, false) :: rest, listed => if Region.free .any ops listed i && (Region.ready .any ops listed).contains i && !ds.contains i && cleanB ds listed && (depB ops ds i listed || isMove ops i) then preT ops ds rest (listed.setIfInBounds i true) else none
  | (i, true) :: rest, listed => if Region.ready .any ops listed == [i] && !ds.contains i && cleanB ds listed then preT ops ds rest (listed.setIfInBounds i true) else none
/-- behind the first of them -/
def postB (ops : Array Oper) (ds : List Nat) : List (Nat × Bool) → Array Bool → Bool
  | [], listed => (Region.ready .any ops listed).isEmpty
  | (i, false) :: rest, listed => Region.free .any ops listed i && (Region.ready .any ops listed).contains i && !ds.contains i && !cleanB ds listed && postB ops ds rest (listed.setIfInBounds i true)
  | (i, true) :: rest, listed => Region.ready .any ops listed == [i] && !cleanB ds (listed.setIfInBounds i true) && postB ops ds rest (listed.setIfInBounds i true)
inductive DT where
  | leaf (pre post : List (Nat × Bool))
  | fork (ps : List (Nat × Bool)) (i : Nat) (t : DT) (j : Nat) (u : DT)
def DT.ok (ops : Array Oper) (ds : List Nat) : DT → Array Bool → Bool
  | .leaf pre post, listed => match preT ops ds pre listed with
    | some l => postB ops ds post l
    | none => false
  | .fork ps i t j u, listed => match preT ops ds ps listed with
    | some l => Region.ready .any ops l == [i, j] && !ds.contains i && !ds.contains j && t.ok ops ds (l.setIfInBounds i true) && u.ok ops ds (l.setIfInBounds j true)
    | none => false
def DT.depth : DT → Nat
  | .leaf pre post => pre.length + post.length
  | .fork ps i t j u => ps.length + 1 + Nat.max t.depth u.depth
def SeqX (P : Program) (L : List Oper) (T U : World → Prop) (a0 : Act) (K : List (Nat × Value) → World → Prop) : DT → List (Nat × Value) → World → Prop
  | .leaf pre post, env, w => SeqE P L T a0 (fun env w => SeqE P L U a0 K post env w) pre env w
  | .fork ps i t j u, env, w => SeqE P L T a0 (fun env w => SeqE P L T a0 (fun env w => SeqX P L T U a0 K t env w) [(i, true)] env w ∧ SeqE P L T a0 (fun env w => SeqX P L T U a0 K u env w) [(j, true)] env w) ps env w

section
variable {P : Program} {L : List Oper} {ds : List Nat} {T U : World → Prop} {a0 : Act} {Q : Exit → Act → World → Prop}
/-- one operation run, whatever is asked behind it -/
theorem one_op (hs : Region.noSelect L.toArray = true) (hdst : ∀ o ∈ L, ∀ d, o.dst = some d → d < a0.tmps.size) (S : World → Prop) (i : Nat) (K : List (Nat × Value) → World → Prop) (R : Act → World → Prop) (env : List (Nat × Value)) (w : World)
    (hK : ∀ env w, (∀ d ∈ env.map (·.1), d < a0.tmps.size) → S w → K env w → R (puts a0 env) w) (hd : ∀ d ∈ env.map (·.1), d < a0.tmps.size) (hS : S w) (rest : List (Nat × Bool))
    (h : SeqE P L S a0 K [(i, true)] env w) : wpOp P L.toArray Q i R (puts a0 env) w := by
  obtain ⟨o, ho, h⟩ := h
  rw [nthO_eq] at ho
  have ho' : L.toArray[i]? = some o := by simpa using ho
  have hod : ∀ d, o.dst = some d → d < a0.tmps.size := hdst o (List.mem_of_getElem? ho)
  have hselo : ∀ cs b, o.op ≠ .select cs b := Region.noSelect_spec hs i o |> fun k cs b => k cs b ho'
  have hexec : execOp (puts a0 env).eval o = execOp (ev a0 env) o := execOp_congr o hselo fun x _ => puts_eval env hd x
  have hnext : ∀ v w', S w' → K (ext o v env) w' → R ((puts a0 env).put o.dst v) w' := by
    intro v w' hS' h'
    rw [puts_ext]
    exact hK _ w' (ext_lt hod hd) hS' h'
  unfold wpOp
  simp only [ho']
  rcases h with ⟨hw, h⟩ | ⟨hw, h⟩
  · rw [if_pos (puts_wanted hd hw)]
    refine .inl ?_
    unfold Oper.wp
    rw [hexec]
    generalize (execOp (ev a0 env) o).run P w = r at *
    cases r with
    | ok n w' =>
      cases n <;> simp only [Eff] at h <;> simp only [Oper.upon]
      case value u => exact hnext _ _ h.1 h.2
      case skip => exact hnext _ _ h.1 h.2
      case enter f args =>
        refine Calls.mono h ?_
        rintro e w'' ⟨v, rfl, h1, h2⟩
        exact hnext _ _ h1 h2
      all_goals exact h.elim
    | halt x w' => exact h.elim
  · rw [if_neg (by rw [puts_wanted hd hw]; decide)]
    exact hnext _ _ hS h
/-- the head of a run, as one operation -/
theorem head_of {S : World → Prop} {K : List (Nat × Value) → World → Prop} {i : Nat} {rest : List (Nat × Bool)} {env : List (Nat × Value)} {w : World} (h : SeqE P L S a0 K ((i, true) :: rest) env w) : SeqE P L S a0 (fun env w => SeqE P L S a0 K rest env w) [(i, true)] env w := h

theorem pre_sound (hTU : ∀ w, T w → U w) (hs : Region.noSelect L.toArray = true) (hdst : ∀ o ∈ L, ∀ d, o.dst = some d → d < a0.tmps.size) (hQ : ∀ c a d v w, Q (.panic c) (Act.put a d v) w → Q (.panic c) a w)
    (K : List (Nat × Value) → World → Prop) (l' : Array Bool) (m : Nat) (hK : ∀ env w, (∀ d ∈ env.map (·.1), d < a0.tmps.size) → T w → K env w → wpAnyD P .any L.toArray Q ds T U m l' (puts a0 env) w) :
    ∀ (ord : List (Nat × Bool)) (listed : Array Bool) (env : List (Nat × Value)) (w : World), preT L.toArray ds ord listed = some l' → (∀ d ∈ env.map (·.1), d < a0.tmps.size) → T w →
      SeqE P L T a0 K ord env w → wpAnyD P .any L.toArray Q ds T U (ord.length + m) listed (puts a0 env) w := by
  intro ord
  induction ord with
  | nil =>
    intro listed env w hb hd hS h
    simp only [preT, Option.some.injEq] at hb
    subst hb
    rw [List.length_nil, Nat.zero_add]
    exact hK env w hd hS h
  | cons x rest ih =>
    obtain ⟨i, eff⟩ := x
    intro listed env w hb hd hS h
    rw [show ((i, eff) :: rest).length + m = (rest.length + m) + 1 by simp; omega]
    cases eff with
    | false =>
      obtain ⟨o, ho, h⟩ := h
      rw [nthO_eq] at ho
      have ho' : L.toArray[i]? = some o := by simpa using ho
      have hod : ∀ d, o.dst = some d → d < a0.tmps.size := hdst o (List.mem_of_getElem? ho)
      have hselo : ∀ cs b, o.op ≠ .select cs b := Region.noSelect_spec hs i o |> fun k cs b => k cs b ho'
      have hexec : execOp (puts a0 env).eval o = execOp (ev a0 env) o := execOp_congr o hselo fun x _ => puts_eval env hd x
      simp only [preT] at hb
      split at hb
      case isFalse => cases hb
      rename_i hc
      simp only [Bool.and_eq_true, Bool.not_eq_true'] at hc
      obtain ⟨⟨⟨⟨hfree, hready⟩, hni⟩, hcl⟩, hdep⟩ := hc
      have hid : i ∉ ds := fun h => by
        have h2 : ds.contains i = true := by simpa using h
        rw [hni] at h2; cases h2
      obtain ⟨v, hy, h⟩ := h
      rw [Bool.or_eq_true] at hdep
      rcases hdep with hdep | hmv
      · unfold depB at hdep
        simp only [Bool.and_eq_true] at hdep
        obtain ⟨⟨hsub, hclD⟩, hclosed⟩ := hdep
        generalize depL L.toArray i = D at hsub hclD hclosed
        refine wpAnyD_first ho' (Region.noSelect_spec hs) (fun c a w => hQ c a o.dst v w) hid (V := T) (fun l => cleanB D l = true) (fun l w hc hst => hst.2 ?_) ?_ _ listed _ w (Region.free_spec ho' hfree) (by simpa using hready) hclD ?_ ⟨hTU w hS, fun _ => hS⟩ ?_
        · unfold cleanB at hc ⊢
          rw [List.all_eq_true] at hc ⊢
          intro d hd
          have h2 := List.all_eq_true.1 hsub d hd
          exact hc d (by simpa using h2)
        · intro l j oj hc hj hall hno
          rwa [clean_set (fun hjd => by
            have h1 := List.all_eq_true.1 hclosed j hjd
            rw [hj] at h1
            simp only [Array.any_eq_true', Bool.and_eq_true, Bool.or_eq_true, beq_iff_eq] at h1
            obtain ⟨e, he, hb, hon⟩ := h1
            rcases hon with hon | hon
            · exact hno e he hb hon
            · have h3 := hall e he hb
              have h4 := List.all_eq_true.1 hc e.on (by simpa using hon)
              rw [h3] at h4
              cases h4)]
        · rcases hy with ⟨hw, hr⟩ | ⟨hw, rfl⟩
          · exact .inl ⟨puts_wanted hd hw, fun w hw => by rw [hexec]; exact hr w hw⟩
          · exact .inr ⟨puts_wanted hd hw, rfl⟩
        · rw [puts_ext]
          exact ih _ _ w hb (ext_lt hod hd) hS h
      · have hmo : ∃ x, o.op = .move x := by
          unfold isMove at hmv
          rw [ho'] at hmv
          simp only at hmv
          split at hmv
          · rename_i x hx; exact ⟨x, hx⟩
          · cases hmv
        obtain ⟨x, hx⟩ := hmo
        have hrun : ∀ w', (execOp (ev a0 env) o).run P w' = .ok (.value (ev a0 env x)) w' := fun w' => by
          simp only [execOp, hx, Sem.run_pure]
        refine wpAnyD_first ho' (Region.noSelect_spec hs) (fun c a w => hQ c a o.dst v w) hid (V := fun _ => True) (fun _ => True) (fun _ _ _ _ => trivial) (fun _ _ _ _ _ _ _ => trivial) _ listed _ w (Region.free_spec ho' hfree) (by simpa using hready) trivial ?_ ⟨hTU w hS, fun _ => hS⟩ ?_
        · rcases hy with ⟨hw, hr⟩ | ⟨hw, rfl⟩
          · have hv : v = ev a0 env x := by
              have h1 := hr w hS
              rw [hrun w] at h1
              injection h1 with h1
              injection h1 with h1
              exact h1.symm
            exact .inl ⟨puts_wanted hd hw, fun w' _ => by rw [hexec, hrun w', hv]⟩
          · exact .inr ⟨puts_wanted hd hw, rfl⟩
        · rw [puts_ext]
          exact ih _ _ w hb (ext_lt hod hd) hS h
    | true =>
      simp only [preT] at hb
      split at hb
      case isFalse => cases hb
      rename_i hc
      simp only [Bool.and_eq_true, Bool.not_eq_true', beq_iff_eq] at hc
      obtain ⟨⟨hready, hni⟩, hcl⟩ := hc
      refine ⟨fun h0 => (by rw [hready] at h0; cases h0), fun j hj => ?_⟩
      rw [hready] at hj
      obtain rfl : j = i := by simpa using hj
      exact one_op hs hdst T j _ _ env w (fun env w hd hS h => ⟨⟨hTU w hS, fun _ => hS⟩, ih _ env w hb hd hS h⟩) hd hS [] (head_of h)

theorem post_sound (hs : Region.noSelect L.toArray = true) (hdst : ∀ o ∈ L, ∀ d, o.dst = some d → d < a0.tmps.size) (hQ : ∀ c a d v w, Q (.panic c) (Act.put a d v) w → Q (.panic c) a w) :
    ∀ (ord : List (Nat × Bool)) (listed : Array Bool) (env : List (Nat × Value)) (w : World) (fuel : Nat), ord.length ≤ fuel → postB L.toArray ds ord listed = true → (∀ d ∈ env.map (·.1), d < a0.tmps.size) → U w →
      SeqE P L U a0 (fun F w' => Q .normal (puts a0 F) w') ord env w → wpAnyD P .any L.toArray Q ds T U fuel listed (puts a0 env) w := by
  intro ord
  induction ord with
  | nil =>
    intro listed env w fuel _ hb hd hS h
    simp only [postB, List.isEmpty_iff] at hb
    cases fuel with
    | zero => exact ⟨hb, h⟩
    | succ n => exact ⟨fun _ => h, by rw [hb]; simp⟩
  | cons x rest ih =>
    obtain ⟨i, eff⟩ := x
    intro listed env w fuel hf hb hd hS h
    obtain ⟨fuel, rfl⟩ : ∃ f, fuel = f + 1 := ⟨fuel - 1, by simp at hf; omega⟩
    simp only [List.length_cons] at hf
    cases eff with
    | false =>
      obtain ⟨o, ho, h⟩ := h
      rw [nthO_eq] at ho
      have ho' : L.toArray[i]? = some o := by simpa using ho
      have hod : ∀ d, o.dst = some d → d < a0.tmps.size := hdst o (List.mem_of_getElem? ho)
      have hselo : ∀ cs b, o.op ≠ .select cs b := Region.noSelect_spec hs i o |> fun k cs b => k cs b ho'
      have hexec : execOp (puts a0 env).eval o = execOp (ev a0 env) o := execOp_congr o hselo fun x _ => puts_eval env hd x
      simp only [postB, Bool.and_eq_true, Bool.not_eq_true'] at hb
      obtain ⟨⟨⟨⟨hfree, hready⟩, hni⟩, hcl⟩, hb⟩ := hb
      have hid : i ∉ ds := fun h => by
        have h2 : ds.contains i = true := by simpa using h
        rw [hni] at h2; cases h2
      obtain ⟨v, hy, h⟩ := h
      refine wpAnyD_first ho' (Region.noSelect_spec hs) (fun c a w => hQ c a o.dst v w) hid (V := U) (fun l => True) (fun l w _ hst => hst.1) (fun _ _ _ _ _ _ _ => trivial) _ listed _ w (Region.free_spec ho' hfree) (by simpa using hready) trivial ?_ ⟨hS, fun h => by rw [hcl] at h; cases h⟩ ?_
      · rcases hy with ⟨hw, hr⟩ | ⟨hw, rfl⟩
        · exact .inl ⟨puts_wanted hd hw, fun w hw => by rw [hexec]; exact hr w hw⟩
        · exact .inr ⟨puts_wanted hd hw, rfl⟩
      · rw [puts_ext]
        exact ih _ _ w fuel (by omega) hb (ext_lt hod hd) hS h
    | true =>
      simp only [postB, Bool.and_eq_true, Bool.not_eq_true', beq_iff_eq] at hb
      obtain ⟨⟨hready, hcl⟩, hb⟩ := hb
      refine ⟨fun h0 => (by rw [hready] at h0; cases h0), fun j hj => ?_⟩
      rw [hready] at hj
      obtain rfl : j = i := by simpa using hj
      exact one_op hs hdst U j _ _ env w (fun env w hd hS h => ⟨⟨hS, fun h => by rw [hcl] at h; cases h⟩, ih _ env w fuel (by omega) hb hd hS h⟩) hd hS [] (head_of h)

theorem seqX_sound (hTU : ∀ w, T w → U w) (hs : Region.noSelect L.toArray = true) (hdst : ∀ o ∈ L, ∀ d, o.dst = some d → d < a0.tmps.size) (hQ : ∀ c a d v w, Q (.panic c) (Act.put a d v) w → Q (.panic c) a w) :
    ∀ (t : DT) (listed : Array Bool) (env : List (Nat × Value)) (w : World) (fuel : Nat), t.depth ≤ fuel → t.ok L.toArray ds listed = true → (∀ d ∈ env.map (·.1), d < a0.tmps.size) → T w →
      SeqX P L T U a0 (fun F w' => Q .normal (puts a0 F) w') t env w → wpAnyD P .any L.toArray Q ds T U fuel listed (puts a0 env) w
  | .leaf pre post, listed, env, w, fuel, hf, hb, hd, hS, h => by
    unfold DT.ok at hb
    cases hp : preT L.toArray ds pre listed with
    | none => rw [hp] at hb; cases hb
    | some l =>
      rw [hp] at hb
      unfold DT.depth at hf
      obtain ⟨m, rfl⟩ : ∃ m, fuel = pre.length + m := ⟨fuel - pre.length, by omega⟩
      exact pre_sound hTU hs hdst hQ _ l m (fun env w hd hS h => post_sound hs hdst hQ post l env w m (by omega) hb hd (hTU w hS) h) pre listed env w hp hd hS h
  | .fork ps i t j u, listed, env, w, fuel, hf, hb, hd, hS, h => by
    unfold DT.ok at hb
    cases hp : preT L.toArray ds ps listed with
    | none => rw [hp] at hb; cases hb
    | some l =>
      rw [hp] at hb
      simp only [Bool.and_eq_true, beq_iff_eq] at hb
      obtain ⟨⟨⟨⟨hready, _⟩, _⟩, hb1⟩, hb2⟩ := hb
      unfold DT.depth at hf
      have hm1 := Nat.le_max_left t.depth u.depth
      have hm2 := Nat.le_max_right t.depth u.depth
      have hmx : Nat.max t.depth u.depth = max t.depth u.depth := rfl
      rw [hmx] at hf
      obtain ⟨m, rfl⟩ : ∃ m, fuel = ps.length + (m + 1) := ⟨fuel - ps.length - 1, by omega⟩
      refine pre_sound hTU hs hdst hQ _ l (m + 1) (fun env w hd hS h => ?_) ps listed env w hp hd hS h
      obtain ⟨h1, h2⟩ := h
      refine ⟨fun h0 => (by rw [hready] at h0; cases h0), fun k hk => ?_⟩
      rw [hready] at hk
      rcases List.mem_cons.1 hk with rfl | hk
      · exact one_op hs hdst T k _ _ env w (fun env w hd hS h => ⟨⟨hTU w hS, fun _ => hS⟩, seqX_sound hTU hs hdst hQ t _ env w m (by omega) hb1 hd hS h⟩) hd hS [] h1
      · obtain rfl : k = j := by simpa using hk
        exact one_op hs hdst T k _ _ env w (fun env w hd hS h => ⟨⟨hTU w hS, fun _ => hS⟩, seqX_sound hTU hs hdst hQ u _ env w m (by omega) hb2 hd hS h⟩) hd hS [] h2
theorem SeqX.mono {K K' : List (Nat × Value) → World → Prop} (hK : ∀ F w, K F w → K' F w) : ∀ {t : DT} {env : List (Nat × Value)} {w : World}, SeqX P L T U a0 K t env w → SeqX P L T U a0 K' t env w
  | .leaf pre post, env, w, h => SeqE.mono (fun F w h => SeqE.mono hK h) h
  | .fork ps i t j u, env, w, h => SeqE.mono (fun F w h => ⟨SeqE.mono (fun F w h => SeqX.mono hK h) h.1, SeqE.mono (fun F w h => SeqX.mono hK h) h.2⟩) h
/-- THE LAW: ds are the dirty ones; every run of the tree ends in J. -/
theorem wp_dirty (ds : List Nat) (T U : World → Prop) (hTU : ∀ w, T w → U w) (J : Act → List (Nat × Value) → World → Prop) (t : DT) (hc : (Region.noSelect L.toArray && dstOk L a0.tmps.size && t.ok L.toArray ds (Array.replicate L.length false) && Nat.ble t.depth L.length) = true) (hm : P.follows .mixedOrders = true) {id : Nat} {w : World} (hS : T w.drew)
    (hQ : ∀ c a d v w, Q (.panic c) (Act.put a d v) w → Q (.panic c) a w)
    (hJ : ∀ F w', J a0 F w' → Q .normal (puts a0 F) w')
    (h : SeqX P L T U a0 (J a0) t [] w.drew) : (Code.region id L.toArray true).wp P Q a0 w := by
  simp only [Bool.and_eq_true] at hc
  obtain ⟨⟨⟨h1, h2⟩, h3⟩, h4⟩ := hc
  refine wp_region_any hm (wpAny_of_D (ds := ds) (T := T) (U := U) _ _ _ _ ?_)
  refine seqX_sound hTU h1 ?_ hQ t _ [] _ _ ?_ ?_ (by simp) hS (h.mono (fun F w h => hJ F w h))
  · intro o ho d hd
    have := List.all_eq_true.1 h2 o ho
    rw [hd] at this
    simpa [Nat.blt_eq] using this
  · simpa using Nat.le_of_ble_eq_true h4
  · simpa using h3
end
end Go.Proofs.YtmageoieajhhdaaDoor.RegionVal
