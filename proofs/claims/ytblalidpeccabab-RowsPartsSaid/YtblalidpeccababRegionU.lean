/- A region that draws its order and stores to what it has read: first the operations that touch no memory (they yield their values in every world). -/
import Derived.Test.YtblalidpeccababRegionDirty
namespace Go.Proofs.Ytblalidpeccabab.RegionVal
open Go Go.RowKit
set_option linter.unusedVariables false
def preU (ops : Array Oper) (ds : List Nat) : List Nat → Array Bool → Option (Array Bool)
  | [], listed => some listed
  | i :: rest, listed => if Region.free .any ops listed i && (Region.ready .any ops listed).contains i && !ds.contains i && cleanB ds listed then preU ops ds rest (listed.setIfInBounds i true) else none
section
variable {P : Program} {L : List Oper} {ds : List Nat} {T U : World → Prop} {a0 : Act} {Q : Exit → Act → World → Prop}
theorem preU_sound (hTU : ∀ w, T w → U w) (hs : Region.noSelect L.toArray = true) (hdst : ∀ o ∈ L, ∀ d, o.dst = some d → d < a0.tmps.size) (hQ : ∀ c a d v w, Q (.panic c) (Act.put a d v) w → Q (.panic c) a w)
    (K : List (Nat × Value) → World → Prop) (l' : Array Bool) (m : Nat) (hK : ∀ env w, (∀ d ∈ env.map (·.1), d < a0.tmps.size) → T w → K env w → wpAnyD P .any L.toArray Q ds T U m l' (puts a0 env) w) :
    ∀ (ord : List Nat) (listed : Array Bool) (env : List (Nat × Value)) (w : World), preU L.toArray ds ord listed = some l' → (∀ d ∈ env.map (·.1), d < a0.tmps.size) → T w →
      SeqE P L U a0 K (ord.map (·, false)) env w → wpAnyD P .any L.toArray Q ds T U (ord.length + m) listed (puts a0 env) w := by
  intro ord
  induction ord with
  | nil =>
    intro listed env w hb hd hS h
    simp only [preU, Option.some.injEq] at hb
    subst hb
    rw [List.length_nil, Nat.zero_add]
    exact hK env w hd hS h
  | cons i rest ih =>
    intro listed env w hb hd hS h
    rw [show (i :: rest).length + m = (rest.length + m) + 1 by simp; omega]
    obtain ⟨o, ho, h⟩ := h
    rw [nthO_eq] at ho
    have ho' : L.toArray[i]? = some o := by simpa using ho
    have hod : ∀ d, o.dst = some d → d < a0.tmps.size := hdst o (List.mem_of_getElem? ho)
    have hselo : ∀ cs b, o.op ≠ .select cs b := Region.noSelect_spec hs i o |> fun k cs b => k cs b ho'
    have hexec : execOp (puts a0 env).eval o = execOp (ev a0 env) o := execOp_congr o hselo fun x _ => puts_eval env hd x
    simp only [preU] at hb
    split at hb
    case isFalse => cases hb
    rename_i hc
    simp only [Bool.and_eq_true, Bool.not_eq_true'] at hc
    obtain ⟨⟨⟨hfree, hready⟩, hni⟩, hcl⟩ := hc
    have hid : i ∉ ds := fun h => by
      have h2 : ds.contains i = true := by simpa using h
      rw [hni] at h2; cases h2
    obtain ⟨v, hy, h⟩ := h
    refine wpAnyD_first ho' (Region.noSelect_spec hs) (fun c a w => hQ c a o.dst v w) hid (V := U) (fun l => True) (fun l w _ hst => hst.1) (fun _ _ _ _ _ _ _ => trivial) _ listed _ w (Region.free_spec ho' hfree) (by simpa using hready) trivial ?_ ⟨hTU w hS, fun _ => hS⟩ ?_
    · rcases hy with ⟨hw, hr⟩ | ⟨hw, rfl⟩
      · exact .inl ⟨puts_wanted hd hw, fun w hw => by rw [hexec]; exact hr w hw⟩
      · exact .inr ⟨puts_wanted hd hw, rfl⟩
    · rw [puts_ext]
      exact ih _ _ w hb (ext_lt hod hd) hS h
theorem wp_dirtyU (us : List Nat) (ds : List Nat) (T U : World → Prop) (hTU : ∀ w, T w → U w) (t : DT) (hc : (Region.noSelect L.toArray && dstOk L a0.tmps.size && (match preU L.toArray ds us (Array.replicate L.length false) with | some l => t.ok L.toArray ds l | none => false) && Nat.ble (us.length + t.depth) L.length) = true) (hm : P.follows .mixedOrders = true) {id : Nat} {w : World} (hS : T w.drew)
    (hQ : ∀ c a d v w, Q (.panic c) (Act.put a d v) w → Q (.panic c) a w)
    (h : SeqE P L U a0 (fun env w => SeqX P L T U a0 (fun F w' => Q .normal (puts a0 F) w') t env w) (us.map (·, false)) [] w.drew) : (Code.region id L.toArray true).wp P Q a0 w := by
  simp only [Bool.and_eq_true] at hc
  obtain ⟨⟨⟨h1, h2⟩, h3⟩, h4⟩ := hc
  have hdst : ∀ o ∈ L, ∀ d, o.dst = some d → d < a0.tmps.size := by
    intro o ho d hd
    have := List.all_eq_true.1 h2 o ho
    rw [hd] at this
    simpa [Nat.blt_eq] using this
  have hle := Nat.le_of_ble_eq_true h4
  refine wp_region_any hm (wpAny_of_D (ds := ds) (T := T) (U := U) _ _ _ _ ?_)
  cases hp : preU L.toArray ds us (Array.replicate L.length false) with
  | none => rw [hp] at h3; cases h3
  | some l =>
    rw [hp] at h3
    simp only at h3
    obtain ⟨m, hm2⟩ : ∃ m, L.toArray.size = us.length + m := ⟨L.length - us.length, by simp; omega⟩
    have hmt : t.depth ≤ m := by
      have : L.toArray.size = L.length := by simp
      omega
    rw [hm2]
    have key := preU_sound (ds := ds) hTU h1 hdst hQ (fun env w => SeqX P L T U a0 (fun F w' => Q .normal (puts a0 F) w') t env w) l m (fun env w hd hS h => seqX_sound hTU h1 hdst hQ t l env w m hmt h3 hd hS h) us (Array.replicate L.length false) [] w.drew hp (by simp) hS h
    rw [show L.length = us.length + m by have : L.toArray.size = L.length := by simp
                                         omega] at key
    exact key
end
end Go.Proofs.Ytblalidpeccabab.RegionVal
