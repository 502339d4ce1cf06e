/- A region that draws its order in which two operations that make or write memory may come in either order: both are run. -/
import Derived.Test.YtmageoieajhhdaaDoorRegionEff
namespace Go.Proofs.YtmageoieajhhdaaDoor.RegionVal
open Go Go.RowKit
set_option linter.unusedVariables false

def effB2 (ops : Array Oper) (i j : Nat) (r1 r2 : List (Nat × Bool)) : List Nat → Array Bool → Bool
  | [], listed => Region.ready .any ops listed == [i, j] && effB ops r1 (listed.setIfInBounds i true) && effB ops r2 (listed.setIfInBounds j true)
  | p :: rest, listed => Region.free .any ops listed p && (Region.ready .any ops listed).contains p && effB2 ops i j r1 r2 rest (listed.setIfInBounds p true)
def pures (ps : List Nat) : List (Nat × Bool) := ps.map (fun p => (p, false))

section
variable {P : Program} {L : List Oper} {S : World → Prop} {a0 : Act} {Q : Exit → Act → World → Prop}

theorem eff_step (hs : Region.noSelect L.toArray = true) (hdst : ∀ o ∈ L, ∀ d, o.dst = some d → d < a0.tmps.size) (hQ : ∀ c a d v w, Q (.panic c) (Act.put a d v) w → Q (.panic c) a w)
    (i : Nat) (rest : List (Nat × Bool)) (listed : Array Bool) (env : List (Nat × Value)) (w : World) (fuel : Nat) (hf : rest.length ≤ fuel) (hb : effB L.toArray rest (listed.setIfInBounds i true) = true) (hd : ∀ d ∈ env.map (·.1), d < a0.tmps.size) (hS : S w)
    (h : SeqE P L S a0 (fun F w' => S w' → Q .normal (puts a0 F) w') ((i, true) :: rest) env w) :
    wpOp P L.toArray Q i (fun a' w' => S w' ∧ wpAnyH P .any L.toArray Q S fuel (listed.setIfInBounds i true) a' w') (puts a0 env) w := by
  obtain ⟨o, ho, h⟩ := h
  rw [nthO_eq] at ho
  have ho' : L.toArray[i]? = some o := by simpa using ho
  have hod : ∀ d, o.dst = some d → d < a0.tmps.size := hdst o (List.mem_of_getElem? ho)
  have hselo : ∀ cs b, o.op ≠ .select cs b := Region.noSelect_spec hs i o |> fun k cs b => k cs b ho'
  have hexec : execOp (puts a0 env).eval o = execOp (ev a0 env) o := execOp_congr o hselo fun x _ => puts_eval env hd x
  have hnext : ∀ v w', S w' → SeqE P L S a0 (fun F w' => S w' → Q .normal (puts a0 F) w') rest (ext o v env) w' → S w' ∧ wpAnyH P .any L.toArray Q S fuel (listed.setIfInBounds i true) ((puts a0 env).put o.dst v) w' := by
    intro v w' hS' h'
    rw [puts_ext]
    exact ⟨hS', seqE_sound hs hdst hQ rest _ _ w' fuel hf hb (ext_lt hod hd) hS' h'⟩
  unfold wpOp
  simp only [ho']
  rcases h with ⟨hw, h⟩ | ⟨hw, h⟩
  · rw [if_pos (puts_wanted hd hw)]
    refine .inl ?_
    unfold Oper.wp
    rw [hexec]
    generalize (execOp (ev a0 env) o).run P w = r at *
    cases r with
    | ok n w' =>
      cases n <;> simp only [Eff] at h <;> simp only [Oper.upon]
      case value u => exact hnext _ _ h.1 h.2
      case skip => exact hnext _ _ h.1 h.2
      case enter f args =>
        refine Calls.mono h ?_
        rintro e w'' ⟨v, rfl, h1, h2⟩
        exact hnext _ _ h1 h2
      all_goals exact h.elim
    | halt x w' => exact h.elim
  · rw [if_neg (by rw [puts_wanted hd hw]; decide)]
    exact hnext _ _ hS h

theorem seq2_sound (hs : Region.noSelect L.toArray = true) (hdst : ∀ o ∈ L, ∀ d, o.dst = some d → d < a0.tmps.size) (hQ : ∀ c a d v w, Q (.panic c) (Act.put a d v) w → Q (.panic c) a w) (i j : Nat) (r1 r2 : List (Nat × Bool)) :
    ∀ (ps : List Nat) (listed : Array Bool) (env : List (Nat × Value)) (w : World) (fuel : Nat), ps.length + r1.length + 1 ≤ fuel → ps.length + r2.length + 1 ≤ fuel → effB2 L.toArray i j r1 r2 ps listed = true → (∀ d ∈ env.map (·.1), d < a0.tmps.size) → S w →
      SeqE P L S a0 (fun env w => SeqE P L S a0 (fun F w' => S w' → Q .normal (puts a0 F) w') ((i, true) :: r1) env w ∧ SeqE P L S a0 (fun F w' => S w' → Q .normal (puts a0 F) w') ((j, true) :: r2) env w) (pures ps) env w → wpAnyH P .any L.toArray Q S fuel listed (puts a0 env) w := by
  intro ps
  induction ps with
  | nil =>
    intro listed env w fuel hf1 hf2 hb hd hS h
    obtain ⟨fuel, rfl⟩ : ∃ f, fuel = f + 1 := ⟨fuel - 1, by simp at hf1; omega⟩
    simp only [effB2, Bool.and_eq_true, beq_iff_eq] at hb
    obtain ⟨⟨hready, hb1⟩, hb2⟩ := hb
    obtain ⟨h1, h2⟩ := h
    simp only [List.length_nil] at hf1 hf2
    refine wpAnyH_all (rs := [i, j]) hready (by simp) ?_
    intro k hk
    rcases List.mem_cons.1 hk with rfl | hk
    · exact eff_step hs hdst hQ _ r1 listed env w fuel (by omega) hb1 hd hS h1
    · obtain rfl : k = j := by simpa using hk
      exact eff_step hs hdst hQ _ r2 listed env w fuel (by omega) hb2 hd hS h2
  | cons p rest ih =>
    intro listed env w fuel hf1 hf2 hb hd hS h
    obtain ⟨fuel, rfl⟩ : ∃ f, fuel = f + 1 := ⟨fuel - 1, by simp at hf1; omega⟩
    simp only [List.length_cons] at hf1 hf2
    obtain ⟨o, ho, v, hy, h⟩ := h
    rw [nthO_eq] at ho
    have ho' : L.toArray[p]? = some o := by simpa using ho
    have hod : ∀ d, o.dst = some d → d < a0.tmps.size := hdst o (List.mem_of_getElem? ho)
    have hselo : ∀ cs b, o.op ≠ .select cs b := Region.noSelect_spec hs p o |> fun k cs b => k cs b ho'
    have hexec : execOp (puts a0 env).eval o = execOp (ev a0 env) o := execOp_congr o hselo fun x _ => puts_eval env hd x
    simp only [effB2, Bool.and_eq_true] at hb
    obtain ⟨⟨hfree, hready⟩, hb⟩ := hb
    refine wpAnyH_take (i := p) (oi := o) (v := v) ho' hs hfree hready (fun c a w => hQ c a o.dst v w) ?_ hS ?_
    · rcases hy with ⟨hw, hr⟩ | ⟨hw, rfl⟩
      · exact .inl ⟨puts_wanted hd hw, fun w hw => by rw [hexec]; exact hr w hw⟩
      · exact .inr ⟨puts_wanted hd hw, rfl⟩
    · rw [puts_ext]
      exact ih _ _ w fuel (by omega) (by omega) hb (ext_lt hod hd) hS h

/-- THE LAW: ps come first (they only read), then i and j in either order, then r1 or r2. -/
theorem wp_two (ps : List Nat) (i j : Nat) (r1 r2 : List (Nat × Bool)) (hc : (Region.noSelect L.toArray && dstOk L a0.tmps.size && effB2 L.toArray i j r1 r2 ps (Array.replicate L.length false) && Nat.ble (ps.length + r1.length + 1) L.length && Nat.ble (ps.length + r2.length + 1) L.length) = true) (hm : P.follows .mixedOrders = true) {id : Nat} {w : World} (hS : S w.drew)
    (hQ : ∀ c a d v w, Q (.panic c) (Act.put a d v) w → Q (.panic c) a w)
    (h : SeqE P L S a0 (fun env w => SeqE P L S a0 (fun F w' => S w' → Q .normal (puts a0 F) w') ((i, true) :: r1) env w ∧ SeqE P L S a0 (fun F w' => S w' → Q .normal (puts a0 F) w') ((j, true) :: r2) env w) (pures ps) [] w.drew) : (Code.region id L.toArray true).wp P Q a0 w := by
  simp only [Bool.and_eq_true] at hc
  obtain ⟨⟨⟨⟨h1, h2⟩, h3⟩, h4⟩, h5⟩ := hc
  refine wp_region_held (S := S) hm ?_
  refine seq2_sound h1 ?_ hQ i j r1 r2 ps _ [] _ _ ?_ ?_ ?_ (by simp) hS h
  · intro o ho d hd
    have := List.all_eq_true.1 h2 o ho
    rw [hd] at this
    simpa [Nat.blt_eq] using this
  · simpa using Nat.le_of_ble_eq_true h4
  · simpa using Nat.le_of_ble_eq_true h5
  · simpa using h3
theorem Eff.mono {R R' : Value → World → Prop} (hR : ∀ v w, R v w → R' v w) {r : Result Next} (h : Eff P R r) : Eff P R' r := by
  cases r with
  | ok n w' =>
    cases n <;> simp only [Eff] at h ⊢
    case value u => exact hR _ _ h
    case skip => exact hR _ _ h
    case enter f args => exact h.mono fun e w ⟨v, h1, h2⟩ => ⟨v, h1, hR _ _ h2⟩
  | halt x w' => exact h.elim
theorem SeqE.mono {K K' : List (Nat × Value) → World → Prop} (hK : ∀ F w, K F w → K' F w) : ∀ {ord : List (Nat × Bool)} {env : List (Nat × Value)} {w : World}, SeqE P L S a0 K ord env w → SeqE P L S a0 K' ord env w
  | [], env, w, h => hK _ _ h
  | (i, false) :: rest, env, w, ⟨o, ho, v, hv, h⟩ => ⟨o, ho, v, hv, SeqE.mono hK h⟩
  | (i, true) :: rest, env, w, ⟨o, ho, h⟩ => ⟨o, ho, h.imp (fun ⟨h1, h2⟩ => ⟨h1, h2.mono fun v w' h3 => ⟨h3.1, SeqE.mono hK h3.2⟩⟩) (fun ⟨h1, h2⟩ => ⟨h1, SeqE.mono hK h2⟩)⟩
/-- THE LAW, what follows shown once: both orders end in J. -/
theorem wp_join (J : List (Nat × Value) → World → Prop) (ps : List Nat) (i j : Nat) (r1 r2 : List (Nat × Bool)) (hc : (Region.noSelect L.toArray && dstOk L a0.tmps.size && effB2 L.toArray i j r1 r2 ps (Array.replicate L.length false) && Nat.ble (ps.length + r1.length + 1) L.length && Nat.ble (ps.length + r2.length + 1) L.length) = true) (hm : P.follows .mixedOrders = true) {id : Nat} {w : World} (hS : S w.drew)
    (hQ : ∀ c a d v w, Q (.panic c) (Act.put a d v) w → Q (.panic c) a w)
    (hJ : ∀ F w', J F w' → Q .normal (puts a0 F) w')
    (h : SeqE P L S a0 (fun env w => SeqE P L S a0 J ((i, true) :: r1) env w ∧ SeqE P L S a0 J ((j, true) :: r2) env w) (pures ps) [] w.drew) : (Code.region id L.toArray true).wp P Q a0 w :=
  wp_two ps i j r1 r2 hc hm hS hQ (h.mono fun F w h => ⟨h.1.mono (fun F w h (_ : S w) => hJ F w h), h.2.mono (fun F w h (_ : S w) => hJ F w h)⟩)
end
theorem put_swap (a : Act) {d e : Nat} (h : d ≠ e) (u v : Value) : (a.put (some d) u).put (some e) v = (a.put (some e) v).put (some d) u := by
  simp only [Act.put]
  rw [Array.setIfInBounds_comm _ _ h]
theorem puts_cons (a : Act) (x : Nat × Value) {E F : List (Nat × Value)} (h : puts a E = puts a F) : puts a (x :: E) = puts a (x :: F) := by
  obtain ⟨d, v⟩ := x
  simp only [puts, h]
theorem puts_swap (a : Act) {d e : Nat} (h : d ≠ e) (u v : Value) (E : List (Nat × Value)) : puts a ((e, v) :: (d, u) :: E) = puts a ((d, u) :: (e, v) :: E) := put_swap _ h u v
end Go.Proofs.YtmageoieajhhdaaDoor.RegionVal
