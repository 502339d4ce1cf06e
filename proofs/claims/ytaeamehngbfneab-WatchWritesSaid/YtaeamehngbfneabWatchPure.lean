/- A watched slot: the plain side (lists alone, no program). -/
import Derived.Test.YtaeamehngbfneabMap
namespace Go.Proofs.Ytaeamehngbfneab.Wp
open Go.Proofs.Ytaeamehngbfneab.Mp
set_option linter.unusedVariables false
set_option linter.unusedSimpArgs false

section
variable {E : Type}
/-- the last place ahead of n where p holds -/
def back (p : E → Bool) (l : List E) : Nat → Option Nat
  | 0 => none
  | n + 1 => match l[n]? with
    | some x => if p x then some n else back p l n
    | none => back p l n
theorem back_yes {p : E → Bool} {l : List E} {n : Nat} (h : n < l.length) (hp : p l[n] = true) : back p l (n + 1) = some n := by simp [back, h, hp]
theorem back_no {p : E → Bool} {l : List E} {n : Nat} (h : n < l.length) (hp : p l[n] = false) : back p l (n + 1) = back p l n := by simp [back, h, hp]
theorem back_some {p : E → Bool} {l : List E} : ∀ {n i : Nat}, back p l n = some i → i < n ∧ ∃ h : i < l.length, p l[i] = true
  | n + 1, i, h => by
    by_cases hn : n < l.length
    · cases hp : p l[n] with
      | true =>
        rw [back_yes hn hp] at h
        obtain rfl : n = i := by simpa using h
        exact ⟨by omega, hn, hp⟩
      | false =>
        rw [back_no hn hp] at h
        obtain ⟨h1, h2⟩ := back_some h
        exact ⟨by omega, h2⟩
    · simp only [back, List.getElem?_eq_none (show l.length ≤ n by omega)] at h
      obtain ⟨h1, h2⟩ := back_some h
      exact ⟨by omega, h2⟩
theorem back_stop {p : E → Bool} {l : List E} {i : Nat} (h : i < l.length) (hp : p l[i] = true) : ∀ {n : Nat}, i < n → n ≤ l.length → (∀ j, i < j → (hj : j < n) → ∀ h' : j < l.length, p l[j] = false) → back p l n = some i
  | n + 1, hi, hn, hno => by
    by_cases e : i = n
    · subst e; exact back_yes h hp
    · rw [back_no (by omega) (hno n (by omega) (by omega) (by omega))]
      exact back_stop h hp (by omega) (by omega) (fun j h1 h2 h3 => hno j h1 (by omega) h3)
theorem back_none_of {p : E → Bool} {l : List E} : ∀ {n : Nat}, n ≤ l.length → (∀ j, (hj : j < n) → ∀ h' : j < l.length, p l[j] = false) → back p l n = none
  | 0, _, _ => rfl
  | n + 1, hn, hno => by
    rw [back_no (by omega) (hno n (by omega) (by omega))]
    exact back_none_of (by omega) (fun j h1 h2 => hno j (by omega) h2)
theorem back_none {p : E → Bool} {l : List E} : ∀ {n : Nat}, back p l n = none → n ≤ l.length → ∀ j, j < n → ∀ h' : j < l.length, p l[j] = false
  | n + 1, h, hn, j, hj, h' => by
    cases hp : p l[n] with
    | true => rw [back_yes (by omega) hp] at h; cases h
    | false =>
      rw [back_no (by omega) hp] at h
      by_cases e : j = n
      · subst e; exact hp
      · exact back_none h (by omega) j (by omega) h'

/-- the places where p holds -/
def places (p : E → Bool) (l : List E) : Nat → List Nat
  | 0 => []
  | n + 1 => match l[n]? with
    | some x => if p x then places p l n ++ [n] else places p l n
    | none => places p l n
theorem places_yes {p : E → Bool} {l : List E} {n : Nat} (h : n < l.length) (hp : p l[n] = true) : places p l (n + 1) = places p l n ++ [n] := by simp [places, h, hp]
theorem places_no {p : E → Bool} {l : List E} {n : Nat} (h : n < l.length) (hp : p l[n] = false) : places p l (n + 1) = places p l n := by simp [places, h, hp]
/-- from the last one back -/
theorem places_back {p : E → Bool} {l : List E} : ∀ {n : Nat}, n ≤ l.length → (back p l n = none ∧ places p l n = []) ∨ ∃ i, back p l n = some i ∧ i < n ∧ places p l n = places p l i ++ [i]
  | 0, _ => .inl ⟨rfl, rfl⟩
  | n + 1, hn => by
    cases hp : p l[n] with
    | true => exact .inr ⟨n, back_yes (by omega) hp, by omega, places_yes (by omega) hp⟩
    | false =>
      rw [back_no (by omega) hp, places_no (by omega) hp]
      rcases places_back (p := p) (l := l) (n := n) (by omega) with h | ⟨i, h1, h2, h3⟩
      · exact .inl h
      · exact .inr ⟨i, h1, by omega, h3⟩
end

section
variable {E K V : Type} [DecidableEq K] (acc wr : E → Bool) (key : E → K) (val old : E → V)
def told (e : E) : V := if wr e then old e else val e
/-- the first event that does not fit -/
def wholeL [DecidableEq V] : List (K × V) → List E → Nat → Option Nat
  | _, [], _ => none
  | m, x :: xs, i => if acc x then (match get m (key x) with
      | some v => if v = told wr val old x then wholeL (put m (key x) (val x)) xs (i + 1) else some i
      | none => wholeL (put m (key x) (val x)) xs (i + 1)) else wholeL m xs (i + 1)
def whole [DecidableEq V] (l : List E) : Option Nat := wholeL acc wr key val old [] l 0
def ofSlot (k : K) (e : E) : Bool := acc e && decide (key e = k)

theorem wholeL_ge [DecidableEq V] : ∀ (xs : List E) (m : List (K × V)) (i k : Nat), wholeL acc wr key val old m xs i = some k → i ≤ k
  | [], m, i, k, h => by simp [wholeL] at h
  | x :: xs, m, i, k, h => by
    simp only [wholeL] at h
    by_cases ha : acc x = true
    · rw [if_pos ha] at h
      cases hg : get m (key x) with
      | none => simp only [hg] at h; have := wholeL_ge xs _ _ _ h; omega
      | some v =>
        simp only [hg] at h
        by_cases hv : v = told wr val old x
        · rw [if_pos hv] at h; have := wholeL_ge xs _ _ _ h; omega
        · rw [if_neg hv] at h; simp only [Option.some.injEq] at h; omega
    · rw [if_neg ha] at h; have := wholeL_ge xs _ _ _ h; omega

/-- of a beginning -/
theorem wholeL_take [DecidableEq V] : ∀ (xs : List E) (m : List (K × V)) (i n : Nat), wholeL acc wr key val old m (xs.take n) i = (wholeL acc wr key val old m xs i).filter (fun k => decide (k < i + n))
  | [], m, i, n => by simp [wholeL]
  | x :: xs, m, i, 0 => by
    rw [List.take_zero]
    simp only [wholeL, Nat.add_zero]
    by_cases ha : acc x = true
    · rw [if_pos ha]
      cases hg : get m (key x) with
      | none =>
        simp only
        cases h : wholeL acc wr key val old (put m (key x) (val x)) xs (i + 1) with
        | none => rfl
        | some k => have := wholeL_ge acc wr key val old _ _ _ _ h; simp [Option.filter]; omega
      | some v =>
        simp only
        by_cases hv : v = told wr val old x
        · rw [if_pos hv]
          cases h : wholeL acc wr key val old (put m (key x) (val x)) xs (i + 1) with
          | none => rfl
          | some k => have := wholeL_ge acc wr key val old _ _ _ _ h; simp [Option.filter]; omega
        · rw [if_neg hv]; simp [Option.filter]
    · rw [if_neg ha]
      cases h : wholeL acc wr key val old m xs (i + 1) with
      | none => rfl
      | some k => have := wholeL_ge acc wr key val old _ _ _ _ h; simp [Option.filter]; omega
  | x :: xs, m, i, n + 1 => by
    rw [List.take_succ_cons]
    simp only [wholeL, wholeL_take xs _ (i + 1) n, show i + 1 + n = i + (n + 1) by omega]
    by_cases ha : acc x = true
    · rw [if_pos ha, if_pos ha]
      cases hg : get m (key x) with
      | none => rfl
      | some v =>
        simp only
        by_cases hv : v = told wr val old x
        · rw [if_pos hv, if_pos hv]
        · rw [if_neg hv, if_neg hv]; simp [Option.filter]
    · rw [if_neg ha, if_neg ha]

/-- events that fit together -/
def Fits (l : List E) : Prop := ∀ n (h : n < l.length), acc l[n] = true → ∀ i (hi : i < l.length), back (ofSlot acc key (key l[n])) l n = some i → val l[i] = told wr val old l[n]

theorem fits_of [DecidableEq V] : ∀ (d : Nat) (l : List E) (n : Nat) (m : List (K × V)), n + d = l.length → (∀ k, get m k = (back (ofSlot acc key k) l n).bind fun i => (l[i]?).map val) →
    wholeL acc wr key val old m (l.drop n) n = none → ∀ n', n ≤ n' → (h : n' < l.length) → acc l[n'] = true → ∀ i (hi : i < l.length), back (ofSlot acc key (key l[n'])) l n' = some i → val l[i] = told wr val old l[n']
  | 0, l, n, m, hd, _, _, n', h1, h2, _, _, _, _ => by omega
  | d + 1, l, n, m, hd, hm, hw, n', h1, h2, ha, i, hi, hb => by
    have hn : n < l.length := by omega
    rw [List.drop_eq_getElem_cons hn] at hw
    simp only [wholeL] at hw
    by_cases hac : acc l[n] = true
    · rw [if_pos hac] at hw
      have hm' : ∀ k, get (put m (key l[n]) (val l[n])) k = (back (ofSlot acc key k) l (n + 1)).bind fun i => (l[i]?).map val := fun k => by
        rw [get_put]
        by_cases hk : k = key l[n]
        · rw [if_pos hk, back_yes hn (by simp [ofSlot, hac, hk])]
          simp [hn]
        · rw [if_neg hk, back_no hn (by simp only [ofSlot, hac, Bool.true_and]; exact decide_eq_false (fun e => hk e.symm)), hm]
      have hrest : wholeL acc wr key val old (put m (key l[n]) (val l[n])) (l.drop (n + 1)) (n + 1) = none ∧ ∀ v, get m (key l[n]) = some v → v = told wr val old l[n] := by
        cases hg : get m (key l[n]) with
        | none => simp only [hg] at hw; exact ⟨hw, fun v hv => by cases hv⟩
        | some v =>
          simp only [hg] at hw
          by_cases hv : v = told wr val old l[n]
          · rw [if_pos hv] at hw; exact ⟨hw, fun v' hv' => by simp only [Option.some.injEq] at hv'; rw [← hv']; exact hv⟩
          · rw [if_neg hv] at hw; cases hw
      by_cases e : n' = n
      · subst e
        refine hrest.2 _ ?_
        rw [hm, hb]
        simp [hi]
      · exact fits_of d l (n + 1) _ (by omega) hm' hrest.1 n' (by omega) h2 ha i hi hb
    · rw [if_neg hac] at hw
      have hm' : ∀ k, get m k = (back (ofSlot acc key k) l (n + 1)).bind fun i => (l[i]?).map val := fun k => by
        rw [hm, back_no hn (by simp only [ofSlot, Bool.eq_false_iff.2 hac, Bool.false_and])]
      by_cases e : n' = n
      · subst e; exact absurd ha hac
      · exact fits_of d l (n + 1) m (by omega) hm' hw n' (by omega) h2 ha i hi hb
theorem fits_of_whole [DecidableEq V] {l : List E} (h : whole acc wr key val old l = none) : Fits acc wr key val old l :=
  fun n hn ha i hi hb => fits_of acc wr key val old l.length l 0 [] (by simp) (fun k => by simp [get_nil, back]) (by simpa [whole] using h) n (Nat.zero_le _) hn ha i hi hb

/-- what the slot has at a place -/
def value (k : K) (l : List E) (n : Nat) : Option V := match back (ofSlot acc key k) l n with
  | some i => (l[i]?).map val
  | none => ((l.drop n).find? (ofSlot acc key k)).map (told wr val old)

theorem value_step {l : List E} (hf : Fits acc wr key val old l) (k : K) {n : Nat} (hn : n < l.length) :
    value acc wr key val old k l n = if ofSlot acc key k l[n] then some (told wr val old l[n]) else value acc wr key val old k l (n + 1) := by
  unfold value
  cases hs : ofSlot acc key k l[n] with
  | true =>
    rw [if_pos rfl]
    simp only [ofSlot, Bool.and_eq_true, decide_eq_true_eq] at hs
    cases hb : back (ofSlot acc key k) l n with
    | none =>
      simp only
      rw [List.drop_eq_getElem_cons hn, List.find?_cons_of_pos (by simp [ofSlot, hs])]
      rfl
    | some i =>
      obtain ⟨_, hi, _⟩ := back_some hb
      simp only [List.getElem?_eq_getElem hi, Option.map_some]
      rw [hf n hn hs.1 i hi (by rw [hs.2]; exact hb)]
  | false =>
    rw [if_neg (by simp), back_no hn hs, List.drop_eq_getElem_cons hn, List.find?_cons_of_neg (by rw [hs]; simp)]
theorem value_after {l : List E} (k : K) {n : Nat} (hn : n < l.length) (hs : ofSlot acc key k l[n] = true) : value acc wr key val old k l (n + 1) = some (val l[n]) := by
  unfold value
  rw [back_yes hn hs]
  simp [hn]

/-- the last write tells it -/
theorem value_write {l : List E} (hf : Fits acc wr key val old l) (hw : ∀ e, wr e = true → acc e = true) (k : K) : ∀ {n : Nat}, n ≤ l.length → ∀ {i : Nat} (hi : i < l.length), back (fun e => ofSlot acc key k e && wr e) l n = some i →
    value acc wr key val old k l n = some (val l[i])
  | n + 1, hn, i, hi, hb => by
    have hn' : n < l.length := by omega
    cases hs : ofSlot acc key k l[n] with
    | true =>
      rw [value_after acc wr key val old k hn' hs]
      cases hwr : wr l[n] with
      | true =>
        rw [back_yes hn' (by simp [hs, hwr])] at hb
        obtain rfl : n = i := by simpa using hb
        rfl
      | false =>
        rw [back_no hn' (by simp [hwr])] at hb
        have ih := value_write hf hw k (by omega) hi hb
        rw [value_step acc wr key val old hf k hn', if_pos hs] at ih
        simpa [told, hwr] using ih
    | false =>
      rw [back_no hn' (by simp [hs])] at hb
      have ih := value_write hf hw k (by omega) hi hb
      rw [value_step acc wr key val old hf k hn', if_neg (by rw [hs]; simp)] at ih
      exact ih
end
end Go.Proofs.Ytaeamehngbfneab.Wp
