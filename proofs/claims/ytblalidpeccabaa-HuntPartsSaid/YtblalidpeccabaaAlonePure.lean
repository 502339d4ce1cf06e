/- A slice run alone: the plain side. -/
import Derived.Test.YtblalidpeccabaaSlicePure
namespace Go.Proofs.Ytblalidpeccabaa.Sc
open Go
set_option linter.unusedVariables false
set_option linter.unusedSimpArgs false

section
variable {α : Type} (tt aa bb : α → Int) (rr : α → Bool) (opv : α → Int → Int → Int)

/-- what the lines leave in the variables -/
def env (l : List α) : Int → Int := l.foldl (fun e x v => if tt x = v then opv x (e (aa x)) (e (bb x)) else e v) (fun _ => 0)
theorem env_snoc (l : List α) (x : α) (v : Int) : env tt aa bb opv (l ++ [x]) v = if tt x = v then opv x (env tt aa bb opv l (aa x)) (env tt aa bb opv l (bb x)) else env tt aa bb opv l v := by
  simp [env, List.foldl_append]
/-- who put last into v -/
def lastI (l : List α) (v : Int) : Option Nat := (l.foldl (fun s x => (s.1 + 1, if tt x = v then some s.1 else s.2)) ((0 : Nat), (none : Option Nat))).2
theorem lastI_fst (v : Int) : ∀ (l : List α) (s : Nat × Option Nat), (l.foldl (fun s x => (s.1 + 1, if tt x = v then some s.1 else s.2)) s).1 = s.1 + l.length
  | [], s => rfl
  | x :: l, s => by rw [List.foldl_cons, lastI_fst v l]; simp only [List.length_cons]; omega
theorem lastI_snoc (l : List α) (x : α) (v : Int) : lastI tt (l ++ [x]) v = if tt x = v then some l.length else lastI tt l v := by
  unfold lastI
  rw [List.foldl_append]
  simp only [List.foldl_cons, List.foldl_nil]
  rw [lastI_fst, Nat.zero_add]
theorem take_snoc {l : List α} {k : Nat} (h : k < l.length) : l.take (k + 1) = l.take k ++ [l[k]] := List.take_succ_eq_append_getElem h
theorem lastI_lt (l : List α) (v : Int) : ∀ (k : Nat), k ≤ l.length → ∀ d, lastI tt (l.take k) v = some d → d < k
  | 0, _, d, h => by simp [lastI] at h
  | k + 1, hk, d, h => by
    rw [take_snoc (by omega), lastI_snoc] at h
    by_cases hx : tt l[k] = v
    · rw [if_pos hx] at h
      simp only [Option.some.injEq, List.length_take] at h
      omega
    · rw [if_neg hx] at h
      have := lastI_lt l v k (by omega) d h
      omega

/-- what line k uses -/
def usesAt (l : List α) (k : Nat) : List Int := match l[k]? with
  | some x => if rr x = true then ([aa x, bb x].filterMap (lastI tt (l.take k))).map (fun d : Nat => (d : Int)) else []
  | none => []
def usesF (l : List α) : List (List Int) := (List.range l.length).map (usesAt tt aa bb rr l)
theorem usesF_length (l : List α) : (usesF tt aa bb rr l).length = l.length := by simp [usesF]
theorem use_usesF {l : List α} {k : Nat} (hk : k < l.length) : use (usesF tt aa bb rr l) k = usesAt tt aa bb rr l k := by
  simp [use, usesF, List.getD_eq_getElem?_getD, hk]
theorem mem_usesAt {l : List α} {k : Nat} (hk : k < l.length) {n : Int} : n ∈ usesAt tt aa bb rr l k ↔ rr l[k] = true ∧ ∃ (d : Nat) (v : Int), n = (d : Int) ∧ (v = aa l[k] ∨ v = bb l[k]) ∧ lastI tt (l.take k) v = some d := by
  unfold usesAt
  rw [List.getElem?_eq_getElem hk]
  simp only
  by_cases hr : rr l[k] = true
  · rw [if_pos hr]
    simp only [List.mem_map, List.mem_filterMap, List.mem_cons, List.not_mem_nil, or_false, hr, true_and]
    constructor
    · rintro ⟨d, ⟨v, h1, h2⟩, rfl⟩; exact ⟨d, v, rfl, h1, h2⟩
    · rintro ⟨d, v, rfl, h1, h2⟩; exact ⟨d, ⟨v, h1, h2⟩, rfl⟩
  · rw [if_neg hr]
    simp [hr]
theorem usesF_form (l : List α) : Form (usesF tt aa bb rr l) := by
  intro k hk n hn
  rw [usesF_length] at hk
  rw [use_usesF tt aa bb rr hk, mem_usesAt tt aa bb rr hk] at hn
  obtain ⟨_, d, v, rfl, _, h⟩ := hn
  have := lastI_lt tt l v k (by omega) d h
  omega

/-- those of the first k lines that are kept -/
def keep (R : Nat → Bool) (l : List α) (k : Nat) : List α := ((List.range k).filter R).filterMap (l[·]?)
theorem keep_succ (R : Nat → Bool) {l : List α} {k : Nat} (hk : k < l.length) : keep R l (k + 1) = keep R l k ++ (if R k = true then [l[k]] else []) := by
  unfold keep
  rw [List.range_succ, List.filter_append, List.filterMap_append]
  by_cases h : R k = true
  · rw [if_pos h]; simp [List.filter_cons, h, hk]
  · rw [if_neg h]; simp [List.filter_cons, h]
theorem keep_length_le (R : Nat → Bool) (l : List α) : ∀ k, k ≤ l.length → (keep R l k).length ≤ k
  | 0, _ => by simp [keep]
  | k + 1, hk => by
    have := keep_length_le R l k (by omega)
    rw [keep_succ R (by omega), List.length_append]
    split <;> simp <;> omega
/-- the kept ones use kept ones -/
def Shut (R : Nat → Bool) (l : List α) : Prop := ∀ k (hk : k < l.length), R k = true → rr l[k] = true → ∀ v, (v = aa l[k] ∨ v = bb l[k]) → ∀ d, lastI tt (l.take k) v = some d → R d = true
theorem env_keep (hop : ∀ x p q p' q', rr x = false → opv x p q = opv x p' q') {R : Nat → Bool} {l : List α} (hs : Shut tt aa bb rr R l) : ∀ k, k ≤ l.length → ∀ v, (∀ d, lastI tt (l.take k) v = some d → R d = true) →
    env tt aa bb opv (keep R l k) v = env tt aa bb opv (l.take k) v
  | 0, _, v, _ => by simp [keep]
  | k + 1, hk, v, hv => by
    have hk' : k < l.length := by omega
    have ih := env_keep hop hs k (by omega)
    rw [take_snoc hk'] at hv ⊢
    rw [lastI_snoc] at hv
    rw [env_snoc, keep_succ R hk']
    by_cases hx : tt l[k] = v
    · rw [if_pos hx] at hv ⊢
      have hR : R k = true := by
        have := hv (l.take k).length rfl
        rwa [List.length_take_of_le (by omega)] at this
      rw [if_pos hR, env_snoc, if_pos hx]
      by_cases hr : rr l[k] = true
      · rw [ih (aa l[k]) (hs k hk' hR hr _ (.inl rfl)), ih (bb l[k]) (hs k hk' hR hr _ (.inr rfl))]
      · exact hop _ _ _ _ _ (by simpa using hr)
    · rw [if_neg hx] at hv ⊢
      by_cases hR : R k = true
      · rw [if_pos hR, env_snoc, if_neg hx]
        exact ih v hv
      · rw [if_neg hR, List.append_nil]
        exact ih v hv
theorem lastI_keep {R : Nat → Bool} {l : List α} : ∀ k, k ≤ l.length → ∀ v d, lastI tt (l.take k) v = some d → R d = true → lastI tt (keep R l k) v = some (keep R l d).length
  | 0, _, v, d, h, _ => by simp [lastI] at h
  | k + 1, hk, v, d, h, hR => by
    have hk' : k < l.length := by omega
    have ih := lastI_keep (R := R) (l := l) k (by omega)
    rw [take_snoc hk', lastI_snoc] at h
    rw [keep_succ R hk']
    by_cases hx : tt l[k] = v
    · rw [if_pos hx, List.length_take_of_le (by omega)] at h
      obtain rfl : k = d := by simpa using h
      rw [if_pos hR, lastI_snoc, if_pos hx]
    · rw [if_neg hx] at h
      by_cases hRk : R k = true
      · rw [if_pos hRk, lastI_snoc, if_neg hx]
        exact ih v d h hR
      · rw [if_neg hRk, List.append_nil]
        exact ih v d h hR
theorem keep_prefix (R : Nat → Bool) (l : List α) (k : Nat) : ∀ n, k ≤ n → n ≤ l.length → (keep R l n).take (keep R l k).length = keep R l k
  | 0, h, _ => by obtain rfl : k = 0 := by omega
                  simp [keep]
  | n + 1, h, hn => by
    by_cases hkn : k = n + 1
    · subst hkn; simp
    · have ih := keep_prefix R l k n (by omega) (by omega)
      have hle : (keep R l k).length ≤ (keep R l n).length := by rw [← ih, List.length_take]; omega
      rw [keep_succ R (by omega), List.take_append_of_le_length hle]
      exact ih
theorem keep_get (R : Nat → Bool) (l : List α) {k n : Nat} (hkn : k < n) (hn : n ≤ l.length) (hR : R k = true) : (keep R l n)[(keep R l k).length]? = some (l[k]'(by omega)) := by
  have h := keep_prefix R l (k + 1) n (by omega) hn
  rw [keep_succ R (show k < l.length by omega), if_pos hR] at h
  have h2 := congrArg (fun m => m[(keep R l k).length]?) h
  simp only [List.length_append, List.length_singleton, List.getElem?_concat_length] at h2
  rw [List.getElem?_take_of_lt (by omega)] at h2
  exact h2
/-- each of the kept ones is one of the lines -/
theorem keep_from (R : Nat → Bool) (l : List α) : ∀ n, n ≤ l.length → ∀ p, p < (keep R l n).length → ∃ k, k < n ∧ R k = true ∧ (keep R l k).length = p
  | 0, _, p, hp => by simp [keep] at hp
  | n + 1, hn, p, hp => by
    rw [keep_succ R (by omega), List.length_append] at hp
    by_cases h : p < (keep R l n).length
    · obtain ⟨k, h1, h2⟩ := keep_from R l n (by omega) p h
      exact ⟨k, by omega, h2⟩
    · by_cases hR : R n = true
      · rw [if_pos hR] at hp
        simp only [List.length_singleton] at hp
        exact ⟨n, by omega, hR, by omega⟩
      · rw [if_neg hR] at hp
        simp at hp
        omega

/-! the slice of line at -/
def inS (l : List α) (i : Nat) (k : Nat) : Bool := (backF (usesF tt aa bb rr l) i).getD k false
theorem inS_iff {l : List α} {i : Nat} (hi : i < l.length) (k : Nat) : inS tt aa bb rr l i k = true ↔ Reach (usesF tt aa bb rr l) i k := backF_get (usesF_form tt aa bb rr l) (by rw [usesF_length]; exact hi) k
theorem inS_shut {l : List α} {i : Nat} (hi : i < l.length) : Shut tt aa bb rr (inS tt aa bb rr l i) l := by
  intro k hk hR hr v hv d hd
  rw [inS_iff tt aa bb rr hi] at hR ⊢
  refine .step hR ?_
  rw [use_usesF tt aa bb rr hk, mem_usesAt tt aa bb rr hk]
  exact ⟨hr, d, v, rfl, hv, hd⟩
/-- the lines that line i hangs on -/
def alone (l : List α) (i : Nat) : List α := keep (inS tt aa bb rr l i) l l.length
theorem alone_eq {l : List α} {i : Nat} (hi : i < l.length) : alone tt aa bb rr l i = keep (inS tt aa bb rr l i) l (i + 1) := by
  have hs : ∀ n, i + 1 ≤ n → n ≤ l.length → keep (inS tt aa bb rr l i) l n = keep (inS tt aa bb rr l i) l (i + 1) := by
    intro n
    induction n with
    | zero => intro h; omega
    | succ n ih =>
      intro h hn
      by_cases e : i = n
      · subst e; rfl
      · rw [keep_succ _ (by omega), if_neg, List.append_nil]
        · exact ih (by omega) (by omega)
        · intro h2
          have := ((inS_iff tt aa bb rr hi n).1 h2).le (usesF_form tt aa bb rr l)
          omega
  exact hs l.length (by omega) (Nat.le_refl _)
theorem alone_at {l : List α} {i : Nat} (hi : i < l.length) : alone tt aa bb rr l i = keep (inS tt aa bb rr l i) l i ++ [l[i]] := by
  rw [alone_eq tt aa bb rr hi, keep_succ _ hi, if_pos ((inS_iff tt aa bb rr hi i).2 .refl)]
theorem alone_length {l : List α} {i : Nat} (hi : i < l.length) : 1 ≤ (alone tt aa bb rr l i).length ∧ (alone tt aa bb rr l i).length ≤ i + 1 := by
  have := keep_length_le (inS tt aa bb rr l i) l i (by omega)
  rw [alone_at tt aa bb rr hi, List.length_append, List.length_singleton]
  omega
/-- it gives the value -/
theorem alone_env (hop : ∀ x p q p' q', rr x = false → opv x p q = opv x p' q') {l : List α} {i : Nat} (hi : i < l.length) :
    env tt aa bb opv (alone tt aa bb rr l i) (tt l[i]) = env tt aa bb opv (l.take (i + 1)) (tt l[i]) := by
  rw [alone_eq tt aa bb rr hi]
  refine env_keep tt aa bb rr opv hop (inS_shut tt aa bb rr hi) (i + 1) (by omega) _ (fun d hd => ?_)
  rw [take_snoc hi, lastI_snoc, if_pos rfl, List.length_take_of_le (by omega)] at hd
  obtain rfl : i = d := by simpa using hd
  exact (inS_iff tt aa bb rr hi i).2 .refl
/-- sliced again nothing is left out -/
theorem alone_reach {l : List α} {i : Nat} (hi : i < l.length) {k : Nat} (h : Reach (usesF tt aa bb rr l) i k) :
    Reach (usesF tt aa bb rr (alone tt aa bb rr l i)) (keep (inS tt aa bb rr l i) l i).length (keep (inS tt aa bb rr l i) l k).length := by
  induction h with
  | refl => exact .refl
  | @step k j hk hj ih =>
    refine .step ih ?_
    have hRk := (inS_iff tt aa bb rr hi k).2 hk
    have hRj := (inS_iff tt aa bb rr hi j).2 (.step hk hj)
    have hki : k ≤ i := hk.le (usesF_form tt aa bb rr l)
    have hkl : k < l.length := by omega
    rw [use_usesF tt aa bb rr hkl, mem_usesAt tt aa bb rr hkl] at hj
    obtain ⟨hr, d, v, hd, hv, hl⟩ := hj
    obtain rfl : j = d := by omega
    have hg := keep_get (inS tt aa bb rr l i) l (show k < i + 1 by omega) (by omega) hRk
    have hp := keep_prefix (inS tt aa bb rr l i) l k (i + 1) (by omega) (by omega)
    have hlast := lastI_keep tt k (by omega) v j hl hRj
    rw [← alone_eq tt aa bb rr hi] at hg hp
    have hlt : (keep (inS tt aa bb rr l i) l k).length < (alone tt aa bb rr l i).length := (List.getElem?_eq_some_iff.1 hg).1
    have hgv : (alone tt aa bb rr l i)[(keep (inS tt aa bb rr l i) l k).length] = l[k] := (List.getElem?_eq_some_iff.1 hg).2
    rw [use_usesF tt aa bb rr hlt, mem_usesAt tt aa bb rr hlt, hgv]
    exact ⟨hr, _, v, rfl, hv, by rw [hp]; exact hlast⟩
theorem alone_again {l : List α} {i : Nat} (hi : i < l.length) : alone tt aa bb rr (alone tt aa bb rr l i) ((alone tt aa bb rr l i).length - 1) = alone tt aa bb rr l i := by
  have hlen := alone_length tt aa bb rr hi
  have hlast : (alone tt aa bb rr l i).length - 1 = (keep (inS tt aa bb rr l i) l i).length := by rw [alone_at tt aa bb rr hi, List.length_append, List.length_singleton]; omega
  have hall : ∀ p, p < (alone tt aa bb rr l i).length → inS tt aa bb rr (alone tt aa bb rr l i) ((alone tt aa bb rr l i).length - 1) p = true := by
    intro p hp
    rw [inS_iff tt aa bb rr (by omega)]
    rw [hlast]
    rw [alone_eq tt aa bb rr hi] at hp
    obtain ⟨k, _, hR, rfl⟩ := keep_from _ l (i + 1) (by omega) p hp
    exact alone_reach tt aa bb rr hi ((inS_iff tt aa bb rr hi k).1 hR)
  have hfull : ∀ (m : List α) (R : Nat → Bool) n, n ≤ m.length → (∀ p, p < n → R p = true) → keep R m n = m.take n := by
    intro m R n
    induction n with
    | zero => intro _ _; simp [keep]
    | succ n ih =>
      intro hn h
      rw [keep_succ R (by omega), if_pos (h n (by omega)), ih (by omega) (fun p hp => h p (by omega)), ← take_snoc (by omega)]
  have := hfull (alone tt aa bb rr l i) _ _ (Nat.le_refl _) hall
  rw [List.take_length] at this
  exact this
end
end Go.Proofs.Ytblalidpeccabaa.Sc
