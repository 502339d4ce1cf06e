/- Conditions: a plain parser and a plain writer, and what they have to do with each other. Plain Lean, no program. -/
import Derived.Lib.ItoaNum
import Derived.Lib.TrimByte
import Derived.Test.YtmageoieajhhdaaDoorWMore
namespace Go.Proofs.YtmageoieajhhdaaDoor.Bk
open Go Go.Lib Go.RowKit Go.Proofs.YtmageoieajhhdaaDoorW.PrintWords Go.Proofs.YtmageoieajhhdaaDoorW.PrintMore
set_option linter.unusedVariables false
set_option linter.unusedSimpArgs false
abbrev Bs := List UInt8
inductive Ex
  | nil
  | num (n : Int)
  | var (s : Bs)
  | un (op : UInt8) (a : Ex)
  | bin (op : UInt8) (a b : Ex)
def Ex.deep : Ex → Int
  | .nil => 0
  | .num _ => 1
  | .var _ => 1
  | .un _ a => wrap64 (mx 0 a.deep + 1)
  | .bin _ a b => wrap64 (mx (mx 0 a.deep) b.deep + 1)
def isD (b : UInt8) : Bool := decide (48 ≤ b.toNat ∧ b.toNat ≤ 57)
def isL (b : UInt8) : Bool := decide (97 ≤ b.toNat ∧ b.toNat ≤ 122)
def isA (b : UInt8) : Bool := isD b || isL b
def ranksF : Nat → Bs
  | 0 => [124]
  | 1 => [38]
  | 2 => [61, 60]
  | 3 => [43, 45]
  | _ => [42]
def trimL (s : Bs) : Bs := s.dropWhile (· == 32)
def signF (set s : Bs) (bad : Bool) : UInt8 × Bs :=
  match trimL s with
  | [] => (0, [])
  | c :: r => if bad then (0, c :: r) else if c ∈ set then (c, r) else (0, c :: r)
def numF (w : Bs) : Int := w.foldl (fun a b => wrap64 (wrap64 (10 * a) + ((b.toNat : Int) - 48) % 256)) 0
def leafF (s : Bs) (bad : Bool) : Ex × Bs × Bool :=
  match s.takeWhile isA with
  | [] => (.nil, s, true)
  | c :: r =>
    if bad then (.nil, s, true)
    else if isL c then (.var (c :: r), s.dropWhile isA, decide (19 < (c :: r).length))
    else (.num (numF (c :: r)), s.dropWhile isA, (c :: r).any (fun b => !isD b) || decide (9 < (c :: r).length))
inductive Job
  | bin (k : Nat)
  | un
  | loop (k : Nat) (x : Ex)
def runF : Nat → Job → Bs → Bool → Option (Ex × Bs × Bool)
  | 0, _, _, _ => none
  | f + 1, .bin k, s, b =>
    if k = 5 then runF f .un s b
    else (runF f (.bin (k + 1)) s b).bind fun r => runF f (.loop k r.1) r.2.1 r.2.2
  | f + 1, .loop k x, s, b =>
    if (signF (ranksF k) s b).1 = 0 then some (x, (signF (ranksF k) s b).2, b)
    else (runF f (.bin (k + 1)) (signF (ranksF k) s b).2 b).bind fun r =>
      if k = 2 then some (.bin (signF (ranksF k) s b).1 x r.1, r.2.1, r.2.2)
      else runF f (.loop k (.bin (signF (ranksF k) s b).1 x r.1)) r.2.1 r.2.2
  | f + 1, .un, s, b =>
    if (signF [33, 45] s b).1 = 33 then (runF f .un (signF [33, 45] s b).2 b).bind fun r => some (.un 33 r.1, r.2.1, r.2.2)
    else if (signF [33, 45] s b).1 = 45 then (runF f .un (signF [33, 45] s b).2 b).bind fun r => some (.un 126 r.1, r.2.1, r.2.2)
    else if (signF [40] (signF [33, 45] s b).2 b).1 = 0 then some (leafF (signF [40] (signF [33, 45] s b).2 b).2 b)
    else (runF f (.bin 0) (signF [40] (signF [33, 45] s b).2 b).2 b).bind fun r =>
      if r.2.2 then some (r.1, r.2.1, true)
      else some (r.1, (signF [41] r.2.1 false).2, (signF [41] r.2.1 false).1 == 0)
/-! the way of things -/
theorem trimL_cons {c : UInt8} {r : Bs} (h : c ≠ 32) : trimL (c :: r) = c :: r := by unfold trimL; rw [List.dropWhile_cons]; simp [h]
theorem trimL_head {s r : Bs} {c : UInt8} (h : trimL s = c :: r) : c ≠ 32 := by
  intro hc
  have := List.head?_dropWhile_not (· == (32 : UInt8)) s
  unfold trimL at h
  rw [h] at this
  simp [hc] at this
theorem trimL_idem (s : Bs) : trimL (trimL s) = trimL s := by
  rcases h : trimL s with _ | ⟨c, r⟩
  · rfl
  · exact trimL_cons (trimL_head h)
theorem trimL_len (s : Bs) : (trimL s).length ≤ s.length := by
  unfold trimL
  induction s with
  | nil => simp
  | cons c r ih => rw [List.dropWhile_cons]; split <;> simp only [List.length_cons] <;> omega
theorem sign_len (set s : Bs) (b : Bool) : (signF set s b).2.length ≤ s.length := by
  have h := trimL_len s
  unfold signF
  split <;> rename_i e
  · simp
  · rw [e, List.length_cons] at h
    split
    · simpa using h
    · split
      · simp only; omega
      · simpa using h
theorem sign_bad (set s : Bs) : (signF set s true).1 = 0 := by
  unfold signF
  split <;> simp
/-- a sign was taken -/
theorem sign_hit {set s : Bs} (h : (signF set s false).1 ≠ 0) : ∃ c r, trimL s = c :: r ∧ c ∈ set ∧ signF set s false = (c, r) := by
  unfold signF at h ⊢
  split at h <;> rename_i e
  · exact absurd rfl h
  · simp only [Bool.false_eq_true, if_false] at h ⊢
    split at h <;> rename_i m
    · exact ⟨_, _, e, m, by simp [m]⟩
    · exact absurd rfl h
theorem sign_miss {set s : Bs} (h0 : (0 : UInt8) ∉ set) (h : (signF set s false).1 = 0) : signF set s false = (0, trimL s) ∧ ∀ c r, trimL s = c :: r → c ∉ set := by
  unfold signF at h ⊢
  split at h <;> rename_i e
  · rw [e]; exact ⟨rfl, fun c r hc => by cases hc⟩
  · simp only [Bool.false_eq_true, if_false] at h ⊢
    split at h <;> rename_i m
    · exact absurd (h ▸ m) h0
    · rw [e]
      simp only [m, if_false, true_and]
      intro c' r' hc
      cases hc
      exact m
theorem sign_hit_len {set s : Bs} {b : Bool} (h : (signF set s b).1 ≠ 0) : (signF set s b).2.length + 1 ≤ s.length := by
  cases b with
  | true => exact absurd (sign_bad set s) h
  | false =>
    obtain ⟨c, r, h1, _, h2⟩ := sign_hit h
    have := trimL_len s
    rw [h1] at this
    rw [h2]
    simpa using this
theorem ranks_no0 (k : Nat) : (0 : UInt8) ∉ ranksF k := by
  match k with
  | 0 => decide
  | 1 => decide
  | 2 => decide
  | 3 => decide
  | k + 4 => show (0 : UInt8) ∉ [42]; decide
/-! once bad, bad for ever -/
theorem leaf_bad (s : Bs) : (leafF s true).2.2 = true := by
  unfold leafF
  split <;> simp
theorem run_bad : ∀ f j s r, runF f j s true = some r → r.2.2 = true := by
  intro f
  induction f with
  | zero => intro j s r h; cases h
  | succ f ih =>
    intro j s r h
    cases j with
    | bin k =>
      unfold runF at h
      split at h
      · exact ih _ _ _ h
      · obtain ⟨q, h1, h2⟩ := Option.bind_eq_some_iff.1 h
        rw [ih _ _ _ h1] at h2
        exact ih _ _ _ h2
    | loop k x =>
      unfold runF at h
      rw [if_pos (sign_bad _ _)] at h
      cases h
      rfl
    | un =>
      unfold runF at h
      rw [sign_bad, if_neg (by decide), if_neg (by decide), if_pos (sign_bad _ _)] at h
      cases h
      exact leaf_bad _
/-! enough rounds -/
def need : Job → Nat → Nat
  | .bin k, n => 8 * n + 7 - k
  | .un, n => 8 * n + 1
  | .loop _ _, n => 8 * n + 1
theorem leaf_len (s : Bs) (b : Bool) : (leafF s b).2.1.length ≤ s.length := by
  have hd : (s.dropWhile isA).length ≤ s.length := by
    induction s with
    | nil => simp
    | cons c r ih => rw [List.dropWhile_cons]; split <;> simp only [List.length_cons] <;> omega
  unfold leafF
  split
  · exact Nat.le_refl _
  · split
    · exact Nat.le_refl _
    · split <;> exact hd
def Job.ok : Job → Prop
  | .bin k => k ≤ 5
  | .un => True
  | .loop k _ => k ≤ 4
theorem run_total : ∀ f j s b, j.ok → need j s.length ≤ f → ∃ r, runF f j s b = some r ∧ r.2.1.length ≤ s.length := by
  intro f
  induction f with
  | zero =>
    intro j s b hj h
    cases j <;> simp only [need, Job.ok] at h hj <;> omega
  | succ f ih =>
    intro j s b hj h
    cases j with
    | bin k =>
      simp only [need, Job.ok] at h hj
      by_cases hk : k = 5
      · obtain ⟨r, h1, h2⟩ := ih .un s b trivial (by simp only [need]; omega)
        exact ⟨r, by unfold runF; rw [if_pos hk]; exact h1, h2⟩
      · obtain ⟨q, h1, h2⟩ := ih (.bin (k + 1)) s b (by simp only [Job.ok]; omega) (by simp only [need]; omega)
        obtain ⟨r, h3, h4⟩ := ih (.loop k q.1) q.2.1 q.2.2 (by simp only [Job.ok]; omega) (by simp only [need]; omega)
        exact ⟨r, by unfold runF; rw [if_neg hk, h1]; exact h3, by omega⟩
    | loop k x =>
      simp only [need, Job.ok] at h hj
      by_cases hs : (signF (ranksF k) s b).1 = 0
      · exact ⟨_, by unfold runF; rw [if_pos hs], sign_len _ _ _⟩
      · have hl := sign_hit_len hs
        obtain ⟨q, h1, h2⟩ := ih (.bin (k + 1)) (signF (ranksF k) s b).2 b (by simp only [Job.ok]; omega) (by simp only [need]; omega)
        by_cases hk : k = 2
        · exact ⟨_, by unfold runF; rw [if_neg hs, h1]; simp only [Option.bind_some]; rw [if_pos hk], by simp only; omega⟩
        · obtain ⟨r, h3, h4⟩ := ih (.loop k (.bin (signF (ranksF k) s b).1 x q.1)) q.2.1 q.2.2 (by simp only [Job.ok]; omega) (by simp only [need]; omega)
          exact ⟨r, by unfold runF; rw [if_neg hs, h1]; simp only [Option.bind_some]; rw [if_neg hk]; exact h3, by omega⟩
    | un =>
      simp only [need] at h
      by_cases e1 : (signF [33, 45] s b).1 = 33
      · have hl := sign_hit_len (set := [33, 45]) (s := s) (b := b) (by rw [e1]; decide)
        obtain ⟨q, h1, h2⟩ := ih .un (signF [33, 45] s b).2 b trivial (by simp only [need]; omega)
        exact ⟨_, by unfold runF; rw [if_pos e1, h1]; rfl, by simp only; omega⟩
      · by_cases e2 : (signF [33, 45] s b).1 = 45
        · have hl := sign_hit_len (set := [33, 45]) (s := s) (b := b) (by rw [e2]; decide)
          obtain ⟨q, h1, h2⟩ := ih .un (signF [33, 45] s b).2 b trivial (by simp only [need]; omega)
          exact ⟨_, by unfold runF; rw [if_neg e1, if_pos e2, h1]; rfl, by simp only; omega⟩
        · have hl0 := sign_len [33, 45] s b
          by_cases e3 : (signF [40] (signF [33, 45] s b).2 b).1 = 0
          · refine ⟨_, by unfold runF; rw [if_neg e1, if_neg e2, if_pos e3], ?_⟩
            have h3 := leaf_len (signF [40] (signF [33, 45] s b).2 b).2 b
            have h4 := sign_len [40] (signF [33, 45] s b).2 b
            omega
          · have hl := sign_hit_len e3
            obtain ⟨q, h1, h2⟩ := ih (.bin 0) (signF [40] (signF [33, 45] s b).2 b).2 b (by simp only [Job.ok]; omega) (by simp only [need]; omega)
            have h5 := sign_len [41] q.2.1 false
            cases hq : q.2.2 with
            | true => exact ⟨_, by unfold runF; rw [if_neg e1, if_neg e2, if_neg e3, h1]; simp only [Option.bind_some]; rw [if_pos hq], by simp only; omega⟩
            | false => exact ⟨_, by unfold runF; rw [if_neg e1, if_neg e2, if_neg e3, h1]; simp only [Option.bind_some]; rw [if_neg (by rw [hq]; decide)], by simp only; omega⟩
/-- one round more -/
theorem run_more : ∀ f j s b r, runF f j s b = some r → runF (f + 1) j s b = some r := by
  intro f
  induction f with
  | zero => intro j s b r h; cases h
  | succ f ih =>
    intro j s b r h
    cases j with
    | bin k =>
      unfold runF at h ⊢
      by_cases hk : k = 5
      · rw [if_pos hk] at h ⊢
        exact ih _ _ _ _ h
      · rw [if_neg hk] at h ⊢
        obtain ⟨q, h1, h2⟩ := Option.bind_eq_some_iff.1 h
        rw [ih _ _ _ _ h1]
        exact ih _ _ _ _ h2
    | loop k x =>
      rw [runF] at h ⊢
      by_cases hs : (signF (ranksF k) s b).1 = 0
      · rw [if_pos hs] at h ⊢
        exact h
      · rw [if_neg hs] at h ⊢
        obtain ⟨q, h1, h2⟩ := Option.bind_eq_some_iff.1 h
        rw [ih _ _ _ _ h1]
        simp only [Option.bind_some]
        by_cases hk : k = 2
        · rw [if_pos hk] at h2 ⊢
          exact h2
        · rw [if_neg hk] at h2 ⊢
          exact ih _ _ _ _ h2
    | un =>
      rw [runF] at h ⊢
      by_cases e1 : (signF [33, 45] s b).1 = 33
      · rw [if_pos e1] at h ⊢
        obtain ⟨q, h1, h2⟩ := Option.bind_eq_some_iff.1 h
        rw [ih _ _ _ _ h1]
        exact h2
      · rw [if_neg e1] at h ⊢
        by_cases e2 : (signF [33, 45] s b).1 = 45
        · rw [if_pos e2] at h ⊢
          obtain ⟨q, h1, h2⟩ := Option.bind_eq_some_iff.1 h
          rw [ih _ _ _ _ h1]
          exact h2
        · rw [if_neg e2] at h ⊢
          by_cases e3 : (signF [40] (signF [33, 45] s b).2 b).1 = 0
          · rw [if_pos e3] at h ⊢
            exact h
          · rw [if_neg e3] at h ⊢
            obtain ⟨q, h1, h2⟩ := Option.bind_eq_some_iff.1 h
            rw [ih _ _ _ _ h1]
            exact h2
theorem run_le {f g : Nat} {j : Job} {s : Bs} {b : Bool} {r : Ex × Bs × Bool} (h : runF f j s b = some r) (hg : f ≤ g) : runF g j s b = some r := by
  induction g with
  | zero => obtain rfl : f = 0 := by omega
            exact h
  | succ g ih =>
    rcases Nat.lt_or_ge g f with h1 | h1
    · obtain rfl : f = g + 1 := by omega
      exact h
    · exact run_more _ _ _ _ _ (ih h1)
theorem run_one {f g : Nat} {j : Job} {s : Bs} {b : Bool} {r q : Ex × Bs × Bool} (h : runF f j s b = some r) (h2 : runF g j s b = some q) : r = q :=
  Option.some.inj ((run_le h (Nat.le_max_left f g)).symm.trans (run_le h2 (Nat.le_max_right f g)))
end Go.Proofs.YtmageoieajhhdaaDoor.Bk
