/- What thin keeps: the plain side (lists of numbers alone, no program). -/
import Derived.Lib.SlicesCompact
namespace Go.Proofs.Ytaeamehngbfneaa.Th
open Go Go.Lib

/-! compact of a sorted list -/
theorem up_sorted {d : Array Int} (hs : ∀ i j, i ≤ j → j < d.size → d[i]! ≤ d[j]!) : ∀ m, m ≤ d.size →
    (compactUpTo d m).Pairwise (· < ·) ∧ ∀ x, x ∈ compactUpTo d m ↔ ∃ j, j < m ∧ d[j]! = x
  | 0, _ => by simp [compactUpTo]
  | m + 1, hm => by
    obtain ⟨h1, h2⟩ := up_sorted hs m (by omega)
    rw [compactUpTo_succ]
    by_cases hk : keeps d m = true
    · rw [if_pos hk]
      refine ⟨?_, fun x => ?_⟩
      · rw [List.pairwise_append]
        refine ⟨h1, by simp, fun a ha b hb => ?_⟩
        obtain ⟨j, hj, rfl⟩ := (h2 a).1 ha
        rw [List.mem_singleton] at hb
        subst hb
        have e1 := hs j (m - 1) (by omega) (by omega)
        have e2 := hs (m - 1) m (by omega) (by omega)
        have e3 : d[m]! ≠ d[m - 1]! := by
          simp only [keeps, decide_eq_true_eq] at hk
          rcases hk with h | h
          · omega
          · exact h
        omega
      · rw [List.mem_append, h2, List.mem_singleton]
        constructor
        · rintro (⟨j, hj, e⟩ | rfl)
          · exact ⟨j, by omega, e⟩
          · exact ⟨m, by omega, rfl⟩
        · rintro ⟨j, hj, e⟩
          by_cases hjm : j = m
          · subst hjm; exact .inr e.symm
          · exact .inl ⟨j, by omega, e⟩
    · rw [if_neg hk, List.append_nil]
      refine ⟨h1, fun x => ?_⟩
      rw [h2]
      constructor
      · rintro ⟨j, hj, e⟩; exact ⟨j, by omega, e⟩
      · rintro ⟨j, hj, e⟩
        by_cases hjm : j = m
        · subst hjm
          simp only [keeps, decide_eq_true_eq, not_or, Decidable.not_not] at hk
          exact ⟨j - 1, by omega, by rw [← hk.2]; exact e⟩
        · exact ⟨j, by omega, e⟩

/-- sorted, each once -/
def sortedOnce (l : List Int) : List Int := compact (l.mergeSort fun x y => decide (x ≤ y))

theorem sortedOnce_spec (l : List Int) : (sortedOnce l).Pairwise (· < ·) ∧ ∀ x, x ∈ sortedOnce l ↔ x ∈ l := by
  have hp : (l.mergeSort fun x y => decide (x ≤ y)).Pairwise (fun a b => a ≤ b) := by
    have := List.pairwise_mergeSort (le := fun x y : Int => decide (x ≤ y)) (fun a b c h1 h2 => by simp only [decide_eq_true_eq] at *; omega) (fun a b => by simp only [Bool.or_eq_true, decide_eq_true_eq]; omega) l
    exact this.imp (fun h => by simpa using h)
  have hperm : (l.mergeSort fun x y => decide (x ≤ y)).Perm l := List.mergeSort_perm l _
  unfold sortedOnce compact
  generalize (l.mergeSort fun x y => decide (x ≤ y)) = s at hp hperm
  have hg : ∀ i (h : i < s.length), s.toArray[i]! = s[i] := by
    intro i h; simp [h]
  have h := up_sorted (d := s.toArray) (fun i j hij hj => by
    have hj' : j < s.length := by simpa using hj
    rw [hg i (by omega), hg j hj']
    rcases Nat.lt_or_eq_of_le hij with h | rfl
    · exact (List.pairwise_iff_getElem.1 hp) i j (by omega) hj' h
    · exact Int.le_refl _) s.length (by simp)
  refine ⟨h.1, fun x => ?_⟩
  rw [h.2, ← hperm.mem_iff, List.mem_iff_getElem]
  constructor
  · rintro ⟨j, hj, e⟩; exact ⟨j, hj, by rw [← hg j hj]; exact e⟩
  · rintro ⟨j, hj, e⟩; exact ⟨j, hj, by rw [hg j hj]; exact e⟩

theorem compact_le (l : List Int) : (compact l).length ≤ l.length := by
  unfold compact compactUpTo
  rw [List.length_map]
  exact Nat.le_trans (List.length_filter_le _ _) (by simp)
theorem sortedOnce_le (l : List Int) : (sortedOnce l).length ≤ l.length := by
  unfold sortedOnce
  exact Nat.le_trans (compact_le _) (by simp)

/-! what is kept at n: of the powers below 2 ^ i -/
def pair (n j : Nat) : List Int := [((n - n % 2 ^ j : Nat) : Int), ((n - n % 2 ^ j - 2 ^ j : Nat) : Int)]
def raw (n i : Nat) : List Int := [0, (n : Int)] ++ (List.range i).flatMap (pair n)
theorem raw_zero (n : Nat) : raw n 0 = [0, (n : Int)] := by simp [raw]
theorem raw_succ (n i : Nat) : raw n (i + 1) = raw n i ++ pair n i := by
  unfold raw
  rw [List.range_succ, List.flatMap_append]
  simp
theorem raw_length (n i : Nat) : (raw n i).length = 2 + 2 * i := by
  induction i with
  | zero => simp [raw]
  | succ i ih => rw [raw_succ, List.length_append, ih]; simp [pair]; omega
theorem mem_raw {n i : Nat} {x : Int} : x ∈ raw n i ↔ x = 0 ∨ x = n ∨ ∃ j, j < i ∧ (x = ((n - n % 2 ^ j : Nat) : Int) ∨ x = ((n - n % 2 ^ j - 2 ^ j : Nat) : Int)) := by
  unfold raw pair
  simp only [List.mem_append, List.mem_cons, List.not_mem_nil, or_false, List.mem_flatMap, List.mem_range]
  constructor
  · rintro ((h | h) | ⟨j, hj, h⟩)
    · exact .inl h
    · exact .inr (.inl h)
    · exact .inr (.inr ⟨j, hj, h⟩)
  · rintro (h | h | ⟨j, hj, h⟩)
    · exact .inl (.inl h)
    · exact .inl (.inr h)
    · exact .inr ⟨j, hj, h⟩

/-- how many powers are at most n -/
def pows : Nat → Nat → Nat
  | _, 0 => 0
  | n, f + 1 => if 2 ^ (pows n f) ≤ n then pows n f + 1 else pows n f
structure Pows (n i : Nat) : Prop where
  low : ∀ j, j < i → 2 ^ j ≤ n
  high : n < 2 ^ i
theorem Pows.uniq {n i k : Nat} (h : Pows n i) (h' : Pows n k) : i = k := by
  rcases Nat.lt_trichotomy i k with hl | e | hl
  · exact absurd (h'.low i hl) (by have := h.high; omega)
  · exact e
  · exact absurd (h.low k hl) (by have := h'.high; omega)
def pw (n : Nat) : Nat := if n = 0 then 0 else n.log2 + 1
theorem pw_pows (n : Nat) : Pows n (pw n) := by
  unfold pw
  by_cases h : n = 0
  · subst h; rw [if_pos rfl]; exact ⟨fun j hj => absurd hj (Nat.not_lt_zero _), by simp⟩
  · rw [if_neg h]
    refine ⟨fun j hj => ?_, Nat.lt_log2_self⟩
    exact Nat.le_trans (Nat.pow_le_pow_right (by omega) (by omega : j ≤ n.log2)) (Nat.log2_self_le h)

theorem pw_le {n : Nat} (h : n ≤ 4000) : pw n ≤ 12 := by
  rcases Nat.lt_or_ge 12 (pw n) with h1 | h1
  · have := (pw_pows n).low 12 h1
    omega
  · exact h1
/-- what is kept at n -/
def kept (n : Nat) : List Int := sortedOnce (raw n (pw n))
theorem kept_sorted (n : Nat) : (kept n).Pairwise (· < ·) := (sortedOnce_spec _).1
theorem mem_kept {n : Nat} {x : Int} : x ∈ kept n ↔ x = 0 ∨ x = n ∨ ∃ j, 2 ^ j ≤ n ∧ (x = ((n - n % 2 ^ j : Nat) : Int) ∨ x = ((n - n % 2 ^ j - 2 ^ j : Nat) : Int)) := by
  unfold kept
  rw [(sortedOnce_spec _).2, mem_raw]
  have hP := pw_pows n
  constructor
  · rintro (h | h | ⟨j, hj, h⟩)
    · exact .inl h
    · exact .inr (.inl h)
    · exact .inr (.inr ⟨j, hP.low j hj, h⟩)
  · rintro (h | h | ⟨j, hj, h⟩)
    · exact .inl h
    · exact .inr (.inl h)
    · refine .inr (.inr ⟨j, ?_, h⟩)
      rcases Nat.lt_or_ge j (pw n) with h1 | h1
      · exact h1
      · have := Nat.pow_le_pow_right (n := 2) (by omega) h1
        have := hP.high
        omega
theorem kept_length (n : Nat) : (kept n).length ≤ 2 + 2 * pw n := by
  have := sortedOnce_le (raw n (pw n))
  rw [raw_length] at this
  exact this
theorem kept_pos (n : Nat) : 0 < (kept n).length := List.length_pos_of_mem (mem_kept.2 (.inl rfl))
theorem kept_range {n : Nat} {x : Int} (h : x ∈ kept n) : 0 ≤ x ∧ x ≤ n := by
  rw [mem_kept] at h
  rcases h with h | h | ⟨j, hj, h | h⟩ <;> omega
theorem first_of_sorted {l : List Int} (hs : l.Pairwise (· < ·)) {x : Int} (hx : x ∈ l) (hle : ∀ y ∈ l, x ≤ y) (h : 0 < l.length) : l[0] = x := by
  obtain ⟨i, hi, e⟩ := List.mem_iff_getElem.1 hx
  rcases Nat.eq_zero_or_pos i with rfl | hp
  · exact e
  · have h1 := (List.pairwise_iff_getElem.1 hs) 0 i h hi hp
    have h2 := hle l[0] (List.getElem_mem _)
    omega
theorem last_of_sorted {l : List Int} (hs : l.Pairwise (· < ·)) {x : Int} (hx : x ∈ l) (hle : ∀ y ∈ l, y ≤ x) (h : l.length - 1 < l.length) : l[l.length - 1] = x := by
  obtain ⟨i, hi, e⟩ := List.mem_iff_getElem.1 hx
  by_cases hp : i = l.length - 1
  · subst hp; exact e
  · have h1 := (List.pairwise_iff_getElem.1 hs) i (l.length - 1) hi h (by omega)
    have h2 := hle l[l.length - 1] (List.getElem_mem _)
    omega
theorem kept_first (n : Nat) : (kept n)[0]'(kept_pos n) = 0 :=
  first_of_sorted (kept_sorted n) (mem_kept.2 (.inl rfl)) (fun _ h => (kept_range h).1) _
theorem kept_last (n : Nat) : (kept n)[(kept n).length - 1]'(by have := kept_pos n; omega) = n :=
  last_of_sorted (kept_sorted n) (mem_kept.2 (.inr (.inl rfl))) (fun _ h => (kept_range h).2) _

/-- step by step only the new one comes -/
theorem kept_step {n : Nat} {x : Int} (h : x ∈ kept (n + 1)) (hx : x ≠ ((n + 1 : Nat) : Int)) : x ∈ kept n := by
  rw [mem_kept] at h ⊢
  rcases h with h | h | ⟨j, hj, h⟩
  · exact .inl h
  · exact absurd h hx
  · have hpos : 0 < 2 ^ j := Nat.two_pow_pos j
    by_cases hd : (n + 1) % 2 ^ j = 0
    · rw [hd] at h
      rcases h with h | h
      · exact absurd (by simpa using h) hx
      · by_cases hj2 : 2 ^ j ≤ n
        · refine .inr (.inr ⟨j, hj2, .inl ?_⟩)
          have e : n % 2 ^ j = 2 ^ j - 1 := by
            have h1 := Nat.div_add_mod (n + 1) (2 ^ j)
            have h2 := Nat.div_add_mod n (2 ^ j)
            have h3 := Nat.mod_lt n hpos
            have h4 : (n + 1) / 2 ^ j = n / 2 ^ j + if 2 ^ j ∣ n + 1 then 1 else 0 := Nat.succ_div
            have hdv : 2 ^ j ∣ n + 1 := Nat.dvd_of_mod_eq_zero hd
            rw [if_pos hdv] at h4
            rw [h4, Nat.mul_add] at h1
            omega
          rw [e, h]
          omega
        · have : n + 1 = 2 ^ j := by omega
          refine .inl ?_
          rw [h]; omega
    · have hj2 : 2 ^ j ≤ n := by
        rcases Nat.lt_or_ge n (2 ^ j) with h1 | h1
        · exfalso; apply hd
          have : n + 1 = 2 ^ j := by omega
          rw [this]; exact Nat.mod_self _
        · exact h1
      have e : (n + 1) - (n + 1) % 2 ^ j = n - n % 2 ^ j := by
        have h1 := Nat.div_add_mod (n + 1) (2 ^ j)
        have h2 := Nat.div_add_mod n (2 ^ j)
        have h4 : (n + 1) / 2 ^ j = n / 2 ^ j + if 2 ^ j ∣ n + 1 then 1 else 0 := Nat.succ_div
        have hdv : ¬ 2 ^ j ∣ n + 1 := fun hv => hd (Nat.mod_eq_zero_of_dvd hv)
        rw [if_neg hdv] at h4
        have h4' : (n + 1) / 2 ^ j = n / 2 ^ j := by simpa using h4
        rw [h4'] at h1
        omega
      rw [e] at h
      exact .inr (.inr ⟨j, hj2, h⟩)

/-- the new one alone comes: what is kept at n + 1 is what stays of n, and n + 1 -/
theorem sorted_ext : ∀ {l m : List Int}, l.Pairwise (· < ·) → m.Pairwise (· < ·) → (∀ x, x ∈ l ↔ x ∈ m) → l = m
  | [], [], _, _, _ => rfl
  | [], b :: m, _, _, h => absurd ((h b).2 (List.mem_cons_self ..)) (by simp)
  | a :: l, [], _, _, h => absurd ((h a).1 (List.mem_cons_self ..)) (by simp)
  | a :: l, b :: m, h1, h2, h => by
    rw [List.pairwise_cons] at h1 h2
    have e : a = b := by
      have ha := (h a).1 (List.mem_cons_self ..)
      have hb := (h b).2 (List.mem_cons_self ..)
      rw [List.mem_cons] at ha hb
      rcases ha with ha | ha
      · exact ha
      · rcases hb with hb | hb
        · exact hb.symm
        · have := h1.1 b hb
          have := h2.1 a ha
          omega
    subst e
    congr 1
    refine sorted_ext h1.2 h2.2 fun x => ?_
    constructor
    · intro hx
      rcases List.mem_cons.1 ((h x).1 (List.mem_cons_of_mem _ hx)) with e | e
      · have := h1.1 x hx; omega
      · exact e
    · intro hx
      rcases List.mem_cons.1 ((h x).2 (List.mem_cons_of_mem _ hx)) with e | e
      · have := h2.1 x hx; omega
      · exact e
theorem kept_succ (n : Nat) : kept (n + 1) = (kept n).filter (fun x => (kept (n + 1)).contains x) ++ [((n + 1 : Nat) : Int)] := by
  refine sorted_ext (kept_sorted _) ?_ fun x => ?_
  · rw [List.pairwise_append]
    refine ⟨(kept_sorted n).filter _, by simp, fun a ha b hb => ?_⟩
    rw [List.mem_singleton] at hb
    have := (kept_range (List.mem_filter.1 ha).1).2
    omega
  · rw [List.mem_append, List.mem_filter, List.mem_singleton]
    constructor
    · intro h
      by_cases hx : x = ((n + 1 : Nat) : Int)
      · exact .inr hx
      · exact .inl ⟨kept_step h hx, by simpa using h⟩
    · rintro (⟨_, h⟩ | h)
      · simpa using h
      · exact mem_kept.2 (.inr (.inl h))
theorem filter_both {α : Type} (p : α → Bool) : ∀ l : List α, (l.filter p).length + (l.filter (fun x => !p x)).length = l.length
  | [] => rfl
  | a :: l => by
    have ih := filter_both p l
    cases h : p a <;> simp [h] <;> omega
/-- who is gone -/
def gone (n : Nat) : List Int := (kept n).filter (fun x => !(kept (n + 1)).contains x)
theorem gone_length (n : Nat) : (kept (n + 1)).length + (gone n).length = (kept n).length + 1 := by
  have h := congrArg List.length (kept_succ n)
  rw [List.length_append, List.length_singleton] at h
  have h2 := filter_both (fun x => (kept (n + 1)).contains x) (kept n)
  unfold gone
  omega

/-- the nearer, the more -/
theorem kept_near {n a : Nat} (h : a ≤ n) (hn : (a : Int) ∉ kept n) : ∃ k : Nat, (k : Int) ∈ kept n ∧ k < a ∧ a - k < 2 * (n - a + 1) := by
  have hne : a ≠ n := fun e => hn (mem_kept.2 (.inr (.inl (by rw [e]))))
  have ha0 : a ≠ 0 := fun e => hn (mem_kept.2 (.inl (by rw [e]; rfl)))
  obtain ⟨d, hd⟩ : ∃ d, d = n - a := ⟨_, rfl⟩
  have hd0 : d ≠ 0 := by omega
  have hp1 := Nat.log2_self_le hd0
  have hp2 := Nat.lt_log2_self (n := d)
  obtain ⟨j, hj⟩ : ∃ j, j = d.log2 := ⟨_, rfl⟩
  rw [← hj] at hp1 hp2
  rw [Nat.pow_succ] at hp2
  obtain ⟨p, hp⟩ : ∃ p, p = 2 ^ j := ⟨_, rfl⟩
  have hpos : 0 < p := by rw [hp]; exact Nat.two_pow_pos j
  rw [← hp] at hp1 hp2
  have hpn : 2 ^ j ≤ n := by omega
  have m1 := Nat.mod_lt n hpos
  by_cases hc : n - n % p - p ≤ a
  · have hmem : (((n - n % p - p : Nat) : Int)) ∈ kept n := mem_kept.2 (.inr (.inr ⟨j, hpn, .inr (by rw [hp])⟩))
    refine ⟨n - n % p - p, hmem, ?_, by omega⟩
    rcases Nat.lt_or_eq_of_le hc with h1 | h1
    · exact h1
    · rw [h1] at hmem; exact absurd hmem hn
  · -- the next power
    have hq : 2 ^ (j + 1) = 2 * p := by rw [Nat.pow_succ, hp]; omega
    by_cases hqn : 2 * p ≤ n
    · have m2 := Nat.mod_lt n (show 0 < 2 * p by omega)
      have hmem : (((n - n % (2 * p) - 2 * p : Nat) : Int)) ∈ kept n := mem_kept.2 (.inr (.inr ⟨j + 1, by rw [hq]; exact hqn, .inr (by rw [hq])⟩))
      have hcase : n % (2 * p) = n % p ∨ n % (2 * p) = n % p + p := by
        have h1 := Nat.mod_mul_right_mod n p 2
        rw [Nat.mul_comm p 2] at h1
        have h2 := Nat.div_add_mod (n % (2 * p)) p
        rw [h1] at h2
        have h3 : (n % (2 * p)) / p < 2 := Nat.div_lt_of_lt_mul (by omega)
        generalize (n % (2 * p)) / p = t at h2 h3
        have h4 : t = 0 ∨ t = 1 := by omega
        rcases h4 with h4 | h4 <;> rw [h4] at h2 <;> omega
      exact ⟨n - n % (2 * p) - 2 * p, hmem, by omega, by omega⟩
    · exact ⟨0, mem_kept.2 (.inl rfl), by omega, by omega⟩
end Go.Proofs.Ytaeamehngbfneaa.Th
