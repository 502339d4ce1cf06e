/- Conditions: what is parsed well; what is written is read; brackets; lengths. Plain Lean, no program. -/
import Derived.Test.YtmageoieajhhdaaDoorBkP
namespace Go.Proofs.YtmageoieajhhdaaDoor.Bk
open Go Go.Lib Go.RowKit Go.Proofs.YtmageoieajhhdaaDoorW.PrintWords Go.Proofs.YtmageoieajhhdaaDoorW.PrintMore
set_option linter.unusedVariables false
set_option linter.unusedSimpArgs false
inductive Good : Job → Bs → Ex → Bs → Prop
  | bin5 {s s' x} : Good .un s x s' → Good (.bin 5) s x s'
  | bin {k s s1 s2 y x} : k ≤ 4 → Good (.bin (k + 1)) s y s1 → Good (.loop k y) s1 x s2 → Good (.bin k) s x s2
  | stop {k s x} : k ≤ 4 → (∀ c r, trimL s = c :: r → c ∉ ranksF k) → Good (.loop k x) s x (trimL s)
  | step2 {s c r y s1 x} : trimL s = c :: r → c ∈ ranksF 2 → Good (.bin 3) r y s1 → Good (.loop 2 x) s (.bin c x y) s1
  | step {k s c r y s1 x z s2} : k ≤ 4 → k ≠ 2 → trimL s = c :: r → c ∈ ranksF k → Good (.bin (k + 1)) r y s1 → Good (.loop k (.bin c x y)) s1 z s2 → Good (.loop k x) s z s2
  | un1 {s r x s'} : trimL s = 33 :: r → Good .un r x s' → Good .un s (.un 33 x) s'
  | un2 {s r x s'} : trimL s = 45 :: r → Good .un r x s' → Good .un s (.un 126 x) s'
  | paren {s r x s1 s2} : trimL s = 40 :: r → Good (.bin 0) r x s1 → trimL s1 = 41 :: s2 → Good .un s x s2
  | leaf {s x s'} : (∀ c r, trimL s = c :: r → c ≠ 33 ∧ c ≠ 45 ∧ c ≠ 40) → leafF (trimL s) false = (x, s', false) → Good .un s x s'
theorem sign_eq_hit {set s r : Bs} {c : UInt8} (h : trimL s = c :: r) (hc : c ∈ set) : signF set s false = (c, r) := by
  unfold signF
  rw [h]
  simp [hc]
theorem sign_eq_miss {set s : Bs} (h : ∀ c r, trimL s = c :: r → c ∉ set) : signF set s false = (0, trimL s) := by
  unfold signF
  rcases e : trimL s with _ | ⟨c, r⟩
  · rfl
  · simp [h c r e]
theorem good_of_run : ∀ f j s x s', j.ok → runF f j s false = some (x, s', false) → Good j s x s' := by
  intro f
  induction f with
  | zero => intro j s x s' hj h; cases h
  | succ f ih =>
    intro j s x s' hj h
    have notBad : ∀ {j s b x s'}, runF f j s b = some (x, s', false) → b = false := by
      intro j s b x s' h
      cases b with
      | false => rfl
      | true => have := run_bad _ _ _ _ h; simp at this
    cases j with
    | bin k =>
      simp only [Job.ok] at hj
      rw [runF] at h
      by_cases hk : k = 5
      · rw [if_pos hk] at h
        subst hk
        exact .bin5 (ih _ _ _ _ trivial h)
      · rw [if_neg hk] at h
        obtain ⟨⟨y, s1, b1⟩, h1, h2⟩ := Option.bind_eq_some_iff.1 h
        obtain rfl : b1 = false := notBad h2
        exact .bin (by omega) (ih _ _ _ _ (by simp only [Job.ok]; omega) h1) (ih _ _ _ _ (by simp only [Job.ok]; omega) h2)
    | loop k y =>
      simp only [Job.ok] at hj
      rw [runF] at h
      by_cases hs : (signF (ranksF k) s false).1 = 0
      · rw [if_pos hs] at h
        obtain ⟨h1, h2⟩ := sign_miss (ranks_no0 k) hs
        rw [h1] at h
        cases h
        exact .stop hj h2
      · rw [if_neg hs] at h
        obtain ⟨c, r, h1, h2, h3⟩ := sign_hit hs
        rw [h3] at h
        obtain ⟨⟨z, s1, b1⟩, h4, h5⟩ := Option.bind_eq_some_iff.1 h
        simp only at h5
        by_cases hk : k = 2
        · rw [if_pos hk] at h5
          cases h5
          subst hk
          exact .step2 h1 h2 (ih _ _ _ _ (by simp only [Job.ok]; omega) h4)
        · rw [if_neg hk] at h5
          obtain rfl : b1 = false := notBad h5
          exact .step hj hk h1 h2 (ih _ _ _ _ (by simp only [Job.ok]; omega) h4) (ih _ _ _ _ (by simp only [Job.ok]; omega) h5)
    | un =>
      rw [runF] at h
      by_cases e1 : (signF [33, 45] s false).1 = 33
      · rw [if_pos e1] at h
        obtain ⟨c, r, h1, h2, h3⟩ := sign_hit (set := [33, 45]) (s := s) (by rw [e1]; decide)
        rw [h3] at h e1
        simp only at e1
        subst e1
        obtain ⟨⟨z, s1, b1⟩, h4, h5⟩ := Option.bind_eq_some_iff.1 h
        cases h5
        exact .un1 h1 (ih _ _ _ _ trivial h4)
      · rw [if_neg e1] at h
        by_cases e2 : (signF [33, 45] s false).1 = 45
        · rw [if_pos e2] at h
          obtain ⟨c, r, h1, h2, h3⟩ := sign_hit (set := [33, 45]) (s := s) (by rw [e2]; decide)
          rw [h3] at h e2
          simp only at e2
          subst e2
          obtain ⟨⟨z, s1, b1⟩, h4, h5⟩ := Option.bind_eq_some_iff.1 h
          cases h5
          exact .un2 h1 (ih _ _ _ _ trivial h4)
        · rw [if_neg e2] at h
          have e0 : (signF [33, 45] s false).1 = 0 := by
            refine Classical.byContradiction fun hn => ?_
            obtain ⟨c, r, h1, h2, h3⟩ := sign_hit hn
            rw [h3] at e1 e2
            simp only [List.mem_cons, List.not_mem_nil, or_false] at h2
            rcases h2 with rfl | rfl
            · exact e1 rfl
            · exact e2 rfl
          obtain ⟨h1, h2⟩ := sign_miss (by decide) e0
          rw [h1] at h
          simp only at h
          by_cases e3 : (signF [40] (trimL s) false).1 = 0
          · rw [if_pos e3] at h
            obtain ⟨h3, h4⟩ := sign_miss (by decide) e3
            rw [h3] at h
            simp only at h
            rw [trimL_idem] at h h4
            exact .leaf (fun c r hc => by
              have a1 := h2 c r hc
              have a2 := h4 c r hc
              simp only [List.mem_cons, List.not_mem_nil, or_false, not_or] at a1 a2
              exact ⟨a1.1, a1.2, a2⟩) (Option.some.inj h)
          · rw [if_neg e3] at h
            obtain ⟨c, r, h3, h4, h5⟩ := sign_hit e3
            rw [h5] at h
            rw [trimL_idem] at h3
            simp only [List.mem_cons, List.not_mem_nil, or_false] at h4
            subst h4
            obtain ⟨⟨z, s1, b1⟩, h6, h7⟩ := Option.bind_eq_some_iff.1 h
            simp only at h7
            cases b1 with
            | true => simp at h7
            | false =>
              simp only [Bool.false_eq_true, if_false, Option.some.injEq, Prod.mk.injEq, beq_eq_false_iff_ne, ne_eq] at h7
              obtain ⟨rfl, h8, h9⟩ := h7
              obtain ⟨c, r', h10, h11, h12⟩ := sign_hit h9
              rw [h12] at h8
              simp only [List.mem_cons, List.not_mem_nil, or_false] at h11
              subst h11
              simp only at h8
              subst h8
              exact .paren h3 (ih _ _ _ _ (by simp only [Job.ok]; omega) h6) h10
theorem run_of_good {j : Job} {s s' : Bs} {x : Ex} (h : Good j s x s') : ∃ f, runF f j s false = some (x, s', false) := by
  induction h with
  | bin5 _ ih =>
    obtain ⟨f, h⟩ := ih
    exact ⟨f + 1, by rw [runF, if_pos rfl]; exact h⟩
  | @bin k s s1 s2 y x hk _ _ ih1 ih2 =>
    obtain ⟨f, h1⟩ := ih1
    obtain ⟨g, h2⟩ := ih2
    refine ⟨max f g + 1, ?_⟩
    rw [runF, if_neg (by omega), run_le h1 (Nat.le_max_left f g)]
    exact run_le h2 (Nat.le_max_right f g)
  | stop hk h =>
    exact ⟨1, by rw [runF, sign_eq_miss h]; rfl⟩
  | @step2 s c r y s1 x h1 h2 _ ih =>
    obtain ⟨f, h⟩ := ih
    refine ⟨f + 1, ?_⟩
    have hc : c ≠ 0 := fun hc => ranks_no0 2 (hc ▸ h2)
    rw [runF, sign_eq_hit h1 h2, if_neg hc, h]
    rfl
  | @step k s c r y s1 x z s2 hk hk2 h1 h2 _ _ ih1 ih2 =>
    obtain ⟨f, h3⟩ := ih1
    obtain ⟨g, h4⟩ := ih2
    refine ⟨max f g + 1, ?_⟩
    have hc : c ≠ 0 := fun hc => ranks_no0 k (hc ▸ h2)
    rw [runF, sign_eq_hit h1 h2, if_neg hc, run_le h3 (Nat.le_max_left f g)]
    simp only [Option.bind_some]
    rw [if_neg hk2]
    exact run_le h4 (Nat.le_max_right f g)
  | un1 h1 _ ih =>
    obtain ⟨f, h⟩ := ih
    exact ⟨f + 1, by rw [runF, sign_eq_hit h1 (by decide), if_pos rfl, h]; rfl⟩
  | un2 h1 _ ih =>
    obtain ⟨f, h⟩ := ih
    exact ⟨f + 1, by rw [runF, sign_eq_hit h1 (by decide), if_neg (by dsimp only; decide), if_pos rfl, h]; rfl⟩
  | @paren s r x s1 s2 h1 _ h2 ih =>
    obtain ⟨f, h⟩ := ih
    refine ⟨f + 1, ?_⟩
    have m1 : signF [33, 45] s false = (0, trimL s) := sign_eq_miss (fun c r' hc => by rw [h1] at hc; cases hc; decide)
    have m2 : signF [40] (trimL s) false = (40, r) := sign_eq_hit (by rw [trimL_idem, h1]) (by decide)
    rw [runF, m1, if_neg (by dsimp only; decide), if_neg (by dsimp only; decide), m2, if_neg (by dsimp only; decide), h]
    simp only [Option.bind_some, Bool.false_eq_true, if_false]
    rw [sign_eq_hit h2 (by decide)]
    rfl
  | @leaf s x s' h1 h2 =>
    refine ⟨1, ?_⟩
    have m1 : signF [33, 45] s false = (0, trimL s) := sign_eq_miss (fun c r hc => by have := h1 c r hc; simp [this.1, this.2.1])
    have m2 : signF [40] (trimL s) false = (0, trimL s) := by
      rw [sign_eq_miss (fun c r hc => by rw [trimL_idem] at hc; have := h1 c r hc; simp [this.2.2]), trimL_idem]
    rw [runF, m1, if_neg (by dsimp only; decide), if_neg (by dsimp only; decide), m2, if_pos rfl, h2]
theorem Good.uniq {j : Job} {s s1 s2 : Bs} {x y : Ex} (h : Good j s x s1) (h2 : Good j s y s2) : x = y ∧ s1 = s2 := by
  obtain ⟨f, h⟩ := run_of_good h
  obtain ⟨g, h2⟩ := run_of_good h2
  have := run_one h h2
  cases this
  exact ⟨rfl, rfl⟩
/-! numbers and names -/
theorem digit_val {b : UInt8} (h : isD b = true) : (((b.toNat : Int) - 48) % 256) = (b.toNat : Int) - 48 ∧ 0 ≤ (b.toNat : Int) - 48 ∧ (b.toNat : Int) - 48 ≤ 9 := by
  have := of_decide_eq_true h
  omega
theorem w64 {n : Int} (h : -9223372036854775808 ≤ n) (h2 : n < 9223372036854775808) : wrap64 n = n := by unfold wrap64; omega
def nv (w : Bs) : Nat := w.foldl (fun a b => 10 * a + (b.toNat - 48)) 0
theorem nv_snoc (w : Bs) (b : UInt8) : nv (w ++ [b]) = 10 * nv w + (b.toNat - 48) := by unfold nv; rw [List.foldl_append]; rfl
theorem nv_lt : ∀ (n : Nat) (w : Bs), w.length = n → (∀ b ∈ w, isD b = true) → nv w < 10 ^ n := by
  intro n
  induction n with
  | zero => intro w h hd; obtain rfl := List.eq_nil_of_length_eq_zero h; decide
  | succ n ih =>
    intro w h hd
    obtain ⟨p, b, rfl⟩ : ∃ p b, w = p ++ [b] := ⟨w.dropLast, w.getLast (by rintro rfl; cases h), (List.dropLast_concat_getLast _).symm⟩
    have h1 := ih p (by simpa using h) (fun b hb => hd b (by simp [hb]))
    have h2 := digit_val (hd b (by simp))
    rw [nv_snoc, Nat.pow_succ]
    omega
theorem numF_nv : ∀ (n : Nat) (w : Bs), w.length = n → n ≤ 9 → (∀ b ∈ w, isD b = true) → numF w = (nv w : Int) := by
  intro n
  induction n with
  | zero => intro w h _ hd; obtain rfl := List.eq_nil_of_length_eq_zero h; rfl
  | succ n ih =>
    intro w h hn hd
    obtain ⟨p, b, rfl⟩ : ∃ p b, w = p ++ [b] := ⟨w.dropLast, w.getLast (by rintro rfl; cases h), (List.dropLast_concat_getLast _).symm⟩
    have h0 : p.length = n := by simpa using h
    have h1 := ih p h0 (by omega) (fun b hb => hd b (by simp [hb]))
    have h2 := digit_val (hd b (by simp))
    have h3 := nv_lt n p h0 (fun b hb => hd b (by simp [hb]))
    have h4 : (10 : Nat) ^ n ≤ 10 ^ 8 := Nat.pow_le_pow_right (by decide) (by omega)
    have h5 : (10 : Nat) ^ 8 = 100000000 := by decide
    have e : numF (p ++ [b]) = wrap64 (wrap64 (10 * numF p) + ((b.toNat : Int) - 48) % 256) := by unfold numF; rw [List.foldl_append]; rfl
    rw [e, h1, h2.1, nv_snoc, w64 (n := 10 * (nv p : Int)) (by omega) (by omega), w64 (by omega) (by omega)]
    omega
theorem dec_digits (n : Nat) : ∀ b ∈ decDigits n, isD b = true := by
  induction n using Nat.strongRecOn with
  | _ n ih =>
    intro b hb
    rw [decDigits] at hb
    have hd : ∀ d, d < 10 → isD (UInt8.ofNat (48 + d)) = true := by
      intro d hd
      unfold isD
      rw [decide_eq_true_iff, UInt8.toNat_ofNat']
      omega
    split at hb
    · rename_i h
      rw [List.mem_singleton.1 hb]
      exact hd n h
    · rename_i h
      rcases List.mem_append.1 hb with hb | hb
      · exact ih (n / 10) (by omega) b hb
      · rw [List.mem_singleton.1 hb]
        exact hd _ (by omega)
theorem nv_dec (n : Nat) : nv (decDigits n) = n := by
  induction n using Nat.strongRecOn with
  | _ n ih =>
    have hd : ∀ d, d < 10 → (UInt8.ofNat (48 + d)).toNat - 48 = d := by
      intro d hd
      rw [UInt8.toNat_ofNat']
      omega
    rw [decDigits]
    split
    · rename_i h
      show 10 * 0 + ((UInt8.ofNat (48 + n)).toNat - 48) = n
      rw [hd n h]
      omega
    · rename_i h
      rw [nv_snoc, ih (n / 10) (by omega), hd _ (by omega)]
      omega
theorem nDigits_le {n m : Nat} (h : n < 10 ^ m) (hm : 1 ≤ m) : nDigits n ≤ m := by
  induction m generalizing n with
  | zero => omega
  | succ m ih =>
    by_cases h1 : n < 10
    · rw [nDigits_small h1]; omega
    · rw [nDigits_big h1]
      rw [Nat.pow_succ] at h
      have : 1 ≤ m := by
        rcases Nat.eq_zero_or_pos m with rfl | h2
        · simp at h; omega
        · exact h2
      have := ih (n := n / 10) (by omega) this
      omega
theorem dec_len {n m : Nat} (h : n < 10 ^ m) (hm : 1 ≤ m) : (decDigits n).length ≤ m := by rw [decDigits_length]; exact nDigits_le h hm
theorem dec_pos (n : Nat) : 1 ≤ (decDigits n).length := by rw [decDigits_length]; exact nDigits_pos n
theorem d_not_l {b : UInt8} (h : isD b = true) : isL b = false := by
  have := of_decide_eq_true h
  unfold isL
  rw [decide_eq_false_iff_not]
  omega
theorem d_a {b : UInt8} (h : isD b = true) : isA b = true := by unfold isA; rw [h]; rfl
theorem l_a {b : UInt8} (h : isL b = true) : isA b = true := by unfold isA; rw [h]; simp
theorem a_sign {b : UInt8} (h : isA b = true) : b ≠ 32 ∧ b ≠ 33 ∧ b ≠ 45 ∧ b ≠ 40 := by
  refine ⟨?_, ?_, ?_, ?_⟩ <;> (rintro rfl; revert h; decide)
/-- a name, or a number, and what is told of it -/
def Told (w : Bs) (x : Ex) : Prop := (∃ c r, w = c :: r ∧ isL c = true ∧ w.length ≤ 19 ∧ x = .var w) ∨ ((∀ b ∈ w, isD b = true) ∧ w.length ≤ 9 ∧ x = .num (nv w))
theorem take_drop_while (p : UInt8 → Bool) (s : Bs) : s = s.takeWhile p ++ s.dropWhile p := (List.takeWhile_append_dropWhile).symm
theorem takeWhile_app {p : UInt8 → Bool} {w t : Bs} (h1 : ∀ b ∈ w, p b = true) (h2 : ∀ c r, t = c :: r → p c = false) : (w ++ t).takeWhile p = w ∧ (w ++ t).dropWhile p = t := by
  induction w with
  | nil =>
    cases t with
    | nil => exact ⟨rfl, rfl⟩
    | cons c r => have := h2 c r rfl; simp [this]
  | cons a w ih =>
    have ha := h1 a (by simp)
    obtain ⟨i1, i2⟩ := ih (fun b hb => h1 b (by simp [hb]))
    rw [List.cons_append, List.takeWhile_cons, List.dropWhile_cons]
    simp only [ha, if_true]
    exact ⟨by rw [i1], i2⟩
theorem leaf_iff {s s' : Bs} {x : Ex} : leafF s false = (x, s', false) ↔ ∃ w, w ≠ [] ∧ (∀ b ∈ w, isA b = true) ∧ s = w ++ s' ∧ (∀ c r, s' = c :: r → isA c = false) ∧ Told w x := by
  constructor
  · intro h
    have ha : ∀ b ∈ s.takeWhile isA, isA b = true := fun b hb => by
      have := List.all_takeWhile (p := isA) (l := s)
      exact List.all_eq_true.1 this b hb
    have hs := take_drop_while isA s
    have hn : ∀ c r, s.dropWhile isA = c :: r → isA c = false := fun c r hc => by
      have := List.head?_dropWhile_not isA s
      rw [hc] at this
      simpa using this
    unfold leafF at h
    split at h
    · simp at h
    · rename_i c r e
      rw [e] at ha hs
      simp only [Bool.false_eq_true, if_false] at h
      split at h
      · rename_i hl
        simp only [Prod.mk.injEq, decide_eq_false_iff_not] at h
        obtain ⟨rfl, rfl, h3⟩ := h
        exact ⟨c :: r, by simp, ha, hs, hn, .inl ⟨c, r, rfl, hl, by omega, rfl⟩⟩
      · simp only [Prod.mk.injEq, Bool.or_eq_false_iff, decide_eq_false_iff_not] at h
        obtain ⟨rfl, rfl, h3, h4⟩ := h
        have hd : ∀ b ∈ c :: r, isD b = true := fun b hb => by
          have := List.any_eq_false.1 h3 b hb
          simpa using this
        exact ⟨c :: r, by simp, ha, hs, hn, .inr ⟨hd, by omega, by rw [numF_nv _ _ rfl (by omega) hd]⟩⟩
  · rintro ⟨w, h1, h2, rfl, h3, h4⟩
    obtain ⟨e1, e2⟩ := takeWhile_app h2 h3
    obtain ⟨c, r, rfl⟩ : ∃ c r, w = c :: r := by
      cases w with
      | nil => exact absurd rfl h1
      | cons c r => exact ⟨c, r, rfl⟩
    unfold leafF
    rw [e1, e2]
    simp only [Bool.false_eq_true, if_false]
    rcases h4 with ⟨c', r', h5, h6, h7, rfl⟩ | ⟨h5, h6, rfl⟩
    · cases h5
      rw [if_pos h6]
      simp only [Prod.mk.injEq, true_and, decide_eq_false_iff_not]
      omega
    · rw [if_neg (by rw [d_not_l (h5 c (by simp))]; decide), numF_nv _ _ rfl h6 h5]
      simp only [Prod.mk.injEq, true_and, Bool.or_eq_false_iff, decide_eq_false_iff_not]
      exact ⟨List.any_eq_false.2 (fun b hb => by rw [h5 b hb]; decide), by omega⟩
end Go.Proofs.YtmageoieajhhdaaDoor.Bk
