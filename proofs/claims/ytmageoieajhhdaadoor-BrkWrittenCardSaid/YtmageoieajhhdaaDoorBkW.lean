/- Conditions: what is written is read; how long it is; its brackets; texts in brackets. Plain Lean, no program. -/
import Derived.Test.YtmageoieajhhdaaDoorBkL
namespace Go.Proofs.YtmageoieajhhdaaDoor.Bk
open Go Go.Lib Go.RowKit Go.Proofs.YtmageoieajhhdaaDoorW.PrintWords Go.Proofs.YtmageoieajhhdaaDoorW.PrintMore
set_option linter.unusedVariables false
set_option linter.unusedSimpArgs false
/-! a text with a bracket behind it -/
theorem trimL_app {s : Bs} {c : UInt8} {r : Bs} (h : trimL s = c :: r) (t : Bs) : trimL (s ++ t) = c :: (r ++ t) := by
  unfold trimL at h ⊢
  induction s with
  | nil => simp at h
  | cons a s ih =>
    rw [List.cons_append, List.dropWhile_cons]
    rw [List.dropWhile_cons] at h
    split at h <;> rename_i e
    · rw [if_pos e]; exact ih h
    · rw [if_neg e]; cases h; rfl
theorem trimL_gone {s : Bs} (h : trimL s = []) (t : Bs) : trimL (s ++ t) = trimL t := by
  unfold trimL at h ⊢
  induction s with
  | nil => rfl
  | cons a s ih =>
    rw [List.cons_append, List.dropWhile_cons]
    rw [List.dropWhile_cons] at h
    split at h <;> rename_i e
    · rw [if_pos e]; exact ih h
    · cases h
theorem trimL_app41 (s t : Bs) : trimL (s ++ 41 :: t) = trimL s ++ 41 :: t := by
  rcases h : trimL s with _ | ⟨c, r⟩
  · rw [trimL_gone h]; exact trimL_cons (by decide)
  · rw [trimL_app h]; rfl
theorem ranks_no41 (k : Nat) : (41 : UInt8) ∉ ranksF k := by
  match k with
  | 0 => decide
  | 1 => decide
  | 2 => decide
  | 3 => decide
  | k + 4 => show (41 : UInt8) ∉ [42]; decide
theorem Good.app {j : Job} {s s' : Bs} {x : Ex} (h : Good j s x s') (t : Bs) : Good j (s ++ 41 :: t) x (s' ++ 41 :: t) := by
  induction h with
  | bin5 _ ih => exact .bin5 ih
  | bin hk _ _ ih1 ih2 => exact .bin hk ih1 ih2
  | @stop k s x hk h =>
    rw [← trimL_app41]
    refine .stop hk (fun c r hc => ?_)
    rw [trimL_app41] at hc
    rcases e : trimL s with _ | ⟨a, q⟩
    · rw [e] at hc; cases hc; exact ranks_no41 k
    · rw [e] at hc; cases hc; exact h _ _ e
  | step2 h1 h2 _ ih => exact .step2 (trimL_app h1 _) h2 ih
  | step hk hk2 h1 h2 _ _ ih1 ih2 => exact .step hk hk2 (trimL_app h1 _) h2 ih1 ih2
  | un1 h1 _ ih => exact .un1 (trimL_app h1 _) ih
  | un2 h1 _ ih => exact .un2 (trimL_app h1 _) ih
  | paren h1 _ h2 ih => exact .paren (trimL_app h1 _) ih (trimL_app h2 _)
  | @leaf s x s' h1 h2 =>
    refine .leaf (fun c r hc => ?_) ?_
    · rw [trimL_app41] at hc
      rcases e : trimL s with _ | ⟨a, q⟩
      · rw [e] at hc; cases hc; decide
      · rw [e] at hc; cases hc; exact h1 _ _ e
    · rw [trimL_app41]
      obtain ⟨w, a1, a2, a3, a4, a5⟩ := leaf_iff.1 h2
      refine leaf_iff.2 ⟨w, a1, a2, by rw [a3, List.append_assoc], fun c r hc => ?_, a5⟩
      cases s' with
      | nil => cases hc; decide
      | cons b q => cases hc; exact a4 _ _ rfl
/-! what is parsed well is whole -/
def Ex.wf : Ex → Prop
  | .nil => False
  | .num n => 0 ≤ n ∧ n < 1000000000
  | .var s => ∃ c r, s = c :: r ∧ isL c = true ∧ s.length ≤ 19 ∧ ∀ b ∈ s, isA b = true
  | .un op a => (op = 33 ∨ op = 126) ∧ a.wf
  | .bin op a b => (∃ k, k ≤ 4 ∧ op ∈ ranksF k) ∧ a.wf ∧ b.wf
theorem told_wf {w : Bs} {x : Ex} (ha : ∀ b ∈ w, isA b = true) (h : Told w x) : x.wf := by
  rcases h with ⟨c, r, h1, h2, h3, rfl⟩ | ⟨h1, h2, rfl⟩
  · exact ⟨c, r, h1, h2, h3, ha⟩
  · have h3 := nv_lt _ w rfl h1
    have h4 : (10 : Nat) ^ w.length ≤ 10 ^ 9 := Nat.pow_le_pow_right (by decide) h2
    have h5 : (10 : Nat) ^ 9 = 1000000000 := by decide
    show 0 ≤ (nv w : Int) ∧ (nv w : Int) < 1000000000
    omega
theorem Good.wf {j : Job} {s s' : Bs} {x : Ex} (h : Good j s x s') : (∀ k y, j = .loop k y → y.wf) → x.wf := by
  induction h with
  | bin5 _ ih => exact fun _ => ih (fun k y e => by cases e)
  | bin hk _ _ ih1 ih2 => exact fun _ => ih2 (fun k y e => by cases e; exact ih1 (fun k y e => by cases e))
  | stop hk h => exact fun h => h _ _ rfl
  | step2 h1 h2 _ ih => exact fun h => ⟨⟨2, by omega, h2⟩, h _ _ rfl, ih (fun k y e => by cases e)⟩
  | step hk hk2 h1 h2 _ _ ih1 ih2 => exact fun h => ih2 (fun k y e => by cases e; exact ⟨⟨_, hk, h2⟩, h _ _ rfl, ih1 (fun k y e => by cases e)⟩)
  | un1 h1 _ ih => exact fun _ => ⟨.inl rfl, ih (fun k y e => by cases e)⟩
  | un2 h1 _ ih => exact fun _ => ⟨.inr rfl, ih (fun k y e => by cases e)⟩
  | paren h1 _ h2 ih => exact fun _ => ih (fun k y e => by cases e)
  | leaf h1 h2 =>
    intro _
    obtain ⟨w, a1, a2, a3, a4, a5⟩ := leaf_iff.1 h2
    exact told_wf a2 a5
/-! the writer -/
def rankF (op : UInt8) : Nat := if op = 124 then 0 else if op = 38 then 1 else if op = 61 ∨ op = 60 then 2 else if op = 43 ∨ op = 45 then 3 else if op = 42 then 4 else if op = 33 ∨ op = 126 then 5 else 6
def Ex.rank : Ex → Nat
  | .nil => 6
  | .num _ => 6
  | .var _ => 6
  | .un op _ => rankF op
  | .bin op _ _ => rankF op
def par (c : Bool) (s : Bs) : Bs := if c then 40 :: (s ++ [41]) else s
def wr : Ex → Nat → Bs
  | .nil, _ => []
  | .num n, l => par (decide (6 < l)) (itoa n)
  | .var s, l => par (decide (6 < l)) s
  | .un op a, l => par (decide (rankF op < l)) ((if op = 126 then 45 else 33) :: wr a 5)
  | .bin op a b, l => par (decide (rankF op < l)) (if rankF op = 2 then wr a 3 ++ op :: wr b 3 else wr a (rankF op) ++ op :: wr b (rankF op + 1))
theorem rank_of {op : UInt8} {k : Nat} (hk : k ≤ 4) (h : op ∈ ranksF k) : rankF op = k := by
  have hc : k = 0 ∨ k = 1 ∨ k = 2 ∨ k = 3 ∨ k = 4 := by omega
  rcases hc with rfl | rfl | rfl | rfl | rfl <;> simp only [ranksF, List.mem_cons, List.not_mem_nil, or_false] at h
  · subst h; rfl
  · subst h; rfl
  · rcases h with rfl | rfl <;> rfl
  · rcases h with rfl | rfl <;> rfl
  · subst h; rfl
theorem ranks_of {op : UInt8} {k : Nat} (hk : k ≤ 4) (h : op ∈ ranksF k) : op ≠ 32 ∧ op ≠ 40 ∧ op ≠ 41 ∧ isA op = false := by
  have hc : k = 0 ∨ k = 1 ∨ k = 2 ∨ k = 3 ∨ k = 4 := by omega
  rcases hc with rfl | rfl | rfl | rfl | rfl <;> simp only [ranksF, List.mem_cons, List.not_mem_nil, or_false] at h
  · subst h; decide
  · subst h; decide
  · rcases h with rfl | rfl <;> decide
  · rcases h with rfl | rfl <;> decide
  · subst h; decide
theorem par_len (c : Bool) (s : Bs) : (par c s).length = if c then s.length + 2 else s.length := by
  unfold par
  split <;> simp
theorem wr_mono (x : Ex) (k l : Nat) (h : k ≤ l) : (wr x k).length ≤ (wr x l).length ∧ (wr x l).length ≤ (wr x k).length + 2 := by
  have hp : ∀ (r : Nat) (s : Bs), (par (decide (r < k)) s).length ≤ (par (decide (r < l)) s).length ∧ (par (decide (r < l)) s).length ≤ (par (decide (r < k)) s).length + 2 := by
    intro r s
    rw [par_len, par_len]
    by_cases h1 : r < k
    · rw [decide_eq_true h1, decide_eq_true (show r < l by omega)]; simp
    · rw [decide_eq_false h1]; simp only [Bool.false_eq_true, if_false]; split <;> omega
  cases x with
  | nil => exact ⟨Nat.le_refl _, Nat.le_add_right _ _⟩
  | num n => exact hp _ _
  | var s => exact hp _ _
  | un op a => exact hp _ _
  | bin op a b => exact hp _ _
/-! no text is shorter than what it is written as -/
def Len : Job → Bs → Ex → Bs → Prop
  | .bin k, s, x, s' => (wr x k).length + s'.length ≤ s.length
  | .un, s, x, s' => (wr x 5).length + s'.length ≤ s.length
  | .loop k y, s, x, s' => ∀ m, (wr y k).length ≤ m → (k = 2 → (wr y 3).length ≤ m) → (wr x k).length + s'.length ≤ m + s.length
theorem trim_cons_len {s r : Bs} {c : UInt8} (h : trimL s = c :: r) : r.length + 1 ≤ s.length := by
  have := trimL_len s
  rw [h] at this
  simpa using this
theorem itoa_nat (n : Nat) : itoa (n : Int) = decDigits n := by unfold itoa; rw [if_neg (by omega), Int.toNat_natCast]
theorem told_len {w : Bs} {x : Ex} (h0 : w ≠ []) (h : Told w x) (l : Nat) (hl : l ≤ 6) : (wr x l).length ≤ w.length := by
  rcases h with ⟨c, r, h1, h2, h3, rfl⟩ | ⟨h1, h2, rfl⟩
  · show (par (decide (6 < l)) w).length ≤ w.length
    rw [decide_eq_false (by omega)]; exact Nat.le_refl _
  · show (par (decide (6 < l)) (itoa (nv w : Int))).length ≤ w.length
    rw [decide_eq_false (by omega), itoa_nat]
    show (decDigits (nv w)).length ≤ w.length
    have h3 := nv_lt _ w rfl h1
    have : 1 ≤ w.length := by
      cases w with
      | nil => exact absurd rfl h0
      | cons c r => simp
    exact dec_len h3 this
theorem Good.len {j : Job} {s s' : Bs} {x : Ex} (h : Good j s x s') : Len j s x s' := by
  induction h with
  | bin5 _ ih => exact ih
  | @bin k s s1 s2 y x hk _ _ ih1 ih2 =>
    have h1 : (wr y (k + 1)).length + s1.length ≤ s.length := ih1
    have h2 := ih2 (wr y (k + 1)).length (wr_mono y k (k + 1) (by omega)).1 (fun e => by subst e; exact Nat.le_refl _)
    show (wr x k).length + s2.length ≤ s.length
    omega
  | @stop k s x hk h =>
    intro m hm _
    have := trimL_len s
    omega
  | @step2 s c r y s1 x h1 h2 _ ih =>
    intro m hm hm2
    have h3 : (wr y 3).length + s1.length ≤ r.length := ih
    have h4 := trim_cons_len h1
    have h5 := hm2 rfl
    have e : wr (.bin c x y) 2 = wr x 3 ++ c :: wr y 3 := by
      show par (decide (rankF c < 2)) (if rankF c = 2 then wr x 3 ++ c :: wr y 3 else _) = _
      rw [rank_of (by omega) h2]; rfl
    rw [e]
    simp only [List.length_append, List.length_cons]
    omega
  | @step k s c r y s1 x z s2 hk hk2 h1 h2 _ _ ih1 ih2 =>
    intro m hm _
    have h3 : (wr y (k + 1)).length + s1.length ≤ r.length := ih1
    have h4 := trim_cons_len h1
    have e : wr (.bin c x y) k = wr x k ++ c :: wr y (k + 1) := by
      show par (decide (rankF c < k)) (if rankF c = 2 then _ else wr x (rankF c) ++ c :: wr y (rankF c + 1)) = _
      rw [rank_of hk h2, if_neg hk2, decide_eq_false (by omega)]; rfl
    have h5 := ih2 (m + 1 + (wr y (k + 1)).length) (by rw [e]; simp only [List.length_append, List.length_cons]; omega) (fun e2 => absurd e2 hk2)
    omega
  | @un1 s r x s' h1 _ ih =>
    have h3 : (wr x 5).length + s'.length ≤ r.length := ih
    have h4 := trim_cons_len h1
    show (33 :: wr x 5).length + s'.length ≤ s.length
    simp only [List.length_cons]
    omega
  | @un2 s r x s' h1 _ ih =>
    have h3 : (wr x 5).length + s'.length ≤ r.length := ih
    have h4 := trim_cons_len h1
    show (45 :: wr x 5).length + s'.length ≤ s.length
    simp only [List.length_cons]
    omega
  | @paren s r x s1 s2 h1 _ h2 ih =>
    have h3 : (wr x 0).length + s1.length ≤ r.length := ih
    have h4 := trim_cons_len h1
    have h5 := trim_cons_len h2
    have h6 := (wr_mono x 0 5 (by omega)).2
    show (wr x 5).length + s2.length ≤ s.length
    omega
  | @leaf s x s' h1 h2 =>
    obtain ⟨w, a1, a2, a3, a4, a5⟩ := leaf_iff.1 h2
    have h3 := told_len a1 a5 5 (by omega)
    have h4 := trimL_len s
    rw [a3, List.length_append] at h4
    show (wr x 5).length + s'.length ≤ s.length
    omega
/-! what is written is read -/
def Stop (k : Nat) (t : Bs) : Prop := ∀ c r, t = c :: r → c ≠ 32 ∧ isA c = false ∧ ∀ j, k ≤ j → j ≤ 4 → c ∉ ranksF j
theorem Stop.up {k l : Nat} {t : Bs} (h : Stop k t) (hl : k ≤ l) : Stop l t := fun c r e => ⟨(h c r e).1, (h c r e).2.1, fun j h1 h2 => (h c r e).2.2 j (by omega) h2⟩
theorem Stop.nil (k : Nat) : Stop k [] := fun c r e => by cases e
theorem Stop.close (k : Nat) (t : Bs) : Stop k (41 :: t) := fun c r e => by cases e; exact ⟨by decide, by decide, fun j _ _ => ranks_no41 j⟩
theorem Stop.op {k j : Nat} {c : UInt8} (hj : j ≤ 4) (hc : c ∈ ranksF j) (h : j < k) (t : Bs) : Stop k (c :: t) := fun c' r e => by
  cases e
  refine ⟨(ranks_of hj hc).1, (ranks_of hj hc).2.2.2, fun i h1 h2 hi => ?_⟩
  have := rank_of hj hc
  have := rank_of h2 hi
  omega
theorem Stop.trim {k : Nat} {t : Bs} (h : Stop k t) : trimL t = t := by
  cases t with
  | nil => rfl
  | cons c r => exact trimL_cons (h c r rfl).1
theorem Stop.halt {k : Nat} {t : Bs} (h : Stop k t) (hk : k ≤ 4) (x : Ex) : Good (.loop k x) t x t := by
  have := Good.stop (k := k) (s := t) (x := x) hk (fun c r e => by rw [h.trim] at e; exact (h c r e).2.2 k (Nat.le_refl _) hk)
  rwa [h.trim] at this
theorem down {s : Bs} {x : Ex} {m : Nat} (hm : m ≤ 5) (h : ∀ t, Stop m t → Good (.bin m) (s ++ t) x t) : ∀ d k, k + d = m → ∀ t, Stop k t → Good (.bin k) (s ++ t) x t
  | 0, k, e, t, ht => by obtain rfl : k = m := by omega
                         exact h t ht
  | d + 1, k, e, t, ht => .bin (by omega) (down hm h d (k + 1) (by omega) t (ht.up (by omega))) (ht.halt (by omega) x)
/-- in brackets -/
theorem bracket {s : Bs} {x : Ex} {s1 : Bs} {t : Bs} (h : Good (.bin 0) (s ++ 41 :: t) x s1) (h1 : trimL s1 = 41 :: t) : Good .un (40 :: (s ++ 41 :: t)) x t :=
  .paren (trimL_cons (by decide)) h h1
theorem par_mid (c : Bool) (s t : Bs) : par c s ++ t = if c then 40 :: (s ++ 41 :: t) else s ++ t := by
  unfold par
  split <;> simp
theorem told_of_wf_num {n : Int} (h : 0 ≤ n ∧ n < 1000000000) : itoa n ≠ [] ∧ (∀ b ∈ itoa n, isA b = true) ∧ Told (itoa n) (.num n) ∧ (∀ c r, itoa n = c :: r → isD c = true) := by
  obtain ⟨m, rfl⟩ : ∃ m : Nat, n = (m : Int) := ⟨n.toNat, by omega⟩
  rw [itoa_nat]
  have h1 := dec_pos m
  have h9 : (10 : Nat) ^ 9 = 1000000000 := by decide
  refine ⟨fun e => by rw [e] at h1; simp at h1, fun b hb => d_a (dec_digits m b hb), .inr ⟨dec_digits m, dec_len (by omega) (by omega), by rw [nv_dec]⟩, fun c r e => dec_digits m c (by rw [e]; simp)⟩
theorem leaf_read {w : Bs} {x : Ex} (h0 : w ≠ []) (h1 : ∀ b ∈ w, isA b = true) (h2 : Told w x) (t : Bs) (ht : Stop 5 t) : Good .un (w ++ t) x t := by
  obtain ⟨c, r, rfl⟩ : ∃ c r, w = c :: r := by
    cases w with
    | nil => exact absurd rfl h0
    | cons c r => exact ⟨c, r, rfl⟩
  have ha := a_sign (h1 c (by simp))
  have e : trimL (c :: r ++ t) = c :: r ++ t := trimL_cons ha.1
  refine .leaf (fun c' r' hc => ?_) ?_
  · rw [e] at hc
    cases hc
    exact ⟨ha.2.1, ha.2.2.1, ha.2.2.2⟩
  · rw [e]
    exact leaf_iff.2 ⟨c :: r, h0, h1, rfl, fun c' r' e' => (ht c' r' e').2.1, h2⟩
theorem wr_read : ∀ (x : Ex), x.wf → (∀ k, k ≤ 5 → ∀ t, Stop k t → Good (.bin k) (wr x k ++ t) x t) ∧ (∀ k, k ≤ 4 → k ≠ 2 → ∀ t z s2, Stop (k + 1) t → Good (.loop k x) t z s2 → Good (.bin k) (wr x k ++ t) z s2)
  | .nil, h => h.elim
  | .num n, h => by
    obtain ⟨a1, a2, a3, _⟩ := told_of_wf_num h
    have hw : ∀ k, k ≤ 5 → wr (.num n) k = itoa n := fun k hk => by show par (decide (6 < k)) (itoa n) = itoa n; rw [decide_eq_false (by omega)]; rfl
    have h1 : ∀ k, k ≤ 5 → ∀ t, Stop k t → Good (.bin k) (itoa n ++ t) (.num n) t := fun k hk => down (m := 5) (Nat.le_refl _) (fun t ht => .bin5 (leaf_read a1 a2 a3 t ht)) (5 - k) k (by omega)
    exact ⟨fun k hk t ht => by rw [hw k hk]; exact h1 k hk t ht, fun k hk hk2 t z s2 ht hz => by rw [hw k (by omega)]; exact .bin hk (h1 (k + 1) (by omega) t ht) hz⟩
  | .var s, h => by
    obtain ⟨c, r, b1, b2, b3, b4⟩ := h
    have hw : ∀ k, k ≤ 5 → wr (.var s) k = s := fun k hk => by show par (decide (6 < k)) s = s; rw [decide_eq_false (by omega)]; rfl
    have h1 : ∀ k, k ≤ 5 → ∀ t, Stop k t → Good (.bin k) (s ++ t) (.var s) t := fun k hk => down (m := 5) (Nat.le_refl _) (fun t ht => .bin5 (leaf_read (by rw [b1]; simp) b4 (.inl ⟨c, r, b1, b2, b3, rfl⟩) t ht)) (5 - k) k (by omega)
    exact ⟨fun k hk t ht => by rw [hw k hk]; exact h1 k hk t ht, fun k hk hk2 t z s2 ht hz => by rw [hw k (by omega)]; exact .bin hk (h1 (k + 1) (by omega) t ht) hz⟩
  | .un op a, h => by
    obtain ⟨hop, ha⟩ := h
    obtain ⟨ih, _⟩ := wr_read a ha
    have hr : rankF op = 5 := by rcases hop with rfl | rfl <;> rfl
    have hw : ∀ k, k ≤ 5 → wr (.un op a) k = (if op = 126 then 45 else 33) :: wr a 5 := fun k hk => by
      show par (decide (rankF op < k)) _ = _
      rw [hr, decide_eq_false (by omega)]; rfl
    have h0 : ∀ t, Stop 5 t → Good .un (((if op = 126 then 45 else 33) :: wr a 5) ++ t) (.un op a) t := fun t ht => by
      have hg : Good .un (wr a 5 ++ t) a t := by
        have := ih 5 (Nat.le_refl _) t ht
        cases this with
        | bin5 h => exact h
        | bin hk _ _ => omega
      rcases hop with rfl | rfl
      · exact .un1 (trimL_cons (by decide)) hg
      · exact .un2 (trimL_cons (by decide)) hg
    have h1 : ∀ k, k ≤ 5 → ∀ t, Stop k t → Good (.bin k) (((if op = 126 then 45 else 33) :: wr a 5) ++ t) (.un op a) t := fun k hk => down (m := 5) (Nat.le_refl _) (fun t ht => .bin5 (h0 t ht)) (5 - k) k (by omega)
    exact ⟨fun k hk t ht => by rw [hw k hk]; exact h1 k hk t ht, fun k hk hk2 t z s2 ht hz => by rw [hw k (by omega)]; exact .bin hk (h1 (k + 1) (by omega) t ht) hz⟩
  | .bin op a b, h => by
    obtain ⟨⟨r, hr4, hop⟩, ha, hb⟩ := h
    obtain ⟨ia1, ia2⟩ := wr_read a ha
    obtain ⟨ib1, _⟩ := wr_read b hb
    have hr := rank_of hr4 hop
    obtain ⟨core, hcore⟩ : ∃ core, core = (if r = 2 then wr a 3 ++ op :: wr b 3 else wr a r ++ op :: wr b (r + 1)) := ⟨_, rfl⟩
    have hw : ∀ k, wr (.bin op a b) k = par (decide (r < k)) core := fun k => by
      show par (decide (rankF op < k)) (if rankF op = 2 then wr a 3 ++ op :: wr b 3 else wr a (rankF op) ++ op :: wr b (rankF op + 1)) = _
      rw [hr, hcore]
    have hsp : op ≠ 32 := (ranks_of hr4 hop).1
    -- at its own rank
    have own2 : r ≠ 2 → ∀ t z s2, Stop (r + 1) t → Good (.loop r (.bin op a b)) t z s2 → Good (.bin r) (core ++ t) z s2 := fun hr2 t z s2 ht hz => by
      rw [hcore, if_neg hr2, List.append_assoc, List.cons_append]
      exact ia2 r hr4 hr2 _ z s2 (Stop.op hr4 hop (by omega) _) (.step hr4 hr2 (trimL_cons hsp) hop (ib1 (r + 1) (by omega) t ht) hz)
    have own1 : ∀ t, Stop r t → Good (.bin r) (core ++ t) (.bin op a b) t := fun t ht => by
      by_cases hr2 : r = 2
      · subst hr2
        rw [hcore, if_pos rfl, List.append_assoc, List.cons_append]
        exact .bin (by omega) (ia1 3 (by omega) _ (Stop.op hr4 hop (by omega) _)) (.step2 (trimL_cons hsp) hop (ib1 3 (by omega) t (ht.up (by omega))))
      · exact own2 hr2 t _ _ (ht.up (by omega)) (ht.halt hr4 _)
    have low : ∀ k, k ≤ r → ∀ t, Stop k t → Good (.bin k) (core ++ t) (.bin op a b) t := fun k hk => down (m := r) (by omega) own1 (r - k) k (by omega)
    have high : ∀ k, k ≤ 5 → ∀ t, Stop k t → Good (.bin k) ((40 :: (core ++ [41])) ++ t) (.bin op a b) t := fun k hk => down (m := 5) (Nat.le_refl _) (fun t ht => by
      have := bracket (low 0 (by omega) (41 :: t) (Stop.close 0 t)) (trimL_cons (by decide))
      simpa using Good.bin5 this) (5 - k) k (by omega)
    have one : ∀ k, k ≤ 5 → ∀ t, Stop k t → Good (.bin k) (wr (.bin op a b) k ++ t) (.bin op a b) t := fun k hk t ht => by
      rw [hw]
      by_cases h1 : r < k
      · rw [decide_eq_true h1]; exact high k hk t ht
      · rw [decide_eq_false h1]; exact low k (by omega) t ht
    refine ⟨one, fun k hk hk2 t z s2 ht hz => ?_⟩
    by_cases h1 : k = r
    · subst h1
      rw [hw, decide_eq_false (by omega)]
      exact own2 hk2 t z s2 ht hz
    · have : wr (.bin op a b) k = wr (.bin op a b) (k + 1) := by
        rw [hw, hw]
        congr 1
        rw [decide_eq_decide]
        omega
      rw [this]
      exact .bin hk (one (k + 1) (by omega) t ht) hz
end Go.Proofs.YtmageoieajhhdaaDoor.Bk
