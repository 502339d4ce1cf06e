/- Conditions: the laws in plain words: forwards and backwards; De Morgan; written anew. Plain Lean, no program. -/
import Derived.Test.YtmageoieajhhdaaDoorBkQ
namespace Go.Proofs.YtmageoieajhhdaaDoor.Bk
open Go Go.RowKit Go.Proofs.YtmageoieajhhdaaDoorW.PrintWords Go.Proofs.YtmageoieajhhdaaDoorW.PrintLast Go.Proofs.YtmageoieajhhdaaDoorW.PrintMore
open Go.Lib hiding intOf
set_option linter.unusedVariables false
set_option linter.unusedSimpArgs false
/-! forwards and backwards -/
theorem scan_fwd (L : List Vs) (x : Ex) : ∀ (d m n : Nat), m + d = n → n = L.length → ∀ r1 r2, scanF L x (List.range' m d) = (r1, r2, 0) →
    (∀ j, m ≤ j → j < (if r2 then r1.toNat else n) → valF (L.getD j []) x = some 0) ∧ (r2 = true → ∃ a : Nat, r1 = (a : Int) ∧ m ≤ a ∧ a < n ∧ ∃ u, u ≠ 0 ∧ valF (L.getD a []) x = some u)
  | 0, m, n, h, hn, r1, r2, hs => by
    cases hs
    exact ⟨fun j h1 h2 => by simp at h2; omega, fun h => by cases h⟩
  | d + 1, m, n, h, hn, r1, r2, hs => by
    rw [List.range'_succ, scanF] at hs
    rcases hv : valF (L.getD m []) x with _ | u
    · rw [hv] at hs; simp at hs
    · rw [hv] at hs
      simp only at hs
      by_cases hu : u = 0
      · rw [if_pos hu] at hs
        obtain ⟨h1, h2⟩ := scan_fwd L x d (m + 1) n (by omega) hn r1 r2 hs
        refine ⟨fun j hj hj2 => ?_, fun hr => ?_⟩
        · rcases Nat.lt_or_ge m j with h3 | h3
          · exact h1 j (by omega) hj2
          · obtain rfl : j = m := by omega
            rw [hv, hu]
        · obtain ⟨a, e, h3, h4, h5⟩ := h2 hr
          exact ⟨a, e, by omega, h4, h5⟩
      · rw [if_neg hu] at hs
        cases hs
        exact ⟨fun j h1 h2 => by simp at h2; omega, fun _ => ⟨m, rfl, Nat.le_refl _, by omega, u, hu, hv⟩⟩
theorem scan_bwd (L : List Vs) (x : Ex) : ∀ (m : Nat) r1 r2, scanF L x (List.range m).reverse = (r1, r2, 0) →
    (∀ j, j < m → (r2 = true → r1 < (j : Int)) → valF (L.getD j []) x = some 0) ∧ (r2 = true → ∃ a : Nat, r1 = (a : Int) ∧ a < m ∧ ∃ u, u ≠ 0 ∧ valF (L.getD a []) x = some u)
  | 0, r1, r2, hs => by
    cases hs
    exact ⟨fun j h1 => by omega, fun h => by cases h⟩
  | m + 1, r1, r2, hs => by
    rw [List.range_succ, List.reverse_append] at hs
    have hs : (match valF (L.getD m []) x with | none => (0, false, 5) | some n => if n = 0 then scanF L x (List.range m).reverse else ((m : Int), true, 0)) = (r1, r2, 0) := hs
    rcases hv : valF (L.getD m []) x with _ | u
    · rw [hv] at hs; simp at hs
    · rw [hv] at hs
      simp only at hs
      by_cases hu : u = 0
      · rw [if_pos hu] at hs
        obtain ⟨h1, h2⟩ := scan_bwd L x m r1 r2 hs
        refine ⟨fun j hj hj2 => ?_, fun hr => ?_⟩
        · rcases Nat.lt_or_ge j m with h3 | h3
          · exact h1 j h3 hj2
          · obtain rfl : j = m := by omega
            rw [hv, hu]
        · obtain ⟨a, e, h3, h4⟩ := h2 hr
          exact ⟨a, e, by omega, h4⟩
      · rw [if_neg hu] at hs
        cases hs
        exact ⟨fun j h1 h2 => by have := h2 rfl; omega, fun _ => ⟨m, rfl, by omega, u, hu, hv⟩⟩
theorem first_err {t : Bs} {L : List Vs} {m : Int} {back : Bool} {r1 : Int} {r2 : Bool} {r3 : Int} (h : firstF t L m back = (r1, r2, r3)) (h3 : r3 ≠ 0) : r2 = false := by
  have hs : ∀ l, ∀ r1 r2 r3, scanF L (parseF t).1 l = (r1, r2, r3) → r3 ≠ 0 → r2 = false := by
    intro l
    induction l with
    | nil => intro r1 r2 r3 h h3; cases h; rfl
    | cons i l ih =>
      intro r1 r2 r3 h h3
      rw [scanF] at h
      split at h
      · cases h; rfl
      · split at h
        · exact ih _ _ _ h h3
        · cases h; exact absurd rfl h3
  unfold firstF at h
  split at h
  · cases h; rfl
  · split at h
    · cases h; rfl
    · split at h
      · cases h; rfl
      · exact hs _ _ _ _ h h3
structure WaysOk (t : Bs) (L : List Vs) (m a : Int) (is : Bool) (b : Int) (was : Bool) : Prop where
  m0 : 0 ≤ m
  m1 : m < (L.length : Int)
  a0 : is = true → m ≤ a ∧ a < (L.length : Int)
  b0 : was = true → 0 ≤ b ∧ b ≤ m
  zero : ∀ j : Nat, (if was then b else -1) < (j : Int) → (j : Int) < (if is then a else (L.length : Int)) → valueF t (L.getD j []) = (0, 0)
  same : ((is && (a == m)) == (was && (b == m))) = true
theorem ways_ok {t : Bs} {L : List Vs} {m a : Int} {is : Bool} {b : Int} {was : Bool} (h1 : firstF t L m false = (a, is, 0)) (h2 : firstF t L m true = (b, was, 0)) : WaysOk t L m a is b was := by
  have hp : (parseF t).2 = 0 := by
    refine Classical.byContradiction fun hn => ?_
    unfold firstF at h1
    rw [if_pos hn] at h1
    rw [Prod.mk.injEq, Prod.mk.injEq] at h1
    exact hn h1.2.2
  have hv : ∀ l u, valF l (parseF t).1 = some u → valueF t l = (u, 0) := fun l u hu => by
    unfold valueF
    rw [if_neg (by rw [hp]; simp), hu]
  unfold firstF at h1 h2
  rw [if_neg (by rw [hp]; simp)] at h1 h2
  split at h1
  · simp at h1
  · rename_i hl
    rw [if_neg hl] at h2
    split at h1
    · simp at h1
    · rename_i hm
      rw [if_neg hm] at h2
      obtain ⟨i, rfl⟩ : ∃ i : Nat, m = (i : Int) := ⟨m.toNat, by omega⟩
      rw [Int.toNat_natCast] at h1 h2
      have hi : i < L.length := by omega
      obtain ⟨f1, f2⟩ := scan_fwd L (parseF t).1 (L.length - i) i L.length (by omega) rfl a is h1
      obtain ⟨g1, g2⟩ := scan_bwd L (parseF t).1 (i + 1) b was h2
      refine ⟨by omega, by omega, fun hs => ?_, fun hs => ?_, fun j hj1 hj2 => ?_, ?_⟩
      · obtain ⟨q, rfl, h3, h4, _⟩ := f2 hs; omega
      · obtain ⟨q, rfl, h3, _⟩ := g2 hs; omega
      · refine hv _ _ ?_
        rcases Nat.lt_or_ge j i with h3 | h3
        · exact g1 j (by omega) (fun hw => by rw [if_pos hw] at hj1; exact hj1)
        · refine f1 j h3 ?_
          cases is with
          | true => simp only [if_true] at hj2 ⊢; omega
          | false => simp only [Bool.false_eq_true, if_false] at hj2 ⊢; omega
      · have key1 : (is && (a == (i : Int))) = true ↔ ∃ u, u ≠ 0 ∧ valF (L.getD i []) (parseF t).1 = some u := by
          constructor
          · intro h
            rw [Bool.and_eq_true, beq_iff_eq] at h
            obtain ⟨q, e, _, _, h5⟩ := f2 h.1
            obtain rfl : q = i := by omega
            exact h5
          · rintro ⟨u, hu, hvu⟩
            rw [Bool.and_eq_true, beq_iff_eq]
            cases is with
            | false =>
              have := f1 i (Nat.le_refl _) (by simp only [Bool.false_eq_true, if_false]; exact hi)
              rw [hvu] at this
              exact absurd (Option.some.inj this) hu
            | true =>
              refine ⟨rfl, ?_⟩
              obtain ⟨q, e, h3, _, _⟩ := f2 rfl
              rcases Nat.lt_or_ge i q with h6 | h6
              · have := f1 i (Nat.le_refl _) (by simp only [if_true]; omega)
                rw [hvu] at this
                exact absurd (Option.some.inj this) hu
              · omega
        have key2 : (was && (b == (i : Int))) = true ↔ ∃ u, u ≠ 0 ∧ valF (L.getD i []) (parseF t).1 = some u := by
          constructor
          · intro h
            rw [Bool.and_eq_true, beq_iff_eq] at h
            obtain ⟨q, e, _, h5⟩ := g2 h.1
            obtain rfl : q = i := by omega
            exact h5
          · rintro ⟨u, hu, hvu⟩
            rw [Bool.and_eq_true, beq_iff_eq]
            cases was with
            | false =>
              have := g1 i (by omega) (fun h => by cases h)
              rw [hvu] at this
              exact absurd (Option.some.inj this) hu
            | true =>
              refine ⟨rfl, ?_⟩
              obtain ⟨q, e, h3, _⟩ := g2 rfl
              rcases Nat.lt_or_ge q i with h6 | h6
              · have := g1 i (by omega) (fun _ => by omega)
                rw [hvu] at this
                exact absurd (Option.some.inj this) hu
              · omega
        rw [beq_iff_eq, Bool.eq_iff_iff, key1, key2]
/-! De Morgan -/
theorem atom {a : Bs} {x : Ex} (h : Is a x) (t : Bs) : Good .un (40 :: (a ++ 41 :: t)) x t := by
  obtain ⟨_, _, s, hg, hs⟩ := h
  exact bracket (hg.app t) (by rw [trimL_app41, hs]; rfl)
theorem atom_bin {a : Bs} {x : Ex} (h : Is a x) (k : Nat) (hk : k ≤ 5) (t : Bs) (ht : Stop k t) : Good (.bin k) (40 :: (a ++ 41 :: t)) x t := by
  have := down (s := 40 :: (a ++ [41])) (x := x) (m := 5) (Nat.le_refl _) (fun t ht => by
    have := Good.bin5 (atom h t)
    simpa using this) (5 - k) k (by omega) t ht
  simpa using this
theorem un_bin {s : Bs} {x : Ex} (h : ∀ t, Good .un (s ++ t) x t) (k : Nat) (hk : k ≤ 5) (t : Bs) (ht : Stop k t) : Good (.bin k) (s ++ t) x t :=
  down (s := s) (x := x) (m := 5) (Nat.le_refl _) (fun t ht => .bin5 (h t)) (5 - k) k (by omega) t ht
theorem Is.of_good {t : Bs} {x y : Ex} {s : Bs} (h : Is t x) (hg : Good (.bin 0) t y s) : x = y := by
  obtain ⟨_, _, s2, hg2, _⟩ := h
  exact (hg2.uniq hg).1
def sAnd (a b : Bs) : Bs := [33, 40, 40] ++ a ++ [41, 38, 40] ++ b ++ [41, 41]
def sOr (a b : Bs) : Bs := [33, 40] ++ a ++ [41, 124, 33, 40] ++ b ++ [41]
def sLess (a b : Bs) : Bs := [40] ++ a ++ [41, 60, 40] ++ b ++ [41]
def sSum (a b : Bs) : Bs := [40] ++ a ++ [41, 43, 40] ++ b ++ [41, 45, 40] ++ b ++ [41, 45, 40] ++ a ++ [41]
theorem good_and {a b : Bs} {x y : Ex} (ha : Is a x) (hb : Is b y) : Good (.bin 0) (sAnd a b) (.un 33 (.bin 38 x y)) [] := by
  have e : sAnd a b = 33 :: 40 :: ((40 :: (a ++ 41 :: (38 :: (40 :: (b ++ 41 :: [])))) ) ++ 41 :: []) := by simp [sAnd]
  rw [e]
  have h1 : Good (.bin 0) ((40 :: (a ++ 41 :: (38 :: (40 :: (b ++ 41 :: []))))) ++ 41 :: []) (.bin 38 x y) (41 :: []) := by
    have e2 : (40 :: (a ++ 41 :: (38 :: (40 :: (b ++ 41 :: []))))) ++ 41 :: [] = 40 :: (a ++ 41 :: (38 :: (40 :: (b ++ 41 :: (41 :: []))))) := by simp
    rw [e2]
    refine .bin (by omega) (.bin (by omega) (atom_bin ha 2 (by omega) _ (Stop.op (k := 2) (j := 1) (by omega) (by decide) (by omega) _)) (.step (by omega) (by omega) (trimL_cons (by decide)) (by decide) (atom_bin hb 2 (by omega) _ (Stop.close 2 _)) ((Stop.close 1 _).halt (by omega) _))) ((Stop.close 0 _).halt (by omega) _)
  have h2 : ∀ t, Good .un ((33 :: 40 :: ((40 :: (a ++ 41 :: (38 :: (40 :: (b ++ 41 :: []))))) ++ 41 :: [])) ++ t) (.un 33 (.bin 38 x y)) t := fun t => by
    have h3 := (atom (a := 40 :: (a ++ 41 :: (38 :: (40 :: (b ++ 41 :: []))))) (x := .bin 38 x y) (t := t)) 
    have h4 : Good (.bin 0) ((40 :: (a ++ 41 :: (38 :: (40 :: (b ++ 41 :: []))))) ++ 41 :: t) (.bin 38 x y) (41 :: t) := by
      have e2 : (40 :: (a ++ 41 :: (38 :: (40 :: (b ++ 41 :: []))))) ++ 41 :: t = 40 :: (a ++ 41 :: (38 :: (40 :: (b ++ 41 :: (41 :: t))))) := by simp
      rw [e2]
      exact .bin (by omega) (.bin (by omega) (atom_bin ha 2 (by omega) _ (Stop.op (k := 2) (j := 1) (by omega) (by decide) (by omega) _)) (.step (by omega) (by omega) (trimL_cons (by decide)) (by decide) (atom_bin hb 2 (by omega) _ (Stop.close 2 _)) ((Stop.close 1 _).halt (by omega) _))) ((Stop.close 0 _).halt (by omega) _)
    have h5 := bracket h4 (trimL_cons (by decide))
    have e3 : (33 :: 40 :: ((40 :: (a ++ 41 :: (38 :: (40 :: (b ++ 41 :: []))))) ++ 41 :: [])) ++ t = 33 :: (40 :: ((40 :: (a ++ 41 :: (38 :: (40 :: (b ++ 41 :: []))))) ++ 41 :: t)) := by simp
    rw [e3]
    exact .un1 (trimL_cons (by decide)) h5
  have := un_bin h2 0 (by omega) [] (Stop.nil 0)
  simpa using this
theorem good_or {a b : Bs} {x y : Ex} (ha : Is a x) (hb : Is b y) : Good (.bin 0) (sOr a b) (.bin 124 (.un 33 x) (.un 33 y)) [] := by
  have e : sOr a b = (33 :: (40 :: (a ++ [41]))) ++ (124 :: ((33 :: (40 :: (b ++ [41]))) ++ [])) := by simp [sOr]
  rw [e]
  have hn : ∀ {c : Bs} {z : Ex}, Is c z → ∀ k, k ≤ 5 → ∀ t, Stop k t → Good (.bin k) ((33 :: (40 :: (c ++ [41]))) ++ t) (.un 33 z) t := fun {c z} hc k hk t ht => un_bin (fun t => by
    have e2 : (33 :: (40 :: (c ++ [41]))) ++ t = 33 :: (40 :: (c ++ 41 :: t)) := by simp
    rw [e2]
    exact .un1 (trimL_cons (by decide)) (atom hc t)) k hk t ht
  exact .bin (by omega) (hn ha 1 (by omega) _ (Stop.op (k := 1) (j := 0) (by omega) (by decide) (by omega) _)) (.step (by omega) (by omega) (trimL_cons (by decide)) (by decide) (hn hb 1 (by omega) [] (Stop.nil 1)) ((Stop.nil 0).halt (by omega) _))
theorem good_less {a b : Bs} {x y : Ex} (ha : Is a x) (hb : Is b y) : Good (.bin 0) (sLess a b) (.bin 60 x y) [] := by
  have e : sLess a b = 40 :: (a ++ 41 :: (60 :: (40 :: (b ++ 41 :: [])))) := by simp [sLess]
  rw [e]
  have h2 : Good (.bin 2) (40 :: (a ++ 41 :: (60 :: (40 :: (b ++ 41 :: []))))) (.bin 60 x y) [] := .bin (by omega) (atom_bin ha 3 (by omega) _ (Stop.op (k := 3) (j := 2) (by omega) (by decide) (by omega) _)) (.step2 (trimL_cons (by decide)) (by decide) (atom_bin hb 3 (by omega) [] (Stop.nil 3)))
  exact .bin (by omega) (.bin (by omega) h2 ((Stop.nil 1).halt (by omega) _)) ((Stop.nil 0).halt (by omega) _)
theorem good_sum {a b : Bs} {x y : Ex} (ha : Is a x) (hb : Is b y) : Good (.bin 0) (sSum a b) (.bin 45 (.bin 45 (.bin 43 x y) y) x) [] := by
  have e : sSum a b = 40 :: (a ++ 41 :: (43 :: (40 :: (b ++ 41 :: (45 :: (40 :: (b ++ 41 :: (45 :: (40 :: (a ++ 41 :: []))))))))))  := by simp [sSum]
  rw [e]
  have so : ∀ (c : UInt8) (t : Bs), c ∈ ranksF 3 → Stop 4 (c :: t) := fun c t hc => Stop.op (k := 4) (j := 3) (by omega) hc (by omega) t
  have h3 : Good (.bin 3) (40 :: (a ++ 41 :: (43 :: (40 :: (b ++ 41 :: (45 :: (40 :: (b ++ 41 :: (45 :: (40 :: (a ++ 41 :: [])))))))))))  (.bin 45 (.bin 45 (.bin 43 x y) y) x) [] :=
    .bin (by omega) (atom_bin ha 4 (by omega) _ (so 43 _ (by decide))) (.step (by omega) (by omega) (trimL_cons (by decide)) (by decide) (atom_bin hb 4 (by omega) _ (so 45 _ (by decide)))
      (.step (by omega) (by omega) (trimL_cons (by decide)) (by decide) (atom_bin hb 4 (by omega) _ (so 45 _ (by decide)))
        (.step (by omega) (by omega) (trimL_cons (by decide)) (by decide) (atom_bin ha 4 (by omega) [] (Stop.nil 4)) ((Stop.nil 3).halt (by omega) _))))
  exact .bin (by omega) (.bin (by omega) (.bin (by omega) h3 ((Stop.nil 2).halt (by omega) _)) ((Stop.nil 1).halt (by omega) _)) ((Stop.nil 0).halt (by omega) _)
theorem value_is {t : Bs} {l : Vs} {v : Int} (h : valueF t l = (v, 0)) : ∃ x, Is t x ∧ valF l x = some v := by
  unfold valueF at h
  split at h
  · rename_i hn
    rw [Prod.mk.injEq] at h
    exact absurd h.2 hn
  · rename_i hn
    have hn : (parseF t).2 = 0 := by simpa using hn
    rcases e : parseF t with ⟨x, er⟩
    rw [e] at hn h
    simp only at hn h
    subst hn
    split at h
    · rename_i n hv
      cases h
      exact ⟨x, parse_ok.1 e, hv⟩
    · simp at h
theorem logic_law {a b : Bs} {l : Vs} {x y p q z : Int} (ha : (parseF a).2 = 0) (hb : (parseF b).2 = 0) (h1 : valueF (sAnd a b) l = (x, 0)) (h2 : valueF (sOr a b) l = (y, 0)) (h3 : valueF (sLess a b) l = (p, 0)) (h4 : valueF (sLess b a) l = (q, 0)) (h5 : valueF (sSum a b) l = (z, 0)) :
    x = y ∧ wrap64 (p + q) < 2 ∧ z = 0 := by
  obtain ⟨u, iu, _⟩ : ∃ u, Is a u ∧ True := by
    rcases e : parseF a with ⟨u, er⟩
    rw [e] at ha
    simp only at ha
    subst ha
    exact ⟨u, parse_ok.1 e, trivial⟩
  obtain ⟨v, iv, _⟩ : ∃ v, Is b v ∧ True := by
    rcases e : parseF b with ⟨u, er⟩
    rw [e] at hb
    simp only at hb
    subst hb
    exact ⟨u, parse_ok.1 e, trivial⟩
  obtain ⟨x1, i1, v1⟩ := value_is h1
  obtain ⟨x2, i2, v2⟩ := value_is h2
  obtain ⟨x3, i3, v3⟩ := value_is h3
  obtain ⟨x4, i4, v4⟩ := value_is h4
  obtain ⟨x5, i5, v5⟩ := value_is h5
  rw [i1.of_good (good_and iu iv)] at v1
  rw [i2.of_good (good_or iu iv)] at v2
  rw [i3.of_good (good_less iu iv)] at v3
  rw [i4.of_good (good_less iv iu)] at v4
  rw [i5.of_good (good_sum iu iv)] at v5
  simp only [valF] at v1 v2 v3 v4 v5
  rcases hu : valF l u with _ | m
  · rw [hu] at v1; simp at v1
  · rcases hv : valF l v with _ | n
    · rw [hu, hv] at v1; simp at v1
    · rw [hu, hv] at v1 v2 v3 v5
      rw [hv, hu] at v4
      simp only [Option.bind_some, Option.some.injEq] at v1 v2 v3 v4 v5
      subst v1 v2 v3 v4 v5
      refine ⟨?_, ?_, ?_⟩
      · unfold op1 op2 truth
        simp only [if_true]
        by_cases hm : m = 0 <;> by_cases hn : n = 0 <;> simp [hm, hn]
      · have e3 : ∀ a b, op2 60 a b = truth (decide (a < b)) := fun a b => rfl
        rw [e3, e3]
        unfold truth
        by_cases h : m < n
        · rw [decide_eq_true h, decide_eq_false (show ¬ n < m by omega)]
          simp only [if_true, Bool.false_eq_true, if_false]
          rw [w64 (by omega) (by omega)]
          omega
        · rw [decide_eq_false h]
          by_cases h2 : n < m
          · rw [decide_eq_true h2]
            simp only [if_true, Bool.false_eq_true, if_false]
            rw [w64 (by omega) (by omega)]
            omega
          · rw [decide_eq_false h2]
            simp only [if_true, Bool.false_eq_true, if_false]
            rw [w64 (by omega) (by omega)]
            omega
      · have e1 : ∀ a b, op2 43 a b = wrap64 (a + b) := fun a b => rfl
        have e2 : ∀ a b, op2 45 a b = wrap64 (a - b) := fun a b => rfl
        rw [e1, e2, e2]
        unfold wrap64
        omega
/-! written anew -/
theorem written {t : Bs} {x : Ex} (h : Is t x) : Is (wr x 0) x := by
  refine ⟨Nat.le_trans h.short h.1, h.2.1, [], ?_, rfl⟩
  have := (wr_read x h.wf).1 0 (by omega) [] (Stop.nil 0)
  rwa [List.append_nil] at this
theorem write_is {t : Bs} {x : Ex} (h : Is t x) : writeF t = (wr x 0, 0) := by
  unfold writeF
  rw [parse_ok.2 h]
  rfl
theorem write_short {u s : Bs} (h : writeF u = (s, 0)) : s.length ≤ u.length := by
  rcases parse_split u with ⟨x, hx, _⟩ | ⟨h1, _⟩
  · rw [write_is hx] at h
    cases h
    exact hx.short
  · unfold writeF at h
    rw [if_pos h1, Prod.mk.injEq] at h
    exact absurd h.2 h1
theorem value_same {t : Bs} {x : Ex} (h : Is t x) (l : Vs) : valueF (wr x 0) l = valueF t l := by
  unfold valueF
  rw [parse_ok.2 h, parse_ok.2 (written h)]
/-- brackets fit -/
def Zb (s : Bs) : Prop := (∀ i, (s.take i).count 41 ≤ (s.take i).count 40) ∧ s.count 41 = s.count 40
theorem Zb.nil : Zb [] := ⟨fun i => by simp, rfl⟩
theorem Zb.app {a b : Bs} (ha : Zb a) (hb : Zb b) : Zb (a ++ b) := by
  refine ⟨fun i => ?_, by rw [List.count_append, List.count_append, ha.2, hb.2]⟩
  rw [List.take_append, List.count_append, List.count_append]
  exact Nat.add_le_add (ha.1 _) (hb.1 _)
theorem Zb.plain {s : Bs} (h : ∀ b ∈ s, b ≠ 40 ∧ b ≠ 41) : Zb s := by
  have h1 : ∀ c : UInt8, (c = 40 ∨ c = 41) → ∀ i, (s.take i).count c = 0 := fun c hc i => List.count_eq_zero.2 (fun hm => by
    have := h c (List.mem_of_mem_take hm)
    rcases hc with rfl | rfl
    · exact this.1 rfl
    · exact this.2 rfl)
  refine ⟨fun i => by rw [h1 41 (.inr rfl) i]; exact Nat.zero_le _, ?_⟩
  have e1 := h1 41 (.inr rfl) s.length
  have e2 := h1 40 (.inl rfl) s.length
  rw [List.take_length] at e1 e2
  rw [e1, e2]
theorem Zb.one {c : UInt8} (h : c ≠ 40 ∧ c ≠ 41) : Zb [c] := Zb.plain (fun b hb => by rw [List.mem_singleton.1 hb]; exact h)
theorem Zb.par {s : Bs} (h : Zb s) (c : Bool) : Zb (par c s) := by
  unfold Bk.par
  cases c with
  | false => exact h
  | true =>
    simp only [if_true]
    refine ⟨fun i => ?_, ?_⟩
    · cases i with
      | zero => simp
      | succ i =>
        rw [List.take_succ_cons, List.count_cons, List.count_cons, List.take_append, List.count_append, List.count_append]
        have h1 := h.1 i
        have h2 : (([41] : Bs).take (i - s.length)).count 41 ≤ 1 := by
          have := List.count_le_length (a := (41 : UInt8)) (l := ([41] : Bs).take (i - s.length))
          have h3 : (([41] : Bs).take (i - s.length)).length ≤ 1 := by rw [List.length_take]; simp; omega
          omega
        simp
        omega
    · rw [List.count_cons, List.count_cons, List.count_append, List.count_append, h.2]
      simp
theorem a_paren {b : UInt8} (h : isA b = true) : b ≠ 40 ∧ b ≠ 41 := by
  refine ⟨?_, ?_⟩ <;> (rintro rfl; revert h; decide)
theorem op_paren {op : UInt8} (h : ∃ k, k ≤ 4 ∧ op ∈ ranksF k) : op ≠ 40 ∧ op ≠ 41 := by
  obtain ⟨k, hk, hm⟩ := h
  exact ⟨(ranks_of hk hm).2.1, (ranks_of hk hm).2.2.1⟩
theorem wr_bal : ∀ (x : Ex), x.wf → ∀ k, Zb (wr x k)
  | .nil, h, _ => h.elim
  | .num n, h, k => by
    obtain ⟨_, h2, _, _⟩ := told_of_wf_num h
    exact (Zb.plain (fun b hb => a_paren (h2 b hb))).par _
  | .var s, h, k => by
    obtain ⟨_, _, _, _, _, h4⟩ := h
    exact (Zb.plain (fun b hb => a_paren (h4 b hb))).par _
  | .un op a, h, k => by
    have h1 := wr_bal a h.2 5
    exact ((Zb.one (c := if op = 126 then 45 else 33) (by split <;> decide)).app h1).par _
  | .bin op a b, h, k => by
    have ho := Zb.one (op_paren h.1)
    show Zb (Bk.par _ _)
    refine Zb.par ?_ _
    split
    · exact (wr_bal a h.2.1 3).app (ho.app (wr_bal b h.2.2 3))
    · exact (wr_bal a h.2.1 _).app (ho.app (wr_bal b h.2.2 _))
/-- the brackets that are open behind a beginning -/
def stp (st : List Nat × Nat) (c : UInt8) : List Nat × Nat := (if c = 40 then st.1 ++ [st.2] else if c = 41 then st.1.dropLast else st.1, st.2 + 1)
def stkF (s : Bs) : List Nat := (s.foldl stp ([], 0)).1
theorem stk_len (s : Bs) : (s.foldl stp ([], 0)).2 = s.length := by
  have : ∀ (s : Bs) (st : List Nat × Nat), (s.foldl stp st).2 = st.2 + s.length := by
    intro s
    induction s with
    | nil => intro st; rfl
    | cons c r ih => intro st; rw [List.foldl_cons, ih]; show st.2 + 1 + r.length = _; rw [List.length_cons]; omega
  rw [this]
  simp
theorem stk_succ (s : Bs) (i : Nat) (h : i < s.length) : stkF (s.take (i + 1)) = if s[i] = 40 then stkF (s.take i) ++ [i] else if s[i] = 41 then (stkF (s.take i)).dropLast else stkF (s.take i) := by
  have hl := stk_len (s.take i)
  rw [List.length_take, Nat.min_eq_left (by omega)] at hl
  unfold stkF
  rw [List.take_succ_eq_append_getElem h, List.foldl_append]
  show (stp ((s.take i).foldl stp ([], 0)) s[i]).1 = _
  generalize (s.take i).foldl stp ([], 0) = P at hl ⊢
  unfold stp
  simp only
  rw [hl]
theorem stk_lt (s : Bs) : ∀ i, i ≤ s.length → ∀ k ∈ stkF (s.take i), k < i
  | 0, _, k, hk => by simp [stkF] at hk
  | i + 1, hi, k, hk => by
    rw [stk_succ s i (by omega)] at hk
    split at hk
    · rcases List.mem_append.1 hk with hk | hk
      · have := stk_lt s i (by omega) k hk; omega
      · rw [List.mem_singleton.1 hk]; omega
    · split at hk
      · have := stk_lt s i (by omega) k (List.dropLast_subset _ hk); omega
      · have := stk_lt s i (by omega) k hk; omega
theorem stk_count (s : Bs) (hz : ∀ i, (s.take i).count 41 ≤ (s.take i).count 40) : ∀ i, i ≤ s.length → (stkF (s.take i)).length + (s.take i).count 41 = (s.take i).count 40
  | 0, _ => by simp [stkF]
  | i + 1, hi => by
    have ih := stk_count s hz i (by omega)
    have h1 := hz (i + 1)
    rw [stk_succ s i (by omega)]
    rw [List.take_succ_eq_append_getElem (by omega), List.count_append, List.count_append] at h1 ⊢
    by_cases h40 : s[i] = 40
    · rw [if_pos h40]
      rw [h40] at h1 ⊢
      simp at h1 ⊢
      omega
    · rw [if_neg h40]
      by_cases h41 : s[i] = 41
      · rw [if_pos h41]
        rw [h41] at h1 ⊢
        simp at h1 ⊢
        omega
      · rw [if_neg h41]
        have e1 : List.count 41 [s[i]] = 0 := List.count_eq_zero.2 (fun hm => h41 (List.mem_singleton.1 hm).symm)
        have e2 : List.count 40 [s[i]] = 0 := List.count_eq_zero.2 (fun hm => h40 (List.mem_singleton.1 hm).symm)
        omega
theorem stk_open {s : Bs} (hz : Zb s) {i : Nat} (hi : i < s.length) (h : s[i] = 41) : 0 < (stkF (s.take i)).length := by
  have h1 := stk_count s hz.1 i (by omega)
  have h2 := hz.1 (i + 1)
  rw [List.take_succ_eq_append_getElem hi, List.count_append, List.count_append, h] at h2
  simp at h2
  omega
end Go.Proofs.YtmageoieajhhdaaDoor.Bk
