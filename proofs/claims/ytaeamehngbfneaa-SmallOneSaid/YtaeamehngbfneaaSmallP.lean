/- What Min tells: it holds, without any one it does not, it is a part of the list in its order; and of how many asks. -/
import Derived.Test.YtaeamehngbfneaaSmallC
namespace Go.Proofs.Ytaeamehngbfneaa.Sl
set_option linter.unusedVariables false

theorem passF_holds (p : List Int → Bool) (sz : Nat) : ∀ (n q : Nat) (l : List Int), p l = true → p (passF p sz n q l).1 = true
  | 0, q, l, h => h
  | n + 1, q, l, h => by
    simp only [passF]
    by_cases hq : q = 0
    · rw [if_pos hq]; exact h
    · rw [if_neg hq]
      refine passF_holds p sz n (q - sz) _ ?_
      split
      · assumption
      · exact h

theorem without_sub {l : List Int} {a b : Nat} (h : a ≤ b) : List.Sublist (l.take a ++ l.drop b) l := by
  have h1 : List.Sublist (l.drop b) (l.drop a) := by
    rw [show b = a + (b - a) by omega, ← List.drop_drop]
    exact List.drop_sublist _ _
  have h2 := List.Sublist.append (List.Sublist.refl (l.take a)) h1
  rwa [List.take_append_drop] at h2

theorem passF_sub (p : List Int → Bool) (sz : Nat) : ∀ (n q : Nat) (l : List Int), List.Sublist (passF p sz n q l).1 l
  | 0, q, l => List.Sublist.refl _
  | n + 1, q, l => by
    simp only [passF]
    by_cases hq : q = 0
    · rw [if_pos hq]; exact List.Sublist.refl _
    · rw [if_neg hq]
      refine (passF_sub p sz n (q - sz) _).trans ?_
      split
      · exact without_sub (by omega)
      · exact List.Sublist.refl _

/-- a pass of single ones that leaves nothing out -/
theorem pass1_min (p : List Int → Bool) : ∀ (n q : Nat) (l : List Int), q ≤ n → q ≤ l.length → (passF p 1 n q l).1.length = l.length → (passF p 1 n q l).1 = l ∧ ∀ i, i < q → p (l.take i ++ l.drop (i + 1)) = false
  | 0, q, l, h, hq, he => ⟨rfl, fun i hi => by omega⟩
  | n + 1, q, l, h, hq, he => by
    simp only [passF] at he ⊢
    by_cases h0 : q = 0
    · rw [if_pos h0]; exact ⟨rfl, fun i hi => by omega⟩
    · rw [if_neg h0] at he ⊢
      cases hp : p (l.take (q - 1) ++ l.drop q) with
      | true =>
        rw [hp, if_pos rfl] at he
        have h1 := (passF_length p 1 n (q - 1) (l.take (q - 1) ++ l.drop q)).1
        simp only at he
        have h2 : (l.take (q - 1) ++ l.drop q).length = l.length - 1 := by rw [List.length_append, List.length_take, List.length_drop]; omega
        omega
      | false =>
        rw [hp, if_neg (by decide)] at he
        rw [if_neg (by decide)]
        obtain ⟨a, b⟩ := pass1_min p n (q - 1) l (by omega) (by omega) he
        refine ⟨a, fun i hi => ?_⟩
        by_cases hiq : i = q - 1
        · subst hiq
          rw [show q - 1 + 1 = q by omega]
          exact hp
        · exact b i (by omega)

structure Least (p : List Int → Bool) (l m : List Int) : Prop where
  holds : p m = true
  sub : List.Sublist m l
  least : ∀ i, i < m.length → p (m.take i ++ m.drop (i + 1)) = false

theorem onesF_least (p : List Int → Bool) : ∀ (n : Nat) (l : List Int), l.length < n → p l = true → Least p l (onesF p n l).1
  | 0, l, h, hp => by omega
  | n + 1, l, h, hp => by
    simp only [onesF]
    by_cases he : (passF p 1 l.length l.length l).1.length = l.length
    · rw [if_pos he]
      obtain ⟨a, b⟩ := pass1_min p l.length l.length l (Nat.le_refl _) (Nat.le_refl _) he
      rw [a]
      exact ⟨hp, List.Sublist.refl _, b⟩
    · rw [if_neg he]
      have hl := (passF_length p 1 l.length l.length l).1
      have r := onesF_least p n (passF p 1 l.length l.length l).1 (by omega) (passF_holds p 1 _ _ l hp)
      exact ⟨r.holds, r.sub.trans (passF_sub p 1 _ _ l), r.least⟩

theorem onesF_few (p : List Int → Bool) : ∀ (n : Nat) (l : List Int), 2 * (onesF p n l).2 ≤ (l.length + 1) * l.length
  | 0, l => by simp [onesF]
  | n + 1, l => by
    simp only [onesF]
    have a := passF_length p 1 l.length l.length l
    have hm : (l.length + 1) * l.length = l.length * l.length + l.length := by rw [Nat.add_mul, Nat.one_mul]
    by_cases h1 : (passF p 1 l.length l.length l).1.length = l.length
    · rw [if_pos h1]
      rcases Nat.eq_zero_or_pos l.length with h0 | h0
      · omega
      · have : 1 * l.length ≤ l.length * l.length := Nat.mul_le_mul_right _ h0
        omega
    · rw [if_neg h1]
      have ih := onesF_few p n (passF p 1 l.length l.length l).1
      have h2 : ((passF p 1 l.length l.length l).1.length + 1) * (passF p 1 l.length l.length l).1.length ≤ l.length * (l.length - 1) := Nat.mul_le_mul (by omega) (by omega)
      rw [Nat.mul_sub, Nat.mul_one] at h2
      have h3 : l.length ≤ l.length * l.length := by
        rcases Nat.eq_zero_or_pos l.length with h0 | h0
        · omega
        · have : 1 * l.length ≤ l.length * l.length := Nat.mul_le_mul_right _ h0
          omega
      simp only
      omega

theorem halvesF_holds (p : List Int → Bool) : ∀ (n sz : Nat) (l : List Int), p l = true → p (halvesF p n sz l).1 = true ∧ List.Sublist (halvesF p n sz l).1 l
  | 0, sz, l, h => ⟨h, List.Sublist.refl _⟩
  | n + 1, sz, l, h => by
    simp only [halvesF]
    by_cases hs : sz ≤ 1
    · rw [if_pos hs]; exact ⟨h, List.Sublist.refl _⟩
    · rw [if_neg hs]
      have ih := halvesF_holds p n (sz / 2) _ (passF_holds p sz l.length l.length l h)
      exact ⟨ih.1, ih.2.trans (passF_sub p sz _ _ l)⟩

theorem halvesF_few (p : List Int → Bool) : ∀ (n sz : Nat) (l : List Int), (halvesF p n sz l).2 ≤ sz * l.length
  | 0, sz, l => by simp [halvesF]
  | n + 1, sz, l => by
    simp only [halvesF]
    by_cases hs : sz ≤ 1
    · rw [if_pos hs]; exact Nat.zero_le _
    · rw [if_neg hs]
      have a := passF_length p sz l.length l.length l
      have ih := halvesF_few p n (sz / 2) (passF p sz l.length l.length l).1
      have h1 : sz / 2 * (passF p sz l.length l.length l).1.length ≤ sz / 2 * l.length := Nat.mul_le_mul_left _ a.1
      have h2 : (sz / 2 + 1) * l.length ≤ sz * l.length := Nat.mul_le_mul_right _ (by omega)
      rw [Nat.add_mul, Nat.one_mul] at h2
      simp only
      omega

theorem minF_least (p : List Int → Bool) (l : List Int) (h : p l = true) : Least p l (minF p l).1 ∧ (minF p l).2 ≤ l.length * l.length + 3 * l.length + 2 := by
  have a := halvesF_holds p l.length (l.length / 2) l h
  have al := (halvesF_length p l.length (l.length / 2) l).1
  have r := onesF_least p (l.length + 1) (halvesF p l.length (l.length / 2) l).1 (by omega) a.1
  refine ⟨⟨r.holds, r.sub.trans a.2, r.least⟩, ?_⟩
  have f1 := halvesF_few p l.length (l.length / 2) l
  have f2 := onesF_few p (l.length + 1) (halvesF p l.length (l.length / 2) l).1
  have f3 : ((halvesF p l.length (l.length / 2) l).1.length + 1) * (halvesF p l.length (l.length / 2) l).1.length ≤ (l.length + 1) * l.length := Nat.mul_le_mul (by omega) al
  have hm : (l.length + 1) * l.length = l.length * l.length + l.length := by rw [Nat.add_mul, Nat.one_mul]
  have f4 : 2 * (l.length / 2 * l.length) ≤ l.length * l.length := by
    rw [← Nat.mul_assoc]
    exact Nat.mul_le_mul_right _ (by omega)
  simp only [minF]
  omega

/-- where more never hurts: of the fact that it has all of some numbers -/
theorem least_all {need l m : List Int} (h : Least (fun xs => need.all (fun n => decide (n ∈ xs))) l m) : (∀ x ∈ need, x ∈ m) ∧ ∀ i, (hi : i < m.length) → m[i] ∈ need ∧ m[i] ∉ m.take i := by
  have h1 : ∀ x ∈ need, x ∈ m := fun x hx => by
    have := List.all_eq_true.1 h.holds x hx
    exact of_decide_eq_true this
  refine ⟨h1, fun i hi => ?_⟩
  have h2 := h.least i hi
  obtain ⟨x, hx, hn⟩ := List.all_eq_false.1 h2
  have hn' : x ∉ m.take i ++ m.drop (i + 1) := by simpa using hn
  have hxm := h1 x hx
  rw [← List.take_append_drop i m, List.drop_eq_getElem_cons hi] at hxm
  simp only [List.mem_append, List.mem_cons, not_or] at hxm hn'
  have : x = m[i] := by
    rcases hxm with a | a | a
    · exact absurd a hn'.1
    · exact a
    · exact absurd a hn'.2
  subst this
  exact ⟨hx, hn'.1⟩
end Go.Proofs.Ytaeamehngbfneaa.Sl
