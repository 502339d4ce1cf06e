/- Conditions: parse in plain words; what Value, First and Write are worth; their laws. Plain Lean, no program. -/
import Derived.Test.YtmageoieajhhdaaDoorBkH
namespace Go.Proofs.YtmageoieajhhdaaDoor.Bk
open Go Go.RowKit Go.Proofs.YtmageoieajhhdaaDoorW.PrintWords Go.Proofs.YtmageoieajhhdaaDoorW.PrintLast Go.Proofs.YtmageoieajhhdaaDoorW.PrintMore
open Go.Lib hiding intOf
set_option linter.unusedVariables false
set_option linter.unusedSimpArgs false
def blank (s : Bs) : Prop := Lib.trimB s 32 = []
theorem blank_iff (s : Bs) : blank s ↔ trimL s = [] := by
  have key : ∀ s : Bs, s.dropWhile (· == (32 : UInt8)) = [] ↔ ∀ b ∈ s, b = 32 := by
    intro s
    induction s with
    | nil => simp
    | cons a r ih =>
      rw [List.dropWhile_cons]
      by_cases ha : a = 32
      · rw [if_pos (by simp [ha]), ih]
        simp [ha]
      · rw [if_neg (by simp [ha])]
        simp [ha]
  unfold blank Lib.trimB Lib.trimLeftB Lib.trimRightB trimL
  rw [key, key]
  constructor
  · intro h b hb
    rcases e : s.reverse.dropWhile (· == (32 : UInt8)) with _ | ⟨c, r⟩
    · exact (key s.reverse).1 e b (by simpa using hb)
    · exfalso
      have h1 := List.head?_dropWhile_not (· == (32 : UInt8)) s.reverse
      rw [e] at h1 h
      have h2 := h c (by simp)
      simp [h2] at h1
  · intro h b hb
    have h1 : b ∈ s.reverse.dropWhile (· == (32 : UInt8)) := by simpa using hb
    exact h b (by simpa using (List.dropWhile_sublist _).mem h1)
/-- a condition that is right: its tree -/
def Is (t : Bs) (x : Ex) : Prop := t.length ≤ 200 ∧ x.deep ≤ 20 ∧ ∃ s, Good (.bin 0) t x s ∧ trimL s = []
theorem parse_ok {t : Bs} {x : Ex} : parseF t = (x, 0) ↔ Is t x := by
  unfold parseF
  constructor
  · intro h
    split at h
    · simp at h
    · rename_i hl
      obtain ⟨⟨y, s, b⟩, hr, _⟩ := run_total (8 * t.length + 7) (.bin 0) t false (by simp only [Job.ok]; omega) (by simp only [need]; omega)
      rw [hr] at h
      unfold finF at h
      cases b with
      | true => simp at h
      | false =>
        simp only [Bool.false_eq_true, if_false] at h
        split at h
        · rename_i hb
          split at h
          · simp at h
          · rename_i hd
            cases h
            exact ⟨by omega, by omega, s, good_of_run _ _ _ _ _ (by simp only [Job.ok]; omega) hr, (blank_iff s).1 hb⟩
        · simp at h
  · rintro ⟨h1, h2, s, hg, hs⟩
    rw [if_neg (by omega)]
    obtain ⟨r, hr, _⟩ := run_total (8 * t.length + 7) (.bin 0) t false (by simp only [Job.ok]; omega) (by simp only [need]; omega)
    obtain ⟨f, hf⟩ := run_of_good hg
    obtain rfl := run_one hr hf
    rw [hr]
    simp only
    unfold finF
    simp only [Bool.false_eq_true, if_false]
    rw [if_pos (show Lib.trimB s 32 = [] from (blank_iff s).2 hs), if_neg (by omega)]
theorem Is.wf {t : Bs} {x : Ex} (h : Is t x) : x.wf := by
  obtain ⟨_, _, s, hg, _⟩ := h
  exact hg.wf (fun k y e => by cases e)
theorem Is.uniq {t : Bs} {x y : Ex} (h : Is t x) (h2 : Is t y) : x = y := by
  obtain ⟨_, _, s, hg, _⟩ := h
  obtain ⟨_, _, s2, hg2, _⟩ := h2
  exact (hg.uniq hg2).1
theorem parse_split (t : Bs) : (∃ x, Is t x ∧ parseF t = (x, 0)) ∨ ((parseF t).2 ≠ 0 ∧ (parseF t).1 = .nil) := by
  rcases h : parseF t with ⟨x, e⟩
  by_cases he : e = 0
  · subst he
    exact .inl ⟨x, parse_ok.1 h, rfl⟩
  · refine .inr ⟨he, ?_⟩
    unfold parseF finF at h
    split at h
    · cases h; rfl
    · split at h
      · cases h; rfl
      · split at h
        · cases h; rfl
        · split at h
          · split at h
            · cases h; rfl
            · cases h; exact absurd rfl he
          · cases h; rfl
theorem parse_err {t : Bs} (h : (parseF t).2 ≠ 0) : (parseF t).1 = .nil ∧ ((parseF t).2 = 2 ∨ (parseF t).2 = 4) := by
  rcases e : parseF t with ⟨x, er⟩
  rw [e] at h
  unfold parseF finF at e
  split at e
  · cases e; exact ⟨rfl, .inl rfl⟩
  · split at e
    · cases e; exact ⟨rfl, .inr rfl⟩
    · split at e
      · cases e; exact ⟨rfl, .inr rfl⟩
      · split at e
        · split at e
          · cases e; exact ⟨rfl, .inl rfl⟩
          · cases e; exact absurd rfl h
        · cases e; exact ⟨rfl, .inr rfl⟩
/-- Value -/
def valueF (t : Bs) (l : Vs) : Int × Int := if (parseF t).2 ≠ 0 then (0, (parseF t).2) else match valF l (parseF t).1 with
  | some n => (n, 0)
  | none => (0, 5)
/-- First -/
def scanF (L : List Vs) (x : Ex) : List Nat → Int × Bool × Int
  | [] => (0, false, 0)
  | i :: r => match valF (L.getD i []) x with
    | none => (0, false, 5)
    | some n => if n = 0 then scanF L x r else ((i : Int), true, 0)
def placesF (n m : Nat) (back : Bool) : List Nat := if back then (List.range (m + 1)).reverse else List.range' m (n - m)
def firstF (t : Bs) (L : List Vs) (m : Int) (back : Bool) : Int × Bool × Int :=
  if (parseF t).2 ≠ 0 then (0, false, (parseF t).2) else if 200 < L.length then (0, false, 2) else if m < 0 ∨ (L.length : Int) ≤ m then (0, false, 1) else scanF L (parseF t).1 (placesF L.length m.toNat back)
/-- Write -/
def writeF (t : Bs) : Bs × Int := if (parseF t).2 ≠ 0 then ([], (parseF t).2) else (wr (parseF t).1 0, 0)
theorem bs_app (a b : Bs) : bs a ++ bs b = bs (a ++ b) := by
  apply ByteArray.ext
  apply Array.ext'
  simp [ByteArray.data_append]
end Go.Proofs.YtmageoieajhhdaaDoor.Bk
