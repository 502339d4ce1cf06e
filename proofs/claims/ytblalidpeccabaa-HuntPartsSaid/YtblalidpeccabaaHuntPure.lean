/- Who was the first: the plain side (numbers and lists alone, no program). -/
import Derived.Test.YtblalidpeccabaaSlicePure
namespace Go.Proofs.Ytblalidpeccabaa.Hp
open Go Go.Proofs.Ytblalidpeccabaa.Sc
set_option linter.unusedVariables false
set_option linter.unusedSimpArgs false

theorem sorted_ext : ∀ {l m : List Int}, l.Pairwise (· < ·) → m.Pairwise (· < ·) → (∀ x, x ∈ l ↔ x ∈ m) → l = m
  | [], [], _, _, _ => rfl
  | [], y :: m, _, _, h => by have := (h y).2 (by simp); simp at this
  | x :: l, [], _, _, h => by have := (h x).1 (by simp); simp at this
  | x :: l, y :: m, hl, hm, h => by
    rw [List.pairwise_cons] at hl hm
    have e : x = y := by
      have h1 := (h x).1 (by simp)
      have h2 := (h y).2 (by simp)
      rcases List.mem_cons.1 h1 with h1 | h1
      · exact h1
      · rcases List.mem_cons.1 h2 with h2 | h2
        · exact h2.symm
        · have := hm.1 x h1; have := hl.1 y h2; omega
    subst e
    rw [sorted_ext hl.2 hm.2 (fun z => ?_)]
    have hz := h z
    simp only [List.mem_cons] at hz
    constructor
    · intro hzl
      rcases hz.1 (.inr hzl) with e | hzm
      · subst e; have := hl.1 z hzl; omega
      · exact hzm
    · intro hzm
      rcases hz.2 (.inr hzm) with e | hzl
      · subst e; have := hm.1 z hzm; omega
      · exact hzl

/-- a version's own and all that it comes of -/
def bk (xss : List (List Int)) (i : Nat) : List Int := listed xss.length [backF xss i]
theorem bk_sorted (xss : List (List Int)) (i : Nat) : (bk xss i).Pairwise (· < ·) := listed_sorted _ _
theorem mem_bk {xss : List (List Int)} (hf : Form xss) {i k : Nat} (hi : i < xss.length) : (k : Int) ∈ bk xss i ↔ Sc.Reach xss i k := has_back hf hi
theorem bk_nat {xss : List (List Int)} {i : Nat} {x : Int} (h : x ∈ bk xss i) : ∃ k : Nat, x = (k : Int) ∧ k < xss.length := by
  obtain ⟨k, hk, h1, _⟩ := mem_listed.1 h
  exact ⟨k, hk, h1⟩
def outOf (xss : List (List Int)) (good : List Int) (n : Int) : Bool := good.any fun g => (bk xss g.toNat).contains n
def susp (xss : List (List Int)) (bad : Nat) (good : List Int) : List Int := (bk xss bad).filter fun n => !outOf xss good n
theorem susp_sorted (xss : List (List Int)) (bad : Nat) (good : List Int) : (susp xss bad good).Pairwise (· < ·) := (bk_sorted xss bad).filter _
theorem mem_susp {xss : List (List Int)} {bad : Nat} {good : List Int} {n : Int} : n ∈ susp xss bad good ↔ n ∈ bk xss bad ∧ ∀ g ∈ good, n ∉ bk xss g.toNat := by
  simp only [susp, List.mem_filter, outOf, Bool.not_eq_true', List.any_eq_false, List.contains_iff_mem]
def part (xss : List (List Int)) (s : List Int) (n : Int) : Nat := ((bk xss n.toNat).filter fun k => s.contains k).length
theorem part_eq {xss : List (List Int)} {s : List Int} (hs : s.Pairwise (· < ·)) (n : Int) : part xss s n = (s.filter fun k => (bk xss n.toNat).contains k).length := by
  unfold part
  congr 1
  refine sorted_ext ((bk_sorted _ _).filter _) (hs.filter _) (fun x => ?_)
  simp only [List.mem_filter, List.contains_iff_mem]
  exact And.comm
theorem part_le {xss : List (List Int)} {s : List Int} (hs : s.Pairwise (· < ·)) (n : Int) : part xss s n ≤ s.length := by
  rw [part_eq hs]; exact List.length_filter_le _ _
def half (xss : List (List Int)) (s : List Int) (n : Int) : Int := min (part xss s n : Int) ((s.length : Int) - (part xss s n : Int))
theorem half_nonneg {xss : List (List Int)} {s : List Int} (hs : s.Pairwise (· < ·)) (n : Int) : 0 ≤ half xss s n := by
  have := part_le (xss := xss) hs n
  unfold half
  omega
def pstep (xss : List (List Int)) (s : List Int) (bad : Int) (b : Int × Int) (n : Int) : Int × Int := if n ≠ bad ∧ b.1 < half xss s n then (half xss s n, n) else b
def pickL (xss : List (List Int)) (s : List Int) (bad : Int) (l : List Int) : Int × Int := l.foldl (pstep xss s bad) (-1, -1)
def pickF (xss : List (List Int)) (s : List Int) (bad : Int) : Int := (pickL xss s bad s).2
theorem pickL_snoc (xss : List (List Int)) (s : List Int) (bad : Int) (l : List Int) (x : Int) : pickL xss s bad (l ++ [x]) = pstep xss s bad (pickL xss s bad l) x := by simp [pickL, List.foldl_append]
/-- what the pick of the first ones is -/
def PickOk (xss : List (List Int)) (s : List Int) (bad : Int) (l : List Int) (r : Int × Int) : Prop :=
  (r = (-1, -1) ∧ ∀ n ∈ l, n = bad) ∨ (r.1 = half xss s r.2 ∧ r.2 ∈ l ∧ r.2 ≠ bad ∧ ∀ n ∈ l, n ≠ bad → half xss s n ≤ r.1)
theorem pick_ok {xss : List (List Int)} {s : List Int} (hs : s.Pairwise (· < ·)) (bad : Int) (l : List Int) : PickOk xss s bad l (pickL xss s bad l) := by
  have key : ∀ k, k ≤ l.length → PickOk xss s bad (l.take k) (pickL xss s bad (l.take k)) := by
    intro k
    induction k with
    | zero => intro _; exact .inl ⟨by simp [pickL], by simp⟩
    | succ k ih =>
      intro hk
      have ih := ih (by omega)
      rw [List.take_succ_eq_append_getElem (show k < l.length by omega), pickL_snoc]
      have h0 := half_nonneg (xss := xss) hs (l[k]'(by omega))
      generalize l[k]'(by omega) = x at h0 ⊢
      unfold pstep
      by_cases hx : x ≠ bad ∧ (pickL xss s bad (l.take k)).1 < half xss s x
      · rw [if_pos hx]
        refine .inr ⟨rfl, by simp, hx.1, fun n hn hne => ?_⟩
        rcases List.mem_append.1 hn with hn | hn
        · rcases ih with ⟨_, h⟩ | ⟨_, _, _, h⟩
          · exact absurd (h n hn) hne
          · have := h n hn hne; simp only; omega
        · obtain rfl : n = x := by simpa using hn
          exact Int.le_refl _
      · rw [if_neg hx]
        rcases ih with ⟨h1, h⟩ | ⟨h1, h2, h3, h⟩
        · refine .inl ⟨h1, fun n hn => ?_⟩
          rcases List.mem_append.1 hn with hn | hn
          · exact h n hn
          · obtain rfl : n = x := by simpa using hn
            rw [h1] at hx
            by_cases e : n = bad
            · exact e
            · exact absurd ⟨e, by simp only; omega⟩ hx
        · refine .inr ⟨h1, List.mem_append_left _ h2, h3, fun n hn hne => ?_⟩
          rcases List.mem_append.1 hn with hn | hn
          · exact h n hn hne
          · obtain rfl : n = x := by simpa using hn
            exact Int.not_lt.1 (fun hlt => hx ⟨hne, hlt⟩)
  have := key l.length (Nat.le_refl _)
  rwa [List.take_length] at this
/-- none is picked where there is none but the bad one -/
theorem pickF_none {xss : List (List Int)} {bad : Nat} {good : List Int} (h : pickF xss (susp xss bad good) bad < 0) : ∀ n ∈ susp xss bad good, n = (bad : Int) := by
  rcases pick_ok (xss := xss) (susp_sorted xss bad good) (bad : Int) (susp xss bad good) with ⟨_, h1⟩ | ⟨_, h1, _, _⟩
  · exact h1
  · obtain ⟨k, hk, _⟩ := bk_nat (mem_susp.1 h1).1
    unfold pickF at h
    omega
theorem pickF_some {xss : List (List Int)} {bad : Nat} {good : List Int} (h : ¬ pickF xss (susp xss bad good) bad < 0) : ∃ n : Nat, pickF xss (susp xss bad good) bad = (n : Int) ∧ (n : Int) ∈ susp xss bad good ∧ n ≠ bad ∧
    ∀ k ∈ susp xss bad good, k ≠ (bad : Int) → half xss (susp xss bad good) k ≤ half xss (susp xss bad good) (n : Int) := by
  rcases pick_ok (xss := xss) (susp_sorted xss bad good) (bad : Int) (susp xss bad good) with ⟨h1, _⟩ | ⟨h0, h1, h2, h3⟩
  · unfold pickF at h
    rw [h1] at h
    exact absurd (by decide) h
  · obtain ⟨k, hk, _⟩ := bk_nat (mem_susp.1 h1).1
    refine ⟨k, hk, by rw [← hk]; exact h1, fun e => h2 (by rw [hk, e]), fun q hq hne => ?_⟩
    have := h3 q hq hne
    rw [h0, hk] at this
    exact this

/-! one ask -/
theorem ask_yes {xss : List (List Int)} (hf : Form xss) {bad n : Nat} {good : List Int} (hb : bad < xss.length) (hn : (n : Int) ∈ susp xss bad good) :
    susp xss n good = (susp xss bad good).filter fun k => (bk xss n).contains k := by
  have hbn := (mem_susp.1 hn).1
  have hr := (mem_bk hf hb).1 hbn
  have hnl : n < xss.length := Nat.lt_of_le_of_lt (hr.le hf) hb
  refine sorted_ext (susp_sorted _ _ _) ((susp_sorted _ _ _).filter _) (fun x => ?_)
  simp only [List.mem_filter, List.contains_iff_mem, mem_susp]
  constructor
  · rintro ⟨h1, h2⟩
    obtain ⟨k, rfl, _⟩ := bk_nat h1
    exact ⟨⟨(mem_bk hf hb).2 (hr.trans ((mem_bk hf hnl).1 h1)), h2⟩, h1⟩
  · rintro ⟨⟨_, h2⟩, h3⟩; exact ⟨h3, h2⟩
theorem ask_no {xss : List (List Int)} {bad n : Nat} {good : List Int} : susp xss bad (good ++ [(n : Int)]) = (susp xss bad good).filter fun k => !(bk xss n).contains k := by
  refine sorted_ext (susp_sorted _ _ _) ((susp_sorted _ _ _).filter _) (fun x => ?_)
  simp only [List.mem_filter, Bool.not_eq_true', ← Bool.not_eq_true, List.contains_iff_mem, mem_susp]
  constructor
  · rintro ⟨h1, h2⟩
    exact ⟨⟨h1, fun g hg => h2 g (List.mem_append_left _ hg)⟩, by have := h2 (n : Int) (by simp); rwa [Int.toNat_natCast] at this⟩
  · rintro ⟨⟨h1, h2⟩, h3⟩
    refine ⟨h1, fun g hg => ?_⟩
    rcases List.mem_append.1 hg with hg | hg
    · exact h2 g hg
    · obtain rfl : g = (n : Int) := by simpa using hg
      rwa [Int.toNat_natCast]
theorem self_in {xss : List (List Int)} (hf : Form xss) {n : Nat} (hn : n < xss.length) : (n : Int) ∈ bk xss n := (mem_bk hf hn).2 .refl
theorem bad_not {xss : List (List Int)} (hf : Form xss) {bad n : Nat} {good : List Int} (hb : bad < xss.length) (hn : (n : Int) ∈ susp xss bad good) (hne : n ≠ bad) : (bad : Int) ∉ bk xss n := by
  intro h
  have hr := (mem_bk hf hb).1 (mem_susp.1 hn).1
  have h1 := hr.le hf
  have h2 := ((mem_bk hf (show n < xss.length by omega)).1 h).le hf
  omega
theorem filter_lt {l : List Int} {p : Int → Bool} {x : Int} (hx : x ∈ l) (hp : p x = false) : (l.filter p).length < l.length := by
  induction l with
  | nil => simp at hx
  | cons y l ih =>
    rcases List.mem_cons.1 hx with rfl | hx
    · rw [List.filter_cons, if_neg (by simp [hp]), List.length_cons]
      exact Nat.lt_succ_of_le (List.length_filter_le _ _)
    · have := ih hx
      rw [List.filter_cons]
      split <;> simp only [List.length_cons] <;> omega
theorem filter_split (l : List Int) (p : Int → Bool) : (l.filter p).length + (l.filter fun x => !p x).length = l.length := by
  induction l with
  | nil => rfl
  | cons y l ih =>
    rw [List.filter_cons, List.filter_cons]
    cases hp : p y <;> simp only [Bool.not_true, Bool.not_false, if_true, if_false, Bool.false_eq_true, List.length_cons] <;> omega

/-- the hunt, from where it is -/
def huntF (xss : List (List Int)) (p : Int → Bool) : Nat → Nat → List Int → Int → Int × Int
  | 0, bad, _, many => (bad, many)
  | f + 1, bad, good, many =>
    if pickF xss (susp xss bad good) bad < 0 then (bad, many)
    else if p (pickF xss (susp xss bad good) bad) = true then huntF xss p f (pickF xss (susp xss bad good) bad).toNat good (many + 1)
    else huntF xss p f bad (good ++ [pickF xss (susp xss bad good) bad]) (many + 1)
theorem hunt_finds {xss : List (List Int)} (hf : Form xss) {p : Int → Bool} {cul : Nat} (hp : ∀ n : Nat, n < xss.length → p (n : Int) = (bk xss n).contains (cul : Int)) :
    ∀ (f bad : Nat) (good : List Int) (many : Int), bad < xss.length → (bad : Int) ∈ susp xss bad good → (cul : Int) ∈ susp xss bad good → (susp xss bad good).length ≤ f →
      (huntF xss p f bad good many).1 = (cul : Int) ∧ many ≤ (huntF xss p f bad good many).2 ∧ (huntF xss p f bad good many).2 + 1 ≤ many + (susp xss bad good).length
  | 0, bad, good, many, hb, hbs, hc, hl => by
    have : (susp xss bad good) = [] := List.eq_nil_of_length_eq_zero (by omega)
    rw [this] at hc
    simp at hc
  | f + 1, bad, good, many, hb, hbs, hc, hl => by
    rw [huntF]
    by_cases hn : pickF xss (susp xss bad good) bad < 0
    · rw [if_pos hn]
      have := pickF_none hn _ hc
      have hpos : 0 < (susp xss bad good).length := List.length_pos_of_mem hc
      exact ⟨by simp only; omega, Int.le_refl _, by simp only; omega⟩
    · rw [if_neg hn]
      obtain ⟨n, h0, h1, h2, _⟩ := pickF_some hn
      rw [h0]
      have hnl : n < xss.length := by
        obtain ⟨k, hk, hkl⟩ := bk_nat (mem_susp.1 h1).1
        omega
      have hbad := bad_not hf hb h1 h2
      rw [hp n hnl]
      by_cases hcn : (cul : Int) ∈ bk xss n
      · rw [if_pos (by rw [List.contains_iff_mem]; exact hcn), Int.toNat_natCast]
        have hs := ask_yes hf hb h1
        have hlt : (susp xss n good).length < (susp xss bad good).length := by
          rw [hs]; exact filter_lt hbs (by rw [← Bool.not_eq_true, List.contains_iff_mem]; exact hbad)
        have ih := hunt_finds hf hp f n good (many + 1) hnl (by rw [hs, List.mem_filter, List.contains_iff_mem]; exact ⟨h1, self_in hf hnl⟩) (by rw [hs, List.mem_filter, List.contains_iff_mem]; exact ⟨hc, hcn⟩) (by omega)
        exact ⟨ih.1, by omega, by omega⟩
      · rw [if_neg (by rw [List.contains_iff_mem]; exact hcn)]
        have hs := ask_no (xss := xss) (bad := bad) (n := n) (good := good)
        have hlt : (susp xss bad (good ++ [(n : Int)])).length < (susp xss bad good).length := by
          rw [hs]; exact filter_lt h1 (by rw [Bool.not_eq_false', List.contains_iff_mem]; exact self_in hf hnl)
        have ih := hunt_finds hf hp f bad (good ++ [(n : Int)]) (many + 1) hb (by rw [hs, List.mem_filter, Bool.not_eq_true', ← Bool.not_eq_true, List.contains_iff_mem]; exact ⟨hbs, hbad⟩)
          (by rw [hs, List.mem_filter, Bool.not_eq_true', ← Bool.not_eq_true, List.contains_iff_mem]; exact ⟨hc, hcn⟩) (by omega)
        exact ⟨ih.1, by omega, by omega⟩
end Go.Proofs.Ytblalidpeccabaa.Hp
