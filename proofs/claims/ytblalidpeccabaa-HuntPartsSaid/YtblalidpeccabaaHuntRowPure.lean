/- A row of versions, each of the one ahead: the plain side. -/
import Derived.Test.YtblalidpeccabaaHuntPure
namespace Go.Proofs.Ytblalidpeccabaa.Hp
open Go Go.Proofs.Ytblalidpeccabaa.Sc
set_option linter.unusedVariables false
set_option linter.unusedSimpArgs false

def rowL (n : Nat) : List (List Int) := (List.range n).map fun i : Nat => if i = 0 then [] else [(i : Int) - 1]
theorem rowL_length (n : Nat) : (rowL n).length = n := by simp [rowL]
theorem use_row {n k : Nat} (hk : k < n) : use (rowL n) k = if k = 0 then [] else [(k : Int) - 1] := by
  simp [use, rowL, List.getD_eq_getElem?_getD, hk]
theorem row_form (n : Nat) : Sc.Form (rowL n) := by
  intro k hk x hx
  rw [rowL_length] at hk
  rw [use_row hk] at hx
  by_cases h : k = 0
  · rw [if_pos h] at hx; simp at hx
  · rw [if_neg h] at hx
    obtain rfl : x = (k : Int) - 1 := by simpa using hx
    omega
theorem reach_row {n i : Nat} (hi : i < n) (j : Nat) : Sc.Reach (rowL n) i j ↔ j ≤ i := by
  constructor
  · intro h; exact h.le (row_form n)
  · intro h
    obtain ⟨d, rfl⟩ : ∃ d, i = j + d := ⟨i - j, by omega⟩
    induction d with
    | zero => exact .refl
    | succ d ih =>
      refine Sc.Reach.trans (.step .refl ?_) (ih (by omega) (by omega))
      rw [use_row hi, if_neg (by omega)]
      simp only [List.mem_singleton]
      omega
theorem mem_bk_row {n i : Nat} (hi : i < n) (x : Int) : x ∈ bk (rowL n) i ↔ 0 ≤ x ∧ x ≤ (i : Int) := by
  constructor
  · intro h
    obtain ⟨k, rfl, _⟩ := bk_nat h
    have := (mem_bk (row_form n) (by rw [rowL_length]; exact hi)).1 h
    have := (reach_row hi k).1 this
    omega
  · rintro ⟨h0, h1⟩
    obtain ⟨k, rfl⟩ : ∃ k : Nat, x = (k : Int) := ⟨x.toNat, by omega⟩
    exact (mem_bk (row_form n) (by rw [rowL_length]; exact hi)).2 ((reach_row hi k).2 (by omega))

/-! a stretch -/
def stretch (lo m : Nat) : List Int := (List.range m).map fun i : Nat => ((lo + i : Nat) : Int)
theorem stretch_length (lo m : Nat) : (stretch lo m).length = m := by simp [stretch]
theorem mem_stretch {lo m : Nat} {x : Int} : x ∈ stretch lo m ↔ (lo : Int) ≤ x ∧ x < (lo : Int) + m := by
  simp only [stretch, List.mem_map, List.mem_range]
  constructor
  · rintro ⟨i, hi, rfl⟩; omega
  · rintro ⟨h0, h1⟩
    exact ⟨(x - lo).toNat, by omega, by omega⟩
theorem stretch_sorted (lo m : Nat) : (stretch lo m).Pairwise (· < ·) := by
  unfold stretch
  rw [List.pairwise_map]
  exact List.pairwise_lt_range.imp (fun h => by omega)
/-- of a stretch of a row: how many of it a version comes of -/
theorem part_row {n lo m k : Nat} (hk : lo ≤ k) (hkm : k < lo + m) (hn : lo + m ≤ n) : part (rowL n) (stretch lo m) (k : Int) = k - lo + 1 := by
  rw [part_eq (stretch_sorted lo m), Int.toNat_natCast]
  have : (stretch lo m).filter (fun x => (bk (rowL n) k).contains x) = stretch lo (k - lo + 1) := by
    refine sorted_ext ((stretch_sorted lo m).filter _) (stretch_sorted _ _) (fun x => ?_)
    rw [List.mem_filter, List.contains_iff_mem, mem_bk_row (by omega), mem_stretch, mem_stretch]
    omega
  rw [this, stretch_length]
theorem row_yes {n lo m bad k : Nat} {good : List Int} (hs : susp (rowL n) bad good = stretch lo m) (hb : bad < n) (hk : (k : Int) ∈ susp (rowL n) bad good) : susp (rowL n) k good = stretch lo (k - lo + 1) := by
  rw [ask_yes (row_form n) (by rw [rowL_length]; exact hb) hk, hs]
  rw [hs, mem_stretch] at hk
  refine sorted_ext ((stretch_sorted lo m).filter _) (stretch_sorted _ _) (fun x => ?_)
  have hbk : (k : Int) ∈ bk (rowL n) bad := (mem_susp.1 (by rw [hs, mem_stretch]; exact hk)).1
  have := (mem_bk_row hb (k : Int)).1 hbk
  rw [List.mem_filter, List.contains_iff_mem, mem_bk_row (by omega), mem_stretch, mem_stretch]
  omega
theorem row_no {n lo m bad k : Nat} {good : List Int} (hs : susp (rowL n) bad good = stretch lo m) (hb : bad < n) (hk : (k : Int) ∈ susp (rowL n) bad good) : susp (rowL n) bad (good ++ [(k : Int)]) = stretch (k + 1) (lo + m - (k + 1)) := by
  have hbk : (k : Int) ∈ bk (rowL n) bad := (mem_susp.1 hk).1
  have h1 := (mem_bk_row hb (k : Int)).1 hbk
  rw [ask_no, hs]
  rw [hs, mem_stretch] at hk
  refine sorted_ext ((stretch_sorted lo m).filter _) (stretch_sorted _ _) (fun x => ?_)
  rw [List.mem_filter, Bool.not_eq_true', ← Bool.not_eq_true, List.contains_iff_mem, mem_bk_row (by omega), mem_stretch, mem_stretch]
  omega
/-- as many asks as binary digits -/
theorem hunt_row {n : Nat} {p : Int → Bool} : ∀ (d f bad lo m : Nat) (good : List Int) (many : Int), bad < n → susp (rowL n) bad good = stretch lo m → lo + m = bad + 1 → m ≤ 2 ^ d → m ≤ f →
    (huntF (rowL n) p f bad good many).2 ≤ many + d
  | d, 0, bad, lo, m, good, many, hb, hs, he, hd, hf => by simp only [huntF]; omega
  | d, f + 1, bad, lo, m, good, many, hb, hs, he, hd, hf => by
    rw [huntF]
    by_cases hn : pickF (rowL n) (susp (rowL n) bad good) bad < 0
    · rw [if_pos hn]; simp only; omega
    · rw [if_neg hn]
      obtain ⟨k, h0, h1, h2, h3⟩ := pickF_some hn
      rw [h0]
      have hk := h1
      rw [hs, mem_stretch] at hk
      have hm2 : 2 ≤ m := by omega
      obtain ⟨d, rfl⟩ : ∃ d', d = d' + 1 := ⟨d - 1, by
        cases d with
        | zero => simp at hd; omega
        | succ d => rfl⟩
      rw [Nat.pow_succ] at hd
      have hst : ((lo + m / 2 - 1 : Nat) : Int) ∈ susp (rowL n) bad good := by rw [hs, mem_stretch]; omega
      have hh := h3 _ hst (by omega)
      unfold half at hh
      rw [hs, stretch_length, part_row (by omega) (by omega) (by omega), part_row (by omega) (by omega) (by omega)] at hh
      have hy := row_yes hs hb h1
      have hno := row_no hs hb h1
      by_cases hp : p (k : Int) = true
      · rw [if_pos hp, Int.toNat_natCast]
        have := hunt_row (p := p) d f k lo (k - lo + 1) good (many + 1) (by omega) hy (by omega) (by omega) (by omega)
        omega
      · rw [if_neg hp]
        have := hunt_row (p := p) d f bad (k + 1) (lo + m - (k + 1)) (good ++ [(k : Int)]) (many + 1) hb hno (by omega) (by omega) (by omega)
        omega
end Go.Proofs.Ytblalidpeccabaa.Hp
