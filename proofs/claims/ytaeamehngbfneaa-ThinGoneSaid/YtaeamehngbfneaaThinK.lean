/- thin.kept: its walk. -/
import Derived.Test.YtaeamehngbfneaaBase
import Derived.Test.YtaeamehngbfneaaThinPure
import Derived.Test.YtaeamehngbfneaaShelf
namespace Go.Proofs.Ytaeamehngbfneaa.Th
open Go Go.RowKit Go.Lib Go.Proofs.YtaeamehngbfneaaW.PrintWords Go.Proofs.YtaeamehngbfneaaW.PrintLast Go.Proofs.YtaeamehngbfneaaW.PrintMore Go.Proofs.Ytaeamehngbfneaa.Bs
attribute [local go_sem] max2_int min2_int max_two min_two
set_option linter.unusedVariables false
set_option linter.unusedSimpArgs false

/-- a row at the head of a block of the call's own -/
def MadeAt (w : World) (xs : List Int) (e : Ending) (w' : World) : Prop :=
  ∃ g c, e = .returned (.slice (some ⟨g, 0, none⟩) xs.length c) ∧ xs.length ≤ c ∧ c ≤ maxLen ∧ w.heap.size ≤ g ∧ At w' g xs ∧ Below w.heap.size w w'

theorem grown_grow (w : World) (os : Array Obj) : w.grownBy (Go.Sort.grow w os) none :=
  ⟨rfl, rfl, rfl, by simp, fun i hi _ => Go.Sort.heap_grow_old w os hi⟩

/-- slices.Sort of a row of one's own -/
theorem sort_own {w0 w : World} {B g c : Nat} {xs : List Int} (HO : w.ownsRow B 3 1 (.slice (some ⟨g, 0, none⟩) xs.length c) xs.length (nums .i64 xs)) (HB : Below B w0 w) (hg : B ≤ g) (hb : B ≤ w.heap.size) (hl : xs.length < 4611686018427387904) :
    Calls Try.prog 30 #[.slice (some ⟨g, 0, none⟩) xs.length c] w fun e w' => e = .returned (.tuple #[]) ∧
      w'.ownsRow B 3 1 (.slice (some ⟨g, 0, none⟩) xs.length c) xs.length (nums .i64 (xs.mergeSort fun x y => decide (x ≤ y))) ∧ Below B w0 w' ∧ B ≤ w'.heap.size := by
  obtain ⟨g', c', e, _, h3, h4, _, h6, h7⟩ := Lib.holds_of_ownsRow (enc := Value.int .i64) HO (by simp)
  simp only [Value.slice.injEq, Option.some.injEq, Addr.mk.injEq] at e
  obtain ⟨⟨rfl, _, _⟩, _, rfl⟩ := e
  refine (Try.slices_Sort_int g 0 c xs w h7 h3 hl).mono ?_
  rintro e w' ⟨rfl, n, os, rfl⟩
  have h := Lib.ownsRow_putRow (enc := Value.int .i64) (q := n) (ys := xs.mergeSort fun x y => decide (x ≤ y)) HO (List.length_mergeSort _) (Nat.le_refl _)
  rw [List.take_of_length_le (by rw [List.length_mergeSort]; exact Nat.le_refl _)] at h
  have hB := Lib.below_putRow (enc := Value.int .i64) (q := n) (d := (xs.mergeSort fun x y => decide (x ≤ y)).toArray) HB hg
  have hs : B ≤ (Go.Sort.putRow (Value.int .i64) (Go.Sort.ahead w n) g 0 (xs.mergeSort fun x y => decide (x ≤ y)).toArray).heap.size := by simpa [Go.Sort.ahead] using hb
  exact ⟨rfl, h.kept (grown_grow _ os) (.inr (by simp [Value.ownBlock])), hB.grown (grown_grow _ os) hs (fun k hk => by cases hk), by simp; simp at hs; omega⟩

/-- slices.Compact of a row of one's own -/
theorem compact_own {w0 w : World} {B g c : Nat} {xs : List Int} (HO : w.ownsRow B 3 1 (.slice (some ⟨g, 0, none⟩) xs.length c) xs.length (nums .i64 xs)) (HB : Below B w0 w) (hg : B ≤ g) (hl : xs.length ≤ 9223372036854775807) :
    Calls Try.prog 31 #[.slice (some ⟨g, 0, none⟩) xs.length c] w fun e w' => e = .returned (.slice (some ⟨g, 0, none⟩) (compact xs).length c) ∧
      w'.ownsRow B 3 1 (.slice (some ⟨g, 0, none⟩) (compact xs).length c) (compact xs).length (nums .i64 (compact xs)) ∧ Below B w0 w' := by
  obtain ⟨g', c', e, _, h3, h4, _, h6, h7⟩ := Lib.holds_of_ownsRow (enc := Value.int .i64) HO (by simp)
  simp only [Value.slice.injEq, Option.some.injEq, Addr.mk.injEq] at e
  obtain ⟨⟨rfl, _, _⟩, _, rfl⟩ := e
  refine (Try.slices_Compact_int g 0 c xs w h7 hl h4).mono ?_
  rintro e w' ⟨rfl, q, rfl⟩
  have hle := compact_le xs
  have h := Lib.ownsRow_putRow (enc := Value.int .i64) (q := q) (k := (compact xs).length) (ys := compact xs ++ List.replicate (xs.length - (compact xs).length) 0) HO (by simp; omega) hle
  rw [List.take_left] at h
  exact ⟨rfl, h, Lib.below_putRow (enc := Value.int .i64) HB hg⟩

set_option maxHeartbeats 4000000 in
set_option maxRecDepth 100000 in
theorem kept_calls (w : World) (n : Nat) (hn : n ≤ 4000) : Calls Try.prog 26 #[.int .i64 n] w (MadeAt w (kept n)) := by
  go_enter Try.func26, Try.ntmps26
  go_wp2
  go_loopw [3, 4] (fun v p wr => ∃ i : Nat, p = .int .i64 ((2 ^ i : Nat) : Int) ∧ Aside0 (∀ j, j < i → 2 ^ j ≤ n) ∧ Aside0 (wr.ownsRow w.heap.size 3 1 v (raw n i).length (nums .i64 (raw n i))) ∧ Aside0 (Below w.heap.size w wr)) (fun _ p _ => 8001 - (intOf p).toNat)
  case atStart => exact ⟨0, by simp, ⟨fun j hj => absurd hj (Nat.not_lt_zero _)⟩, ⟨by have := own_lit w [0, (n : Int)] (by simp); simpa [raw_zero, nums] using this⟩, ⟨below_alloc (Below.refl _ _) _⟩⟩
  case round =>
    obtain ⟨i, rfl, HP, HO, HB⟩ := hrel
    obtain ⟨P, hP⟩ : ∃ P, P = 2 ^ i := ⟨_, rfl⟩
    have hpos : 0 < P := by rw [hP]; exact Nat.two_pow_pos i
    rw [← hP]
    have HPP := Aside0.mk hP
    clear hP
    by_cases hle : P ≤ n
    · have hz : ((P : Int) = 0) = False := by simp; omega
      obtain ⟨M, hM⟩ : ∃ M, M = n % P := ⟨_, rfl⟩
      have hM1 : M < P := by rw [hM]; exact Nat.mod_lt _ hpos
      have hM2 : M ≤ n := by omega
      have e1 : (n : Int) % (P : Int) = (M : Int) := by rw [hM]; omega
      have HM := Aside0.mk hM
      clear hM
      have HL := Aside0.mk (raw_length n i)
      have hi : i ≤ 11 := by
        have h1 := HPP.out
        rcases Nat.lt_or_ge i 12 with h | h
        · omega
        · have := Nat.pow_le_pow_right (n := 2) (by omega) h
          omega
      have HN : Aside0 (∀ j, j < i + 1 → 2 ^ j ≤ n) := ⟨fun j hj => by
        rcases Nat.lt_or_eq_of_le (Nat.le_of_lt_succ hj) with h | rfl
        · exact HP.out j h
        · rw [← HPP.out]; exact hle⟩
      by_cases hc : (n : Int) - (M : Int) - (P : Int) ≤ 0
      · have HR := Aside0.mk (show pair n i = [(n : Int) - (M : Int), 0] by
          have h1 := HM.out; have h2 := HPP.out; unfold pair; rw [← h2, ← h1]; simp only [List.cons.injEq, and_true]; omega)
        go_wp2_with (at_builtin; refine print_append_row (w0 := w) w.heap.size rfl _ _ 22 3 .i64 8 rfl Try.underlying22 infoInt (by decide) _ (raw n i) [(n : Int) - (M : Int), 0] _ 2 2 rfl rfl (HO.out.alloc _) (reads_lit _ [(n : Int) - (M : Int), 0] (by simp) _) (below_alloc HB.out _) (below_alloc HB.out _).size (by rw [HL.out]; omega) ?_; intro v1 w1 hown hB hg hat; have HO1 := Aside0.mk hown; have HB1 := Aside0.mk hB; clear hown hB hg hat)
        go_roundw
        case rel => exact ⟨i + 1, by rw [Nat.pow_succ, ← HPP.out]; go_num, HN, ⟨by rw [raw_succ, HR.out]; exact HO1.out⟩, HB1⟩
        case measure => simp [intOf]; omega
      · have HR := Aside0.mk (show pair n i = [(n : Int) - (M : Int), (n : Int) - (M : Int) - (P : Int)] by
          have h1 := HM.out; have h2 := HPP.out; unfold pair; rw [← h2, ← h1]; simp only [List.cons.injEq, and_true]; omega)
        have hc' : ¬ ((P : Int) ≥ (n : Int) - (M : Int)) := by omega
        go_wp2_with (at_builtin; refine print_append_row (w0 := w) w.heap.size rfl _ _ 22 3 .i64 8 rfl Try.underlying22 infoInt (by decide) _ (raw n i) [(n : Int) - (M : Int), (n : Int) - (M : Int) - (P : Int)] _ 2 2 rfl rfl (HO.out.alloc _) (reads_lit _ [(n : Int) - (M : Int), (n : Int) - (M : Int) - (P : Int)] (by simp) _) (below_alloc HB.out _) (below_alloc HB.out _).size (by rw [HL.out]; omega) ?_; intro v1 w1 hown hB hg hat; have HO1 := Aside0.mk hown; have HB1 := Aside0.mk hB; clear hown hB hg hat)
        go_roundw
        case rel => exact ⟨i + 1, by rw [Nat.pow_succ, ← HPP.out]; go_num, HN, ⟨by rw [raw_succ, HR.out]; exact HO1.out⟩, HB1⟩
        case measure => simp [intOf]; omega
    · have hd : decide ((P : Int) ≤ (n : Int)) = false := decide_eq_false (by omega)
      have hi : i = pw n := Pows.uniq ⟨HP.out, by rw [← HPP.out]; omega⟩ (pw_pows n)
      obtain ⟨g, c, rfl, hg, hc, hcm, hat⟩ := At.of_own HO.out (by rw [raw_length]; omega)
      subst hi
      have HOO := Aside0.mk HO.out
      clear HO
      have HG := Aside0.mk hat
      clear hat
      have hl := raw_length n (pw n)
      have hp := pw_le hn
      have HL := Aside0.mk hl
      clear hl
      go_wp2_with fail
      refine (sort_own HOO.out HB.out hg HB.out.size (by rw [HL.out]; omega)).mono ?_
      rintro e w1 ⟨rfl, ho, hb, hs⟩
      obtain ⟨s, hs⟩ : ∃ s, s = (raw n (pw n)).mergeSort fun x y => decide (x ≤ y) := ⟨_, rfl⟩
      have hsl : s.length = (raw n (pw n)).length := by rw [hs]; exact List.length_mergeSort _
      rw [← hs, ← hsl] at ho
      rw [← hsl]
      have HS := Aside0.mk hs
      have HSL := Aside0.mk hsl
      have HO1 := Aside0.mk ho
      have HB1 := Aside0.mk hb
      clear hs hsl ho hb HOO HB HG hc
      go_wp2_with fail
      refine (compact_own HO1.out HB1.out hg (by rw [HSL.out, HL.out]; omega)).mono ?_
      rintro e w2 ⟨rfl, ho, hb⟩
      have hk : compact s = kept n := by rw [HS.out]; rfl
      rw [hk] at ho ⊢
      obtain ⟨g2, c2, e2, hg2, hc2, hcm2, hat⟩ := At.of_own ho (kept_pos n)
      simp only [Value.slice.injEq, Option.some.injEq, Addr.mk.injEq] at e2
      obtain ⟨⟨rfl, _, _⟩, _, rfl⟩ := e2
      have HB2 := Aside0.mk hb
      have HA := Aside0.mk hat
      clear hb hat ho hk
      go_wp2
      go_ret
      exact ⟨g, c, rfl, hc2, hcm2, hg2, HA.out, HB2.out⟩
end Go.Proofs.Ytaeamehngbfneaa.Th
