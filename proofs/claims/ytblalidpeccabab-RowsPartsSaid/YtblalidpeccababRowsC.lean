/- slices.rotate of events: its walk. -/
import Derived.Test.YtblalidpeccababRowsB
namespace Go.Proofs.Ytblalidpeccabab.Rw
open Go Go.RowKit Go.Lib Go.Proofs.YtblalidpeccababW.PrintWords Go.Proofs.YtblalidpeccababW.PrintLast Go.Proofs.YtblalidpeccababW.PrintMore Go.Proofs.Ytblalidpeccabab.PRowsThree Go.Proofs.Ytblalidpeccabab.Bs Go.Proofs.Ytblalidpeccabab.RegionVal
set_option linter.unusedVariables false
set_option linter.unusedSimpArgs false

set_option maxHeartbeats 8000000 in
set_option maxRecDepth 100000 in
theorem rotate_calls (w : World) (base g n c : Nat) (A U V C : List S53) (h : RE w base g n c (A ++ U ++ V ++ C)) (hn : n ≤ 200) (hu : 0 < U.length) (hv : 0 < V.length) (a m b : Nat) (ha : a = A.length) (hm : m = A.length + U.length) (hb : b = A.length + U.length + V.length) :
    Calls Try.prog 77 #[.slice (some ⟨g, 0, none⟩) n c, .int .i64 (a : Int), .int .i64 (m : Int), .int .i64 (b : Int), .func (.func 55) #[] #[]] w fun e w' => e = .returned (.tuple #[]) ∧ RE w' base g n c (A ++ V ++ U ++ C) ∧ w.grownBy w' (some g) := by
  have hlen := h.len
  simp only [List.length_append] at hlen
  have H := Aside0.mk h
  obtain ⟨i0, hi0⟩ : ∃ i0, i0 = U.length := ⟨_, rfl⟩
  obtain ⟨j0, hj0⟩ : ∃ j0, j0 = V.length := ⟨_, rfl⟩
  have HI := Aside0.mk hi0
  have HJ := Aside0.mk hj0
  have HMM := Aside0.mk hm
  have HNN := Aside0.mk hlen
  have h1 : m ≤ 200 := by omega
  have h2 : b ≤ 200 := by omega
  have hw1 : IntKind.i64.wrap ((m : Int) - (a : Int)) = (i0 : Int) := by rw [IntKind.wrap_i64]; omega
  have hw2 : IntKind.i64.wrap ((b : Int) - (m : Int)) = (j0 : Int) := by rw [IntKind.wrap_i64]; omega
  have hi : 0 < i0 := by omega
  have hj : 0 < j0 := by omega
  clear h hlen ha hm hb hu hv hi0 hj0
  go_enter Try.func77, Try.ntmps77
  go_wp2_with fail
  clear hw1 hw2
  go_loopw [10, 11] (fun vi vj wr => ∃ (d i j : Nat) (D U' V' E : List S53), 0 < i ∧ 0 < j ∧ i ≤ 200 ∧ j ≤ 200 ∧ vi = .int .i64 (i : Int) ∧ vj = .int .i64 (j : Int) ∧ Aside0 (d = D.length ∧ i = U'.length ∧ j = V'.length ∧ m = d + i) ∧ Aside0 (D ++ V' ++ U' ++ E = A ++ V ++ U ++ C) ∧ Aside0 (RE wr base g n c (D ++ U' ++ V' ++ E)) ∧ Aside0 (w.grownBy wr (some g))) (fun vi vj _ => (intOf vi).toNat + (intOf vj).toNat)
  case atStart => exact ⟨A.length, i0, j0, A, U, V, C, hi, hj, by have := HNN.out; have := HI.out; omega, by have := HNN.out; have := HJ.out; omega, rfl, rfl, ⟨rfl, HI.out, HJ.out, by have := HMM.out; have := HI.out; omega⟩, ⟨rfl⟩, H, ⟨gb_below _ (Below.refl _ _)⟩⟩
  case round =>
    obtain ⟨d, i, j, D, U', V', E, hi, hj, hi2, hj2, rfl, rfl, HP, HE, HR, HG⟩ := hrel
    have hd2 : d ≤ 200 := by have := HP.out; omega
    have hw1 : IntKind.i64.wrap ((m : Int) - (i : Int)) = (d : Int) := by rw [IntKind.wrap_i64]; have := HP.out; omega
    by_cases hlt : j < i
    · have q0 : ((i : Int) != (j : Int)) = true := bne_iff_ne.mpr (by omega)
      have q1 : decide ((j : Int) < (i : Int)) = true := decide_eq_true (by omega)
      have hsw := swapRange_calls wr base g n c D (U'.take j) (U'.drop j) V' E (by have h := HR.out; rw [show D ++ U' ++ V' ++ E = D ++ U'.take j ++ U'.drop j ++ V' ++ E by rw [List.append_assoc D (U'.take j), List.take_append_drop]] at h; exact h) (by rw [List.length_take]; have := HP.out; omega) hn d m j HP.out.1 (by rw [List.length_take, List.length_drop]; have := HP.out; omega) (by rw [List.length_take]; have := HP.out; omega)
      have HSW := Aside0.mk hsw
      have hw2 : IntKind.i64.wrap ((i : Int) - (j : Int)) = ((i - j : Nat) : Int) := by rw [IntKind.wrap_i64]; omega
      clear hsw
      go_wp2_with fail
      refine HSW.out.mono ?_
      rintro e w2 ⟨rfl, hR, hg⟩
      have HR2 := Aside0.mk hR
      have HG2 := Aside0.mk (gb_trans HG.out hg)
      clear hR hg HSW
      go_wp2
      go_roundw
      case rel =>
        refine ⟨d + j, i - j, j, D ++ V', U'.drop j, U'.take j, E, by omega, hj, by omega, hj2, rfl, rfl, ⟨by rw [List.length_append]; have := HP.out; omega, by rw [List.length_drop]; have := HP.out; omega, by rw [List.length_take]; have := HP.out; omega, by have := HP.out; omega⟩, ⟨?_⟩, HR2, HG2⟩
        rw [← HE.out]
        have h3 := List.take_append_drop j U'
        calc D ++ V' ++ List.take j U' ++ List.drop j U' ++ E = D ++ V' ++ (List.take j U' ++ List.drop j U') ++ E := by simp only [List.append_assoc]
          _ = D ++ V' ++ U' ++ E := by rw [h3]
      case measure => simp [intOf]; omega
    · by_cases hlt2 : i < j
      · have q0 : ((i : Int) != (j : Int)) = true := bne_iff_ne.mpr (by omega)
        have q1 : decide ((j : Int) < (i : Int)) = false := decide_eq_false (by omega)
        obtain ⟨k, hk⟩ : ∃ k, k = j - i := ⟨_, rfl⟩
        obtain ⟨s, hs⟩ : ∃ s, s = m + k := ⟨_, rfl⟩
        have hsw := swapRange_calls wr base g n c D U' (V'.take k) (V'.drop k) E (by have h := HR.out; rw [show D ++ U' ++ V' ++ E = D ++ U' ++ V'.take k ++ V'.drop k ++ E by rw [List.append_assoc (D ++ U') (V'.take k), List.take_append_drop]] at h; exact h) (by rw [List.length_drop]; have := HP.out; omega) hn d s i HP.out.1 (by rw [List.length_take]; have := HP.out; omega) (by have := HP.out; omega)
        have HSW := Aside0.mk hsw
        have hw2 : IntKind.i64.wrap ((m : Int) + (j : Int)) = (m : Int) + (j : Int) := by rw [IntKind.wrap_i64]; omega
        have hw3 : IntKind.i64.wrap ((m : Int) + (j : Int) - (i : Int)) = (s : Int) := by rw [IntKind.wrap_i64]; omega
        have hw4 : IntKind.i64.wrap ((j : Int) - (i : Int)) = (k : Int) := by rw [IntKind.wrap_i64]; omega
        have HK := Aside0.mk hk
        clear hsw hk hs
        go_wp2_with fail
        refine HSW.out.mono ?_
        rintro e w2 ⟨rfl, hR, hg⟩
        have HR2 := Aside0.mk hR
        have HG2 := Aside0.mk (gb_trans HG.out hg)
        clear hR hg HSW
        go_wp2
        go_roundw
        case rel =>
          refine ⟨d, i, k, D, V'.drop k, V'.take k, U' ++ E, hi, by have := HK.out; omega, hi2, by have := HK.out; omega, rfl, rfl, ⟨HP.out.1, by rw [List.length_drop]; have := HP.out; have := HK.out; omega, by rw [List.length_take]; have := HP.out; have := HK.out; omega, HP.out.2.2.2⟩, ⟨?_⟩, ?_, HG2⟩
          · rw [← HE.out]
            have h3 := List.take_append_drop k V'
            calc D ++ List.take k V' ++ List.drop k V' ++ (U' ++ E) = D ++ (List.take k V' ++ List.drop k V') ++ U' ++ E := by simp only [List.append_assoc]
              _ = D ++ V' ++ U' ++ E := by rw [h3]
          · constructor
            have h := HR2.out
            simp only [List.append_assoc] at h ⊢
            exact h
        case measure => have := HK.out; simp [intOf]; omega
      · obtain rfl : i = j := by omega
        have hsw := swapRange_calls wr base g n c D U' [] V' E (by rw [List.append_nil]; exact HR.out) (by have := HP.out; omega) hn d m i HP.out.1 (by have := HP.out; simp; omega) (by have := HP.out; omega)
        have HSW := Aside0.mk hsw
        clear hsw
        go_wp2_with fail
        refine HSW.out.mono ?_
        rintro e w2 ⟨rfl, hR, hg⟩
        have HR2 := Aside0.mk (show RE w2 base g n c (A ++ V ++ U ++ C) by rw [← HE.out]; rw [List.append_nil] at hR; exact hR)
        have HG2 := Aside0.mk (gb_trans HG.out hg)
        clear hR hg HSW
        go_wp2
        exact bodyPost_end (v := .tuple #[]) (results_none rfl _ _ _) rfl ⟨rfl, HR2.out, HG2.out⟩
end Go.Proofs.Ytblalidpeccabab.Rw
