/- ThinFew, ThinNear, ThinGone: the calls answer true, whatever comes in. -/
import Derived.Test.YtaeamehngbfneaaThinB
namespace Go.Proofs.Ytaeamehngbfneaa.Th
open Go Go.RowKit Go.Lib Go.Proofs.YtaeamehngbfneaaW.PrintWords Go.Proofs.YtaeamehngbfneaaW.PrintLast Go.Proofs.YtaeamehngbfneaaW.PrintMore Go.Proofs.Ytaeamehngbfneaa.Bs
attribute [local go_sem] max2_int min2_int max_two min_two
set_option linter.unusedVariables false
set_option linter.unusedSimpArgs false

theorem at_first {w : World} {g n : Nat} (h : At w g (kept n)) : w.cell? ⟨g, 0, none⟩ = some (.int .i64 0) := by
  have := h.out 0 (kept_pos n)
  rwa [show (kept n).getD 0 0 = 0 by rw [List.getD_eq_getElem?_getD, List.getElem?_eq_getElem (kept_pos n)]; exact kept_first n] at this
theorem at_last {w : World} {g n : Nat} (h : At w g (kept n)) : w.cell? ⟨g, (kept n).length - 1, none⟩ = some (.int .i64 n) := by
  have hp := kept_pos n
  have := h.out ((kept n).length - 1) (by omega)
  rwa [Nat.zero_add, show (kept n).getD ((kept n).length - 1) 0 = n by rw [List.getD_eq_getElem?_getD, List.getElem?_eq_getElem (by omega)]; exact kept_last n] at this

set_option maxHeartbeats 8000000 in
set_option maxRecDepth 100000 in
theorem thinFew_walk (w : World) (n : Int) (hwf : (Lit.int .i64 n).wf = true) :
    Calls Try.prog 6 #[.int .i64 n] w fun e w' => e = .returned (.bool true) ∧ Below w.heap.size w w' := by
  clear hwf
  go_enter Try.func6, Try.ntmps6
  go_wp2_with fail
  refine (begunC (Below.refl _ _)).mono ?_
  rintro e w1 ⟨rfl, hb⟩
  have HB1 := Aside0.mk hb; clear hb
  go_wp2_with fail
  by_cases hn : n < 0 ∨ 4000 < n
  · refine (Kept_bad _ n hn).mono ?_
    rintro e w2 ⟨rfl, rfl⟩
    clear hn
    go_wp2_with fail
    refine (begunC HB1.out).mono ?_
    rintro e w3 ⟨rfl, hb⟩
    have HB3 := Aside0.mk hb; clear hb
    go_wp2
    go_ret
    exact ⟨rfl, HB3.out⟩
  · obtain ⟨N, rfl⟩ : ∃ N : Nat, n = (N : Int) := ⟨n.toNat, by omega⟩
    have hN : N ≤ 4000 := by omega
    clear hn
    refine (Kept_ok _ N hN).mono ?_
    rintro e w2 ⟨g, c, rfl, hc, hg, hA, hb⟩
    have HA := Aside0.mk hA
    have HB2 := Aside0.mk (below_then HB1.out HB1.out.size hb)
    have hl := kept_le hN
    have hlp := kept_pos N
    have HKL := Aside0.mk (kept_length N)
    clear hA hb
    go_wp2
    go_loop [5, 6] (fun m p => ∃ i : Nat, i ≤ 13 ∧ p = .int .i64 ((2 ^ i : Nat) : Int) ∧ m = .int .i64 ((2 + 2 * i : Nat) : Int) ∧ Aside0 (∀ j, j < i → 2 ^ j ≤ N)) (fun _ p => 8001 - (intOf p).toNat)
    case atStart => exact ⟨0, by omega, by simp, by simp, ⟨fun j hj => absurd hj (Nat.not_lt_zero _)⟩⟩
    case round =>
      obtain ⟨i, hi13, rfl, rfl, HP⟩ := hrel
      obtain ⟨P, hP⟩ : ∃ P, P = 2 ^ i := ⟨_, rfl⟩
      have hpos : 0 < P := by rw [hP]; exact Nat.two_pow_pos i
      rw [← hP]
      have HPP := Aside0.mk hP
      clear hP
      obtain ⟨M, hM⟩ : ∃ M, M = 2 + 2 * i := ⟨_, rfl⟩
      have hM1 : M ≤ 30 := by omega
      rw [← hM]
      have HM := Aside0.mk hM
      clear hM
      by_cases hle : P ≤ N
      · have hi : i ≤ 11 := by
          have h1 := HPP.out
          rcases Nat.lt_or_ge i 12 with h | h
          · omega
          · have := Nat.pow_le_pow_right (n := 2) (by omega) h
            omega
        have HN : Aside0 (∀ j, j < i + 1 → 2 ^ j ≤ N) := ⟨fun j hj => by
          rcases Nat.lt_or_eq_of_le (Nat.le_of_lt_succ hj) with h | rfl
          · exact HP.out j h
          · rw [← HPP.out]; exact hle⟩
        go_wp2
        go_round
        case rel => exact ⟨i + 1, by omega, by rw [Nat.pow_succ, ← HPP.out]; go_num, by rw [show 2 + 2 * (i + 1) = M + 2 by have := HM.out; omega]; go_num, HN⟩
        case measure => simp [intOf]; omega
      · have hd : decide ((P : Int) ≤ (N : Int)) = false := decide_eq_false (by omega)
        have hi : i = pw N := Pows.uniq ⟨HP.out, by rw [← HPP.out]; omega⟩ (pw_pows N)
        have hlen : (kept N).length ≤ M := by rw [HM.out, hi]; exact HKL.out
        clear hi
        go_wp2_with fail
        refine (begun_calls _).mono ?_
        rintro e w3 ⟨rfl, hb⟩
        have HB3 := Aside0.mk (below_then HB2.out HB2.out.size hb)
        have c1 := at_first (HA.out.below hb)
        have c2 := at_last (HA.out.below hb)
        have z1 : (0 : Int) < ((kept N).length : Int) := by omega
        obtain ⟨L, hL⟩ : ∃ L, (kept N).length = L + 1 := ⟨(kept N).length - 1, by omega⟩
        rw [hL] at c2 hlen z1 hl ⊢
        rw [Nat.add_sub_cancel] at c2
        clear hL hlp hc hb
        go_wp2
        go_ret
        exact ⟨rfl, HB3.out⟩

set_option maxHeartbeats 8000000 in
set_option maxRecDepth 100000 in
theorem thinNear_walk (w : World) (n : Int) (hwf : (Lit.int .i64 n).wf = true) (a : Int) (hwf2 : (Lit.int .i64 a).wf = true) :
    Calls Try.prog 7 #[.int .i64 n, .int .i64 a] w fun e w' => e = .returned (.bool true) ∧ Below w.heap.size w w' := by
  clear hwf hwf2
  go_enter Try.func7, Try.ntmps7
  go_wp2_with fail
  refine (begunC (Below.refl _ _)).mono ?_
  rintro e w1 ⟨rfl, hb⟩
  have HB1 := Aside0.mk hb; clear hb
  go_wp2_with fail
  by_cases hn : n < 0 ∨ 4000 < n
  · refine (Kept_bad _ n hn).mono ?_
    rintro e w2 ⟨rfl, rfl⟩
    clear hn
    go_wp2_with fail
    refine (begunC HB1.out).mono ?_
    rintro e w3 ⟨rfl, hb⟩
    have HB3 := Aside0.mk hb; clear hb
    go_wp2
    go_ret
    exact ⟨rfl, HB3.out⟩
  · obtain ⟨N, rfl⟩ : ∃ N : Nat, n = (N : Int) := ⟨n.toNat, by omega⟩
    have hN : N ≤ 4000 := by omega
    clear hn
    refine (Kept_ok _ N hN).mono ?_
    rintro e w2 ⟨g, c, rfl, hc, hg, hA, hb⟩
    have HA := Aside0.mk hA
    have HB2 := Aside0.mk (below_then HB1.out HB1.out.size hb)
    have hl := kept_le hN
    clear hA hb
    by_cases ha0 : a < 0
    · go_wp2_with fail
      refine (begunC HB2.out).mono ?_
      rintro e w3 ⟨rfl, hb⟩
      have HB3 := Aside0.mk hb; clear hb
      go_wp2
      go_ret
      exact ⟨rfl, HB3.out⟩
    · by_cases ha1 : a > (N : Int)
      · go_wp2_with fail
        refine (begunC HB2.out).mono ?_
        rintro e w3 ⟨rfl, hb⟩
        have HB3 := Aside0.mk hb; clear hb
        go_wp2
        go_ret
        exact ⟨rfl, HB3.out⟩
      · go_wp2_with fail
        refine (From_calls _ g c (kept N) a HA.out hc (kept_sorted N) (fun y hy => (kept_range hy).1) (by omega) ⟨0, mem_kept.2 (.inl rfl), by omega⟩).mono ?_
        rintro e w3 ⟨r, rfl, hr, hra, hall, hb⟩
        have HB3 := Aside0.mk (below_then HB2.out HB2.out.size hb)
        have hr0 := (kept_range hr).1
        have hnear : a - r < 2 * ((N : Int) - a + 1) := by
          by_cases hm : a ∈ kept N
          · have := hall a hm (Int.le_refl _)
            omega
          · obtain ⟨A, rfl⟩ : ∃ A : Nat, a = (A : Int) := ⟨a.toNat, by omega⟩
            obtain ⟨k, hk1, hk2, hk3⟩ := kept_near (show A ≤ N by omega) hm
            have := hall k hk1 (by omega)
            omega
        clear hr hall hb
        go_wp2_with fail
        refine (begunC HB3.out).mono ?_
        rintro e w4 ⟨rfl, hb⟩
        have HB4 := Aside0.mk hb; clear hb
        go_wp2
        go_ret
        exact ⟨rfl, HB4.out⟩

set_option maxHeartbeats 8000000 in
set_option maxRecDepth 100000 in
theorem thinGone_walk (w : World) (n : Int) (hwf : (Lit.int .i64 n).wf = true) :
    Calls Try.prog 8 #[.int .i64 n] w fun e w' => e = .returned (.bool true) ∧ Below w.heap.size w w' := by
  clear hwf
  go_enter Try.func8, Try.ntmps8
  go_wp2_with fail
  refine (begunC (Below.refl _ _)).mono ?_
  rintro e w1 ⟨rfl, hb⟩
  have HB1 := Aside0.mk hb; clear hb
  by_cases hn : n < 1
  · go_wp2_with fail
    refine (begunC HB1.out).mono ?_
    rintro e w3 ⟨rfl, hb⟩
    have HB3 := Aside0.mk hb; clear hb
    go_wp2
    go_ret
    exact ⟨rfl, HB3.out⟩
  · by_cases hn2 : n > 300
    · go_wp2_with fail
      refine (begunC HB1.out).mono ?_
      rintro e w3 ⟨rfl, hb⟩
      have HB3 := Aside0.mk hb; clear hb
      go_wp2
      go_ret
      exact ⟨rfl, HB3.out⟩
    · obtain ⟨N, rfl⟩ : ∃ N : Nat, n = (N : Int) := ⟨n.toNat, by omega⟩
      have hN : N ≤ 300 := by omega
      have hN1 : 1 ≤ N := by omega
      have d1 : decide ((N : Int) < 1) = false := decide_eq_false (by omega)
      have d2 : decide ((300 : Int) < (N : Int)) = false := decide_eq_false (by omega)
      clear hn hn2
      go_wp2_with fail
      refine (Kept_ok _ 0 (by omega)).mono ?_
      rintro e w2 ⟨g, c, rfl, hc, hg, hA, hb⟩
      have HA := Aside0.mk hA
      have HB2 := Aside0.mk (below_then HB1.out HB1.out.size hb)
      clear hA hb
      go_wp2
      go_loopw [3, 5, 6, 7, 8] (fun v i s6 s7 s8 wr => ∃ (k g c : Nat), k ≤ N ∧ i = .int .i64 ((k : Int) + 1) ∧ v = .slice (some ⟨g, 0, none⟩) (kept k).length c ∧ Aside0 ((kept k).length ≤ c) ∧ Aside0 (At wr g (kept k)) ∧ Aside0 (Below w.heap.size w wr)) (fun _ i _ _ _ _ => N + 1 - (intOf i).toNat)
      case atStart => exact ⟨0, g, c, Nat.zero_le _, by simp, rfl, ⟨hc⟩, HA, HB2⟩
      case round =>
        clear HA HB2 hc hg HB1
        obtain ⟨k, g, c, hk, rfl, rfl, HC, HA, HB⟩ := hrel
        by_cases hlt : k < N
        · go_wp2_with fail
          refine (Add_calls _ g c k (by omega) HA.out HC.out).mono ?_
          rintro e w3 ⟨g2, c2, A3, c3, rfl, hc2, hg2, hA2, hc3, hr3, hB2⟩
          have HA2 := Aside0.mk hA2
          have HC2 := Aside0.mk hc2
          have HB3 := Aside0.mk (below_then HB.out HB.out.size hB2)
          have hgl := gone_length k
          have hkl := kept_le (show k ≤ 4000 by omega)
          have hkl1 := kept_le (show k + 1 ≤ 4000 by omega)
          have hp := kept_pos (k + 1)
          have c1 := at_last hA2
          obtain ⟨L, hL⟩ : ∃ L, (kept (k + 1)).length = L + 1 := ⟨(kept (k + 1)).length - 1, by omega⟩
          have HL := Aside0.mk hL
          rw [hL] at c1 hgl hkl1 ⊢
          rw [Nat.add_sub_cancel] at c1
          generalize (gone k).length = G at hgl
          generalize (kept k).length = K at hgl hkl
          have z : ((L : Int) + 1 != (K : Int) + 1 - (G : Int)) = false := by simp; omega
          have z3 : G ≤ K := by omega
          have hgl' := Aside0.mk hgl
          clear hL hp hc2 hg2 hA2 hr3 hB2 HC HA hgl
          go_wp2
          go_roundw
          case rel => exact ⟨k + 1, g2, c2, by omega, by go_num, by rw [HL.out], HC2, HA2, HB3⟩
          case measure => simp [intOf]; omega
        · have hk' : k = N := by omega
          subst hk'
          go_wp2_with fail
          refine (Kept_ok _ k (by omega)).mono ?_
          rintro e w3 ⟨g2, c2, rfl, hc2, hg2, hA2, hb⟩
          have HA2 := Aside0.mk hA2
          have HA' := Aside0.mk (HA.out.below hb)
          have HB3 := Aside0.mk (below_then HB.out HB.out.size hb)
          have hkl := kept_le (show k ≤ 4000 by omega)
          clear hA2 hb hc2 hg2 HA
          go_wp2_with fail
          refine (begun_calls _).mono ?_
          rintro e w4 ⟨rfl, hb⟩
          have HA := Aside0.mk (HA'.out.below hb)
          have HA2' := Aside0.mk (HA2.out.below hb)
          have HB4 := Aside0.mk (below_then HB3.out HB3.out.size hb)
          clear hb
          go_wp2_with fail
          refine (same_calls _ (some ⟨g2, 0, none⟩) c2 (kept k) (some ⟨g, 0, none⟩) c (kept k) (HA2'.out.reads (by omega)) (HA.out.reads (by omega))).mono ?_
          rintro e w5 ⟨rfl, hb⟩
          rw [show decide (kept k = kept k) = true from decide_eq_true rfl]
          have HB5 := Aside0.mk (below_then HB4.out HB4.out.size hb)
          clear hb
          go_wp2
          go_ret
          exact ⟨rfl, HB5.out⟩
end Go.Proofs.Ytaeamehngbfneaa.Th
