/- sched.Rank: its walk. -/
import Derived.Test.YtblalidpeccabacSchedR
namespace Go.Proofs.Ytblalidpeccabac.Sd
open Go Go.RowKit Go.Lib Go.Proofs.YtblalidpeccabacW.PrintWords Go.Proofs.YtblalidpeccabacW.PrintLast Go.Proofs.YtblalidpeccabacW.PrintMore Go.Proofs.Ytblalidpeccabac.PSchedBack Go.Proofs.Ytblalidpeccabac.Bs
set_option linter.unusedVariables false
set_option linter.unusedSimpArgs false
attribute [local go_sem] max2_int min2_int max_two min_two

set_option maxHeartbeats 16000000 in
set_option maxRecDepth 100000 in
theorem rank_calls (K : Nat) (w : World) (A : Option Addr) (c : Nat) (parts : List Int) (A2 : Option Addr) (c2 : Nat) (l : List Int) (r e : Int) (hr : Kd.C kI w A parts.length parts) (hc : parts.length ≤ c) (hr2 : Kd.C kI w A2 l.length l) (hc2 : l.length ≤ c2) (h : rankF K parts l = some (r, e)) :
    Calls Try.prog 18 #[.slice A parts.length c, .slice A2 l.length c2] w fun en w' => en = .returned (.tuple #[.int .i64 r, .int .i64 e]) ∧ Below w.heap.size w w' := by
  have HR := Aside0.mk hr
  have HR2 := Aside0.mk hr2
  have hn : l.length ≤ 9223372036854775807 := hr2.2.1
  unfold rankF at h
  obtain ⟨e0, he0, h⟩ := Option.bind_eq_some_iff.1 h
  have HE := Aside0.mk (sched_right.calls K A c parts e0 w hr hc he0)
  clear hr he0 hr2
  by_cases hz : e0 = 0
  · subst hz
    rw [if_pos rfl] at h
    by_cases hpl : parts.length ≤ 1000
    · rw [if_pos hpl] at h
      have HRK := Aside0.mk h
      clear h
      go_enter Try.func18, Try.ntmps18
      go_wp2_with fail
      refine HE.out.mono ?_
      rintro en w1 ⟨rfl, hb⟩
      have HB := Aside0.mk hb
      clear hb
      go_wp2_with fail
      refine (clone_calls w1 A c parts (Kd.C_below HR.out HB.out) hc (by omega)).mono ?_
      rintro en w3 ⟨v, rfl, hO, hb⟩
      have HB3 := Aside0.mk (below_then HB.out HB.out.size hb)
      have HO := Aside0.mk (Kd.R_lower hO HB.out.size)
      clear hO hb HB
      by_cases hp : parts = []
      · subst hp
        obtain ⟨A1, d1, rfl, hd1, -⟩ := Kd.R_reads HO.out
        clear HR HE
        go_wp2_with fail
        cases l with
        | nil =>
          have HRE := Aside0.mk (show r = 0 ∧ e = 0 by
            have h := HRK.out
            simp only [rankL] at h
            have h2 := Prod.mk.inj (Option.some.inj h)
            exact ⟨h2.1.symm, h2.2.symm⟩)
          obtain ⟨rfl, rfl⟩ := HRE.out
          clear HRK HRE
          go_loopw [8, 21] (fun v8 v21 wr => v8 = .int .i64 0 ∧ v21 = .int .i64 0 ∧ Aside0 (Below w.heap.size w wr) ∧ Aside0 (wr.ownsRow w.heap.size 3 1 (.slice A1 0 d1) 0 [])) (fun _ _ _ => 0)
          case atStart => exact ⟨rfl, rfl, HB3, ⟨Kd.own_of_R HO.out⟩⟩
          case round =>
            clear HB3 HO
            obtain ⟨rfl, rfl, HB, HO⟩ := hrel
            go_wp2_with (at_builtin; refine print_append_row (w0 := w) w.heap.size rfl _ _ 23 3 .i64 8 rfl Try.underlying23 infoInt (by decide) _ [] [0] _ 1 1 rfl rfl (own_keep HO.out (below_alloc (Below.refl _ _) _)) (reads_lit _ [0] (by simp) _) (below_alloc HB.out _) (below_alloc HB.out _).size (by decide) ?_; intro v1 w5 hown hB hg hat; have HO5 := Aside0.mk hown; have HB5 := Aside0.mk hB; clear hown hB hg hat)
            obtain ⟨A6, d6, rfl, hd6, hrd6⟩ := own_rd HO5.out
            refine (max_calls _ A6 d6 ([] ++ [0]) (C_int hrd6) (by simp) (by simp)).mono ?_
            rintro en w6 ⟨m, rfl, hm, hb⟩
            have hm0 : m = 0 := by
              have := hm.2
              simpa using this
            subst hm0
            have HB6 := Aside0.mk (below_then HB5.out HB5.out.size hb)
            clear hm hb
            go_wp2
            exact bodyPost_ret (v := .tuple #[.int .i64 0, .int .i64 0]) (by simp [results, Try.f18, go_sem]) rfl ⟨rfl, HB6.out⟩
        | cons x l =>
          have HRE := Aside0.mk (show r = 0 ∧ e = 3 by
            have h := HRK.out
            simp only [rankL] at h
            rw [if_pos (by by_cases h : x < 0; exact .inl h; exact .inr (by simp; omega))] at h
            have h2 := Prod.mk.inj (Option.some.inj h)
            exact ⟨h2.1.symm, h2.2.symm⟩)
          obtain ⟨rfl, rfl⟩ := HRE.out
          clear HRK HRE
          obtain ⟨ad, rfl, h0⟩ := C_cell (Kd.C_below HR2.out HB3.out) 0 (by simp)
          have h00 : w3.cell? ad = some (.int .i64 x) := h0
          have HX := Aside0.mk h00
          clear h0 h00
          obtain ⟨L, hL⟩ : ∃ L, L = (x :: l).length := ⟨_, rfl⟩
          have hLp : 0 < L := by rw [hL]; simp
          have hLp1 : (0 : Int) < (L : Int) := by omega
          rw [← hL]
          clear hL hn hc2 HR2
          go_loopw [8, 21] (fun v8 v21 wr => v8 = .int .i64 0 ∧ v21 = .int .i64 0 ∧ Aside0 (Below w.heap.size w wr) ∧ Aside0 (wr.cell? ad = some (.int .i64 x))) (fun _ _ _ => 0)
          case atStart => exact ⟨rfl, rfl, HB3, HX⟩
          case round =>
            clear HB3 HX
            obtain ⟨rfl, rfl, HB, HX⟩ := hrel
            have h0 := HX.out
            have h1 : wr.cell? (ad.add 0) = some (.int .i64 x) := h0
            by_cases hx : x < 0
            · go_wp2
              exact bodyPost_ret (v := .tuple #[.int .i64 0, .int .i64 3]) (by simp [results, Try.f18, go_sem]) rfl ⟨rfl, HB.out⟩
            · have hx0 : 0 ≤ x := by omega
              go_wp2
              exact bodyPost_ret (v := .tuple #[.int .i64 0, .int .i64 3]) (by simp [results, Try.f18, go_sem]) rfl ⟨rfl, HB.out⟩
      · have hpos : 0 < parts.length := List.length_pos_iff.2 hp
        obtain ⟨N, hN⟩ : ∃ N, N = parts.length := ⟨_, rfl⟩
        have HNL := Aside0.mk hN
        obtain ⟨g, c1, rfl, hIR⟩ := R_form HO.out hpos
        rw [← hN] at hIR hpl hpos ⊢
        have HIR := Aside0.mk hIR
        have hNc : N ≤ c1 := (Kd.R_reads' hIR).2.1
        have HGB := Aside0.mk hIR.base
        clear hp HO hIR hN HR HE
        go_wp2_with fail
        go_loopw [8, 21] (fun v8 v21 wr => ∃ (i : Nat) (n : Int) (left : List Int), v8 = .int .i64 n ∧ v21 = .int .i64 (i : Int) ∧ i ≤ l.length ∧ Aside0 (left.length = N) ∧ Aside0 (rankL K left (l.drop i) n = some (r, e)) ∧ Aside0 (IR wr w.heap.size g N c1 left) ∧ Aside0 (Below w.heap.size w wr)) (fun _ v21 _ => l.length - (intOf v21).toNat)
        case atStart => exact ⟨0, 0, parts, rfl, rfl, Nat.zero_le _, ⟨HNL.out.symm⟩, ⟨HRK.out⟩, HIR, HB3⟩
        case round =>
          clear HRK HIR HB3 HNL
          obtain ⟨i, n, left, rfl, rfl, hi, HL, HRK, HIR, HB⟩ := hrel
          by_cases hlt : i < l.length
          · have hlt1 : (i : Int) < (l.length : Int) := by omega
            obtain ⟨ad, rfl, h0⟩ := C_cell (Kd.C_below HR2.out HB.out) i hlt
            have H := HRK.out
            rw [List.drop_eq_getElem_cons hlt] at H
            simp only [rankL] at H
            generalize l[i] = x at h0 H
            by_cases hx0 : x < 0
            · rw [if_pos (.inl hx0)] at H
              obtain ⟨rfl, rfl⟩ := Prod.mk.inj (Option.some.inj H)
              clear H HRK
              go_wp2
              exact bodyPost_ret (v := .tuple #[.int .i64 0, .int .i64 3]) (by simp [results, Try.f18, go_sem]) rfl ⟨rfl, HB.out⟩
            · by_cases hxN : (N : Int) ≤ x
              · rw [if_pos (.inr (by rw [HL.out]; exact hxN))] at H
                obtain ⟨rfl, rfl⟩ := Prod.mk.inj (Option.some.inj H)
                have hx1 : 0 ≤ x := by omega
                clear H HRK
                go_wp2
                exact bodyPost_ret (v := .tuple #[.int .i64 0, .int .i64 3]) (by simp [results, Try.f18, go_sem]) rfl ⟨rfl, HB.out⟩
              · rw [if_neg (by rw [HL.out]; omega)] at H
                obtain ⟨k, rfl⟩ : ∃ k : Nat, x = (k : Int) := ⟨x.toNat, by omega⟩
                rw [Int.toNat_natCast] at H
                have hkN : k < N := by omega
                have hkN1 : (k : Int) < (N : Int) := by omega
                obtain ⟨h1, h1f⟩ := HIR.out.cell k (by rw [HL.out]; exact hkN)
                have hgd : left.getD k 0 = left[k]'(by rw [HL.out]; exact hkN) := getD_is (by rw [HL.out]; exact hkN)
                rw [hgd] at H
                obtain ⟨y, hy⟩ : ∃ y, y = left[k]'(by rw [HL.out]; exact hkN) := ⟨_, rfl⟩
                rw [← hy] at h1 H
                have HY := Aside0.mk hy
                clear hgd hy hx0 hxN HRK
                by_cases hy0 : y = 0
                · rw [if_pos hy0] at H
                  obtain ⟨rfl, rfl⟩ := Prod.mk.inj (Option.some.inj H)
                  subst hy0
                  clear H h1f
                  go_wp2
                  exact bodyPost_ret (v := .tuple #[.int .i64 0, .int .i64 3]) (by simp [results, Try.f18, go_sem]) rfl ⟨rfl, HB.out⟩
                · rw [if_neg hy0] at H
                  obtain ⟨n', hs, H⟩ := Option.bind_eq_some_iff.1 H
                  have HS := Aside0.mk hs
                  have HRK := Aside0.mk H
                  clear H hs
                  have hd : (decide ((k : Int) < 0) || decide (N ≤ k) || (y == 0)) = false := by
                    rw [decide_eq_false (by omega : ¬ ((k : Int) < 0)), decide_eq_false (by omega : ¬ (N ≤ k)), beq_eq_false_iff_ne.2 hy0]
                    rfl
                  go_wp2_with fail
                  clear hd
                  go_loopw [8, 41] (fun v8 v41 wq => ∃ (j : Nat) (n2 : Int), v8 = .int .i64 n2 ∧ v41 = .int .i64 (j : Int) ∧ j ≤ k ∧ Aside0 (sumW K left (k - j) j n2 = some n') ∧ Aside0 (Below wr.heap.size wr wq)) (fun _ v41 _ => k - (intOf v41).toNat)
                  case atStart => exact ⟨0, n, rfl, rfl, Nat.zero_le _, HS, ⟨Below.refl _ _⟩⟩
                  case round =>
                    clear HS
                    rename_i wr0 _ _ _ _ _
                    obtain ⟨j, n2, rfl, rfl, hj, HS, HBq⟩ := hrel
                    by_cases hjk : j < k
                    · have hjk1 : (j : Int) < (k : Int) := by omega
                      have H := HS.out
                      rw [show k - j = (k - (j + 1)) + 1 by omega] at H
                      simp only [sumW] at H
                      obtain ⟨z, hz, H⟩ := Option.bind_eq_some_iff.1 H
                      have HS2 := Aside0.mk H
                      have hw1 := without_calls K wr (some ⟨g, 0, none⟩) c1 left j z (HIR.out.below HBq.out).C (by rw [HL.out]; exact hNc) (by rw [HL.out]; omega) (by rw [HL.out]; omega) hz
                      rw [HL.out] at hw1
                      have HW1 := Aside0.mk hw1
                      clear hz H hw1 HS
                      go_wp2_with fail
                      refine HW1.out.mono ?_
                      rintro en w5 ⟨rfl, hb⟩
                      have HB5 := Aside0.mk (below_then HBq.out HBq.out.size hb)
                      have hwz := wrapW (n2 + z)
                      clear hb
                      go_wp2
                      go_roundw
                      case rel => exact ⟨j + 1, wrap64 (n2 + z), by first | rfl | (rw [hwz]), by go_num, hjk, HS2, HB5⟩
                      case measure => simp [intOf]; omega
                    · have HN2 := Aside0.mk (show n2 = n' by
                        have h := HS.out
                        rw [show k - j = 0 by omega] at h
                        exact Option.some.inj h)
                      have hle : k ≤ j := by omega
                      have hIq := HIR.out.below HBq.out
                      obtain ⟨h2, h2f⟩ := hIq.cell k (by rw [HL.out]; exact hkN)
                      rw [← HY.out] at h2
                      have hwy := wrapW (y - 1)
                      have HLE := Aside0.mk (less_is HY.out)
                      obtain ⟨u, hu⟩ : ∃ u, u = wrap64 (y - 1) := ⟨_, rfl⟩
                      rw [← hu] at hwy HLE
                      have HP := Aside0.mk (hIq.put k u)
                      have HBw := Aside0.mk (below_then HB.out HB.out.size HBq.out)
                      clear hIq hu h1 h1f HBq
                      go_wp2
                      go_roundw
                      case rel => exact ⟨i + 1, n2, less left k, rfl, by go_num, hlt, ⟨by unfold less; rw [List.length_set]; exact HL.out⟩, ⟨by rw [HN2.out]; exact HRK.out⟩, ⟨by rw [← HLE.out]; exact HP.out.1⟩, ⟨Below.grown HBw.out HP.out.2 HBw.out.size (fun k hk => by cases hk; exact HGB.out)⟩⟩
                      case measure => simp [intOf]; omega
          · have H := HRK.out
            rw [List.drop_eq_nil_of_le (by omega)] at H
            simp only [rankL] at H
            have hle : l.length ≤ i := by omega
            have hba := below_alloc (Below.refl wr.heap.size wr) (.cells #[Value.int .i64 0] 3)
            obtain ⟨A5, c5, w2, hrun, hc5, hC2, hIR2, hg2⟩ := IR.app (HIR.out.below hba) ⟨wr.heap.size, 0, none⟩ 0 (by
              rw [blk_cell (heap_alloc_new wr _)]; rfl) (by omega)
            have HRUN := Aside0.mk hrun
            have e1 : (left ++ [0]).length = N + 1 := by rw [List.length_append, HL.out]; rfl
            have hmx := max_calls w2 A5 c5 (left ++ [0]) (by rw [e1]; exact hC2) (by rw [e1]; omega) (by rw [e1]; omega)
            rw [e1] at hmx
            have HMX := Aside0.mk hmx
            have hgg := gb_trans (gb_below (some g) hba) hg2
            have HB2 := Aside0.mk (Below.grown HB.out hgg HB.out.size (fun k hk => by cases hk; exact HGB.out))
            clear hba hrun hC2 hIR2 hg2 e1 hmx hgg HIR HB hc5 HRK
            go_wp2_with (at_builtin; refine Lib.wpList_append_run _ rfl _ _ _ _ rfl _ _ rfl rfl _ _ HRUN.out ?_)
            refine HMX.out.mono ?_
            rintro en w4 ⟨m, rfl, hm, hb⟩
            have HB4 := Aside0.mk (below_then HB2.out HB2.out.size hb)
            have hmp := max_pos hm
            clear HMX HB2 hb hm HRUN
            by_cases ha : left.any (fun y => decide (0 < y)) = true
            · rw [if_pos ha] at H
              obtain ⟨rfl, rfl⟩ := Prod.mk.inj (Option.some.inj H)
              have hm0 : 0 < m := hmp.2 ha
              clear hmp ha H
              go_wp2
              exact bodyPost_ret (v := .tuple #[.int .i64 0, .int .i64 3]) (by simp [results, Try.f18, go_sem]) rfl ⟨rfl, HB4.out⟩
            · rw [if_neg ha] at H
              obtain ⟨rfl, rfl⟩ := Prod.mk.inj (Option.some.inj H)
              have hm0 : m ≤ 0 := by
                rcases Int.lt_or_le 0 m with h | h
                · exact absurd (hmp.1 h) ha
                · exact h
              clear hmp ha H
              go_wp2
              exact bodyPost_ret (v := .tuple #[.int .i64 n, .int .i64 0]) (by simp [results, Try.f18, go_sem]) rfl ⟨rfl, HB4.out⟩
    · rw [if_neg hpl] at h
      cases h
  · rw [if_neg hz] at h
    obtain ⟨rfl, rfl⟩ := Prod.mk.inj (Option.some.inj h)
    clear h
    go_enter Try.func18, Try.ntmps18
    go_wp2_with fail
    refine HE.out.mono ?_
    rintro en w1 ⟨rfl, hb⟩
    have HB := Aside0.mk hb
    clear hb
    go_wp2
    exact bodyPost_ret (v := .tuple #[.int .i64 0, .int .i64 e0]) (by simp [results, Try.f18, go_sem]) rfl ⟨rfl, HB.out⟩
end Go.Proofs.Ytblalidpeccabac.Sd
