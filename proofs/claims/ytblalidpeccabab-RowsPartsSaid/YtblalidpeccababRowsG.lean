/- slices.symMerge of events, one element at its right: its walk. -/
import Derived.Test.YtblalidpeccababRowsF
namespace Go.Proofs.Ytblalidpeccabab.Rw
open Go Go.RowKit Go.Lib Go.Proofs.YtblalidpeccababW.PrintWords Go.Proofs.YtblalidpeccababW.PrintLast Go.Proofs.YtblalidpeccababW.PrintMore Go.Proofs.Ytblalidpeccabab.PRowsThree Go.Proofs.Ytblalidpeccabab.Bs Go.Proofs.Ytblalidpeccabab.RegionVal
set_option linter.unusedVariables false
set_option linter.unusedSimpArgs false

set_option maxHeartbeats 8000000 in
set_option maxRecDepth 100000 in
theorem sym_right (w : World) (base g n c : Nat) (A U : List S53) (y : S53) (C : List S53) (h : RE w base g n c (A ++ U ++ [y] ++ C)) (hn : n ≤ 200) (hU : Srt ky U) (hU2 : 2 ≤ U.length) (a m b : Nat) (ha : a = A.length) (hm : m = A.length + U.length) (hb : b = A.length + U.length + 1) :
    Calls Try.prog 76 #[.slice (some ⟨g, 0, none⟩) n c, .int .i64 (a : Int), .int .i64 (m : Int), .int .i64 (b : Int), .func (.func 55) #[] #[]] w fun e w' => SymOk w base g n c A U [y] C e w' := by
  have hlen := h.len
  simp only [List.length_append, List.length_singleton] at hlen
  have HR := Aside0.mk h
  have HG := Aside0.mk (gb_below (some g) (Below.refl w.heap.size w))
  have HLN := Aside0.mk (show a = A.length ∧ m = a + U.length ∧ b = m + 1 ∧ n = b + C.length by omega)
  have HUS := Aside0.mk hU
  have ha2 : a ≤ 200 := by omega
  have hb2 : b ≤ 200 := by omega
  have hm2 : m ≤ 200 := by omega
  have hbn : b ≤ n := by omega
  have ham : a < m := by omega
  have hmb : m < b := by omega
  obtain ⟨d, hd⟩ : ∃ d, d = U.length := ⟨_, rfl⟩
  have hw1 : IntKind.i64.wrap ((m : Int) - (a : Int)) = (d : Int) := by rw [IntKind.wrap_i64]; omega
  have hq1 : ((d : Int) == 1) = false := beq_eq_false_iff_ne.mpr (by omega)
  have hw2 : IntKind.i64.wrap ((b : Int) - (m : Int)) = 1 := by rw [IntKind.wrap_i64]; omega
  clear h hlen ha hm hb hU hd hU2
  go_enter Try.func76, Try.ntmps76
  go_wp2_with fail
  clear hw1 hw2 hq1
  go_loopw [14, 15] (fun vi vj wr => ∃ (i j p q : Nat), vi = .int .i64 (i : Int) ∧ vj = .int .i64 (j : Int) ∧ i ≤ j ∧ j ≤ m ∧ a ≤ i ∧ Aside0 (i = a + p ∧ j = a + q ∧ q ≤ U.length) ∧ Aside0 (p = 0 ∨ ky (U.getD (p - 1) z53) ≤ ky y) ∧ Aside0 (q = U.length ∨ ky y < ky (U.getD q z53)) ∧ Aside0 (RE wr base g n c (A ++ U ++ [y] ++ C)) ∧ Aside0 (w.grownBy wr (some g))) (fun vi vj _ => (intOf vj).toNat - (intOf vi).toNat)
  case atStart => exact ⟨a, m, 0, U.length, rfl, rfl, by omega, Nat.le_refl _, Nat.le_refl _, ⟨rfl, HLN.out.2.1, Nat.le_refl _⟩, ⟨.inl rfl⟩, ⟨.inl rfl⟩, HR, HG⟩
  case round =>
    obtain ⟨i, j, p, q, rfl, rfl, hij, hjb, hmi, HPQ, HP, HQ, HR, HG⟩ := hrel
    by_cases hlt : i < j
    · have hlt1 : (i : Int) < (j : Int) := by omega
      obtain ⟨h, hh⟩ : ∃ h, h = (i + j) / 2 := ⟨_, rfl⟩
      have hh2 : ((i : Int) + (j : Int)) / 2 = (h : Int) := by omega
      have hhi : i ≤ h := by omega
      have hhj : h < j := by omega
      have hhv : h - a < U.length := by have := HPQ.out; omega
      obtain ⟨z, hz⟩ : ∃ z, z = U[h - a] := ⟨_, rfl⟩
      obtain ⟨L, hL⟩ : ∃ L, L = A ++ U ++ [y] ++ C := ⟨_, rfl⟩
      have HZ := Aside0.mk (show U.getD (h - a) z53 = z by rw [getD_e hhv, hz])
      have hg1 : L[h]? = some z := by
        have h1 := get_mid (A := A) (C := [y] ++ C) hhv
        rw [show A.length + (h - a) = h by have := HLN.out; omega, ← hz] at h1
        rw [hL, List.append_assoc (A ++ U)]
        exact h1
      have hg2 : L[m]? = some y := by
        have h1 := get_mid (A := A ++ U) (V := [y]) (C := C) (t := 0) (by simp)
        rw [Nat.add_zero, List.length_append, show A.length + U.length = m by have := HLN.out; omega] at h1
        rw [hL]
        exact h1
      have HLX := Aside0.mk hL
      rw [← hL] at HR
      have HLh := Aside0.mk (show ∀ w', RE w' base g n c L → Sem.run Try.prog (Instr.loadAt 53 (.pointer (some ⟨g, h * 12, none⟩))) w' = .ok (v53 z) w' from fun w' hw => hw.loadz hg1)
      have HLm := Aside0.mk (show ∀ w', RE w' base g n c L → Sem.run Try.prog (Instr.loadAt 53 (.pointer (some ⟨g, m * 12, none⟩))) w' = .ok (v53 y) w' from fun w' hw => hw.loadz hg2)
      have hl1 : (h : Int) < (n : Int) := by omega
      have hl2 : (m : Int) < (n : Int) := by omega
      clear hh hhv hz hL hg1 hg2
      by_cases hc0 : ky y < ky z
      · have hc := cmp_true hc0
        have HC0 := Aside0.mk hc0
        clear hc0
        go_wp2_with fail
        refine wp_eff (S := fun w' => RE w' base g n c L ∧ w.grownBy w' (some g)) [(0, false), (1, false), (2, false), (3, false), (4, false), (5, false), (6, false), (7, false), (8, false), (9, true), (10, false), (11, false)] (by kernel_rfl) (by kernel_rfl) ⟨RE.below HR.out (below_drew1 (Below.refl _ _)), gb_trans HG.out (gb_below _ (below_drew1 (Below.refl _ _)))⟩ (fun _ _ d _ _ h => by cases d <;> exact h) ?_
        refine se_move rfl rfl rfl ?_
        refine se_move rfl rfl rfl ?_
        refine se_move rfl rfl rfl ?_
        refine se_indexAddr (v := .pointer (some ⟨g, m * 12, none⟩)) rfl rfl rfl rfl (fun w' hw => by go_simp) ?_
        refine se_load (v := v53 y) rfl rfl rfl (fun w' hw => HLm.out w' hw.1) ?_
        refine se_move rfl rfl rfl ?_
        refine se_move rfl rfl rfl ?_
        refine se_indexAddr (v := .pointer (some ⟨g, h * 12, none⟩)) rfl rfl rfl rfl (fun w' hw => by go_simp) ?_
        refine se_load (v := v53 z) rfl rfl rfl (fun w' hw => HLh.out w' hw.1) ?_
        refine se_callv (f := 55) (vs := [v53 y, v53 z]) rfl rfl Try.func55 (by kernel_rfl) rfl rfl (by kernel_rfl) ?_
        refine (byStep_calls y z _).mono ?_
        rintro e' w_5 ⟨rfl, hb_⟩
        have hR_ := RE.below (RE.below HR.out (below_drew1 (Below.refl _ _))) hb_
        have hG_ := gb_trans (gb_trans HG.out (gb_below _ (below_drew1 (Below.refl _ _)))) (gb_below _ hb_)
        refine ⟨_, rfl, ⟨hR_, hG_⟩, ?_⟩
        refine se_bin (v := .bool true) rfl rfl rfl rfl (fun w' hw => by go_simp) ?_
        refine se_un (v := .bool false) rfl rfl rfl rfl rfl (fun w' hw => by go_simp) ?_
        intro _
        have HR2 := Aside0.mk hR_
        have HG2 := Aside0.mk hG_
        clear hR_ hG_ hb_
        simp only [SeqE, puts, Act.put, List.setIfInBounds_toArray, List.set_cons_zero, List.set_cons_succ]
        go_wp2
        go_roundw
        case rel => exact ⟨i, h, p, h - a, rfl, rfl, hhi, by omega, hmi, ⟨HPQ.out.1, by omega, by have := HPQ.out; omega⟩, HP, ⟨.inr (by rw [HZ.out]; exact HC0.out)⟩, ⟨by rw [← HLX.out]; exact HR2.out⟩, HG2⟩
        case measure => simp [intOf]; omega
      · have hc := cmp_false hc0
        have HC0 := Aside0.mk (show ky z ≤ ky y by omega)
        clear hc0
        go_wp2_with fail
        refine wp_eff (S := fun w' => RE w' base g n c L ∧ w.grownBy w' (some g)) [(0, false), (1, false), (2, false), (3, false), (4, false), (5, false), (6, false), (7, false), (8, false), (9, true), (10, false), (11, false)] (by kernel_rfl) (by kernel_rfl) ⟨RE.below HR.out (below_drew1 (Below.refl _ _)), gb_trans HG.out (gb_below _ (below_drew1 (Below.refl _ _)))⟩ (fun _ _ d _ _ h => by cases d <;> exact h) ?_
        refine se_move rfl rfl rfl ?_
        refine se_move rfl rfl rfl ?_
        refine se_move rfl rfl rfl ?_
        refine se_indexAddr (v := .pointer (some ⟨g, m * 12, none⟩)) rfl rfl rfl rfl (fun w' hw => by go_simp) ?_
        refine se_load (v := v53 y) rfl rfl rfl (fun w' hw => HLm.out w' hw.1) ?_
        refine se_move rfl rfl rfl ?_
        refine se_move rfl rfl rfl ?_
        refine se_indexAddr (v := .pointer (some ⟨g, h * 12, none⟩)) rfl rfl rfl rfl (fun w' hw => by go_simp) ?_
        refine se_load (v := v53 z) rfl rfl rfl (fun w' hw => HLh.out w' hw.1) ?_
        refine se_callv (f := 55) (vs := [v53 y, v53 z]) rfl rfl Try.func55 (by kernel_rfl) rfl rfl (by kernel_rfl) ?_
        refine (byStep_calls y z _).mono ?_
        rintro e' w_5 ⟨rfl, hb_⟩
        have hR_ := RE.below (RE.below HR.out (below_drew1 (Below.refl _ _))) hb_
        have hG_ := gb_trans (gb_trans HG.out (gb_below _ (below_drew1 (Below.refl _ _)))) (gb_below _ hb_)
        refine ⟨_, rfl, ⟨hR_, hG_⟩, ?_⟩
        refine se_bin (v := .bool false) rfl rfl rfl rfl (fun w' hw => by go_simp) ?_
        refine se_un (v := .bool true) rfl rfl rfl rfl rfl (fun w' hw => by go_simp) ?_
        intro _
        have HR2 := Aside0.mk hR_
        have HG2 := Aside0.mk hG_
        clear hR_ hG_ hb_
        simp only [SeqE, puts, Act.put, List.setIfInBounds_toArray, List.set_cons_zero, List.set_cons_succ]
        go_wp2
        go_roundw
        case rel => exact ⟨h + 1, j, h - a + 1, q, by go_num, rfl, by omega, hjb, by omega, ⟨by have := HPQ.out; omega, HPQ.out.2.1, HPQ.out.2.2⟩, ⟨.inr (by rw [Nat.add_sub_cancel, HZ.out]; exact HC0.out)⟩, HQ, ⟨by rw [← HLX.out]; exact HR2.out⟩, HG2⟩
        case measure => simp [intOf]; omega
    · obtain rfl : i = j := by omega
      have hq2 : p = U.length ∨ ky y < ky (U.getD p z53) := by
        have e : q = p := by have := HPQ.out; omega
        rcases HQ.out with h | h
        · exact .inl (by omega)
        · rw [e] at h; exact .inr h
      have hp2 : p = 0 ∨ ¬ ky y < ky (U.getD (p - 1) z53) := by
        rcases HP.out with h | h
        · exact .inl h
        · exact .inr (by omega)
      have HRES := Aside0.mk (sm_right (y := y) (U := U) (p := p) HUS.out (by have := HPQ.out; omega) hp2 hq2)
      clear hq2 hp2
      have HPV := Aside0.mk (show p ≤ U.length by have := HPQ.out; omega)
      have HIP := Aside0.mk HPQ.out.1
      have HR0 := Aside0.mk (show RE wr base g n c (A ++ U.take U.length ++ y :: U.drop U.length ++ C) by have h := HR.out; simpa using h)
      clear HP HQ HR
      go_wp2_with fail
      go_loopw [17] (fun vk wq => ∃ (k t : Nat), vk = .int .i64 (k : Int) ∧ i ≤ k ∧ k ≤ m ∧ Aside0 (k = a + t ∧ p ≤ t ∧ t ≤ U.length) ∧ Aside0 (RE wq base g n c (A ++ U.take t ++ y :: U.drop t ++ C)) ∧ Aside0 (w.grownBy wq (some g))) (fun vk _ => (intOf vk).toNat)
      case atStart => exact ⟨m, U.length, rfl, hjb, Nat.le_refl _, ⟨HLN.out.2.1, HPV.out, Nat.le_refl _⟩, HR0, HG⟩
      case round =>
        obtain ⟨k, t, rfl, hik, hkm, HK, HR, HG⟩ := hrel
        by_cases hlt : i < k
        · have hks1 : (i : Int) < (k : Int) := by omega
          obtain ⟨t', ht'⟩ : ∃ t', t = t' + 1 := ⟨t - 1, by have := HK.out; have := HIP.out; omega⟩
          rw [ht'] at HK HR
          have htv : t' < U.length := by have := HK.out; omega
          obtain ⟨u, hu⟩ : ∃ u, u = U[t'] := ⟨_, rfl⟩
          obtain ⟨P, hP⟩ : ∃ P, P = A ++ U.take t' := ⟨_, rfl⟩
          obtain ⟨R, hR⟩ : ∃ R, R = U.drop (t' + 1) ++ C := ⟨_, rfl⟩
          obtain ⟨L, hL⟩ : ∃ L, L = P ++ u :: ([] ++ y :: R) := ⟨_, rfl⟩
          obtain ⟨k1, hk1⟩ : ∃ k1, k1 = k - 1 := ⟨_, rfl⟩
          have hPl : P.length = k1 := by rw [hP, List.length_append, List.length_take]; have := HK.out; have := HLN.out; omega
          have hTW : Two L P [] R u y k1 k := ⟨hL, hPl.symm, by rw [hPl]; simp; have := HK.out; omega⟩
          have HTW := Aside0.mk hTW
          have HNX := Aside0.mk (show P ++ y :: ([] ++ u :: R) = A ++ U.take t' ++ y :: U.drop t' ++ C by rw [mid_form y htv, ← hu, ← hP, ← hR])
          rw [mid_next y htv, ← hu, ← hP, ← hR, ← hL] at HR
          have HBk := Aside0.mk hTW.ltj
          have HBk1 := Aside0.mk hTW.lti
          have HS := Aside0.mk hTW.swji
          have HLk := Aside0.mk (show ∀ w', RE w' base g n c L → Sem.run Try.prog (Instr.loadAt 53 (.pointer (some ⟨g, k * 12, none⟩))) w' = .ok (v53 y) w' from fun w' hw => HTW.out.loadj hw)
          have HLk1 := Aside0.mk (show ∀ w', RE w' base g n c L → Sem.run Try.prog (Instr.loadAt 53 (.pointer (some ⟨g, k1 * 12, none⟩))) w' = .ok (v53 u) w' from fun w' hw => HTW.out.loadi hw)
          have hln := HR.out.len
          have hjn := hTW.ltj
          have hl1 : (k : Int) < (n : Int) := by omega
          have hl2 : (k1 : Int) < (n : Int) := by omega
          have hw3 : IntKind.i64.wrap ((k : Int) - 1) = (k1 : Int) := by rw [IntKind.wrap_i64]; omega
          have HK1 := Aside0.mk (show k = k1 + 1 by omega)
          clear htv hu hP hR hL hPl hTW hln hjn hk1 ht'
          go_wp2_with fail
          refine wp_dirtyU [0, 1, 2, 3, 4, 5, 6, 7, 8, 10, 11, 12] [15, 17] (fun w' => RE w' base g n c L ∧ w.grownBy w' (some g)) (fun _ => True) (fun _ _ => trivial) (.leaf [(9, false), (13, false), (14, false)] [(15, true), (16, false), (17, true)]) (by kernel_rfl) (by kernel_rfl) ⟨RE.below HR.out (below_drew1 (Below.refl _ _)), gb_trans HG.out (gb_below _ (below_drew1 (Below.refl _ _)))⟩ (fun _ _ d _ _ h => by cases d <;> exact h) ?_
          refine se_move rfl rfl rfl ?_
          refine se_move rfl rfl rfl ?_
          refine se_move rfl rfl rfl ?_
          refine se_move rfl rfl rfl ?_
          refine se_bin (v := .int .i64 ((k1 : Nat) : Int)) rfl rfl rfl rfl (fun w' hw => by go_simp) ?_
          refine se_move rfl rfl rfl ?_
          refine se_move rfl rfl rfl ?_
          refine se_bin (v := .int .i64 ((k1 : Nat) : Int)) rfl rfl rfl rfl (fun w' hw => by go_simp) ?_
          refine se_indexAddr (v := .pointer (some ⟨g, k1 * 12, none⟩)) rfl rfl rfl rfl (fun w' hw => by go_simp) ?_
          refine se_move rfl rfl rfl ?_
          refine se_move rfl rfl rfl ?_
          refine se_indexAddr (v := .pointer (some ⟨g, k * 12, none⟩)) rfl rfl rfl rfl (fun w' hw => by go_simp) ?_
          refine se_load (v := v53 u) rfl rfl rfl (fun w' hw => HLk1.out w' hw.1) ?_
          refine se_load (v := v53 y) rfl rfl rfl (fun w' hw => HLk.out w' hw.1) ?_
          refine se_indexAddr (v := .pointer (some ⟨g, k * 12, none⟩)) rfl rfl rfl rfl (fun w' hw => by go_simp) ?_
          obtain ⟨w_1, hrun1, hR1, hg1⟩ := RE.store (RE.below HR.out (below_drew1 (Below.refl _ _))) k (by first | exact HBk.out | (rw [List.length_set]; exact HBk.out)) u
          refine se_store rfl rfl rfl rfl hrun1 trivial ?_
          refine se_indexAddr (v := .pointer (some ⟨g, k1 * 12, none⟩)) rfl rfl rfl rfl (fun w' hw => by go_simp) ?_
          obtain ⟨w_2, hrun2, hR2, hg2⟩ := RE.store hR1 k1 (by first | exact HBk1.out | (rw [List.length_set]; exact HBk1.out)) y
          refine se_store rfl rfl rfl rfl hrun2 trivial ?_
          rw [HS.out] at hR2
          have HR2 := Aside0.mk hR2
          have HG2 := Aside0.mk (gb_trans (gb_trans HG.out (gb_below _ (below_drew1 (Below.refl _ _)))) (gb_trans hg1 hg2))
          clear hR1 hR2 hg1 hg2 hrun1 hrun2
          simp only [SeqE, puts, Act.put, List.setIfInBounds_toArray, List.set_cons_zero, List.set_cons_succ]
          go_wp2
          go_roundw
          case rel => exact ⟨k1, t', rfl, by have := HK1.out; omega, by have := HK1.out; omega, ⟨by have := HK.out; have := HK1.out; omega, by have := HK.out; have := HK1.out; have := HIP.out; omega, by have := HK.out; omega⟩, ⟨by rw [← HNX.out]; exact HR2.out⟩, HG2⟩
          case measure => have := HK1.out; simp [intOf]; omega
        · have HX := Aside0.mk (show RE wr base g n c (A ++ (U.take p ++ y :: U.drop p) ++ C) by
            have e : t = p := by have := HK.out; have := HIP.out; omega
            have h := HR.out
            rw [e] at h
            simpa using h)
          go_wp2
          exact bodyPost_ret (v := .tuple #[]) (results_none rfl _ _ _) rfl ⟨rfl, _, HRES.out.1, HRES.out.2, HX.out, HG.out⟩
end Go.Proofs.Ytblalidpeccabab.Rw
