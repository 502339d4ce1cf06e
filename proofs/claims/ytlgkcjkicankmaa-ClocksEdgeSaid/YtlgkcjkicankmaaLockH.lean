/- slices.Compact of pairs: its walk. -/
import Derived.Test.YtlgkcjkicankmaaLockG
namespace Go.Proofs.Ytlgkcjkicankmaa.Lk
open Go Go.RowKit Go.Maps Go.Proofs.YtlgkcjkicankmaaW Go.Proofs.YtlgkcjkicankmaaW.PrintWords Go.Proofs.YtlgkcjkicankmaaW.PrintLast Go.Proofs.YtlgkcjkicankmaaW.PrintMore Go.Proofs.Ytlgkcjkicankmaa.PLockupEither Go.Proofs.Ytlgkcjkicankmaa.Bs Go.Proofs.Ytlgkcjkicankmaa.RegionVal
open Go.Lib hiding intOf
set_option linter.unusedVariables false
set_option linter.unusedSimpArgs false

set_option maxHeartbeats 16000000 in
set_option maxRecDepth 100000 in
theorem compact_calls (w : World) (base : Nat) (v : Value) (L : List S32) (hR : Kd.R k32 32 w base (fun _ => True) v L) (hl : L.length ≤ 100000) :
    Calls Try.prog 27 #[v] w fun e w' => ∃ v1 zs, e = .returned v1 ∧ zs = dd L ∧ Kd.R k32 32 w' base (fun _ => True) v1 zs ∧ w.grownBy w' v.ownBlock := by
  obtain ⟨A, c, rfl, hc, hrd⟩ := Kd.R_reads hR
  clear hrd
  have HR := Aside0.mk hR
  by_cases hl2 : L.length < 2
  · have hl3 : (L.length : Int) < 2 := by omega
    clear hR
    go_enter Try.func27, Try.ntmps27
    go_wp2
    exact bodyPost_ret (v := .slice A L.length c) (by simp [results, Try.f27, go_sem]) rfl ⟨_, L, rfl, (dd_short hl2).symm, HR.out, World.grownBy.refl w _⟩
  · have hl3 : (2 : Int) ≤ (L.length : Int) := by omega
    obtain ⟨g, hA⟩ : ∃ g, A = some ⟨g, 0, none⟩ := by
      obtain ⟨inner, ho⟩ := Kd.R_own hR
      rcases ho.2 with ⟨hv, hn⟩ | ⟨g', cap', cur, hv, _⟩
      · injection hv with _ h2 _
        omega
      · injection hv with ha _ _
        exact ⟨g', ha⟩
    subst hA
    have HS0 := Aside0.mk (show St w base g L.length c L w from ⟨hR, World.grownBy.refl w _⟩)
    have HOB := Aside0.mk (show (Value.slice (some ⟨g, 0, none⟩) L.length c).ownBlock = some g from rfl)
    obtain ⟨n, hn⟩ : ∃ n, n = L.length := ⟨_, rfl⟩
    have HN := Aside0.mk hn
    rw [← hn] at hl hl2 hl3 HS0 HOB hc ⊢
    clear hn
    clear hR HR
    go_enter Try.func27, Try.ntmps27
    go_wp2_with fail
    go_loopw [3] (fun v3 wr => ∃ k : Nat, v3 = .int .i64 (k : Int) ∧ 1 ≤ k ∧ k ≤ n ∧ Aside0 (dd (L.take k) = L.take k) ∧ Aside0 (St w base g n c L wr)) (fun v3 _ => n - (intOf v3).toNat)
    case atStart => exact ⟨1, rfl, Nat.le_refl _, by omega, ⟨dd_short (by rw [List.length_take]; omega)⟩, HS0⟩
    case round =>
      clear HS0
      obtain ⟨k, rfl, hk1, hkn, HD, HST⟩ := hrel
      by_cases hlt : k < n
      · have hlt1 : (k : Int) < (n : Int) := by omega
        obtain ⟨t, hkt⟩ : ∃ t, k = t + 1 := ⟨k - 1, by omega⟩
        have HKT := Aside0.mk hkt
        have hwk : IntKind.i64.wrap ((k : Int) - 1) = (t : Int) := by rw [IntKind.wrap_i64]; omega
        have ht1 : (t : Int) < (n : Int) := by omega
        have hkL : k < L.length := by have := HN.out; omega
        have htL : t < L.length := by have := HN.out; omega
        obtain ⟨y, hy⟩ : ∃ y, y = L[k]'hkL := ⟨_, rfl⟩
        obtain ⟨x, hx⟩ : ∃ x, x = L[t]'htL := ⟨_, rfl⟩
        have HLy := Aside0.mk (show ∀ w', St w base g n c L w' → Sem.run Try.prog (Instr.loadAt 32 (.pointer (some ⟨g, k * 2, none⟩))) w' = .ok (v32 y) w' from fun w' h => by rw [hy]; exact h.re.load k _)
        have HLx := Aside0.mk (show ∀ w', St w base g n c L w' → Sem.run Try.prog (Instr.loadAt 32 (.pointer (some ⟨g, t * 2, none⟩))) w' = .ok (v32 x) w' from fun w' h => by rw [hx]; exact h.re.load t _)
        have hdt : dd (L.take (k + 1)) = L.take k ++ (if x.f0 = y.f0 ∧ x.f1 = y.f1 then [] else [y]) := by
          have h := HD.out
          have hkt := HKT.out
          subst hkt
          rw [dd_take (L := L) (t := t) (by have := HN.out; omega), h, hx, hy]
        have hYE := hy
        clear hx hy hkt
        by_cases hxy : x.f0 = y.f0 ∧ x.f1 = y.f1
        · have HXY := Aside0.mk (s32_ext hxy.1 hxy.2)
          rw [if_pos hxy, List.append_nil] at hdt
          have HDT := Aside0.mk hdt
          clear hdt hxy hYE HD
          go_wp2_with fail
          refine wp_eff (S := St w base g n c L) [(0, false), (1, false), (2, false), (3, false), (4, false), (5, false), (6, false), (7, false), (8, false), (9, false)] (by kernel_rfl) (by kernel_rfl) (HST.out.below (below_drew1 (Below.refl _ _))) (fun _ _ d _ _ h => by cases d <;> exact h) ?_
          refine se_move rfl rfl rfl ?_
          refine se_move rfl rfl rfl ?_
          refine se_indexAddr (v := .pointer (some ⟨g, k * 2, none⟩)) rfl rfl rfl rfl (fun w' hw => by go_simp) ?_
          refine se_load (v := v32 y) rfl rfl rfl (fun w' hw => HLy.out w' hw) ?_
          refine se_move rfl rfl rfl ?_
          refine se_move rfl rfl rfl ?_
          refine se_bin (v := .int .i64 ((t : Nat) : Int)) rfl rfl rfl rfl (fun w' hw => by go_simp) ?_
          refine se_indexAddr (v := .pointer (some ⟨g, t * 2, none⟩)) rfl rfl rfl rfl (fun w' hw => by go_simp) ?_
          refine se_load (v := v32 x) rfl rfl rfl (fun w' hw => HLx.out w' hw) ?_
          refine se_bin (v := .bool true) rfl rfl rfl rfl (fun w' hw => (eq32_of _ _ y x HXY.out.symm) w') ?_
          intro hR_
          have HST2 := Aside0.mk hR_
          clear hR_ HST
          have HST := HST2
          clear HST2
          simp only [SeqE, puts, Act.put, List.setIfInBounds_toArray, List.set_cons_zero, List.set_cons_succ]
          have hkc : k < c := by omega
          have hkc1 : (k : Int) < (c : Int) := by omega
          have hkn1 : (k : Int) ≤ (n : Int) := by omega
          go_wp2_with fail
          go_loopw [3, 5] (fun v3 v5 wr => ∃ (i q : Nat) (M : List S32), v3 = .int .i64 (i : Int) ∧ v5 = .int .i64 (q : Int) ∧ 1 ≤ q ∧ k + q ≤ n ∧ i < k + q ∧ Aside0 (M.length = n) ∧ Aside0 (M.take i = dd (L.take (k + q))) ∧ Aside0 (∀ j, k + q ≤ j + 1 → M[j]? = L[j]?) ∧ Aside0 (St w base g n c M wr)) (fun _ v5 _ => n - (intOf v5).toNat)
          case atStart => exact ⟨k, 1, L, rfl, rfl, Nat.le_refl _, by omega, by omega, ⟨HN.out.symm⟩, ⟨HDT.out.symm⟩, ⟨fun _ _ => rfl⟩, HST⟩
          case round =>
            clear HST HDT HLx HLy
            obtain ⟨i, q, M, rfl, rfl, hq1, hqn, hiq, HM, HMT, HMR, HST⟩ := hrel
            by_cases hlt2 : k + q < n
            · have hlt3 : (q : Int) < ((n - k : Nat) : Int) := by omega
              have hlt4 : q < n - k := by omega
              obtain ⟨p, hqp⟩ : ∃ p, q = p + 1 := ⟨q - 1, by omega⟩
              have hwq : IntKind.i64.wrap ((q : Int) - 1) = (p : Int) := by rw [IntKind.wrap_i64]; omega
              have hp3 : (p : Int) < ((n - k : Nat) : Int) := by omega
              have hp4 : p < n - k := by omega
              have hyL : k + q < L.length := by have := HN.out; omega
              have hxL : k + p < L.length := by have := HN.out; omega
              have hyM : k + q < M.length := by have := HM.out; omega
              have hxM : k + p < M.length := by have := HM.out; omega
              have HQP := Aside0.mk hqp
              obtain ⟨y, hy⟩ : ∃ y, y = M[k + q]'hyM := ⟨_, rfl⟩
              obtain ⟨x, hx⟩ : ∃ x, x = M[k + p]'hxM := ⟨_, rfl⟩
              have HLy := Aside0.mk (show ∀ w', St w base g n c M w' → Sem.run Try.prog (Instr.loadAt 32 (.pointer (some ⟨g, (k + q) * 2, none⟩))) w' = .ok (v32 y) w' from fun w' h => by rw [hy]; exact h.re.load (k + q) _)
              have HLx := Aside0.mk (show ∀ w', St w base g n c M w' → Sem.run Try.prog (Instr.loadAt 32 (.pointer (some ⟨g, (k + p) * 2, none⟩))) w' = .ok (v32 x) w' from fun w' h => by rw [hx]; exact h.re.load (k + p) _)
              have hyl : y = L[k + q]'hyL := by
                have h := HMR.out (k + q) (by omega)
                rw [List.getElem?_eq_getElem hyM, List.getElem?_eq_getElem hyL] at h
                rw [hy]; exact Option.some.inj h
              have hxl : x = L[k + p]'hxL := by
                have h := HMR.out (k + p) (by omega)
                rw [List.getElem?_eq_getElem hxM, List.getElem?_eq_getElem hxL] at h
                rw [hx]; exact Option.some.inj h
              have hdt : dd (L.take (k + q + 1)) = M.take i ++ (if x.f0 = y.f0 ∧ x.f1 = y.f1 then [] else [y]) := by
                subst hqp
                rw [HMT.out, hxl, hyl]
                exact dd_take (L := L) (t := k + p) hyL
              clear hy hx hyl hxl hqp
              by_cases hxy : x.f0 = y.f0 ∧ x.f1 = y.f1
              · have HXY := Aside0.mk (s32_ext hxy.1 hxy.2)
                rw [if_pos hxy, List.append_nil] at hdt
                have HDT := Aside0.mk hdt
                clear hdt hxy
                go_wp2_with fail
                refine wp_eff (S := St w base g n c M) [(0, false), (1, false), (2, false), (3, false), (4, false), (5, false), (6, false), (7, false), (8, false), (9, false)] (by kernel_rfl) (by kernel_rfl) (HST.out.below (below_drew1 (Below.refl _ _))) (fun _ _ d _ _ h => by cases d <;> exact h) ?_
                refine se_move rfl rfl rfl ?_
                refine se_move rfl rfl rfl ?_
                refine se_indexAddr (v := .pointer (some ⟨g, (k + q) * 2, none⟩)) rfl rfl rfl rfl (fun w' hw => by go_simp; try omega) ?_
                refine se_load (v := v32 y) rfl rfl rfl (fun w' hw => HLy.out w' hw) ?_
                refine se_move rfl rfl rfl ?_
                refine se_move rfl rfl rfl ?_
                refine se_bin (v := .int .i64 ((p : Nat) : Int)) rfl rfl rfl rfl (fun w' hw => by go_simp) ?_
                refine se_indexAddr (v := .pointer (some ⟨g, (k + p) * 2, none⟩)) rfl rfl rfl rfl (fun w' hw => by go_simp; try omega) ?_
                refine se_load (v := v32 x) rfl rfl rfl (fun w' hw => HLx.out w' hw) ?_
                refine se_bin (v := .bool false) rfl rfl rfl rfl (fun w' hw => (ne32_of _ _ y x HXY.out.symm) w') ?_
                intro hR_
                have HST2 := Aside0.mk hR_
                clear hR_ HST
                have HST := HST2
                clear HST2
                simp only [SeqE, puts, Act.put, List.setIfInBounds_toArray, List.set_cons_zero, List.set_cons_succ]
                go_wp2
                go_roundw
                case rel => exact ⟨i, q + 1, M, rfl, by go_num, by omega, by omega, by omega, HM, ⟨HDT.out.symm⟩, ⟨fun j hj => HMR.out j (by omega)⟩, HST⟩
                case measure => simp [intOf]; omega
              · have HNE := Aside0.mk (show ¬ (y.f0 = x.f0 ∧ y.f1 = x.f1) from fun h => hxy ⟨h.1.symm, h.2.symm⟩)
                rw [if_neg hxy] at hdt
                have HDT := Aside0.mk hdt
                have hin : (i : Int) < (n : Int) := by omega
                have hin2 : i < n := by omega
                clear hdt hxy
                go_wp2_with fail
                refine wp_eff (S := St w base g n c M) [(0, false), (1, false), (2, false), (3, false), (4, false), (5, false), (6, false), (7, false), (8, false), (9, false)] (by kernel_rfl) (by kernel_rfl) (HST.out.below (below_drew1 (Below.refl _ _))) (fun _ _ d _ _ h => by cases d <;> exact h) ?_
                refine se_move rfl rfl rfl ?_
                refine se_move rfl rfl rfl ?_
                refine se_indexAddr (v := .pointer (some ⟨g, (k + q) * 2, none⟩)) rfl rfl rfl rfl (fun w' hw => by go_simp; try omega) ?_
                refine se_load (v := v32 y) rfl rfl rfl (fun w' hw => HLy.out w' hw) ?_
                refine se_move rfl rfl rfl ?_
                refine se_move rfl rfl rfl ?_
                refine se_bin (v := .int .i64 ((p : Nat) : Int)) rfl rfl rfl rfl (fun w' hw => by go_simp) ?_
                refine se_indexAddr (v := .pointer (some ⟨g, (k + p) * 2, none⟩)) rfl rfl rfl rfl (fun w' hw => by go_simp; try omega) ?_
                refine se_load (v := v32 x) rfl rfl rfl (fun w' hw => HLx.out w' hw) ?_
                refine se_bin (v := .bool true) rfl rfl rfl rfl (fun w' hw => (ne32_ne _ _ y x HNE.out) w') ?_
                intro hR_
                have HST2 := Aside0.mk hR_
                clear hR_ HST
                have HST := HST2
                clear HST2
                simp only [SeqE, puts, Act.put, List.setIfInBounds_toArray, List.set_cons_zero, List.set_cons_succ]
                have HLz := Aside0.mk (show ∀ w', St w base g n c M w' → Sem.run Try.prog (Instr.loadAt 32 (.pointer (some ⟨g, k * 2 + q * 2, none⟩))) w' = .ok (v32 y) w' from fun w' h => by rw [← Nat.add_mul]; exact HLy.out w' h)
                have hiM : i < M.length := by have := HM.out; omega
                go_wp2_with (first
                  | ((with_reducible refine gate_dst (N := 50) rfl ?_); refine wpl_load (v := v32 y) rfl rfl rfl (HLz.out _ HST.out) ?_)
                  | ((with_reducible refine gate_store (t := 32) (p := 51) rfl ?_); obtain ⟨w2, hrun, hre, hgr⟩ := HST.out.re.store i hiM y; refine wpl_store rfl rfl rfl rfl rfl hrun ?_; have HST2 := Aside0.mk (show St w base g n c (M.set i y) w2 from ⟨hre, gb_trans HST.out.gr hgr⟩); clear hrun hre hgr)
                  | fail)
                go_roundw
                case rel => exact ⟨i + 1, q + 1, M.set i y, by go_num, by go_num, by omega, by omega, by omega, ⟨by rw [List.length_set]; exact HM.out⟩, ⟨by
                  have h := HDT.out
                  rw [show k + (q + 1) = k + q + 1 by omega, h, List.take_succ_eq_append_getElem (by rw [List.length_set]; exact hiM), List.getElem_set_self, List.take_set_of_le (Nat.le_refl _)]⟩, ⟨fun j hj => by rw [List.getElem?_set_ne (by omega)]; exact HMR.out j (by omega)⟩, HST2⟩
                case measure => simp [intOf]; omega
            · have hqe : k + q = n := by omega
              have hlt3 : ((n - k : Nat) : Int) ≤ (q : Int) := by omega
              have hlt4 : n - k ≤ q := by omega
              have hin2 : i < n := by omega
              have hin : (i : Int) < (n : Int) := by omega
              have hic : i < c := by omega
              have hic1 : (i : Int) < (c : Int) := by omega
              have hic2 : (i : Int) ≤ (c : Int) := by omega
              have HMF := Aside0.mk (show M.take i = dd L by
                have h := HMT.out
                rw [hqe, List.take_of_length_le (l := L) (by have := HN.out; omega)] at h
                exact h)
              clear HMT
              obtain ⟨w3, hcl, hre3, hg3⟩ := HST.out.re.clear i hin2 0
              have HRE3 := Aside0.mk (show RE w3 base g i c (dd L) by rw [← HMF.out]; exact hre3)
              have HG3 := Aside0.mk (gb_trans HST.out.gr hg3)
              have HIL := Aside0.mk (HRE3.out.len)
              clear hre3 hg3
              go_wp2
              exact bodyPost_ret (v := .slice (some ⟨g, 0, none⟩) i c) (by simp [results, Try.f27, go_sem]) rfl ⟨_, dd L, rfl, rfl, HRE3.out, HG3.out⟩
        · have HNE := Aside0.mk (show ¬ (y.f0 = x.f0 ∧ y.f1 = x.f1) from fun h => hxy ⟨h.1.symm, h.2.symm⟩)
          rw [if_neg hxy] at hdt
          have HDT := Aside0.mk (show dd (L.take (k + 1)) = L.take (k + 1) by rw [hdt, hYE, ← List.take_succ_eq_append_getElem])
          clear hdt hxy hYE HD
          go_wp2_with fail
          refine wp_eff (S := St w base g n c L) [(0, false), (1, false), (2, false), (3, false), (4, false), (5, false), (6, false), (7, false), (8, false), (9, false)] (by kernel_rfl) (by kernel_rfl) (HST.out.below (below_drew1 (Below.refl _ _))) (fun _ _ d _ _ h => by cases d <;> exact h) ?_
          refine se_move rfl rfl rfl ?_
          refine se_move rfl rfl rfl ?_
          refine se_indexAddr (v := .pointer (some ⟨g, k * 2, none⟩)) rfl rfl rfl rfl (fun w' hw => by go_simp) ?_
          refine se_load (v := v32 y) rfl rfl rfl (fun w' hw => HLy.out w' hw) ?_
          refine se_move rfl rfl rfl ?_
          refine se_move rfl rfl rfl ?_
          refine se_bin (v := .int .i64 ((t : Nat) : Int)) rfl rfl rfl rfl (fun w' hw => by go_simp) ?_
          refine se_indexAddr (v := .pointer (some ⟨g, t * 2, none⟩)) rfl rfl rfl rfl (fun w' hw => by go_simp) ?_
          refine se_load (v := v32 x) rfl rfl rfl (fun w' hw => HLx.out w' hw) ?_
          refine se_bin (v := .bool false) rfl rfl rfl rfl (fun w' hw => (eq32_ne _ _ y x HNE.out) w') ?_
          intro hR_
          have HST2 := Aside0.mk hR_
          clear hR_ HST
          have HST := HST2
          clear HST2
          simp only [SeqE, puts, Act.put, List.setIfInBounds_toArray, List.set_cons_zero, List.set_cons_succ]
          go_wp2
          go_roundw
          case rel => exact ⟨k + 1, by go_num, by omega, hlt, HDT, HST⟩
          case measure => simp [intOf]; omega
      · have hkn2 : k = n := by omega
        subst hkn2
        have HDF := Aside0.mk (show L = dd L by
          have h := HD.out
          rw [List.take_of_length_le (by have := HN.out; omega)] at h
          exact h.symm)
        clear HD
        go_wp2
        exact bodyPost_ret (v := .slice (some ⟨g, 0, none⟩) k c) (by simp [results, Try.f27, go_sem]) rfl ⟨_, L, rfl, HDF.out, HST.out.re, HST.out.gr⟩
end Go.Proofs.Ytlgkcjkicankmaa.Lk
