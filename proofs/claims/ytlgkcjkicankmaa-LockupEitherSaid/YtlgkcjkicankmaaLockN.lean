/- LockupEither: its walk. -/
import Derived.Test.YtlgkcjkicankmaaLockM
import Derived.Test.YtlgkcjkicankmaaLockK
namespace Go.Proofs.Ytlgkcjkicankmaa.Lk
open Go Go.RowKit Go.Maps Go.Proofs.YtlgkcjkicankmaaW Go.Proofs.YtlgkcjkicankmaaW.PrintWords Go.Proofs.YtlgkcjkicankmaaW.PrintLast Go.Proofs.YtlgkcjkicankmaaW.PrintMore Go.Proofs.Ytlgkcjkicankmaa.PLockupEither Go.Proofs.Ytlgkcjkicankmaa.Bs Go.Proofs.Ytlgkcjkicankmaa.RegionVal
open Go.Lib hiding intOf
set_option linter.unusedVariables false
set_option linter.unusedSimpArgs false

set_option maxRecDepth 100000 in
theorem load30_0 {w : World} {ad : Addr} {l : List S30} (h : Kd.C k30 w (some ad) l.length l) {i : Nat} (hi : i < l.length) {x : Int} (hx : x = l[i].f0) : Sem.run Try.prog (Instr.loadAt 3 (.pointer (some (ad.add (i * 3))))) w = .ok (.int .i64 x) w := by
  obtain ⟨ad', e, k0, _⟩ := at30 h i hi
  injection e with e
  subst e
  rw [← hx] at k0
  clear hx h
  go_simp
set_option maxRecDepth 100000 in
theorem load30_1 {w : World} {ad : Addr} {l : List S30} (h : Kd.C k30 w (some ad) l.length l) {i : Nat} (hi : i < l.length) {x : Int} (hx : x = l[i].f1) : Sem.run Try.prog (Instr.loadAt 3 (.pointer (some ⟨(ad.add (i * 3)).block, (ad.add (i * 3)).off + 1, none⟩))) w = .ok (.int .i64 x) w := by
  obtain ⟨ad', e, _, k1, _⟩ := at30 h i hi
  injection e with e
  subst e
  rw [← hx] at k1
  clear hx h
  go_simp
set_option maxRecDepth 100000 in
theorem loadI {w : World} {ad : Addr} {r : List Int} (h : ReadsInt w .i64 (some ad) r.length r) {i : Nat} (hi : i < r.length) {x : Int} (hx : x = r[i]) : Sem.run Try.prog (Instr.loadAt 3 (.pointer (some (ad.add i)))) w = .ok (.int .i64 x) w := by
  obtain ⟨ad', e, hc⟩ := h.2.2 (by omega)
  injection e with e
  subst e
  have k0 : w.cell? (ad.add i) = some (.int .i64 x) := by
    have h1 := hc i hi
    rw [hx]
    simpa [List.getD_eq_getElem?_getD, hi] using h1
  clear hx h hc
  go_simp
set_option maxHeartbeats 32000000 in
set_option maxRecDepth 100000 in
theorem lockEither_walk (w : World) (A : Option Addr) (c : Nat) (l : List S30) (lc : l.length ≤ c) (h0 : Kd.C k30 w A l.length l) :
    Calls Try.prog 3 #[.slice A l.length c] w fun e w' => e = .returned (.bool true) ∧ Below w.heap.size w w' := by
  have HR := Aside0.mk h0
  obtain ⟨r, is, er, hring, htold⟩ := ring_told l
  have HRK := Aside0.mk hring
  clear h0 hring
  go_enter Try.func3, Try.ntmps3
  go_wp2_with fail
  refine (begun_calls w).mono ?_
  rintro e w1 ⟨rfl, hb1⟩
  have HB1 := Aside0.mk hb1
  have HR1 := Aside0.mk (Kd.C_below HR.out hb1)
  clear hb1 HR
  go_wp2_with fail
  refine (ring_calls 20 w1 A c l r is er HR1.out lc HRK.out).mono ?_
  rintro e w2 ⟨v2, rfl, ho2, hb2⟩
  obtain ⟨A2, c2, rfl, hc2, hr2⟩ := own_rd ho2
  have HR2 := Aside0.mk hr2
  have HP2 := Aside0.mk (Kd.C_below HR1.out hb2)
  have HB2 := Aside0.mk (below_then HB1.out HB1.out.size hb2)
  clear ho2 hr2 hb2 HR1 HB1 HRK
  rcases htold with ⟨he, rfl, rfl⟩ | ⟨rfl, hl8, hwl, hr9, hrank, hring⟩
  · have d1 : (er != 0) = true := bne_iff_ne.2 he
    have d2 : (er == 0) = false := beq_eq_false_iff_ne.2 he
    clear he
    go_wp2_with fail
    refine (begun_calls _).mono ?_
    rintro e w4 ⟨rfl, hb4⟩
    have HB4 := Aside0.mk (below_then HB2.out HB2.out.size hb4)
    clear hb4
    go_wp2
    exact bodyPost_ret (v := .bool true) (by simp [results, Try.f3, go_sem]) rfl ⟨rfl, HB4.out⟩
  · have HWL := Aside0.mk hwl
    have HRN := Aside0.mk hrank
    have HRG := Aside0.mk hring
    have hpl : (prsOf l).length = l.length := by unfold prsOf; simp
    have HPL := Aside0.mk hpl
    clear hwl hrank hring hpl
    go_wp2_with fail
    go_loopw [6, 7] (fun v6 v7 wr => ∃ i : Nat, v7 = .int .i64 (i : Int) ∧ i ≤ l.length ∧ Aside0 (Kd.R k32 32 wr w2.heap.size (fun _ => True) v6 ((prsOf l).take i)) ∧ Aside0 (Below w2.heap.size w2 wr)) (fun _ v7 _ => l.length - (intOf v7).toNat)
    case atStart => exact ⟨0, rfl, Nat.zero_le _, ⟨Kd.R_nil _ _ _ _ _⟩, ⟨Below.refl _ _⟩⟩
    case round =>
      obtain ⟨i, rfl, hi, HO, HB⟩ := hrel
      by_cases hlt : i < l.length
      · have hlt1 : (i : Int) < (l.length : Int) := by omega
        obtain ⟨ad, rfl, _⟩ := at30 HP2.out i hlt
        obtain ⟨x, hx⟩ : ∃ x, x = l[i].f0 := ⟨_, rfl⟩
        obtain ⟨y, hy⟩ : ∃ y, y = l[i].f1 := ⟨_, rfl⟩
        have HL0 := Aside0.mk (show ∀ w', Below w2.heap.size w2 w' → Sem.run Try.prog (Instr.loadAt 3 (.pointer (some (ad.add (i * 3))))) w' = .ok (.int .i64 x) w' from fun w' hb => load30_0 (Kd.C_below HP2.out hb) hlt hx)
        have HL1 := Aside0.mk (show ∀ w', Below w2.heap.size w2 w' → Sem.run Try.prog (Instr.loadAt 3 (.pointer (some ⟨(ad.add (i * 3)).block, (ad.add (i * 3)).off + 1, none⟩))) w' = .ok (.int .i64 y) w' from fun w' hb => load30_1 (Kd.C_below HP2.out hb) hlt hy)
        have HTK := Aside0.mk (show (prsOf l).take (i + 1) = (prsOf l).take i ++ [⟨y, x⟩] by
          rw [List.take_succ_eq_append_getElem (by rw [HPL.out]; exact hlt), hx, hy]
          simp [prsOf])
        have HTL := Aside0.mk (show (((prsOf l).take i).length + 1) * 16 ≤ 140737488355328 by rw [List.length_take]; omega)
        clear hx hy
        go_wp2_with fail
        have hb0 := below_drew1 HB.out
        refine wp_eff (S := fun w' => Below w2.heap.size w2 w') [(0, false), (1, false), (2, false), (3, false), (4, false), (5, false), (6, false), (7, false), (8, false), (9, false), (10, false), (11, false), (12, true), (13, true), (14, false)] (by kernel_rfl) (by kernel_rfl) hb0 (fun _ _ d _ _ h => by cases d <;> exact h) ?_
        refine se_move rfl rfl rfl ?_
        refine se_move rfl rfl rfl ?_
        refine se_move rfl rfl rfl ?_
        refine se_indexAddr (v := .pointer (some (ad.add (i * 3)))) rfl rfl rfl rfl (fun w' hw => by go_simp) ?_
        refine se_un (v := .pointer (some ⟨(ad.add (i * 3)).block, (ad.add (i * 3)).off + 1, none⟩)) rfl rfl rfl rfl rfl (fun w' hw => by go_simp) ?_
        refine se_load (v := .int .i64 y) rfl rfl rfl (fun w' hw => HL1.out w' hw) ?_
        refine se_move rfl rfl rfl ?_
        refine se_move rfl rfl rfl ?_
        refine se_indexAddr (v := .pointer (some (ad.add (i * 3)))) rfl rfl rfl rfl (fun w' hw => by go_simp) ?_
        refine se_un (v := .pointer (some (ad.add (i * 3)))) rfl rfl rfl rfl rfl (fun w' hw => by go_simp) ?_
        refine se_load (v := .int .i64 x) rfl rfl rfl (fun w' hw => HL0.out w' hw) ?_
        refine se_build (vs := [(0, .int .i64 y), (1, .int .i64 x)]) (v := .agg #[.int .i64 y, .int .i64 x]) rfl rfl rfl (fun w' hw => by go_simp) ?_
        have hb1 := below_alloc hb0 (.cells #[.int .i64 y, .int .i64 x] 32)
        refine se_lit (vs := [(0, .agg #[.int .i64 y, .int .i64 x])]) rfl rfl rfl (run_lit32 _ y x) hb1 ?_
        obtain ⟨va, x1, hrun1, hR1, hb2, _⟩ := app32 _ w2.heap.size _ _ [⟨y, x⟩] _ 1 1 (Kd.R_alloc (Kd.R_below HO.out (below_drew1 (Below.refl _ _))) _) (C_one32 (heap_alloc_new wr.drew _)) hb1.size HTL.out
        have hb3 := Below.trans hb1 hb2
        refine se_made rfl rfl rfl hrun1 hb3 ?_
        refine se_assign rfl rfl rfl ?_
        intro _
        rw [← HTK.out] at hR1
        have HO3 := Aside0.mk hR1
        have HB3 := Aside0.mk hb3
        clear hb0 hb1 hb2 hb3 hR1 hrun1
        simp only [puts, Act.put, List.setIfInBounds_toArray, List.set_cons_zero, List.set_cons_succ]
        go_wp2
        go_roundw
        case rel => exact ⟨i + 1, by go_num, hlt, HO3, HB3⟩
        case measure => simp [intOf]; omega
      · have hle : l.length ≤ i := by omega
        have HO2 := Aside0.mk (show Kd.R k32 32 wr w2.heap.size (fun _ => True) u6 (prsOf l) by
          have h := HO.out
          rwa [List.take_of_length_le (by rw [HPL.out]; exact hle)] at h)
        obtain ⟨A6, c6, hv6, hc6, hC6⟩ := Kd.R_reads HO2.out
        subst hv6
        have HC6 := Aside0.mk hC6
        clear hi HO hC6
        obtain ⟨r2, ok, hrk, htold⟩ := rank_told (prsOf l) (by rw [HPL.out]; omega)
        have HOK := Aside0.mk (HRN.out r2 ok htold)
        have HRK := Aside0.mk (rank_calls 500 wr A6 c6 (prsOf l) r2 ok 0 HC6.out hc6 (fun p hp => by
          obtain ⟨q, hq, rfl⟩ := List.mem_map.1 hp
          exact ⟨(HWL.out q hq).2, (HWL.out q hq).1⟩) hrk)
        clear hrk htold
        go_wp2_with fail
        refine HRK.out.mono ?_
        rintro e w5 ⟨v5, rfl, _, hb5⟩
        have HB5 := Aside0.mk (below_then HB.out HB.out.size hb5)
        clear hb5 HRK HC6 HO2
        have d1 : (ok == is) = false := by rw [HOK.out]; cases is <;> rfl
        go_wp2_with fail
        go_loopw [11] (fun v11 wr => ∃ i : Nat, v11 = .int .i64 (i : Int) ∧ i ≤ r.length ∧ Aside0 (Below w2.heap.size w2 wr)) (fun v11 _ => r.length - (intOf v11).toNat)
        case atStart => exact ⟨0, rfl, Nat.zero_le _, HB5⟩
        case round =>
          clear HB5 HB
          obtain ⟨i, rfl, hi, HB⟩ := hrel
          by_cases hlt : i < r.length
          · have hlt1 : (i : Int) < (r.length : Int) := by omega
            have hmod : (i + 1) % r.length < r.length := Nat.mod_lt _ (by omega)
            obtain ⟨ad2, rfl, hc8⟩ := (HR2.out.below HB.out).2.2 (by omega)
            obtain ⟨m, hm⟩ : ∃ m, m = (i + 1) % r.length := ⟨_, rfl⟩
            rw [← hm] at hmod
            obtain ⟨x, hx⟩ : ∃ x, x = r[i] := ⟨_, rfl⟩
            obtain ⟨nx, hnx⟩ : ∃ nx, nx = r[m] := ⟨_, rfl⟩
            obtain ⟨x0, hx0⟩ : ∃ x0, x0 = r[0]'(by omega) := ⟨_, rfl⟩
            have hring := HRG.out i hlt
            simp only [← hm, ← hx, ← hnx, ← hx0] at hring
            have HEX := Aside0.mk hring.1
            have hx0x := hring.2
            have kn : wr.cell? (ad2.add m) = some (.int .i64 nx) := by
              have h := hc8 m hmod
              rw [hnx]
              simpa [List.getD_eq_getElem?_getD, hmod] using h
            have HLX := Aside0.mk (show ∀ w', Below w2.heap.size w2 w' → Sem.run Try.prog (Instr.loadAt 3 (.pointer (some (ad2.add i)))) w' = .ok (.int .i64 x) w' from fun w' hb => loadI (HR2.out.below hb) hlt hx)
            have HL00 := Aside0.mk (show ∀ w', Below w2.heap.size w2 w' → Sem.run Try.prog (Instr.loadAt 3 (.pointer (some (ad2.add 0)))) w' = .ok (.int .i64 x0) w' from fun w' hb => loadI (HR2.out.below hb) (by omega) hx0)
            have hrem : Int.tmod ((i : Int) + 1) (r.length : Int) = (m : Int) := by
              rw [hm, Int.natCast_emod, Int.tmod_eq_emod_of_nonneg (by omega)]
              push_cast
              rfl
            have hm1 : (m : Int) < (r.length : Int) := by omega
            clear hc8 hm hx hnx hx0 hring
            go_wp2_with fail
            go_loopw [13, 14] (fun v13 v14 wr => ∃ k : Nat, v14 = .int .i64 (k : Int) ∧ k ≤ l.length ∧ v13 = .bool ((l.take k).any (fun p => decide (p.f0 = x) && decide (p.f1 = nx))) ∧ Aside0 (Below w2.heap.size w2 wr)) (fun _ v14 _ => l.length - (intOf v14).toNat)
            case atStart => exact ⟨0, rfl, Nat.zero_le _, by simp, HB⟩
            case round =>
              clear HB
              obtain ⟨k, rfl, hk, rfl, HB⟩ := hrel
              by_cases hkl : k < l.length
              · have hkl1 : (k : Int) < (l.length : Int) := by omega
                obtain ⟨ad, rfl, _⟩ := at30 HP2.out k hkl
                obtain ⟨a, ha⟩ : ∃ a, a = l[k].f0 := ⟨_, rfl⟩
                obtain ⟨b, hb⟩ : ∃ b, b = l[k].f1 := ⟨_, rfl⟩
                have HL0 := Aside0.mk (show ∀ w', Below w2.heap.size w2 w' → Sem.run Try.prog (Instr.loadAt 3 (.pointer (some (ad.add (k * 3))))) w' = .ok (.int .i64 a) w' from fun w' hb => load30_0 (Kd.C_below HP2.out hb) hkl ha)
                have HL1 := Aside0.mk (show ∀ w', Below w2.heap.size w2 w' → Sem.run Try.prog (Instr.loadAt 3 (.pointer (some ⟨(ad.add (k * 3)).block, (ad.add (k * 3)).off + 1, none⟩))) w' = .ok (.int .i64 b) w' from fun w' hb1 => load30_1 (Kd.C_below HP2.out hb1) hkl hb)
                have hany : (l.take (k + 1)).any (fun p => decide (p.f0 = x) && decide (p.f1 = nx)) = ((l.take k).any (fun p => decide (p.f0 = x) && decide (p.f1 = nx)) || (decide (a = x) && decide (b = nx))) := by
                  rw [List.take_succ_eq_append_getElem hkl, List.any_append, ha, hb]
                  simp
                clear ha hb
                cases hwt : (l.take k).any (fun p => decide (p.f0 = x) && decide (p.f1 = nx)) with
                | true =>
                  have HN := Aside0.mk (show (l.take (k + 1)).any (fun p => decide (p.f0 = x) && decide (p.f1 = nx)) = true by rw [hany, hwt]; rfl)
                  clear hany hwt
                  go_wp2_with fail
                  refine wp_val (S := fun w' => Below w2.heap.size w2 w') (by kernel_rfl) (by kernel_rfl) (below_drew1 HB.out) ?_
                  repeat (first
                    | refine st_skip rfl ?_
                    | refine st_move rfl rfl ?_
                    | refine st_assign rfl rfl ?_
                    | refine st_pickT rfl rfl rfl ?_
                    | refine st_pickF rfl rfl rfl ?_
                    | refine st_bin rfl rfl rfl (fun w' hw => by go_simp; rfl) ?_
                    | refine st_indexAddr rfl rfl rfl (fun w' hw => by go_simp; rfl) ?_
                    | refine st_un rfl rfl rfl rfl (fun w' hw => by go_simp; rfl) ?_
                    | refine st_builtin rfl rfl (fun w' hw => by go_simp; rfl) ?_
                    | refine st_slice rfl rfl rfl rfl rfl (fun w' hw => by go_simp; rfl) ?_)
                  intro w6 hw6
                  have HB6 := Aside0.mk hw6
                  clear hw6
                  simp only [puts, Act.put, List.setIfInBounds_toArray, List.set_cons_zero, List.set_cons_succ]
                  go_wp2
                  go_roundw
                  case rel => exact ⟨k + 1, by go_num, hkl, by rw [HN.out], HB6⟩
                  case measure => simp [intOf]; omega
                | false =>
                  rcases (show (a = x ∧ b = nx) ∨ (a = x ∧ b ≠ nx) ∨ a ≠ x by
                    by_cases h1 : a = x
                    · by_cases h2 : b = nx
                      · exact .inl ⟨h1, h2⟩
                      · exact .inr (.inl ⟨h1, h2⟩)
                    · exact .inr (.inr h1)) with ⟨hax, hbn⟩ | ⟨hax, hbn⟩ | hax
                  · have HN := Aside0.mk (show (l.take (k + 1)).any (fun p => decide (p.f0 = x) && decide (p.f1 = nx)) = true by rw [hany, hwt, decide_eq_true hax, decide_eq_true hbn]; rfl)
                    have d1 : (a == x) = true := beq_iff_eq.2 hax
                    have d2 : (b == nx) = true := beq_iff_eq.2 hbn
                    clear hax hbn
                    clear hany hwt
                    go_wp2_with fail
                    refine wp_val (S := fun w' => Below w2.heap.size w2 w') (by kernel_rfl) (by kernel_rfl) (below_drew1 HB.out) ?_
                    repeat (first
                      | refine st_skip rfl ?_
                      | refine st_move rfl rfl ?_
                      | refine st_assign rfl rfl ?_
                      | refine st_pickT rfl rfl rfl ?_
                      | refine st_pickF rfl rfl rfl ?_
                      | refine st_bin rfl rfl rfl (fun w' hw => by go_simp; rfl) ?_
                      | refine st_indexAddr rfl rfl rfl (fun w' hw => by go_simp; rfl) ?_
                      | refine st_un rfl rfl rfl rfl (fun w' hw => by go_simp; rfl) ?_
                      | refine st_builtin rfl rfl (fun w' hw => by go_simp; rfl) ?_
                      | refine st_slice rfl rfl rfl rfl rfl (fun w' hw => by go_simp; rfl) ?_
                      | refine st_load (v := .int .i64 a) rfl rfl (fun w' hw => HL0.out w' hw) ?_
                      | refine st_load (v := .int .i64 b) rfl rfl (fun w' hw => HL1.out w' hw) ?_
                      | refine st_load (v := .int .i64 x) rfl rfl (fun w' hw => HLX.out w' hw) ?_)
                    intro w6 hw6
                    have HB6 := Aside0.mk hw6
                    clear hw6
                    simp only [puts, Act.put, List.setIfInBounds_toArray, List.set_cons_zero, List.set_cons_succ]
                    go_wp2
                    go_roundw
                    case rel => exact ⟨k + 1, by go_num, hkl, by rw [HN.out], HB6⟩
                    case measure => simp [intOf]; omega
                  · have HN := Aside0.mk (show (l.take (k + 1)).any (fun p => decide (p.f0 = x) && decide (p.f1 = nx)) = false by rw [hany, hwt, decide_eq_true hax, decide_eq_false hbn]; rfl)
                    have d1 : (a == x) = true := beq_iff_eq.2 hax
                    have d2 : (b == nx) = false := beq_eq_false_iff_ne.2 hbn
                    clear hax hbn
                    clear hany hwt
                    go_wp2_with fail
                    refine wp_val (S := fun w' => Below w2.heap.size w2 w') (by kernel_rfl) (by kernel_rfl) (below_drew1 HB.out) ?_
                    repeat (first
                      | refine st_skip rfl ?_
                      | refine st_move rfl rfl ?_
                      | refine st_assign rfl rfl ?_
                      | refine st_pickT rfl rfl rfl ?_
                      | refine st_pickF rfl rfl rfl ?_
                      | refine st_bin rfl rfl rfl (fun w' hw => by go_simp; rfl) ?_
                      | refine st_indexAddr rfl rfl rfl (fun w' hw => by go_simp; rfl) ?_
                      | refine st_un rfl rfl rfl rfl (fun w' hw => by go_simp; rfl) ?_
                      | refine st_builtin rfl rfl (fun w' hw => by go_simp; rfl) ?_
                      | refine st_slice rfl rfl rfl rfl rfl (fun w' hw => by go_simp; rfl) ?_
                      | refine st_load (v := .int .i64 a) rfl rfl (fun w' hw => HL0.out w' hw) ?_
                      | refine st_load (v := .int .i64 b) rfl rfl (fun w' hw => HL1.out w' hw) ?_
                      | refine st_load (v := .int .i64 x) rfl rfl (fun w' hw => HLX.out w' hw) ?_)
                    intro w6 hw6
                    have HB6 := Aside0.mk hw6
                    clear hw6
                    simp only [puts, Act.put, List.setIfInBounds_toArray, List.set_cons_zero, List.set_cons_succ]
                    go_wp2
                    go_roundw
                    case rel => exact ⟨k + 1, by go_num, hkl, by rw [HN.out], HB6⟩
                    case measure => simp [intOf]; omega
                  · have HN := Aside0.mk (show (l.take (k + 1)).any (fun p => decide (p.f0 = x) && decide (p.f1 = nx)) = false by rw [hany, hwt, decide_eq_false hax]; rfl)
                    have d1 : (a == x) = false := beq_eq_false_iff_ne.2 hax
                    clear hax
                    clear hany hwt
                    go_wp2_with fail
                    refine wp_val (S := fun w' => Below w2.heap.size w2 w') (by kernel_rfl) (by kernel_rfl) (below_drew1 HB.out) ?_
                    repeat (first
                      | refine st_skip rfl ?_
                      | refine st_move rfl rfl ?_
                      | refine st_assign rfl rfl ?_
                      | refine st_pickT rfl rfl rfl ?_
                      | refine st_pickF rfl rfl rfl ?_
                      | refine st_bin rfl rfl rfl (fun w' hw => by go_simp; rfl) ?_
                      | refine st_indexAddr rfl rfl rfl (fun w' hw => by go_simp; rfl) ?_
                      | refine st_un rfl rfl rfl rfl (fun w' hw => by go_simp; rfl) ?_
                      | refine st_builtin rfl rfl (fun w' hw => by go_simp; rfl) ?_
                      | refine st_slice rfl rfl rfl rfl rfl (fun w' hw => by go_simp; rfl) ?_
                      | refine st_load (v := .int .i64 a) rfl rfl (fun w' hw => HL0.out w' hw) ?_
                      | refine st_load (v := .int .i64 b) rfl rfl (fun w' hw => HL1.out w' hw) ?_
                      | refine st_load (v := .int .i64 x) rfl rfl (fun w' hw => HLX.out w' hw) ?_)
                    intro w6 hw6
                    have HB6 := Aside0.mk hw6
                    clear hw6
                    simp only [puts, Act.put, List.setIfInBounds_toArray, List.set_cons_zero, List.set_cons_succ]
                    go_wp2
                    go_roundw
                    case rel => exact ⟨k + 1, by go_num, hkl, by rw [HN.out], HB6⟩
                    case measure => simp [intOf]; omega
              · have hlek : l.length ≤ k := by omega
                have hwt : (l.take k).any (fun p => decide (p.f0 = x) && decide (p.f1 = nx)) = true := by
                  rw [List.take_of_length_le hlek, List.any_eq_true]
                  obtain ⟨p, hp, h1, h2⟩ := HEX.out
                  exact ⟨p, hp, by simp [h1, h2]⟩
                rw [hwt]
                have d0 : decide (x < x0) = false := decide_eq_false (by omega)
                have h0r : (0 : Int) < (r.length : Int) := by omega
                have h0n : 0 < r.length := by omega
                have HL01 := Aside0.mk (show ∀ w', Below w2.heap.size w2 w' → Sem.run Try.prog (Instr.loadAt 3 (.pointer (some ad2))) w' = .ok (.int .i64 x0) w' from fun w' hb => HL00.out w' hb)
                clear hwt hk
                go_wp2_with fail
                refine wp_val (S := fun w' => Below w2.heap.size w2 w') (by kernel_rfl) (by kernel_rfl) (below_drew1 HB.out) ?_
                repeat (first
                  | refine st_indexAddr (vy := .int .i64 0) (v := .pointer (some ad2)) rfl rfl rfl (fun w' hw => by go_simp <;> rfl) ?_
                  | refine st_skip rfl ?_
                  | refine st_move rfl rfl ?_
                  | refine st_assign rfl rfl ?_
                  | refine st_pickT rfl rfl rfl ?_
                  | refine st_pickF rfl rfl rfl ?_
                  | refine st_bin rfl rfl rfl (fun w' hw => by go_simp; rfl) ?_
                  | refine st_indexAddr rfl rfl rfl (fun w' hw => by go_simp; rfl) ?_
                  | refine st_un rfl rfl rfl rfl (fun w' hw => by go_simp; rfl) ?_
                  | refine st_builtin rfl rfl (fun w' hw => by go_simp; rfl) ?_
                  | refine st_slice rfl rfl rfl rfl rfl (fun w' hw => by go_simp; rfl) ?_
                  | refine st_load (v := .int .i64 x) rfl rfl (fun w' hw => HLX.out w' hw) ?_
                  | refine st_load (v := .int .i64 x0) rfl rfl (fun w' hw => HL01.out w' hw) ?_)
                intro w6 hw6
                have HB6 := Aside0.mk hw6
                clear hw6
                simp only [puts, Act.put, List.setIfInBounds_toArray, List.set_cons_zero, List.set_cons_succ]
                go_wp2
                go_roundw
                case rel => exact ⟨i + 1, by go_num, hlt, HB6⟩
                case measure => simp [intOf]; omega
          · have hle2 : r.length ≤ i := by omega
            clear hi
            go_wp2_with fail
            refine (begun_calls _).mono ?_
            rintro e w7 ⟨rfl, hb7⟩
            have HB7 := Aside0.mk (below_then (below_then HB2.out HB2.out.size HB.out) (below_then HB2.out HB2.out.size HB.out).size hb7)
            clear hb7
            go_wp2
            exact bodyPost_ret (v := .bool true) (by simp [results, Try.f3, go_sem]) rfl ⟨rfl, HB7.out⟩
end Go.Proofs.Ytlgkcjkicankmaa.Lk
