/- RaceSwaps: its walk and its row. -/
import Derived.Test.YtginlhengebgaaaRcL
import Derived.Test.YtginlhengebgaaaCkY
namespace Go.Proofs.Ytginlhengebgaaa.Ck
open Go Go.RowKit Go.Maps Go.Proofs.YtginlhengebgaaaW Go.Proofs.YtginlhengebgaaaW.PrintWords Go.Proofs.YtginlhengebgaaaW.PrintLast Go.Proofs.YtginlhengebgaaaW.PrintMore Go.Proofs.Ytginlhengebgaaa.PLockupEither Go.Proofs.Ytginlhengebgaaa.Bs Go.Proofs.Ytginlhengebgaaa.RegionVal Go.Proofs.Ytginlhengebgaaa.Lk Go.Proofs.Ytginlhengebgaaa.Open
open Go.Lib hiding intOf
set_option linter.unusedVariables false
set_option linter.unusedSimpArgs false
set_option maxHeartbeats 8000000 in
set_option maxRecDepth 100000 in
theorem hasInt_calls (w : World) (A : Option Addr) (c : Nat) (l : List Int) (x : Int) (hr : Kd.C Lk.kI w A l.length l) :
    Calls Try.prog 27 #[.slice A l.length c, .int .i64 x] w fun e w' => e = .returned (.bool (decide (x ∈ l))) ∧ Below w.heap.size w w' := by
  have HR := Aside0.mk hr
  have hn := hr.2.1
  clear hr
  go_enter Try.func27, Try.ntmps27
  go_wp2
  go_loopw [5] (fun v5 wr => ∃ k : Nat, v5 = .int .i64 (k : Int) ∧ k ≤ l.length ∧ Aside0 (x ∉ l.take k) ∧ Aside0 (Below w.heap.size w wr)) (fun v5 _ => l.length - (intOf v5).toNat)
  case atStart => exact ⟨0, rfl, Nat.zero_le _, ⟨by simp⟩, ⟨Below.refl _ _⟩⟩
  case round =>
    obtain ⟨k, rfl, hk, HN, HB⟩ := hrel
    by_cases hlt : k < l.length
    · have z1 : (k : Int) < (l.length : Int) := by omega
      obtain ⟨ad, rfl, k0⟩ := C_cell (Kd.C_below HR.out HB.out) k hlt
      have HT := Aside0.mk (show l.take (k + 1) = l.take k ++ [l[k]] from List.take_succ_eq_append_getElem hlt)
      have HM := Aside0.mk (List.getElem_mem hlt)
      generalize l[k] = y at k0 HT HM
      by_cases hy : y = x
      · have d1 : (y == x) = true := beq_iff_eq.2 hy
        have HX := Aside0.mk (show decide (x ∈ l) = true from decide_eq_true (hy ▸ HM.out))
        clear hy
        go_wp2
        exact bodyPost_ret (v := .bool true) (by simp [results, Try.f27, go_sem]) rfl ⟨by rw [HX.out], HB.out⟩
      · have d1 : (y == x) = false := beq_eq_false_iff_ne.2 hy
        have HX := Aside0.mk (show x ∉ l.take (k + 1) by
          rw [HT.out, List.mem_append, List.mem_singleton]
          rintro (h | h)
          · exact HN.out h
          · exact hy h.symm)
        clear hy
        go_wp2
        go_roundw
        case rel => exact ⟨k + 1, by go_num, hlt, HX, HB⟩
        case measure => simp [intOf]; omega
    · have HX := Aside0.mk (show decide (x ∈ l) = false from decide_eq_false (by
        have h := HN.out
        rwa [List.take_of_length_le (by omega)] at h))
      go_wp2
      exact bodyPost_ret (v := .bool false) (by simp [results, Try.f27, go_sem]) rfl ⟨by rw [HX.out], HB.out⟩
theorem ldA {w : World} {a : Addr} {x : Int} (h : w.cell? a = some (.int .i64 x)) : Sem.run Try.prog (Instr.loadAt 3 (.pointer (some a))) w = .ok (.int .i64 x) w := by
  go_simp
theorem run_alloc55 (w : World) : Sem.run Try.prog (Instr.alloc 55 true (.tuple #[])) w = .ok (.pointer (some ⟨w.heap.size, 0, none⟩)) (w.alloc (.cells #[.slice none 0 0, .slice none 0 0] 55)) := by
  go_simp
theorem run_store55 (w : World) (g : Nat) (u0 u1 : Value) (A : Option Addr) (n c : Nat) (B : Option Addr) (m d : Nat) (hk : w.heap[g]? = some (.cells #[u0, u1] 55 (0, 0))) : Sem.run Try.prog (Instr.storeAt 55 (.pointer (some ⟨g, 0, none⟩)) (.agg #[.slice A n c, .slice B m d])) w = .ok () ((w.setCell ⟨g, 0, none⟩ (.slice A n c)).setCell ⟨g, 1, none⟩ (.slice B m d)) :=
  run_store_run (P := Try.prog) 55 (.agg #[.slice A n c, .slice B m d]) [.slice A n c, .slice B m d] hk rfl info55 (by simp) (by
    intro q hq
    simp only [List.mem_cons, List.not_mem_nil, or_false] at hq
    rcases hq with rfl | rfl <;> rfl)
theorem two_belowG {w W : World} {B g : Nat} (hg : B ≤ g) (h : Below B w W) (v1 v2 : Value) : Below B w ((W.setCell ⟨g, 0, none⟩ v1).setCell ⟨g, 1, none⟩ v2) :=
  (h.setCell (p := ⟨g, 0, none⟩) hg _).setCell (p := ⟨g, 1, none⟩) hg _
theorem two_own {W : World} {B g n : Nat} {v : Value} {cs : Array Value} {xs : List Value} (h : W.heap[g]? = some (.cells cs 55 (0, 0))) (ho : W.ownsRow B 3 1 v n xs) (v1 v2 : Value) : ((W.setCell ⟨g, 0, none⟩ v1).setCell ⟨g, 1, none⟩ v2).ownsRow B 3 1 v n xs :=
  ho.kept (gb_trans (gb_set g 0 _ _) (gb_set g 1 _ _)) (.inr (ownsRow_ne55 h ho))
set_option maxHeartbeats 32000000 in
set_option maxRecDepth 100000 in
theorem raceSwaps_walk (w : World) (A : Option Addr) (c : Nat) (l0 : List CE) (h : Kd.C kC w A l0.length l0) (hc : l0.length ≤ c) (T n : Int) :
    Calls Try.prog 10 #[.slice A l0.length c, .int .i64 T, .int .i64 n] w fun e w' => e = .returned (.bool true) ∧ Below w.heap.size w w' := by
  have HR := Aside0.mk h
  clear h
  go_enter Try.func10, Try.ntmps10
  go_wp2_with fail
  refine (rbegun_calls _).mono ?_
  rintro e w1 ⟨rfl, hb1⟩
  have HB1 := Aside0.mk hb1
  have HR1 := Aside0.mk (Kd.C_below HR.out HB1.out)
  clear hb1 HR
  go_wp2_with fail
  refine (soon_calls w1 A c l0 HR1.out hc).mono ?_
  rintro e w2 ⟨l, rfl, hlc, hl60, hr2, hb2⟩
  have HB2 := Aside0.mk (below_then HB1.out HB1.out.size hb2)
  have HR2 := Aside0.mk hr2
  clear hb2 hr2 HR1 HB1 hc
  go_wp2_with fail
  refine (All_calls w2 A c l T HR2.out hlc).mono ?_
  rintro e w3 ⟨v3, rfl, hv3, hv3', hb3⟩
  have HB3 := Aside0.mk (below_then HB2.out HB2.out.size hb3)
  have HR3 := Aside0.mk (Kd.C_below HR2.out hb3)
  clear hb3 HR2 HB2
  by_cases hq : chkF l T = 0
  · obtain ⟨hl, th, hT, hth, ht⟩ := chk_ok hq
    subst hT
    obtain ⟨E, hE, hRA⟩ := hv3 hq
    rw [Int.toNat_natCast] at hRA
    have HE := Aside0.mk hE
    have HT := Aside0.mk ht
    have HCK := Aside0.mk hq
    rw [hq]
    obtain ⟨R, hRR⟩ : ∃ R, R = racesF l th E := ⟨_, rfl⟩
    rw [← hRR] at hRA
    have HRR := Aside0.mk hRR
    obtain ⟨B, d, rfl, hd, hRC⟩ := Kd.R_reads hRA
    have HRC := Aside0.mk hRC
    have hRn := hRC.2.1
    clear hv3 hv3' hE ht hq hRA hRC hRR
    by_cases hn0 : n < 0
    · go_wp2_with fail
      refine (rbegun_calls _).mono ?_
      rintro e w5 ⟨rfl, hb5⟩
      have HB5 := Aside0.mk (below_then HB3.out HB3.out.size hb5)
      clear hb5
      go_wp2
      exact bodyPost_ret (v := .bool true) (by simp [results, Try.f10, go_sem]) rfl ⟨rfl, HB5.out⟩
    · by_cases hn1 : (R.length : Int) ≤ n
      · go_wp2_with fail
        refine (rbegun_calls _).mono ?_
        rintro e w5 ⟨rfl, hb5⟩
        have HB5 := Aside0.mk (below_then HB3.out HB3.out.size hb5)
        clear hb5
        go_wp2
        exact bodyPost_ret (v := .bool true) (by simp [results, Try.f10, go_sem]) rfl ⟨rfl, HB5.out⟩
      · obtain ⟨q, hqn⟩ : ∃ q : Nat, n = (q : Int) := ⟨n.toNat, by omega⟩
        subst hqn
        have hqR : q < R.length := by omega
        have z1 : (q : Int) < (R.length : Int) := by omega
        obtain ⟨ad, rfl, e0, e1⟩ := at32 HRC.out q hqR
        obtain ⟨i, j, hij, hij1, hj2, hrc⟩ := mem_races.1 (show R[q] ∈ racesF l th E by rw [← HRR.out]; exact List.getElem_mem hqR)
        rw [hij] at e0 e1
        simp only at e0 e1
        have hi2 : i < l.length := by omega
        have HPV := Aside0.mk (show prvB l th E i j = true from (races_lt HE.out HT.out hj2 hij1).1 (mem_races.2 ⟨i, j, rfl, hij1, hj2, hrc⟩))
        have HL0 := Aside0.mk (show ∀ w', Below w3.heap.size w3 w' → Sem.run Try.prog (Instr.loadAt 3 (.pointer (some (ad.add (q * 2))))) w' = .ok (.int .i64 (i : Int)) w' from fun w' hw => ldA ((hw.cell (World.block_lt_of_cell? w3 _ e0)).trans e0))
        have HL1 := Aside0.mk (show ∀ w', Below w3.heap.size w3 w' → Sem.run Try.prog (Instr.loadAt 3 (.pointer (some ⟨(ad.add (q * 2)).block, (ad.add (q * 2)).off + 1, none⟩))) w' = .ok (.int .i64 (j : Int)) w' from fun w' hw => ldA ((hw.cell (World.block_lt_of_cell? w3 _ e1)).trans e1)) 
        have HQ := Aside0.mk (pair_of HCK.out (show 0 ≤ (i : Int) ∧ (i : Int) < (l.length : Int) by omega) (show 0 ≤ (j : Int) ∧ (j : Int) < (l.length : Int) by omega))
        have HPR := Aside0.mk (show ∀ w', Below w3.heap.size w3 w' → Calls Try.prog 26 #[.slice A l.length c, .int .i64 (th : Int), .int .i64 (i : Int), .int .i64 (j : Int)] w' fun e w'' => Below w'.heap.size w' w'' ∧ ∃ g5 c5 g6 c6, e = .returned (.tuple #[.agg #[.slice (some ⟨g5, 0, none⟩) (intoF E (i : Int)).length c5, .slice (some ⟨g6, 0, none⟩) (intoF E (j : Int)).length c6], .int .i64 0]) ∧
            w''.ownsRow w'.heap.size 3 1 (.slice (some ⟨g5, 0, none⟩) (intoF E (i : Int)).length c5) (intoF E (i : Int)).length (nums .i64 (intoF E (i : Int))) ∧ w''.ownsRow w'.heap.size 3 1 (.slice (some ⟨g6, 0, none⟩) (intoF E (j : Int)).length c6) (intoF E (j : Int)).length (nums .i64 (intoF E (j : Int))) from fun w' hw => by
          refine (Prove_ok w' A c l th i j (Kd.C_below HR3.out hw) hlc HQ.out).mono ?_
          rintro e w'' ⟨E2, v, r, hE2, rfl, hb, h⟩
          obtain rfl := hE2.uniq HE.out
          rcases h with ⟨_, _, h⟩ | ⟨rfl, _, g5, c5, g6, c6, rfl, h1, h2⟩
          · rw [HPV.out] at h; cases h
          · exact ⟨hb, g5, c5, g6, c6, rfl, h1, h2⟩)
        obtain ⟨I, hI⟩ : ∃ I, I = intoF E (i : Int) := ⟨_, rfl⟩
        obtain ⟨J, hJ⟩ : ∃ J, J = intoF E (j : Int) := ⟨_, rfl⟩
        have HS1 := Aside0.mk (swap_ok HE.out HT.out hi2 hj2 HPV.out)
        have HS2 := Aside0.mk (swap_ok HE.out HT.out hj2 hi2 ((prv_comm HE.out HT.out hj2 hi2).trans HPV.out))
        rw [← hI, ← hJ] at HPR HS1 HS2
        clear e0 e1 hij hrc hI hJ HRR
        go_wp2_with fail
        refine wp_tree (S := fun w' => Below w3.heap.size w3 w') (fun a0 F w' => ∃ (gp g5 c5 g6 c6 : Nat), puts a0 F = puts a0 [(10, .int .i64 0), (9, .pointer (some ⟨gp, 0, none⟩)), (59, .int .i64 0), (58, .agg #[.slice (some ⟨g5, 0, none⟩) I.length c5, .slice (some ⟨g6, 0, none⟩) J.length c6]), (44, .tuple #[.agg #[.slice (some ⟨g5, 0, none⟩) I.length c5, .slice (some ⟨g6, 0, none⟩) J.length c6], .int .i64 0]),
            (57, .tuple #[.agg #[.slice (some ⟨g5, 0, none⟩) I.length c5, .slice (some ⟨g6, 0, none⟩) J.length c6], .int .i64 0]), (56, .int .i64 (j : Int)), (55, .pointer (some ⟨(ad.add (q * 2)).block, (ad.add (q * 2)).off + 1, none⟩)), (54, .pointer (some (ad.add (q * 2)))), (53, .int .i64 (q : Int)), (52, .slice (some ad) R.length d), (51, .int .i64 (i : Int)), (50, .pointer (some (ad.add (q * 2)))), (49, .pointer (some (ad.add (q * 2)))), (48, .int .i64 (q : Int)), (47, .slice (some ad) R.length d), (46, .int .i64 (th : Int)), (45, .slice A l.length c)] ∧
            Below w3.heap.size w3 w' ∧ w3.heap.size ≤ gp ∧ w'.heap[gp]? = some (.cells #[.slice (some ⟨g5, 0, none⟩) I.length c5, .slice (some ⟨g6, 0, none⟩) J.length c6] 55 (0, 0)) ∧ w'.ownsRow w3.heap.size 3 1 (.slice (some ⟨g5, 0, none⟩) I.length c5) I.length (nums .i64 I) ∧ w'.ownsRow w3.heap.size 3 1 (.slice (some ⟨g6, 0, none⟩) J.length c6) J.length (nums .i64 J))
          (.fork [(0, false), (1, false), (2, false), (3, false), (4, false), (5, false), (6, false), (7, false), (8, false), (9, false), (10, false), (11, false)] 12 (.leaf [(13, false), (14, false), (15, false), (16, true), (17, true), (18, false)]) 16 (.leaf [(12, true), (13, false), (14, false), (15, false), (17, true), (18, false)]))
          (by kernel_rfl) (by kernel_rfl) (below_drew1 (Below.refl _ _)) (fun _ _ d _ _ h => by cases d <;> exact h) ?_ ?_
        · rintro F w4 ⟨gp, g5, c5, g6, c6, hputs, hb4, hge, hgp, hO1, hO2⟩
          rw [hputs]
          have HB4 := Aside0.mk hb4
          have HGE := Aside0.mk hge
          have HGP := Aside0.mk hgp
          have HO1 := Aside0.mk hO1
          have HO2 := Aside0.mk hO2
          clear hputs hb4 hge hgp hO1 hO2
          simp only [puts, Act.put, List.setIfInBounds_toArray, List.set_cons_zero, List.set_cons_succ]
          have k0 := blk_cell HGP.out 0
          have k1 := blk_cell HGP.out 1
          simp only [List.getElem?_toArray, List.getElem?_cons_zero, List.getElem?_cons_succ] at k0 k1
          have HLITA := Aside0.mk (heap_alloc_new w4 (.cells #[.slice (some ⟨g5, 0, none⟩) I.length c5, .slice (some ⟨g6, 0, none⟩) J.length c6] 24))
          have hba := below_alloc (Below.refl w4.heap.size w4) (.cells #[.slice (some ⟨g5, 0, none⟩) I.length c5, .slice (some ⟨g6, 0, none⟩) J.length c6] 24)
          have HBA := Aside0.mk hba
          clear hba
          obtain ⟨W1, hW1⟩ : ∃ W1, W1 = w4.alloc (.cells #[.slice (some ⟨g5, 0, none⟩) I.length c5, .slice (some ⟨g6, 0, none⟩) J.length c6] 24) := ⟨_, rfl⟩
          obtain ⟨gs, hgs⟩ : ∃ gs, gs = w4.heap.size := ⟨_, rfl⟩
          rw [← hW1] at HBA HLITA
          have hb31 := below_then HB4.out HB4.out.size HBA.out
          have HLIT := Aside0.mk (show W1.heap[gs]? = some (.cells #[.slice (some ⟨g5, 0, none⟩) I.length c5, .slice (some ⟨g6, 0, none⟩) J.length c6] 24 (0, 0)) by rw [hgs]; exact HLITA.out)
          have HGP1 := Aside0.mk (blk_below HGP.out HBA.out)
          have HRI := Aside0.mk (Kd.C_below (C_int (own_rdA HO1.out)) HBA.out)
          have HRJ := Aside0.mk (Kd.C_below (C_int (own_rdA HO2.out)) HBA.out)
          have HLI := Aside0.mk (fun w' (hw : Below W1.heap.size W1 w') => HL0.out w' (below_then hb31 hb31.size hw))
          have HLJ := Aside0.mk (fun w' (hw : Below W1.heap.size W1 w') => HL1.out w' (below_then hb31 hb31.size hw))
          have HBE := Aside0.mk (show ∀ w', Below W1.heap.size W1 w' → ∀ x y : Int, 0 ≤ x ∧ x < (l.length : Int) → 0 ≤ y ∧ y < (l.length : Int) → bef l th E x.toNat y.toNat = false → Calls Try.prog 19 #[.slice A l.length c, .int .i64 (th : Int), .int .i64 x, .int .i64 y] w' fun e w'' => e = .returned (.tuple #[.bool false, .int .i64 0]) ∧ Below w'.heap.size w' w'' from fun w' hw x y hx hy hb => by
            have hpq := pair_of HCK.out hx hy
            refine (Before_calls w' A c l th x y (Kd.C_below HR3.out (below_then hb31 hb31.size hw)) hlc).mono ?_
            rintro e w'' ⟨b, rfl, _, h2, hbb⟩
            rw [hpq] at h2 ⊢
            obtain ⟨E2, hE2, rfl⟩ := h2 rfl
            obtain rfl := hE2.uniq HE.out
            rw [Int.toNat_natCast, hb]
            exact ⟨rfl, hbb⟩)
          have HBW := Aside0.mk (below_then HB3.out HB3.out.size hb31)
          go_wp2_with fail
          rw [← hW1, ← hgs]
          simp only [show decide (R.length ≤ q) = false from decide_eq_false (by omega), show decide ((q : Int) < 0) = false from decide_eq_false (by omega), Bool.or_self]
          have dij : ((i : Int) == (j : Int)) = false := beq_eq_false_iff_ne.2 (by omega)
          clear hb31 HBA HLITA HGP HO1 HO2 HL0 HL1 HPR HPV HQ HB4 hW1 hgs HGE k0 k1 HB3
          go_loopw [68] (fun v68 wr => ∃ m : Nat, v68 = .int .i64 (m : Int) ∧ m ≤ 2 ∧ Aside0 (Below W1.heap.size W1 wr)) (fun v68 _ => 2 - (intOf v68).toNat)
          case atStart => exact ⟨0, rfl, by omega, ⟨Below.refl _ _⟩⟩
          case round =>
            obtain ⟨m, rfl, hm, HB⟩ := hrel
            obtain rfl | rfl | rfl : m = 0 ∨ m = 1 ∨ m = 2 := by omega
            · have hf1 : 0 < I.length := HS1.out.fpos
              obtain ⟨pF, hpF⟩ : ∃ pF, I.length = pF + 1 := ⟨I.length - 1, by omega⟩
              have hFl : I.length ≤ 60 := by have := HS1.out.lf; omega
              have hOl : J.length ≤ 60 := by have := HS1.out.lo; omega
              have hwF : IntKind.i64.wrap ((I.length : Int) - 1) = (pF : Int) := by rw [IntKind.wrap_i64]; omega
              have hpF2 : (pF : Int) < (I.length : Int) := by omega
              have HLY := Aside0.mk (show ∀ w', Below W1.heap.size W1 w' → Sem.run Try.prog (Instr.loadAt 3 (.pointer (some ⟨g5, pF, none⟩))) w' = .ok (.int .i64 (i : Int)) w' from fun w' hw => ldA (by
                obtain ⟨a', e', hc'⟩ := C_cell (Kd.C_below HRI.out hw) pF (by omega)
                cases e'
                rw [add_plain] at hc'
                have hy' := HS1.out.lastF
                rw [show I.length - 1 = pF by omega, List.getD_eq_getElem?_getD, List.getElem?_eq_getElem (by omega), Option.getD_some] at hy'
                rw [hc', hy']))
              clear hpF
              have kf : wr.cell? ⟨gs, 0, none⟩ = some (.slice (some ⟨g5, 0, none⟩) I.length c5) := by rw [blk_cell (blk_below HLIT.out HB.out)]; rfl
              go_wp2_with fail
              refine wp_val (S := fun w' => Below W1.heap.size W1 w') (by kernel_rfl) (by kernel_rfl) (below_drew1 HB.out) ?_
              repeat (first
                | refine st_indexAddr (vx := .slice (some ad) R.length d) (v := .pointer (some (ad.add (q * 2)))) rfl rfl rfl (fun w' hw => by go_simp; fail_if_success (focus skip)) ?_
                | refine st_un (vx := .pointer (some (ad.add (q * 2)))) (v := .pointer (some ⟨(ad.add (q * 2)).block, (ad.add (q * 2)).off + 1, none⟩)) rfl rfl rfl rfl (fun w' hw => by go_simp; fail_if_success (focus skip)) ?_
                | refine st_un (vx := .pointer (some ⟨gp, 0, none⟩)) (v := .pointer (some ⟨gp, 1, none⟩)) rfl rfl rfl rfl (fun w' hw => by go_simp; fail_if_success (focus skip)) ?_
                | refine st_skip rfl ?_
                | refine st_move rfl rfl ?_
                | refine st_assign rfl rfl ?_
                | refine st_pickT rfl rfl rfl ?_
                | refine st_pickF rfl rfl rfl ?_
                | refine st_bin rfl rfl rfl (fun w' hw => by go_simp; rfl) ?_
                | refine st_indexAddr rfl rfl rfl (fun w' hw => by go_simp; rfl) ?_
                | refine st_un rfl rfl rfl rfl (fun w' hw => by go_simp; rfl) ?_
                | refine st_builtin rfl rfl (fun w' hw => by go_simp; rfl) ?_
                | refine st_slice rfl rfl rfl rfl rfl (fun w' hw => by go_simp; rfl) ?_
                | refine st_load (v := .slice (some ⟨g6, 0, none⟩) J.length c6) rfl rfl (fun w' hw => ldV (by rw [blk_cell (blk_below HGP1.out hw)]; rfl)) ?_
                | refine st_load (v := .int .i64 (j : Int)) rfl rfl (fun w' hw => HLJ.out w' hw) ?_)
              intro w13 hw13
              have HB13 := Aside0.mk hw13
              clear hw13 kf HB
              simp only [puts, Act.put, List.setIfInBounds_toArray, List.set_cons_zero, List.set_cons_succ]
              go_wp2_with fail
              refine wp_val (S := fun w' => Below W1.heap.size W1 w') (by kernel_rfl) (by kernel_rfl) (below_drew1 HB13.out) ?_
              repeat (first
                | refine st_indexAddr (vx := .slice (some ad) R.length d) (v := .pointer (some (ad.add (q * 2)))) rfl rfl rfl (fun w' hw => by go_simp; fail_if_success (focus skip)) ?_
                | refine st_un (vx := .pointer (some (ad.add (q * 2)))) (v := .pointer (some ⟨(ad.add (q * 2)).block, (ad.add (q * 2)).off + 1, none⟩)) rfl rfl rfl rfl (fun w' hw => by go_simp; fail_if_success (focus skip)) ?_
                | refine st_indexAddr (vx := .slice (some ⟨g5, 0, none⟩) I.length c5) (v := .pointer (some ⟨g5, pF, none⟩)) rfl rfl rfl (fun w' hw => by go_simp; fail_if_success (focus skip)) ?_
                | refine st_bin (b := .sub) (v := .int .i64 (pF : Int)) rfl rfl rfl (fun w' hw => by go_simp; fail_if_success (focus skip)) ?_
                | refine st_bin (b := .eql) (v := .bool false) rfl rfl rfl (fun w' hw => by go_simp; fail_if_success (focus skip)) ?_
                | refine st_skip rfl ?_
                | refine st_move rfl rfl ?_
                | refine st_assign rfl rfl ?_
                | refine st_pickT rfl rfl rfl ?_
                | refine st_pickF rfl rfl rfl ?_
                | refine st_bin rfl rfl rfl (fun w' hw => by go_simp; rfl) ?_
                | refine st_indexAddr rfl rfl rfl (fun w' hw => by go_simp; rfl) ?_
                | refine st_un rfl rfl rfl rfl (fun w' hw => by go_simp; rfl) ?_
                | refine st_builtin rfl rfl (fun w' hw => by go_simp; rfl) ?_
                | refine st_slice rfl rfl rfl rfl rfl (fun w' hw => by go_simp; rfl) ?_
                | refine st_load (v := .int .i64 (i : Int)) rfl rfl (fun w' hw => HLY.out w' hw) ?_
                | refine st_load (v := .int .i64 (j : Int)) rfl rfl (fun w' hw => HLJ.out w' hw) ?_)
              intro w14 hw14
              have HB14 := Aside0.mk hw14
              clear hw14 HB13
              simp only [puts, Act.put, List.setIfInBounds_toArray, List.set_cons_zero, List.set_cons_succ]
              have HRF2 := Aside0.mk (reads_of (Kd.C_below (Kd.C_below HRI.out HB14.out) (below_alloc (Below.refl w14.heap.size w14) (.cells #[] 3))))
              go_wp2_with (first
                | (at_builtin; refine print_append_row (w0 := w14) w14.heap.size rfl _ _ 24 3 .i64 8 rfl Try.underlying24 infoInt (by decide) _ ([] : List Int) I _ I.length c5 rfl rfl (own_lit w14 [] (by simp)) HRF2.out (below_alloc (Below.refl _ _) _) (below_alloc (Below.refl _ _) _).size (by simp; omega) ?_; intro v1 w16 hown hB hg hat; have HO16 := Aside0.mk hown; have HB16 := Aside0.mk hB; clear hown hB hg hat)
                | fail)
              have HOZ := Aside0.mk (show w16.ownsRow w14.heap.size 3 1 v1 (ordK I J 0).length (nums .i64 (ordK I J 0)) by rw [ordK_zero]; exact HO16.out)
              clear HRF2 HO16 hpF2 hwF HLY
              go_loopw [15, 16] (fun v15 v16 wr => ∃ k : Nat, v16 = .int .i64 (k : Int) ∧ k ≤ J.length ∧ Aside0 (wr.ownsRow w14.heap.size 3 1 v15 (ordK I J k).length (nums .i64 (ordK I J k))) ∧ Aside0 (Below w14.heap.size w14 wr)) (fun _ v16 _ => J.length - (intOf v16).toNat)
              case atStart => exact ⟨0, rfl, Nat.zero_le _, HOZ, HB16⟩
              case round =>
                clear HOZ HB16
                obtain ⟨k, rfl, hk, HOW, HBR⟩ := hrel
                obtain ⟨A5, c8, rfl, hc8, hrd8⟩ := own_rd HOW.out
                have hlk := ordK_len I J k
                by_cases hlt : k < J.length
                · have z5 : (k : Int) < (J.length : Int) := by omega
                  have kO : wr.cell? ⟨g6, k, none⟩ = some (.int .i64 J[k]) := by
                    obtain ⟨a', e', hc'⟩ := C_cell (Kd.C_below (Kd.C_below HRJ.out HB14.out) (HBR.out.mono (Nat.le_refl _))) k hlt
                    cases e'
                    rw [add_plain] at hc'
                    exact hc'
                  have HHAS := Aside0.mk (ordK_has (F := I) HS1.out.rise hlt)
                  have HIN := Aside0.mk (ordK_in (F := I) hlt)
                  have HNEW := Aside0.mk (ordK_new (F := I) hlt)
                  generalize J[k] = o at kO HHAS HIN HNEW
                  have HC8 := Aside0.mk (C_int hrd8)
                  clear hrd8
                  go_wp2_with fail
                  refine (hasInt_calls wr A5 c8 (ordK I J k) o HC8.out).mono ?_
                  rintro e w20 ⟨rfl, hb20⟩
                  have HO20 := Aside0.mk (HOW.out.kept (gb_below none hb20) (Classical.em _))
                  have HB20 := Aside0.mk (below_then HBR.out HBR.out.size hb20)
                  have kO2 : w20.cell? ⟨g6, k, none⟩ = some (.int .i64 o) := (hb20.cell (World.block_lt_of_cell? wr _ kO)).trans kO
                  clear hb20 HC8 kO HOW HBR
                  by_cases hin : o ∈ I
                  · have HEQ := Aside0.mk (HIN.out hin)
                    rw [show decide (o ∈ ordK I J k) = true from decide_eq_true (HHAS.out.2 hin)]
                    have HO21 := Aside0.mk (show w20.ownsRow w14.heap.size 3 1 (.slice A5 (ordK I J k).length c8) (ordK I J (k + 1)).length (nums .i64 (ordK I J (k + 1))) by rw [HEQ.out]; exact HO20.out)
                    clear hin HHAS HIN HNEW
                    go_wp2
                    go_roundw
                    case rel => exact ⟨k + 1, by go_num, hlt, HO21, HB20⟩
                    case measure => simp [intOf]; omega
                  · have HEQ := Aside0.mk (HNEW.out hin)
                    rw [show decide (o ∈ ordK I J k) = false from decide_eq_false (fun h => hin (HHAS.out.1 h))]
                    clear hin HHAS HIN HNEW
                    go_wp2_with (first
                      | (at_builtin; refine print_append_row (w0 := w14) w14.heap.size rfl _ _ 24 3 .i64 8 rfl Try.underlying24 infoInt (by decide) _ (ordK I J k) [o] _ 1 1 rfl rfl (World.ownsRow.alloc HO20.out _) (reads_lit _ [o] (by simp) _) (below_alloc HB20.out _) (below_alloc HB20.out _).size (by omega) ?_; intro v2 w21 hown hB hg hat; have HO21 := Aside0.mk hown; have HB21 := Aside0.mk hB; clear hown hB hg hat)
                      | fail)
                    have HO22 := Aside0.mk (show w21.ownsRow w14.heap.size 3 1 v2 (ordK I J (k + 1)).length (nums .i64 (ordK I J (k + 1))) by rw [HEQ.out]; exact HO21.out)
                    clear HO21 HO20 HB20 kO2
                    go_roundw
                    case rel => exact ⟨k + 1, by go_num, hlt, HO22, HB21⟩
                    case measure => simp [intOf]; omega
                · obtain rfl : k = J.length := by omega
                  rw [ordK_all I J (Nat.le_refl _)] at HOW hc8 hrd8 hlk ⊢
                  have HRNG := Aside0.mk HS1.out.rng
                  have HBEF := Aside0.mk (show ∀ a b, b < (ordF I J).length → a < b → bef l th E ((ordF I J).getD b 0).toNat ((ordF I J).getD a 0).toNat = false from fun a b hb hab => by
                    have h5 := HS1.out.bef a b hb hab
                    rw [List.getD_eq_getElem?_getD, List.getD_eq_getElem?_getD, List.getElem?_eq_getElem hb, List.getElem?_eq_getElem (show a < (ordF I J).length by omega)]
                    exact h5)
                  have HLAST := Aside0.mk HS1.out.last
                  have hl2 : (ordF I J).length ≤ 120 := by have := HS1.out.len; omega
                  generalize ordF I J = od at HOW hc8 hrd8 hlk HRNG HBEF HLAST hl2 ⊢
                  have HC8 := Aside0.mk (C_int hrd8)
                  obtain ⟨po, hpo⟩ : ∃ po, od.length = po + 1 := ⟨od.length - 1, by omega⟩
                  obtain ⟨ad8, rfl, kz⟩ := C_cell HC8.out po (by omega)
                  have hz' : od[po]'(by omega) = (j : Int) := by
                    have hy' := HLAST.out
                    rw [show od.length - 1 = po by omega, List.getD_eq_getElem?_getD, List.getElem?_eq_getElem (by omega), Option.getD_some] at hy'
                    exact hy'
                  rw [hz'] at kz
                  have hwo : IntKind.i64.wrap ((od.length : Int) - 1) = (po : Int) := by rw [IntKind.wrap_i64]; omega
                  have hpo2 : (po : Int) < (od.length : Int) := by omega
                  have HBZ := Aside0.mk (below_then HB14.out HB14.out.size HBR.out)
                  clear hrd8 HLAST hz' HOW HBR hk hlt hpo
                  rename World => w22
                  go_wp2_with fail
                  go_loopw [17] (fun v17 wr3 => ∃ x : Nat, v17 = .int .i64 (x : Int) ∧ x ≤ od.length ∧ Aside0 (Below w22.heap.size w22 wr3)) (fun v17 _ => od.length - (intOf v17).toNat)
                  case atStart => exact ⟨0, rfl, Nat.zero_le _, ⟨Below.refl _ _⟩⟩
                  case round =>
                    clear kz hwo hpo2
                    obtain ⟨x, rfl, hx, HBX⟩ := hrel
                    by_cases hxl : x < od.length
                    · have z6 : (x : Int) < (od.length : Int) := by omega
                      go_wp2_with fail
                      go_loopw [18] (fun v18 wr4 => ∃ y : Nat, v18 = .int .i64 (y : Int) ∧ x < y ∧ y ≤ od.length ∧ Aside0 (Below w22.heap.size w22 wr4)) (fun v18 _ => od.length - (intOf v18).toNat)
                      case atStart => exact ⟨x + 1, by go_num, by omega, by omega, HBX⟩
                      case round =>
                        clear HBX
                        obtain ⟨y, rfl, hxy, hy, HBX⟩ := hrel
                        by_cases hyl : y < od.length
                        · have z7 : (y : Int) < (od.length : Int) := by omega
                          have hBF := HBEF.out x y hyl hxy
                          rw [List.getD_eq_getElem?_getD, List.getD_eq_getElem?_getD, List.getElem?_eq_getElem hyl, List.getElem?_eq_getElem hxl, Option.getD_some, Option.getD_some] at hBF
                          have hr1 := HRNG.out _ (List.getElem_mem hxl)
                          have hr2 := HRNG.out _ (List.getElem_mem hyl)
                          obtain ⟨a1, e1', hc1'⟩ := C_cell HC8.out x hxl
                          cases e1'
                          obtain ⟨a2, e2', hc2'⟩ := C_cell HC8.out y hyl
                          cases e2'
                          generalize od[x] = ox at hBF hr1 hc1'
                          generalize od[y] = oy at hBF hr2 hc2'
                          have HLX := Aside0.mk (show ∀ w', Below w22.heap.size w22 w' → Sem.run Try.prog (Instr.loadAt 3 (.pointer (some (ad8.add x)))) w' = .ok (.int .i64 ox) w' from fun w' hw => ldA ((hw.cell (World.block_lt_of_cell? w22 _ hc1')).trans hc1'))
                          have HLY := Aside0.mk (show ∀ w', Below w22.heap.size w22 w' → Sem.run Try.prog (Instr.loadAt 3 (.pointer (some (ad8.add y)))) w' = .ok (.int .i64 oy) w' from fun w' hw => ldA ((hw.cell (World.block_lt_of_cell? w22 _ hc2')).trans hc2'))
                          have HCB := Aside0.mk (show ∀ w', Below w22.heap.size w22 w' → Calls Try.prog 19 #[.slice A l.length c, .int .i64 (th : Int), .int .i64 oy, .int .i64 ox] w' fun e w'' => e = .returned (.tuple #[.bool false, .int .i64 0]) ∧ Below w22.heap.size w22 w'' from fun w' hw => by
                            refine (HBE.out w' (below_then HBZ.out HBZ.out.size hw) oy ox hr2 hr1 hBF).mono ?_
                            rintro e w'' ⟨rfl, hbb⟩
                            exact ⟨rfl, below_then hw hw.size hbb⟩)
                          clear hBF hr1 hr2 hc1' hc2'
                          go_wp2_with fail
                          refine wp_val (S := fun w' => Below w22.heap.size w22 w') (by kernel_rfl) (by kernel_rfl) (below_drew1 HBX.out) ?_
                          repeat (first
                            | refine st_indexAddr (vx := .slice (some ad8) od.length c8) (vy := .int .i64 (x : Int)) (v := .pointer (some (ad8.add x))) rfl rfl rfl (fun w' hw => by go_simp; fail_if_success (focus skip)) ?_
                            | refine st_indexAddr (vx := .slice (some ad8) od.length c8) (vy := .int .i64 (y : Int)) (v := .pointer (some (ad8.add y))) rfl rfl rfl (fun w' hw => by go_simp; fail_if_success (focus skip)) ?_
                            | refine st_skip rfl ?_
                            | refine st_move rfl rfl ?_
                            | refine st_assign rfl rfl ?_
                            | refine st_pickT rfl rfl rfl ?_
                            | refine st_pickF rfl rfl rfl ?_
                            | refine st_call (vs := [.slice A l.length c, .int .i64 (th : Int), .int .i64 oy, .int .i64 ox]) rfl Try.func19 rfl rfl (by kernel_rfl) (fun w' hw => HCB.out w' hw) ?_
                            | refine st_bin rfl rfl rfl (fun w' hw => by go_simp; rfl) ?_
                            | refine st_indexAddr rfl rfl rfl (fun w' hw => by go_simp; rfl) ?_
                            | refine st_un rfl rfl rfl rfl (fun w' hw => by go_simp; rfl) ?_
                            | refine st_builtin rfl rfl (fun w' hw => by go_simp; rfl) ?_
                            | refine st_slice rfl rfl rfl rfl rfl (fun w' hw => by go_simp; rfl) ?_
                            | refine st_load (v := .int .i64 ox) rfl rfl (fun w' hw => HLX.out w' hw) ?_
                            | refine st_load (v := .int .i64 oy) rfl rfl (fun w' hw => HLY.out w' hw) ?_)
                          intro w30 hw30
                          have HB30 := Aside0.mk hw30
                          clear hw30 HBX HLX HLY HCB
                          simp only [puts, Act.put, List.setIfInBounds_toArray, List.set_cons_zero, List.set_cons_succ]
                          go_wp2
                          go_roundw
                          case rel => exact ⟨y + 1, by go_num, by omega, hyl, HB30⟩
                          case measure => simp [intOf]; omega
                        · go_wp2
                          go_roundw
                          case rel => exact ⟨x + 1, by go_num, hxl, HBX⟩
                          case measure => simp [intOf]; omega
                    · have HBY := Aside0.mk (below_then HBZ.out HBZ.out.size HBX.out)
                      go_wp2
                      go_roundw
                      case rel => exact ⟨1, rfl, by omega, HBY⟩
                      case measure => simp [intOf]
            · have hf1 : 0 < J.length := HS2.out.fpos
              obtain ⟨pF, hpF⟩ : ∃ pF, J.length = pF + 1 := ⟨J.length - 1, by omega⟩
              have hFl : J.length ≤ 60 := by have := HS2.out.lf; omega
              have hOl : I.length ≤ 60 := by have := HS2.out.lo; omega
              have hwF : IntKind.i64.wrap ((J.length : Int) - 1) = (pF : Int) := by rw [IntKind.wrap_i64]; omega
              have hpF2 : (pF : Int) < (J.length : Int) := by omega
              have HLY := Aside0.mk (show ∀ w', Below W1.heap.size W1 w' → Sem.run Try.prog (Instr.loadAt 3 (.pointer (some ⟨g6, pF, none⟩))) w' = .ok (.int .i64 (j : Int)) w' from fun w' hw => ldA (by
                obtain ⟨a', e', hc'⟩ := C_cell (Kd.C_below HRJ.out hw) pF (by omega)
                cases e'
                rw [add_plain] at hc'
                have hy' := HS2.out.lastF
                rw [show J.length - 1 = pF by omega, List.getD_eq_getElem?_getD, List.getElem?_eq_getElem (by omega), Option.getD_some] at hy'
                rw [hc', hy']))
              clear hpF
              have kf : wr.cell? ⟨gs, 1, none⟩ = some (.slice (some ⟨g6, 0, none⟩) J.length c6) := by rw [blk_cell (blk_below HLIT.out HB.out)]; rfl
              go_wp2_with fail
              refine wp_val (S := fun w' => Below W1.heap.size W1 w') (by kernel_rfl) (by kernel_rfl) (below_drew1 HB.out) ?_
              repeat (first
                | refine st_indexAddr (vx := .slice (some ad) R.length d) (v := .pointer (some (ad.add (q * 2)))) rfl rfl rfl (fun w' hw => by go_simp; fail_if_success (focus skip)) ?_
                | refine st_un (vx := .pointer (some (ad.add (q * 2)))) (v := .pointer (some ⟨(ad.add (q * 2)).block, (ad.add (q * 2)).off + 1, none⟩)) rfl rfl rfl rfl (fun w' hw => by go_simp; fail_if_success (focus skip)) ?_
                | refine st_un (vx := .pointer (some ⟨gp, 0, none⟩)) (v := .pointer (some ⟨gp, 1, none⟩)) rfl rfl rfl rfl (fun w' hw => by go_simp; fail_if_success (focus skip)) ?_
                | refine st_skip rfl ?_
                | refine st_move rfl rfl ?_
                | refine st_assign rfl rfl ?_
                | refine st_pickT rfl rfl rfl ?_
                | refine st_pickF rfl rfl rfl ?_
                | refine st_bin rfl rfl rfl (fun w' hw => by go_simp; rfl) ?_
                | refine st_indexAddr rfl rfl rfl (fun w' hw => by go_simp; rfl) ?_
                | refine st_un rfl rfl rfl rfl (fun w' hw => by go_simp; rfl) ?_
                | refine st_builtin rfl rfl (fun w' hw => by go_simp; rfl) ?_
                | refine st_slice rfl rfl rfl rfl rfl (fun w' hw => by go_simp; rfl) ?_
                | refine st_load (v := .slice (some ⟨g6, 0, none⟩) J.length c6) rfl rfl (fun w' hw => ldV (by rw [blk_cell (blk_below HGP1.out hw)]; rfl)) ?_
                | refine st_load (v := .int .i64 (j : Int)) rfl rfl (fun w' hw => HLJ.out w' hw) ?_)
              intro w13 hw13
              have HB13 := Aside0.mk hw13
              clear hw13 kf HB
              simp only [puts, Act.put, List.setIfInBounds_toArray, List.set_cons_zero, List.set_cons_succ]
              go_wp2_with fail
              refine wp_val (S := fun w' => Below W1.heap.size W1 w') (by kernel_rfl) (by kernel_rfl) (below_drew1 HB13.out) ?_
              repeat (first
                | refine st_indexAddr (vx := .slice (some ad) R.length d) (v := .pointer (some (ad.add (q * 2)))) rfl rfl rfl (fun w' hw => by go_simp; fail_if_success (focus skip)) ?_
                | refine st_un (vx := .pointer (some (ad.add (q * 2)))) (v := .pointer (some ⟨(ad.add (q * 2)).block, (ad.add (q * 2)).off + 1, none⟩)) rfl rfl rfl rfl (fun w' hw => by go_simp; fail_if_success (focus skip)) ?_
                | refine st_indexAddr (vx := .slice (some ⟨g6, 0, none⟩) J.length c6) (v := .pointer (some ⟨g6, pF, none⟩)) rfl rfl rfl (fun w' hw => by go_simp; fail_if_success (focus skip)) ?_
                | refine st_bin (b := .sub) (v := .int .i64 (pF : Int)) rfl rfl rfl (fun w' hw => by go_simp; fail_if_success (focus skip)) ?_
                | refine st_bin (b := .eql) (v := .bool true) rfl rfl rfl (fun w' hw => by go_simp; fail_if_success (focus skip)) ?_
                | refine st_skip rfl ?_
                | refine st_move rfl rfl ?_
                | refine st_assign rfl rfl ?_
                | refine st_pickT rfl rfl rfl ?_
                | refine st_pickF rfl rfl rfl ?_
                | refine st_bin rfl rfl rfl (fun w' hw => by go_simp; rfl) ?_
                | refine st_indexAddr rfl rfl rfl (fun w' hw => by go_simp; rfl) ?_
                | refine st_un rfl rfl rfl rfl (fun w' hw => by go_simp; rfl) ?_
                | refine st_builtin rfl rfl (fun w' hw => by go_simp; rfl) ?_
                | refine st_slice rfl rfl rfl rfl rfl (fun w' hw => by go_simp; rfl) ?_
                | refine st_load (v := .int .i64 (j : Int)) rfl rfl (fun w' hw => HLY.out w' hw) ?_
                | refine st_load (v := .int .i64 (j : Int)) rfl rfl (fun w' hw => HLJ.out w' hw) ?_)
              intro w14 hw14
              have HB14 := Aside0.mk hw14
              clear hw14 HB13
              simp only [puts, Act.put, List.setIfInBounds_toArray, List.set_cons_zero, List.set_cons_succ]
              go_wp2_with fail
              refine wp_val (S := fun w' => Below W1.heap.size W1 w') (by kernel_rfl) (by kernel_rfl) (below_drew1 HB14.out) ?_
              repeat (first
                | refine st_indexAddr (vx := .slice (some ad) R.length d) (v := .pointer (some (ad.add (q * 2)))) rfl rfl rfl (fun w' hw => by go_simp; fail_if_success (focus skip)) ?_
                | refine st_un (vx := .pointer (some (ad.add (q * 2)))) (v := .pointer (some (ad.add (q * 2)))) rfl rfl rfl rfl (fun w' hw => by go_simp; fail_if_success (focus skip)) ?_
                | refine st_un (vx := .pointer (some ⟨gp, 0, none⟩)) (v := .pointer (some ⟨gp, 0, none⟩)) rfl rfl rfl rfl (fun w' hw => by go_simp; fail_if_success (focus skip)) ?_
                | refine st_skip rfl ?_
                | refine st_move rfl rfl ?_
                | refine st_assign rfl rfl ?_
                | refine st_pickT rfl rfl rfl ?_
                | refine st_pickF rfl rfl rfl ?_
                | refine st_bin rfl rfl rfl (fun w' hw => by go_simp; rfl) ?_
                | refine st_indexAddr rfl rfl rfl (fun w' hw => by go_simp; rfl) ?_
                | refine st_un rfl rfl rfl rfl (fun w' hw => by go_simp; rfl) ?_
                | refine st_builtin rfl rfl (fun w' hw => by go_simp; rfl) ?_
                | refine st_slice rfl rfl rfl rfl rfl (fun w' hw => by go_simp; rfl) ?_
                | refine st_load (v := .slice (some ⟨g5, 0, none⟩) I.length c5) rfl rfl (fun w' hw => ldV (by rw [blk_cell (blk_below HGP1.out hw)]; rfl)) ?_
                | refine st_load (v := .int .i64 (i : Int)) rfl rfl (fun w' hw => HLI.out w' hw) ?_)
              intro w15 hw15
              have HB15 := Aside0.mk hw15
              clear hw15 HB14
              simp only [puts, Act.put, List.setIfInBounds_toArray, List.set_cons_zero, List.set_cons_succ]
              have HRF2 := Aside0.mk (reads_of (Kd.C_below (Kd.C_below HRJ.out HB15.out) (below_alloc (Below.refl w15.heap.size w15) (.cells #[] 3))))
              go_wp2_with (first
                | (at_builtin; refine print_append_row (w0 := w15) w15.heap.size rfl _ _ 24 3 .i64 8 rfl Try.underlying24 infoInt (by decide) _ ([] : List Int) J _ J.length c6 rfl rfl (own_lit w15 [] (by simp)) HRF2.out (below_alloc (Below.refl _ _) _) (below_alloc (Below.refl _ _) _).size (by simp; omega) ?_; intro v1 w16 hown hB hg hat; have HO16 := Aside0.mk hown; have HB16 := Aside0.mk hB; clear hown hB hg hat)
                | fail)
              have HOZ := Aside0.mk (show w16.ownsRow w15.heap.size 3 1 v1 (ordK J I 0).length (nums .i64 (ordK J I 0)) by rw [ordK_zero]; exact HO16.out)
              clear HRF2 HO16 hpF2 hwF HLY
              go_loopw [15, 16] (fun v15 v16 wr => ∃ k : Nat, v16 = .int .i64 (k : Int) ∧ k ≤ I.length ∧ Aside0 (wr.ownsRow w15.heap.size 3 1 v15 (ordK J I k).length (nums .i64 (ordK J I k))) ∧ Aside0 (Below w15.heap.size w15 wr)) (fun _ v16 _ => I.length - (intOf v16).toNat)
              case atStart => exact ⟨0, rfl, Nat.zero_le _, HOZ, HB16⟩
              case round =>
                clear HOZ HB16
                obtain ⟨k, rfl, hk, HOW, HBR⟩ := hrel
                obtain ⟨A5, c8, rfl, hc8, hrd8⟩ := own_rd HOW.out
                have hlk := ordK_len J I k
                by_cases hlt : k < I.length
                · have z5 : (k : Int) < (I.length : Int) := by omega
                  have kO : wr.cell? ⟨g5, k, none⟩ = some (.int .i64 I[k]) := by
                    obtain ⟨a', e', hc'⟩ := C_cell (Kd.C_below (Kd.C_below HRI.out HB15.out) (HBR.out.mono (Nat.le_refl _))) k hlt
                    cases e'
                    rw [add_plain] at hc'
                    exact hc'
                  have HHAS := Aside0.mk (ordK_has (F := J) HS2.out.rise hlt)
                  have HIN := Aside0.mk (ordK_in (F := J) hlt)
                  have HNEW := Aside0.mk (ordK_new (F := J) hlt)
                  generalize I[k] = o at kO HHAS HIN HNEW
                  have HC8 := Aside0.mk (C_int hrd8)
                  clear hrd8
                  go_wp2_with fail
                  refine (hasInt_calls wr A5 c8 (ordK J I k) o HC8.out).mono ?_
                  rintro e w20 ⟨rfl, hb20⟩
                  have HO20 := Aside0.mk (HOW.out.kept (gb_below none hb20) (Classical.em _))
                  have HB20 := Aside0.mk (below_then HBR.out HBR.out.size hb20)
                  have kO2 : w20.cell? ⟨g5, k, none⟩ = some (.int .i64 o) := (hb20.cell (World.block_lt_of_cell? wr _ kO)).trans kO
                  clear hb20 HC8 kO HOW HBR
                  by_cases hin : o ∈ J
                  · have HEQ := Aside0.mk (HIN.out hin)
                    rw [show decide (o ∈ ordK J I k) = true from decide_eq_true (HHAS.out.2 hin)]
                    have HO21 := Aside0.mk (show w20.ownsRow w15.heap.size 3 1 (.slice A5 (ordK J I k).length c8) (ordK J I (k + 1)).length (nums .i64 (ordK J I (k + 1))) by rw [HEQ.out]; exact HO20.out)
                    clear hin HHAS HIN HNEW
                    go_wp2
                    go_roundw
                    case rel => exact ⟨k + 1, by go_num, hlt, HO21, HB20⟩
                    case measure => simp [intOf]; omega
                  · have HEQ := Aside0.mk (HNEW.out hin)
                    rw [show decide (o ∈ ordK J I k) = false from decide_eq_false (fun h => hin (HHAS.out.1 h))]
                    clear hin HHAS HIN HNEW
                    go_wp2_with (first
                      | (at_builtin; refine print_append_row (w0 := w15) w15.heap.size rfl _ _ 24 3 .i64 8 rfl Try.underlying24 infoInt (by decide) _ (ordK J I k) [o] _ 1 1 rfl rfl (World.ownsRow.alloc HO20.out _) (reads_lit _ [o] (by simp) _) (below_alloc HB20.out _) (below_alloc HB20.out _).size (by omega) ?_; intro v2 w21 hown hB hg hat; have HO21 := Aside0.mk hown; have HB21 := Aside0.mk hB; clear hown hB hg hat)
                      | fail)
                    have HO22 := Aside0.mk (show w21.ownsRow w15.heap.size 3 1 v2 (ordK J I (k + 1)).length (nums .i64 (ordK J I (k + 1))) by rw [HEQ.out]; exact HO21.out)
                    clear HO21 HO20 HB20 kO2
                    go_roundw
                    case rel => exact ⟨k + 1, by go_num, hlt, HO22, HB21⟩
                    case measure => simp [intOf]; omega
                · obtain rfl : k = I.length := by omega
                  rw [ordK_all J I (Nat.le_refl _)] at HOW hc8 hrd8 hlk ⊢
                  have HRNG := Aside0.mk HS2.out.rng
                  have HBEF := Aside0.mk (show ∀ a b, b < (ordF J I).length → a < b → bef l th E ((ordF J I).getD b 0).toNat ((ordF J I).getD a 0).toNat = false from fun a b hb hab => by
                    have h5 := HS2.out.bef a b hb hab
                    rw [List.getD_eq_getElem?_getD, List.getD_eq_getElem?_getD, List.getElem?_eq_getElem hb, List.getElem?_eq_getElem (show a < (ordF J I).length by omega)]
                    exact h5)
                  have HLAST := Aside0.mk HS2.out.last
                  have hl2 : (ordF J I).length ≤ 120 := by have := HS2.out.len; omega
                  generalize ordF J I = od at HOW hc8 hrd8 hlk HRNG HBEF HLAST hl2 ⊢
                  have HC8 := Aside0.mk (C_int hrd8)
                  obtain ⟨po, hpo⟩ : ∃ po, od.length = po + 1 := ⟨od.length - 1, by omega⟩
                  obtain ⟨ad8, rfl, kz⟩ := C_cell HC8.out po (by omega)
                  have hz' : od[po]'(by omega) = (i : Int) := by
                    have hy' := HLAST.out
                    rw [show od.length - 1 = po by omega, List.getD_eq_getElem?_getD, List.getElem?_eq_getElem (by omega), Option.getD_some] at hy'
                    exact hy'
                  rw [hz'] at kz
                  have hwo : IntKind.i64.wrap ((od.length : Int) - 1) = (po : Int) := by rw [IntKind.wrap_i64]; omega
                  have hpo2 : (po : Int) < (od.length : Int) := by omega
                  have HBZ := Aside0.mk (below_then HB15.out HB15.out.size HBR.out)
                  clear hrd8 HLAST hz' HOW HBR hk hlt hpo
                  rename World => w22
                  go_wp2_with fail
                  go_loopw [17] (fun v17 wr3 => ∃ x : Nat, v17 = .int .i64 (x : Int) ∧ x ≤ od.length ∧ Aside0 (Below w22.heap.size w22 wr3)) (fun v17 _ => od.length - (intOf v17).toNat)
                  case atStart => exact ⟨0, rfl, Nat.zero_le _, ⟨Below.refl _ _⟩⟩
                  case round =>
                    clear kz hwo hpo2
                    obtain ⟨x, rfl, hx, HBX⟩ := hrel
                    by_cases hxl : x < od.length
                    · have z6 : (x : Int) < (od.length : Int) := by omega
                      go_wp2_with fail
                      go_loopw [18] (fun v18 wr4 => ∃ y : Nat, v18 = .int .i64 (y : Int) ∧ x < y ∧ y ≤ od.length ∧ Aside0 (Below w22.heap.size w22 wr4)) (fun v18 _ => od.length - (intOf v18).toNat)
                      case atStart => exact ⟨x + 1, by go_num, by omega, by omega, HBX⟩
                      case round =>
                        clear HBX
                        obtain ⟨y, rfl, hxy, hy, HBX⟩ := hrel
                        by_cases hyl : y < od.length
                        · have z7 : (y : Int) < (od.length : Int) := by omega
                          have hBF := HBEF.out x y hyl hxy
                          rw [List.getD_eq_getElem?_getD, List.getD_eq_getElem?_getD, List.getElem?_eq_getElem hyl, List.getElem?_eq_getElem hxl, Option.getD_some, Option.getD_some] at hBF
                          have hr1 := HRNG.out _ (List.getElem_mem hxl)
                          have hr2 := HRNG.out _ (List.getElem_mem hyl)
                          obtain ⟨a1, e1', hc1'⟩ := C_cell HC8.out x hxl
                          cases e1'
                          obtain ⟨a2, e2', hc2'⟩ := C_cell HC8.out y hyl
                          cases e2'
                          generalize od[x] = ox at hBF hr1 hc1'
                          generalize od[y] = oy at hBF hr2 hc2'
                          have HLX := Aside0.mk (show ∀ w', Below w22.heap.size w22 w' → Sem.run Try.prog (Instr.loadAt 3 (.pointer (some (ad8.add x)))) w' = .ok (.int .i64 ox) w' from fun w' hw => ldA ((hw.cell (World.block_lt_of_cell? w22 _ hc1')).trans hc1'))
                          have HLY := Aside0.mk (show ∀ w', Below w22.heap.size w22 w' → Sem.run Try.prog (Instr.loadAt 3 (.pointer (some (ad8.add y)))) w' = .ok (.int .i64 oy) w' from fun w' hw => ldA ((hw.cell (World.block_lt_of_cell? w22 _ hc2')).trans hc2'))
                          have HCB := Aside0.mk (show ∀ w', Below w22.heap.size w22 w' → Calls Try.prog 19 #[.slice A l.length c, .int .i64 (th : Int), .int .i64 oy, .int .i64 ox] w' fun e w'' => e = .returned (.tuple #[.bool false, .int .i64 0]) ∧ Below w22.heap.size w22 w'' from fun w' hw => by
                            refine (HBE.out w' (below_then HBZ.out HBZ.out.size hw) oy ox hr2 hr1 hBF).mono ?_
                            rintro e w'' ⟨rfl, hbb⟩
                            exact ⟨rfl, below_then hw hw.size hbb⟩)
                          clear hBF hr1 hr2 hc1' hc2'
                          go_wp2_with fail
                          refine wp_val (S := fun w' => Below w22.heap.size w22 w') (by kernel_rfl) (by kernel_rfl) (below_drew1 HBX.out) ?_
                          repeat (first
                            | refine st_indexAddr (vx := .slice (some ad8) od.length c8) (vy := .int .i64 (x : Int)) (v := .pointer (some (ad8.add x))) rfl rfl rfl (fun w' hw => by go_simp; fail_if_success (focus skip)) ?_
                            | refine st_indexAddr (vx := .slice (some ad8) od.length c8) (vy := .int .i64 (y : Int)) (v := .pointer (some (ad8.add y))) rfl rfl rfl (fun w' hw => by go_simp; fail_if_success (focus skip)) ?_
                            | refine st_skip rfl ?_
                            | refine st_move rfl rfl ?_
                            | refine st_assign rfl rfl ?_
                            | refine st_pickT rfl rfl rfl ?_
                            | refine st_pickF rfl rfl rfl ?_
                            | refine st_call (vs := [.slice A l.length c, .int .i64 (th : Int), .int .i64 oy, .int .i64 ox]) rfl Try.func19 rfl rfl (by kernel_rfl) (fun w' hw => HCB.out w' hw) ?_
                            | refine st_bin rfl rfl rfl (fun w' hw => by go_simp; rfl) ?_
                            | refine st_indexAddr rfl rfl rfl (fun w' hw => by go_simp; rfl) ?_
                            | refine st_un rfl rfl rfl rfl (fun w' hw => by go_simp; rfl) ?_
                            | refine st_builtin rfl rfl (fun w' hw => by go_simp; rfl) ?_
                            | refine st_slice rfl rfl rfl rfl rfl (fun w' hw => by go_simp; rfl) ?_
                            | refine st_load (v := .int .i64 ox) rfl rfl (fun w' hw => HLX.out w' hw) ?_
                            | refine st_load (v := .int .i64 oy) rfl rfl (fun w' hw => HLY.out w' hw) ?_)
                          intro w30 hw30
                          have HB30 := Aside0.mk hw30
                          clear hw30 HBX HLX HLY HCB
                          simp only [puts, Act.put, List.setIfInBounds_toArray, List.set_cons_zero, List.set_cons_succ]
                          go_wp2
                          go_roundw
                          case rel => exact ⟨y + 1, by go_num, by omega, hyl, HB30⟩
                          case measure => simp [intOf]; omega
                        · go_wp2
                          go_roundw
                          case rel => exact ⟨x + 1, by go_num, hxl, HBX⟩
                          case measure => simp [intOf]; omega
                    · have HBY := Aside0.mk (below_then HBZ.out HBZ.out.size HBX.out)
                      go_wp2
                      go_roundw
                      case rel => exact ⟨2, rfl, by omega, HBY⟩
                      case measure => simp [intOf]
            · have HB9 := Aside0.mk (below_then HBW.out HBW.out.size HB.out)
              go_wp2_with fail
              refine (rbegun_calls _).mono ?_
              rintro e w9 ⟨rfl, hb9⟩
              have HBF := Aside0.mk (below_then HB9.out HB9.out.size hb9)
              clear hb9
              go_wp2
              exact bodyPost_ret (v := .bool true) (by simp [results, Try.f10, go_sem]) rfl ⟨rfl, HBF.out⟩
        · have hd := below_drew1 (Below.refl w3.heap.size w3)
          refine se_move rfl rfl rfl ?_
          refine se_move rfl rfl rfl ?_
          refine se_move rfl rfl rfl ?_
          refine se_move rfl rfl rfl ?_
          refine se_indexAddr (v := .pointer (some (ad.add (q * 2)))) rfl rfl rfl rfl (fun w' hw => by go_simp) ?_
          refine se_un (v := .pointer (some (ad.add (q * 2)))) rfl rfl rfl rfl rfl (fun w' hw => by go_simp) ?_
          refine se_load (v := .int .i64 (i : Int)) rfl rfl rfl (fun w' hw => HL0.out w' hw) ?_
          refine se_move rfl rfl rfl ?_
          refine se_move rfl rfl rfl ?_
          refine se_indexAddr (v := .pointer (some (ad.add (q * 2)))) rfl rfl rfl rfl (fun w' hw => by go_simp) ?_
          refine se_un (v := .pointer (some ⟨(ad.add (q * 2)).block, (ad.add (q * 2)).off + 1, none⟩)) rfl rfl rfl rfl rfl (fun w' hw => by go_simp) ?_
          refine se_load (v := .int .i64 (j : Int)) rfl rfl rfl (fun w' hw => HL1.out w' hw) ?_
          refine ⟨?_, ?_⟩
          · refine se_call (vs := [.slice A l.length c, .int .i64 (th : Int), .int .i64 (i : Int), .int .i64 (j : Int)]) rfl rfl Try.func26 (by kernel_rfl) rfl (by kernel_rfl) ?_
            refine (HPR.out _ hd).mono ?_
            rintro e w4 ⟨hb, g5, c5, g6, c6, rfl, hO1, hO2⟩
            have hb4 := below_then hd hd.size hb
            refine ⟨_, rfl, hb4, ?_⟩
            refine se_move rfl rfl rfl ?_
            refine se_un rfl rfl rfl rfl rfl (fun w' hw => by go_simp; with_reducible rfl) ?_
            refine se_un rfl rfl rfl rfl rfl (fun w' hw => by go_simp; with_reducible rfl) ?_
            refine se_alloc rfl rfl (run_alloc55 _) (below_alloc hb4 _) ?_
            have hn := heap_alloc_new w4 (.cells #[.slice none 0 0, .slice none 0 0] 55)
            have hb5 := two_belowG hb4.size (below_alloc hb4 (.cells #[.slice none 0 0, .slice none 0 0] 55)) (.slice (some ⟨g5, 0, none⟩) I.length c5) (.slice (some ⟨g6, 0, none⟩) J.length c6)
            refine se_store rfl rfl rfl rfl (run_store55 _ _ _ _ _ _ _ _ _ _ hn) hb5 ?_
            refine se_assign rfl rfl rfl ?_
            exact ⟨_, g5, c5, g6, c6, rfl, hb5, hb4.size, two_put hn _ _, two_own hn (World.ownsRow.alloc (Lk.own_lower hO1 hd.size) _) _ _, two_own hn (World.ownsRow.alloc (Lk.own_lower hO2 hd.size) _) _ _⟩
          · refine se_alloc rfl rfl (run_alloc55 _) (below_alloc hd _) ?_
            have hn := heap_alloc_new w3.drew (.cells #[.slice none 0 0, .slice none 0 0] 55)
            have hda := below_alloc hd (.cells #[.slice none 0 0, .slice none 0 0] 55)
            refine se_call (vs := [.slice A l.length c, .int .i64 (th : Int), .int .i64 (i : Int), .int .i64 (j : Int)]) rfl rfl Try.func26 (by kernel_rfl) rfl (by kernel_rfl) ?_
            refine (HPR.out _ hda).mono ?_
            rintro e w4 ⟨hb, g5, c5, g6, c6, rfl, hO1, hO2⟩
            have hb4 := below_then hda hda.size hb
            have hn4 := blk_below hn hb
            refine ⟨_, rfl, hb4, ?_⟩
            refine se_move rfl rfl rfl ?_
            refine se_un rfl rfl rfl rfl rfl (fun w' hw => by go_simp; with_reducible rfl) ?_
            refine se_un rfl rfl rfl rfl rfl (fun w' hw => by go_simp; with_reducible rfl) ?_
            have hb5 := two_belowG hd.size hb4 (.slice (some ⟨g5, 0, none⟩) I.length c5) (.slice (some ⟨g6, 0, none⟩) J.length c6)
            refine se_store rfl rfl rfl rfl (run_store55 _ _ _ _ _ _ _ _ _ _ hn4) hb5 ?_
            refine se_assign rfl rfl rfl ?_
            exact ⟨_, g5, c5, g6, c6, puts_cons _ _ ((puts_cons _ _ (puts_cons _ _ (puts_cons _ _ (puts_swap _ (by decide) _ _ _)))).trans ((puts_cons _ _ (puts_cons _ _ (puts_swap _ (by decide) _ _ _))).trans ((puts_cons _ _ (puts_swap _ (by decide) _ _ _)).trans (puts_swap _ (by decide) _ _ _)))), hb5, hd.size, two_put hn4 _ _, two_own hn4 (Lk.own_lower hO1 hda.size) _ _, two_own hn4 (Lk.own_lower hO2 hda.size) _ _⟩
  · have HNE := Aside0.mk hq
    obtain ⟨q, hqq⟩ : ∃ q, q = chkF l T := ⟨_, rfl⟩
    rw [← hqq] at hq ⊢
    have d1 : (q != 0) = true := bne_iff_ne.2 hq
    have d2 : (q == 0) = false := beq_eq_false_iff_ne.2 hq
    obtain rfl := hv3' (by rw [← hqq]; exact hq)
    clear hqq hq hv3 hv3'
    go_wp2_with fail
    refine (rbegun_calls _).mono ?_
    rintro e w5 ⟨rfl, hb5⟩
    have HB5 := Aside0.mk (below_then HB3.out HB3.out.size hb5)
    clear hb5
    go_wp2
    exact bodyPost_ret (v := .bool true) (by simp [results, Try.f10, go_sem]) rfl ⟨rfl, HB5.out⟩
end Go.Proofs.Ytginlhengebgaaa.Ck
