/- PagesBack: its walk. -/
import Derived.Test.YtblalidpeccabacPageStay
namespace Go.Proofs.Ytblalidpeccabac.Pg
open Go Go.RowKit Go.Lib Go.Proofs.YtblalidpeccabacW.PrintWords Go.Proofs.YtblalidpeccabacW.PrintLast Go.Proofs.YtblalidpeccabacW.PrintMore Go.Proofs.Ytblalidpeccabac.PPagesBack Go.Proofs.Ytblalidpeccabac.Bs Go.Proofs.Ytblalidpeccabac.RegionVal
set_option linter.unusedVariables false
set_option linter.unusedSimpArgs false

theorem setF_not {s : St} {x t v : Int} (h : (setF s x t v).2.2 ≠ 0) : (setF s x t v).1 = ⟨[], [], []⟩ ∧ (setF s x t v).2.1 = 0 := by
  unfold setF at *
  split at h
  · rename_i h1
    rw [if_pos h1]
    simp only at h ⊢
    split at h
    · rename_i h2
      rw [if_pos h2]
      exact ⟨rfl, rfl⟩
    · exact absurd rfl h
  · rename_i h1
    rw [if_neg h1]
    exact ⟨rfl, rfl⟩
section
attribute [local go_sem high] eqA38

set_option maxHeartbeats 16000000 in
set_option maxRecDepth 100000 in
theorem pagesBack_walk (w : World) (A : Option Addr) (a : Nat) (B : Option Addr) (b : Nat) (C : Option Addr) (c : Nat) (s : St) (hL : Lies w A a B b C c s) (x t v : Int) :
    Calls Try.prog 5 #[.agg #[.slice A s.ps.length a, .slice B s.us.length b, .slice C s.rs.length c], .int .i64 x, .int .i64 t, .int .i64 v] w fun e w' => e = .returned (.bool true) ∧ Below w.heap.size w w' := by
  have n1 := heap_alloc_new w (.cells #[.slice A s.ps.length a, .slice B s.us.length b, .slice C s.rs.length c] 26)
  have hb1 : Below w.heap.size w (w.alloc (.cells #[.slice A s.ps.length a, .slice B s.us.length b, .slice C s.rs.length c] 26)) := below_alloc (Below.refl _ _) _
  obtain ⟨W1, hW1⟩ : ∃ W1, W1 = w.alloc (.cells #[.slice A s.ps.length a, .slice B s.us.length b, .slice C s.rs.length c] 26) := ⟨_, rfl⟩
  rw [← hW1] at n1 hb1
  have HX := Aside0.mk n1
  have HB := Aside0.mk hb1
  have HL := Aside0.mk (hL.below hb1)
  have H4 := Aside0.mk hL.four
  have HWW := Aside0.mk hW1
  clear hL n1 hb1 hW1
  go_enter Try.func5, Try.ntmps5
  go_upto_region 1 with (fail)
  rw [← HWW.out]
  clear HWW
  go_wp2_with fail
  refine (begun_calls W1).mono ?_
  rintro e w2 ⟨rfl, hb⟩
  have HX := Aside0.mk (blk_below HX.out hb)
  have HL := Aside0.mk (HL.out.below hb)
  have HB := Aside0.mk (below_then HB.out HB.out.size hb)
  clear hb
  have d0 := blk_cell HX.out 0
  have d1 := blk_cell HX.out 1
  have d2 := blk_cell HX.out 2
  simp only [List.getElem?_toArray, List.getElem?_cons_zero, List.getElem?_cons_succ] at d0 d1 d2
  have HSET := Aside0.mk (set_calls w2 A a B b C c s HL.out x t v)
  go_wp2_with fail
  refine HSET.out.mono ?_
  rintro e w3 ⟨V, rfl, hG, hb⟩
  have HSO := Aside0.mk (fun h => setF_ok H4.out (x := x) (u := t) (v := v) h)
  have HSN := Aside0.mk (fun h => setF_not (s := s) (x := x) (t := t) (v := v) h)
  generalize setF s x t v = oo at hG HSO HSN ⊢
  obtain ⟨T, n, e⟩ := oo
  obtain ⟨A2, a2, B2, b2, C2, c2, rfl, hL2⟩ := hG
  have HX := Aside0.mk (blk_below HX.out hb)
  have HL := Aside0.mk (HL.out.below hb)
  have HB := Aside0.mk (below_then HB.out HB.out.size hb)
  have n4 := heap_alloc_new w3 (.cells #[.slice A2 T.ps.length a2, .slice B2 T.us.length b2, .slice C2 T.rs.length c2] 26)
  have hb4 : Below w3.heap.size w3 (w3.alloc (.cells #[.slice A2 T.ps.length a2, .slice B2 T.us.length b2, .slice C2 T.rs.length c2] 26)) := below_alloc (Below.refl _ _) _
  obtain ⟨W4, hW4⟩ : ∃ W4, W4 = w3.alloc (.cells #[.slice A2 T.ps.length a2, .slice B2 T.us.length b2, .slice C2 T.rs.length c2] 26) := ⟨_, rfl⟩
  obtain ⟨g, hg⟩ : ∃ g, g = w3.heap.size := ⟨_, rfl⟩
  rw [← hW4] at n4 hb4
  rw [← hg] at n4
  have HY := Aside0.mk n4
  have HX := Aside0.mk (blk_below HX.out hb4)
  have HL := Aside0.mk (HL.out.below hb4)
  have HM := Aside0.mk (hL2.below hb4)
  have HB := Aside0.mk (below_then HB.out HB.out.size hb4)
  have HWW := Aside0.mk hW4
  have HGG := Aside0.mk hg
  clear hL2 hb n4 hb4 hW4 hg HSET d0 d1 d2
  simp only
  go_upto_region 4 with (fail)
  rw [← HWW.out, ← HGG.out]
  clear HWW HGG
  by_cases he : e = 0
  · obtain ⟨y, u, k, r, hx, ht, hn, hI⟩ := HSO.out he
    try simp only at hn
    try simp only at hI
    subst he hn
    have HI := Aside0.mk hI
    have d0 := blk_cell HY.out 0
    have d1 := blk_cell HY.out 1
    have d2 := blk_cell HY.out 2
    simp only [List.getElem?_toArray, List.getElem?_cons_zero, List.getElem?_cons_succ] at d0 d1 d2
    have hdr := drop_calls W4 A2 a2 B2 b2 C2 c2 T HM.out (k : Int)
    rw [dropF_of hI.there] at hdr
    have HDR := Aside0.mk hdr
    clear hdr hI HSO HSN hx ht
    go_wp2_with fail
    refine HDR.out.mono ?_
    rintro e' z3 ⟨V, rfl, hG, hb⟩
    obtain ⟨D, hD⟩ : ∃ D, D = dropSt T k := ⟨_, rfl⟩
    try simp only at hG
    rw [← hD] at hG
    obtain ⟨A3, a3, B3, b3, C3, c3, rfl, hL2⟩ := hG
    have HX := Aside0.mk (blk_below HX.out hb)
    have HL := Aside0.mk (HL.out.below hb)
    have HB := Aside0.mk (below_then HB.out HB.out.size hb)
    have n4 := heap_alloc_new z3 (.cells #[.slice A3 D.ps.length a3, .slice B3 D.us.length b3, .slice C3 D.rs.length c3] 26)
    have hb4 : Below z3.heap.size z3 (z3.alloc (.cells #[.slice A3 D.ps.length a3, .slice B3 D.us.length b3, .slice C3 D.rs.length c3] 26)) := below_alloc (Below.refl _ _) _
    obtain ⟨Z, hZ⟩ : ∃ Z, Z = z3.alloc (.cells #[.slice A3 D.ps.length a3, .slice B3 D.us.length b3, .slice C3 D.rs.length c3] 26) := ⟨_, rfl⟩
    obtain ⟨gd, hg⟩ : ∃ g, g = z3.heap.size := ⟨_, rfl⟩
    rw [← hZ] at n4 hb4
    rw [← hg] at n4
    have HD := Aside0.mk n4
    have HX := Aside0.mk (blk_below HX.out hb4)
    have HL := Aside0.mk (HL.out.below hb4)
    have HM := Aside0.mk (hL2.below hb4)
    have HB := Aside0.mk (below_then HB.out HB.out.size hb4)
    have HWW := Aside0.mk hZ
    have HGG := Aside0.mk hg
    have hlo := HI.out.lo
    have hhi := HI.out.hi
    have hdl : D.ps.length = T.ps.length := by rw [hD]; exact wipe_len _ _
    have hdu : D.us.length = D.ps.length := by rw [hdl, hD]; exact usesL_length _ _
    have hsu : s.us.length = s.ps.length := by rw [HI.out.was.U, usesL_length]
    have hl1 : s.ps.length ≤ D.ps.length := by omega
    have hl2 : D.ps.length ≤ s.ps.length + 1 := by omega
    have hl3 := HI.out.was.n
    have HBK := Aside0.mk (show ∀ i, i < D.ps.length → D.us.getD i 0 = (if i < s.ps.length then s.us.getD i 0 else 0) ∧ (i < s.ps.length → D.ps.getD i [] = s.ps.getD i []) from fun i hi => by rw [hD]; exact HI.out.back i (by omega))
    have HRW := Aside0.mk (show ∀ i, i < s.rs.length → D.rs.getD i [] = s.rs.getD i [] from fun i hi => by rw [hD]; exact HI.out.rows i hi)
    have HRL := Aside0.mk (show s.rs.length ≤ D.rs.length by rw [hD]; show s.rs.length ≤ (T.rs.set k []).length; rw [List.length_set]; exact HI.out.rt.le)
    have HML := Aside0.mk HI.out.was.m
    have HDU := Aside0.mk hdu
    have HSU := Aside0.mk hsu
    clear hL2 hb n4 hb4 hZ hg HDR d0 d1 d2 hdl hdu hsu hlo hhi HI hD HY
    try simp only
    go_upto_region 7 with (fail)
    rw [← HWW.out, ← HGG.out]
    clear HWW HGG
    have d0 := blk_cell HD.out 0
    have c0 := blk_cell HX.out 0
    simp only [List.getElem?_toArray, List.getElem?_cons_zero, List.getElem?_cons_succ] at d0 c0
    have q0 : decide (D.ps.length < s.ps.length) = false := decide_eq_false (by omega)
    have q1 : decide ((s.ps.length : Int) + 1 < (D.ps.length : Int)) = false := decide_eq_false (by omega)
    have hw : IntKind.i64.wrap ((s.ps.length : Int) + 1) = (s.ps.length : Int) + 1 := by rw [IntKind.wrap_i64]; omega
    go_wp2_with fail
    clear q0 q1 hw d0 c0
    have HF0 := Aside0.mk (show ∀ w', Below Z.heap.size Z w' → w'.cell? ⟨w.heap.size, 0, none⟩ = some (.slice A s.ps.length a) from fun w' hw => blk_cell (blk_below HX.out hw) 0)
    have HF1 := Aside0.mk (show ∀ w', Below Z.heap.size Z w' → w'.cell? ⟨w.heap.size, 1, none⟩ = some (.slice B s.us.length b) from fun w' hw => blk_cell (blk_below HX.out hw) 1)
    have HF2 := Aside0.mk (show ∀ w', Below Z.heap.size Z w' → w'.cell? ⟨w.heap.size, 2, none⟩ = some (.slice C s.rs.length c) from fun w' hw => blk_cell (blk_below HX.out hw) 2)
    have HG0 := Aside0.mk (show ∀ w', Below Z.heap.size Z w' → w'.cell? ⟨gd, 0, none⟩ = some (.slice A3 D.ps.length a3) from fun w' hw => blk_cell (blk_below HD.out hw) 0)
    have HG1 := Aside0.mk (show ∀ w', Below Z.heap.size Z w' → w'.cell? ⟨gd, 1, none⟩ = some (.slice B3 D.us.length b3) from fun w' hw => blk_cell (blk_below HD.out hw) 1)
    have HG2 := Aside0.mk (show ∀ w', Below Z.heap.size Z w' → w'.cell? ⟨gd, 2, none⟩ = some (.slice C3 D.rs.length c3) from fun w' hw => blk_cell (blk_below HD.out hw) 2)
    go_loopw [14] (fun i wr => ∃ i0 : Nat, i0 ≤ D.ps.length ∧ i = .int .i64 (i0 : Int) ∧ Aside0 (Below Z.heap.size Z wr)) (fun i _ => D.ps.length - (intOf i).toNat)
    case atStart => exact ⟨0, Nat.zero_le _, rfl, ⟨Below.refl _ _⟩⟩
    case round =>
      obtain ⟨i, hil, rfl, HZ⟩ := hrel
      have d0 := HG0.out wr HZ.out
      by_cases hlt : i < D.ps.length
      · have hi1 : (i : Int) < (D.ps.length : Int) := by omega
        have hdu : i < D.us.length := by rw [HDU.out]; exact hlt
        obtain ⟨h1, h2⟩ := HBK.out i hlt
        obtain ⟨ad, rfl, e1⟩ := at_I HM.out.U i hdu
        rw [List.getD_eq_getElem?_getD, List.getElem?_eq_getElem hdu, Option.getD_some] at h1
        rw [h1] at e1
        have HE1 := Aside0.mk (show ∀ w', Below Z.heap.size Z w' → w'.cell? (ad.add i) = some (.int .i64 (if i < s.ps.length then s.us.getD i 0 else 0)) from fun w' hw => (hw.cell (World.block_lt_of_cell? Z _ e1)).trans e1)
        have hdi : (i : Int) < (D.us.length : Int) := by omega
        clear h1 e1 hdu
        by_cases hls : i < s.ps.length
        · have hi2 : (i : Int) < (s.ps.length : Int) := by omega
          have hsu : i < s.us.length := by rw [HSU.out]; exact hls
          have hsi : (i : Int) < (s.us.length : Int) := by omega
          rw [if_pos hls] at HE1
          obtain ⟨sa, rfl, e1⟩ := at_I HL.out.U i hsu
          have h3 := h2 hls
          rw [List.getD_eq_getElem?_getD, List.getElem?_eq_getElem hsu, Option.getD_some] at HE1
          rw [List.getD_eq_getElem?_getD, List.getElem?_eq_getElem hlt, List.getD_eq_getElem?_getD, List.getElem?_eq_getElem hls] at h3
          simp only [Option.getD_some] at h3
          obtain ⟨pd, p0, p1, p2, p3, rfl, hp, f0, f1, f2, f3⟩ := at_P HM.out.P i hlt
          obtain ⟨pe, q0, q1, q2, q3, rfl, hq, g0, g1, g2, g3⟩ := at_P HL.out.P i hls
          rw [h3, hq] at hp
          injection hp with r0 hp
          injection hp with r1 hp
          injection hp with r2 hp
          injection hp with r3 hp
          subst r0 r1 r2 r3
          have HE2 := Aside0.mk (show ∀ w', Below Z.heap.size Z w' → w'.cell? (sa.add i) = some (.int .i64 s.us[i]) from fun w' hw => (hw.cell (World.block_lt_of_cell? Z _ e1)).trans e1)
          have HP0 := Aside0.mk (show ∀ w', Below Z.heap.size Z w' → w'.cell? (pd.add (i * 4)) = some (.int .i64 q0) from fun w' hw => (hw.cell (World.block_lt_of_cell? Z _ f0)).trans f0)
          have HP1 := Aside0.mk (show ∀ w', Below Z.heap.size Z w' → w'.cell? ⟨(pd.add (i * 4)).block, (pd.add (i * 4)).off + 1, none⟩ = some (.int .i64 q1) from fun w' hw => (hw.cell (World.block_lt_of_cell? Z _ f1)).trans f1)
          have HP2 := Aside0.mk (show ∀ w', Below Z.heap.size Z w' → w'.cell? ⟨(pd.add (i * 4)).block, (pd.add (i * 4)).off + 2, none⟩ = some (.int .i64 q2) from fun w' hw => (hw.cell (World.block_lt_of_cell? Z _ f2)).trans f2)
          have HP3 := Aside0.mk (show ∀ w', Below Z.heap.size Z w' → w'.cell? ⟨(pd.add (i * 4)).block, (pd.add (i * 4)).off + 3, none⟩ = some (.int .i64 q3) from fun w' hw => (hw.cell (World.block_lt_of_cell? Z _ f3)).trans f3)
          have HQ0 := Aside0.mk (show ∀ w', Below Z.heap.size Z w' → w'.cell? (pe.add (i * 4)) = some (.int .i64 q0) from fun w' hw => (hw.cell (World.block_lt_of_cell? Z _ g0)).trans g0)
          have HQ1 := Aside0.mk (show ∀ w', Below Z.heap.size Z w' → w'.cell? ⟨(pe.add (i * 4)).block, (pe.add (i * 4)).off + 1, none⟩ = some (.int .i64 q1) from fun w' hw => (hw.cell (World.block_lt_of_cell? Z _ g1)).trans g1)
          have HQ2 := Aside0.mk (show ∀ w', Below Z.heap.size Z w' → w'.cell? ⟨(pe.add (i * 4)).block, (pe.add (i * 4)).off + 2, none⟩ = some (.int .i64 q2) from fun w' hw => (hw.cell (World.block_lt_of_cell? Z _ g2)).trans g2)
          have HQ3 := Aside0.mk (show ∀ w', Below Z.heap.size Z w' → w'.cell? ⟨(pe.add (i * 4)).block, (pe.add (i * 4)).off + 3, none⟩ = some (.int .i64 q3) from fun w' hw => (hw.cell (World.block_lt_of_cell? Z _ g3)).trans g3)
          generalize s.us[i] = us at HE1 HE2
          clear f0 f1 f2 f3 g0 g1 g2 g3 hp hq h3 h2 e1
          go_wp2_with fail
          refine wp_val (S := fun w' => Below Z.heap.size Z w') (by kernel_rfl) (by kernel_rfl) (below_drew HZ.out) ?_
          repeat (first
            | refine st_skip rfl ?_
            | refine st_move rfl rfl ?_
            | refine st_assign rfl rfl ?_
            | refine st_pickT rfl rfl rfl ?_
            | refine st_pickF rfl rfl rfl ?_
            | refine st_bin rfl rfl rfl (fun w' hw => by go_simp; rfl) ?_
            | refine st_indexAddr rfl rfl rfl (fun w' hw => by go_simp; rfl) ?_
            | refine st_un rfl rfl rfl rfl (fun w' hw => by go_simp; rfl) ?_
            | refine st_builtin rfl rfl (fun w' hw => by go_simp; rfl) ?_
            | refine st_slice rfl rfl rfl rfl rfl (fun w' hw => by go_simp; rfl) ?_
            | refine st_un rfl rfl rfl rfl (fun w' hw => by have x1 := HF0.out w' hw; go_simp; rfl) ?_
            | refine st_un rfl rfl rfl rfl (fun w' hw => by have x1 := HF1.out w' hw; go_simp; rfl) ?_
            | refine st_un rfl rfl rfl rfl (fun w' hw => by have x1 := HG0.out w' hw; go_simp; rfl) ?_
            | refine st_un rfl rfl rfl rfl (fun w' hw => by have x1 := HG1.out w' hw; go_simp; rfl) ?_
            | refine st_un rfl rfl rfl rfl (fun w' hw => by have x1 := HE1.out w' hw; go_simp; rfl) ?_
            | refine st_un rfl rfl rfl rfl (fun w' hw => by have x1 := HE2.out w' hw; go_simp; rfl) ?_
            | refine st_un rfl rfl rfl rfl (fun w' hw => by have k0 := HP0.out w' hw; have k1 := HP1.out w' hw; have k2 := HP2.out w' hw; have k3 := HP3.out w' hw; go_simp; rfl) ?_
            | refine st_un rfl rfl rfl rfl (fun w' hw => by have k0 := HQ0.out w' hw; have k1 := HQ1.out w' hw; have k2 := HQ2.out w' hw; have k3 := HQ3.out w' hw; go_simp; rfl) ?_)
          rw [show decide (s.ps.length ≤ i) = false from decide_eq_false (by omega)]
          repeat (first
            | refine st_skip rfl ?_
            | refine st_move rfl rfl ?_
            | refine st_assign rfl rfl ?_
            | refine st_pickT rfl rfl rfl ?_
            | refine st_pickF rfl rfl rfl ?_
            | refine st_bin rfl rfl rfl (fun w' hw => by go_simp; rfl) ?_
            | refine st_indexAddr rfl rfl rfl (fun w' hw => by go_simp; rfl) ?_
            | refine st_un rfl rfl rfl rfl (fun w' hw => by go_simp; rfl) ?_
            | refine st_builtin rfl rfl (fun w' hw => by go_simp; rfl) ?_
            | refine st_slice rfl rfl rfl rfl rfl (fun w' hw => by go_simp; rfl) ?_)
          intro w5 hw5
          simp only [ext, puts, Act.put, List.setIfInBounds_toArray, List.set_cons_zero, List.set_cons_succ]
          have HZ5 := Aside0.mk hw5
          clear hw5
          go_wp2
          go_roundw
          case rel => exact ⟨i + 1, by omega, by go_num, HZ5⟩
          case measure => simp [intOf]; omega
        · rw [if_neg hls] at HE1
          have hi2 : ¬ ((i : Int) < (s.ps.length : Int)) := by omega
          go_wp2_with fail
          refine wp_val (S := fun w' => Below Z.heap.size Z w') (by kernel_rfl) (by kernel_rfl) (below_drew HZ.out) ?_
          repeat (first
            | refine st_skip rfl ?_
            | refine st_move rfl rfl ?_
            | refine st_assign rfl rfl ?_
            | refine st_pickT rfl rfl rfl ?_
            | refine st_pickF rfl rfl rfl ?_
            | refine st_bin rfl rfl rfl (fun w' hw => by go_simp; rfl) ?_
            | refine st_indexAddr rfl rfl rfl (fun w' hw => by go_simp; rfl) ?_
            | refine st_un rfl rfl rfl rfl (fun w' hw => by go_simp; rfl) ?_
            | refine st_builtin rfl rfl (fun w' hw => by go_simp; rfl) ?_
            | refine st_slice rfl rfl rfl rfl rfl (fun w' hw => by go_simp; rfl) ?_
            | refine st_un rfl rfl rfl rfl (fun w' hw => by have x1 := HF0.out w' hw; go_simp; rfl) ?_
            | refine st_un rfl rfl rfl rfl (fun w' hw => by have x1 := HF1.out w' hw; go_simp; rfl) ?_
            | refine st_un rfl rfl rfl rfl (fun w' hw => by have x1 := HG0.out w' hw; go_simp; rfl) ?_
            | refine st_un rfl rfl rfl rfl (fun w' hw => by have x1 := HG1.out w' hw; go_simp; rfl) ?_
            | refine st_un rfl rfl rfl rfl (fun w' hw => by have x1 := HE1.out w' hw; go_simp; rfl) ?_)
          intro w5 hw5
          simp only [ext, puts, Act.put, List.setIfInBounds_toArray, List.set_cons_zero, List.set_cons_succ]
          have HZ5 := Aside0.mk hw5
          clear hw5
          go_wp2
          go_roundw
          case rel => exact ⟨i + 1, by omega, by go_num, HZ5⟩
          case measure => simp [intOf]; omega
      · obtain rfl : i = D.ps.length := by omega
        go_wp2_with fail
        clear d0 HG0 HG1 HF0 HF1
        have hm40 := HML.out
        go_loopw [15] (fun i wr' => ∃ i0 : Nat, i0 ≤ s.rs.length ∧ i = .int .i64 (i0 : Int) ∧ Aside0 (Below Z.heap.size Z wr')) (fun i _ => s.rs.length - (intOf i).toNat)
        case atStart => exact ⟨0, Nat.zero_le _, rfl, HZ⟩
        case round =>
          obtain ⟨i, hil, rfl, HZ⟩ := hrel
          rename_i wr' _
          have d0 := HF2.out _ HZ.out
          by_cases hlt : i < s.rs.length
          · have hi1 : (i : Int) < (s.rs.length : Int) := by omega
            have hld : i < D.rs.length := by have := HRL.out; omega
            have hi2 : (i : Int) < (D.rs.length : Int) := by omega
            have heq := HRW.out i hlt
            rw [List.getD_eq_getElem?_getD, List.getElem?_eq_getElem hld, List.getD_eq_getElem?_getD, List.getElem?_eq_getElem hlt] at heq
            simp only [Option.getD_some] at heq
            obtain ⟨ad, A4, c4, rfl, e1, hc4, hC4⟩ := at_R HM.out.R i hld
            obtain ⟨ae, A5, c5, rfl, e2, hc5, hC5⟩ := at_R HL.out.R i hlt
            rw [heq] at e1 hc4 hC4
            generalize s.rs[i] = l at e1 e2 hc4 hc5 hC4 hC5
            have HE1 := Aside0.mk (show ∀ w', Below Z.heap.size Z w' → w'.cell? (ad.add i) = some (.slice A4 l.length c4) from fun w' hw => (hw.cell (World.block_lt_of_cell? Z _ e1)).trans e1)
            have HE2 := Aside0.mk (show ∀ w', Below Z.heap.size Z w' → w'.cell? (ae.add i) = some (.slice A5 l.length c5) from fun w' hw => (hw.cell (World.block_lt_of_cell? Z _ e2)).trans e2)
            have HSM := Aside0.mk (show ∀ w', Below Z.heap.size Z w' → Calls Try.prog 15 #[.slice A4 l.length c4, .slice A5 l.length c5] w' fun e w2 => e = .returned (.bool true) ∧ Below w'.heap.size w' w2 from fun w' hw => by
              have h := same_calls w' A4 c4 l A5 c5 l (reads_of (Kd.C_below hC4 hw)) (reads_of (Kd.C_below hC5 hw))
              rw [decide_eq_true rfl] at h
              exact h)
            clear heq e1 e2 hc4 hc5 hC4 hC5
            go_wp2_with fail
            refine wp_eff (S := fun w' => Below Z.heap.size Z w') [(0, false), (1, false), (2, false), (3, false), (4, false), (5, false), (6, false), (7, false), (8, false), (9, false), (10, true), (11, false)] (by kernel_rfl) (by kernel_rfl) (below_drew HZ.out) (fun _ _ d _ _ h => by cases d <;> exact h) ?_
            refine se_un rfl rfl rfl rfl rfl (fun w' hw => by go_simp; with_reducible rfl) ?_
            refine se_un rfl rfl rfl rfl rfl (fun w' hw => by have x := HG2.out w' hw; go_simp; with_reducible rfl) ?_
            refine se_move rfl rfl rfl ?_
            refine se_indexAddr rfl rfl rfl rfl (fun w' hw => by go_simp; with_reducible rfl) ?_
            refine se_un rfl rfl rfl rfl rfl (fun w' hw => by have x := HE1.out w' hw; go_simp; with_reducible rfl) ?_
            refine se_un rfl rfl rfl rfl rfl (fun w' hw => by go_simp; with_reducible rfl) ?_
            refine se_un rfl rfl rfl rfl rfl (fun w' hw => by have x := HF2.out w' hw; go_simp; with_reducible rfl) ?_
            refine se_move rfl rfl rfl ?_
            refine se_indexAddr rfl rfl rfl rfl (fun w' hw => by go_simp; with_reducible rfl) ?_
            refine se_un rfl rfl rfl rfl rfl (fun w' hw => by have x := HE2.out w' hw; go_simp; with_reducible rfl) ?_
            refine se_call (vs := [.slice A4 l.length c4, .slice A5 l.length c5]) rfl rfl Try.func15 (by kernel_rfl) rfl (by kernel_rfl) ?_
            refine (HSM.out _ (below_drew HZ.out)).mono ?_
            rintro e' w5 ⟨rfl, hb⟩
            have hz5 := below_then (below_drew HZ.out) (below_drew HZ.out).size hb
            refine ⟨_, rfl, hz5, ?_⟩
            refine se_un rfl rfl rfl rfl rfl (fun w' hw => by go_simp; with_reducible rfl) ?_
            intro _
            have HZ5 := Aside0.mk hz5
            clear hb hz5
            simp only [puts, Act.put, List.setIfInBounds_toArray, List.set_cons_zero, List.set_cons_succ]
            go_wp2
            go_roundw
            case rel => exact ⟨i + 1, by omega, by go_num, HZ5⟩
            case measure => simp [intOf]; omega
          · obtain rfl : i = s.rs.length := by omega
            go_wp2_with fail
            refine (begun_calls _).mono ?_
            rintro e' w5 ⟨rfl, hb⟩
            have HB5 := Aside0.mk (below_then (below_then HB.out HB.out.size HZ.out) (below_then HB.out HB.out.size HZ.out).size hb)
            clear hb
            go_wp2
            go_ret
            exact ⟨rfl, HB5.out⟩
  · have q0 : (e != 0) = true := bne_iff_ne.mpr he
    obtain ⟨hT, hn⟩ := HSN.out he
    try simp only at hT
    try simp only at hn
    subst hT hn
    have HY' := Aside0.mk (show W4.heap[g]? = some (.cells #[.slice A2 0 a2, .slice B2 0 b2, .slice C2 0 c2] 26 (0, 0)) from HY.out)
    clear he HSO HSN
    go_wp2_with fail
    refine (begun_calls _).mono ?_
    rintro e' w5 ⟨rfl, hb⟩
    have HB5 := Aside0.mk (below_then HB.out HB.out.size hb)
    have d2 := blk_cell (blk_below HY'.out hb) 2
    simp only [List.getElem?_toArray, List.getElem?_cons_zero, List.getElem?_cons_succ] at d2
    clear hb
    go_wp2
    go_ret
    exact ⟨rfl, HB5.out⟩
end
theorem pagesBack_row (W : World) {base : Nat} (v0 : Value) (hv : Value.okWide Try.prog W .any base 26 v0) (a0 : List (List Int) × (List Int × List (List Int))) (hr : k26.K W a0 v0.cells.toList) (B0 : True) (x : Int) (_ : (Lit.int .i64 x).wf = true) (t : Int) (_ : (Lit.int .i64 t).wf = true) (v : Int) (_ : (Lit.int .i64 v).wf = true) :
    Calls Try.prog 5 #[v0, .int .i64 x, .int .i64 t, .int .i64 v] W fun e w' => e = .returned (.bool true) ∧ Below W.heap.size W w' := by
  obtain ⟨A, m, B, n, C, k, rfl, hL⟩ := lies_of hv hr
  exact pagesBack_walk W A m B n C k ⟨a0.1, a0.2.1, a0.2.2⟩ hL x t v
end Go.Proofs.Ytblalidpeccabac.Pg
