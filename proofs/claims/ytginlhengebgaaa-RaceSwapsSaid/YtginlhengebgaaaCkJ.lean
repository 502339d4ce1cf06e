/- soon; ClocksPaths: their walks; the row of ClocksPaths. -/
import Derived.Test.YtginlhengebgaaaCkI
import Derived.Test.YtginlhengebgaaaCkY
namespace Go.Proofs.Ytginlhengebgaaa.Ck
open Go Go.RowKit Go.Maps Go.Proofs.YtginlhengebgaaaW Go.Proofs.YtginlhengebgaaaW.PrintWords Go.Proofs.YtginlhengebgaaaW.PrintLast Go.Proofs.YtginlhengebgaaaW.PrintMore Go.Proofs.Ytginlhengebgaaa.PLockupEither Go.Proofs.Ytginlhengebgaaa.Bs Go.Proofs.Ytginlhengebgaaa.RegionVal Go.Proofs.Ytginlhengebgaaa.Lk
open Go.Lib hiding intOf
set_option linter.unusedVariables false
set_option linter.unusedSimpArgs false
set_option maxHeartbeats 8000000 in
set_option maxRecDepth 100000 in
theorem soon_calls (w : World) (A : Option Addr) (c : Nat) (l : List CE) (hr : Kd.C kC w A l.length l) (hc : l.length ≤ c) :
    Calls Try.prog 18 #[.slice A l.length c, .int .i64 60] w fun e w' => ∃ m : List CE, e = .returned (.slice A m.length c) ∧ m.length ≤ c ∧ m.length ≤ 60 ∧ Kd.C kC w' A m.length m ∧ Below w.heap.size w w' := by
  have hn := hr.2.1
  have HR := Aside0.mk hr
  clear hr
  go_enter Try.func18, Try.ntmps18
  by_cases h : (60 : Int) < (l.length : Int)
  · have HT := Aside0.mk (Kd.C_take HR.out (m := 60) (by omega))
    have hl60 : (l.take 60).length = 60 := by rw [List.length_take]; omega
    have h60 : (60 : Int) ≤ (c : Int) := by omega
    go_wp2
    exact bodyPost_ret (v := .slice A 60 c) (by simp [results, Try.f18, go_sem]; omega) rfl ⟨l.take 60, by rw [hl60], by omega, by omega, HT.out, Below.refl _ _⟩
  · have h2 : (l.length : Int) ≤ 60 := by omega
    have hlc : (l.length : Int) ≤ (c : Int) := by omega
    go_wp2
    exact bodyPost_ret (v := .slice A l.length c) (by simp [results, Try.f18, go_sem]; omega) rfl ⟨l, rfl, hc, by omega, HR.out, Below.refl _ _⟩
theorem bef_true {l : List CE} {th : Nat} {E : List S32} {i j : Nat} : bef l th E i j = true ↔ i ≠ j ∧ cl l th E i (thr l i) ≤ cl l th E j (thr l i) := by
  unfold bef
  rw [Bool.and_eq_true, decide_eq_true_iff, decide_eq_true_iff]
theorem bef_paths {l : List CE} {th : Nat} {E : List S32} (hE : IsE l E) (ht : ∀ x ∈ l, 0 ≤ x.t ∧ x.t < (th : Int)) {i j : Nat} (hi : i < l.length) (hj : j < l.length) : bef l th E i j = true ↔ i ≠ j ∧ ∀ s, s < th → cl l th E i s ≤ cl l th E j s := by
  rw [bef_true]
  have h := (clk_of l th E hE ht).paths hi hj
  exact and_congr Iff.rfl h
set_option maxHeartbeats 16000000 in
set_option maxRecDepth 100000 in
theorem clocksPaths_walk (w : World) (A : Option Addr) (c : Nat) (l0 : List CE) (hr : Kd.C kC w A l0.length l0) (hc : l0.length ≤ c) (T i j : Int) :
    Calls Try.prog 6 #[.slice A l0.length c, .int .i64 T, .int .i64 i, .int .i64 j] w fun e w' => e = .returned (.bool true) ∧ Below w.heap.size w w' := by
  have HR := Aside0.mk hr
  clear hr
  go_enter Try.func6, Try.ntmps6
  go_wp2_with fail
  refine (cbegun_calls w).mono ?_
  rintro e w1 ⟨rfl, hb1⟩
  have HB1 := Aside0.mk hb1
  have HR1 := Aside0.mk (Kd.C_below HR.out hb1)
  clear hb1 HR
  go_wp2_with fail
  refine (soon_calls w1 A c l0 HR1.out hc).mono ?_
  rintro e w2 ⟨l, rfl, hlc, hl60, hr2, hb2⟩
  have HB2 := Aside0.mk (below_then HB1.out HB1.out.size hb2)
  have HR2 := Aside0.mk hr2
  clear hb2 hr2 HR1 HB1 hc
  go_wp2_with fail
  refine (Before_calls w2 A c l T i j HR2.out hlc).mono ?_
  rintro e w3 ⟨b, rfl, hb0, hbE, hb3⟩
  have HB3 := Aside0.mk (below_then HB2.out HB2.out.size hb3)
  have HR3 := Aside0.mk (Kd.C_below HR2.out hb3)
  clear hb3 HR2 HB2
  by_cases hq : pairF l T i j = 0
  · obtain ⟨hck, hi0, hi1, hj0, hj1⟩ := pair_ok hq
    obtain ⟨hl, th, hT, hth, ht⟩ := chk_ok hck
    obtain ⟨i', hi'⟩ : ∃ i' : Nat, i = (i' : Int) := ⟨i.toNat, by omega⟩
    obtain ⟨j', hj'⟩ : ∃ j' : Nat, j = (j' : Int) := ⟨j.toNat, by omega⟩
    subst hT hi' hj'
    obtain ⟨E, hE, hbe⟩ := hbE hq
    have HBE := Aside0.mk (show b = bef l th E i' j' from hbe)
    have HE := Aside0.mk hE
    have HP := Aside0.mk (Of_calls w3 A c l (th : Int) HR3.out hlc)
    rw [hck] at HP
    have HT := Aside0.mk ht
    have hi2 : i' < l.length := by omega
    have hj2 : j' < l.length := by omega
    rw [hq]
    clear hb0 hbE hbe hE hq hck ht hi0 hj0
    go_wp2_with fail
    refine HP.out.mono ?_
    rintro e w4 ⟨v, rfl, hv, hb4⟩
    obtain ⟨g0, E2, rfl, hE2, hCK⟩ := hv trivial
    obtain rfl := hE2.uniq HE.out
    have HCK := Aside0.mk (show CK w4 g0 th (rowsF l th E2 l.length) from hCK)
    have HB4 := Aside0.mk (below_then HB3.out HB3.out.size hb4)
    clear hv hE2 hCK hb4 HP HR3 HB3
    go_wp2_with fail
    have HRL := Aside0.mk (rowsF_len l th E2 l.length)
    have hne : ((i' : Int) != (j' : Int)) = decide (i' ≠ j') := by
      rw [Bool.eq_iff_iff, bne_iff_ne, decide_eq_true_iff]
      omega
    go_loopw [13, 14] (fun v13 v14 wr => ∃ (t : Nat) (b13 : Bool), v14 = .int .i64 (t : Int) ∧ t ≤ th ∧ v13 = .bool b13 ∧ Aside0 (b13 = true ↔ i' ≠ j' ∧ ∀ s, s < t → cl l th E2 i' s ≤ cl l th E2 j' s) ∧ Aside0 (Below w4.heap.size w4 wr)) (fun _ v14 _ => th - (intOf v14).toNat)
    case atStart => exact ⟨0, decide (i' ≠ j'), rfl, Nat.zero_le _, by rw [hne], ⟨by rw [decide_eq_true_iff]; exact ⟨fun h => ⟨h, fun s hs => absurd hs (Nat.not_lt_zero _)⟩, fun h => h.1⟩⟩, ⟨Below.refl _ _⟩⟩
    case round =>
      obtain ⟨t, b13, rfl, ht, rfl, HB13, HB⟩ := hrel
      by_cases htl : t < th
      · have htl1 : (t : Int) < (th : Int) := by omega
        have ht8 : t < 8 := by omega
        have hck := HCK.out.below HB.out
        obtain ⟨a, ha⟩ : ∃ a, a = cl l th E2 i' t := ⟨_, rfl⟩
        obtain ⟨d, hd⟩ : ∃ d, d = cl l th E2 j' t := ⟨_, rfl⟩
        have ca : wr.cell? ⟨g0 + 1 + i', t, none⟩ = some (.int .i64 a) := by rw [ha, ← cl_of hi2]; exact hck.get (by rw [HRL.out]; exact hi2) htl
        have cd : wr.cell? ⟨g0 + 1 + j', t, none⟩ = some (.int .i64 d) := by rw [hd, ← cl_of hj2]; exact hck.get (by rw [HRL.out]; exact hj2) htl
        have ci : wr.cell? ⟨g0, i', none⟩ = some (slot g0 th i') := hck.cellT (by rw [HRL.out]; exact hi2)
        have cj : wr.cell? ⟨g0, j', none⟩ = some (slot g0 th j') := hck.cellT (by rw [HRL.out]; exact hj2)
        have HC := Aside0.mk (And.intro ci (And.intro cj (And.intro ca cd)))
        have HNX := Aside0.mk (show ((b13 && decide (a ≤ d)) = true ↔ i' ≠ j' ∧ ∀ s, s < t + 1 → cl l th E2 i' s ≤ cl l th E2 j' s) by
          rw [Bool.and_eq_true, HB13.out, decide_eq_true_iff, ha, hd]
          constructor
          · rintro ⟨⟨h1, h2⟩, h3⟩
            refine ⟨h1, fun s hs => ?_⟩
            rcases Nat.lt_or_ge s t with h | h
            · exact h2 s h
            · obtain rfl : s = t := by omega
              exact h3
          · rintro ⟨h1, h2⟩
            exact ⟨⟨h1, fun s hs => h2 s (by omega)⟩, h2 t (by omega)⟩)
        clear hck ha hd ca cd ci cj HB13
        cases b13 with
        | false =>
          go_wp2_with fail
          refine wp_val (S := fun w' => Below w4.heap.size w4 w') (by kernel_rfl) (by kernel_rfl) (below_drew1 HB.out) ?_
          repeat (first
            | refine st_skip rfl ?_
            | refine st_move rfl rfl ?_
            | refine st_assign rfl rfl ?_
            | refine st_pickT rfl rfl rfl ?_
            | refine st_pickF rfl rfl rfl ?_
            | refine st_bin rfl rfl rfl (fun w' hw => by go_simp; rfl) ?_
            | refine st_indexAddr rfl rfl rfl (fun w' hw => by go_simp; rfl) ?_
            | refine st_un rfl rfl rfl rfl (fun w' hw => by go_simp; rfl) ?_
            | refine st_builtin rfl rfl (fun w' hw => by go_simp; rfl) ?_
            | refine st_slice rfl rfl rfl rfl rfl (fun w' hw => by go_simp; rfl) ?_)
          intro w6 hw6
          have HB6 := Aside0.mk hw6
          clear hw6
          simp only [puts, Act.put, List.setIfInBounds_toArray, List.set_cons_zero, List.set_cons_succ]
          go_wp2
          go_roundw
          case rel => exact ⟨t + 1, false, by go_num, htl, rfl, ⟨by have h := HNX.out; rw [Bool.false_and] at h; exact h⟩, HB6⟩
          case measure => simp [intOf]; omega
        | true =>
          rw [Bool.true_and] at HNX
          go_wp2_with fail
          refine wp_val (S := fun w' => Below w4.heap.size w4 w' ∧ w'.cell? ⟨g0, i', none⟩ = some (slot g0 th i') ∧ w'.cell? ⟨g0, j', none⟩ = some (slot g0 th j') ∧ w'.cell? ⟨g0 + 1 + i', t, none⟩ = some (.int .i64 a) ∧ w'.cell? ⟨g0 + 1 + j', t, none⟩ = some (.int .i64 d)) (by kernel_rfl) (by kernel_rfl) ⟨below_drew1 HB.out, HC.out.1, HC.out.2.1, HC.out.2.2.1, HC.out.2.2.2⟩ ?_
          repeat (first
            | refine st_indexAddr (vx := .slice (some ⟨g0, 0, none⟩) l.length l.length) (vy := .int .i64 (i' : Int)) (v := .pointer (some ⟨g0, i', none⟩)) rfl rfl rfl (fun w' hw => by go_simp) ?_
            | refine st_indexAddr (vx := .slice (some ⟨g0, 0, none⟩) l.length l.length) (vy := .int .i64 (j' : Int)) (v := .pointer (some ⟨g0, j', none⟩)) rfl rfl rfl (fun w' hw => by go_simp) ?_
            | refine st_indexAddr (vx := .slice (some ⟨g0 + 1 + i', 0, none⟩) th th) (v := .pointer (some ⟨g0 + 1 + i', t, none⟩)) rfl rfl rfl (fun w' hw => by go_simp) ?_
            | refine st_indexAddr (vx := .slice (some ⟨g0 + 1 + j', 0, none⟩) th th) (v := .pointer (some ⟨g0 + 1 + j', t, none⟩)) rfl rfl rfl (fun w' hw => by go_simp) ?_
            | refine st_skip rfl ?_
            | refine st_move rfl rfl ?_
            | refine st_assign rfl rfl ?_
            | refine st_pickT rfl rfl rfl ?_
            | refine st_pickF rfl rfl rfl ?_
            | refine st_bin rfl rfl rfl (fun w' hw => by go_simp; rfl) ?_
            | refine st_indexAddr rfl rfl rfl (fun w' hw => by go_simp; rfl) ?_
            | refine st_un rfl rfl rfl rfl (fun w' hw => by go_simp; rfl) ?_
            | refine st_builtin rfl rfl (fun w' hw => by go_simp; rfl) ?_
            | refine st_slice rfl rfl rfl rfl rfl (fun w' hw => by go_simp; rfl) ?_
            | refine st_load (v := .slice (some ⟨g0 + 1 + i', 0, none⟩) th th) rfl rfl (fun w' hw => ldT hw.2.1) ?_
            | refine st_load (v := .slice (some ⟨g0 + 1 + j', 0, none⟩) th th) rfl rfl (fun w' hw => ldT hw.2.2.1) ?_
            | refine st_load (v := .int .i64 a) rfl rfl (fun w' hw => ldR hw.2.2.2.1) ?_
            | refine st_load (v := .int .i64 d) rfl rfl (fun w' hw => ldR hw.2.2.2.2) ?_)
          intro w6 hw6
          have HB6 := Aside0.mk hw6.1
          clear hw6
          simp only [puts, Act.put, List.setIfInBounds_toArray, List.set_cons_zero, List.set_cons_succ]
          go_wp2
          go_roundw
          case rel => exact ⟨t + 1, decide (a ≤ d), by go_num, htl, rfl, HNX, HB6⟩
          case measure => simp [intOf]; omega
      · have HEQ := Aside0.mk (show b = b13 by
          have h1 := bef_paths HE.out HT.out hi2 hj2
          have h2 := HB13.out
          rw [show t = th by omega] at h2
          rw [Bool.eq_iff_iff, HBE.out, h1, h2])
        have d5 : (b == b13) = true := by rw [HEQ.out]; cases b13 <;> rfl
        clear HB13 ht
        go_wp2_with fail
        refine (cbegun_calls _).mono ?_
        rintro e w7 ⟨rfl, hb7⟩
        have HB7 := Aside0.mk (below_then (below_then HB4.out HB4.out.size HB.out) (below_then HB4.out HB4.out.size HB.out).size hb7)
        clear hb7
        go_wp2
        exact bodyPost_ret (v := .bool true) (by simp [results, Try.f6, go_sem]) rfl ⟨rfl, HB7.out⟩
  · obtain rfl := hb0 hq
    obtain ⟨q, hqq⟩ : ∃ q, q = pairF l T i j := ⟨_, rfl⟩
    rw [← hqq] at hq ⊢
    have d1 : (q != 0) = true := bne_iff_ne.2 hq
    have d2 : (q == 0) = false := beq_eq_false_iff_ne.2 hq
    have HP := Aside0.mk (Of_calls w3 A c l T HR3.out hlc)
    clear hbE hb0 hqq hq
    generalize chkF l T = q2 at HP
    go_wp2_with fail
    refine HP.out.mono ?_
    rintro e w4 ⟨v, rfl, _, hb4⟩
    have HB4 := Aside0.mk (below_then HB3.out HB3.out.size hb4)
    clear hb4 HP HR3 HB3
    go_wp2_with fail
    refine (cbegun_calls _).mono ?_
    rintro e w7 ⟨rfl, hb7⟩
    have HB7 := Aside0.mk (below_then HB4.out HB4.out.size hb7)
    clear hb7
    go_wp2
    exact bodyPost_ret (v := .bool true) (by simp [results, Try.f6, go_sem]) rfl ⟨rfl, HB7.out⟩
theorem clocksPaths_row (w : World) (A : Option Addr) (c : Nat) (l : List CE) (lc : l.length ≤ c) (h : Kd.C kC w A l.length l) (_b : True) (T : Int) (_wT : (Lit.int .i64 T).wf = true) (i : Int) (_wi : (Lit.int .i64 i).wf = true) (j : Int) (_wj : (Lit.int .i64 j).wf = true) :
    Calls Try.prog 6 #[.slice A l.length c, .int .i64 T, .int .i64 i, .int .i64 j] w fun e w' => e = .returned (.bool true) ∧ Below w.heap.size w w' :=
  clocksPaths_walk w A c l h lc T i j
end Go.Proofs.Ytginlhengebgaaa.Ck
