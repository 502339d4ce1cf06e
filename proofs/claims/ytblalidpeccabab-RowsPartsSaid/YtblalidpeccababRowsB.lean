/- slices.swapRange of events: its walk. -/
import Derived.Test.YtblalidpeccababRowsA
namespace Go.Proofs.Ytblalidpeccabab.Rw
open Go Go.RowKit Go.Lib Go.Proofs.YtblalidpeccababW.PrintWords Go.Proofs.YtblalidpeccababW.PrintLast Go.Proofs.YtblalidpeccababW.PrintMore Go.Proofs.Ytblalidpeccabab.PRowsThree Go.Proofs.Ytblalidpeccabab.Bs Go.Proofs.Ytblalidpeccabab.RegionVal
set_option linter.unusedVariables false
set_option linter.unusedSimpArgs false

theorem two_set {α : Type} (P Q R : List α) (x y : α) : ((P ++ x :: (Q ++ y :: R)).set P.length y).set (P.length + 1 + Q.length) x = P ++ y :: (Q ++ x :: R) := by
  rw [List.set_append_right _ _ (Nat.le_refl _), Nat.sub_self, List.set_cons_zero, List.set_append_right _ _ (by omega), show P.length + 1 + Q.length - P.length = Q.length + 1 by omega, List.set_cons_succ, List.set_append_right _ _ (Nat.le_refl _), Nat.sub_self, List.set_cons_zero]
theorem two_set' {α : Type} (P Q R : List α) (x y : α) : ((P ++ x :: (Q ++ y :: R)).set (P.length + 1 + Q.length) x).set P.length y = P ++ y :: (Q ++ x :: R) := by
  rw [List.set_comm _ _ (by omega), two_set]
theorem get_l {α : Type} (P Q R : List α) (x y : α) (h : P.length < (P ++ x :: (Q ++ y :: R)).length) : (P ++ x :: (Q ++ y :: R))[P.length] = x := by simp
theorem get_r {α : Type} (P Q R : List α) (x y : α) (h : P.length + 1 + Q.length < (P ++ x :: (Q ++ y :: R)).length) : (P ++ x :: (Q ++ y :: R))[P.length + 1 + Q.length] = y := by
  rw [List.getElem_append_right (by omega)]
  simp only [show P.length + 1 + Q.length - P.length = Q.length + 1 by omega, List.getElem_cons_succ]
  simp
theorem wrap_i (a : Int) (h0 : 0 ≤ a) (h1 : a ≤ 1000) : IntKind.i64.wrap a = a := by
  rw [IntKind.wrap_i64]
  omega
theorem sr_state {X Y : List S53} (A B C : List S53) (k : Nat) (hx : k < X.length) (hy : k < Y.length) :
    A ++ (Y.take k ++ X.drop k) ++ B ++ (X.take k ++ Y.drop k) ++ C = (A ++ Y.take k) ++ X[k] :: ((X.drop (k + 1) ++ B ++ X.take k) ++ Y[k] :: (Y.drop (k + 1) ++ C)) := by
  rw [List.drop_eq_getElem_cons hx, List.drop_eq_getElem_cons hy]
  simp only [List.append_assoc, List.cons_append, List.nil_append]
theorem sr_next {X Y : List S53} (A B C : List S53) (k : Nat) (hx : k < X.length) (hy : k < Y.length) :
    A ++ (Y.take (k + 1) ++ X.drop (k + 1)) ++ B ++ (X.take (k + 1) ++ Y.drop (k + 1)) ++ C = (A ++ Y.take k) ++ Y[k] :: ((X.drop (k + 1) ++ B ++ X.take k) ++ X[k] :: (Y.drop (k + 1) ++ C)) := by
  rw [List.take_succ_eq_append_getElem hx, List.take_succ_eq_append_getElem hy]
  simp only [List.append_assoc, List.cons_append, List.nil_append]

set_option maxHeartbeats 8000000 in
set_option maxRecDepth 100000 in
theorem swapRange_calls (w : World) (base g n c : Nat) (A X B Y C : List S53) (h : RE w base g n c (A ++ X ++ B ++ Y ++ C)) (hm : X.length = Y.length) (hn : n ≤ 200) (a b m : Nat) (ha : a = A.length) (hb : b = A.length + X.length + B.length) (hmm : m = X.length) :
    Calls Try.prog 78 #[.slice (some ⟨g, 0, none⟩) n c, .int .i64 (a : Int), .int .i64 (b : Int), .int .i64 (m : Int), .func (.func 55) #[] #[]] w fun e w' => e = .returned (.tuple #[]) ∧ RE w' base g n c (A ++ Y ++ B ++ X ++ C) ∧ w.grownBy w' (some g) := by
  have hlen := h.len
  simp only [List.length_append] at hlen
  have H := Aside0.mk h
  have HN := Aside0.mk hlen
  have HA := Aside0.mk ha
  have HBB := Aside0.mk hb
  have HM := Aside0.mk hmm
  have HXY := Aside0.mk hm
  have ha2 : a ≤ 200 := by omega
  have hb2 : b ≤ 200 := by omega
  have hm2 : m ≤ 200 := by omega
  have hnb : b + m ≤ n := by omega
  have hab : a + m ≤ b := by omega
  clear h hlen ha hb hmm hm
  go_enter Try.func78, Try.ntmps78
  go_wp2_with fail
  go_loopw [10] (fun i wr => ∃ k : Nat, k ≤ m ∧ i = .int .i64 (k : Int) ∧ Aside0 (RE wr base g n c (A ++ (Y.take k ++ X.drop k) ++ B ++ (X.take k ++ Y.drop k) ++ C)) ∧ Aside0 (w.grownBy wr (some g))) (fun i _ => m - (intOf i).toNat)
  case atStart => exact ⟨0, Nat.zero_le _, rfl, ⟨by simpa using H.out⟩, ⟨gb_below _ (Below.refl _ _)⟩⟩
  case round =>
    obtain ⟨k, hkm, rfl, HR, HG⟩ := hrel
    by_cases hlt : k < m
    · have hk1 : (k : Int) < (m : Int) := by omega
      have hx : k < X.length := by rw [← HM.out]; exact hlt
      have hy : k < Y.length := by rw [← HXY.out]; exact hx
      obtain ⟨i1, hi1⟩ : ∃ i1, i1 = a + k := ⟨_, rfl⟩
      obtain ⟨j1, hj1⟩ : ∃ j1, j1 = b + k := ⟨_, rfl⟩
      obtain ⟨x, hxx⟩ : ∃ x, x = X[k] := ⟨_, rfl⟩
      obtain ⟨y, hyy⟩ : ∃ y, y = Y[k] := ⟨_, rfl⟩
      obtain ⟨P, hP⟩ : ∃ P, P = A ++ Y.take k := ⟨_, rfl⟩
      obtain ⟨Q, hQ⟩ : ∃ Q, Q = X.drop (k + 1) ++ B ++ X.take k := ⟨_, rfl⟩
      obtain ⟨R, hR⟩ : ∃ R, R = Y.drop (k + 1) ++ C := ⟨_, rfl⟩
      have hPl : P.length = i1 := by rw [hP, hi1, List.length_append, List.length_take, HA.out]; omega
      have hQl : P.length + 1 + Q.length = j1 := by
        rw [hPl, hQ, hj1]
        simp only [List.length_append, List.length_drop, List.length_take]
        have := HBB.out
        have := HA.out
        omega
      rw [sr_state A B C k hx hy, ← hxx, ← hyy, ← hP, ← hQ, ← hR] at HR
      have HNX := Aside0.mk (show A ++ (Y.take (k + 1) ++ X.drop (k + 1)) ++ B ++ (X.take (k + 1) ++ Y.drop (k + 1)) ++ C = P ++ y :: (Q ++ x :: R) by rw [sr_next A B C k hx hy, ← hxx, ← hyy, ← hP, ← hQ, ← hR])
      obtain ⟨L, hL⟩ : ∃ L, L = P ++ x :: (Q ++ y :: R) := ⟨_, rfl⟩
      rw [← hL] at HR
      have hLl : L.length = P.length + 1 + Q.length + 1 + R.length := by rw [hL]; simp; omega
      have HBi1 := Aside0.mk (show i1 < L.length by omega)
      have HBj1 := Aside0.mk (show j1 < L.length by omega)
      have HLi1 := Aside0.mk (show ∀ w', RE w' base g n c L → Sem.run Try.prog (Instr.loadAt 53 (.pointer (some ⟨g, i1 * 12, none⟩))) w' = .ok (v53 x) w' from fun w' hw => by
        have h1 := hw.load i1 HBi1.out
        have h2 : L[i1]'HBi1.out = x := by subst hL; subst hPl; exact get_l P Q R x y _
        rwa [h2] at h1)
      have HLj1 := Aside0.mk (show ∀ w', RE w' base g n c L → Sem.run Try.prog (Instr.loadAt 53 (.pointer (some ⟨g, j1 * 12, none⟩))) w' = .ok (v53 y) w' from fun w' hw => by
        have h1 := hw.load j1 HBj1.out
        have h2 : L[j1]'HBj1.out = y := by subst hL; subst hQl; exact get_r P Q R x y _
        rwa [h2] at h1)
      have HS := Aside0.mk (show (L.set i1 y).set j1 x = P ++ y :: (Q ++ x :: R) by rw [hL, ← hQl, ← hPl]; exact two_set P Q R x y)
      have hw1 : IntKind.i64.wrap ((a : Int) + (k : Int)) = (i1 : Int) := by rw [wrap_i _ (by omega) (by omega)]; omega
      have hw2 : IntKind.i64.wrap ((b : Int) + (k : Int)) = (j1 : Int) := by rw [wrap_i _ (by omega) (by omega)]; omega
      have hl1 : (i1 : Int) < (n : Int) := by omega
      have hl2 : (j1 : Int) < (n : Int) := by omega
      clear hx hy hi1 hj1 hxx hyy hP hQ hR hPl hQl hL hLl
      go_wp2_with fail
      refine wp_dirtyU [0, 1, 2, 3, 4, 5, 6, 7, 8, 9, 10, 11, 12, 14, 15, 16, 17, 18] [21, 23] (fun w' => RE w' base g n c L ∧ w.grownBy w' (some g)) (fun _ => True) (fun _ _ => trivial) (.leaf [(13, false), (19, false), (20, false)] [(21, true), (22, false), (23, true)]) (by kernel_rfl) (by kernel_rfl) ⟨RE.below HR.out (below_drew1 (Below.refl _ _)), gb_trans HG.out (gb_below _ (below_drew1 (Below.refl _ _)))⟩ (fun _ _ d _ _ h => by cases d <;> exact h) ?_
      refine se_move rfl rfl rfl ?_
      refine se_move rfl rfl rfl ?_
      refine se_move rfl rfl rfl ?_
      refine se_bin (v := .int .i64 ((i1 : Nat) : Int)) rfl rfl rfl rfl (fun w' hw => by go_simp) ?_
      refine se_move rfl rfl rfl ?_
      refine se_move rfl rfl rfl ?_
      refine se_move rfl rfl rfl ?_
      refine se_bin (v := .int .i64 ((j1 : Nat) : Int)) rfl rfl rfl rfl (fun w' hw => by go_simp) ?_
      refine se_move rfl rfl rfl ?_
      refine se_move rfl rfl rfl ?_
      refine se_move rfl rfl rfl ?_
      refine se_bin (v := .int .i64 ((j1 : Nat) : Int)) rfl rfl rfl rfl (fun w' hw => by go_simp) ?_
      refine se_indexAddr (v := .pointer (some ⟨g, j1 * 12, none⟩)) rfl rfl rfl rfl (fun w' hw => by go_simp) ?_
      refine se_move rfl rfl rfl ?_
      refine se_move rfl rfl rfl ?_
      refine se_move rfl rfl rfl ?_
      refine se_bin (v := .int .i64 ((i1 : Nat) : Int)) rfl rfl rfl rfl (fun w' hw => by go_simp) ?_
      refine se_indexAddr (v := .pointer (some ⟨g, i1 * 12, none⟩)) rfl rfl rfl rfl (fun w' hw => by go_simp) ?_
      refine se_load (v := v53 y) rfl rfl rfl (fun w' hw => HLj1.out w' hw.1) ?_
      refine se_load (v := v53 x) rfl rfl rfl (fun w' hw => HLi1.out w' hw.1) ?_
      refine se_indexAddr (v := .pointer (some ⟨g, i1 * 12, none⟩)) rfl rfl rfl rfl (fun w' hw => by go_simp) ?_
      obtain ⟨w_1, hrun1, hR1, hg1⟩ := RE.store (RE.below HR.out (below_drew1 (Below.refl _ _))) i1 (by first | exact HBi1.out | (rw [List.length_set]; exact HBi1.out)) y
      refine se_store rfl rfl rfl rfl hrun1 trivial ?_
      refine se_indexAddr (v := .pointer (some ⟨g, j1 * 12, none⟩)) rfl rfl rfl rfl (fun w' hw => by go_simp) ?_
      obtain ⟨w_2, hrun2, hR2, hg2⟩ := RE.store hR1 j1 (by first | exact HBj1.out | (rw [List.length_set]; exact HBj1.out)) x
      refine se_store rfl rfl rfl rfl hrun2 trivial ?_
      rw [HS.out] at hR2
      have HR2 := Aside0.mk hR2
      have HG2 := Aside0.mk (gb_trans (gb_trans HG.out (gb_below _ (below_drew1 (Below.refl _ _)))) (gb_trans hg1 hg2))
      clear hR1 hR2 hg1 hg2 hrun1 hrun2
      simp only [SeqE, puts, Act.put, List.setIfInBounds_toArray, List.set_cons_zero, List.set_cons_succ]
      rw [← HNX.out] at HR2
      go_wp2
      go_roundw
      case rel => exact ⟨k + 1, by omega, by go_num, HR2, HG2⟩
      case measure => simp [intOf]; omega
    · obtain rfl : k = m := by omega
      have HE := Aside0.mk (show RE wr base g n c (A ++ Y ++ B ++ X ++ C) by
        have h := HR.out
        rw [List.take_of_length_le (by have := HM.out; have := HXY.out; omega), List.drop_eq_nil_of_le (by have := HM.out; omega), List.take_of_length_le (by have := HM.out; omega), List.drop_eq_nil_of_le (by have := HM.out; have := HXY.out; omega), List.append_nil, List.append_nil] at h
        exact h)
      go_wp2
      exact bodyPost_end (v := .tuple #[]) (results_none rfl _ _ _) rfl ⟨rfl, HE.out, HG.out⟩
end Go.Proofs.Ytblalidpeccabab.Rw
