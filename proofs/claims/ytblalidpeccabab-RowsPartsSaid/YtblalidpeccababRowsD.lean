/- slices.insertionSort of events: its walk. -/
import Derived.Test.YtblalidpeccababRowsC
namespace Go.Proofs.Ytblalidpeccabab.Rw
open Go Go.RowKit Go.Lib Go.Proofs.YtblalidpeccababW.PrintWords Go.Proofs.YtblalidpeccababW.PrintLast Go.Proofs.YtblalidpeccababW.PrintMore Go.Proofs.Ytblalidpeccabab.PRowsThree Go.Proofs.Ytblalidpeccabab.Bs Go.Proofs.Ytblalidpeccabab.RegionVal
set_option linter.unusedVariables false
set_option linter.unusedSimpArgs false

theorem cmp_true {x y : S53} (h : ky x < ky y) : decide (cmpS (ky x) (ky y) < 0) = true := by rw [cmpS_lt]; exact decide_eq_true h
theorem cmp_false {x y : S53} (h : ¬ ky x < ky y) : decide (cmpS (ky x) (ky y) < 0) = false := by rw [cmpS_lt]; exact decide_eq_false h
/-- the elements of a list in the form of a swap -/
structure Two (L P Q R : List S53) (x y : S53) (i j : Nat) : Prop where mk ::
  is : L = P ++ x :: (Q ++ y :: R)
  i : i = P.length
  j : j = P.length + 1 + Q.length
theorem Two.lti {L P Q R : List S53} {x y : S53} {i j : Nat} (h : Two L P Q R x y i j) : i < L.length := by
  have h1 := h.i
  rw [h.is]; simp; omega
theorem Two.ltj {L P Q R : List S53} {x y : S53} {i j : Nat} (h : Two L P Q R x y i j) : j < L.length := by
  have h1 := h.j
  rw [h.is]; simp; omega
theorem Two.loadi {L P Q R : List S53} {x y : S53} {i j : Nat} (h : Two L P Q R x y i j) {w : World} {base g n c : Nat} (hw : RE w base g n c L) : Sem.run Try.prog (Instr.loadAt 53 (.pointer (some ⟨g, i * 12, none⟩))) w = .ok (v53 x) w := by
  have h1 := hw.load i h.lti
  have h2 : L[i]'h.lti = x := by
    obtain ⟨rfl, rfl, rfl⟩ := h
    exact get_l P Q R x y _
  exact h1.trans (congrArg (fun z => Result.ok (v53 z) w) h2)
theorem Two.loadj {L P Q R : List S53} {x y : S53} {i j : Nat} (h : Two L P Q R x y i j) {w : World} {base g n c : Nat} (hw : RE w base g n c L) : Sem.run Try.prog (Instr.loadAt 53 (.pointer (some ⟨g, j * 12, none⟩))) w = .ok (v53 y) w := by
  have h1 := hw.load j h.ltj
  have h2 : L[j]'h.ltj = y := by
    obtain ⟨rfl, rfl, rfl⟩ := h
    exact get_r P Q R x y _
  exact h1.trans (congrArg (fun z => Result.ok (v53 z) w) h2)
theorem Two.swij {L P Q R : List S53} {x y : S53} {i j : Nat} (h : Two L P Q R x y i j) : (L.set i y).set j x = P ++ y :: (Q ++ x :: R) := by
  obtain ⟨rfl, rfl, rfl⟩ := h
  exact two_set P Q R x y
theorem Two.swji {L P Q R : List S53} {x y : S53} {i j : Nat} (h : Two L P Q R x y i j) : (L.set j x).set i y = P ++ y :: (Q ++ x :: R) := by
  obtain ⟨rfl, rfl, rfl⟩ := h
  exact two_set' P Q R x y

theorem ins_end {S u v : List S53} {x : S53} (hS : S = u ++ v) (hs : Srt ky S) (hu : ∀ z ∈ u, ky z ≤ ky x) (hv : ∀ z ∈ v, ky x < ky z) : Srt ky (u ++ x :: v) ∧ ∀ Y, Sam ky Y S → Sam ky (Y ++ [x]) (u ++ x :: v) := by
  subst hS
  refine ⟨Srt.app hs.left (List.pairwise_cons.2 ⟨fun z hz => by have := hv z hz; omega, hs.right⟩) (fun z hz q hq => ?_), fun Y hY => ?_⟩
  · rcases List.mem_cons.1 hq with e | e
    · rw [e]; exact hu z hz
    · exact hs.cross z hz q e
  · have h1 : Sam ky (v ++ [x]) ([x] ++ v) := Sam.swap fun p hp q hq => by
      rw [List.mem_singleton.1 hq]
      have := hv p hp
      omega
    have h2 := (hY.app (Sam.rfl' (key := ky) (a := [x]))).trans (show Sam ky (u ++ v ++ [x]) (u ++ ([x] ++ v)) by rw [List.append_assoc]; exact Sam.rfl'.app h1)
    simpa using h2
set_option maxHeartbeats 8000000 in
set_option maxRecDepth 100000 in
theorem insertion_calls (w : World) (base g n c : Nat) (A X C : List S53) (h : RE w base g n c (A ++ X ++ C)) (hn : n ≤ 200) (a b : Nat) (ha : a = A.length) (hb : b = A.length + X.length) :
    Calls Try.prog 75 #[.slice (some ⟨g, 0, none⟩) n c, .int .i64 (a : Int), .int .i64 (b : Int), .func (.func 55) #[] #[]] w fun e w' => e = .returned (.tuple #[]) ∧ ∃ X', Srt ky X' ∧ Sam ky X X' ∧ RE w' base g n c (A ++ X' ++ C) ∧ w.grownBy w' (some g) := by
  have hlen := h.len
  simp only [List.length_append] at hlen
  have H := Aside0.mk h
  obtain ⟨m, hm⟩ : ∃ m, m = X.length := ⟨_, rfl⟩
  have HM := Aside0.mk hm
  have HA := Aside0.mk ha
  have HBL := Aside0.mk (show b = a + m by omega)
  have HNN := Aside0.mk hlen
  have ha2 : a ≤ 200 := by omega
  have hb2 : b ≤ 200 := by omega
  have hw1 : IntKind.i64.wrap ((a : Int) + 1) = ((a + 1 : Nat) : Int) := by rw [IntKind.wrap_i64]; omega
  clear h hlen hm ha hb
  go_enter Try.func75, Try.ntmps75
  go_wp2_with fail
  clear hw1
  go_loopw [8] (fun vi wr => ∃ (i k : Nat) (S : List S53), vi = .int .i64 (i : Int) ∧ i ≤ 201 ∧ Aside0 (i = a + k ∧ 1 ≤ k ∧ (k ≤ m ∨ k = 1) ∧ S.length = (X.take k).length) ∧ Aside0 (Srt ky S ∧ Sam ky (X.take k) S) ∧ Aside0 (RE wr base g n c (A ++ S ++ X.drop k ++ C)) ∧ Aside0 (w.grownBy wr (some g))) (fun vi _ => 400 - (intOf vi).toNat)
  case atStart =>
    refine ⟨a + 1, 1, X.take 1, by go_num, by omega, ⟨rfl, Nat.le_refl _, .inr rfl, rfl⟩, ⟨?_, Sam.rfl'⟩, ⟨by rw [List.append_assoc A, List.take_append_drop]; exact H.out⟩, ⟨gb_below _ (Below.refl _ _)⟩⟩
    match X with
    | [] => exact Srt.nil
    | x :: X => exact Srt.one x
  case round =>
    obtain ⟨i, k, S, rfl, hi201, HK, HSS, HR, HG⟩ := hrel
    by_cases hlt : i < b
    · have hib : (i : Int) < (b : Int) := by omega
      have hkm : k < X.length := by have := HK.out; have := HBL.out; have := HM.out; omega
      obtain ⟨x, hx⟩ : ∃ x, x = X[k] := ⟨_, rfl⟩
      obtain ⟨T, hT⟩ : ∃ T, T = X.drop (k + 1) ++ C := ⟨_, rfl⟩
      have HTK := Aside0.mk (show X.take (k + 1) = X.take k ++ [x] by rw [List.take_succ_eq_append_getElem hkm, hx])
      have HTT := Aside0.mk hT
      have HR0 := Aside0.mk (show RE wr base g n c (A ++ S ++ x :: ([] ++ T)) by
        have h := HR.out
        rw [List.drop_eq_getElem_cons hkm, ← hx, List.append_assoc (A ++ S), List.cons_append, ← hT] at h
        simpa using h)
      have hia : a < i := by have := HK.out; omega
      have HIL := Aside0.mk (show i = (A ++ S).length by rw [List.length_append, HK.out.2.2.2, List.length_take]; have := HK.out; have := HA.out; omega)
      clear hkm hx hT HR
      go_wp2_with fail
      go_loopw [9] (fun vj wq => ∃ (j : Nat) (u v : List S53), vj = .int .i64 (j : Int) ∧ a ≤ j ∧ j ≤ i ∧ Aside0 (j = a + u.length ∧ S = u ++ v) ∧ Aside0 (∀ z ∈ v, ky x < ky z) ∧ Aside0 (RE wq base g n c (A ++ u ++ x :: (v ++ T))) ∧ Aside0 (w.grownBy wq (some g))) (fun vj _ => (intOf vj).toNat)
      case atStart => exact ⟨i, S, [], rfl, by omega, Nat.le_refl _, ⟨by have := HIL.out; rw [List.length_append] at this; have := HA.out; omega, by rw [List.append_nil]⟩, ⟨fun z hz => absurd hz List.not_mem_nil⟩, HR0, HG⟩
      case round =>
        obtain ⟨j, u, v, rfl, haj, hji, HJ, HV, HR, HG⟩ := hrel
        rcases List.eq_nil_or_concat u with hu | ⟨u', y, hu⟩
        · have hja : j = a := by have h := HJ.out.1; rw [hu] at h; simpa using h
          have hja2 : j ≤ a := by omega
          obtain ⟨L, hL⟩ : ∃ L, L = A ++ u ++ x :: (v ++ T) := ⟨_, rfl⟩
          rw [← hL] at HR
          have HSV := Aside0.mk (show S = v by have h := HJ.out.2; rw [hu] at h; simpa using h)
          have HLX := Aside0.mk (show L = A ++ (x :: v) ++ X.drop (k + 1) ++ C by rw [hL, hu, HTT.out]; simp)
          have HEND := Aside0.mk (ins_end (S := S) (u := []) (v := v) (x := x) (by rw [List.nil_append]; exact HSV.out) HSS.out.1 (fun z hz => absurd hz List.not_mem_nil) HV.out)
          clear hu HJ hL hja
          go_wp2_with fail
          refine wp_eff (S := fun w' => RE w' base g n c L ∧ w.grownBy w' (some g)) [(0, false), (1, false), (2, false), (3, false), (4, false), (5, false), (6, false), (7, false), (8, false), (9, false), (10, false), (11, false), (12, false), (13, false), (14, true), (15, false), (16, false)] (by kernel_rfl) (by kernel_rfl) ⟨RE.below HR.out (below_drew1 (Below.refl _ _)), gb_trans HG.out (gb_below _ (below_drew1 (Below.refl _ _)))⟩ (fun _ _ d _ _ h => by cases d <;> exact h) ?_
          refine se_move rfl rfl rfl ?_
          refine se_move rfl rfl rfl ?_
          refine se_bin (v := .bool false) rfl rfl rfl rfl (fun w' hw => by go_simp) ?_
          refine se_move rfl rfl rfl ?_
          refine se_skip rfl rfl ?_
          refine se_skip rfl rfl ?_
          refine se_skip rfl rfl ?_
          refine se_skip rfl rfl ?_
          refine se_skip rfl rfl ?_
          refine se_skip rfl rfl ?_
          refine se_skip rfl rfl ?_
          refine se_skip rfl rfl ?_
          refine se_skip rfl rfl ?_
          refine se_skip rfl rfl ?_
          refine se_skip rfl rfl ?_
          refine se_skip rfl rfl ?_
          refine se_pickF rfl rfl rfl rfl ?_
          intro hR_
          have HR2 := Aside0.mk hR_.1
          have HG2 := Aside0.mk hR_.2
          clear hR_
          simp only [SeqE, puts, Act.put, List.setIfInBounds_toArray, List.set_cons_zero, List.set_cons_succ]
          have hk1 : k < m := by have := HK.out; have := HBL.out; omega
          have HKK := Aside0.mk (show (x :: v).length = (X.take (k + 1)).length by have h1 := HK.out.2.2.2; rw [HSV.out, List.length_take] at h1; rw [List.length_cons, List.length_take]; have := HM.out; omega)
          go_wp2
          go_roundw
          case rel => exact ⟨i + 1, k + 1, x :: v, by go_num, by omega, ⟨by have := HK.out; omega, by omega, .inl hk1, HKK.out⟩, ⟨HEND.out.1, by rw [HTK.out]; exact HEND.out.2 _ HSS.out.2⟩, ⟨by rw [← HLX.out]; exact HR2.out⟩, HG2⟩
          case measure => simp [intOf]; omega
        · have hu2 : u = u' ++ [y] := by rw [hu]; simp
          obtain ⟨i1, hi1⟩ : ∃ i1, i1 = (A ++ u').length := ⟨_, rfl⟩
          have hj1 : j = i1 + 1 := by have h1 := HJ.out.1; rw [hu2] at h1; rw [hi1]; simp at h1 ⊢; have := HA.out; omega
          have haj2 : a < j := by rw [hj1, hi1, List.length_append]; have := HA.out; omega
          have q0 : decide ((a : Int) < (j : Int)) = true := decide_eq_true (by omega)
          obtain ⟨P, hP⟩ : ∃ P, P = A ++ u' := ⟨_, rfl⟩
          obtain ⟨R, hR⟩ : ∃ R, R = v ++ T := ⟨_, rfl⟩
          obtain ⟨L, hL⟩ : ∃ L, L = P ++ y :: ([] ++ x :: R) := ⟨_, rfl⟩
          have hTW : Two L P [] R y x i1 j := ⟨hL, by rw [hi1, hP], by rw [hj1, hi1, hP]; rfl⟩
          have HTW := Aside0.mk hTW
          have HR := Aside0.mk (show RE wr base g n c L by have h := HR.out; rw [hu2] at h; rw [hL, hP, hR]; simpa using h)
          have HBi1 := Aside0.mk hTW.lti
          have HBj := Aside0.mk hTW.ltj
          have HLX := Aside0.mk (show L = A ++ (u ++ x :: v) ++ X.drop (k + 1) ++ C by rw [hL, hP, hR, hu2, HTT.out]; simp)
          have HNX := Aside0.mk (show P ++ x :: ([] ++ y :: R) = A ++ u' ++ x :: (y :: v ++ T) by rw [hP, hR]; simp)
          have HU := Aside0.mk (show u = u' ++ [y] ∧ i1 = a + u'.length from ⟨hu2, by rw [hi1, List.length_append, HA.out]⟩)
          have HS := Aside0.mk hTW.swji
          have HLi1 := Aside0.mk (show ∀ w', RE w' base g n c L → Sem.run Try.prog (Instr.loadAt 53 (.pointer (some ⟨g, i1 * 12, none⟩))) w' = .ok (v53 y) w' from fun w' hw => HTW.out.loadi hw)
          have HLj := Aside0.mk (show ∀ w', RE w' base g n c L → Sem.run Try.prog (Instr.loadAt 53 (.pointer (some ⟨g, j * 12, none⟩))) w' = .ok (v53 x) w' from fun w' hw => HTW.out.loadj hw)
          have hln := HR.out.len
          have hjn := hTW.ltj
          have hl1 : (i1 : Int) < (n : Int) := by omega
          have hl2 : (j : Int) < (n : Int) := by omega
          have hw1 : IntKind.i64.wrap ((j : Int) - 1) = (i1 : Int) := by rw [IntKind.wrap_i64]; omega
          clear hu hu2 hi1 hP hR hL hln hjn hTW
          by_cases hxy : ky x < ky y
          · have hc := cmp_true hxy
            have HXY := Aside0.mk hxy
            have HJ1 := Aside0.mk hj1
            clear hj1 hxy
            go_wp2_with fail
            refine wp_eff (S := fun w' => RE w' base g n c L ∧ w.grownBy w' (some g)) [(0, false), (1, false), (2, false), (3, false), (4, false), (5, false), (6, false), (7, false), (8, false), (9, false), (10, false), (11, false), (12, false), (13, false), (14, true), (15, false), (16, false)] (by kernel_rfl) (by kernel_rfl) ⟨RE.below HR.out (below_drew1 (Below.refl _ _)), gb_trans HG.out (gb_below _ (below_drew1 (Below.refl _ _)))⟩ (fun _ _ d _ _ h => by cases d <;> exact h) ?_
            refine se_move rfl rfl rfl ?_
            refine se_move rfl rfl rfl ?_
            refine se_bin (v := .bool true) rfl rfl rfl rfl (fun w' hw => by go_simp) ?_
            refine se_move rfl rfl rfl ?_
            refine se_move rfl rfl rfl ?_
            refine se_move rfl rfl rfl ?_
            refine se_move rfl rfl rfl ?_
            refine se_indexAddr (v := .pointer (some ⟨g, j * 12, none⟩)) rfl rfl rfl rfl (fun w' hw => by go_simp) ?_
            refine se_load (v := v53 x) rfl rfl rfl (fun w' hw => HLj.out w' hw.1) ?_
            refine se_move rfl rfl rfl ?_
            refine se_move rfl rfl rfl ?_
            refine se_bin (v := .int .i64 ((i1 : Nat) : Int)) rfl rfl rfl rfl (fun w' hw => by go_simp) ?_
            refine se_indexAddr (v := .pointer (some ⟨g, i1 * 12, none⟩)) rfl rfl rfl rfl (fun w' hw => by go_simp) ?_
            refine se_load (v := v53 y) rfl rfl rfl (fun w' hw => HLi1.out w' hw.1) ?_
            refine se_callv (f := 55) (vs := [v53 x, v53 y]) rfl rfl Try.func55 (by kernel_rfl) rfl rfl (by kernel_rfl) ?_
            refine (byStep_calls x y _).mono ?_
            rintro e' w_5 ⟨rfl, hb_⟩
            have hR_ := RE.below (RE.below HR.out (below_drew1 (Below.refl _ _))) hb_
            have hG_ := gb_trans (gb_trans HG.out (gb_below _ (below_drew1 (Below.refl _ _)))) (gb_below _ hb_)
            refine ⟨_, rfl, ⟨hR_, hG_⟩, ?_⟩
            refine se_bin (v := .bool true) rfl rfl rfl rfl (fun w' hw => by go_simp) ?_
            refine se_pickT rfl rfl rfl rfl ?_
            intro _
            have HR2 := Aside0.mk hR_
            have HG2 := Aside0.mk hG_
            clear hR_ hG_ hb_
            simp only [SeqE, puts, Act.put, List.setIfInBounds_toArray, List.set_cons_zero, List.set_cons_succ]
            clear HR HG
            have HR := HR2
            have HG := HG2
            clear HR2 HG2 hc q0
            go_wp2_with fail
            refine wp_dirtyU [0, 1, 2, 3, 4, 5, 6, 7, 8, 10, 11, 12] [15, 17] (fun w' => RE w' base g n c L ∧ w.grownBy w' (some g)) (fun _ => True) (fun _ _ => trivial) (.leaf [(9, false), (13, false), (14, false)] [(15, true), (16, false), (17, true)]) (by kernel_rfl) (by kernel_rfl) ⟨RE.below HR.out (below_drew1 (Below.refl _ _)), gb_trans HG.out (gb_below _ (below_drew1 (Below.refl _ _)))⟩ (fun _ _ d _ _ h => by cases d <;> exact h) ?_
            refine se_move rfl rfl rfl ?_
            refine se_move rfl rfl rfl ?_
            refine se_move rfl rfl rfl ?_
            refine se_move rfl rfl rfl ?_
            refine se_bin (v := .int .i64 ((i1 : Nat) : Int)) rfl rfl rfl rfl (fun w' hw => by go_simp) ?_
            refine se_move rfl rfl rfl ?_
            refine se_move rfl rfl rfl ?_
            refine se_bin (v := .int .i64 ((i1 : Nat) : Int)) rfl rfl rfl rfl (fun w' hw => by go_simp) ?_
            refine se_indexAddr (v := .pointer (some ⟨g, i1 * 12, none⟩)) rfl rfl rfl rfl (fun w' hw => by go_simp) ?_
            refine se_move rfl rfl rfl ?_
            refine se_move rfl rfl rfl ?_
            refine se_indexAddr (v := .pointer (some ⟨g, j * 12, none⟩)) rfl rfl rfl rfl (fun w' hw => by go_simp) ?_
            refine se_load (v := v53 y) rfl rfl rfl (fun w' hw => HLi1.out w' hw.1) ?_
            refine se_load (v := v53 x) rfl rfl rfl (fun w' hw => HLj.out w' hw.1) ?_
            refine se_indexAddr (v := .pointer (some ⟨g, j * 12, none⟩)) rfl rfl rfl rfl (fun w' hw => by go_simp) ?_
            obtain ⟨w_1, hrun1, hR1, hg1⟩ := RE.store (RE.below HR.out (below_drew1 (Below.refl _ _))) j (by first | exact HBj.out | (rw [List.length_set]; exact HBj.out)) y
            refine se_store rfl rfl rfl rfl hrun1 trivial ?_
            refine se_indexAddr (v := .pointer (some ⟨g, i1 * 12, none⟩)) rfl rfl rfl rfl (fun w' hw => by go_simp) ?_
            obtain ⟨w_2, hrun2, hR2, hg2⟩ := RE.store hR1 i1 (by first | exact HBi1.out | (rw [List.length_set]; exact HBi1.out)) x
            refine se_store rfl rfl rfl rfl hrun2 trivial ?_
            rw [HS.out] at hR2
            have HR2 := Aside0.mk hR2
            have HG2 := Aside0.mk (gb_trans (gb_trans HG.out (gb_below _ (below_drew1 (Below.refl _ _)))) (gb_trans hg1 hg2))
            clear hR1 hR2 hg1 hg2 hrun1 hrun2
            simp only [SeqE, puts, Act.put, List.setIfInBounds_toArray, List.set_cons_zero, List.set_cons_succ]
            go_wp2
            go_roundw
            case rel => exact ⟨i1, u', y :: v, rfl, by have := HU.out.2; omega, by have := HJ1.out; omega, ⟨HU.out.2, by rw [HJ.out.2, HU.out.1]; simp⟩, ⟨fun z hz => by
              rcases List.mem_cons.1 hz with e | e
              · rw [e]; exact HXY.out
              · exact HV.out z e⟩, ⟨by have h := HR2.out; rw [HNX.out] at h; exact h⟩, HG2⟩
            case measure => have := HJ1.out; simp [intOf]; omega
          · have hc := cmp_false hxy
            have HXY := Aside0.mk hxy
            clear hj1 hxy
            go_wp2_with fail
            refine wp_eff (S := fun w' => RE w' base g n c L ∧ w.grownBy w' (some g)) [(0, false), (1, false), (2, false), (3, false), (4, false), (5, false), (6, false), (7, false), (8, false), (9, false), (10, false), (11, false), (12, false), (13, false), (14, true), (15, false), (16, false)] (by kernel_rfl) (by kernel_rfl) ⟨RE.below HR.out (below_drew1 (Below.refl _ _)), gb_trans HG.out (gb_below _ (below_drew1 (Below.refl _ _)))⟩ (fun _ _ d _ _ h => by cases d <;> exact h) ?_
            refine se_move rfl rfl rfl ?_
            refine se_move rfl rfl rfl ?_
            refine se_bin (v := .bool true) rfl rfl rfl rfl (fun w' hw => by go_simp) ?_
            refine se_move rfl rfl rfl ?_
            refine se_move rfl rfl rfl ?_
            refine se_move rfl rfl rfl ?_
            refine se_move rfl rfl rfl ?_
            refine se_indexAddr (v := .pointer (some ⟨g, j * 12, none⟩)) rfl rfl rfl rfl (fun w' hw => by go_simp) ?_
            refine se_load (v := v53 x) rfl rfl rfl (fun w' hw => HLj.out w' hw.1) ?_
            refine se_move rfl rfl rfl ?_
            refine se_move rfl rfl rfl ?_
            refine se_bin (v := .int .i64 ((i1 : Nat) : Int)) rfl rfl rfl rfl (fun w' hw => by go_simp) ?_
            refine se_indexAddr (v := .pointer (some ⟨g, i1 * 12, none⟩)) rfl rfl rfl rfl (fun w' hw => by go_simp) ?_
            refine se_load (v := v53 y) rfl rfl rfl (fun w' hw => HLi1.out w' hw.1) ?_
            refine se_callv (f := 55) (vs := [v53 x, v53 y]) rfl rfl Try.func55 (by kernel_rfl) rfl rfl (by kernel_rfl) ?_
            refine (byStep_calls x y _).mono ?_
            rintro e' w_5 ⟨rfl, hb_⟩
            have hR_ := RE.below (RE.below HR.out (below_drew1 (Below.refl _ _))) hb_
            have hG_ := gb_trans (gb_trans HG.out (gb_below _ (below_drew1 (Below.refl _ _)))) (gb_below _ hb_)
            refine ⟨_, rfl, ⟨hR_, hG_⟩, ?_⟩
            refine se_bin (v := .bool false) rfl rfl rfl rfl (fun w' hw => by go_simp) ?_
            refine se_pickT rfl rfl rfl rfl ?_
            intro _
            have HR2 := Aside0.mk hR_
            have HG2 := Aside0.mk hG_
            clear hR_ hG_ hb_
            simp only [SeqE, puts, Act.put, List.setIfInBounds_toArray, List.set_cons_zero, List.set_cons_succ]
            have hk1 : k < m := by have := HK.out; have := HBL.out; omega
            have HKK := Aside0.mk (show (u ++ x :: v).length = (X.take (k + 1)).length by have h1 := HK.out.2.2.2; rw [HJ.out.2, List.length_append, List.length_take] at h1; rw [List.length_append, List.length_cons, List.length_take]; have := HM.out; omega)
            have HEND := Aside0.mk (ins_end (S := S) (u := u) (v := v) (x := x) HJ.out.2 HSS.out.1 (fun z hz => by
              rw [HU.out.1] at hz
              have hs := HSS.out.1
              rw [HJ.out.2, HU.out.1] at hs
              have hy : ky y ≤ ky x := by have := HXY.out; omega
              rcases List.mem_append.1 hz with e | e
              · have := hs.left.cross z e y (List.mem_singleton.2 rfl); omega
              · rw [List.mem_singleton.1 e]; exact hy) HV.out)
            go_wp2
            go_roundw
            case rel => exact ⟨i + 1, k + 1, u ++ x :: v, by go_num, by omega, ⟨by have := HK.out; omega, by omega, .inl hk1, HKK.out⟩, ⟨HEND.out.1, by rw [HTK.out]; exact HEND.out.2 _ HSS.out.2⟩, ⟨by rw [← HLX.out]; exact HR2.out⟩, HG2⟩
            case measure => simp [intOf]; omega
    · have HE := Aside0.mk (show Srt ky S ∧ Sam ky X S ∧ RE wr base g n c (A ++ S ++ C) by
        have hkm : X.length ≤ k := by have := HK.out; have := HBL.out; have := HM.out; omega
        have h1 := HSS.out.2
        have h2 := HR.out
        rw [List.take_of_length_le hkm] at h1
        rw [List.drop_eq_nil_of_le hkm, List.append_nil] at h2
        exact ⟨HSS.out.1, h1, h2⟩)
      have hib : b ≤ i := by omega
      go_wp2
      exact bodyPost_end (v := .tuple #[]) (results_none rfl _ _ _) rfl ⟨rfl, S, HE.out.1, HE.out.2.1, HE.out.2.2, HG.out⟩
end Go.Proofs.Ytblalidpeccabab.Rw
