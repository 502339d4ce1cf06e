/- slices.symMerge of events: its walk. -/
import Derived.Test.YtblalidpeccababRowsG
namespace Go.Proofs.Ytblalidpeccabab.Rw
open Go Go.RowKit Go.Lib Go.Proofs.YtblalidpeccababW.PrintWords Go.Proofs.YtblalidpeccababW.PrintLast Go.Proofs.YtblalidpeccababW.PrintMore Go.Proofs.Ytblalidpeccabab.PRowsThree Go.Proofs.Ytblalidpeccabab.Bs Go.Proofs.Ytblalidpeccabab.RegionVal
set_option linter.unusedVariables false
set_option linter.unusedSimpArgs false

theorem split_same (A U V C : List S53) {su ev : Nat} (h : U.length ≤ su ∨ ev = 0) : A ++ U ++ V ++ C = A ++ U.take su ++ V.take ev ++ (U.drop su ++ V.drop ev ++ C) := by
  rcases h with h | h
  · rw [List.take_of_length_le h, List.drop_eq_nil_of_le h, List.nil_append, List.append_assoc (A ++ U) (V.take ev), ← List.append_assoc (V.take ev), List.take_append_drop, ← List.append_assoc]
  · subst h
    rw [List.take_zero, List.drop_zero, List.append_nil, List.append_assoc A (U.take su), ← List.append_assoc (U.take su), ← List.append_assoc (U.take su), List.take_append_drop]
    simp only [List.append_assoc]
theorem split_rot (A U V C : List S53) (su ev : Nat) : A ++ U ++ V ++ C = (A ++ U.take su) ++ U.drop su ++ V.take ev ++ (V.drop ev ++ C) := by
  rw [List.append_assoc A (U.take su), List.take_append_drop, List.append_assoc (A ++ U) (V.take ev), ← List.append_assoc (V.take ev), List.take_append_drop, ← List.append_assoc]
theorem sam_nil {U V : List S53} (hU : Srt ky U) (hV : Srt ky V) (h : U = [] ∨ V = []) : Srt ky (U ++ V) := by
  rcases h with rfl | rfl
  · rwa [List.nil_append]
  · rwa [List.append_nil]

set_option maxHeartbeats 16000000 in
set_option maxRecDepth 100000 in
theorem symMerge_calls : ∀ (f : Nat) (w : World) (base g n c : Nat) (A U V C : List S53) (h : RE w base g n c (A ++ U ++ V ++ C)) (hn : n ≤ 200) (hU : Srt ky U) (hV : Srt ky V) (hu : 0 < U.length) (hv : 0 < V.length) (hf : U.length + V.length ≤ f) (a m b : Nat) (ha : a = A.length) (hm : m = A.length + U.length) (hb : b = A.length + U.length + V.length),
    Calls Try.prog 76 #[.slice (some ⟨g, 0, none⟩) n c, .int .i64 (a : Int), .int .i64 (m : Int), .int .i64 (b : Int), .func (.func 55) #[] #[]] w fun e w' => SymOk w base g n c A U V C e w' := by
  intro f
  induction f with
  | zero =>
    intro w base g n c A U V C h hn hU hV hu hv hf
    omega
  | succ f ih =>
  intro w base g n c A U V C h hn hU hV hu hv hf a m b ha hm hb
  by_cases hu1 : U.length = 1
  · obtain ⟨x, rfl⟩ := List.length_eq_one_iff.1 hu1
    exact sym_left w base g n c A x V C h hn hV a m b ha (by simpa using hm) (by simpa using hb)
  by_cases hv1 : V.length = 1
  · obtain ⟨y, rfl⟩ := List.length_eq_one_iff.1 hv1
    exact sym_right w base g n c A U y C h hn hU (by omega) a m b ha hm (by simpa using hb)
  have IH := Aside0.mk ih
  have hlen := h.len
  simp only [List.length_append] at hlen
  have HR := Aside0.mk h
  have HG := Aside0.mk (gb_below (some g) (Below.refl w.heap.size w))
  have HLN := Aside0.mk (show a = A.length ∧ m = a + U.length ∧ b = m + V.length ∧ n = b + C.length ∧ U.length + V.length ≤ f + 1 by omega)
  have HUS := Aside0.mk hU
  have HVS := Aside0.mk hV
  have ha2 : a ≤ 200 := by omega
  have hb2 : b ≤ 200 := by omega
  have hm2 : m ≤ 200 := by omega
  have hbn : b ≤ n := by omega
  have ham : a + 1 < m := by omega
  have hmb : m + 1 < b := by omega
  obtain ⟨d, hd⟩ : ∃ d, d = U.length := ⟨_, rfl⟩
  obtain ⟨d2, hd2⟩ : ∃ d2, d2 = V.length := ⟨_, rfl⟩
  obtain ⟨mid, hmid⟩ : ∃ mid, mid = (a + b) / 2 := ⟨_, rfl⟩
  obtain ⟨N, hN⟩ : ∃ N, N = mid + m := ⟨_, rfl⟩
  have hw1 : IntKind.i64.wrap ((m : Int) - (a : Int)) = (d : Int) := by rw [IntKind.wrap_i64]; omega
  have hq1 : ((d : Int) == 1) = false := beq_eq_false_iff_ne.mpr (by omega)
  have hw2 : IntKind.i64.wrap ((b : Int) - (m : Int)) = (d2 : Int) := by rw [IntKind.wrap_i64]; omega
  have hq2 : ((d2 : Int) == 1) = false := beq_eq_false_iff_ne.mpr (by omega)
  have hmi : ((a : Int) + (b : Int)) / 2 = (mid : Int) := by omega
  have hw3 : IntKind.i64.wrap ((mid : Int) + (m : Int)) = (N : Int) := by rw [IntKind.wrap_i64]; omega
  have hmid1 : 2 * mid ≤ a + b := by omega
  have hmid2 : a + b ≤ 2 * mid + 1 := by omega
  have hN400 : N ≤ 400 := by omega
  have hNm : m ≤ N := by omega
  have HN := Aside0.mk hN
  clear h hlen ha hm hb hU hV hd hd2 hu hv hf hu1 hv1 hmid hN ih
  go_enter Try.func76, Try.ntmps76
  by_cases hmm : mid < m
  case' pos =>
    have hmm1 : (mid : Int) < (m : Int) := by omega
    have hw4 : IntKind.i64.wrap ((N : Int) - (b : Int)) = ((N - b : Nat) : Int) := by rw [IntKind.wrap_i64]; have := HN.out; omega
    go_upto_region 32 with (fail)
    obtain ⟨lo, hi, HLH⟩ : ∃ lo hi, Aside0 (lo = N - b ∧ hi = mid) := ⟨_, _, ⟨rfl, rfl⟩⟩
    have HLO := Aside0.mk (show lo = a ∨ lo + b = N by right; have := HN.out; have := HLH.out; omega)
    have HHI := Aside0.mk (show hi = m ∨ hi = mid from .inr HLH.out.2)
    have hlohi : lo ≤ hi := by have := HN.out; have := HLH.out; omega
    have him : hi ≤ m := by have := HLH.out; omega
    have himid : hi ≤ mid := by have := HLH.out; omega
    have halo : a ≤ lo := by have := HN.out; have := HLH.out; omega
    have hlb : N ≤ lo + b := by have := HLH.out; omega
    clear hw4 hmm1 hmm
  case' neg =>
    have hmm1 : m ≤ mid := by omega
    go_upto_region 32 with (fail)
    obtain ⟨lo, hi, HLH⟩ : ∃ lo hi, Aside0 (lo = a ∧ hi = m) := ⟨_, _, ⟨rfl, rfl⟩⟩
    have HLO := Aside0.mk (show lo = a ∨ lo + b = N from .inl HLH.out.1)
    have HHI := Aside0.mk (show hi = m ∨ hi = mid from .inl HLH.out.2)
    have hlohi : lo ≤ hi := by have := HLH.out; omega
    have him : hi ≤ m := by have := HLH.out; omega
    have himid : hi ≤ mid := by have := HLH.out; omega
    have halo : a ≤ lo := by have := HLH.out; omega
    have hlb : N ≤ lo + b := by have := HN.out; have := HLH.out; omega
    clear hmm1 hmm
  all_goals
    obtain ⟨p1, hp1⟩ : ∃ p1, p1 = N - 1 := ⟨_, rfl⟩
    have hw5 : IntKind.i64.wrap ((N : Int) - 1) = (p1 : Int) := by rw [IntKind.wrap_i64]; omega
    have HP1 := Aside0.mk (show N = p1 + 1 by omega)
    clear hw1 hw2 hw3 hmi hq1 hq2 hp1
    go_wp2_with fail
    clear hw5
    go_loopw [20, 21] (fun vi vj wr => ∃ (s r : Nat), vi = .int .i64 (s : Int) ∧ vj = .int .i64 (r : Int) ∧ lo ≤ s ∧ s ≤ r ∧ r ≤ hi ∧ Aside0 (s = lo ∨ ky (U.getD (s - 1 - a) z53) ≤ ky (V.getD (mid - s) z53)) ∧ Aside0 (r = hi ∨ ky (V.getD (mid - 1 - r) z53) < ky (U.getD (r - a) z53)) ∧ Aside0 (RE wr base g n c (A ++ U ++ V ++ C)) ∧ Aside0 (w.grownBy wr (some g))) (fun vi vj _ => (intOf vj).toNat - (intOf vi).toNat)
    case atStart =>
      have h1 := HLH.out.1
      have h2 := HLH.out.2
      first
        | exact ⟨N - b, mid, rfl, rfl, by omega, by omega, by omega, ⟨.inl h1.symm⟩, ⟨.inl h2.symm⟩, HR, HG⟩
        | exact ⟨a, m, rfl, rfl, by omega, by omega, by omega, ⟨.inl h1.symm⟩, ⟨.inl h2.symm⟩, HR, HG⟩
    case' round =>
      obtain ⟨s, r, rfl, rfl, hls, hsr, hrh, HP, HQ, HR, HG⟩ := hrel
      by_cases hlt : s < r
      case' pos =>
        have hlt1 : (s : Int) < (r : Int) := by omega
        obtain ⟨h, hh⟩ : ∃ h, h = (s + r) / 2 := ⟨_, rfl⟩
        have hh2 : ((s : Int) + (r : Int)) / 2 = (h : Int) := by omega
        have hhi2 : s ≤ h := by omega
        have hhj : h < r := by omega
        obtain ⟨q, hq⟩ : ∃ q, q = p1 - h := ⟨_, rfl⟩
        have hqq : q + h = p1 := by have := HP1.out; omega
        have hw6 : IntKind.i64.wrap ((p1 : Int) - (h : Int)) = (q : Int) := by rw [IntKind.wrap_i64]; have := HP1.out; omega
        have hqm : m ≤ q := by have := HP1.out; have := HN.out; omega
        have hqb : q < b := by have := HP1.out; omega
        have hhu : h - a < U.length := by have := HLN.out; omega
        have hqv : q - m < V.length := by have := HLN.out; omega
        have HQV := Aside0.mk (show q - m = mid - 1 - h by have := HP1.out; have := HN.out; omega)
        obtain ⟨x, hx⟩ : ∃ x, x = U[h - a] := ⟨_, rfl⟩
        obtain ⟨y, hy⟩ : ∃ y, y = V[q - m] := ⟨_, rfl⟩
        obtain ⟨L, hL⟩ : ∃ L, L = A ++ U ++ V ++ C := ⟨_, rfl⟩
        have HXX := Aside0.mk (show U.getD (h - a) z53 = x by rw [getD_e hhu, hx])
        have HYY := Aside0.mk (show V.getD (mid - 1 - h) z53 = y by rw [← HQV.out, getD_e hqv, hy])
        have hg1 : L[h]? = some x := by
          have h1 := get_mid (A := A) (C := V ++ C) hhu
          rw [show A.length + (h - a) = h by have := HLN.out; omega, ← hx] at h1
          rw [hL, List.append_assoc (A ++ U)]
          exact h1
        have hg2 : L[q]? = some y := by
          have h1 := get_mid (A := A ++ U) (C := C) hqv
          rw [List.length_append, show A.length + U.length + (q - m) = q by have := HLN.out; omega, ← hy] at h1
          rw [hL]
          exact h1
        have HLX := Aside0.mk hL
        rw [← hL] at HR
        have HLh := Aside0.mk (show ∀ w', RE w' base g n c L → Sem.run Try.prog (Instr.loadAt 53 (.pointer (some ⟨g, h * 12, none⟩))) w' = .ok (v53 x) w' from fun w' hw => hw.loadz hg1)
        have HLq := Aside0.mk (show ∀ w', RE w' base g n c L → Sem.run Try.prog (Instr.loadAt 53 (.pointer (some ⟨g, q * 12, none⟩))) w' = .ok (v53 y) w' from fun w' hw => hw.loadz hg2)
        have hl1 : (h : Int) < (n : Int) := by omega
        have hl2 : (q : Int) < (n : Int) := by omega
        clear hh hq hqq hhu hqv hx hy hL hg1 hg2
        by_cases hc0 : ky y < ky x
        · have hc := cmp_true hc0
          have HC0 := Aside0.mk hc0
          clear hc0
          go_wp2_with fail
          refine wp_eff (S := fun w' => RE w' base g n c L ∧ w.grownBy w' (some g)) [(0, false), (1, false), (2, false), (3, false), (4, false), (5, false), (6, false), (7, false), (8, false), (9, false), (10, false), (11, true), (12, false), (13, false)] (by kernel_rfl) (by kernel_rfl) ⟨RE.below HR.out (below_drew1 (Below.refl _ _)), gb_trans HG.out (gb_below _ (below_drew1 (Below.refl _ _)))⟩ (fun _ _ d _ _ h => by cases d <;> exact h) ?_
          refine se_move rfl rfl rfl ?_
          refine se_move rfl rfl rfl ?_
          refine se_move rfl rfl rfl ?_
          refine se_move rfl rfl rfl ?_
          refine se_bin (v := .int .i64 ((q : Nat) : Int)) rfl rfl rfl rfl (fun w' hw => by go_simp) ?_
          refine se_indexAddr (v := .pointer (some ⟨g, q * 12, none⟩)) rfl rfl rfl rfl (fun w' hw => by go_simp) ?_
          refine se_load (v := v53 y) rfl rfl rfl (fun w' hw => HLq.out w' hw.1) ?_
          refine se_move rfl rfl rfl ?_
          refine se_move rfl rfl rfl ?_
          refine se_indexAddr (v := .pointer (some ⟨g, h * 12, none⟩)) rfl rfl rfl rfl (fun w' hw => by go_simp) ?_
          refine se_load (v := v53 x) rfl rfl rfl (fun w' hw => HLh.out w' hw.1) ?_
          refine se_callv (f := 55) (vs := [v53 y, v53 x]) rfl rfl Try.func55 (by kernel_rfl) rfl rfl (by kernel_rfl) ?_
          refine (byStep_calls y x _).mono ?_
          rintro e' w_5 ⟨rfl, hb_⟩
          have hR_ := RE.below (RE.below HR.out (below_drew1 (Below.refl _ _))) hb_
          have hG_ := gb_trans (gb_trans HG.out (gb_below _ (below_drew1 (Below.refl _ _)))) (gb_below _ hb_)
          refine ⟨_, rfl, ⟨hR_, hG_⟩, ?_⟩
          refine se_bin (v := .bool true) rfl rfl rfl rfl (fun w' hw => by go_simp) ?_
          refine se_un (v := .bool false) rfl rfl rfl rfl rfl (fun w' hw => by go_simp) ?_
          intro _
          have HR2 := Aside0.mk hR_
          have HG2 := Aside0.mk hG_
          clear hR_ hG_ hb_
          simp only [SeqE, puts, Act.put, List.setIfInBounds_toArray, List.set_cons_zero, List.set_cons_succ]
          go_wp2
          go_roundw
          case rel => exact ⟨s, h, rfl, rfl, hls, hhi2, by omega, HP, ⟨.inr (by rw [HXX.out, HYY.out]; exact HC0.out)⟩, ⟨by rw [← HLX.out]; exact HR2.out⟩, HG2⟩
          case measure => simp [intOf]; omega
        · have hc := cmp_false hc0
          have HC0 := Aside0.mk (show ky x ≤ ky y by omega)
          clear hc0
          go_wp2_with fail
          refine wp_eff (S := fun w' => RE w' base g n c L ∧ w.grownBy w' (some g)) [(0, false), (1, false), (2, false), (3, false), (4, false), (5, false), (6, false), (7, false), (8, false), (9, false), (10, false), (11, true), (12, false), (13, false)] (by kernel_rfl) (by kernel_rfl) ⟨RE.below HR.out (below_drew1 (Below.refl _ _)), gb_trans HG.out (gb_below _ (below_drew1 (Below.refl _ _)))⟩ (fun _ _ d _ _ h => by cases d <;> exact h) ?_
          refine se_move rfl rfl rfl ?_
          refine se_move rfl rfl rfl ?_
          refine se_move rfl rfl rfl ?_
          refine se_move rfl rfl rfl ?_
          refine se_bin (v := .int .i64 ((q : Nat) : Int)) rfl rfl rfl rfl (fun w' hw => by go_simp) ?_
          refine se_indexAddr (v := .pointer (some ⟨g, q * 12, none⟩)) rfl rfl rfl rfl (fun w' hw => by go_simp) ?_
          refine se_load (v := v53 y) rfl rfl rfl (fun w' hw => HLq.out w' hw.1) ?_
          refine se_move rfl rfl rfl ?_
          refine se_move rfl rfl rfl ?_
          refine se_indexAddr (v := .pointer (some ⟨g, h * 12, none⟩)) rfl rfl rfl rfl (fun w' hw => by go_simp) ?_
          refine se_load (v := v53 x) rfl rfl rfl (fun w' hw => HLh.out w' hw.1) ?_
          refine se_callv (f := 55) (vs := [v53 y, v53 x]) rfl rfl Try.func55 (by kernel_rfl) rfl rfl (by kernel_rfl) ?_
          refine (byStep_calls y x _).mono ?_
          rintro e' w_5 ⟨rfl, hb_⟩
          have hR_ := RE.below (RE.below HR.out (below_drew1 (Below.refl _ _))) hb_
          have hG_ := gb_trans (gb_trans HG.out (gb_below _ (below_drew1 (Below.refl _ _)))) (gb_below _ hb_)
          refine ⟨_, rfl, ⟨hR_, hG_⟩, ?_⟩
          refine se_bin (v := .bool false) rfl rfl rfl rfl (fun w' hw => by go_simp) ?_
          refine se_un (v := .bool true) rfl rfl rfl rfl rfl (fun w' hw => by go_simp) ?_
          intro _
          have HR2 := Aside0.mk hR_
          have HG2 := Aside0.mk hG_
          clear hR_ hG_ hb_
          simp only [SeqE, puts, Act.put, List.setIfInBounds_toArray, List.set_cons_zero, List.set_cons_succ]
          go_wp2
          go_roundw
          case rel => exact ⟨h + 1, r, by go_num, rfl, by omega, by omega, hrh, ⟨.inr (by rw [show h + 1 - 1 - a = h - a by omega, show mid - (h + 1) = mid - 1 - h by omega, HXX.out, HYY.out]; exact HC0.out)⟩, HQ, ⟨by rw [← HLX.out]; exact HR2.out⟩, HG2⟩
          case measure => simp [intOf]; omega
      case' neg =>
        obtain rfl : s = r := by omega
        obtain ⟨e, he⟩ : ∃ e, e = N - s := ⟨_, rfl⟩
        obtain ⟨su, hsu⟩ : ∃ su, su = s - a := ⟨_, rfl⟩
        obtain ⟨ev, hev⟩ : ∃ ev, ev = e - m := ⟨_, rfl⟩
        have hee : e + s = N := by omega
        have HEV := Aside0.mk (show ev + s = mid ∧ su + a = s ∧ ev + m = e by have := HN.out; omega)
        have hsU : su ≤ U.length := by have := HLN.out; omega
        have heV : ev ≤ V.length := by have := HLN.out; omega
        have h1 : su = U.length ∨ ev = 0 ∨ ky (V.getD (ev - 1) z53) < ky (U.getD su z53) := by
          rcases HQ.out with h | h
          · rcases HHI.out with h' | h'
            · exact .inl (by have := HLN.out; omega)
            · exact .inr (.inl (by have := HEV.out; omega))
          · rw [show mid - 1 - s = ev - 1 by have := HEV.out; omega, ← hsu] at h
            exact .inr (.inr h)
        have h2 : su = 0 ∨ ev = V.length ∨ ¬ ky (V.getD ev z53) < ky (U.getD (su - 1) z53) := by
          rcases HP.out with h | h
          · rcases HLO.out with h' | h'
            · exact .inl (by omega)
            · exact .inr (.inl (by have := HLN.out; have := HEV.out; omega))
          · rw [show mid - s = ev by have := HEV.out; omega, show s - 1 - a = su - 1 by omega] at h
            exact .inr (.inr (by omega))
        have HMAIN := Aside0.mk (fun X1 X2 => sm_main (U := U) (V := V) HUS.out HVS.out hsU heV h1 h2 X1 X2)
        have HSZ := Aside0.mk (show (U.take su).length = su ∧ (V.take ev).length = ev ∧ (U.drop su).length + su = U.length ∧ (V.drop ev).length + ev = V.length by rw [List.length_take, List.length_take, List.length_drop, List.length_drop]; omega)
        have hw7 : IntKind.i64.wrap ((N : Int) - (s : Int)) = (e : Int) := by rw [IntKind.wrap_i64]; omega
        have hsm : s ≤ m := by omega
        have hsmid : s ≤ mid := by omega
        have hebb : e ≤ b := by omega
        have hmide : mid ≤ e := by have := HN.out; omega
        clear HP HQ h1 h2 he hsu hev hsU heV hee
        go_upto_region 39 with (fail)
        clear hw7
        by_cases c1 : s < m ∧ m < e
        case' pos =>
          obtain ⟨c1a, c1b⟩ := c1
          have k1 : (s : Int) < (m : Int) := by omega
          have k2 : (m : Int) < (e : Int) := by omega
          have hrot := rotate_calls wr base g n c (A ++ U.take su) (U.drop su) (V.take ev) (V.drop ev ++ C) (by rw [← split_rot]; exact HR.out) hn (by have := HSZ.out; have := HEV.out; have := HLN.out; omega) (by have := HSZ.out; have := HEV.out; omega) s m e (by rw [List.length_append]; have := HSZ.out; have := HEV.out; have := HLN.out; omega) (by rw [List.length_append]; have := HSZ.out; have := HEV.out; have := HLN.out; omega) (by rw [List.length_append]; have := HSZ.out; have := HEV.out; have := HLN.out; omega)
          have HROT := Aside0.mk hrot
          clear hrot
          go_wp2_with fail
          refine HROT.out.mono ?_
          rintro e' w6 ⟨rfl, hR, hg⟩
          have HG := Aside0.mk (gb_trans HG.out hg)
          have HR := Aside0.mk (show RE w6 base g n c (A ++ U.take su ++ V.take ev ++ (U.drop su ++ V.drop ev ++ C)) by simpa only [List.append_assoc] using hR)
          clear hR hg HROT c1a c1b k1 k2
          go_upto_region 41 with (fail)
          generalize w6 = Z at HR HG ⊢
        case' neg =>
          have HR := Aside0.mk (show RE wr base g n c (A ++ U.take su ++ V.take ev ++ (U.drop su ++ V.drop ev ++ C)) by rw [← split_same A U V C (by have := HEV.out; have := HLN.out; omega)]; exact HR.out)
          by_cases c1a : s < m
          case' pos =>
            have k1 : (s : Int) < (m : Int) := by omega
            have k2 : e ≤ m := by omega
            go_upto_region 41 with (fail)
            clear k1 k2 c1a c1
          case' neg =>
            have k1 : m ≤ s := by omega
            go_upto_region 41 with (fail)
            clear k1 c1a c1
          all_goals generalize wr = Z at HR HG ⊢
        all_goals
          by_cases c2 : a < s ∧ s < mid
          case' pos =>
            obtain ⟨c2a, c2b⟩ := c2
            have k1 : (a : Int) < (s : Int) := by omega
            have k2 : (s : Int) < (mid : Int) := by omega
            have HC1 := Aside0.mk (IH.out Z base g n c A (U.take su) (V.take ev) (U.drop su ++ V.drop ev ++ C) HR.out hn (srt_take HUS.out su) (srt_take HVS.out ev) (by have := HSZ.out; have := HEV.out; omega) (by have := HSZ.out; have := HEV.out; omega) (by have := HSZ.out; have := HEV.out; have := HLN.out; omega) a s mid HLN.out.1 (by have := HSZ.out; have := HEV.out; have := HLN.out; omega) (by have := HSZ.out; have := HEV.out; have := HLN.out; omega))
            go_wp2_with fail
            refine HC1.out.mono ?_
            rintro e' w7 ⟨rfl, X1, hs1, hm1, hR, hg⟩
            have HG := Aside0.mk (gb_trans HG.out hg)
            have hl1 := HR.out.len
            have hl2 := hR.len
            simp only [List.length_append] at hl1 hl2
            have HX1 := Aside0.mk (show Srt ky X1 ∧ Sam ky (U.take su ++ V.take ev) X1 ∧ X1.length + a = mid from ⟨hs1, hm1, by have := HSZ.out; have := HEV.out; omega⟩)
            have HR := Aside0.mk hR
            clear hR hg hs1 hm1 hl1 hl2 HC1 c2a c2b k1 k2
            go_upto_region 43 with (fail)
            generalize w7 = Z2 at HR HG ⊢
          case' neg =>
            have hnil : U.take su = [] ∨ V.take ev = [] := by
              by_cases h0 : su = 0
              · left; rw [h0, List.take_zero]
              · right; rw [show ev = 0 by have := HEV.out; omega, List.take_zero]
            obtain ⟨X1, hX1⟩ : ∃ X1, X1 = U.take su ++ V.take ev := ⟨_, rfl⟩
            have HX1 := Aside0.mk (show Srt ky X1 ∧ Sam ky (U.take su ++ V.take ev) X1 ∧ X1.length + a = mid by rw [hX1]; exact ⟨sam_nil (srt_take HUS.out su) (srt_take HVS.out ev) hnil, Sam.rfl', by rw [List.length_append]; have := HSZ.out; have := HEV.out; omega⟩)
            have HR := Aside0.mk (show RE Z base g n c (A ++ X1 ++ (U.drop su ++ V.drop ev ++ C)) by rw [hX1, ← List.append_assoc A]; exact HR.out)
            clear hnil hX1
            by_cases c2a : a < s
            case' pos =>
              have k1 : (a : Int) < (s : Int) := by omega
              have k2 : mid ≤ s := by omega
              go_upto_region 43 with (fail)
              clear k1 k2 c2a c2
            case' neg =>
              have k1 : s ≤ a := by omega
              go_upto_region 43 with (fail)
              clear k1 c2a c2
            all_goals generalize Z = Z2 at HR HG ⊢
          all_goals
            by_cases c3 : mid < e ∧ e < b
            case' pos =>
              obtain ⟨c3a, c3b⟩ := c3
              have k1 : (mid : Int) < (e : Int) := by omega
              have k2 : (e : Int) < (b : Int) := by omega
              have HC1 := Aside0.mk (IH.out Z2 base g n c (A ++ X1) (U.drop su) (V.drop ev) C (by have h := HR.out; simpa only [List.append_assoc] using h) hn (srt_drop HUS.out su) (srt_drop HVS.out ev) (by have := HSZ.out; have := HEV.out; have := HLN.out; omega) (by have := HSZ.out; have := HEV.out; have := HLN.out; omega) (by have := HSZ.out; have := HEV.out; have := HLN.out; omega) mid e b (by rw [List.length_append]; have := HX1.out.2.2; have := HLN.out; omega) (by rw [List.length_append]; have := HX1.out.2.2; have := HSZ.out; have := HEV.out; have := HLN.out; omega) (by rw [List.length_append]; have := HX1.out.2.2; have := HSZ.out; have := HEV.out; have := HLN.out; omega))
              go_wp2_with fail
              refine HC1.out.mono ?_
              rintro e' w8 ⟨rfl, X2, hs2, hm2', hR, hg⟩
              have HG := Aside0.mk (gb_trans HG.out hg)
              have HX2 := Aside0.mk (HMAIN.out X1 X2 HX1.out.1 hs2 HX1.out.2.1 hm2')
              have HR := Aside0.mk (show RE w8 base g n c (A ++ (X1 ++ X2) ++ C) by rw [← List.append_assoc A]; exact hR)
              clear hR hg hs2 hm2' HC1 c3a c3b k1 k2
              go_wp2
              exact bodyPost_end (v := .tuple #[]) (results_none rfl _ _ _) rfl ⟨rfl, _, HX2.out.1, HX2.out.2, HR.out, HG.out⟩
            case' neg =>
              have hnil : U.drop su = [] ∨ V.drop ev = [] := by
                by_cases h0 : e = b
                · right; exact List.drop_eq_nil_of_le (by have := HEV.out; have := HLN.out; omega)
                · left; exact List.drop_eq_nil_of_le (by have := HEV.out; have := HLN.out; have := HN.out; omega)
              have HX2 := Aside0.mk (HMAIN.out X1 (U.drop su ++ V.drop ev) HX1.out.1 (sam_nil (srt_drop HUS.out su) (srt_drop HVS.out ev) hnil) HX1.out.2.1 Sam.rfl')
              have HR := Aside0.mk (show RE Z2 base g n c (A ++ (X1 ++ (U.drop su ++ V.drop ev)) ++ C) by have h := HR.out; simpa only [List.append_assoc] using h)
              clear hnil
              by_cases c3a : mid < e
              case' pos =>
                have k1 : (mid : Int) < (e : Int) := by omega
                have k2 : b ≤ e := by omega
                go_wp2
              case' neg =>
                have k1 : e ≤ mid := by omega
                go_wp2
              all_goals exact bodyPost_end (v := .tuple #[]) (results_none rfl _ _ _) rfl ⟨rfl, _, HX2.out.1, HX2.out.2, HR.out, HG.out⟩
end Go.Proofs.Ytblalidpeccabab.Rw
