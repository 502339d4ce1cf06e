/- hunt.pick, hunt.Pick. -/
import Derived.Test.YtblalidpeccabaaHuntD
namespace Go.Proofs.Ytblalidpeccabaa.Hn
open Go Go.RowKit Go.Lib Go.Proofs.YtblalidpeccabaaW.PrintWords Go.Proofs.YtblalidpeccabaaW.PrintLast Go.Proofs.YtblalidpeccabaaW.PrintMore Go.Proofs.Ytblalidpeccabaa.PHuntParts Go.Proofs.Ytblalidpeccabaa.Sc Go.Proofs.Ytblalidpeccabaa.Bs Go.Proofs.Ytblalidpeccabaa.RegionVal Go.Proofs.Ytblalidpeccabaa.Sm Go.Proofs.Ytblalidpeccabaa.Hp
attribute [local go_sem] max2_int min2_int max_two min_two
set_option linter.unusedVariables false
set_option linter.unusedSimpArgs false

def cnt (S row : List Int) (q : Nat) : Nat := ((row.take q).filter fun k => S.contains k).length
theorem cnt_le (S row : List Int) (q : Nat) : cnt S row q ≤ q := Nat.le_trans (List.length_filter_le _ _) (List.length_take_le _ _)
theorem cnt_succ (S row : List Int) {q : Nat} (hq : q < row.length) : cnt S row (q + 1) = cnt S row q + (if row[q] ∈ S then 1 else 0) := by
  unfold cnt
  rw [List.take_succ_eq_append_getElem hq, List.filter_append, List.length_append, List.filter_cons, List.filter_nil]
  by_cases h : row[q] ∈ S
  · rw [if_pos h, if_pos (by rw [List.contains_iff_mem]; exact h)]; rfl
  · rw [if_neg h, if_neg (by rw [List.contains_iff_mem]; exact h)]; rfl

set_option maxHeartbeats 8000000 in
set_option maxRecDepth 100000 in
theorem pick_calls (w : World) (hb : Nat) (l : List S35) (A : Option Addr) (c : Nat) (S : List Int) (bad : Int) (hH : Hunter w hb (bkS l)) (hl : l.length ≤ 200) (hC : Kd.C (Kd.int .i64) w A S.length S) (hc : S.length ≤ c) (hS : ∀ n ∈ S, 0 ≤ n ∧ n < (l.length : Int)) (hSl : S.length ≤ 200) :
    Calls Try.prog 34 #[.pointer (some ⟨hb, 0, none⟩), .slice A S.length c, .int .i64 bad] w fun e w' => e = .returned (.int .i64 (pickF (us l) S bad)) ∧ Below w.heap.size w w' := by
  have HH := Aside0.mk hH
  have HC := Aside0.mk hC
  have HS := Aside0.mk hS
  clear hH hC hS
  go_enter Try.func34, Try.ntmps34
  go_wp2_with fail
  go_loopw [7, 8, 17] (fun a b i wr => ∃ (k : Nat) (x y : Int), k ≤ S.length ∧ i = .int .i64 (k : Int) ∧ a = .int .i64 x ∧ b = .int .i64 y ∧ Aside0 (pickL (us l) S bad (S.take k) = (x, y)) ∧ Aside0 (Below w.heap.size w wr)) (fun _ _ i _ => S.length - (intOf i).toNat)
  case atStart => exact ⟨0, -1, -1, Nat.zero_le _, rfl, rfl, rfl, ⟨by rw [List.take_zero]; rfl⟩, ⟨Below.refl _ _⟩⟩
  case round =>
    obtain ⟨k, x, y, hk, rfl, rfl, rfl, HP, HB⟩ := hrel
    by_cases hlt : k < S.length
    · have hk1 : (k : Int) < (S.length : Int) := by omega
      obtain ⟨ad, rfl, e0⟩ := Kd.at_int (Kd.C_below HC.out HB.out) (k : Int) (by omega) (by omega)
      have hrd : rd S (k : Int) = S[k] := by simp [rd, List.getD_eq_getElem?_getD, hlt]
      rw [hrd, Int.toNat_natCast] at e0
      have hz := HS.out S[k] (List.getElem_mem _)
      have HTK := Aside0.mk (show S.take (k + 1) = S.take k ++ [S[k]] from List.take_succ_eq_append_getElem hlt)
      obtain ⟨n, hn⟩ : ∃ n : Nat, S[k] = (n : Int) := ⟨S[k].toNat, by omega⟩
      rw [hn] at e0 hz HTK
      have hnl : n < l.length := by omega
      have hnb : n < (bkS l).length := by rw [bkS_length]; exact hnl
      obtain ⟨A0, c0, g0, hc0, hC0⟩ := HH.out.below HB.out
      obtain ⟨ad1, A1, c1, rfl, g1, hc1, hC1⟩ := at_row hC0 hnb
      have hrow : (bkS l)[n] = bk (us l) n := by
        have := bkS_get hnl
        rw [List.getElem?_eq_getElem hnb] at this
        exact Option.some.inj this
      rw [hrow] at g1 hc1 hC1
      have hrl : (bk (us l) n).length ≤ 200 := by have := bk_length (us l) n; rw [us_length] at this; omega
      have HPART := Aside0.mk (show half (us l) S (n : Int) = min (cnt S (bk (us l) n) (bk (us l) n).length : Int) ((S.length : Int) - (cnt S (bk (us l) n) (bk (us l) n).length : Int)) by
        unfold half Hp.part cnt
        rw [Int.toNat_natCast, List.take_length])
      have HSTEP := Aside0.mk (show pickL (us l) S bad (S.take (k + 1)) = pstep (us l) S bad (x, y) (n : Int) by rw [HTK.out, pickL_snoc, HP.out])
      generalize bk (us l) n = row at g1 hc1 hC1 hrl HPART
      have HC1 := Aside0.mk hC1
      have hnI : (n : Int) < (l.length : Int) := by omega
      rw [bkS_length] at g0 hc0
      clear hrd hn hz hC0 hC1 hrow hnb
      go_wp2_with fail
      go_loopw [11, 29] (fun p q wq => ∃ m : Nat, m ≤ row.length ∧ q = .int .i64 (m : Int) ∧ p = .int .i64 (cnt S row m : Int) ∧ Aside0 (Below wr.heap.size wr wq)) (fun _ q _ => row.length - (intOf q).toNat)
      case atStart => exact ⟨0, Nat.zero_le _, rfl, by simp [cnt], ⟨Below.refl _ _⟩⟩
      case round =>
        obtain ⟨m, hm, rfl, rfl, HBq⟩ := hrel
        have hcm := cnt_le S row m
        have HBw := Aside0.mk (below_then HB.out HB.out.size HBq.out)
        by_cases hmt : m < row.length
        · have hm1 : (m : Int) < (row.length : Int) := by omega
          obtain ⟨ad2, rfl, r0⟩ := Kd.at_int (Kd.C_below HC1.out HBq.out) (m : Int) (by omega) (by omega)
          have hrd : rd row (m : Int) = row[m] := by simp [rd, List.getD_eq_getElem?_getD, hmt]
          rw [hrd, Int.toNat_natCast] at r0
          have HCS := Aside0.mk (cnt_succ S row hmt)
          generalize row[m] = z at r0 HCS
          generalize cnt S row m = cm at hcm HCS ⊢
          clear hrd
          go_wp2_with fail
          refine (contains_calls _ (some ad) c S z (Kd.C_below HC.out HBw.out) hc).mono ?_
          rintro e w2 ⟨rfl, hb2⟩
          have HB2 := Aside0.mk (below_then HBq.out HBq.out.size hb2)
          clear hb2
          by_cases hzS : z ∈ S
          · have HX := Aside0.mk (show cnt S row (m + 1) = cm + 1 by rw [HCS.out, if_pos hzS])
            rw [decide_eq_true hzS]
            clear hzS
            go_wp2
            go_roundw
            case rel => exact ⟨m + 1, by omega, by go_num, by rw [HX.out]; go_num, HB2⟩
            case measure => simp [intOf]; omega
          · have HX := Aside0.mk (show cnt S row (m + 1) = cm by rw [HCS.out, if_neg hzS, Nat.add_zero])
            rw [decide_eq_false hzS]
            clear hzS
            go_wp2
            go_roundw
            case rel => exact ⟨m + 1, by omega, by go_num, by rw [HX.out], HB2⟩
            case measure => simp [intOf]; omega
        · obtain rfl : m = row.length := by omega
          generalize cnt S row row.length = p at hcm HPART ⊢
          by_cases h1 : (S.length : Int) - (p : Int) < (p : Int)
          · have HV := Aside0.mk (show half (us l) S (n : Int) = ((S.length : Int) - (p : Int)) by rw [HPART.out]; omega)
            by_cases hnb : (n : Int) = bad
            · have HX := Aside0.mk (show pickL (us l) S bad (S.take (k + 1)) = (x, y) by rw [HSTEP.out]; unfold pstep; rw [if_neg (fun h => h.1 hnb)])
              have q1 : ((n : Int) != bad) = false := by simp [hnb]
              clear hnb
              go_wp2
              go_roundw
              case rel => exact ⟨k + 1, x, y, by omega, by go_num, rfl, rfl, HX, HBw⟩
              case measure => simp [intOf]; omega
            · have q1 : ((n : Int) != bad) = true := bne_iff_ne.mpr hnb
              by_cases hx : x < ((S.length : Int) - (p : Int))
              · have HX := Aside0.mk (show pickL (us l) S bad (S.take (k + 1)) = (((S.length : Int) - (p : Int)), (n : Int)) by rw [HSTEP.out]; unfold pstep; rw [HV.out, if_pos ⟨hnb, hx⟩])
                clear hnb
                go_wp2
                go_roundw
                case rel => exact ⟨k + 1, _, _, by omega, by go_num, rfl, rfl, HX, HBw⟩
                case measure => simp [intOf]; omega
              · have HX := Aside0.mk (show pickL (us l) S bad (S.take (k + 1)) = (x, y) by rw [HSTEP.out]; unfold pstep; rw [HV.out, if_neg (fun h => hx h.2)])
                clear hnb
                go_wp2
                go_roundw
                case rel => exact ⟨k + 1, x, y, by omega, by go_num, rfl, rfl, HX, HBw⟩
                case measure => simp [intOf]; omega

          · have HV := Aside0.mk (show half (us l) S (n : Int) = (p : Int) by rw [HPART.out]; omega)
            by_cases hnb : (n : Int) = bad
            · have HX := Aside0.mk (show pickL (us l) S bad (S.take (k + 1)) = (x, y) by rw [HSTEP.out]; unfold pstep; rw [if_neg (fun h => h.1 hnb)])
              have q1 : ((n : Int) != bad) = false := by simp [hnb]
              clear hnb
              go_wp2
              go_roundw
              case rel => exact ⟨k + 1, x, y, by omega, by go_num, rfl, rfl, HX, HBw⟩
              case measure => simp [intOf]; omega
            · have q1 : ((n : Int) != bad) = true := bne_iff_ne.mpr hnb
              by_cases hx : x < (p : Int)
              · have HX := Aside0.mk (show pickL (us l) S bad (S.take (k + 1)) = ((p : Int), (n : Int)) by rw [HSTEP.out]; unfold pstep; rw [HV.out, if_pos ⟨hnb, hx⟩])
                clear hnb
                go_wp2
                go_roundw
                case rel => exact ⟨k + 1, _, _, by omega, by go_num, rfl, rfl, HX, HBw⟩
                case measure => simp [intOf]; omega
              · have HX := Aside0.mk (show pickL (us l) S bad (S.take (k + 1)) = (x, y) by rw [HSTEP.out]; unfold pstep; rw [HV.out, if_neg (fun h => hx h.2)])
                clear hnb
                go_wp2
                go_roundw
                case rel => exact ⟨k + 1, x, y, by omega, by go_num, rfl, rfl, HX, HBw⟩
                case measure => simp [intOf]; omega

    · obtain rfl : k = S.length := by omega
      have HX := Aside0.mk (show pickF (us l) S bad = y by
        have := HP.out
        rw [List.take_length] at this
        unfold pickF
        rw [this])
      go_wp2
      go_ret
      exact ⟨by rw [HX.out]; rfl, HB.out⟩
end Go.Proofs.Ytblalidpeccabaa.Hn
