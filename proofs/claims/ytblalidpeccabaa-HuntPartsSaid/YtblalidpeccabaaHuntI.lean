/- HuntFinds' walk: the call answers true, whatever comes in. -/
import Derived.Test.YtblalidpeccabaaHuntG
namespace Go.Proofs.Ytblalidpeccabaa.Hn
open Go Go.RowKit Go.Lib Go.Proofs.YtblalidpeccabaaW.PrintWords Go.Proofs.YtblalidpeccabaaW.PrintLast Go.Proofs.YtblalidpeccabaaW.PrintMore Go.Proofs.Ytblalidpeccabaa.PHuntParts Go.Proofs.Ytblalidpeccabaa.Sc Go.Proofs.Ytblalidpeccabaa.Bs Go.Proofs.Ytblalidpeccabaa.RegionVal Go.Proofs.Ytblalidpeccabaa.Sm Go.Proofs.Ytblalidpeccabaa.Hp
attribute [local go_sem] max2_int min2_int max_two min_two
set_option linter.unusedVariables false
set_option linter.unusedSimpArgs false

theorem min_cut (n : Nat) (b : Int) (hb0 : 0 ≤ b) (hb : b ≤ 1000) (hn : n ≤ 9223372036854775807) : ∃ m : Nat, m ≤ n ∧ (m : Int) ≤ b ∧ (if b < (n : Int) then b else (n : Int)) = (m : Int) := by
  refine ⟨min n b.toNat, by omega, by omega, ?_⟩
  split <;> omega
def cameOf (xss : List (List Int)) (cul n : Int) : Bool := decide (chk xss [n] = 0) && decide (cul ∈ bk xss n.toNat)
/-- HuntFinds' closure: does n come of the culprit? -/
theorem asks18 (w : World) (b1 b2 : Nat) (A : Option Addr) (c : Nat) (l : List S35) (cul : Int) (xs : List Int) (h1 : w.heap[b1]? = some (.cells #[.slice A l.length c] 30 (0, 0))) (h2 : w.heap[b2]? = some (.cells #[.int .i64 cul] 3 (0, 0))) (hr : Kd.C k35 w A l.length l) (hc : l.length ≤ c) :
    Sm.Asks 18 #[.pointer (some ⟨b1, 0, none⟩), .pointer (some ⟨b2, 0, none⟩)] w (Value.int .i64) xs (cameOf (us l) cul) := by
  refine ⟨fun args w => enters_ Try.func18 (by kernel_rfl) rfl args w, fun n hn W hW => ?_⟩
  have e1 := blk_cell (blk_below h1 hW) 0
  have e2 := blk_cell (blk_below h2 hW) 0
  have H2 := Aside0.mk (blk_below h2 hW)
  simp only [List.getElem?_toArray, List.getElem?_cons_zero] at e1 e2
  have HBK := Aside0.mk (Back_calls W A c l n (Kd.C_below hr hW) hc)
  show Calls Try.prog 18 #[.int .i64 n, .pointer (some ⟨b1, 0, none⟩), .pointer (some ⟨b2, 0, none⟩)] W _
  clear h1 h2 hr hW hn
  go_enter Try.func18, Try.ntmps18
  go_wp2_with fail
  refine HBK.out.mono ?_
  rintro e w1 hT
  by_cases h0 : chk (us l) [n] = 0
  · obtain ⟨A1, c1, rfl, hc1, hC1, hb1⟩ := hT.zero h0
    have HB1 := Aside0.mk hb1
    have HC1 := Aside0.mk hC1
    have HX := Aside0.mk (show cameOf (us l) cul n = decide (cul ∈ listed l.length [backF (us l) n.toNat]) by
      unfold cameOf bk
      rw [decide_eq_true h0, Bool.true_and, us_length])
    have e2' := blk_cell (blk_below H2.out hb1) 0
    simp only [List.getElem?_toArray, List.getElem?_cons_zero] at e2'
    generalize listed l.length [backF (us l) n.toNat] = L at hc1 HC1 HX ⊢
    clear hT hC1 hb1 h0 e2
    go_wp2_with fail
    refine (has_calls w1 A1 c1 L cul HC1.out hc1).mono ?_
    rintro e w2 ⟨rfl, hb2⟩
    have HB2 := Aside0.mk (below_then HB1.out HB1.out.size hb2)
    clear hb2
    by_cases hm : cul ∈ L
    · have HY := Aside0.mk (show cameOf (us l) cul n = true by rw [HX.out]; exact decide_eq_true hm)
      rw [decide_eq_true hm]
      clear hm
      go_wp2
      go_ret
      exact ⟨by rw [HY.out]; rfl, HB2.out⟩
    · have HY := Aside0.mk (show cameOf (us l) cul n = false by rw [HX.out]; exact decide_eq_false hm)
      rw [decide_eq_false hm]
      clear hm
      go_wp2
      go_ret
      exact ⟨by rw [HY.out]; rfl, HB2.out⟩
  · obtain ⟨rfl, hb1⟩ := hT.bad h0
    have HB1 := Aside0.mk hb1
    have HX := Aside0.mk (show cameOf (us l) cul n = false by unfold cameOf; rw [decide_eq_false h0, Bool.false_and])
    have q0 : (chk (us l) [n] == 0) = false := beq_eq_false_iff_ne.mpr h0
    have q1 : (chk (us l) [n] != 0) = true := bne_iff_ne.mpr h0
    clear h0 hT hb1
    generalize chk (us l) [n] = r at q0 q1 ⊢
    go_wp2
    go_ret
    exact ⟨by rw [HX.out]; rfl, HB1.out⟩

set_option maxHeartbeats 8000000 in
set_option maxRecDepth 100000 in
theorem huntFinds_walk (w : World) (A : Option Addr) (c : Nat) (l : List S35) (lc : l.length ≤ c) (hr : Kd.C k35 w A l.length l) (_B : l.length ≤ 9223372036854775807 ∧ l.length * Try.prog.bytesOf 35 ≤ 140737488351232 ∧ ∀ a ∈ l, True)
    (bad : Int) (hbad : (Lit.int .i64 bad).wf = true) (cul : Int) (hcul : (Lit.int .i64 cul).wf = true)
    (G : Option Addr) (d : Nat) (good : List Int) (gc : good.length ≤ d) (hg : Kd.C (Kd.int .i64) w G good.length good) (_G : good.length ≤ 9223372036854775807 ∧ good.length * Try.prog.bytesOf 3 ≤ 140737488351232 ∧ ∀ a ∈ good, (Lit.int .i64 a).wf = true) :
    Calls Try.prog 6 #[.slice A l.length c, .int .i64 bad, .int .i64 cul, .slice G good.length d] w fun e w' => e = .returned (.bool true) ∧ Below w.heap.size w w' := by
  obtain ⟨n1, hn1, b1, hm1⟩ := min_cut l.length 30 (by omega) (by omega) _B.1
  obtain ⟨n2, hn2, b2, hm2⟩ := min_cut good.length 5 (by omega) (by omega) _G.1
  have hT1 := Kd.C_take (m := n1) hr hn1
  have hT2 := Kd.C_take (m := n2) hg hn2
  obtain ⟨l', hl'⟩ : ∃ l', l' = l.take n1 := ⟨_, rfl⟩
  obtain ⟨good', hgood'⟩ : ∃ g', g' = good.take n2 := ⟨_, rfl⟩
  rw [← hl'] at hT1
  rw [← hgood'] at hT2
  have e1 : l'.length = n1 := by rw [hl', List.length_take_of_le hn1]
  have e2 : good'.length = n2 := by rw [hgood', List.length_take_of_le hn2]
  have b3 : n1 ≤ c := by omega
  have b4 : n2 ≤ d := by omega
  subst e1
  subst e2
  have HT1 := Aside0.mk hT1
  have HT2 := Aside0.mk hT2
  have HM1 := Aside0.mk hm1
  have HM2 := Aside0.mk hm2
  have hlm := _B.1
  have hgm := _G.1
  obtain ⟨W1, hW1⟩ : ∃ W1, W1 = (w.alloc (.cells #[.slice A l.length c] 30)).alloc (.cells #[.int .i64 cul] 3) := ⟨_, rfl⟩
  have HB0 := Aside0.mk (show Below w.heap.size w W1 by rw [hW1]; exact below_alloc (below_alloc (Below.refl _ _) _) _)
  have HX0 := Aside0.mk (show W1.heap[w.heap.size]? = some (.cells #[.slice A l.length c] 30 (0, 0)) by rw [hW1]; exact blk_alloc (heap_alloc_new w _) _)
  have HY0 := Aside0.mk (show W1.heap[w.heap.size + 1]? = some (.cells #[.int .i64 cul] 3 (0, 0)) by
    have := heap_alloc_new (w.alloc (.cells #[.slice A l.length c] 30)) (.cells #[.int .i64 cul] 3)
    rw [World.size_alloc] at this
    rw [hW1]; exact this)
  have HW := Aside0.mk hW1
  clear hr hg _B _G hl' hgood' hT1 hT2 hm1 hm2 hn1 hn2 hbad hcul hW1
  go_enter Try.func6, Try.ntmps6
  go_wp2_with fail
  rw [← HW.out]
  refine (begun_calls W1).mono ?_
  rintro e w1 ⟨rfl, hb⟩
  have HB1 := Aside0.mk (below_then HB0.out HB0.out.size hb)
  have HX1 := Aside0.mk (blk_below HX0.out hb)
  have HY1 := Aside0.mk (blk_below HY0.out hb)
  clear hb HX0 HY0 HB0
  have hm1 := HM1.out
  have hm2 := HM2.out
  have hcell := blk_cell HX1.out 0
  have hfro := blk_frozen HX1.out 0
  simp only [List.getElem?_toArray, List.getElem?_cons_zero] at hcell
  have h1 : (l'.length : Int) ≤ (c : Int) := by omega
  have h2 : (good'.length : Int) ≤ (d : Int) := by omega
  go_wp2_with fail
  go_region
  obtain ⟨W2, hW2⟩ : ∃ W2, W2 = (w1.setCell ⟨w.heap.size, 0, none⟩ (.slice A l'.length c)).drew := ⟨_, rfl⟩
  have HX2 := Aside0.mk (show W2.heap[w.heap.size]? = some (.cells #[.slice A l'.length c] 30 (0, 0)) by rw [hW2]; exact blk_drew (blk_put HX1.out 0 _ (by simp)))
  have HY2 := Aside0.mk (show W2.heap[w.heap.size + 1]? = some (.cells #[.int .i64 cul] 3 (0, 0)) by rw [hW2]; exact blk_drew (blk_far HY1.out (p := ⟨w.heap.size, 0, none⟩) (Nat.succ_ne_self _) _))
  have HB2 := Aside0.mk (show Below w.heap.size w W2 by rw [hW2]; exact below_drew (HB1.out.setCell (p := ⟨w.heap.size, 0, none⟩) (Nat.le_refl _) _))
  rw [← hW2]
  obtain ⟨g1, hg1⟩ : ∃ g1, g1 = w.heap.size := ⟨_, rfl⟩
  rw [← hg1] at HX2 HY2 ⊢
  have HG1 := Aside0.mk hg1
  clear hm1 hm2 hcell hfro hW2 HX1 HY1 HB1 HW hg1
  have hcell := blk_cell HX2.out 0
  simp only [List.getElem?_toArray, List.getElem?_cons_zero] at hcell
  have HSU := Aside0.mk (Suspects_calls W2 A c l' bad G d good' (Kd.C_below HT1.out HB2.out) b3 (Kd.C_below HT2.out HB2.out) b4)
  go_wp2_with fail
  refine HSU.out.mono ?_
  rintro e w3 ⟨⟨h0, rfl⟩ | ⟨h0, A3, c3, rfl, hc3, hC3⟩, hb3⟩
  · have HB3 := Aside0.mk (below_then HB2.out HB2.out.size hb3)
    have q0 : (acode (us l') bad good' == 0) = false := beq_eq_false_iff_ne.mpr h0
    have q1 : (acode (us l') bad good' != 0) = true := bne_iff_ne.mpr h0
    generalize acode (us l') bad good' = r at q0 q1 ⊢
    clear h0 hb3 HSU hcell
    go_wp2_with fail
    refine (begunC HB3.out).mono ?_
    rintro e w4 ⟨rfl, hb4⟩
    have HB4 := Aside0.mk hb4
    clear hb4
    go_wp2
    go_ret
    exact ⟨rfl, HB4.out⟩
  · obtain ⟨hl, hf, ⟨b, rfl, hbl, hbs⟩, hgi⟩ := acode_more h0
    rw [Int.toNat_natCast] at hc3 hC3 ⊢
    have HB3 := Aside0.mk (below_then HB2.out HB2.out.size hb3)
    have HX3 := Aside0.mk (blk_below HX2.out hb3)
    have HY3 := Aside0.mk (blk_below HY2.out hb3)
    have HC3 := Aside0.mk hC3
    have H0 := Aside0.mk h0
    have HF := Aside0.mk hf
    have HBS := Aside0.mk hbs
    have HIN := Aside0.mk (show ∀ n ∈ susp (us l') b good', 0 ≤ n ∧ n < (l'.length : Int) from susp_in)
    have HFD := Aside0.mk (fun (C : Nat) (hC : C < l'.length) (hCS : (C : Int) ∈ susp (us l') b good') => hunt_finds hf (p := cameOf (us l') (C : Int)) (cul := C) (fun n hn => by
      unfold cameOf
      rw [decide_eq_true (chk_zero.2 ⟨by rw [us_length]; omega, hf, fun q hq => by
        obtain rfl : q = (n : Int) := by simpa using hq
        omega⟩), Bool.true_and, Int.toNat_natCast, Bool.eq_iff_iff, decide_eq_true_iff, List.contains_iff_mem]) (susp (us l') b good').length b good' 0 (by rw [us_length]; exact hbl) hbs hCS (Nat.le_refl _))
    obtain ⟨S, hS⟩ : ∃ S, S = susp (us l') b good' := ⟨_, rfl⟩
    rw [← hS] at hc3 HC3 HIN HFD HBS ⊢
    have HSS := Aside0.mk hS
    have hcu := blk_cell HY3.out 0
    simp only [List.getElem?_toArray, List.getElem?_cons_zero] at hcu
    have hx3 := blk_cell HX3.out 0
    simp only [List.getElem?_toArray, List.getElem?_cons_zero] at hx3
    clear h0 hb3 hC3 hf hbs hgi HSU hS hcell
    go_wp2_with fail
    refine (has_calls w3 A3 c3 S cul HC3.out hc3).mono ?_
    rintro e w4 ⟨rfl, hb4⟩
    have HB4 := Aside0.mk (below_then HB3.out HB3.out.size hb4)
    have HX4 := Aside0.mk (blk_below HX3.out hb4)
    have HY4 := Aside0.mk (blk_below HY3.out hb4)
    have HC4 := Aside0.mk (Kd.C_below HC3.out hb4)
    clear hb4 hcu hx3
    have hx4 := blk_cell HX4.out 0
    simp only [List.getElem?_toArray, List.getElem?_cons_zero] at hx4
    by_cases hm : cul ∈ S
    · have hi := HIN.out cul hm
      obtain ⟨C, rfl⟩ : ∃ C : Nat, cul = (C : Int) := ⟨cul.toNat, by omega⟩
      have HFI := Aside0.mk (HFD.out C (by omega) hm)
      rw [decide_eq_true hm]
      have HHU := Aside0.mk (Hunt_calls w4 A c l' (b : Int) G d good' 18 #[.pointer (some ⟨g1, 0, none⟩), .pointer (some ⟨g1 + 1, 0, none⟩)] (cameOf (us l') (C : Int)) (Kd.C_below HT1.out HB4.out) b3 (Kd.C_below HT2.out HB4.out) b4 (by omega)
        (asks18 w4 g1 (g1 + 1) A c l' (C : Int) _ HX4.out HY4.out (Kd.C_below HT1.out HB4.out) b3))
      clear hm hi HFD HIN
      go_wp2_with fail
      refine HHU.out.mono ?_
      rintro e w5 ⟨⟨h0, _⟩ | ⟨_, r, hr, rfl⟩, hb5⟩
      · exact absurd H0.out h0
      · rw [Int.toNat_natCast, ← HSS.out] at hr
        have hfi := HFI.out
        rw [hr] at hfi
        obtain ⟨r1, r2⟩ := r
        obtain ⟨f1, f2, f3⟩ := hfi
        simp only at f1 f2 f3 ⊢
        subst f1
        have HB5 := Aside0.mk (below_then HB4.out HB4.out.size hb5)
        have HY5 := Aside0.mk (blk_below HY4.out hb5)
        have k1 : r2 < (S.length : Int) := by omega
        clear hr hb5 HFI HHU hx4 f2 f3
        go_wp2_with fail
        refine (begun_calls w5).mono ?_
        rintro e w6 ⟨rfl, hb6⟩
        have HB6 := Aside0.mk (below_then HB5.out HB5.out.size hb6)
        have hcu := blk_cell (blk_below HY5.out hb6) 0
        simp only [List.getElem?_toArray, List.getElem?_cons_zero] at hcu
        clear hb6
        go_wp2
        go_ret
        exact ⟨by simp, HB6.out⟩
    · rw [decide_eq_false hm]
      clear hm
      go_wp2_with fail
      refine (begunC HB4.out).mono ?_
      rintro e w5 ⟨rfl, hb5⟩
      have HB5 := Aside0.mk hb5
      clear hb5
      go_wp2
      go_ret
      exact ⟨rfl, HB5.out⟩
end Go.Proofs.Ytblalidpeccabaa.Hn
