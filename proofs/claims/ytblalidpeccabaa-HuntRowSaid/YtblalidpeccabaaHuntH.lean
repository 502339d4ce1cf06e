/- HuntRow's walk: the call answers true, whatever comes in. -/
import Derived.Test.YtblalidpeccabaaHuntG
namespace Go.Proofs.Ytblalidpeccabaa.Hn
open Go Go.RowKit Go.Lib Go.Proofs.YtblalidpeccabaaW.PrintWords Go.Proofs.YtblalidpeccabaaW.PrintLast Go.Proofs.YtblalidpeccabaaW.PrintMore Go.Proofs.Ytblalidpeccabaa.PHuntParts Go.Proofs.Ytblalidpeccabaa.Sc Go.Proofs.Ytblalidpeccabaa.Bs Go.Proofs.Ytblalidpeccabaa.RegionVal Go.Proofs.Ytblalidpeccabaa.Sm Go.Proofs.Ytblalidpeccabaa.Hp
set_option linter.unusedVariables false
set_option linter.unusedSimpArgs false

def geC (cul n : Int) : Bool := decide (cul ≤ n)
theorem asks21 (w : World) (b : Nat) (cul : Int) (xs : List Int) (hb : w.heap[b]? = some (.cells #[.int .i64 cul] 3 (0, 0))) : Sm.Asks 21 #[.pointer (some ⟨b, 0, none⟩)] w (Value.int .i64) xs (geC cul) := by
  refine ⟨fun args w => enters_ Try.func21 (by kernel_rfl) rfl args w, fun n hn w hw => ?_⟩
  have h0 := blk_cell (blk_below hb hw) 0
  simp only [List.getElem?_toArray, List.getElem?_cons_zero] at h0
  show Calls Try.prog 21 #[.int .i64 n, .pointer (some ⟨b, 0, none⟩)] w _
  by_cases h : cul ≤ n
  · have HX := Aside0.mk (show geC cul n = true from decide_eq_true h)
    go_enter Try.func21, Try.ntmps21
    go_wp2
    go_ret
    exact ⟨by rw [HX.out]; simp, Below.refl _ _⟩
  · have HX := Aside0.mk (show geC cul n = false from decide_eq_false h)
    go_enter Try.func21, Try.ntmps21
    go_wp2
    go_ret
    exact ⟨by rw [HX.out]; simp, Below.refl _ _⟩
/-- what is plain of a row -/
theorem susp_row {n : Nat} (h1 : 1 ≤ n) : susp (rowL n) (n - 1) [] = stretch 0 n := by
  refine sorted_ext (susp_sorted _ _ _) (stretch_sorted _ _) (fun x => ?_)
  rw [mem_susp, mem_bk_row (by omega), mem_stretch]
  simp
  omega
theorem row_code {n : Nat} (h1 : 1 ≤ n) (hn : n ≤ 100) : acode (rowL n) ((n - 1 : Nat) : Int) [] = 0 := by
  refine acode_zero.2 ⟨hcode_zero.2 ⟨chk_zero.2 ⟨by rw [rowL_length]; omega, row_form n, fun q hq => ?_⟩, fun g hg => by cases hg⟩, ?_⟩
  · obtain rfl : q = ((n - 1 : Nat) : Int) := by simpa using hq
    rw [rowL_length]; omega
  · rw [Int.toNat_natCast, susp_row h1, mem_stretch]; omega
theorem row_hunt {n cul : Nat} (h1 : 1 ≤ n) (hc : cul < n) {r : Int × Int} (h : huntF (rowL n) (geC (cul : Int)) (susp (rowL n) (n - 1) []).length (n - 1) [] 0 = r) : r.1 = (cul : Int) ∧ ∀ d : Nat, n ≤ 2 ^ d → r.2 ≤ (d : Int) := by
  have hs := susp_row h1
  subst h
  refine ⟨?_, fun d hd => ?_⟩
  · refine (hunt_finds (row_form n) (cul := cul) (fun k hk => ?_) _ (n - 1) [] 0 (by rw [rowL_length]; omega) (by rw [hs, mem_stretch]; omega) (by rw [hs, mem_stretch]; omega) (Nat.le_refl _)).1
    rw [rowL_length] at hk
    unfold geC
    rw [Bool.eq_iff_iff, decide_eq_true_iff, List.contains_iff_mem, mem_bk_row hk]
    omega
  · have := hunt_row (p := geC (cul : Int)) d (susp (rowL n) (n - 1) []).length (n - 1) 0 n [] 0 (by omega) hs (by omega) hd (by rw [hs, stretch_length]; exact Nat.le_refl _)
    omega
def Found (w : World) (n : Nat) (cul : Int) (e : Ending) (w' : World) : Prop :=
  ∃ m : Int, (∀ d : Nat, n ≤ 2 ^ d → m ≤ (d : Int)) ∧ e = .returned (.tuple #[.int .i64 cul, .int .i64 m, .int .i64 0]) ∧ Below w.heap.size w w'
theorem hunt_calls (w : World) (A : Option Addr) (c : Nat) (n cul b : Nat) (h1 : 1 ≤ n) (hn : n ≤ 100) (hcl : cul < n) (hr : Kd.C k35 w A n (rowS n)) (hc : n ≤ c) (hb : w.heap[b]? = some (.cells #[.int .i64 (cul : Int)] 3 (0, 0))) :
    Calls Try.prog 19 #[.slice A n c, .int .i64 ((n : Int) - 1), .slice none 0 0, .func (.func 21) #[] #[.pointer (some ⟨b, 0, none⟩)]] w (Found w n (cul : Int)) := by
  have hr' : Kd.C k35 w A (rowS n).length (rowS n) := by rw [rowS_length]; exact hr
  have h := Hunt_calls w A c (rowS n) ((n - 1 : Nat) : Int) none 0 [] 21 #[.pointer (some ⟨b, 0, none⟩)] (geC (cul : Int)) hr' (by rw [rowS_length]; exact hc) (Kd.C_nil _ _) (Nat.le_refl _) (by decide) (asks21 w b (cul : Int) _ hb)
  rw [rowS_length, show ((n - 1 : Nat) : Int) = (n : Int) - 1 by omega] at h
  refine h.mono fun e w' ⟨h2, hb2⟩ => ?_
  rw [us_row, show (n : Int) - 1 = ((n - 1 : Nat) : Int) by omega] at h2
  rcases h2 with ⟨h2, _⟩ | ⟨_, r, h2, he⟩
  · exact absurd (row_code h1 hn) h2
  · rw [Int.toNat_natCast] at h2
    obtain ⟨e1, e2⟩ := row_hunt h1 hcl h2
    exact ⟨r.2, e2, by rw [he, e1], hb2⟩
theorem shl_run (d : Nat) (hd : d ≤ 7) : wrap64 ((2 : Int) ^ d) = ((2 ^ d : Nat) : Int) := by
  rcases (show d = 0 ∨ d = 1 ∨ d = 2 ∨ d = 3 ∨ d = 4 ∨ d = 5 ∨ d = 6 ∨ d = 7 by omega) with rfl | rfl | rfl | rfl | rfl | rfl | rfl | rfl <;> decide +kernel

set_option maxHeartbeats 8000000 in
set_option maxRecDepth 100000 in
theorem huntRow_walk (w : World) (n : Int) (hn : (Lit.int .i64 n).wf = true) (cul : Int) (hc : (Lit.int .i64 cul).wf = true) :
    Calls Try.prog 7 #[.int .i64 n, .int .i64 cul] w fun e w' => e = .returned (.bool true) ∧ Below w.heap.size w w' := by
  have hB1 : Below w.heap.size w (w.alloc (.cells #[.int .i64 cul] 3)) := below_alloc (Below.refl _ _) _
  have HBX := Aside0.mk (heap_alloc_new w (.cells #[.int .i64 cul] 3))
  have HB0 := Aside0.mk hB1
  clear hB1 hn hc
  go_enter Try.func7, Try.ntmps7
  go_wp2_with fail
  refine (begun_calls _).mono ?_
  rintro e w1 ⟨rfl, hb⟩
  have HB1 := Aside0.mk (below_then HB0.out HB0.out.size hb)
  have HX1 := Aside0.mk (blk_below HBX.out hb)
  have hcell := blk_cell HX1.out 0
  simp only [List.getElem?_toArray, List.getElem?_cons_zero] at hcell
  clear hb HB0 HBX
  by_cases h0 : n < 1 ∨ 100 < n ∨ cul < 0 ∨ n ≤ cul
  · by_cases c1 : n < 1
    · go_wp2_with fail
      refine (begunC HB1.out).mono ?_
      rintro e w2 ⟨rfl, hb⟩
      have HB2 := Aside0.mk hb
      clear hb
      go_wp2
      go_ret
      exact ⟨rfl, HB2.out⟩
    · by_cases c2 : 100 < n
      · go_wp2_with fail
        refine (begunC HB1.out).mono ?_
        rintro e w2 ⟨rfl, hb⟩
        have HB2 := Aside0.mk hb
        clear hb
        go_wp2
        go_ret
        exact ⟨rfl, HB2.out⟩
      · by_cases c3 : cul < 0
        · go_wp2_with fail
          refine (begunC HB1.out).mono ?_
          rintro e w2 ⟨rfl, hb⟩
          have HB2 := Aside0.mk hb
          clear hb
          go_wp2
          go_ret
          exact ⟨rfl, HB2.out⟩
        · have c4 : n ≤ cul := by omega
          go_wp2_with fail
          refine (begunC HB1.out).mono ?_
          rintro e w2 ⟨rfl, hb⟩
          have HB2 := Aside0.mk hb
          clear hb
          go_wp2
          go_ret
          exact ⟨rfl, HB2.out⟩
  · obtain ⟨N, rfl⟩ : ∃ N : Nat, n = (N : Int) := ⟨n.toNat, by omega⟩
    obtain ⟨C, rfl⟩ : ∃ C : Nat, cul = (C : Int) := ⟨cul.toNat, by omega⟩
    have hN1 : 1 ≤ N := by omega
    have hN2 : N ≤ 100 := by omega
    have hCN : C < N := by omega
    have k1 : decide ((N : Int) < 1) = false := decide_eq_false (by omega)
    have k2 : decide (100 < (N : Int)) = false := decide_eq_false (by omega)
    have k3 : decide ((C : Int) < 0) = false := decide_eq_false (by omega)
    have k4 : decide ((N : Int) ≤ (C : Int)) = false := decide_eq_false (by omega)
    clear h0
    go_wp2_with fail
    refine (row_calls w1 N hN1 (by omega)).mono ?_
    rintro e w2 ⟨A2, c2, rfl, hc2, hC2, hb2⟩
    have HB2 := Aside0.mk (below_then HB1.out HB1.out.size hb2)
    have HX2 := Aside0.mk (blk_below HX1.out hb2)
    have HC2 := Aside0.mk hC2
    clear hb2 hC2 hcell HX1 HB1
    go_wp2_with fail
    refine (hunt_calls w2 A2 c2 N C _ hN1 hN2 hCN HC2.out hc2 HX2.out).mono ?_
    rintro e w3 ⟨m, hm, rfl, hb3⟩
    have HB3 := Aside0.mk (below_then HB2.out HB2.out.size hb3)
    have HX3 := Aside0.mk (blk_below HX2.out hb3)
    have HM := Aside0.mk hm
    clear hb3 hm HX2 HB2 HC2
    go_wp2_with fail
    go_loopw [8] (fun q wr => ∃ d : Nat, d ≤ 7 ∧ q = .int .i64 (d : Int) ∧ Aside0 (d = 0 ∨ 2 ^ (d - 1) < N) ∧ Aside0 (Below w3.heap.size w3 wr)) (fun q _ => 7 - (intOf q).toNat)
    case atStart => exact ⟨0, by omega, rfl, ⟨.inl rfl⟩, ⟨Below.refl _ _⟩⟩
    case round =>
      obtain ⟨d, hd, rfl, HD, HB⟩ := hrel
      have hs := shl_run d hd
      by_cases hlt : 2 ^ d < N
      · have hd7 : d < 7 := by
          rcases (show d < 7 ∨ d = 7 by omega) with h | rfl
          · exact h
          · exact absurd hlt (by have : (2 : Nat) ^ 7 = 128 := by decide
                                 omega)
        have hltI : ((2 ^ d : Nat) : Int) < (N : Int) := by omega
        have HLT := Aside0.mk hlt
        generalize 2 ^ d = q at hs hltI
        clear hlt
        go_wp2
        go_roundw
        case rel => exact ⟨d + 1, by omega, by go_num, ⟨.inr HLT.out⟩, HB⟩
        case measure => simp [intOf]; omega
      · have hltI : ¬ ((2 ^ d : Nat) : Int) < (N : Int) := by omega
        have HMD := Aside0.mk (HM.out d (by omega))
        generalize 2 ^ d = q at hs hltI
        have hmd := HMD.out
        clear hlt
        go_wp2_with fail
        refine (begun_calls wr).mono ?_
        rintro e w4 ⟨rfl, hb4⟩
        have hb34 := below_then HB.out HB.out.size hb4
        have HB4 := Aside0.mk (below_then HB3.out HB3.out.size hb34)
        have hcell := blk_cell (blk_below HX3.out hb34) 0
        simp only [List.getElem?_toArray, List.getElem?_cons_zero] at hcell
        clear hb34 hb4
        go_wp2
        go_ret
        exact ⟨by simp, HB4.out⟩
end Go.Proofs.Ytblalidpeccabaa.Hn
