/- hunt.asked, hunt.Suspects, hunt.pick, hunt.Pick. -/
import Derived.Test.YtblalidpeccabaaHuntC
namespace Go.Proofs.Ytblalidpeccabaa.Hn
open Go Go.RowKit Go.Lib Go.Proofs.YtblalidpeccabaaW.PrintWords Go.Proofs.YtblalidpeccabaaW.PrintLast Go.Proofs.YtblalidpeccabaaW.PrintMore Go.Proofs.Ytblalidpeccabaa.PHuntParts Go.Proofs.Ytblalidpeccabaa.Sc Go.Proofs.Ytblalidpeccabaa.Bs Go.Proofs.Ytblalidpeccabaa.RegionVal Go.Proofs.Ytblalidpeccabaa.Sm Go.Proofs.Ytblalidpeccabaa.Hp
attribute [local go_sem] max2_int min2_int max_two min_two
set_option linter.unusedVariables false
set_option linter.unusedSimpArgs false

theorem badG_false {n : Nat} {good : List Int} : badG n good = false ↔ ∀ g ∈ good, 0 ≤ g ∧ g < (n : Int) := by
  unfold badG
  rw [List.any_eq_false]
  constructor
  · intro h g hg
    have := h g hg
    simp only [badPlace, Bool.or_eq_true, decide_eq_true_eq, not_or] at this
    omega
  · intro h g hg
    have := h g hg
    simp only [badPlace, Bool.or_eq_true, decide_eq_true_eq, not_or]
    omega
theorem hcode_zero {xss : List (List Int)} {bad : Int} {good : List Int} : hcode xss bad good = 0 ↔ chk xss [bad] = 0 ∧ ∀ g ∈ good, 0 ≤ g ∧ g < (xss.length : Int) := by
  unfold hcode
  by_cases h : chk xss [bad] = 0
  · rw [if_pos h]
    rw [← badG_false]
    cases badG xss.length good <;> simp [h]
  · rw [if_neg h]
    exact ⟨fun k => absurd k h, fun k => absurd k.1 h⟩
theorem bkS_getD {l : List S35} {k : Nat} (h : k < l.length) : (bkS l).getD k [] = bk (us l) k := by
  rw [List.getD_eq_getElem?_getD, bkS_get h]; rfl
theorem gone_out {l : List S35} {good : List Int} (h : ∀ g ∈ good, 0 ≤ g ∧ g < (l.length : Int)) (n : Int) : gone (bkS l) good n = outOf (us l) good n := by
  unfold gone outOf
  rw [Bool.eq_iff_iff, List.any_eq_true, List.any_eq_true]
  have key : ∀ g ∈ good, (decide (n ∈ (bkS l).getD g.toNat []) = true ↔ (bk (us l) g.toNat).contains n = true) := fun g hg => by
    have := h g hg
    rw [bkS_getD (by omega), decide_eq_true_iff, List.contains_iff_mem]
  exact ⟨fun ⟨g, hg, h1⟩ => ⟨g, hg, (key g hg).1 h1⟩, fun ⟨g, hg, h1⟩ => ⟨g, hg, (key g hg).2 h1⟩⟩
theorem bk_length (xss : List (List Int)) (k : Nat) : (bk xss k).length ≤ xss.length := listed_length _ _
theorem susp_calls (w : World) (hb : Nat) (l : List S35) (bad : Nat) (GA : Option Addr) (gc : Nat) (good : List Int) (hH : Hunter w hb (bkS l)) (hf : Sc.Form (us l)) (hl : l.length ≤ 200) (hbad : bad < l.length) (h4 : ∀ g ∈ good, 0 ≤ g ∧ g < (l.length : Int)) (h5 : Kd.C (Kd.int .i64) w GA good.length good) (h6 : good.length ≤ gc) :
    Calls Try.prog 35 #[.pointer (some ⟨hb, 0, none⟩), .int .i64 (bad : Int), .slice GA good.length gc] w fun e w' => ∃ A c, e = .returned (.slice A (susp (us l) bad good).length c) ∧
      (susp (us l) bad good).length ≤ c ∧ Kd.C (Kd.int .i64) w' A (susp (us l) bad good).length (susp (us l) bad good) ∧ Below w.heap.size w w' := by
  have hbl : bad < (bkS l).length := by rw [bkS_length]; exact hbad
  have hg : (bkS l)[bad] = bk (us l) bad := by
    have := bkS_get hbad
    rw [List.getElem?_eq_getElem hbl] at this
    exact Option.some.inj this
  have hs : ((bkS l)[bad]).filter (fun x => !gone (bkS l) good x) = susp (us l) bad good := by
    rw [hg]
    unfold susp
    congr 1
    funext x
    rw [gone_out h4]
  have hul := us_length l
  have hself := self_in hf (show bad < (us l).length by omega)
  have hle := bk_length (us l) bad
  have := suspects_calls w hb (bkS l) bad GA gc good hH hbl (by rw [bkS_length]; exact h4) h5 h6 (by rw [hg]; exact List.length_pos_of_mem hself) (by rw [hg]; omega)
  rwa [hs] at this

/-- what asked tells -/
def acode (xss : List (List Int)) (bad : Int) (good : List Int) : Int := if hcode xss bad good = 0 then (if bad ∈ susp xss bad.toNat good then 0 else 8) else hcode xss bad good
theorem acode_zero {xss : List (List Int)} {bad : Int} {good : List Int} : acode xss bad good = 0 ↔ hcode xss bad good = 0 ∧ bad ∈ susp xss bad.toNat good := by
  unfold acode
  by_cases h : hcode xss bad good = 0
  · rw [if_pos h]
    by_cases h2 : bad ∈ susp xss bad.toNat good
    · rw [if_pos h2]; simp [h, h2]
    · rw [if_neg h2]; simp [h, h2]
  · rw [if_neg h]; exact ⟨fun k => absurd k h, fun k => absurd k.1 h⟩
/-- a hunter and the suspects -/
def Asked (w : World) (l : List S35) (bad : Int) (good : List Int) (e : Ending) (w' : World) : Prop :=
  ((acode (us l) bad good ≠ 0 ∧ e = .returned (.tuple #[.pointer none, .slice none 0 0, .int .i64 (acode (us l) bad good)])) ∨
   (acode (us l) bad good = 0 ∧ ∃ hb A c, e = .returned (.tuple #[.pointer (some ⟨hb, 0, none⟩), .slice A (susp (us l) bad.toNat good).length c, .int .i64 0]) ∧ (susp (us l) bad.toNat good).length ≤ c ∧
      Kd.C (Kd.int .i64) w' A (susp (us l) bad.toNat good).length (susp (us l) bad.toNat good) ∧ Hunter w' hb (bkS l))) ∧ Below w.heap.size w w'

set_option maxHeartbeats 8000000 in
set_option maxRecDepth 100000 in
theorem asked_calls (w : World) (A : Option Addr) (c : Nat) (l : List S35) (bad : Int) (G : Option Addr) (d : Nat) (good : List Int) (hr : Kd.C k35 w A l.length l) (hc : l.length ≤ c) (hg : Kd.C (Kd.int .i64) w G good.length good) (hd : good.length ≤ d) :
    Calls Try.prog 32 #[.slice A l.length c, .int .i64 bad, .slice G good.length d] w (Asked w l bad good) := by
  have HG := Aside0.mk hg
  have HBG := Aside0.mk (begin_calls w A c l bad G d good hr hc hg hd)
  clear hr hg
  go_enter Try.func32, Try.ntmps32
  go_wp2_with fail
  refine HBG.out.mono ?_
  rintro e w1 ⟨⟨h0, rfl⟩ | ⟨h0, hb, rfl, hH⟩, hb1⟩
  · have HX := Aside0.mk (show acode (us l) bad good = hcode (us l) bad good by unfold acode; rw [if_neg h0])
    have HB1 := Aside0.mk hb1
    have H0 := Aside0.mk h0
    have q0 : (hcode (us l) bad good == 0) = false := beq_eq_false_iff_ne.mpr h0
    have q1 : (hcode (us l) bad good != 0) = true := bne_iff_ne.mpr h0
    clear h0 hb1
    generalize hcode (us l) bad good = r at q0 q1 HX H0 ⊢
    go_wp2
    exact bodyPost_ret (v := .tuple #[.pointer none, .slice none 0 0, .int .i64 r]) (by simp [results, Try.f32, go_sem]) rfl ⟨.inl ⟨by rw [HX.out]; exact H0.out, by rw [HX.out]⟩, HB1.out⟩
  · obtain ⟨hk, hgd⟩ := hcode_zero.1 h0
    obtain ⟨hl, hf, hp⟩ := chk_zero.1 hk
    have hp := hp bad (by simp)
    rw [us_length] at hl hgd hp
    obtain ⟨b, rfl⟩ : ∃ b : Nat, bad = (b : Int) := ⟨bad.toNat, by omega⟩
    have HB1 := Aside0.mk hb1
    have H0 := Aside0.mk h0
    have HH := Aside0.mk hH
    have HS := Aside0.mk (susp_calls w1 hb l b G d good hH hf hl (by omega) hgd (Kd.C_below HG.out hb1) hd)
    have HSD := Aside0.mk (show acode (us l) (b : Int) good = if (b : Int) ∈ susp (us l) b good then 0 else 8 by unfold acode; rw [if_pos H0.out, Int.toNat_natCast])
    clear h0 hk hf hp hgd hb1 hH
    obtain ⟨S, hS⟩ : ∃ S, S = susp (us l) b good := ⟨_, rfl⟩
    rw [← hS] at HS HSD
    have HSS := Aside0.mk hS
    clear hS
    go_wp2_with fail
    refine HS.out.mono ?_
    rintro e w2 ⟨A2, c2, rfl, hc2, hC2, hb2⟩
    have HB2 := Aside0.mk (below_then HB1.out HB1.out.size hb2)
    have HH2 := Aside0.mk (HH.out.below hb2)
    have HC2 := Aside0.mk hC2
    clear hb2 hC2 HS HH
    go_wp2_with fail
    refine (contains_calls w2 A2 c2 S (b : Int) HC2.out hc2).mono ?_
    rintro e w3 ⟨rfl, hb3⟩
    have HB3 := Aside0.mk (below_then HB2.out HB2.out.size hb3)
    have HH3 := Aside0.mk (HH2.out.below hb3)
    have HC3 := Aside0.mk (Kd.C_below HC2.out hb3)
    clear hb3
    by_cases hm : (b : Int) ∈ S
    · have HX := Aside0.mk (show acode (us l) (b : Int) good = 0 by rw [HSD.out, if_pos hm])
      rw [decide_eq_true hm]
      clear hm
      go_wp2
      exact bodyPost_ret (v := .tuple #[.pointer (some ⟨hb, 0, none⟩), .slice A2 S.length c2, .int .i64 0]) (by simp [results, Try.f32, go_sem]) rfl ⟨.inr ⟨HX.out, hb, A2, c2, by rw [Int.toNat_natCast, ← HSS.out], by rw [Int.toNat_natCast, ← HSS.out]; exact hc2, by rw [Int.toNat_natCast, ← HSS.out]; exact HC3.out, HH3.out⟩, HB3.out⟩
    · have HX := Aside0.mk (show acode (us l) (b : Int) good = 8 by rw [HSD.out, if_neg hm])
      rw [decide_eq_false hm]
      clear hm
      go_wp2
      exact bodyPost_ret (v := .tuple #[.pointer none, .slice none 0 0, .int .i64 8]) (by simp [results, Try.f32, go_sem]) rfl ⟨.inl ⟨by rw [HX.out]; decide, by rw [HX.out]⟩, HB3.out⟩

/-- a list, or none -/
def Got (w : World) (r : Int) (S : List Int) (e : Ending) (w' : World) : Prop :=
  ((r ≠ 0 ∧ e = .returned (.tuple #[.slice none 0 0, .int .i64 r])) ∨ (r = 0 ∧ ∃ A c, e = .returned (.tuple #[.slice A S.length c, .int .i64 0]) ∧ S.length ≤ c ∧ Kd.C (Kd.int .i64) w' A S.length S)) ∧ Below w.heap.size w w'
set_option maxHeartbeats 8000000 in
set_option maxRecDepth 100000 in
theorem Suspects_calls (w : World) (A : Option Addr) (c : Nat) (l : List S35) (bad : Int) (G : Option Addr) (d : Nat) (good : List Int) (hr : Kd.C k35 w A l.length l) (hc : l.length ≤ c) (hg : Kd.C (Kd.int .i64) w G good.length good) (hd : good.length ≤ d) :
    Calls Try.prog 17 #[.slice A l.length c, .int .i64 bad, .slice G good.length d] w (Got w (acode (us l) bad good) (susp (us l) bad.toNat good)) := by
  have HA := Aside0.mk (asked_calls w A c l bad G d good hr hc hg hd)
  clear hr hg
  obtain ⟨S, hS⟩ : ∃ S, S = susp (us l) bad.toNat good := ⟨_, rfl⟩
  have HSS := Aside0.mk hS
  clear hS
  go_enter Try.func17, Try.ntmps17
  go_wp2_with fail
  refine HA.out.mono ?_
  rintro e w1 ⟨⟨h0, rfl⟩ | ⟨h0, hb, A2, c2, rfl, hc2, hC2, hH⟩, hb1⟩
  · have HB1 := Aside0.mk hb1
    have H0 := Aside0.mk h0
    obtain ⟨r, hr⟩ : ∃ r, r = acode (us l) bad good := ⟨_, rfl⟩
    rw [← hr]
    have HRR := Aside0.mk hr
    clear h0 hb1 hr
    go_wp2
    exact bodyPost_ret (v := .tuple #[.slice none 0 0, .int .i64 r]) (by simp [results, Try.f17, go_sem]) rfl ⟨.inl ⟨H0.out, by rw [HRR.out]⟩, HB1.out⟩
  · have HB1 := Aside0.mk hb1
    have H0 := Aside0.mk h0
    rw [← HSS.out] at hc2 hC2 ⊢
    have HC2 := Aside0.mk hC2
    clear h0 hb1 hC2 hH
    go_wp2
    exact bodyPost_ret (v := .tuple #[.slice A2 S.length c2, .int .i64 0]) (by simp [results, Try.f17, go_sem]) rfl ⟨.inr ⟨H0.out, A2, c2, by rw [HSS.out], by rw [← HSS.out]; exact hc2, by rw [← HSS.out]; exact HC2.out⟩, HB1.out⟩
end Go.Proofs.Ytblalidpeccabaa.Hn
