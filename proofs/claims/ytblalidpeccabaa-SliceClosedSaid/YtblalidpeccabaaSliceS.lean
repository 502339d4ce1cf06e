/- HasInt in plain words; SliceBoth's walk: the call answers true, whatever comes in. -/
import Derived.Test.YtblalidpeccabaaSliceQ
namespace Go.Proofs.Ytblalidpeccabaa.Sm
open Go Go.RowKit Go.Lib Go.Proofs.YtblalidpeccabaaW.PrintWords Go.Proofs.YtblalidpeccabaaW.PrintLast Go.Proofs.YtblalidpeccabaaW.PrintMore Go.Proofs.Ytblalidpeccabaa.PHuntParts Go.Proofs.Ytblalidpeccabaa.Sc Go.Proofs.Ytblalidpeccabaa.Bs Go.Proofs.Ytblalidpeccabaa.RegionVal Go.Proofs.Ytblalidpeccabaa.Mp
set_option linter.unusedVariables false
set_option linter.unusedSimpArgs false

theorem has_l0 (l : List Int) (x : Int) (hn : l.length ≤ 9223372036854775807) : ∀ m q, l.length - q = m → q ≤ l.length → backstitchref4_HasInt.l0 (m + 1) l x (q : Int) = some (decide (x ∈ l.drop q))
  | 0, q, hm, hq => by
    have e : q = l.length := by omega
    subst e
    rw [backstitchref4_HasInt.l0, if_neg (by omega), List.drop_length]
    simp
  | m + 1, q, hm, hq => by
    have hlt : q < l.length := by omega
    have hrd : rd l (q : Int) = l[q] := by simp [rd, List.getD_eq_getElem?_getD, hlt]
    rw [backstitchref4_HasInt.l0, if_pos (by omega), if_pos (by omega), hrd, List.drop_eq_getElem_cons hlt]
    by_cases h : l[q] = x
    · rw [if_pos h]; simp [h]
    · rw [if_neg h, wrap64_id (by omega) (by omega), show ((q : Int) + 1) = ((q + 1 : Nat) : Int) by omega, has_l0 l x hn m (q + 1) (by omega) (by omega)]
      refine congrArg some (decide_eq_decide.2 ?_)
      rw [List.mem_cons]
      exact ⟨.inr, fun k => k.resolve_left (fun e => h e.symm)⟩
theorem has_calls (w : World) (A : Option Addr) (c : Nat) (l : List Int) (x : Int) (hr : Kd.C (Kd.int .i64) w A l.length l) (hc : l.length ≤ c) :
    Calls Try.prog 13 #[.slice A l.length c, .int .i64 x] w fun e w' => e = .returned (.bool (decide (x ∈ l))) ∧ Below w.heap.size w w' := by
  have h := has_l0 l x hr.2.1 (l.length - 0) 0 rfl (by omega)
  rw [List.drop_zero] at h
  exact (backstitchref4_HasInt.calls _ A c l x _ w hr hc h).mono fun e w' ⟨h1, h2⟩ => ⟨h1, h2.below⟩
theorem Told.any {w w' : World} {r : Int} {L : List Int} {e : Ending} (h : Told w r L e w') : (∃ v, e = .returned (.tuple #[v, .int .i64 r])) ∧ Below w.heap.size w w' := by
  obtain ⟨⟨h0, rfl⟩ | ⟨rfl, v, rfl, ho⟩, hb⟩ := h
  · exact ⟨⟨_, rfl⟩, hb⟩
  · exact ⟨⟨_, rfl⟩, hb⟩
theorem Told.bad {w w' : World} {r : Int} {L : List Int} {e : Ending} (h : Told w r L e w') (hr : r ≠ 0) : e = .returned (.tuple #[.slice none 0 0, .int .i64 r]) ∧ Below w.heap.size w w' := by
  obtain ⟨⟨h0, rfl⟩ | ⟨h0, v, rfl, ho⟩, hb⟩ := h
  · exact ⟨rfl, hb⟩
  · exact absurd h0 hr
theorem bools_of (r : Int) : ∃ b : Bool, (r == 0) = b ∧ (r != 0) = !b := ⟨_, rfl, rfl⟩

/-- what is plain of the three lists -/
theorem both_plain {xss : List (List Int)} (hf : Sc.Form xss) {i j : Nat} (hi : i < xss.length) (hj : j < xss.length) :
    ∃ p : Bool, decide ((i : Int) ∈ listed xss.length [backF xss j]) = p ∧ decide ((j : Int) ∈ listed xss.length [onF xss i]) = p ∧
      (p = true → ∃ m, (listed xss.length [onF xss i, backF xss j]).length = m + 1 ∧ (listed xss.length [onF xss i, backF xss j]).getD 0 0 = (i : Int) ∧ (listed xss.length [onF xss i, backF xss j]).getD m 0 = (j : Int)) ∧
      (p = false → listed xss.length [onF xss i, backF xss j] = []) ∧
      (∀ x ∈ listed xss.length [onF xss i, backF xss j], x ∈ listed xss.length [backF xss j] ∧ x ∈ listed xss.length [onF xss i]) := by
  have h1 := has_back hf (i := i) hj
  have h2 := has_on hf (j := j) hi
  have h3 := chop_some hf hi hj
  refine ⟨_, rfl, ?_, ?_, ?_, ?_⟩
  · rw [Bool.eq_iff_iff, decide_eq_true_iff, decide_eq_true_iff, h1, h2]
    exact ⟨fun h => h.2, fun h => ⟨hj, h⟩⟩
  · intro hp
    have hr := h1.1 (of_decide_eq_true hp)
    obtain ⟨e1, e2⟩ := chop_ends hf hi hj hr
    have hne := h3.2 hr
    generalize listed xss.length [onF xss i, backF xss j] = L at e1 e2 hne
    refine ⟨L.length - 1, by have := List.length_pos_iff.2 hne; omega, ?_, ?_⟩
    · rw [List.getD_eq_getElem?_getD, ← List.head?_eq_getElem?, e1]; rfl
    · rw [List.getD_eq_getElem?_getD, ← List.getLast?_eq_getElem?, e2]; rfl
  · intro hp
    by_cases h : listed xss.length [onF xss i, backF xss j] = []
    · exact h
    · have := h1.2 (h3.1 h)
      rw [decide_eq_true this] at hp
      cases hp
  · intro x hx
    obtain ⟨k, rfl⟩ := listed_nat hx
    obtain ⟨h4, h5⟩ := (has_chop hf hi hj).1 hx
    obtain ⟨q, hq, hql, _⟩ := mem_listed.1 hx
    obtain rfl : k = q := by omega
    exact ⟨(has_back hf hj).2 h5, (has_on hf hi).2 ⟨hql, h4⟩⟩
theorem chk_both {xss : List (List Int)} {i j : Int} (h : chk xss [i, j] = 0) : chk xss [i] = 0 ∧ chk xss [j] = 0 := by
  obtain ⟨h1, h2, h3⟩ := chk_zero.1 h
  exact ⟨chk_zero.2 ⟨h1, h2, fun n hn => h3 n (by simp at hn; simp [hn])⟩, chk_zero.2 ⟨h1, h2, fun n hn => h3 n (by simp at hn; simp [hn])⟩⟩

set_option maxHeartbeats 8000000 in
set_option maxRecDepth 100000 in
theorem sliceBoth_walk (w : World) (A : Option Addr) (c : Nat) (l : List S35) (lc : l.length ≤ c) (hr : Kd.C k35 w A l.length l) (_B : l.length ≤ 9223372036854775807 ∧ l.length * Try.prog.bytesOf 35 ≤ 140737488351232 ∧ ∀ a ∈ l, True)
    (i : Int) (hi : (Lit.int .i64 i).wf = true) (j : Int) (hj : (Lit.int .i64 j).wf = true) :
    Calls Try.prog 5 #[.slice A l.length c, .int .i64 i, .int .i64 j] w fun e w' => e = .returned (.bool true) ∧ Below w.heap.size w w' := by
  have HR := Aside0.mk hr
  have HB := Aside0.mk (Below.refl w.heap.size w)
  clear hr _B hi hj
  go_enter Try.func5, Try.ntmps5
  go_wp2_with fail
  refine (begunC HB.out).mono ?_
  rintro e w1 ⟨rfl, hb⟩
  have HB1 := Aside0.mk hb; clear hb
  go_wp2_with fail
  by_cases h0 : chk (us l) [i, j] = 0
  · have H0 := Aside0.mk h0
    clear h0
    refine (Back_calls _ A c l j (Kd.C_below HR.out HB1.out) lc).mono ?_
    rintro e w2 hT
    obtain ⟨A2, c2, rfl, hc2, hC2, hb⟩ := hT.zero (chk_both H0.out).2
    have HB2 := Aside0.mk (below_then HB1.out HB1.out.size hb)
    have HC2 := Aside0.mk hC2
    clear hb hC2 hT
    have hOn := (On_calls w2 A c l i (Kd.C_below HR.out HB2.out) lc).mono (fun e w' (h : Told _ _ _ e w') => h.zero (chk_both H0.out).1)
    have HCh := Aside0.mk (fun (W : World) (hw : Below w.heap.size w W) => (Chop_calls W A c l i j (Kd.C_below HR.out hw) lc).mono (fun e w' (h : Told _ _ _ e w') => h.zero H0.out))
    have HPL := Aside0.mk (show ∃ (ii jj : Nat), i = (ii : Int) ∧ j = (jj : Int) ∧ Sc.Form (us l) ∧ ii < (us l).length ∧ jj < (us l).length from by
      obtain ⟨h1, h2, h3⟩ := chk_zero.1 H0.out
      have hi := h3 i (by simp)
      have hj := h3 j (by simp)
      exact ⟨i.toNat, j.toNat, by omega, by omega, h2, by omega, by omega⟩)
    obtain ⟨ii, jj, rfl, rfl, hf, hil, hjl⟩ := HPL.out
    obtain ⟨p, p1, p2, p3, p4, p5⟩ := both_plain hf hil hjl
    simp only [Int.toNat_natCast] at hOn HCh HC2 hc2 ⊢
    rw [us_length] at p1 p2 p3 p4 p5
    clear hf hil hjl HPL H0
    generalize listed l.length [backF (us l) jj] = LA at hc2 HC2 p1 p5 ⊢
    generalize listed l.length [onF (us l) ii] = LB at hOn p2 p5 ⊢
    generalize listed l.length [onF (us l) ii, backF (us l) jj] = LC at HCh p3 p4 p5 ⊢
    have P1 := Aside0.mk p1
    have P2 := Aside0.mk p2
    have P3 := Aside0.mk p3
    have P4 := Aside0.mk p4
    have P5 := Aside0.mk p5
    clear p1 p2 p3 p4 p5
    go_wp2_with fail
    refine hOn.mono ?_
    rintro e w3 ⟨A3, c3, rfl, hc3, hC3, hb⟩
    have HB3 := Aside0.mk (below_then HB2.out HB2.out.size hb)
    have HC2' := Aside0.mk (Kd.C_below HC2.out hb)
    have HC3 := Aside0.mk hC3
    clear hb hC3 HC2 hOn
    go_wp2_with fail
    refine (HCh.out w3 HB3.out).mono ?_
    rintro e w4 ⟨A4, c4, rfl, hc4, hC4, hb⟩
    have HB4 := Aside0.mk (below_then HB3.out HB3.out.size hb)
    have HC2 := Aside0.mk (Kd.C_below HC2'.out hb)
    have HC3' := Aside0.mk (Kd.C_below HC3.out hb)
    have HC4 := Aside0.mk hC4
    clear hb hC4 HC2' HC3 HCh
    go_wp2_with fail
    refine (has_calls w4 A2 c2 LA (ii : Int) HC2.out hc2).mono ?_
    rintro e w5 ⟨rfl, hb⟩
    have HB5 := Aside0.mk (below_then HB4.out HB4.out.size hb)
    have HC2' := Aside0.mk (Kd.C_below HC2.out hb)
    have HC3 := Aside0.mk (Kd.C_below HC3'.out hb)
    have HC4' := Aside0.mk (Kd.C_below HC4.out hb)
    clear hb HC2 HC3' HC4
    rw [P1.out]
    cases p with
    | true =>
      obtain ⟨m, hm, hm0, hm1⟩ := P3.out rfl
      have HM := Aside0.mk (And.intro hm (And.intro hm0 hm1))
      have hmpos : 0 < LC.length := by omega
      have hmposI : (0 : Int) < (LC.length : Int) := by omega
      have hmmax : LC.length ≤ 9223372036854775807 := HC4'.out.2.1
      clear hm hm0 hm1
      go_wp2_with fail
      refine (has_calls w5 A3 c3 LB (jj : Int) HC3.out hc3).mono ?_
      rintro e w6 ⟨rfl, hb⟩
      have HB6 := Aside0.mk (below_then HB5.out HB5.out.size hb)
      have HC2 := Aside0.mk (Kd.C_below HC2'.out hb)
      have HC3' := Aside0.mk (Kd.C_below HC3.out hb)
      have HC4 := Aside0.mk (Kd.C_below HC4'.out hb)
      clear hb HC2' HC3 HC4'
      rw [P2.out]
      go_wp2_with fail
      go_loopw [14] (fun q wr => ∃ k : Nat, k ≤ LC.length ∧ q = .int .i64 (k : Int) ∧ Aside0 (Below w6.heap.size w6 wr)) (fun q _ => LC.length - (intOf q).toNat)
      case atStart => exact ⟨0, Nat.zero_le _, rfl, ⟨Below.refl _ _⟩⟩
      case round =>
        obtain ⟨k, hk, rfl, HB⟩ := hrel
        by_cases hlt : k < LC.length
        · have hk1 : (k : Int) < (LC.length : Int) := by omega
          obtain ⟨ad, rfl, e0⟩ := Kd.at_int (Kd.C_below HC4.out HB.out) (k : Int) (by omega) (by omega)
          have hrd : rd LC (k : Int) = LC[k] := by simp [rd, List.getD_eq_getElem?_getD, hlt]
          rw [hrd, Int.toNat_natCast] at e0
          have HX := Aside0.mk (P5.out LC[k] (List.getElem_mem _))
          have H4B := Aside0.mk (Kd.C_below HC4.out HB.out)
          generalize LC[k] = x at e0 HX
          clear hrd
          go_wp2_with fail
          refine (has_calls _ A2 c2 LA x (Kd.C_below HC2.out HB.out) hc2).mono ?_
          rintro e w7 ⟨rfl, hb⟩
          have HB7 := Aside0.mk (below_then HB.out HB.out.size hb)
          have e1 := (hb.cell (World.block_lt_of_cell? _ _ e0)).trans e0
          clear hb
          rw [decide_eq_true HX.out.1]
          go_wp2_with fail
          refine (has_calls _ A3 c3 LB x (Kd.C_below HC3'.out HB7.out) hc3).mono ?_
          rintro e w8 ⟨rfl, hb⟩
          have HB8 := Aside0.mk (below_then HB7.out HB7.out.size hb)
          clear hb
          rw [decide_eq_true HX.out.2]
          go_wp2_with fail
          go_roundw
          case rel => exact ⟨k + 1, by omega, by go_num, HB8⟩
          case measure => simp [intOf]; omega
        · have hk' : k = LC.length := by omega
          subst hk'
          have hb6 := below_then HB6.out HB6.out.size HB.out
          go_wp2_with fail
          refine (begun_calls _).mono ?_
          rintro e w9 ⟨rfl, hb9⟩
          have HB9 := Aside0.mk (below_then hb6 hb6.size hb9)
          have hC9 := Kd.C_below (Kd.C_below HC4.out HB.out) hb9
          obtain ⟨m1, m2, m3⟩ := HM.out
          obtain ⟨ad, rfl, e0⟩ := Kd.at_int hC9 (0 : Int) (by omega) (by omega)
          obtain ⟨ad', ha', e1⟩ := Kd.at_int hC9 ((LC.length : Int) - 1) (by omega) (by omega)
          obtain rfl : ad = ad' := by simpa using ha'
          rw [show rd LC 0 = (ii : Int) from m2] at e0
          rw [show rd LC ((LC.length : Int) - 1) = (jj : Int) from by unfold rd; rw [show ((LC.length : Int) - 1).toNat = m by omega]; exact m3] at e1
          clear hb6 hb9 hC9 m1 m2 m3 ha'
          replace e0 : w9.cell? ad = some (.int .i64 (ii : Int)) := e0
          rw [show ((LC.length : Int) - 1).toNat = LC.length - 1 by omega] at e1
          go_wp2
          trace_state
          go_ret
          exact ⟨rfl, HB9.out⟩
    | false =>
      have hnil := P4.out rfl
      subst hnil
      clear P3 P4 P5
      go_wp2_with fail
      refine (has_calls w5 A3 c3 LB (jj : Int) HC3.out hc3).mono ?_
      rintro e w6 ⟨rfl, hb⟩
      have HB6 := Aside0.mk (below_then HB5.out HB5.out.size hb)
      clear hb
      rw [P2.out]
      go_wp2_with fail
      go_loopw [14] (fun q wr => q = .int .i64 0 ∧ Aside0 (Below w6.heap.size w6 wr)) (fun q _ => 0)
      case atStart => exact ⟨rfl, ⟨Below.refl _ _⟩⟩
      case round =>
        obtain ⟨rfl, HB⟩ := hrel
        have hb6 := Aside0.mk (below_then HB6.out HB6.out.size HB.out)
        go_wp2_with fail
        refine (begunC hb6.out).mono ?_
        rintro e w9 ⟨rfl, hb9⟩
        have HB9 := Aside0.mk hb9
        clear hb9
        go_wp2
        go_ret
        exact ⟨rfl, HB9.out⟩
  · have H0 := Aside0.mk h0
    refine (Back_calls _ A c l j (Kd.C_below HR.out HB1.out) lc).mono ?_
    rintro e w2 hT
    obtain ⟨⟨v2, rfl⟩, hb⟩ := hT.any
    have HB2 := Aside0.mk (below_then HB1.out HB1.out.size hb)
    have hOn := (On_calls w2 A c l i (Kd.C_below HR.out HB2.out) lc).mono (fun e w' (h : Told _ _ _ e w') => h.any)
    have HCh := Aside0.mk (fun (W : World) (hw : Below w.heap.size w W) => (Chop_calls W A c l i j (Kd.C_below HR.out hw) lc).mono (fun e w' (h : Told _ _ _ e w') => h.bad H0.out))
    clear hT hb
    obtain ⟨b1, p1, p1'⟩ := bools_of (chk (us l) [j])
    obtain ⟨b2, p2, p2'⟩ := bools_of (chk (us l) [i])
    have p3 : (chk (us l) [i, j] == 0) = false := beq_eq_false_iff_ne.mpr h0
    have p3' : (chk (us l) [i, j] != 0) = true := bne_iff_ne.mpr h0
    clear h0 H0
    generalize chk (us l) [j] = r1 at p1 p1' ⊢
    generalize chk (us l) [i] = r2 at p2 p2' hOn
    generalize chk (us l) [i, j] = r3 at p3 p3' HCh
    go_wp2_with fail
    refine hOn.mono ?_
    rintro e w3 ⟨⟨v3, rfl⟩, hb⟩
    have HB3 := Aside0.mk (below_then HB2.out HB2.out.size hb)
    clear hb hOn
    go_wp2_with fail
    refine (HCh.out w3 HB3.out).mono ?_
    rintro e w4 ⟨rfl, hb⟩
    have HB4 := Aside0.mk (below_then HB3.out HB3.out.size hb)
    clear hb HCh
    cases b1 <;> cases b2 <;> simp only [Bool.not_true, Bool.not_false] at p1' p2'
    all_goals
      go_wp2_with fail
      refine (begunC HB4.out).mono ?_
      rintro e w5 ⟨rfl, hb⟩
      have HB5 := Aside0.mk hb; clear hb
      go_wp2
      go_ret
      exact ⟨rfl, HB5.out⟩
end Go.Proofs.Ytblalidpeccabaa.Sm
