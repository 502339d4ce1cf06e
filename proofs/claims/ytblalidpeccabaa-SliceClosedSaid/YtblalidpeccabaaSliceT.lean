/- SliceClosed's walk: the call answers true, whatever comes in. -/
import Derived.Test.YtblalidpeccabaaSliceS
namespace Go.Proofs.Ytblalidpeccabaa.Sm
open Go Go.RowKit Go.Lib Go.Proofs.YtblalidpeccabaaW.PrintWords Go.Proofs.YtblalidpeccabaaW.PrintLast Go.Proofs.YtblalidpeccabaaW.PrintMore Go.Proofs.Ytblalidpeccabaa.PHuntParts Go.Proofs.Ytblalidpeccabaa.Sc Go.Proofs.Ytblalidpeccabaa.Bs Go.Proofs.Ytblalidpeccabaa.RegionVal Go.Proofs.Ytblalidpeccabaa.Mp
set_option linter.unusedVariables false
set_option linter.unusedSimpArgs false

/-- what is plain of the list -/
theorem closed_plain {xss : List (List Int)} (hf : Sc.Form xss) {i : Nat} (hi : i < xss.length) {L : List Int} (hL : L = listed xss.length [backF xss i]) :
    (∀ n (hn : n < L.length), ∃ k : Nat, L[n] = (k : Int) ∧ k < xss.length ∧ k ≤ i ∧ ∀ u ∈ use xss k, u ∈ L) ∧
    (∀ n (hn : n < L.length), L[n] ≠ (i : Int) → ∃ m, ∃ hm : m < L.length, n < m ∧ L[n] ∈ use xss (L[m]).toNat) ∧ (i : Int) ∈ L := by
  subst hL
  refine ⟨fun n hn => ?_, fun n hn h => closed_used hf hi hn h, (has_back hf hi).2 .refl⟩
  obtain ⟨k, hk⟩ := listed_nat (List.getElem_mem hn)
  have hr := (has_back hf hi).1 (hk ▸ List.getElem_mem hn)
  have hle := hr.le hf
  refine ⟨k, hk, by omega, hle, fun u hu => ?_⟩
  have hb := hf k (by omega) u hu
  obtain ⟨v, rfl⟩ : ∃ v : Nat, u = (v : Int) := ⟨u.toNat, by omega⟩
  exact (has_back hf hi).2 (.step hr hu)

set_option maxHeartbeats 8000000 in
set_option maxRecDepth 100000 in
theorem sliceClosed_walk (w : World) (A : Option Addr) (c : Nat) (l : List S35) (lc : l.length ≤ c) (hr : Kd.C k35 w A l.length l) (_B : l.length ≤ 9223372036854775807 ∧ l.length * Try.prog.bytesOf 35 ≤ 140737488351232 ∧ ∀ a ∈ l, True)
    (i : Int) (hi : (Lit.int .i64 i).wf = true) :
    Calls Try.prog 4 #[.slice A l.length c, .int .i64 i] w fun e w' => e = .returned (.bool true) ∧ Below w.heap.size w w' := by
  have HR := Aside0.mk hr
  have HB := Aside0.mk (Below.refl w.heap.size w)
  clear hr _B hi
  go_enter Try.func4, Try.ntmps4
  go_wp2_with fail
  refine (begunC HB.out).mono ?_
  rintro e w1 ⟨rfl, hb⟩
  have HB1 := Aside0.mk hb; clear hb
  go_wp2_with fail
  by_cases h0 : chk (us l) [i] = 0
  · have H0 := Aside0.mk h0
    clear h0
    refine (Back_calls _ A c l i (Kd.C_below HR.out HB1.out) lc).mono ?_
    rintro e w2 hT
    obtain ⟨A2, c2, rfl, hc2, hC2, hb⟩ := hT.zero H0.out
    have HB2 := Aside0.mk (below_then HB1.out HB1.out.size hb)
    have HC2 := Aside0.mk hC2
    clear hb hC2 hT
    obtain ⟨h1, h2, h3⟩ := chk_zero.1 H0.out
    have hi := h3 i (by simp)
    obtain ⟨ii, rfl⟩ : ∃ ii : Nat, i = (ii : Int) := ⟨i.toNat, by omega⟩
    have hil : ii < (us l).length := by omega
    have HF := Aside0.mk h2
    rw [us_length] at h1 hi
    obtain ⟨p1, p2, p3⟩ := closed_plain h2 hil rfl
    rw [us_length] at p1 p2 p3
    rw [Int.toNat_natCast] at hc2 HC2 ⊢
    have hla := listed_length l.length [backF (us l) ii]
    generalize listed l.length [backF (us l) ii] = LA at hc2 HC2 p1 p2 p3 hla ⊢
    have P1 := Aside0.mk p1
    have P2 := Aside0.mk p2
    have P3 := Aside0.mk p3
    clear p1 p2 p3 h2 h3 H0 hil
    go_wp2_with fail
    go_loopw [7] (fun q wr => ∃ n : Nat, n ≤ LA.length ∧ q = .int .i64 (n : Int) ∧ Aside0 (Below w2.heap.size w2 wr)) (fun q _ => LA.length - (intOf q).toNat)
    case atStart => exact ⟨0, Nat.zero_le _, rfl, ⟨Below.refl _ _⟩⟩
    case round =>
      obtain ⟨n, hn, rfl, HB⟩ := hrel
      by_cases hlt : n < LA.length
      · have hn1 : (n : Int) < (LA.length : Int) := by omega
        obtain ⟨k, hk, hkl, hki, hku⟩ := P1.out n hlt
        obtain ⟨ad2, rfl, e0⟩ := Kd.at_int HC2.out (n : Int) (by omega) (by omega)
        have hrd : rd LA (n : Int) = (k : Int) := by simp [rd, List.getD_eq_getElem?_getD, hlt, hk]
        rw [hrd, Int.toNat_natCast] at e0
        obtain ⟨ad, A0, c0, rfl, g0, hl0, hC0⟩ := at_T35 HR.out (k : Int) (by omega) (by omega)
        have hrd2 : rd_T35 l (k : Int) = l[k] := by simp [rd_T35, List.getD_eq_getElem?_getD, hkl]
        rw [hrd2] at g0 hl0 hC0
        rw [Int.toNat_natCast] at g0
        have HU := Aside0.mk (use_us hkl)
        generalize l[k].f0 = xs at g0 hl0 hC0 HU
        have HKU := Aside0.mk (show ∀ u ∈ xs, u ∈ LA by rw [← HU.out]; exact hku)
        have HC0 := Aside0.mk hC0
        have HK := Aside0.mk hk
        have E0 := Aside0.mk e0
        have G0 := Aside0.mk g0
        have hxm : xs.length ≤ 9223372036854775807 := hC0.2.1
        have hk1 : (k : Int) < (l.length : Int) := by omega
        have elt := World.block_lt_of_cell? w2 _ e0
        have glt := World.block_lt_of_cell? w _ g0
        have ELT := Aside0.mk elt
        have GLT := Aside0.mk glt
        clear hrd hrd2 hC0 hku hk e0 g0 elt glt
        go_wp2_with fail
        go_loopw [8] (fun q wq => ∃ r : Nat, r ≤ xs.length ∧ q = .int .i64 (r : Int) ∧ Aside0 (Below w2.heap.size w2 wq)) (fun q _ => xs.length - (intOf q).toNat)
        case atStart => exact ⟨0, Nat.zero_le _, rfl, HB⟩
        case round =>
          obtain ⟨r, hr, rfl, HB⟩ := hrel
          have hbw := below_then HB2.out HB2.out.size HB.out
          have e0 := (HB.out.cell ELT.out).trans E0.out
          have g0 := (hbw.cell GLT.out).trans G0.out
          by_cases hrt : r < xs.length
          · have hr1 : (r : Int) < (xs.length : Int) := by omega
            obtain ⟨ad0, rfl, y0⟩ := Kd.at_int (Kd.C_below HC0.out hbw) (r : Int) (by omega) (by omega)
            have hrd : rd xs (r : Int) = xs[r] := by simp [rd, List.getD_eq_getElem?_getD, hrt]
            rw [hrd, Int.toNat_natCast] at y0
            have HY := Aside0.mk (HKU.out xs[r] (List.getElem_mem _))
            generalize xs[r] = y at y0 HY
            clear hrd hbw
            go_wp2_with fail
            refine (has_calls _ (some ad2) c2 LA y (Kd.C_below HC2.out HB.out) hc2).mono ?_
            rintro e w7 ⟨rfl, hb⟩
            have HB7 := Aside0.mk (below_then HB.out HB.out.size hb)
            clear hb
            rw [decide_eq_true HY.out]
            go_wp2
            go_roundw
            case rel => exact ⟨r + 1, by omega, by go_num, HB7⟩
            case measure => simp [intOf]; omega
          · have hr' : r = xs.length := by omega
            subst hr'
            obtain ⟨b0, hb0⟩ : ∃ b0 : Bool, ((k : Int) == (ii : Int)) = b0 := ⟨_, rfl⟩
            have HB0 := Aside0.mk hb0
            clear hbw
            go_wp2_with fail
            go_loopw [9, 10] (fun q p wq => ∃ (b : Bool) (m : Nat), n < m ∧ m ≤ LA.length ∧ q = .bool b ∧ p = .int .i64 (m : Int) ∧ Aside0 (b = true ∨ (LA[n] ≠ (ii : Int) ∧ ∀ m' (hm' : m' < LA.length), n < m' → m' < m → LA[n] ∉ use (us l) (LA[m']).toNat)) ∧ Aside0 (Below w2.heap.size w2 wq)) (fun _ p _ => LA.length - (intOf p).toNat)
            case atStart => exact ⟨b0, n + 1, by omega, by omega, by simp, by go_num, ⟨by
              rw [HK.out]
              cases b0 with
              | true => exact .inl rfl
              | false => exact .inr ⟨(fun e => by rw [e, beq_self_eq_true] at hb0; cases hb0), fun m' _ h1 h2 => absurd h1 (by omega)⟩⟩, HB⟩
            case round =>
              obtain ⟨b, m, hnm, hm, rfl, rfl, HE, HB⟩ := hrel
              clear hb0
              have e0 := (HB.out.cell ELT.out).trans E0.out
              by_cases hmt : m < LA.length
              · have hm1 : (m : Int) < (LA.length : Int) := by omega
                cases b with
                | true =>
                  go_wp2_with fail
                  refine wp_eff (S := fun w' => Below w2.heap.size w2 w') [(0, false), (1, false), (2, false), (3, false), (4, false), (5, false), (6, false), (7, false), (8, false), (9, false), (10, false), (11, false), (12, false), (13, false), (14, false), (15, false), (16, false)] (by kernel_rfl) (by kernel_rfl) (below_drew1 HB.out) (fun _ _ d _ _ h => by cases d <;> exact h) ?_
                  refine se_move rfl rfl rfl ?_
                  refine se_move rfl rfl rfl ?_
                  refine se_skip rfl rfl ?_
                  refine se_skip rfl rfl ?_
                  refine se_skip rfl rfl ?_
                  refine se_skip rfl rfl ?_
                  refine se_skip rfl rfl ?_
                  refine se_skip rfl rfl ?_
                  refine se_skip rfl rfl ?_
                  refine se_skip rfl rfl ?_
                  refine se_skip rfl rfl ?_
                  refine se_skip rfl rfl ?_
                  refine se_skip rfl rfl ?_
                  refine se_skip rfl rfl ?_
                  refine se_skip rfl rfl ?_
                  refine se_pickT rfl rfl rfl rfl ?_
                  refine se_assign rfl rfl rfl ?_
                  intro hw7
                  have HB7 := Aside0.mk hw7
                  clear hw7
                  simp only [puts, Act.put, List.setIfInBounds_toArray, List.set_cons_zero, List.set_cons_succ]
                  go_wp2
                  go_roundw
                  case rel => exact ⟨true, m + 1, by omega, by omega, rfl, by go_num, ⟨.inl rfl⟩, HB7⟩
                  case measure => simp [intOf]; omega
                | false =>
                  obtain ⟨k2, hk2, hkl2, _, _⟩ := P1.out m hmt
                  obtain ⟨ad2', had2, f0⟩ := Kd.at_int HC2.out (m : Int) (by omega) (by omega)
                  obtain rfl : ad2 = ad2' := by simpa using had2
                  have hrd : rd LA (m : Int) = (k2 : Int) := by simp [rd, List.getD_eq_getElem?_getD, hmt, hk2]
                  rw [hrd, Int.toNat_natCast] at f0
                  obtain ⟨ad', A9, c9, had, f1, hl9, hC9⟩ := at_T35 HR.out (k2 : Int) (by omega) (by omega)
                  obtain rfl : ad = ad' := by simpa using had
                  have hrd2 : rd_T35 l (k2 : Int) = l[k2] := by simp [rd_T35, List.getD_eq_getElem?_getD, hkl2]
                  rw [hrd2] at f1 hl9 hC9
                  rw [Int.toNat_natCast] at f1
                  have HU2 := Aside0.mk (use_us hkl2)
                  generalize l[k2].f0 = ys at f1 hl9 hC9 HU2
                  have HC9 := Aside0.mk hC9
                  have HK2 := Aside0.mk hk2
                  have hk21 : (k2 : Int) < (l.length : Int) := by omega
                  have flt0 := World.block_lt_of_cell? w2 _ f0
                  have flt1 := World.block_lt_of_cell? w _ f1
                  have F0 := Aside0.mk f0
                  have F1 := Aside0.mk f1
                  have FLT0 := Aside0.mk flt0
                  have FLT1 := Aside0.mk flt1
                  clear hrd hrd2 hC9 hk2 had had2 f0 f1 flt0 flt1 e0
                  go_wp2_with fail
                  refine wp_eff (S := fun w' => Below w2.heap.size w2 w') [(0, false), (1, false), (2, false), (3, false), (4, false), (5, false), (6, false), (7, false), (8, false), (9, false), (10, false), (11, false), (12, false), (13, false), (14, true), (15, false), (16, false)] (by kernel_rfl) (by kernel_rfl) (below_drew1 HB.out) (fun _ _ d _ _ h => by cases d <;> exact h) ?_
                  refine se_move rfl rfl rfl ?_
                  refine se_move rfl rfl rfl ?_
                  refine se_move rfl rfl rfl ?_
                  refine se_move rfl rfl rfl ?_
                  refine se_move rfl rfl rfl ?_
                  refine se_indexAddr rfl rfl rfl rfl (fun w' hw => by go_simp; with_reducible rfl) ?_
                  refine se_un rfl rfl rfl rfl rfl (fun w' hw => by have q := (hw.cell FLT0.out).trans F0.out; go_simp; with_reducible rfl) ?_
                  refine se_indexAddr rfl rfl rfl rfl (fun w' hw => by go_simp; with_reducible rfl) ?_
                  refine se_un rfl rfl rfl rfl rfl (fun w' hw => by go_simp; with_reducible rfl) ?_
                  refine se_un rfl rfl rfl rfl rfl (fun w' hw => by have q := ((below_then HB2.out HB2.out.size hw).cell FLT1.out).trans F1.out; go_simp; with_reducible rfl) ?_
                  refine se_move rfl rfl rfl ?_
                  refine se_move rfl rfl rfl ?_
                  refine se_indexAddr rfl rfl rfl rfl (fun w' hw => by go_simp; with_reducible rfl) ?_
                  refine se_un rfl rfl rfl rfl rfl (fun w' hw => by have q := (hw.cell ELT.out).trans E0.out; go_simp; with_reducible rfl) ?_
                  refine se_call (vs := [.slice A9 ys.length c9, .int .i64 (k : Int)]) rfl rfl Try.func13 (by kernel_rfl) rfl (by kernel_rfl) ?_
                  refine (has_calls _ A9 c9 ys (k : Int) (Kd.C_below HC9.out (below_then HB2.out HB2.out.size (below_drew1 HB.out))) hl9).mono ?_
                  rintro e w8 ⟨rfl, hb⟩
                  refine ⟨_, rfl, below_then (below_drew1 HB.out) (below_drew1 HB.out).size hb, ?_⟩
                  refine se_pickF rfl rfl rfl rfl ?_
                  refine se_assign rfl rfl rfl ?_
                  intro hw7
                  have HB7 := Aside0.mk hw7
                  clear hw7 hb
                  simp only [puts, Act.put, List.setIfInBounds_toArray, List.set_cons_zero, List.set_cons_succ]
                  go_wp2
                  go_roundw
                  case rel => exact ⟨decide ((k : Int) ∈ ys), m + 1, by omega, by omega, rfl, by go_num, ⟨by
                    by_cases hd : (k : Int) ∈ ys
                    · exact .inl (decide_eq_true hd)
                    · rcases HE.out with h | ⟨h1, h2⟩
                      · cases h
                      · refine .inr ⟨h1, fun m' hm' h3 h4 => ?_⟩
                        by_cases e : m' = m
                        · subst e
                          rw [HK2.out, Int.toNat_natCast, HU2.out, HK.out]
                          exact hd
                        · exact h2 m' hm' h3 (by omega)⟩, HB7⟩
                  case measure => simp [intOf]; omega
              · have hm' : m = LA.length := by omega
                subst hm'
                have hbt : b = true := by
                  rcases HE.out with h | ⟨h1, h2⟩
                  · exact h
                  · obtain ⟨q, hq, h3, h4⟩ := P2.out n hlt h1
                    exact absurd h4 (h2 q hq h3 hq)
                subst hbt
                go_wp2
                go_roundw
                case rel => exact ⟨n + 1, by omega, by go_num, HB⟩
                case measure => simp [intOf]; omega
      · have hk' : n = LA.length := by omega
        subst hk'
        have hb2 := below_then HB2.out HB2.out.size HB.out
        go_wp2_with fail
        refine (begun_calls _).mono ?_
        rintro e w3 ⟨rfl, hb⟩
        have HB3 := Aside0.mk (below_then hb2 hb2.size hb)
        have HC3 := Aside0.mk (Kd.C_below (Kd.C_below HC2.out HB.out) hb)
        clear hb hb2
        go_wp2_with fail
        refine (has_calls w3 A2 c2 LA (ii : Int) HC3.out hc2).mono ?_
        rintro e w4 ⟨rfl, hb⟩
        have HB4 := Aside0.mk (below_then HB3.out HB3.out.size hb)
        clear hb
        rw [decide_eq_true P3.out]
        go_wp2
        go_ret
        exact ⟨rfl, HB4.out⟩
  · have H0 := Aside0.mk h0
    refine (Back_calls _ A c l i (Kd.C_below HR.out HB1.out) lc).mono ?_
    rintro e w2 hT
    obtain ⟨rfl, hb⟩ := hT.bad H0.out
    have HB2 := Aside0.mk (below_then HB1.out HB1.out.size hb)
    have p3 : (chk (us l) [i] == 0) = false := beq_eq_false_iff_ne.mpr h0
    have p3' : (chk (us l) [i] != 0) = true := bne_iff_ne.mpr h0
    clear h0 H0 hb hT
    generalize chk (us l) [i] = r3 at p3 p3' ⊢
    go_wp2_with fail
    refine (begunC HB2.out).mono ?_
    rintro e w5 ⟨rfl, hb⟩
    have HB5 := Aside0.mk hb; clear hb
    go_wp2
    go_ret
    exact ⟨rfl, HB5.out⟩
end Go.Proofs.Ytblalidpeccabaa.Sm
