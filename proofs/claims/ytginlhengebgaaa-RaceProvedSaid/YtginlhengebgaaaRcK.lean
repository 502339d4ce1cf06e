/- RaceProved: its walk. -/
import Derived.Test.YtginlhengebgaaaRcJ
namespace Go.Proofs.Ytginlhengebgaaa.Ck
open Go Go.RowKit Go.Maps Go.Proofs.YtginlhengebgaaaW Go.Proofs.YtginlhengebgaaaW.PrintWords Go.Proofs.YtginlhengebgaaaW.PrintLast Go.Proofs.YtginlhengebgaaaW.PrintMore Go.Proofs.Ytginlhengebgaaa.PLockupEither Go.Proofs.Ytginlhengebgaaa.Bs Go.Proofs.Ytginlhengebgaaa.RegionVal Go.Proofs.Ytginlhengebgaaa.Lk
open Go.Lib hiding intOf
set_option linter.unusedVariables false
set_option linter.unusedSimpArgs false
theorem PrfG.below {w w' : World} {I J : List Int} {v : Value} (h : PrfG w I J v) (hb : Below w.heap.size w w') : PrfG w' I J v := by
  obtain ⟨A1, c1, A2, c2, e, h1, h2, h3, h4⟩ := h
  exact ⟨A1, c1, A2, c2, e, h1, h2, Kd.C_below h3 hb, Kd.C_below h4 hb⟩
theorem PrfG.none (w : World) : PrfG w [] [] noProof :=
  ⟨Option.none, 0, Option.none, 0, rfl, Nat.le_refl _, Nat.le_refl _, C_int ⟨rfl, by decide, fun h => absurd h (by decide)⟩, C_int ⟨rfl, by decide, fun h => absurd h (by decide)⟩⟩
theorem PrfV.given {w : World} {B : Nat} {I J : List Int} {v : Value} (h : PrfV w B I J v) : PrfG w I J v := by
  obtain ⟨g1, c1, g2, c2, e, h1, h2⟩ := h
  exact ⟨_, c1, _, c2, e, own_cap h1, own_cap h2, C_int (own_rdA h1), C_int (own_rdA h2)⟩
theorem mem_take_succ {R : List S32} {p : S32} {n : Nat} (hn : n < R.length) : p ∈ R.take (n + 1) ↔ p ∈ R.take n ∨ p = R[n] := by
  rw [List.take_succ_eq_append_getElem hn, List.mem_append, List.mem_singleton]
set_option maxHeartbeats 32000000 in
set_option maxRecDepth 100000 in
theorem raceProved_walk (w : World) (A : Option Addr) (c : Nat) (l0 : List CE) (h : Kd.C kC w A l0.length l0) (hc : l0.length ≤ c) (T i j : Int) (I J : List Int) (pv : Value) (hp : PrfG w I J pv) :
    Calls Try.prog 9 #[.slice A l0.length c, .int .i64 T, .int .i64 i, .int .i64 j, pv] w fun e w' => e = .returned (.bool true) ∧ Below w.heap.size w w' := by
  have HPG := Aside0.mk hp
  obtain ⟨A1, c1, A2, c2, rfl, hl1, hl2, hC1, hC2⟩ := hp
  have HR := Aside0.mk h
  have HB0 := Aside0.mk (below_alloc (Below.refl w.heap.size w) (.cells #[.slice A1 I.length c1, .slice A2 J.length c2] 55))
  have HX0 := Aside0.mk (heap_alloc_new w (.cells #[.slice A1 I.length c1, .slice A2 J.length c2] 55))
  clear h hl1 hl2 hC1 hC2
  obtain ⟨gp, hgp⟩ : ∃ gp, gp = w.heap.size := ⟨_, rfl⟩
  rw [← hgp] at HX0
  go_enter Try.func9, Try.ntmps9
  go_wp2_with fail
  rw [← hgp]
  refine (rbegun_calls _).mono ?_
  rintro e w1 ⟨rfl, hb1⟩
  have HB1 := Aside0.mk (below_then HB0.out HB0.out.size hb1)
  have HX1 := Aside0.mk (blk_below HX0.out hb1)
  have HR1 := Aside0.mk (Kd.C_below HR.out HB1.out)
  clear hb1 HB0 HX0 HR hgp
  go_wp2_with fail
  refine (soon_calls w1 A c l0 HR1.out hc).mono ?_
  rintro e w2 ⟨l, rfl, hlc, hl60, hr2, hb2⟩
  have HB2 := Aside0.mk (below_then HB1.out HB1.out.size hb2)
  have HX2 := Aside0.mk (blk_below HX1.out hb2)
  have HR2 := Aside0.mk hr2
  clear hb2 hr2 HR1 HB1 HX1 hc
  go_wp2_with fail
  refine (All_calls w2 A c l T HR2.out hlc).mono ?_
  rintro e w3 ⟨v3, rfl, hv3, hv3', hb3⟩
  have HB3 := Aside0.mk (below_then HB2.out HB2.out.size hb3)
  have HX3 := Aside0.mk (blk_below HX2.out hb3)
  have HR3 := Aside0.mk (Kd.C_below HR2.out hb3)
  have HPG3 := Aside0.mk (HPG.out.below HB3.out)
  have k0 := blk_cell HX3.out 0
  have k1 := blk_cell HX3.out 1
  simp only [List.getElem?_toArray, List.getElem?_cons_zero, List.getElem?_cons_succ] at k0 k1
  clear hb3 HR2 HB2 HX2 HPG
  by_cases hq : pairF l T i j = 0
  · obtain ⟨hck, hi0, hi1, hj0, hj1⟩ := pair_ok hq
    obtain ⟨hl, th, hT, hth, ht⟩ := chk_ok hck
    obtain ⟨i', hi'⟩ : ∃ i' : Nat, i = (i' : Int) := ⟨i.toNat, by omega⟩
    obtain ⟨j', hj'⟩ : ∃ j' : Nat, j = (j' : Int) := ⟨j.toNat, by omega⟩
    subst hT hi' hj'
    obtain ⟨E, hE, hRA⟩ := hv3 hck
    rw [Int.toNat_natCast] at hRA
    have HE := Aside0.mk hE
    have HT := Aside0.mk ht
    have HQ := Aside0.mk hq
    have hi2 : i' < l.length := by omega
    have hj2 : j' < l.length := by omega
    obtain ⟨R, hRR⟩ : ∃ R, R = racesF l th E := ⟨_, rfl⟩
    rw [← hRR] at hRA
    have HRR := Aside0.mk hRR
    obtain ⟨B, d, rfl, hd, hRC⟩ := Kd.R_reads hRA
    have HRC := Aside0.mk hRC
    have hRn := hRC.2.1
    have HP := Aside0.mk (Holds_ok w3 A c l th i' j' I J _ HPG3.out HR3.out hlc hq)
    rw [hck]
    clear hv3 hv3' hE ht hck hq hi0 hj0 hRA hRC hRR
    go_wp2_with fail
    refine HP.out.mono ?_
    rintro e w4 ⟨E', hE', rfl, hb4⟩
    obtain rfl := hE'.uniq HE.out
    have HB4 := Aside0.mk (below_then HB3.out HB3.out.size hb4)
    have HR4 := Aside0.mk (Kd.C_below HR3.out hb4)
    have HRC4 := Aside0.mk (Kd.C_below HRC.out hb4)
    obtain ⟨b13, hb13⟩ : ∃ b, b = holdB l E' i' j' I J := ⟨_, rfl⟩
    rw [← hb13]
    have HH := Aside0.mk (fun h : b13 = true => hold_prv HE.out HT.out hi2 hj2 (hb13.symm.trans h))
    clear hb4 hE' HP HR3 HB3 hb13 k0 k1 HX3 HRC HPG3
    go_wp2_with fail
    obtain ⟨mn, hmn⟩ : ∃ mn : Int, mn = min (i' : Int) (j' : Int) := ⟨_, rfl⟩
    obtain ⟨mx, hmx⟩ : ∃ mx : Int, mx = max (i' : Int) (j' : Int) := ⟨_, rfl⟩
    have HTI := Aside0.mk (told_iff HE.out HT.out hi2 hj2)
    rw [← hmn, ← hmx, ← HRR.out] at HTI
    have HMN := Aside0.mk hmn
    have HMX := Aside0.mk hmx
    clear hmn hmx HRR
    go_loopw [15, 16] (fun v15 v16 wr => ∃ (n : Nat) (b : Bool), v16 = .int .i64 (n : Int) ∧ n ≤ R.length ∧ v15 = .bool b ∧ Aside0 (b = true ↔ (⟨mn, mx⟩ : S32) ∈ R.take n) ∧ Aside0 (Below w4.heap.size w4 wr)) (fun _ v16 _ => R.length - (intOf v16).toNat)
    case atStart => exact ⟨0, false, rfl, Nat.zero_le _, rfl, ⟨by simp⟩, ⟨Below.refl _ _⟩⟩
    case round =>
      obtain ⟨n, b, rfl, hn, rfl, HBT, HB⟩ := hrel
      by_cases hnl : n < R.length
      · have hnl1 : (n : Int) < (R.length : Int) := by omega
        obtain ⟨ad, rfl, e0, e1⟩ := at32 (Kd.C_below HRC4.out HB.out) n hnl
        have HST := Aside0.mk (mem_take_succ (p := (⟨mn, mx⟩ : S32)) hnl)
        generalize R[n] = x at e0 e1 HST
        obtain ⟨x0, x1⟩ := x
        simp only at e0 e1
        cases b with
        | true =>
          go_wp2
          go_roundw
          case rel => exact ⟨n + 1, true, by go_num, hnl, rfl, ⟨by rw [HST.out]; exact ⟨fun _ => .inl (HBT.out.1 rfl), fun _ => rfl⟩⟩, HB⟩
          case measure => simp [intOf]; omega
        | false =>
          go_wp2
          · rename_i hx
            have HX := Aside0.mk (show (x1 == max (i' : Int) (j' : Int)) = true ↔ (⟨mn, mx⟩ : S32) ∈ R.take (n + 1) by
              rw [HST.out, beq_iff_eq, ← HMX.out]
              constructor
              · intro e; exact .inr (by rw [hx, e, HMN.out])
              · rintro (h | h)
                · exact absurd (HBT.out.2 h) (by decide)
                · injection h with h1 h2
                  exact h2.symm)
            clear hx
            go_roundw
            case rel => exact ⟨n + 1, _, by go_num, hnl, rfl, HX, HB⟩
            case measure => simp [intOf]; omega
          · rename_i hx
            have HX := Aside0.mk (show false = true ↔ (⟨mn, mx⟩ : S32) ∈ R.take (n + 1) by
              rw [HST.out]
              constructor
              · intro e; cases e
              · rintro (h | h)
                · exact HBT.out.2 h
                · injection h with h1 h2
                  exact absurd (h1.symm.trans HMN.out) hx)
            clear hx
            go_roundw
            case rel => exact ⟨n + 1, false, by go_num, hnl, rfl, HX, HB⟩
            case measure => simp [intOf]; omega
      · have HTB := Aside0.mk (show b = prvB l th E' i' j' by
          have h1 := HBT.out
          rw [List.take_of_length_le (by omega), HTI.out] at h1
          rw [Bool.eq_iff_iff]
          exact h1)
        have HB5 := Aside0.mk (below_then HB4.out HB4.out.size HB.out)
        have HR5 := Aside0.mk (Kd.C_below HR4.out HB.out)
        have HPR := Aside0.mk (Prove_ok wr A c l th i' j' HR5.out hlc HQ.out)
        clear HBT HTI HMN HMX HB HB4 HR4 HRC4 hn
        go_wp2_with fail
        refine HPR.out.mono ?_
        rintro e w6 ⟨E2, v6, r6, hE2, rfl, hb6, h6⟩
        obtain rfl := hE2.uniq HE.out
        have HB6 := Aside0.mk (below_then HB5.out HB5.out.size hb6)
        have HR6 := Aside0.mk (Kd.C_below HR5.out hb6)
        obtain ⟨I6, J6, hpg, hg6⟩ : ∃ I6 J6, PrfG w6 I6 J6 v6 ∧ ((b = false ∧ r6 = 5 ∧ holdB l E2 i' j' I6 J6 = false) ∨ (b = true ∧ r6 = 0 ∧ holdB l E2 i' j' I6 J6 = true)) := by
          rcases h6 with ⟨rfl, rfl, h⟩ | ⟨rfl, h, hv⟩
          · exact ⟨[], [], PrfG.none _, .inl ⟨HTB.out.trans h, rfl, hold_nil _ _⟩⟩
          · exact ⟨_, _, hv.given, .inr ⟨HTB.out.trans h, rfl, prv_hold HE.out HT.out hi2 hj2 h⟩⟩
        rw [← HTB.out] at HH
        have HG6 := Aside0.mk hpg
        obtain ⟨A5, c5, A6, c6, rfl, _, _, _, _⟩ := hpg
        have hba := below_alloc (Below.refl w6.heap.size w6) (.cells #[.slice A5 I6.length c5, .slice A6 J6.length c6] 55)
        have HB7 := Aside0.mk (below_then HB6.out HB6.out.size hba)
        have HX7 := Aside0.mk (heap_alloc_new w6 (.cells #[.slice A5 I6.length c5, .slice A6 J6.length c6] 55))
        have HHO := Aside0.mk (Holds_ok _ A c l th i' j' I6 J6 _ (HG6.out.below hba) (Kd.C_below HR6.out hba) hlc HQ.out)
        have HG := Aside0.mk hg6
        clear hE2 hb6 h6 HTB HPR HR5 HB5 hba hg6 HG6 HB6 HR6
        have k0 := blk_cell HX7.out 0
        have k1 := blk_cell HX7.out 1
        simp only [List.getElem?_toArray, List.getElem?_cons_zero, List.getElem?_cons_succ] at k0 k1
        go_wp2_with fail
        refine HHO.out.mono ?_
        rintro e w8 ⟨E3, hE3, rfl, hb8⟩
        obtain rfl := hE3.uniq HE.out
        have HB8 := Aside0.mk (below_then HB7.out HB7.out.size hb8)
        generalize holdB l E3 i' j' I6 J6 = b19 at HG ⊢
        clear hE3 hb8 HHO HB7 HX7 k0 k1
        go_wp2_with fail
        refine (rbegun_calls _).mono ?_
        rintro e w9 ⟨rfl, hb9⟩
        have HB9 := Aside0.mk (below_then HB8.out HB8.out.size hb9)
        clear hb9 HB8
        rcases HG.out with ⟨rfl, rfl, rfl⟩ | ⟨rfl, rfl, rfl⟩
        · have h13 : b13 = false := by
            cases b13 with
            | false => rfl
            | true => exact absurd (HH.out rfl) (by decide)
          subst h13
          clear HH HG
          go_wp2
          exact bodyPost_ret (v := .bool true) (by simp [results, Try.f9, go_sem]) rfl ⟨rfl, HB9.out⟩
        · clear HH HG
          cases b13 with
          | false =>
            go_wp2
            exact bodyPost_ret (v := .bool true) (by simp [results, Try.f9, go_sem]) rfl ⟨rfl, HB9.out⟩
          | true =>
            go_wp2
            exact bodyPost_ret (v := .bool true) (by simp [results, Try.f9, go_sem]) rfl ⟨rfl, HB9.out⟩
  · have HP := Aside0.mk (Holds_bad w3 A c l T i j I J _ HPG3.out HR3.out hlc hq)
    have HNE := Aside0.mk (show chkF l T ≠ 0 → v3 = .slice none 0 0 from hv3')
    obtain ⟨q, hqq⟩ : ∃ q, q = pairF l T i j := ⟨_, rfl⟩
    rw [← hqq] at hq HP
    have d1 : (q != 0) = true := bne_iff_ne.2 hq
    have d2 : (q == 0) = false := beq_eq_false_iff_ne.2 hq
    clear hqq hq hv3 hv3' HNE
    generalize chkF l T = q2
    go_wp2_with fail
    refine HP.out.mono ?_
    rintro e w4 ⟨rfl, hb4⟩
    have HB4 := Aside0.mk (below_then HB3.out HB3.out.size hb4)
    clear hb4 HP HR3 HB3 k0 k1
    by_cases hq2 : q2 = 0
    · have d3 : (q2 != 0) = false := by rw [hq2]; rfl
      clear hq2
      go_wp2_with fail
      refine (rbegun_calls _).mono ?_
      rintro e w5 ⟨rfl, hb5⟩
      have HB5 := Aside0.mk (below_then HB4.out HB4.out.size hb5)
      clear hb5
      go_wp2
      exact bodyPost_ret (v := .bool true) (by simp [results, Try.f9, go_sem]) rfl ⟨rfl, HB5.out⟩
    · have d3 : (q2 != 0) = true := bne_iff_ne.2 hq2
      clear hq2
      go_wp2_with fail
      refine (rbegun_calls _).mono ?_
      rintro e w5 ⟨rfl, hb5⟩
      have HB5 := Aside0.mk (below_then HB4.out HB4.out.size hb5)
      clear hb5
      go_wp2
      exact bodyPost_ret (v := .bool true) (by simp [results, Try.f9, go_sem]) rfl ⟨rfl, HB5.out⟩
end Go.Proofs.Ytginlhengebgaaa.Ck
