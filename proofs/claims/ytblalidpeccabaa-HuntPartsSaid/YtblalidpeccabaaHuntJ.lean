/- HuntParts' walk: the call answers true, whatever comes in. -/
import Derived.Test.YtblalidpeccabaaHuntI
namespace Go.Proofs.Ytblalidpeccabaa.Hn
open Go Go.RowKit Go.Lib Go.Proofs.YtblalidpeccabaaW.PrintWords Go.Proofs.YtblalidpeccabaaW.PrintLast Go.Proofs.YtblalidpeccabaaW.PrintMore Go.Proofs.Ytblalidpeccabaa.PHuntParts Go.Proofs.Ytblalidpeccabaa.Sc Go.Proofs.Ytblalidpeccabaa.Bs Go.Proofs.Ytblalidpeccabaa.RegionVal Go.Proofs.Ytblalidpeccabaa.Sm Go.Proofs.Ytblalidpeccabaa.Hp
attribute [local go_sem] max2_int min2_int max_two min_two
set_option linter.unusedVariables false
set_option linter.unusedSimpArgs false

theorem sorted_one {S : List Int} (hs : S.Pairwise (· < ·)) {b : Int} (hb : b ∈ S) (h : ∀ n ∈ S, n = b) : S = [b] := by
  refine sorted_ext hs (List.pairwise_singleton _ _) (fun x => ?_)
  rw [List.mem_singleton]
  exact ⟨h x, fun e => by rw [e]; exact hb⟩
/-- what is plain of one ask -/
theorem parts_plain {l : List S35} {b : Nat} {good : List Int} (h : acode (us l) (b : Int) good = 0) (hp : ¬ pickF (us l) (susp (us l) b good) (b : Int) < 0) :
    ∃ n : Nat, pickF (us l) (susp (us l) b good) (b : Int) = (n : Int) ∧ (n : Int) ≠ (b : Int) ∧ (n : Int) ∈ susp (us l) b good ∧ acode (us l) (n : Int) good = 0 ∧ acode (us l) (b : Int) (good ++ [(n : Int)]) = 0 ∧
      (susp (us l) n good).length < (susp (us l) b good).length ∧ (susp (us l) b (good ++ [(n : Int)])).length < (susp (us l) b good).length ∧
      (susp (us l) n good).length + (susp (us l) b (good ++ [(n : Int)])).length = (susp (us l) b good).length ∧
      ∀ x ∈ susp (us l) b good, decide (x ∈ susp (us l) n good) = !decide (x ∈ susp (us l) b (good ++ [(n : Int)])) := by
  obtain ⟨hl, hf, ⟨b', hbb, hbl, hbs⟩, hgi⟩ := acode_more h
  obtain rfl : b = b' := by omega
  obtain ⟨n, h0, hnl, y1, y2, n1, n2⟩ := hunt_step hf hbl hbs hp
  obtain ⟨n', h0', hm, hne, _⟩ := pickF_some hp
  obtain rfl : n = n' := by omega
  have hul := us_length l
  have hy := ask_yes hf (bad := b) (good := good) (by omega) hm
  have hno := ask_no (xss := us l) (bad := b) (n := n) (good := good)
  have chk1 : ∀ k : Nat, k < l.length → chk (us l) [(k : Int)] = 0 := fun k hk => chk_zero.2 ⟨by omega, hf, fun q hq => by
    obtain rfl : q = (k : Int) := by simpa using hq
    omega⟩
  refine ⟨n, h0, by omega, hm, ?_, ?_, y1, n1, ?_, ?_⟩
  · exact acode_zero.2 ⟨hcode_zero.2 ⟨chk1 n hnl, by rw [hul]; exact hgi⟩, by rw [Int.toNat_natCast]; exact y2⟩
  · refine acode_zero.2 ⟨hcode_zero.2 ⟨chk1 b hbl, fun g hg => ?_⟩, by rw [Int.toNat_natCast]; exact n2⟩
    rw [hul]
    rcases List.mem_append.1 hg with h | h
    · exact hgi g h
    · obtain rfl : g = (n : Int) := by simpa using h
      omega
  · rw [hy, hno]; exact filter_split _ _
  · intro x hx
    rw [hy, hno]
    have e1 : decide (x ∈ (susp (us l) b good).filter fun k => (bk (us l) n).contains k) = (bk (us l) n).contains x := by
      rw [Bool.eq_iff_iff, decide_eq_true_iff, List.mem_filter]
      exact ⟨fun h => h.2, fun h => ⟨hx, h⟩⟩
    have e2 : decide (x ∈ (susp (us l) b good).filter fun k => !(bk (us l) n).contains k) = !(bk (us l) n).contains x := by
      rw [Bool.eq_iff_iff, decide_eq_true_iff, List.mem_filter]
      exact ⟨fun h => h.2, fun h => ⟨hx, h⟩⟩
    rw [e1, e2, Bool.not_not]

set_option maxHeartbeats 8000000 in
set_option maxRecDepth 100000 in
theorem huntParts_walk (w : World) (A : Option Addr) (c : Nat) (l : List S35) (lc : l.length ≤ c) (hr : Kd.C k35 w A l.length l) (_B : l.length ≤ 9223372036854775807 ∧ l.length * Try.prog.bytesOf 35 ≤ 140737488351232 ∧ ∀ a ∈ l, True)
    (bad : Int) (hbad : (Lit.int .i64 bad).wf = true)
    (G : Option Addr) (d : Nat) (good : List Int) (gc : good.length ≤ d) (hg : Kd.C (Kd.int .i64) w G good.length good) (_G : good.length ≤ 9223372036854775807 ∧ good.length * Try.prog.bytesOf 3 ≤ 140737488351232 ∧ ∀ a ∈ good, (Lit.int .i64 a).wf = true) :
    Calls Try.prog 8 #[.slice A l.length c, .int .i64 bad, .slice G good.length d] w fun e w' => e = .returned (.bool true) ∧ Below w.heap.size w w' := by
  obtain ⟨n1, hn1, b1, hm1⟩ := min_cut l.length 30 (by omega) (by omega) _B.1
  obtain ⟨n2, hn2, b2, hm2⟩ := min_cut good.length 5 (by omega) (by omega) _G.1
  have hT1 := Kd.C_take (m := n1) hr hn1
  have hT2 := Kd.C_take (m := n2) hg hn2
  obtain ⟨l', hl'⟩ : ∃ l', l' = l.take n1 := ⟨_, rfl⟩
  obtain ⟨good', hgood'⟩ : ∃ g', g' = good.take n2 := ⟨_, rfl⟩
  rw [← hl'] at hT1
  rw [← hgood'] at hT2
  have e1 : l'.length = n1 := by rw [hl', List.length_take_of_le hn1]
  have e2 : good'.length = n2 := by rw [hgood', List.length_take_of_le hn2]
  have b3 : n1 ≤ c := by omega
  have b4 : n2 ≤ d := by omega
  subst e1
  subst e2
  have HT1 := Aside0.mk hT1
  have HT2 := Aside0.mk hT2
  have HM1 := Aside0.mk hm1
  have HM2 := Aside0.mk hm2
  have hlm := _B.1
  have hgm := _G.1
  clear hr hg _B _G hl' hgood' hT1 hT2 hm1 hm2 hn1 hn2 hbad
  go_enter Try.func8, Try.ntmps8
  go_wp2_with fail
  refine (begun_calls w).mono ?_
  rintro e w1 ⟨rfl, hb⟩
  have HB1 := Aside0.mk hb
  clear hb
  have hm1 := HM1.out
  have hm2 := HM2.out
  have h1 : (l'.length : Int) ≤ (c : Int) := by omega
  have h2 : (good'.length : Int) ≤ (d : Int) := by omega
  go_wp2_with fail
  go_region
  obtain ⟨W2, hW2⟩ : ∃ W2, W2 = w1.drew := ⟨_, rfl⟩
  have HB2 := Aside0.mk (show Below w.heap.size w W2 by rw [hW2]; exact below_drew HB1.out)
  rw [← hW2]
  clear hm1 hm2 hW2 HB1 HM1 HM2
  have HSU := Aside0.mk (Suspects_calls W2 A c l' bad G d good' (Kd.C_below HT1.out HB2.out) b3 (Kd.C_below HT2.out HB2.out) b4)
  go_wp2_with fail
  refine HSU.out.mono ?_
  rintro e w3 ⟨hS, hb3⟩
  have HB3 := Aside0.mk (below_then HB2.out HB2.out.size hb3)
  have HPK := Aside0.mk (Pick_calls w3 A c l' bad G d good' (Kd.C_below HT1.out HB3.out) b3 (Kd.C_below HT2.out HB3.out) b4)
  clear hb3 HSU
  rcases hS with ⟨h0, rfl⟩ | ⟨h0, A3, c3, rfl, hc3, hC3⟩
  · obtain ⟨r, hr⟩ : ∃ r, r = acode (us l') bad good' := ⟨_, rfl⟩
    have H0 := Aside0.mk h0
    rw [← hr] at h0 ⊢
    have HRR := Aside0.mk hr
    have q0 : (r == 0) = false := beq_eq_false_iff_ne.mpr h0
    have q1 : (r != 0) = true := bne_iff_ne.mpr h0
    clear h0 hr
    go_wp2_with fail
    refine HPK.out.mono ?_
    rintro e w4 ⟨⟨_, rfl⟩ | ⟨h, _⟩ | ⟨h, _⟩, hb4⟩
    · rw [← HRR.out]
      have HB4 := Aside0.mk (below_then HB3.out HB3.out.size hb4)
      clear hb4 HPK
      go_wp2_with fail
      refine (begunC HB4.out).mono ?_
      rintro e w5 ⟨rfl, hb5⟩
      have HB5 := Aside0.mk hb5
      clear hb5
      go_wp2
      go_ret
      exact ⟨by simp, HB5.out⟩
    · exact absurd h H0.out
    · exact absurd h H0.out
  · obtain ⟨hl, hf, ⟨b, rfl, hbl, hbs⟩, hgi⟩ := acode_more h0
    rw [Int.toNat_natCast] at hc3 hC3 HPK ⊢
    have H0 := Aside0.mk h0
    have HBS := Aside0.mk hbs
    have HC3 := Aside0.mk hC3
    have HPL := Aside0.mk (fun h => parts_plain (l := l') (b := b) (good := good') h0 h)
    have HNO := Aside0.mk (fun (h : pickF (us l') (susp (us l') b good') (b : Int) < 0) => sorted_one (susp_sorted (us l') b good') hbs (pickF_none h))
    obtain ⟨S, hS⟩ : ∃ S, S = susp (us l') b good' := ⟨_, rfl⟩
    rw [← hS] at hc3 HC3 HBS HPK HPL HNO ⊢
    have hSm : S.length ≤ 9223372036854775807 := HC3.out.2.1
    clear h0 hf hbs hgi hC3 hS
    go_wp2_with fail
    refine HPK.out.mono ?_
    rintro e w4 ⟨⟨h, _⟩ | ⟨_, hn, rfl⟩ | ⟨_, hn, rfl⟩, hb4⟩
    · exact absurd H0.out h
    · have hS1 := HNO.out hn
      have HB4 := Aside0.mk (below_then HB3.out HB3.out.size hb4)
      have HC4 := Aside0.mk (Kd.C_below HC3.out hb4)
      clear hb4 HPK HNO HPL hn
      subst hS1
      go_wp2_with fail
      refine (begun_calls w4).mono ?_
      rintro e w5 ⟨rfl, hb5⟩
      have HB5 := Aside0.mk (below_then HB4.out HB4.out.size hb5)
      obtain ⟨ad, rfl, e0⟩ := Kd.at_int (Kd.C_below HC4.out hb5) (0 : Int) (by omega) (by simp)
      replace e0 : w5.cell? ad = some (.int .i64 (b : Int)) := e0
      clear hb5
      go_wp2
      go_ret
      exact ⟨by simp, HB5.out⟩
    · obtain ⟨n, hn1, hne, hnS, ha1, ha2, k1, k2, k3, k4⟩ := HPL.out (by omega)
      rw [hn1]
      have HB4 := Aside0.mk (below_then HB3.out HB3.out.size hb4)
      have HC4 := Aside0.mk (Kd.C_below HC3.out hb4)
      have HA1 := Aside0.mk ha1
      have HA2 := Aside0.mk ha2
      have HNS := Aside0.mk hnS
      have K4 := Aside0.mk k4
      have hneq : ((n : Int) != (b : Int)) = true := bne_iff_ne.mpr hne
      have HS1 := Aside0.mk (Suspects_calls w4 A c l' (n : Int) G d good' (Kd.C_below HT1.out HB4.out) b3 (Kd.C_below HT2.out HB4.out) b4)
      clear hb4 HPK HNO HPL hn hn1 ha1 ha2 hnS k4 hne
      go_wp2_with fail
      refine HS1.out.mono ?_
      rintro e w5 ⟨⟨h, _⟩ | ⟨_, A5, c5, rfl, hc5, hC5⟩, hb5⟩
      · exact absurd HA1.out h
      · rw [Int.toNat_natCast] at hc5 hC5 ⊢
        have HB5 := Aside0.mk (below_then HB4.out HB4.out.size hb5)
        have HC5 := Aside0.mk hC5
        have HC4' := Aside0.mk (Kd.C_below HC4.out hb5)
        generalize susp (us l') n good' = L1 at k1 k3 K4 hc5 HC5 ⊢
        have HRG := Aside0.mk (reads_of (Kd.C_below HT2.out HB5.out))
        clear hb5 hC5 HS1 HC4
        go_wp2_with (first
          | (at_builtin; refine print_append_row (w0 := w5) w5.heap.size rfl _ _ 31 3 .i64 8 rfl Try.underlying31 infoInt (by decide) (.slice (some ⟨w5.heap.size, 0, none⟩) 0 0) [] good' G good'.length d rfl rfl (World.ownsRow_made w5 #[] 0 (Nat.le_refl _) (by decide) rfl) (HRG.out.below (below_alloc (Below.refl _ _) _)) (below_alloc (Below.refl _ _) _) (below_alloc (Below.refl _ _) _).size (by simp; omega) ?_; intro v6 w6 hown hB hg hat; rw [List.nil_append] at hown; have HO6 := Aside0.mk hown; have HB6 := Aside0.mk hB; clear hown hB hg hat)
          | (at_builtin; refine print_append_row (w0 := w5) w5.heap.size rfl _ _ 31 3 .i64 8 rfl Try.underlying31 infoInt (by decide) v6 good' [(n : Int)] _ 1 1 rfl rfl (own_keep HO6.out (below_alloc (Below.refl _ _) _)) (reads_lit _ [(n : Int)] (by simp) _) (below_alloc HB6.out _) (below_alloc HB6.out _).size (by omega) ?_; intro v7 w7 hown hB hg hat; obtain ⟨A7, c7, rfl, hc7, hr7⟩ := own_rd hown; have HC7 := Aside0.mk hc7; have HR7 := Aside0.mk hr7; have HB7 := Aside0.mk hB; clear hown hB hg hat hc7 hr7))
        have hb7 := below_then HB5.out HB5.out.size HB7.out
        have hsu := Suspects_calls w7 A c l' (b : Int) A7 c7 (good' ++ [(n : Int)]) (Kd.C_below HT1.out hb7) b3 (C_int HR7.out) HC7.out
        rw [show (good' ++ [(n : Int)]).length = good'.length + 1 by rw [List.length_append, List.length_singleton]] at hsu
        have HS2 := Aside0.mk hsu
        have HBX := Aside0.mk hb7
        have HC4 := Aside0.mk (Kd.C_below HC4'.out HB7.out)
        have HC5' := Aside0.mk (Kd.C_below HC5.out HB7.out)
        clear hsu hb7 HC4' HC5
        refine HS2.out.mono ?_
        rintro e w8 ⟨⟨h, _⟩ | ⟨_, A8, c8, rfl, hc8, hC8⟩, hb8⟩
        · exact absurd HA2.out h
        · rw [Int.toNat_natCast] at hc8 hC8 ⊢
          have HB8 := Aside0.mk (below_then HBX.out HBX.out.size hb8)
          have HC8 := Aside0.mk hC8
          have HC4' := Aside0.mk (Kd.C_below HC4.out hb8)
          have HC5 := Aside0.mk (Kd.C_below HC5'.out hb8)
          generalize susp (us l') b (good' ++ [(n : Int)]) = L2 at k2 k3 K4 hc8 HC8 ⊢
          have q1 : decide ((S.length : Int) ≤ (L1.length : Int)) = false := decide_eq_false (by omega)
          have q2 : decide ((S.length : Int) ≤ (L2.length : Int)) = false := decide_eq_false (by omega)
          have q3 : ((L1.length : Int) + (L2.length : Int) != (S.length : Int)) = false := by rw [show (L1.length : Int) + (L2.length : Int) = (S.length : Int) by omega]; simp
          have m1 : L1.length ≤ 9223372036854775807 := HC5.out.2.1
          have m2 : L2.length ≤ 9223372036854775807 := HC8.out.2.1
          clear hb8 hC8 HS2 HC4 HC5'
          go_wp2_with fail
          go_loopw [16] (fun q wr => ∃ k : Nat, k ≤ S.length ∧ q = .int .i64 (k : Int) ∧ Aside0 (Below w8.heap.size w8 wr)) (fun q _ => S.length - (intOf q).toNat)
          case atStart => exact ⟨0, Nat.zero_le _, rfl, ⟨Below.refl _ _⟩⟩
          case round =>
            obtain ⟨k, hk, rfl, HB⟩ := hrel
            by_cases hlt : k < S.length
            · have hk1 : (k : Int) < (S.length : Int) := by omega
              obtain ⟨ad, rfl, e0⟩ := Kd.at_int HC4'.out (k : Int) (by omega) (by omega)
              have hrd : rd S (k : Int) = S[k] := by simp [rd, List.getD_eq_getElem?_getD, hlt]
              rw [hrd, Int.toNat_natCast] at e0
              have HX := Aside0.mk (K4.out S[k] (List.getElem_mem _))
              have E0 := Aside0.mk e0
              have ELT := Aside0.mk (World.block_lt_of_cell? w8 _ e0)
              generalize S[k] = x at E0 HX
              clear hrd e0
              go_wp2_with fail
              refine wp_eff (S := fun w' => Below w8.heap.size w8 w') [(0, false), (1, false), (2, false), (3, false), (4, false), (6, false), (7, false), (8, false), (9, false), (10, false), (5, true), (11, true), (12, false)] (by kernel_rfl) (by kernel_rfl) (below_drew1 HB.out) (fun _ _ d _ _ h => by cases d <;> exact h) ?_
              refine se_move rfl rfl rfl ?_
              refine se_move rfl rfl rfl ?_
              refine se_move rfl rfl rfl ?_
              refine se_indexAddr rfl rfl rfl rfl (fun w' hw => by go_simp; with_reducible rfl) ?_
              refine se_un rfl rfl rfl rfl rfl (fun w' hw => by have q := (hw.cell ELT.out).trans E0.out; go_simp; with_reducible rfl) ?_
              refine se_move rfl rfl rfl ?_
              refine se_move rfl rfl rfl ?_
              refine se_move rfl rfl rfl ?_
              refine se_indexAddr rfl rfl rfl rfl (fun w' hw => by go_simp; with_reducible rfl) ?_
              refine se_un rfl rfl rfl rfl rfl (fun w' hw => by have q := (hw.cell ELT.out).trans E0.out; go_simp; with_reducible rfl) ?_
              refine se_call (vs := [.slice A5 L1.length c5, .int .i64 x]) rfl rfl Try.func13 (by kernel_rfl) rfl (by kernel_rfl) ?_
              refine (has_calls _ A5 c5 L1 x (Kd.C_below HC5.out (below_drew1 HB.out)) hc5).mono ?_
              rintro e w9 ⟨rfl, hb9⟩
              have hb9' := below_then (below_drew1 HB.out) (below_drew1 HB.out).size hb9
              refine ⟨_, rfl, hb9', ?_⟩
              refine se_call (vs := [.slice A8 L2.length c8, .int .i64 x]) rfl rfl Try.func13 (by kernel_rfl) rfl (by kernel_rfl) ?_
              refine (has_calls _ A8 c8 L2 x (Kd.C_below HC8.out hb9') hc8).mono ?_
              rintro e w10 ⟨rfl, hb10⟩
              refine ⟨_, rfl, below_then hb9' hb9'.size hb10, ?_⟩
              rw [HX.out]
              generalize decide (x ∈ L2) = q
              cases q with
              | true =>
                refine se_bin (v := .bool false) rfl rfl rfl rfl (fun w' hw => by go_simp) ?_
                intro hw7
                have HB7 := Aside0.mk hw7
                clear hw7 hb9 hb9' hb10
                simp only [puts, Act.put, List.setIfInBounds_toArray, List.set_cons_zero, List.set_cons_succ]
                go_wp2
                go_roundw
                case rel => exact ⟨k + 1, by omega, by go_num, HB7⟩
                case measure => simp [intOf]; omega
              | false =>
                refine se_bin (v := .bool false) rfl rfl rfl rfl (fun w' hw => by go_simp) ?_
                intro hw7
                have HB7 := Aside0.mk hw7
                clear hw7 hb9 hb9' hb10
                simp only [puts, Act.put, List.setIfInBounds_toArray, List.set_cons_zero, List.set_cons_succ]
                go_wp2
                go_roundw
                case rel => exact ⟨k + 1, by omega, by go_num, HB7⟩
                case measure => simp [intOf]; omega
            · obtain rfl : k = S.length := by omega
              have hb8 := below_then HB8.out HB8.out.size HB.out
              go_wp2_with fail
              refine (begun_calls wr).mono ?_
              rintro e w9 ⟨rfl, hb9⟩
              have HB9 := Aside0.mk (below_then hb8 hb8.size hb9)
              have HC9 := Aside0.mk (Kd.C_below (Kd.C_below HC4'.out HB.out) hb9)
              clear hb9 hb8
              go_wp2_with fail
              refine (has_calls w9 A3 c3 S (n : Int) HC9.out hc3).mono ?_
              rintro e w10 ⟨rfl, hb10⟩
              have HB10 := Aside0.mk (below_then HB9.out HB9.out.size hb10)
              rw [decide_eq_true HNS.out]
              clear hb10
              go_wp2
              go_ret
              exact ⟨by simp, HB10.out⟩
end Go.Proofs.Ytblalidpeccabaa.Hn
