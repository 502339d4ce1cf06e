/- Conditions: a leaf, walked. -/
import Derived.Test.YtmageoieajhhdaaDoorBkB
namespace Go.Proofs.YtmageoieajhhdaaDoor.Bk
open Go Go.RowKit Go.Proofs.YtmageoieajhhdaaDoorW.PrintWords Go.Proofs.YtmageoieajhhdaaDoorW.PrintLast Go.Proofs.YtmageoieajhhdaaDoorW.PrintMore Go.Proofs.YtmageoieajhhdaaDoor.PBrkWritten Go.Proofs.YtmageoieajhhdaaDoor.RegionVal
open Go.Lib hiding intOf
set_option linter.unusedVariables false
set_option linter.unusedSimpArgs false
theorem made_leaf (op : Int) : brk_made.f 1 op [] = some (op, 0, ⟨#[]⟩, [], 1) := by
  simp only [brk_made.f, brk_made.l0, List.length_nil]
  rw [if_neg (by decide), show wrap64 (0 + 1) = 1 from w64 (by omega) (by omega)]
theorem made_un (op : UInt8) (a : Ex) : brk_made.f 2 (op.toNat : Int) [toS a] = some ((op.toNat : Int), 0, ⟨#[]⟩, [toS a], Ex.deep (.un op a)) := by
  simp only [brk_made.f, brk_made.l0, List.length_singleton]
  rw [if_pos (by decide), if_pos (by decide), if_pos (by decide), show wrap64 (0 + 1) = 1 from w64 (by omega) (by omega), if_neg (by decide), show rd_T52 [toS a] 0 = toS a from rfl, toS_deep]
  rfl
theorem made_bin (op : UInt8) (a b : Ex) : brk_made.f 3 (op.toNat : Int) [toS a, toS b] = some ((op.toNat : Int), 0, ⟨#[]⟩, [toS a, toS b], Ex.deep (.bin op a b)) := by
  simp only [brk_made.f, brk_made.l0, List.length_cons, List.length_nil]
  rw [if_pos (by decide), if_pos (by decide), if_pos (by decide), show wrap64 (0 + 1) = 1 from w64 (by omega) (by omega), if_pos (by decide), if_pos (by decide), if_pos (by decide), show wrap64 (1 + 1) = 2 from w64 (by omega) (by omega), if_neg (by decide), show rd_T52 [toS a, toS b] 0 = toS a from rfl, show rd_T52 [toS a, toS b] 1 = toS b from rfl, toS_deep, toS_deep]
  rfl
theorem digit_f (b : UInt8) : brk_digit.f (b.toNat : Int) = some (isD b) := by
  unfold brk_digit.f isD
  by_cases h : 48 ≤ b.toNat
  · rw [if_pos (by omega)]
    congr 1
    rw [decide_eq_decide]
    omega
  · rw [if_neg (by omega)]
    congr 1
    rw [decide_eq_false (by omega)]
theorem letter_f (b : UInt8) : brk_letter.f (b.toNat : Int) = some (isL b) := by
  unfold brk_letter.f isL
  by_cases h : 97 ≤ b.toNat
  · rw [if_pos (by omega)]
    congr 1
    rw [decide_eq_decide]
    omega
  · rw [if_neg (by omega)]
    congr 1
    rw [decide_eq_false (by omega)]
theorem tw_lt (p : UInt8 → Bool) : ∀ (s : Bs) (k : Nat), k < (s.takeWhile p).length → ∃ h : k < s.length, p s[k] = true
  | [], k, h => by simp at h
  | c :: r, k, h => by
    rw [List.takeWhile_cons] at h
    split at h <;> rename_i e
    · cases k with
      | zero => exact ⟨by simp, e⟩
      | succ k =>
        obtain ⟨h1, h2⟩ := tw_lt p r k (by simpa using h)
        exact ⟨by simpa using h1, by simpa using h2⟩
    · simp at h
theorem tw_end (p : UInt8 → Bool) : ∀ (s : Bs) (h : (s.takeWhile p).length < s.length), p s[(s.takeWhile p).length] = false
  | [], h => by simp at h
  | c :: r, h => by
    cases e : p c with
    | true =>
      have e2 : (c :: r).takeWhile p = c :: r.takeWhile p := by rw [List.takeWhile_cons, e]; rfl
      simp only [e2, List.length_cons] at h ⊢
      simpa using tw_end p r (by omega)
    | false =>
      have e2 : (c :: r).takeWhile p = [] := by rw [List.takeWhile_cons, e]; rfl
      simp only [e2, List.length_nil]
      simpa using e
theorem tw_le (p : UInt8 → Bool) (s : Bs) : (s.takeWhile p).length ≤ s.length := by
  have := congrArg List.length (List.takeWhile_append_dropWhile (p := p) (l := s))
  rw [List.length_append] at this
  omega
/-- what the state is told of a number's first i bytes -/
def badI (w : Bs) (i : Nat) : Bool := match i with
  | 0 => false
  | i + 1 => (w.take (i + 1)).any (fun b => !isD b) || decide (9 < w.length)
theorem any_take_succ (w : Bs) (i : Nat) (h : i < w.length) : (w.take (i + 1)).any (fun b => !isD b) = ((w.take i).any (fun b => !isD b) || !isD w[i]) := by
  rw [List.take_succ_eq_append_getElem h, List.any_append]
  simp
theorem badI_true {w : Bs} {i : Nat} (h : i < w.length) (hb : badI w i = true) : badI w (i + 1) = true := by
  cases i with
  | zero => cases hb
  | succ i =>
    have hb : ((w.take (i + 1)).any (fun b => !isD b) || decide (9 < w.length)) = true := hb
    show ((w.take (i + 1 + 1)).any (fun b => !isD b) || decide (9 < w.length)) = true
    rw [any_take_succ w (i + 1) h]
    rw [Bool.or_eq_true] at hb ⊢
    rcases hb with hb | hb
    · left; rw [hb]; rfl
    · exact .inr hb
theorem badI_false {w : Bs} {i : Nat} (h : i < w.length) (hb : badI w i = false) : badI w (i + 1) = (!isD w[i] || decide (9 < w.length)) := by
  show ((w.take (i + 1)).any (fun b => !isD b) || decide (9 < w.length)) = _
  rw [any_take_succ w i h]
  have : (w.take i).any (fun b => !isD b) = false := by
    cases i with
    | zero => rfl
    | succ i =>
      unfold badI at hb
      rw [Bool.or_eq_false_iff] at hb
      exact hb.1
  rw [this, Bool.false_or]
theorem badI_pos (w : Bs) {i : Nat} (h : 0 < i) : badI w i = ((w.take i).any (fun b => !isD b) || decide (9 < w.length)) := by
  cases i with
  | zero => omega
  | succ i => rfl
theorem badI_all {w : Bs} (h : 0 < w.length) : badI w w.length = (w.any (fun b => !isD b) || decide (9 < w.length)) := by
  rw [badI_pos w h, List.take_length]
theorem numF_succ (w : Bs) (i : Nat) (h : i < w.length) : numF (w.take (i + 1)) = wrap64 (wrap64 (10 * numF (w.take i)) + (((w[i].toNat : Nat) : Int) - 48) % 256) := by
  rw [List.take_succ_eq_append_getElem h]
  unfold numF
  rw [List.foldl_append]
  rfl
set_option maxHeartbeats 8000000 in
set_option maxRecDepth 100000 in
theorem leaf_calls (g : Nat) (s : Bs) (b : Bool) (w0 w : World) (hl : s.length ≤ 1000) (hI : IsS74 w0 w g (bs s) b) (hB : Below w0.heap.size w0 w) :
    Calls Tryd.prog 59 #[.pointer (some ⟨g, 0, none⟩)] w fun e w' => ∃ v, e = .returned v ∧ XV w' (fun k => w.heap.size ≤ k) v (toS (leafF s b).1) ∧ PI w0 w w' g (leafF s b).2.1 (leafF s b).2.2 := by
  have HW := Aside0.mk hB.size
  have HP := Aside0.mk (PI.init hI hB)
  clear hI hB
  obtain ⟨rx, rs, rb, hr⟩ : ∃ rx rs rb, leafF s b = (rx, rs, rb) := ⟨_, _, _, rfl⟩
  rw [hr]
  have HR := Aside0.mk hr
  clear hr
  go_enter Tryd.func59, Tryd.ntmps59
  go_upto_block 0 with (first | ((with_reducible refine gate_ (.alloc 52) rfl ?_); refine box_event ?hg (N := 2) ?hd (cs := #[.int .u8 0, .int .i64 0, .string (⟨#[]⟩ : ByteArray), .slice none 0 0, .int .i64 0]) (t := 52) ?hr ?_; (case hd => rfl); (case hg => rfl); (case hr => first | (go_simp; done) | (go_simp; rfl)); intro b2 hb2 W1 hbx hbl; replace hb2 := Aside0.mk hb2; replace hbx := Aside0.mk hbx; replace hbl := Aside0.mk hbl) | fail)
  have HP1 := Aside0.mk (HP.out.below hbl.out)
  have BK := hbx
  have NG := Aside0.mk (show g ≠ b2 from fun e => by have := HP.out.lt; have := hb2.out; omega)
  have GE := Aside0.mk (show w.heap.size ≤ b2 by have := hb2.out; omega)
  clear hb2 hbx hbl HP
  obtain ⟨n, hn⟩ : ∃ n, n = (s.takeWhile isA).length := ⟨_, rfl⟩
  have hns : n ≤ s.length := by rw [hn]; exact tw_le _ _
  have HLT := Aside0.mk (show ∀ k, k < n → ∃ h : k < s.length, isA s[k] = true from fun k hk => tw_lt _ _ _ (by omega))
  have HEN := Aside0.mk (show ∀ h : n < s.length, isA s[n] = false from fun h => by
    have := tw_end isA s (by omega)
    simpa [← hn] using this)
  have HN := Aside0.mk hn
  clear hn
  try simp only [Act.put, List.setIfInBounds_toArray, List.set_cons_zero, List.set_cons_succ]
  go_cut [3] (fun v3 wc => v3 = .int .i64 (n : Int) ∧ Aside0 (wc.heap[b2]? = some (.cells #[.int .u8 0, .int .i64 0, .string (⟨#[]⟩ : ByteArray), .slice none 0 0, .int .i64 0] 52 (0, 0))) ∧ Aside0 (PI w0 w wc g s b))
  case first =>
    go_wp2
    go_loopw [3] (fun v3 wr => ∃ k : Nat, v3 = .int .i64 (k : Int) ∧ k ≤ n ∧ Aside0 (wr.heap[b2]? = some (.cells #[.int .u8 0, .int .i64 0, .string (⟨#[]⟩ : ByteArray), .slice none 0 0, .int .i64 0] 52 (0, 0))) ∧ Aside0 (PI w0 w wr g s b)) (fun v3 _ => n - (intOf v3).toNat)
    case atStart => exact ⟨0, rfl, Nat.zero_le _, BK, HP1⟩
    case round =>
      obtain ⟨k, rfl, hk, HBK, HPR⟩ := hrel
      have hc0 := cellS74_0 HPR.out.1.1
      have hf0 := blk_frozen HPR.out.1.1 0
      by_cases hkn : k < n
      · obtain ⟨hks, hka⟩ := HLT.out k hkn
        have z1 : (k : Int) < (s.length : Int) := by omega
        have hx : ∀ h : k < (bs s).size, (((bs s)[k]'h).toNat : Int) = (((s[k]'hks).toNat : Nat) : Int) := fun h => rfl
        generalize s[k] = c at hka hx
        cases hd : isD c with
        | true =>
          go_wp2_with (first | (go_at_call 69; refine (brk_digit.calls (c.toNat : Int) true _ (by rw [digit_f, hd])).mono ?_; rintro e w' ⟨rfl, ⟨nd, rfl⟩⟩) | fail)
          go_roundw
          case rel => exact ⟨k + 1, by go_num, hkn, HBK, ⟨HPR.out.drewN nd⟩⟩
          case measure => simp [intOf]; omega
        | false =>
          have he : isL c = true := by unfold isA at hka; rw [hd] at hka; exact hka
          go_wp2_with (first | (go_at_call 69; refine (brk_digit.calls (c.toNat : Int) false _ (by rw [digit_f, hd])).mono ?_; rintro e w' ⟨rfl, ⟨nd, rfl⟩⟩) | (go_at_call 70; refine (brk_letter.calls (c.toNat : Int) true _ (by rw [letter_f, he])).mono ?_; rintro e w' ⟨rfl, ⟨nd2, rfl⟩⟩) | fail)
          go_roundw
          case rel => exact ⟨k + 1, by go_num, hkn, HBK, ⟨HPR.out.drewN _⟩⟩
          case measure => simp [intOf]; omega
      · obtain rfl : k = n := by omega
        by_cases hks : k < s.length
        · have hka := HEN.out hks
          have z1 : (k : Int) < (s.length : Int) := by omega
          have hx : ∀ h : k < (bs s).size, (((bs s)[k]'h).toNat : Int) = (((s[k]'hks).toNat : Nat) : Int) := fun h => rfl
          generalize s[k] = c at hka hx
          have hd : isD c = false := by unfold isA at hka; rw [Bool.or_eq_false_iff] at hka; exact hka.1
          have he : isL c = false := by unfold isA at hka; rw [Bool.or_eq_false_iff] at hka; exact hka.2
          go_wp2_with (first | (go_at_call 69; refine (brk_digit.calls (c.toNat : Int) false _ (by rw [digit_f, hd])).mono ?_; rintro e w' ⟨rfl, ⟨nd, rfl⟩⟩) | (go_at_call 70; refine (brk_letter.calls (c.toNat : Int) false _ (by rw [letter_f, he])).mono ?_; rintro e w' ⟨rfl, ⟨nd2, rfl⟩⟩) | fail)
          go_meet
          case rel => exact ⟨rfl, HBK, ⟨HPR.out.drewN _⟩⟩
        · have z1 : ¬ (k : Int) < (s.length : Int) := by omega
          go_wp2
          go_meet
          case rel => exact ⟨rfl, HBK, HPR⟩
  case rest =>
    clear HP1 BK
    obtain ⟨rfl, BK, HPW⟩ := hcut
    have hnl : (n : Int) ≤ (s.length : Int) := by omega
    cases b with
    | true =>
      have hr := HR.out
      rw [leaf_true] at hr
      cases hr
      have hc0 := cellS74_0 HPW.out.1.1
      have hc1 := cellS74_1 HPW.out.1.1
      have hf1 := blk_frozen HPW.out.1.1 1
      have BK1 := Aside0.mk (blk_far BK.out (p := ⟨g, 1, none⟩) (fun e => NG.out e.symm) (.bool true))
      go_wp2_with (first | ((with_reducible refine gate_ (.store 52 (.tmp 2) (.tmp 51)) rfl ?_); refine put_event (g := b2) (seg := cell5 (toS .nil) (.slice none 0 0)) rfl rfl rfl rfl rfl BK1.out size52 rfl (cell5_one _ ⟨none, 0, 0, rfl⟩) ?_; intro W2 hW2 hg2 hs2; replace hW2 := Aside0.mk hW2; replace hg2 := Aside0.mk hg2; replace hs2 := Aside0.mk hs2) | fail)
      exact bodyPost_ret (results_cell_row rfl _ _ b2 52 (cell5 (toS .nil) (.slice none 0 0)).toArray (0, 0) _ rfl hW2.out Tryd.underlying52 rfl (by kernel_rfl)) rfl ⟨_, rfl, ⟨_, rfl, Kd.V_nil _ _ _ _ _⟩, (HPW.out.set1 true).grown hg2.out (fun e => NG.out (Option.some.inj e)) (fun k e => by cases e; exact GE.out) HW.out⟩
    | false =>
      rcases htw : s.takeWhile isA with _ | ⟨c, r⟩
      · have hr := HR.out
        rw [leaf_none htw] at hr
        cases hr
        have hn0 : n = 0 := by rw [HN.out, htw]; rfl
        have hc0 := cellS74_0 HPW.out.1.1
        have hc1 := cellS74_1 HPW.out.1.1
        have hf1 := blk_frozen HPW.out.1.1 1
        have BK1 := Aside0.mk (blk_far BK.out (p := ⟨g, 1, none⟩) (fun e => NG.out e.symm) (.bool true))
        have d1 : ((n : Int) == 0) = true := beq_iff_eq.2 (by omega)
        clear hn0
        go_wp2_with (first | ((with_reducible refine gate_ (.store 52 (.tmp 2) (.tmp 51)) rfl ?_); refine put_event (g := b2) (seg := cell5 (toS .nil) (.slice none 0 0)) rfl rfl rfl rfl rfl BK1.out size52 rfl (cell5_one _ ⟨none, 0, 0, rfl⟩) ?_; intro W2 hW2 hg2 hs2; replace hW2 := Aside0.mk hW2; replace hg2 := Aside0.mk hg2; replace hs2 := Aside0.mk hs2) | fail)
        exact bodyPost_ret (results_cell_row rfl _ _ b2 52 (cell5 (toS .nil) (.slice none 0 0)).toArray (0, 0) _ rfl hW2.out Tryd.underlying52 rfl (by kernel_rfl)) rfl ⟨_, rfl, ⟨_, rfl, Kd.V_nil _ _ _ _ _⟩, (HPW.out.set1 true).grown hg2.out (fun e => NG.out (Option.some.inj e)) (fun k e => by cases e; exact GE.out) HW.out⟩
      · have hn1 : n = r.length + 1 := by rw [HN.out, htw]; rfl
        have d1 : ((n : Int) == 0) = false := beq_eq_false_iff_ne.2 (by omega)
        have HWD := Aside0.mk (show (bs s).extract 0 n = bs (c :: r) by
          rw [bs_extract]
          congr 2
          rw [Nat.sub_zero, List.drop_zero, ← htw, HN.out]
          exact (List.prefix_iff_eq_take.1 (List.takeWhile_prefix isA)).symm)
        have HDR := Aside0.mk (show (bs s).extract n s.length = bs (s.dropWhile isA) by
          rw [bs_extract]
          congr 2
          rw [List.take_of_length_le (by simp), HN.out]
          have := congrArg (List.drop (s.takeWhile isA).length) (List.takeWhile_append_dropWhile (p := isA) (l := s))
          rw [List.drop_left] at this
          exact this.symm)
        have HNN := Aside0.mk hn1
        clear hn1
        have hc0 := cellS74_0 HPW.out.1.1
        have hc1 := cellS74_1 HPW.out.1.1
        have hf0 := blk_frozen HPW.out.1.1 0
        go_upto_region 9 with (fail)
        rw [HWD.out, HDR.out]
        have BK8 := Aside0.mk (blk_far BK.out (p := ⟨g, 0, none⟩) (fun e => NG.out e.symm) (.string (bs (s.dropWhile isA))))
        have HP8 := Aside0.mk (HPW.out.set0 (s.dropWhile isA))
        generalize wc.setCell ⟨g, 0, none⟩ (.string (bs (s.dropWhile isA))) = W8 at BK8 HP8 ⊢
        clear hc0 hc1 hf0 BK HPW
        go_upto_region 10 with (first
          | (go_at_call 44; refine (brk_made.calls 1 118 (fun _ => False) none 0 ([] : List S52) 118 0 ⟨#[]⟩ [] 1 _ (Kd.V_nil _ _ _ _ _) (made_leaf _)).mono ?_; rintro e w4 ⟨v3, rfl, hv3, hb4⟩; obtain ⟨A3, c3, rfl⟩ := Kd.V_slice hv3; replace hv3 := Aside0.mk hv3; replace hb4 := Aside0.mk hb4)
          | ((with_reducible refine gate_ (.alloc 52) rfl ?_); refine box_event ?hg (N := 5) ?hd (cs := #[.int .u8 0, .int .i64 0, .string (⟨#[]⟩ : ByteArray), .slice none 0 0, .int .i64 0]) (t := 52) ?hr ?_; (case hd => rfl); (case hg => rfl); (case hr => first | (go_simp; done) | (go_simp; rfl)); intro b5 hb5 W5 hbx5 hbl5; replace hb5 := Aside0.mk hb5; replace hbx5 := Aside0.mk hbx5; replace hbl5 := Aside0.mk hbl5)
          | ((with_reducible refine gate_ (.store 52 (.tmp 5) (.tmp 61)) rfl ?_); refine put_event (g := b5) (seg := [.int .u8 118, .int .i64 0, .string ⟨#[]⟩, .slice A3 0 c3, .int .i64 1]) rfl rfl rfl rfl rfl hbx5.out size52 rfl (cell5_one (toS (.var [])) ⟨A3, 0, c3, rfl⟩) ?_; intro W6 hW6 hg6 hs6; replace hW6 := Aside0.mk hW6; replace hg6 := Aside0.mk hg6; replace hs6 := Aside0.mk hs6)
          | fail)
        have NB5 := Aside0.mk (show g ≠ b5 ∧ b2 ≠ b5 ∧ w4.heap.size ≤ b5 ∧ w.heap.size ≤ b5 from by
          have h1 := HP8.out.lt
          have h2 := blk_lt BK8.out
          have h3 := hb4.out.size
          have h4 := hb5.out
          have h5 := HP8.out.size
          omega)
        have HP6 := Aside0.mk ((((HP8.out.below hb4.out).below hbl5.out)).grown hg6.out (fun e => NB5.out.1 (Option.some.inj e)) (fun k e => by cases e; exact NB5.out.2.2.2) HW.out)
        have BK6 := Aside0.mk (blk_grown (blk_below (blk_below BK8.out hb4.out) hbl5.out) hg6.out (fun e => NB5.out.2.1 (Option.some.inj e)))
        have HK6 := Aside0.mk (kept_step (kept_below (kept_refl w4 (fun k => k = g ∨ k = b2)) hbl5.out) hg6.out (fun p e => by cases e; exact .inr NB5.out.2.2.1))
        have HV4 := Aside0.mk (Kd.V_mono (ok' := fun k => W8.heap.size ≤ k) hv3.out (fun k hk => hk.elim False.elim id))
        have GW := Aside0.mk (show g < W8.heap.size ∧ b2 < W8.heap.size ∧ w.heap.size ≤ W8.heap.size from ⟨HP8.out.lt, blk_lt BK8.out, HP8.out.size⟩)
        clear hb4 hb5 hbx5 hbl5 hg6 hs6 hv3 HP8 BK8
        have k2 : W6.cell? ⟨b5, 2, none⟩ = some (.string ⟨#[]⟩) := (blk_cell hW6.out 2).trans rfl
        have f2 := blk_frozen hW6.out 2
        go_upto_region 11 with (fail)
        have B7 := Aside0.mk (blk_put hW6.out 2 (.string (bs (c :: r))) (cs' := (cell5 (toS (.var (c :: r))) (.slice A3 0 c3)).toArray) rfl)
        have HP7 := Aside0.mk (HP6.out.grown (gb_set b5 2 W6 (.string (bs (c :: r)))) (fun e => NB5.out.1 (Option.some.inj e)) (fun k e => by cases e; exact NB5.out.2.2.2) HW.out)
        have BK7 := Aside0.mk (blk_far BK6.out (p := ⟨b5, 2, none⟩) NB5.out.2.1 (.string (bs (c :: r))))
        have HK7 := Aside0.mk (kept_step HK6.out (gb_set b5 2 W6 (.string (bs (c :: r)))) (fun p e => by cases e; exact .inr NB5.out.2.2.1))
        generalize W6.setCell ⟨b5, 2, none⟩ (.string (bs (c :: r))) = W7 at B7 HP7 BK7 HK7 ⊢
        clear k2 f2 hW6 HP6 BK6 HK6
        have h0 : ∀ h : 0 < (bs (c :: r)).size, (((bs (c :: r))[0]'h).toNat : Int) = ((c.toNat : Nat) : Int) := fun h => rfl
        cases he : isL c with
        | true =>
          have hr := HR.out
          unfold leafF at hr
          rw [htw] at hr
          simp only [Bool.false_eq_true, if_false, he, if_true] at hr
          cases hr
          have hc1 := cellS74_1 HP7.out.1.1
          have hf1 := blk_frozen HP7.out.1.1 1
          go_upto_region 13 with (first
            | (go_at_call 70; refine (brk_letter.calls (c.toNat : Int) true _ (by rw [letter_f, he])).mono ?_; rintro e w' ⟨rfl, ⟨nd, rfl⟩⟩)
            | fail)
          have hdec : decide (19 < (n : Int)) = decide (19 < (c :: r).length) := by
            rw [decide_eq_decide, List.length_cons, ← HNN.out]
            omega
          rw [hdec]
          have HP13 := Aside0.mk ((HP7.out.drewN nd).set1 (decide (19 < (c :: r).length)))
          have B13 := Aside0.mk (blk_far (blk_drewN B7.out nd) (p := ⟨g, 1, none⟩) (fun e => NB5.out.1 e.symm) (.bool (decide (19 < (c :: r).length))))
          have BK13 := Aside0.mk (blk_far (blk_drewN BK7.out nd) (p := ⟨g, 1, none⟩) (fun e => NG.out e.symm) (.bool (decide (19 < (c :: r).length))))
          have HK13 := Aside0.mk (kept_step (kept_step HK7.out (gb_drewN W7 nd none) (fun p e => by cases e)) (gb_set g 1 (W7.drewN nd) (.bool (decide (19 < (c :: r).length)))) (fun p e => by cases e; exact .inl (.inl rfl)))
          generalize (W7.drewN nd).setCell ⟨g, 1, none⟩ (.bool (decide (19 < (c :: r).length))) = W13 at HP13 B13 BK13 HK13 ⊢
          clear hc1 hf1 HP7 B7 BK7 HK7 h0 hdec
          go_wp2_with (first
            | ((with_reducible refine gate_ (.load 52 (.tmp 5)) rfl ?_); refine load_event rfl rfl rfl B13.out Tryd.underlying52 rfl (by kernel_rfl) ?_)
            | ((with_reducible refine gate_ (.store 52 (.tmp 2) (.tmp 72)) rfl ?_); refine put_event (g := b2) (seg := cell5 (toS (.var (c :: r))) (.slice A3 0 c3)) rfl rfl rfl rfl rfl BK13.out size52 rfl (cell5_one _ ⟨A3, 0, c3, rfl⟩) ?_; intro W2 hW2 hg2 hs2; replace hW2 := Aside0.mk hW2; replace hg2 := Aside0.mk hg2; replace hs2 := Aside0.mk hs2)
            | fail)
          have HK2 := kept_step HK13.out hg2.out (fun p e => by cases e; exact .inl (.inr rfl))
          exact bodyPost_ret (results_cell_row rfl _ _ b2 52 (cell5 (toS (.var (c :: r))) (.slice A3 0 c3)).toArray (0, 0) _ rfl hW2.out Tryd.underlying52 rfl (by kernel_rfl)) rfl ⟨_, rfl, ⟨_, rfl, Kd.V_mono (Kd.V_kept HV4.out HK2 (fun k hk he => by have := GW.out; rcases he with rfl | rfl <;> omega)) (fun k hk => Nat.le_trans GW.out.2.2 hk)⟩, HP13.out.grown hg2.out (fun e => NG.out (Option.some.inj e)) (fun k e => by cases e; exact GE.out) HW.out⟩
        | false =>
          go_upto_region 15 with (first
            | (go_at_call 70; refine (brk_letter.calls (c.toNat : Int) false _ (by rw [letter_f, he])).mono ?_; rintro e w' ⟨rfl, ⟨nd, rfl⟩⟩)
            | (go_at_call 44; refine (brk_made.calls 1 110 (fun _ => False) none 0 ([] : List S52) 110 0 ⟨#[]⟩ [] 1 _ (Kd.V_nil _ _ _ _ _) (made_leaf _)).mono ?_; rintro e w14 ⟨v3, rfl, hv3, hb14⟩; obtain ⟨A4, c4, rfl⟩ := Kd.V_slice hv3; replace hv3 := Aside0.mk hv3; replace hb14 := Aside0.mk hb14)
            | ((with_reducible refine gate_ (.store 52 (.tmp 5) (.tmp 73)) rfl ?_); refine put_event (g := b5) (seg := [.int .u8 110, .int .i64 0, .string ⟨#[]⟩, .slice A4 0 c4, .int .i64 1]) rfl rfl rfl rfl rfl (blk_below (blk_drewN B7.out nd) hb14.out) size52 rfl (cell5_one (toS (.num 0)) ⟨A4, 0, c4, rfl⟩) ?_; intro W15 hW15 hg15 hs15; replace hW15 := Aside0.mk hW15; replace hg15 := Aside0.mk hg15; replace hs15 := Aside0.mk hs15)
            | fail)
          have GW2 := Aside0.mk (show b5 < W7.heap.size ∧ g < W7.heap.size ∧ b2 < W7.heap.size ∧ w.heap.size ≤ W7.heap.size from ⟨blk_lt B7.out, HP7.out.lt, blk_lt BK7.out, HP7.out.size⟩)
          have HV14 := Aside0.mk (Kd.V_mono (ok' := fun k => W7.heap.size ≤ k) hv3.out (fun k hk => hk.elim False.elim id))
          have HP15 := Aside0.mk (((HP7.out.drewN nd).below hb14.out).grown hg15.out (fun e => NB5.out.1 (Option.some.inj e)) (fun k e => by cases e; exact NB5.out.2.2.2) HW.out)
          have BK15 := Aside0.mk (blk_grown (blk_below (blk_drewN BK7.out nd) hb14.out) hg15.out (fun e => NB5.out.2.1 (Option.some.inj e)))
          have HK15 := Aside0.mk (kept_step (kept_refl w14 (fun k => k = g ∨ k = b2 ∨ k = b5)) hg15.out (fun p e => by cases e; exact .inl (.inr (.inr rfl))))
          clear hv3 hb14 hg15 hs15 HP7 BK7 B7 HK7 h0
          obtain ⟨wd, hwd⟩ : ∃ wd, wd = c :: r := ⟨_, rfl⟩
          have HL := Aside0.mk (show wd.length = n by rw [hwd, HNN.out]; rfl)
          have HR2 := Aside0.mk (show rx = .num (numF wd) ∧ rs = s.dropWhile isA ∧ rb = badI wd n from by
            have hr := HR.out
            unfold leafF at hr
            rw [htw] at hr
            simp only [Bool.false_eq_true, if_false, he] at hr
            cases hr
            rw [← hwd, ← HL.out, badI_all (by rw [hwd]; simp)]
            exact ⟨rfl, rfl, rfl⟩)
          have HHTW := Aside0.mk htw
          clear htw
          rw [← hwd]
          clear hwd
          go_upto_block 1 with (fail)
          go_loopw [75] (fun v75 wr => ∃ i : Nat, v75 = .int .i64 (i : Int) ∧ i ≤ n ∧ Aside0 (wr.heap[b2]? = some (.cells #[.int .u8 0, .int .i64 0, .string (⟨#[]⟩ : ByteArray), .slice none 0 0, .int .i64 0] 52 (0, 0))) ∧ Aside0 (wr.heap[b5]? = some (.cells #[.int .u8 110, .int .i64 (numF (wd.take i)), .string (⟨#[]⟩ : ByteArray), .slice A4 0 c4, .int .i64 1] 52 (0, 0))) ∧ Aside0 (PI w0 w wr g (s.dropWhile isA) (badI wd i)) ∧ Aside0 (Kept w14 wr (fun k => k = g ∨ k = b2 ∨ k = b5))) (fun v75 _ => n - (intOf v75).toNat)
          case atStart => exact ⟨0, rfl, Nat.zero_le _, BK15, hW15, HP15, HK15⟩
          case round =>
            obtain ⟨i, rfl, hi, HB2, HB5, HPI, HKI⟩ := hrel
            by_cases hin : i < n
            · have hiw : i < wd.length := by rw [HL.out]; exact hin
              have z1 : (i : Int) < (n : Int) := by omega
              have z2 : (i : Int) < (wd.length : Int) := by omega
              have hx : ∀ h : i < (bs wd).size, (((bs wd)[i]'h).toNat : Int) = (((wd[i]'hiw).toNat : Nat) : Int) := fun h => rfl
              have HNX := Aside0.mk (numF_succ wd i hiw)
              have HBT := Aside0.mk (badI_true hiw)
              have HBF := Aside0.mk (badI_false hiw)
              have HDL := Aside0.mk (show decide (9 < (n : Int)) = decide (9 < wd.length) by rw [decide_eq_decide, HL.out]; omega)
              generalize wd[i] = d at hx HNX HBF
              have hc1 := cellS74_1 HPI.out.1.1
              have hf1 := blk_frozen HPI.out.1.1 1
              cases hb : badI wd i
              case' true =>
                rw [hb] at hc1
                go_upto_region 19 with (fail)
                have HP18 := Aside0.mk (HPI.out.set1 true)
                have B2x := Aside0.mk (blk_far HB2.out (p := ⟨g, 1, none⟩) (fun e => NG.out e.symm) (.bool true))
                have B5x := Aside0.mk (blk_far HB5.out (p := ⟨g, 1, none⟩) (fun e => NB5.out.1 e.symm) (.bool true))
                have HK18 := Aside0.mk (kept_step HKI.out (gb_set g 1 wr (.bool true)) (fun p e => by cases e; exact .inl (.inl rfl)))
                generalize wr.setCell ⟨g, 1, none⟩ (.bool true) = W18 at HP18 B2x B5x HK18 ⊢
                rw [← HBT.out hb] at HP18
              case' false =>
                rw [hb] at hc1
                cases hd : isD d
                case' true =>
                  go_upto_region 19 with (first | (go_at_call 69; refine (brk_digit.calls (d.toNat : Int) true _ (by rw [digit_f, hd])).mono ?_; rintro e w' ⟨rfl, ⟨nd2, rfl⟩⟩) | fail)
                  have hbn : badI wd (i + 1) = decide (9 < (n : Int)) := by rw [HBF.out hb, hd, HDL.out]; rfl
                  rw [← hbn]
                  clear hbn
                  have HP18 := Aside0.mk ((HPI.out.drewN nd2).set1 (badI wd (i + 1)))
                  have B2x := Aside0.mk (blk_far (blk_drewN HB2.out nd2) (p := ⟨g, 1, none⟩) (fun e => NG.out e.symm) (.bool (badI wd (i + 1))))
                  have B5x := Aside0.mk (blk_far (blk_drewN HB5.out nd2) (p := ⟨g, 1, none⟩) (fun e => NB5.out.1 e.symm) (.bool (badI wd (i + 1))))
                  have HK18 := Aside0.mk (kept_step (kept_step HKI.out (gb_drewN wr nd2 none) (fun p e => by cases e)) (gb_set g 1 (wr.drewN nd2) (.bool (badI wd (i + 1)))) (fun p e => by cases e; exact .inl (.inl rfl)))
                  generalize (wr.drewN nd2).setCell ⟨g, 1, none⟩ (.bool (badI wd (i + 1))) = W18 at HP18 B2x B5x HK18 ⊢
                case' false =>
                  go_upto_region 19 with (first | (go_at_call 69; refine (brk_digit.calls (d.toNat : Int) false _ (by rw [digit_f, hd])).mono ?_; rintro e w' ⟨rfl, ⟨nd2, rfl⟩⟩) | fail)
                  have hbn : badI wd (i + 1) = true := by rw [HBF.out hb, hd]; rfl
                  have HP18 := Aside0.mk ((HPI.out.drewN nd2).set1 true)
                  have B2x := Aside0.mk (blk_far (blk_drewN HB2.out nd2) (p := ⟨g, 1, none⟩) (fun e => NG.out e.symm) (.bool true))
                  have B5x := Aside0.mk (blk_far (blk_drewN HB5.out nd2) (p := ⟨g, 1, none⟩) (fun e => NB5.out.1 e.symm) (.bool true))
                  have HK18 := Aside0.mk (kept_step (kept_step HKI.out (gb_drewN wr nd2 none) (fun p e => by cases e)) (gb_set g 1 (wr.drewN nd2) (.bool true)) (fun p e => by cases e; exact .inl (.inl rfl)))
                  generalize (wr.drewN nd2).setCell ⟨g, 1, none⟩ (.bool true) = W18 at HP18 B2x B5x HK18 ⊢
                  rw [← hbn] at HP18
                  clear hbn
              all_goals (
                clear hc1 hf1 hb
                clear HB2 HB5 HPI HKI HBT HBF
                have k1 : W18.cell? ⟨b5, 1, none⟩ = some (.int .i64 (numF (wd.take i))) := (blk_cell B5x.out 1).trans rfl
                have f1 := blk_frozen B5x.out 1
                go_region
                rw [← HNX.out]
                have HP19 := Aside0.mk ((HP18.out.grown (gb_set b5 1 W18 (.int .i64 (numF (wd.take (i + 1))))) (fun e => NB5.out.1 (Option.some.inj e)) (fun k e => by cases e; exact NB5.out.2.2.2) HW.out).below (below_drew1 (Below.refl _ _)))
                have HB2y := Aside0.mk (blk_drew (blk_far B2x.out (p := ⟨b5, 1, none⟩) NB5.out.2.1 (.int .i64 (numF (wd.take (i + 1))))))
                have HB5y := Aside0.mk (blk_drew (blk_put B5x.out 1 (.int .i64 (numF (wd.take (i + 1)))) (cs' := #[.int .u8 110, .int .i64 (numF (wd.take (i + 1))), .string (⟨#[]⟩ : ByteArray), .slice A4 0 c4, .int .i64 1]) rfl))
                have HK19 := Aside0.mk (kept_below (kept_step HK18.out (gb_set b5 1 W18 (.int .i64 (numF (wd.take (i + 1))))) (fun p e => by cases e; exact .inl (.inr (.inr rfl)))) (below_drew1 (Below.refl _ _)))
                generalize (W18.setCell ⟨b5, 1, none⟩ (.int .i64 (numF (wd.take (i + 1))))).drew = W19 at HP19 HB2y HB5y HK19 ⊢
                clear k1 f1 HP18 B2x B5x HK18 HNX
                go_wp2
                go_roundw
                case rel => exact ⟨i + 1, by go_num, hin, HB2y, HB5y, HP19, HK19⟩
                case measure => simp [intOf]; omega)
            · obtain rfl : i = n := by omega
              have htk : wd.take i = wd := List.take_of_length_le (by rw [HL.out]; exact Nat.le_refl _)
              rw [htk] at HB5
              clear htk
              go_wp2_with (first
                | ((with_reducible refine gate_ (.load 52 (.tmp 5)) rfl ?_); refine load_event rfl rfl rfl HB5.out Tryd.underlying52 rfl (by kernel_rfl) ?_)
                | ((with_reducible refine gate_ (.store 52 (.tmp 2) (.tmp 107)) rfl ?_); refine put_event (g := b2) (seg := cell5 (toS (.num (numF wd))) (.slice A4 0 c4)) rfl rfl rfl rfl rfl HB2.out size52 rfl (cell5_one _ ⟨A4, 0, c4, rfl⟩) ?_; intro W2 hW2 hg2 hs2; replace hW2 := Aside0.mk hW2; replace hg2 := Aside0.mk hg2; replace hs2 := Aside0.mk hs2)
                | fail)
              have HK2 := kept_step HKI.out hg2.out (fun p e => by cases e; exact .inl (.inr (.inl rfl)))
              obtain ⟨rfl, rfl, rfl⟩ := HR2.out
              exact bodyPost_ret (results_cell_row rfl _ _ b2 52 (cell5 (toS (.num (numF wd))) (.slice A4 0 c4)).toArray (0, 0) _ rfl hW2.out Tryd.underlying52 rfl (by kernel_rfl)) rfl ⟨_, rfl, ⟨_, rfl, Kd.V_mono (Kd.V_kept HV14.out HK2 (fun k hk he => by have := GW2.out; rcases he with rfl | rfl | rfl <;> omega)) (fun k hk => Nat.le_trans GW2.out.2.2.2 hk)⟩, HPI.out.grown hg2.out (fun e => NG.out (Option.some.inj e)) (fun k e => by cases e; exact GE.out) HW.out⟩
end Go.Proofs.YtmageoieajhhdaaDoor.Bk
