/- Conditions: value, walked. -/
import Derived.Test.YtmageoieajhhdaaDoorBkG
namespace Go.Proofs.YtmageoieajhhdaaDoor.Bk
open Go Go.RowKit Go.Proofs.YtmageoieajhhdaaDoorW.PrintWords Go.Proofs.YtmageoieajhhdaaDoorW.PrintLast Go.Proofs.YtmageoieajhhdaaDoorW.PrintMore Go.Proofs.YtmageoieajhhdaaDoor.PBrkWritten Go.Proofs.YtmageoieajhhdaaDoor.RegionVal
open Go.Lib hiding intOf
set_option linter.unusedVariables false
set_option linter.unusedSimpArgs false
abbrev fnV (gb : Nat) : Value := .func (.func 34) #[] #[.pointer (some ⟨gb, 0, none⟩)]
def ValOK (x : Ex) : Prop := ∀ (W : World) (vx : Value) (gb : Nat) (l : Vs), KX W vx x → NM W gb l → Calls Tryd.prog 22 #[vx, fnV gb] W fun e W' => e = .returned (OutV (valF l x)) ∧ Below W.heap.size W W'
set_option maxHeartbeats 8000000 in
set_option maxRecDepth 100000 in
theorem value_num (n : Int) : ValOK (.num n) := by
  intro W vx gb l hx hn
  obtain ⟨A, c, rfl, _⟩ := hx.open
  go_enter Tryd.func22, Tryd.ntmps22
  simp only [toS]
  go_wp2
  exact bodyPost_ret (v := .tuple #[.int .i64 n, .bool true]) (by simp [results, Tryd.f22, go_sem]) rfl ⟨rfl, below_alloc (Below.refl _ _) _⟩
set_option maxHeartbeats 8000000 in
set_option maxRecDepth 100000 in
theorem value_var (s : Bs) : ValOK (.var s) := by
  intro W vx gb l hx hn
  obtain ⟨A, c, rfl, _⟩ := hx.open
  have HN := Aside0.mk hn
  clear hn hx
  have hv : valF l (.var s) = lookF l (bs s) := rfl
  rw [hv]
  rcases hlk : lookF l (bs s) with _ | n
  · go_enter Tryd.func22, Tryd.ntmps22
    simp only [toS]
    go_wp2_with (first
      | (go_at_call 34; refine (at_calls _ gb l (bs s) (HN.out.below (below_alloc (Below.refl _ _) _))).mono ?_; rintro e W2 ⟨rfl, hb2⟩; replace hb2 := Aside0.mk hb2; rw [hlk]; simp only [OutV])
      | fail)
    exact bodyPost_ret (v := .tuple #[.int .i64 0, .bool false]) (by simp [results, Tryd.f22, go_sem]) rfl ⟨rfl, below_step (below_alloc (Below.refl _ _) _) hb2.out⟩
  · go_enter Tryd.func22, Tryd.ntmps22
    simp only [toS]
    go_wp2_with (first
      | (go_at_call 34; refine (at_calls _ gb l (bs s) (HN.out.below (below_alloc (Below.refl _ _) _))).mono ?_; rintro e W2 ⟨rfl, hb2⟩; replace hb2 := Aside0.mk hb2; rw [hlk]; simp only [OutV])
      | fail)
    exact bodyPost_ret (v := .tuple #[.int .i64 n, .bool true]) (by simp [results, Tryd.f22, go_sem]) rfl ⟨rfl, below_step (below_alloc (Below.refl _ _) _) hb2.out⟩
/-- which values: of the first operands -/
def Vals (l : Vs) (kids : List Ex) (vs : List Int) : Prop := ∀ j, j < vs.length → ∃ k, kids[j]? = some k ∧ valF l k = some (vs.getD j 0)
def isOp1 (op : UInt8) : Prop := op = 33 ∨ op = 126
def isOp2 (op : UInt8) : Prop := op = 124 ∨ op = 38 ∨ op = 61 ∨ op = 60 ∨ op = 43 ∨ op = 45 ∨ op = 42
theorem isOp2_of {op : UInt8} (h : ∃ k, k ≤ 4 ∧ op ∈ ranksF k) : isOp2 op := by
  obtain ⟨k, hk, h⟩ := h
  have hc : k = 0 ∨ k = 1 ∨ k = 2 ∨ k = 3 ∨ k = 4 := by omega
  unfold isOp2
  rcases hc with rfl | rfl | rfl | rfl | rfl <;> simp only [ranksF, List.mem_cons, List.not_mem_nil, or_false] at h
  · exact .inl h
  · exact .inr (.inl h)
  · rcases h with h | h
    · exact .inr (.inr (.inl h))
    · exact .inr (.inr (.inr (.inl h)))
  · rcases h with h | h
    · exact .inr (.inr (.inr (.inr (.inl h))))
    · exact .inr (.inr (.inr (.inr (.inr (.inl h)))))
  · exact .inr (.inr (.inr (.inr (.inr (.inr h)))))
set_option maxHeartbeats 16000000 in
set_option maxRecDepth 100000 in
theorem value_op (x : Ex) (op : UInt8) (kids : List Ex) (hf0 : (toS x).f0 = (op.toNat : Int)) (hf1 : (toS x).f1 = 0) (hf2 : (toS x).f2 = ⟨#[]⟩) (hf3 : (toS x).f3 = kids.map toS)
    (hk : (kids.length = 1 ∧ isOp1 op) ∨ (kids.length = 2 ∧ isOp2 op)) (hrec : ∀ k ∈ kids, ValOK k)
    (hnone : ∀ l, (∃ k ∈ kids, valF l k = none) → valF l x = none) (hsome : ∀ l vs, vs.length = kids.length → Vals l kids vs → valF l x = some (if kids.length = 1 then op1 op (vs.getD 0 0) else op2 op (vs.getD 0 0) (vs.getD 1 0))) : ValOK x := by
  intro W vx gb l hx hn
  obtain ⟨A, c, rfl, hC⟩ := hx.open
  rw [hf0, hf1, hf2, hf3] at *
  have hlk : kids.length = 1 ∨ kids.length = 2 := by rcases hk with h | h <;> omega
  have hml : (kids.map toS).length = kids.length := List.length_map _
  rw [hml] at hC ⊢
  have HN := Aside0.mk hn
  have HC := Aside0.mk hC
  have HK := Aside0.mk hk
  have HREC := Aside0.mk hrec
  have HNO := Aside0.mk (hnone l)
  have HSO := Aside0.mk (hsome l)
  have d1 : ((op.toNat : Int) == 110) = false := by rcases hk with ⟨_, h⟩ | ⟨_, h⟩ <;> (first | (rcases h with rfl | rfl <;> rfl) | (rcases h with rfl | rfl | rfl | rfl | rfl | rfl | rfl <;> rfl))
  have d2 : ((op.toNat : Int) == 118) = false := by rcases hk with ⟨_, h⟩ | ⟨_, h⟩ <;> (first | (rcases h with rfl | rfl <;> rfl) | (rcases h with rfl | rfl | rfl | rfl | rfl | rfl | rfl <;> rfl))
  have hl2 : kids.length ≤ 2 := by omega
  have HLK := Aside0.mk hlk
  obtain ⟨r, hr⟩ : ∃ r, valF l x = r := ⟨_, rfl⟩
  rw [hr]
  have HR := Aside0.mk hr
  obtain ⟨on, hon⟩ : ∃ on : Int, (op.toNat : Int) = on := ⟨_, rfl⟩
  rw [hon] at d1 d2 ⊢
  have HON := Aside0.mk hon
  clear hf0 hf1 hf2 hf3 hk hrec hnone hsome hn hC hx hml hr hlk hon
  go_enter Tryd.func22, Tryd.ntmps22
  go_upto_block 2 with (first
    | ((with_reducible refine gate_ (.box 52 (.tmp 0)) rfl ?_); refine box_event ?hg (N := 2) ?hd (cs := #[.int .u8 on, .int .i64 0, .string ⟨#[]⟩, .slice A kids.length c, .int .i64 (toS x).f4]) (t := 52) ?hr ?_; (case hd => rfl); (case hg => rfl); (case hr => first | (go_simp; done) | (go_simp; rfl)); intro b2 hb2 W1 hbx hbl; replace hb2 := Aside0.mk hb2; have k0 := blk_cell hbx 0; have k3 := blk_cell hbx 3; simp only [List.getElem?_toArray, List.getElem?_cons_zero, List.getElem?_cons_succ] at k0 k3; replace hbx := Aside0.mk hbx; replace hbl := Aside0.mk hbl)
    | ((with_reducible refine gate_ (.alloc 78) rfl ?_); refine box_event ?hg (N := 6) ?hd (cs := #[.int .i64 0, .int .i64 0]) (t := 78) ?hr ?_; (case hd => rfl); (case hg => rfl); (case hr => first | (go_simp; done) | (go_simp; rfl)); intro b6 hb6 W2 hb6x hb6l; have k3 := blk_cell (blk_below hbx.out hb6l) 3; simp only [List.getElem?_toArray, List.getElem?_cons_zero, List.getElem?_cons_succ] at k3; replace hb6 := Aside0.mk hb6; replace hb6x := Aside0.mk hb6x; replace hb6l := Aside0.mk hb6l)
    | fail)
  have BK := Aside0.mk (blk_below hbx.out hb6l.out)
  have HB2 := Aside0.mk (below_step hbl.out hb6l.out)
  have HG := Aside0.mk (show W.heap.size ≤ b2 ∧ b2 ≠ b6 ∧ W.heap.size ≤ b6 from by
    have h1 := hb2.out
    have h2 := hb6.out
    have h3 := blk_lt hbx.out
    omega)
  clear hb2 hbx hbl hb6 hb6l k0 k3
  go_loopw [30] (fun v30 wr => ∃ (i : Nat) (vs : List Int), v30 = .int .i64 (i : Int) ∧ i ≤ kids.length ∧ Aside0 (vs.length = i) ∧ Aside0 (Vals l kids vs) ∧ Aside0 (wr.heap[b2]? = some (.cells #[.int .u8 on, .int .i64 0, .string ⟨#[]⟩, .slice A kids.length c, .int .i64 (toS x).f4] 52 (0, 0))) ∧
    Aside0 (wr.heap[b6]? = some (.cells #[.int .i64 (vs.getD 0 0), .int .i64 (vs.getD 1 0)] 78 (0, 0))) ∧ Aside0 (Below W.heap.size W wr)) (fun v30 _ => kids.length - (intOf v30).toNat)
  case atStart => exact ⟨0, [], rfl, Nat.zero_le _, ⟨rfl⟩, ⟨fun j hj => by simp at hj⟩, BK, hb6x, HB2⟩
  case round =>
    clear BK hb6x HB2
    obtain ⟨i, vs, rfl, hi, HVL, HVS, BK, B6, HB⟩ := hrel
    by_cases hlt : i < kids.length
    · have z1 : (i : Int) < (kids.length : Int) := by omega
      obtain ⟨k, hki⟩ : ∃ k, kids[i]? = some k := ⟨kids[i], List.getElem?_eq_getElem hlt⟩
      have HKM := Aside0.mk (List.mem_of_getElem? hki)
      obtain ⟨ad, A3, c3, rfl, e0, e1, e2, e3, e4, hkx⟩ := kid_at (Kd.C_below HC.out HB.out) k i (by rw [List.getElem?_map, hki]; rfl)
      have KXk := Aside0.mk hkx
      have HKI := Aside0.mk hki
      clear hkx hki
      rcases hvk : valF l k with _ | u
      · go_wp2_with (first
          | ((with_reducible refine gate_ (.alloc 52) rfl ?_); refine box_event ?hg (N := 8) ?hd (cs := #[.int .u8 0, .int .i64 0, .string (⟨#[]⟩ : ByteArray), .slice none 0 0, .int .i64 0]) (t := 52) ?hr ?_; (case hd => rfl); (case hg => rfl); (case hr => first | (go_simp; done) | (go_simp; rfl)); intro b8 hb8 W3 hb8x hb8l; replace hb8 := Aside0.mk hb8; replace hb8x := Aside0.mk hb8x; replace hb8l := Aside0.mk hb8l)
          | ((with_reducible refine gate_ (.store 52 (.tmp 8) (.tmp 34)) rfl ?_); refine put_event (g := b8) (seg := [.int .u8 (toS k).f0, .int .i64 (toS k).f1, .string (toS k).f2, .slice A3 (toS k).f3.length c3, .int .i64 (toS k).f4]) rfl rfl rfl rfl rfl hb8x.out size52 rfl (cell5_one (toS k) ⟨A3, _, c3, rfl⟩) ?_; intro W4 hW4 hg4 hs4; replace hW4 := Aside0.mk hW4; replace hg4 := Aside0.mk hg4; replace hs4 := Aside0.mk hs4)
          | ((with_reducible refine gate_ (.load 52 (.tmp 8)) rfl ?_); refine load_event rfl rfl rfl hW4.out Tryd.underlying52 rfl (by kernel_rfl) ?_)
          | (go_at_call 22; have hw4 := Aside0.mk ((hb8l.out.grown hg4.out hb8l.out.size (fun q e => by cases e; have := hb8.out; omega))); refine (HREC.out k HKM.out _ _ gb l (KXk.out.below hw4.out) ((HN.out.below HB.out).below hw4.out)).mono ?_; rintro e W5 ⟨rfl, hb5⟩; replace hb5 := Aside0.mk hb5; rw [hvk]; simp only [OutV])
          | fail)
        have h2 := HR.out
        rw [HNO.out ⟨k, HKM.out, hvk⟩] at h2
        subst h2
        exact bodyPost_ret (v := .tuple #[.int .i64 0, .bool false]) (by simp [results, Tryd.f22, go_sem]) rfl ⟨rfl, below_step (below_step HB.out hw4.out) hb5.out⟩
      · have HVU := Aside0.mk hvk
        go_upto_region 13 with (first
          | ((with_reducible refine gate_ (.alloc 52) rfl ?_); refine box_event ?hg (N := 8) ?hd (cs := #[.int .u8 0, .int .i64 0, .string (⟨#[]⟩ : ByteArray), .slice none 0 0, .int .i64 0]) (t := 52) ?hr ?_; (case hd => rfl); (case hg => rfl); (case hr => first | (go_simp; done) | (go_simp; rfl)); intro b8 hb8 W3 hb8x hb8l; replace hb8 := Aside0.mk hb8; replace hb8x := Aside0.mk hb8x; replace hb8l := Aside0.mk hb8l)
          | ((with_reducible refine gate_ (.store 52 (.tmp 8) (.tmp 34)) rfl ?_); refine put_event (g := b8) (seg := [.int .u8 (toS k).f0, .int .i64 (toS k).f1, .string (toS k).f2, .slice A3 (toS k).f3.length c3, .int .i64 (toS k).f4]) rfl rfl rfl rfl rfl hb8x.out size52 rfl (cell5_one (toS k) ⟨A3, _, c3, rfl⟩) ?_; intro W4 hW4 hg4 hs4; replace hW4 := Aside0.mk hW4; replace hg4 := Aside0.mk hg4; replace hs4 := Aside0.mk hs4)
          | ((with_reducible refine gate_ (.load 52 (.tmp 8)) rfl ?_); refine load_event rfl rfl rfl hW4.out Tryd.underlying52 rfl (by kernel_rfl) ?_)
          | (go_at_call 22; have hw4 := Aside0.mk ((hb8l.out.grown hg4.out hb8l.out.size (fun q e => by cases e; have := hb8.out; omega))); refine (HREC.out k HKM.out _ _ gb l (KXk.out.below hw4.out) ((HN.out.below HB.out).below hw4.out)).mono ?_; rintro e W5 ⟨rfl, hb5⟩; replace hb5 := Aside0.mk hb5; rw [hvk]; simp only [OutV])
          | fail)
        have B65 := Aside0.mk (blk_below (blk_below B6.out hw4.out) hb5.out)
        have BK5 := Aside0.mk (blk_below (blk_below BK.out hw4.out) hb5.out)
        have HB5 := Aside0.mk (below_step (below_step HB.out hw4.out) hb5.out)
        have HVS2 := Aside0.mk (show Vals l kids (vs ++ [u]) from fun j hj => by
          rw [List.length_append, List.length_singleton] at hj
          rcases Nat.lt_or_ge j vs.length with h | h
          · obtain ⟨k', h1, h2⟩ := HVS.out j h
            exact ⟨k', h1, by rw [h2]; congr 1; simp [List.getD_eq_getElem?_getD, List.getElem?_append_left h]⟩
          · obtain rfl : j = vs.length := by omega
            refine ⟨k, by rw [HVL.out]; exact HKI.out, ?_⟩
            rw [HVU.out]
            simp [List.getD_eq_getElem?_getD])
        have HVL2 := Aside0.mk (show (vs ++ [u]).length = i + 1 by simp [HVL.out])
        clear hvk hb8 hb8x hb8l hW4 hg4 hs4 hw4 hb5 BK B6 HB e0 e1 e2 e3 e4 KXk
        obtain rfl | rfl : i = 0 ∨ i = 1 := by omega
        · obtain rfl : vs = [] := List.eq_nil_of_length_eq_zero HVL.out
          have k6 : W5.cell? ⟨b6, 0, none⟩ = some (.int .i64 0) := (blk_cell B65.out 0).trans rfl
          have f6 := blk_frozen B65.out 0
          go_wp2
          go_roundw
          case rel => exact ⟨1, [u], by go_num, hlt, ⟨rfl⟩, HVS2, ⟨blk_far BK5.out (p := ⟨b6, 0, none⟩) HG.out.2.1 (.int .i64 u)⟩, ⟨blk_put B65.out 0 (.int .i64 u) rfl⟩, ⟨HB5.out.setCell (p := ⟨b6, 0, none⟩) HG.out.2.2 _⟩⟩
          case measure => simp [intOf]; omega
        · obtain ⟨a0, rfl⟩ : ∃ a0, vs = [a0] := List.length_eq_one_iff.1 HVL.out
          have k6 : W5.cell? ⟨b6, 1, none⟩ = some (.int .i64 0) := (blk_cell B65.out 1).trans rfl
          have f6 := blk_frozen B65.out 1
          go_wp2
          go_roundw
          case rel => exact ⟨2, [a0, u], by go_num, hlt, ⟨rfl⟩, HVS2, ⟨blk_far BK5.out (p := ⟨b6, 1, none⟩) HG.out.2.1 (.int .i64 u)⟩, ⟨blk_put B65.out 1 (.int .i64 u) rfl⟩, ⟨HB5.out.setCell (p := ⟨b6, 1, none⟩) HG.out.2.2 _⟩⟩
          case measure => simp [intOf]; omega
    · obtain rfl : i = kids.length := by omega
      have hv := HSO.out vs HVL.out HVS.out
      have z1 : ¬ (kids.length : Int) < (kids.length : Int) := by omega
      obtain ⟨p, hp⟩ : ∃ p, vs.getD 0 0 = p := ⟨_, rfl⟩
      obtain ⟨q, hq⟩ : ∃ q, vs.getD 1 0 = q := ⟨_, rfl⟩
      rw [hp, hq] at hv B6
      clear hp hq hlt hi HVL HVS HNO HSO HREC
      have k60 : wr.cell? ⟨b6, 0, none⟩ = some (.int .i64 p) := (blk_cell B6.out 0).trans rfl
      have k61 : wr.cell? ⟨b6, 1, none⟩ = some (.int .i64 q) := (blk_cell B6.out 1).trans rfl
      have k2 : wr.cell? ⟨b2, 0, none⟩ = some (.int .u8 on) := (blk_cell BK.out 0).trans rfl
      have HD := Aside0.mk (below_step HB.out (below_drew1 (Below.refl _ _)))
      go_upto_region 15 with (fail)
      go_region
      rcases HK.out with ⟨hkl, hop⟩ | ⟨hkl, hop⟩
      · rcases hop with hop | hop
        · have e0 : on = 33 := by rw [← HON.out, hop]; rfl
          subst e0
          have hval : (some (truth (p == 0)) : Option Int) = r := by rw [← HR.out, hv, hop, if_pos hkl]; rfl
          subst hval
          clear hv hop HK HLK hkl HON HR d1 d2
          go_wp2_with (first | (go_at_call 33; refine (brk_truth.calls _ _ _ (truth_f _)).mono ?_; rintro e w' ⟨rfl, ⟨nd, rfl⟩⟩) | fail)
          exact bodyPost_ret (v := .tuple #[.int .i64 (truth (p == 0)), .bool true]) (by simp [results, Tryd.f22, go_sem]) rfl ⟨rfl, below_step HB.out (pw_below_drewN (Below.refl _ _) _)⟩
        · have e0 : on = 126 := by rw [← HON.out, hop]; rfl
          subst e0
          have hval : (some (wrap64 (-p)) : Option Int) = r := by rw [← HR.out, hv, hop, if_pos hkl]; rfl
          subst hval
          clear hv hop HK HLK hkl HON HR d1 d2
          go_wp2_with fail
          exact bodyPost_ret (v := .tuple #[.int .i64 (wrap64 (-p)), .bool true]) (by simp [results, Tryd.f22, go_sem]) rfl ⟨rfl, HD.out⟩
      · rcases hop with hop | hop | hop | hop | hop | hop | hop
        · have e0 : on = 124 := by rw [← HON.out, hop]; rfl
          subst e0
          have hval : (some (truth (p != 0 || q != 0)) : Option Int) = r := by rw [← HR.out, hv, hop, if_neg (by omega)]; rfl
          subst hval
          clear hv hop HK HLK hkl HON HR d1 d2
          cases hp0 : (p != 0)
          · have HP0 := Aside0.mk hp0
            go_wp2_with (first | (go_at_call 33; refine (brk_truth.calls _ _ _ (truth_f _)).mono ?_; rintro e w' ⟨rfl, ⟨nd, rfl⟩⟩) | fail)
            exact bodyPost_ret (v := .tuple #[.int .i64 (truth (q != 0)), .bool true]) (by simp [results, Tryd.f22, go_sem]) rfl ⟨by rw [HP0.out]; rfl, below_step HB.out (pw_below_drewN (Below.refl _ _) _)⟩
          · have HP0 := Aside0.mk hp0
            go_wp2_with (first | (go_at_call 33; refine (brk_truth.calls _ _ _ (truth_f _)).mono ?_; rintro e w' ⟨rfl, ⟨nd, rfl⟩⟩) | fail)
            exact bodyPost_ret (v := .tuple #[.int .i64 (truth true), .bool true]) (by simp [results, Tryd.f22, go_sem]) rfl ⟨by rw [HP0.out]; rfl, below_step HB.out (pw_below_drewN (Below.refl _ _) _)⟩
        · have e0 : on = 38 := by rw [← HON.out, hop]; rfl
          subst e0
          have hval : (some (truth (p != 0 && q != 0)) : Option Int) = r := by rw [← HR.out, hv, hop, if_neg (by omega)]; rfl
          subst hval
          clear hv hop HK HLK hkl HON HR d1 d2
          cases hp0 : (p != 0)
          · have HP0 := Aside0.mk hp0
            go_wp2_with (first | (go_at_call 33; refine (brk_truth.calls _ _ _ (truth_f _)).mono ?_; rintro e w' ⟨rfl, ⟨nd, rfl⟩⟩) | fail)
            exact bodyPost_ret (v := .tuple #[.int .i64 (truth false), .bool true]) (by simp [results, Tryd.f22, go_sem]) rfl ⟨by rw [HP0.out]; rfl, below_step HB.out (pw_below_drewN (Below.refl _ _) _)⟩
          · have HP0 := Aside0.mk hp0
            go_wp2_with (first | (go_at_call 33; refine (brk_truth.calls _ _ _ (truth_f _)).mono ?_; rintro e w' ⟨rfl, ⟨nd, rfl⟩⟩) | fail)
            exact bodyPost_ret (v := .tuple #[.int .i64 (truth (q != 0)), .bool true]) (by simp [results, Tryd.f22, go_sem]) rfl ⟨by rw [HP0.out]; rfl, below_step HB.out (pw_below_drewN (Below.refl _ _) _)⟩
        · have e0 : on = 61 := by rw [← HON.out, hop]; rfl
          subst e0
          have hval : (some (truth (p == q)) : Option Int) = r := by rw [← HR.out, hv, hop, if_neg (by omega)]; rfl
          subst hval
          clear hv hop HK HLK hkl HON HR d1 d2
          go_wp2_with (first | (go_at_call 33; refine (brk_truth.calls _ _ _ (truth_f _)).mono ?_; rintro e w' ⟨rfl, ⟨nd, rfl⟩⟩) | fail)
          exact bodyPost_ret (v := .tuple #[.int .i64 (truth (p == q)), .bool true]) (by simp [results, Tryd.f22, go_sem]) rfl ⟨rfl, below_step HB.out (pw_below_drewN (Below.refl _ _) _)⟩
        · have e0 : on = 60 := by rw [← HON.out, hop]; rfl
          subst e0
          have hval : (some (truth (decide (p < q))) : Option Int) = r := by rw [← HR.out, hv, hop, if_neg (by omega)]; rfl
          subst hval
          clear hv hop HK HLK hkl HON HR d1 d2
          go_wp2_with (first | (go_at_call 33; refine (brk_truth.calls _ _ _ (truth_f _)).mono ?_; rintro e w' ⟨rfl, ⟨nd, rfl⟩⟩) | fail)
          exact bodyPost_ret (v := .tuple #[.int .i64 (truth (decide (p < q))), .bool true]) (by simp [results, Tryd.f22, go_sem]) rfl ⟨rfl, below_step HB.out (pw_below_drewN (Below.refl _ _) _)⟩
        · have e0 : on = 43 := by rw [← HON.out, hop]; rfl
          subst e0
          have hval : (some (wrap64 (p + q)) : Option Int) = r := by rw [← HR.out, hv, hop, if_neg (by omega)]; rfl
          subst hval
          clear hv hop HK HLK hkl HON HR d1 d2
          go_wp2_with fail
          exact bodyPost_ret (v := .tuple #[.int .i64 (wrap64 (p + q)), .bool true]) (by simp [results, Tryd.f22, go_sem]) rfl ⟨rfl, HD.out⟩
        · have e0 : on = 45 := by rw [← HON.out, hop]; rfl
          subst e0
          have hval : (some (wrap64 (p - q)) : Option Int) = r := by rw [← HR.out, hv, hop, if_neg (by omega)]; rfl
          subst hval
          clear hv hop HK HLK hkl HON HR d1 d2
          go_wp2_with fail
          exact bodyPost_ret (v := .tuple #[.int .i64 (wrap64 (p - q)), .bool true]) (by simp [results, Tryd.f22, go_sem]) rfl ⟨rfl, HD.out⟩
        · have e0 : on = 42 := by rw [← HON.out, hop]; rfl
          subst e0
          have hval : (some (wrap64 (p * q)) : Option Int) = r := by rw [← HR.out, hv, hop, if_neg (by omega)]; rfl
          subst hval
          clear hv hop HK HLK hkl HON HR d1 d2
          go_wp2_with fail
          exact bodyPost_ret (v := .tuple #[.int .i64 (wrap64 (p * q)), .bool true]) (by simp [results, Tryd.f22, go_sem]) rfl ⟨rfl, HD.out⟩
theorem value_all : ∀ x : Ex, x.wf → ValOK x
  | .nil, h => h.elim
  | .num n, _ => value_num n
  | .var s, _ => value_var s
  | .un op a, h => value_op (.un op a) op [a] rfl rfl rfl rfl (.inl ⟨rfl, h.1⟩) (fun k hk => by rw [List.mem_singleton.1 hk]; exact value_all a h.2)
      (fun l ⟨k, hk, hn⟩ => by rw [List.mem_singleton.1 hk] at hn; show (valF l a).bind _ = none; rw [hn]; rfl)
      (fun l vs hl hv => by
        obtain ⟨k, h1, h2⟩ := hv 0 (by rw [hl]; simp)
        cases h1
        show (valF l a).bind _ = _
        rw [h2]
        rfl)
  | .bin op a b, h => value_op (.bin op a b) op [a, b] rfl rfl rfl rfl (.inr ⟨rfl, isOp2_of h.1⟩) (fun k hk => by
        rcases List.mem_cons.1 hk with hk | hk
        · rw [hk]; exact value_all a h.2.1
        · rw [List.mem_singleton.1 hk]; exact value_all b h.2.2)
      (fun l ⟨k, hk, hn⟩ => by
        show (valF l a).bind _ = none
        rcases List.mem_cons.1 hk with rfl | hk
        · rw [hn]; rfl
        · rw [List.mem_singleton.1 hk] at hn
          cases valF l a with
          | none => rfl
          | some u => show (valF l b).bind _ = none; rw [hn]; rfl)
      (fun l vs hl hv => by
        obtain ⟨k, h1, h2⟩ := hv 0 (by rw [hl]; simp)
        cases h1
        obtain ⟨k, h3, h4⟩ := hv 1 (by rw [hl]; simp)
        cases h3
        show (valF l a).bind _ = _
        rw [h2]
        show (valF l b).bind _ = _
        rw [h4]
        rfl)
end Go.Proofs.YtmageoieajhhdaaDoor.Bk
