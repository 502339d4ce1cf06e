/- Conditions: parse and Check, walked. -/
import Derived.Test.YtmageoieajhhdaaDoorBkE
namespace Go.Proofs.YtmageoieajhhdaaDoor.Bk
open Go Go.RowKit Go.Proofs.YtmageoieajhhdaaDoorW.PrintWords Go.Proofs.YtmageoieajhhdaaDoorW.PrintLast Go.Proofs.YtmageoieajhhdaaDoorW.PrintMore Go.Proofs.YtmageoieajhhdaaDoor.PBrkWritten Go.Proofs.YtmageoieajhhdaaDoor.RegionVal
open Go.Lib hiding intOf
set_option linter.unusedVariables false
set_option linter.unusedSimpArgs false
def finF (r : Ex × Bs × Bool) : Ex × Int := if r.2.2 then (.nil, 4) else if Lib.trimB r.2.1 32 = [] then (if 20 < r.1.deep then (.nil, 2) else (r.1, 0)) else (.nil, 4)
def parseF (t : Bs) : Ex × Int := if 200 < t.length then (.nil, 2) else match runF (8 * t.length + 7) (.bin 0) t false with
  | none => (.nil, 4)
  | some r => finF r
set_option maxHeartbeats 8000000 in
set_option maxRecDepth 100000 in
theorem parse_calls (t : Bs) (w : World) : Calls Tryd.prog 20 #[.string (bs t)] w fun e w' => ∃ v, e = .returned (.tuple #[v, .int .i64 (parseF t).2]) ∧ XV w' (fun k => w.heap.size ≤ k) v (toS (parseF t).1) ∧ Below w.heap.size w w' := by
  obtain ⟨x, er, hp⟩ : ∃ x er, parseF t = (x, er) := ⟨_, _, rfl⟩
  rw [hp]
  have HP := Aside0.mk hp
  clear hp
  go_enter Tryd.func20, Tryd.ntmps20
  go_upto_region 1 with (first
    | ((with_reducible refine gate_ (.alloc 52) rfl ?_); refine box_event ?hg (N := 2) ?hd (cs := #[.int .u8 0, .int .i64 0, .string (⟨#[]⟩ : ByteArray), .slice none 0 0, .int .i64 0]) (t := 52) ?hr ?_; (case hd => rfl); (case hg => rfl); (case hr => first | (go_simp; done) | (go_simp; rfl)); intro b2 hb2 W1 hbx hbl; replace hb2 := Aside0.mk hb2; replace hbx := Aside0.mk hbx; replace hbl := Aside0.mk hbl)
    | fail)
  have GE := Aside0.mk (show w.heap.size ≤ b2 by have := hb2.out; omega)
  by_cases hlen : 200 < t.length
  · have hp := HP.out
    unfold parseF at hp
    rw [if_pos hlen] at hp
    cases hp
    have z1 : 200 < (t.length : Int) := by omega
    go_wp2_with (first
      | ((with_reducible refine gate_ (.store 52 (.tmp 2) (.tmp 9)) rfl ?_); refine put_event (g := b2) (seg := cell5 (toS .nil) (.slice none 0 0)) rfl rfl rfl rfl rfl hbx.out size52 rfl (cell5_one _ ⟨none, 0, 0, rfl⟩) ?_; intro W2 hW2 hg2 hs2; replace hW2 := Aside0.mk hW2; replace hg2 := Aside0.mk hg2; replace hs2 := Aside0.mk hs2)
      | fail)
    exact bodyPost_ret (results_ct rfl _ _ b2 52 (cell5 (toS .nil) (.slice none 0 0)).toArray (0, 0) _ rfl hW2.out Tryd.underlying52 rfl (by kernel_rfl)) rfl ⟨_, rfl, ⟨_, rfl, Kd.V_nil _ _ _ _ _⟩, (hbl.out.grown hg2.out hbl.out.size (fun k e => by cases e; exact GE.out))⟩
  · have z1 : ¬ 200 < (t.length : Int) := by omega
    obtain ⟨⟨y, s1, b1⟩, hr, hrl⟩ := run_total (8 * t.length + 7) (.bin 0) t false (by simp only [Job.ok]; omega) (by simp only [need]; omega)
    have hp := HP.out
    unfold parseF at hp
    rw [if_neg hlen, hr] at hp
    simp only at hp hrl
    have HR := Aside0.mk hr
    have HP2 := Aside0.mk hp
    have hl1 : t.length ≤ 1000 := by omega
    have hs1 : (bs s1).size ≤ 9223372036854775807 := by rw [bs_size]; omega
    clear hr hp hrl hlen HP
    go_upto_region 5 with (first
      | ((with_reducible refine gate_ (.box 74 (.tmp 11)) rfl ?_); refine box_event ?hg (N := 12) ?hd (cs := #[.string (bs t), .bool false]) (t := 74) ?hr ?_; (case hd => rfl); (case hg => rfl); (case hr => first | (go_simp; done) | (go_simp; rfl)); intro g hg W3 hbg hlg; replace hg := Aside0.mk hg; replace hbg := Aside0.mk hbg; replace hlg := Aside0.mk hlg)
      | (go_at_call 29; have HB3 := Aside0.mk (below_step hbl.out hlg.out); have HI := Aside0.mk (show IsS74 w W3 g (bs t) false from ⟨hbg.out, by have h1 := hg.out; have h2 := hbl.out.size; omega⟩); refine ((all_ok _).2 _ (Nat.le_refl _) 0 (by omega) g t false w W3 y s1 b1 HR.out hl1 HI.out HB3.out).mono ?_; rintro e W4 ⟨v, rfl, hx4, hp4⟩; obtain ⟨v4, rfl, hv4⟩ := hx4; obtain ⟨A4, c4, rfl⟩ := Kd.V_slice hv4; replace hv4 := Aside0.mk hv4; replace hp4 := Aside0.mk hp4)
      | ((with_reducible refine gate_ (.alloc 52) rfl ?_); refine box_event ?hg (N := 5) ?hd (cs := #[.int .u8 0, .int .i64 0, .string (⟨#[]⟩ : ByteArray), .slice none 0 0, .int .i64 0]) (t := 52) ?hr ?_; (case hd => rfl); (case hg => rfl); (case hr => first | (go_simp; done) | (go_simp; rfl)); intro b5 hb5 W5 hbx5 hbl5; replace hb5 := Aside0.mk hb5; replace hbx5 := Aside0.mk hbx5; replace hbl5 := Aside0.mk hbl5)
      | ((with_reducible refine gate_ (.store 52 (.tmp 5) (.tmp 14)) rfl ?_); refine put_event (g := b5) (seg := cell5 (toS y) (.slice A4 (toS y).f3.length c4)) rfl rfl rfl rfl rfl hbx5.out size52 rfl (cell5_one _ ⟨A4, _, c4, rfl⟩) ?_; intro W6 hW6 hg6 hs6; replace hW6 := Aside0.mk hW6; replace hg6 := Aside0.mk hg6; replace hs6 := Aside0.mk hs6)
      | fail)
    have NB := Aside0.mk (show b2 ≠ g ∧ g ≠ b5 ∧ b2 ≠ b5 ∧ W4.heap.size ≤ b5 ∧ w.heap.size ≤ b5 ∧ b2 < W3.heap.size ∧ w.heap.size ≤ W3.heap.size from by
      have h1 := hg.out
      have h2 := hb5.out
      have h3 := blk_lt hbx.out
      have h4 := hp4.out.lt
      have h5 := hp4.out.size
      have h6 := hlg.out.size
      have h7 := hbl.out.size
      omega)
    have HB6 := Aside0.mk ((below_step hp4.out.2.1 hbl5.out).grown hg6.out (below_step hp4.out.2.1 hbl5.out).size (fun k e => by cases e; exact NB.out.2.2.2.2.1))
    have BK6 := Aside0.mk (blk_grown (blk_below (keep_blk hp4.out.2.2 NB.out.1 (blk_below hbx.out hlg.out)) hbl5.out) hg6.out (fun e => NB.out.2.2.1 (Option.some.inj e)))
    have G6 := Aside0.mk (blk_grown (blk_below hp4.out.1.1 hbl5.out) hg6.out (fun e => NB.out.2.1 (Option.some.inj e)))
    have HK6 := Aside0.mk (kept_step (kept_below (kept_refl W4 (fun k => k = b2)) hbl5.out) hg6.out (fun p e => by cases e; exact .inr NB.out.2.2.2.1))
    have HV6 := Aside0.mk hv4.out
    clear hg hb2 hbx hbl hlg hbg HB3 HI hp4 hb5 hbx5 hbl5 hg6 hs6 HR
    have hc0 := cellS74_0 G6.out
    have hc1 := cellS74_1 G6.out
    cases b1 with
    | true =>
      have hp := HP2.out
      unfold finF at hp
      rw [if_pos rfl] at hp
      cases hp
      go_wp2_with (first
        | ((with_reducible refine gate_ (.store 52 (.tmp 2) (.tmp 28)) rfl ?_); refine put_event (g := b2) (seg := cell5 (toS .nil) (.slice none 0 0)) rfl rfl rfl rfl rfl BK6.out size52 rfl (cell5_one _ ⟨none, 0, 0, rfl⟩) ?_; intro W8 hW8 hg8 hs8; replace hW8 := Aside0.mk hW8; replace hg8 := Aside0.mk hg8; replace hs8 := Aside0.mk hs8)
        | fail)
      exact bodyPost_ret (results_ct rfl _ _ b2 52 (cell5 (toS .nil) (.slice none 0 0)).toArray (0, 0) _ rfl hW8.out Tryd.underlying52 rfl (by kernel_rfl)) rfl ⟨_, rfl, ⟨_, rfl, Kd.V_nil _ _ _ _ _⟩, (HB6.out.grown hg8.out HB6.out.size (fun k e => by cases e; exact GE.out))⟩
    | false =>
      rcases htr : Lib.trimB s1 32 with _ | ⟨c, r⟩
      · have hp := HP2.out
        unfold finF at hp
        simp only [Bool.false_eq_true, if_false, htr, if_true] at hp
        by_cases hd : 20 < y.deep
        · rw [if_pos hd] at hp
          cases hp
          have d1 : decide (20 < y.deep) = true := decide_eq_true hd
          clear hd
          go_wp2_with (first
            | (go_at_call 30; refine (Tryd.strings_Trim_one (bs s1) 32 (by decide) _ hs1).mono ?_; rintro e W7 ⟨rfl, hw7⟩; have HB7 := Aside0.mk (show Below W6.heap.size W6 W7 from by (rcases hw7 with rfl | rfl; exact Below.refl _ _; exact below_drew1 (Below.refl _ _))); clear hw7; have k5 : W7.cell? ⟨b5, 4, none⟩ = some (.int .i64 y.deep) := (by rw [← toS_deep]; exact (blk_cell (blk_below hW6.out HB7.out) 4).trans rfl); rw [show (⟨(Lib.trimB (bs s1).data.toList 32).toArray⟩ : ByteArray) = bs [] from congrArg (fun l => (⟨List.toArray l⟩ : ByteArray)) htr])
            | ((with_reducible refine gate_ (.store 52 (.tmp 2) (.tmp 33)) rfl ?_); refine put_event (g := b2) (seg := cell5 (toS .nil) (.slice none 0 0)) rfl rfl rfl rfl rfl (blk_below BK6.out HB7.out) size52 rfl (cell5_one _ ⟨_, _, _, rfl⟩) ?_; intro W8 hW8 hg8 hs8; replace hW8 := Aside0.mk hW8; replace hg8 := Aside0.mk hg8; replace hs8 := Aside0.mk hs8)
            | fail)
          have HBB := Aside0.mk (below_step HB6.out HB7.out)
          exact bodyPost_ret (results_ct rfl _ _ b2 52 (cell5 (toS .nil) (.slice none 0 0)).toArray (0, 0) _ rfl hW8.out Tryd.underlying52 rfl (by kernel_rfl)) rfl ⟨_, rfl, ⟨_, rfl, Kd.V_nil _ _ _ _ _⟩, (HBB.out.grown hg8.out HBB.out.size (fun k e => by cases e; exact GE.out))⟩
        · rw [if_neg hd] at hp
          rw [Prod.mk.injEq] at hp
          obtain ⟨hx, hr⟩ := hp
          subst hx
          subst hr
          have d1 : decide (20 < y.deep) = false := decide_eq_false hd
          clear hd
          go_wp2_with (first
            | (go_at_call 30; refine (Tryd.strings_Trim_one (bs s1) 32 (by decide) _ hs1).mono ?_; rintro e W7 ⟨rfl, hw7⟩; have HB7 := Aside0.mk (show Below W6.heap.size W6 W7 from by (rcases hw7 with rfl | rfl; exact Below.refl _ _; exact below_drew1 (Below.refl _ _))); clear hw7; have k5 : W7.cell? ⟨b5, 4, none⟩ = some (.int .i64 y.deep) := (by rw [← toS_deep]; exact (blk_cell (blk_below hW6.out HB7.out) 4).trans rfl); rw [show (⟨(Lib.trimB (bs s1).data.toList 32).toArray⟩ : ByteArray) = bs [] from congrArg (fun l => (⟨List.toArray l⟩ : ByteArray)) htr])
            | ((with_reducible refine gate_ (.load 52 (.tmp 5)) rfl ?_); refine load_event rfl rfl rfl (blk_below hW6.out HB7.out) Tryd.underlying52 rfl (by kernel_rfl) ?_)
            | ((with_reducible refine gate_ (.store 52 (.tmp 2) (.tmp 34)) rfl ?_); refine put_event (g := b2) (seg := cell5 (toS y) (.slice A4 (toS y).f3.length c4)) rfl rfl rfl rfl rfl (blk_below BK6.out HB7.out) size52 rfl (cell5_one _ ⟨_, _, _, rfl⟩) ?_; intro W8 hW8 hg8 hs8; replace hW8 := Aside0.mk hW8; replace hg8 := Aside0.mk hg8; replace hs8 := Aside0.mk hs8)
            | fail)
          have HBB := Aside0.mk (below_step HB6.out HB7.out)
          have HK8 := kept_step (kept_below HK6.out HB7.out) hg8.out (fun p e => by cases e; exact .inl rfl)
          exact bodyPost_ret (results_ct rfl _ _ b2 52 (cell5 (toS y) (.slice A4 (toS y).f3.length c4)).toArray (0, 0) _ rfl hW8.out Tryd.underlying52 rfl (by kernel_rfl)) rfl ⟨_, rfl, ⟨_, rfl, Kd.V_mono (ok := fun k => W3.heap.size ≤ k) (Kd.V_kept HV6.out HK8 (fun k hk he => by have h1 := NB.out; omega)) (fun k hk => Nat.le_trans NB.out.2.2.2.2.2.2 hk)⟩, (HBB.out.grown hg8.out HBB.out.size (fun k e => by cases e; exact GE.out))⟩
      · have hp := HP2.out
        unfold finF at hp
        simp only [Bool.false_eq_true, if_false, htr] at hp
        cases hp
        go_upto_region 6 with (first | (go_at_call 30; refine (Tryd.strings_Trim_one (bs s1) 32 (by decide) _ hs1).mono ?_; rintro e W7 ⟨rfl, hw7⟩; have HB7 := Aside0.mk (show Below W6.heap.size W6 W7 from by (rcases hw7 with rfl | rfl; exact Below.refl _ _; exact below_drew1 (Below.refl _ _))); clear hw7; rw [show (⟨(Lib.trimB (bs s1).data.toList 32).toArray⟩ : ByteArray) = bs (c :: r) from congrArg (fun l => (⟨List.toArray l⟩ : ByteArray)) htr]) | fail)
        have BK7 := Aside0.mk (blk_below BK6.out HB7.out)
        have HBB := Aside0.mk (below_step HB6.out HB7.out)
        clear hc0 hc1
        go_wp2_with (first
          | ((with_reducible refine gate_ (.store 52 (.tmp 2) (.tmp 28)) rfl ?_); refine put_event (g := b2) (seg := cell5 (toS .nil) (.slice none 0 0)) rfl rfl rfl rfl rfl BK7.out size52 rfl (cell5_one _ ⟨none, 0, 0, rfl⟩) ?_; intro W8 hW8 hg8 hs8; replace hW8 := Aside0.mk hW8; replace hg8 := Aside0.mk hg8; replace hs8 := Aside0.mk hs8)
          | fail)
        exact bodyPost_ret (results_ct rfl _ _ b2 52 (cell5 (toS .nil) (.slice none 0 0)).toArray (0, 0) _ rfl hW8.out Tryd.underlying52 rfl (by kernel_rfl)) rfl ⟨_, rfl, ⟨_, rfl, Kd.V_nil _ _ _ _ _⟩, (HBB.out.grown hg8.out HBB.out.size (fun k e => by cases e; exact GE.out))⟩
set_option maxHeartbeats 8000000 in
set_option maxRecDepth 100000 in
theorem Check_calls (t : Bs) (w : World) : Calls Tryd.prog 13 #[.string (bs t)] w fun e w' => e = .returned (.int .i64 (parseF t).2) ∧ Below w.heap.size w w' := by
  go_enter Tryd.func13, Tryd.ntmps13
  go_wp2_with (first
    | (go_at_call 20; refine (parse_calls t _).mono ?_; rintro e W1 ⟨v, rfl, hx1, hb1⟩; obtain ⟨v1, rfl, hv1⟩ := hx1; obtain ⟨A1, c1, rfl⟩ := Kd.V_slice hv1; replace hv1 := Aside0.mk hv1; replace hb1 := Aside0.mk hb1)
    | ((with_reducible refine gate_ (.alloc 52) rfl ?_); refine box_event ?hg (N := 3) ?hd (cs := #[.int .u8 0, .int .i64 0, .string (⟨#[]⟩ : ByteArray), .slice none 0 0, .int .i64 0]) (t := 52) ?hr ?_; (case hd => rfl); (case hg => rfl); (case hr => first | (go_simp; done) | (go_simp; rfl)); intro b3 hb3 W2 hbx hbl; replace hb3 := Aside0.mk hb3; replace hbx := Aside0.mk hbx; replace hbl := Aside0.mk hbl)
    | ((with_reducible refine gate_ (.store 52 (.tmp 3) (.tmp 8)) rfl ?_); refine put_event (g := b3) (seg := cell5 (toS (parseF t).1) (.slice A1 (toS (parseF t).1).f3.length c1)) rfl rfl rfl rfl rfl hbx.out size52 rfl (cell5_one _ ⟨_, _, _, rfl⟩) ?_; intro W3 hW3 hg3 hs3; replace hW3 := Aside0.mk hW3; replace hg3 := Aside0.mk hg3; replace hs3 := Aside0.mk hs3)
    | fail)
  have HB2 := below_step hb1.out hbl.out
  exact bodyPost_ret (v := .int .i64 (parseF t).2) (by simp [results, Tryd.f13, go_sem]) rfl ⟨rfl, HB2.grown hg3.out HB2.size (fun k e => by cases e; have := hb3.out; have := hb1.out.size; omega)⟩
end Go.Proofs.YtmageoieajhhdaaDoor.Bk
