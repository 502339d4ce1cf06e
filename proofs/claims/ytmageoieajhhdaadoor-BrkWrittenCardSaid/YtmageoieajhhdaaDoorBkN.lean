/- Conditions: names, Value, First, walked. -/
import Derived.Test.YtmageoieajhhdaaDoorBkM
namespace Go.Proofs.YtmageoieajhhdaaDoor.Bk
open Go Go.RowKit Go.Proofs.YtmageoieajhhdaaDoorW.PrintWords Go.Proofs.YtmageoieajhhdaaDoorW.PrintLast Go.Proofs.YtmageoieajhhdaaDoorW.PrintMore Go.Proofs.YtmageoieajhhdaaDoor.PBrkWritten Go.Proofs.YtmageoieajhhdaaDoor.RegionVal
open Go.Lib hiding intOf
set_option linter.unusedVariables false
set_option linter.unusedSimpArgs false
set_option maxHeartbeats 4000000 in
set_option maxRecDepth 100000 in
theorem names_calls (W : World) (A : Option Addr) (c : Nat) (l : Vs) (h : Kd.C kV W A l.length l) : Calls Tryd.prog 23 #[.slice A l.length c] W fun e W' => ∃ gb, e = .returned (fnV gb) ∧ NM W' gb l ∧ Below W.heap.size W W' := by
  have HC := Aside0.mk h
  clear h
  go_enter Tryd.func23, Tryd.ntmps23
  go_wp2
  exact bodyPost_ret (v := fnV W.heap.size) (by simp [results, Tryd.f23, go_sem]) rfl ⟨_, rfl, ⟨A, c, blk_new W _, Kd.C_below HC.out (below_alloc (Below.refl _ _) _)⟩, below_alloc (Below.refl _ _) _⟩
set_option maxHeartbeats 8000000 in
set_option maxRecDepth 100000 in
theorem Value_calls (t : Bs) (l : Vs) (W : World) (A : Option Addr) (c : Nat) (h : Kd.C kV W A l.length l) : Calls Tryd.prog 11 #[.string (bs t), .slice A l.length c] W fun e W' => e = .returned (.tuple #[.int .i64 (valueF t l).1, .int .i64 (valueF t l).2]) ∧ Below W.heap.size W W' := by
  have HC := Aside0.mk h
  clear h
  obtain ⟨x, er, hp⟩ : ∃ x er, parseF t = (x, er) := ⟨_, _, rfl⟩
  obtain ⟨v1, v2, hv⟩ : ∃ v1 v2, valueF t l = (v1, v2) := ⟨_, _, rfl⟩
  rw [hv]
  have HP := Aside0.mk hp
  have HV := Aside0.mk hv
  clear hp hv
  go_enter Tryd.func11, Tryd.ntmps11
  go_upto_region 2 with (first
    | (go_at_call 20; refine (parse_calls t _).mono ?_; rintro e W1 ⟨v, rfl, hx1, hb1⟩; rw [HP.out] at hx1 ⊢; have KX1 := Aside0.mk hx1.kx; obtain ⟨v1, rfl, hv1⟩ := hx1; obtain ⟨A1, c1, rfl⟩ := Kd.V_slice hv1; replace hv1 := Aside0.mk hv1; replace hb1 := Aside0.mk hb1)
    | ((with_reducible refine gate_ (.alloc 52) rfl ?_); refine box_event ?hg (N := 6) ?hd (cs := #[.int .u8 0, .int .i64 0, .string (⟨#[]⟩ : ByteArray), .slice none 0 0, .int .i64 0]) (t := 52) ?hr ?_; (case hd => rfl); (case hg => rfl); (case hr => first | (go_simp; done) | (go_simp; rfl)); intro b6 hb6 W2 hbx hbl; replace hb6 := Aside0.mk hb6; replace hbx := Aside0.mk hbx; replace hbl := Aside0.mk hbl)
    | ((with_reducible refine gate_ (.store 52 (.tmp 6) (.tmp 13)) rfl ?_); refine put_event (g := b6) (seg := cell5 (toS x) (.slice A1 (toS x).f3.length c1)) rfl rfl rfl rfl rfl hbx.out size52 rfl (cell5_one _ ⟨_, _, _, rfl⟩) ?_; intro W3 hW3 hg3 hs3; replace hW3 := Aside0.mk hW3; replace hg3 := Aside0.mk hg3; replace hs3 := Aside0.mk hs3)
    | fail)
  have HB3 := Aside0.mk ((below_step hb1.out hbl.out).grown hg3.out (below_step hb1.out hbl.out).size (fun k e => by cases e; have := hb6.out; have := hb1.out.size; omega))
  have KX3 := Aside0.mk (KX.below KX1.out (hbl.out.grown hg3.out hbl.out.size (fun k e => by cases e; have := hb6.out; omega)))
  have HC3 := Aside0.mk (Kd.C_below HC.out HB3.out)
  clear hb1 hbl hbx hb6 hg3 hs3 KX1 hv1 HC
  by_cases he : er = 0
  · subst he
    have HIS := Aside0.mk (parse_ok.1 HP.out)
    have HWF := Aside0.mk HIS.out.wf
    go_upto_region 4 with (fail)
    rcases hvl : valF l x with _ | n
    · refine wp_eff (S := fun w' => w'.heap[b6]? = some (.cells (cell5 (toS x) (.slice A1 (toS x).f3.length c1)).toArray 52 (0, 0))) [(0, false), (1, false), (2, true), (3, true), (4, false), (5, false), (6, false), (7, false), (8, false)] (by kernel_rfl) (by kernel_rfl) (blk_drew hW3.out) (fun _ _ d _ _ h => by cases d <;> exact h) ?_
      refine se_load (v := .agg (cell5 (toS x) (.slice A1 (toS x).f3.length c1)).toArray) rfl rfl rfl (fun w' hw => run_load52 hw rfl) ?_
      refine se_move rfl rfl rfl ?_
      refine se_call (vs := [.slice A l.length c]) rfl rfl Tryd.func23 (by kernel_rfl) rfl (by kernel_rfl) ?_
      refine (names_calls _ A c l (Kd.C_below HC3.out (below_drew1 (Below.refl _ _)))).mono ?_
      rintro e W4 ⟨gb, rfl, hnm, hb4⟩
      refine ⟨_, rfl, blk_below (blk_drew hW3.out) hb4, ?_⟩
      refine se_call (vs := [.agg (cell5 (toS x) (.slice A1 (toS x).f3.length c1)).toArray, fnV gb]) rfl rfl Tryd.func22 (by kernel_rfl) rfl (by kernel_rfl) ?_
      refine (value_all x HWF.out W4 _ gb l (KX.below (KX.below KX3.out (below_drew1 (Below.refl _ _))) hb4) hnm).mono ?_
      rintro e W5 ⟨rfl, hb5⟩
      refine ⟨_, rfl, blk_below (blk_below (blk_drew hW3.out) hb4) hb5, ?_⟩
      rw [hvl]
      refine se_move rfl rfl rfl ?_
      refine se_un (v := .int .i64 0) rfl rfl rfl rfl rfl (fun w' hw => by simp only [OutV]; go_simp) ?_
      refine se_un (v := .bool false) rfl rfl rfl rfl rfl (fun w' hw => by simp only [OutV]; go_simp) ?_
      refine se_assign rfl rfl rfl ?_
      refine se_assign rfl rfl rfl ?_
      intro _
      have HB5 := Aside0.mk (below_step (below_step (below_step HB3.out (below_drew1 (Below.refl _ _))) hb4) hb5)
      clear hnm hb4 hb5
      simp only [puts, Act.put, List.setIfInBounds_toArray, List.set_cons_zero, List.set_cons_succ]
      go_wp2
      have hv : valueF t l = (0, 5) := by unfold valueF; rw [HP.out, if_neg (by simp)]; simp only [hvl]
      have h2 := HV.out
      rw [hv] at h2
      cases h2
      exact bodyPost_ret (v := .tuple #[.int .i64 0, .int .i64 5]) (by simp [results, Tryd.f11, go_sem]) rfl ⟨rfl, HB5.out⟩
    · refine wp_eff (S := fun w' => w'.heap[b6]? = some (.cells (cell5 (toS x) (.slice A1 (toS x).f3.length c1)).toArray 52 (0, 0))) [(0, false), (1, false), (2, true), (3, true), (4, false), (5, false), (6, false), (7, false), (8, false)] (by kernel_rfl) (by kernel_rfl) (blk_drew hW3.out) (fun _ _ d _ _ h => by cases d <;> exact h) ?_
      refine se_load (v := .agg (cell5 (toS x) (.slice A1 (toS x).f3.length c1)).toArray) rfl rfl rfl (fun w' hw => run_load52 hw rfl) ?_
      refine se_move rfl rfl rfl ?_
      refine se_call (vs := [.slice A l.length c]) rfl rfl Tryd.func23 (by kernel_rfl) rfl (by kernel_rfl) ?_
      refine (names_calls _ A c l (Kd.C_below HC3.out (below_drew1 (Below.refl _ _)))).mono ?_
      rintro e W4 ⟨gb, rfl, hnm, hb4⟩
      refine ⟨_, rfl, blk_below (blk_drew hW3.out) hb4, ?_⟩
      refine se_call (vs := [.agg (cell5 (toS x) (.slice A1 (toS x).f3.length c1)).toArray, fnV gb]) rfl rfl Tryd.func22 (by kernel_rfl) rfl (by kernel_rfl) ?_
      refine (value_all x HWF.out W4 _ gb l (KX.below (KX.below KX3.out (below_drew1 (Below.refl _ _))) hb4) hnm).mono ?_
      rintro e W5 ⟨rfl, hb5⟩
      refine ⟨_, rfl, blk_below (blk_below (blk_drew hW3.out) hb4) hb5, ?_⟩
      rw [hvl]
      refine se_move rfl rfl rfl ?_
      refine se_un (v := .int .i64 n) rfl rfl rfl rfl rfl (fun w' hw => by simp only [OutV]; go_simp) ?_
      refine se_un (v := .bool true) rfl rfl rfl rfl rfl (fun w' hw => by simp only [OutV]; go_simp) ?_
      refine se_assign rfl rfl rfl ?_
      refine se_assign rfl rfl rfl ?_
      intro _
      have HB5 := Aside0.mk (below_step (below_step (below_step HB3.out (below_drew1 (Below.refl _ _))) hb4) hb5)
      clear hnm hb4 hb5
      simp only [puts, Act.put, List.setIfInBounds_toArray, List.set_cons_zero, List.set_cons_succ]
      go_wp2
      have hv : valueF t l = (n, 0) := by unfold valueF; rw [HP.out, if_neg (by simp)]; simp only [hvl]
      have h2 := HV.out
      rw [hv] at h2
      cases h2
      exact bodyPost_ret (v := .tuple #[.int .i64 v1, .int .i64 0]) (by simp [results, Tryd.f11, go_sem]) rfl ⟨rfl, HB5.out⟩
  · have d1 : (er != 0) = true := bne_iff_ne.2 he
    go_wp2
    have hv : valueF t l = (0, er) := by unfold valueF; rw [HP.out, if_pos he]
    have h2 := HV.out
    rw [hv] at h2
    cases h2
    exact bodyPost_ret (v := .tuple #[.int .i64 0, .int .i64 er]) (by simp [results, Tryd.f11, go_sem]) rfl ⟨rfl, HB3.out⟩
/-- lists of names -/
def kL : Kd Vs := Kd.slice 49 kV
theorem atL {w : World} {A : Option Addr} {n : Nat} {xs : List Vs} (h : Kd.C kL w A n xs) (i : Nat) (hi : i < xs.length) : ∃ ad A2 c2, A = some ad ∧ w.cell? (ad.add i) = some (.slice A2 xs[i].length c2) ∧ Kd.C kV w A2 xs[i].length xs[i] := by
  have hn := h.1
  obtain ⟨ad, c, e, _, hK, hc⟩ := Kd.C_get h [] (i : Int) (by omega) (by omega)
  rw [Int.toNat_natCast] at hK hc
  have hg : xs.getD i [] = xs[i] := by simp [List.getD_eq_getElem?_getD, hi]
  rw [hg] at hK
  obtain ⟨A2, c2, rfl, _, hC⟩ := hK
  have := hc 0 _ rfl
  rw [show kL.sz = 1 from rfl, Nat.mul_one, Nat.add_zero] at this
  exact ⟨ad, A2, c2, e, this, hC⟩
theorem scan_range' (L : List Vs) (x : Ex) (m n : Nat) (h : m < n) : scanF L x (List.range' m (n - m)) = match valF (L.getD m []) x with
    | none => (0, false, 5)
    | some u => if u = 0 then scanF L x (List.range' (m + 1) (n - (m + 1))) else ((m : Int), true, 0) := by
  obtain ⟨d, hd⟩ : ∃ d, n - m = d + 1 := ⟨n - m - 1, by omega⟩
  rw [hd, List.range'_succ, show n - (m + 1) = d by omega]
  rfl
theorem scan_back (L : List Vs) (x : Ex) (m : Nat) : scanF L x (List.range (m + 1)).reverse = match valF (L.getD m []) x with
    | none => (0, false, 5)
    | some u => if u = 0 then scanF L x (List.range m).reverse else ((m : Int), true, 0) := by
  rw [List.range_succ, List.reverse_append]
  rfl
set_option maxHeartbeats 8000000 in
set_option maxRecDepth 100000 in
theorem First_calls (t : Bs) (L : List Vs) (m : Int) (back : Bool) (W : World) (A : Option Addr) (c : Nat) (h : Kd.C kL W A L.length L) : Calls Tryd.prog 12 #[.string (bs t), .slice A L.length c, .int .i64 m, .bool back] W fun e W' => e = .returned (.tuple #[.int .i64 (firstF t L m back).1, .bool (firstF t L m back).2.1, .int .i64 (firstF t L m back).2.2]) ∧ Below W.heap.size W W' := by
  have HC := Aside0.mk h
  have hln := h.2.1
  clear h
  obtain ⟨x, er, hp⟩ : ∃ x er, parseF t = (x, er) := ⟨_, _, rfl⟩
  obtain ⟨r1, r2, r3, hv⟩ : ∃ r1 r2 r3, firstF t L m back = (r1, r2, r3) := ⟨_, _, _, rfl⟩
  rw [hv]
  have HP := Aside0.mk hp
  have HV := Aside0.mk hv
  clear hp hv
  go_enter Tryd.func12, Tryd.ntmps12
  go_upto_region 2 with (first
    | (go_at_call 20; refine (parse_calls t _).mono ?_; rintro e W1 ⟨v, rfl, hx1, hb1⟩; rw [HP.out] at hx1 ⊢; have KX1 := Aside0.mk hx1.kx; obtain ⟨v1, rfl, hv1⟩ := hx1; obtain ⟨A1, c1, rfl⟩ := Kd.V_slice hv1; replace hv1 := Aside0.mk hv1; replace hb1 := Aside0.mk hb1)
    | ((with_reducible refine gate_ (.alloc 52) rfl ?_); refine box_event ?hg (N := 11) ?hd (cs := #[.int .u8 0, .int .i64 0, .string (⟨#[]⟩ : ByteArray), .slice none 0 0, .int .i64 0]) (t := 52) ?hr ?_; (case hd => rfl); (case hg => rfl); (case hr => first | (go_simp; done) | (go_simp; rfl)); intro b6 hb6 W2 hbx hbl; replace hb6 := Aside0.mk hb6; replace hbx := Aside0.mk hbx; replace hbl := Aside0.mk hbl)
    | ((with_reducible refine gate_ (.store 52 (.tmp 11) (.tmp 20)) rfl ?_); refine put_event (g := b6) (seg := cell5 (toS x) (.slice A1 (toS x).f3.length c1)) rfl rfl rfl rfl rfl hbx.out size52 rfl (cell5_one _ ⟨_, _, _, rfl⟩) ?_; intro W3 hW3 hg3 hs3; replace hW3 := Aside0.mk hW3; replace hg3 := Aside0.mk hg3; replace hs3 := Aside0.mk hs3)
    | fail)
  have HB3 := Aside0.mk ((below_step hb1.out hbl.out).grown hg3.out (below_step hb1.out hbl.out).size (fun k e => by cases e; have := hb6.out; have := hb1.out.size; omega))
  have KX3 := Aside0.mk (KX.below KX1.out (hbl.out.grown hg3.out hbl.out.size (fun k e => by cases e; have := hb6.out; omega)))
  have HC3 := Aside0.mk (Kd.C_below HC.out HB3.out)
  clear hb1 hbl hbx hb6 hg3 hs3 KX1 hv1 HC
  by_cases he : er = 0
  · subst he
    by_cases hlen : 200 < L.length
    · have z1 : 200 < (L.length : Int) := by omega
      go_wp2
      have hv : firstF t L m back = (0, false, 2) := by unfold firstF; rw [HP.out, if_neg (by simp), if_pos hlen]
      have h2 := HV.out
      rw [hv] at h2
      cases h2
      exact bodyPost_ret (v := .tuple #[.int .i64 0, .bool false, .int .i64 2]) (by simp [results, Tryd.f12, go_sem]) rfl ⟨rfl, HB3.out⟩
    · have z1 : ¬ 200 < (L.length : Int) := by omega
      by_cases hm : m < 0
      · go_wp2
        have hv : firstF t L m back = (0, false, 1) := by unfold firstF; rw [HP.out, if_neg (by simp), if_neg hlen, if_pos (.inl hm)]
        have h2 := HV.out
        rw [hv] at h2
        cases h2
        exact bodyPost_ret (v := .tuple #[.int .i64 0, .bool false, .int .i64 1]) (by simp [results, Tryd.f12, go_sem]) rfl ⟨rfl, HB3.out⟩
      · by_cases hm2 : (L.length : Int) ≤ m
        · go_wp2
          have hv : firstF t L m back = (0, false, 1) := by unfold firstF; rw [HP.out, if_neg (by simp), if_neg hlen, if_pos (.inr hm2)]
          have h2 := HV.out
          rw [hv] at h2
          cases h2
          exact bodyPost_ret (v := .tuple #[.int .i64 0, .bool false, .int .i64 1]) (by simp [results, Tryd.f12, go_sem]) rfl ⟨rfl, HB3.out⟩
        · have HIS := Aside0.mk (parse_ok.1 HP.out)
          have HWF := Aside0.mk HIS.out.wf
          have hv : firstF t L m back = scanF L x (placesF L.length m.toNat back) := by unfold firstF; rw [HP.out, if_neg (by simp), if_neg hlen, if_neg (by omega)]
          have h2 := HV.out
          rw [hv] at h2
          obtain ⟨i0, rfl⟩ : ∃ i0 : Nat, m = (i0 : Int) := ⟨m.toNat, by omega⟩
          rw [Int.toNat_natCast] at h2
          have hi0 : i0 < L.length := by omega
          clear hv HV hm hm2
          cases back with
          | false =>
            have HS := Aside0.mk (show scanF L x (List.range' i0 (L.length - i0)) = (r1, r2, r3) from h2)
            clear h2
            go_upto_block 0 with (fail)
            go_loopw [14] (fun v14 wr => ∃ i : Nat, v14 = .int .i64 (i : Int) ∧ i ≤ L.length ∧ Aside0 (scanF L x (List.range' i (L.length - i)) = (r1, r2, r3)) ∧ Aside0 (wr.heap[b6]? = some (.cells (cell5 (toS x) (.slice A1 (toS x).f3.length c1)).toArray 52 (0, 0))) ∧
              Aside0 (KX wr (.agg (cell5 (toS x) (.slice A1 (toS x).f3.length c1)).toArray) x) ∧ Aside0 (Kd.C kL wr A L.length L) ∧ Aside0 (Below W.heap.size W wr)) (fun v14 _ => L.length - (intOf v14).toNat)
            case atStart => exact ⟨i0, rfl, by omega, HS, hW3, KX3, HC3, HB3⟩
            case round =>
              clear HS hW3 KX3 HC3 HB3
              obtain ⟨i, rfl, hi, HS, HBX, HKX, HCR, HBR⟩ := hrel
              by_cases hil : i < L.length
              · have zz : (i : Int) < (L.length : Int) := by omega
                have hsc := HS.out
                rw [scan_range' L x i L.length hil] at hsc
                have hgl : L.getD i [] = L[i] := by simp [List.getD_eq_getElem?_getD, hil]
                obtain ⟨ad, A2, c2, rfl, ek0, hcl⟩ := atL HCR.out i hil
                rw [hgl] at hsc
                generalize L[i] = l at ek0 hcl hsc hgl
                clear hgl
                have ek : wr.drew.cell? (ad.add i) = some (.slice A2 l.length c2) := ek0
                have HCL := Aside0.mk hcl
                have HS2 := Aside0.mk hsc
                clear hcl hsc
                go_upto_region 15 with (fail)
                rcases hvl : valF l x with _ | u
                · refine wp_eff (S := fun w' => w'.heap[b6]? = some (.cells (cell5 (toS x) (.slice A1 (toS x).f3.length c1)).toArray 52 (0, 0)) ∧ w'.cell? (ad.add i) = some (.slice A2 l.length c2)) [(0, false), (1, false), (2, false), (3, false), (4, false), (5, true), (6, true), (7, false), (8, false), (9, false), (10, false), (11, false)] (by kernel_rfl) (by kernel_rfl) ⟨blk_drew HBX.out, ek⟩ (fun _ _ d _ _ h => by cases d <;> exact h) ?_
                  refine se_load (v := .agg (cell5 (toS x) (.slice A1 (toS x).f3.length c1)).toArray) rfl rfl rfl (fun w' hw => run_load52 hw.1 rfl) ?_
                  refine se_move rfl rfl rfl ?_
                  refine se_move rfl rfl rfl ?_
                  refine se_indexAddr (v := .pointer (some (ad.add i))) rfl rfl rfl rfl (fun w' hw => by go_simp) ?_
                  refine se_load (v := .slice A2 l.length c2) rfl rfl rfl (fun w' hw => by have h5 := hw.2; go_simp) ?_
                  refine se_call (vs := [.slice A2 l.length c2]) rfl rfl Tryd.func23 (by kernel_rfl) rfl (by kernel_rfl) ?_
                  refine (names_calls _ A2 c2 l (Kd.C_below HCL.out (below_drew1 (Below.refl _ _)))).mono ?_
                  rintro e W4 ⟨gb, rfl, hnm, hb4⟩
                  refine ⟨_, rfl, ⟨blk_below (blk_drew HBX.out) hb4, (hb4.cell (World.block_lt_of_cell? wr.drew _ ek)).trans ek⟩, ?_⟩
                  refine se_call (vs := [.agg (cell5 (toS x) (.slice A1 (toS x).f3.length c1)).toArray, fnV gb]) rfl rfl Tryd.func22 (by kernel_rfl) rfl (by kernel_rfl) ?_
                  refine (value_all x HWF.out W4 _ gb l (KX.below (KX.below HKX.out (below_drew1 (Below.refl _ _))) hb4) hnm).mono ?_
                  rintro e W5 ⟨rfl, hb5⟩
                  refine ⟨_, rfl, ⟨blk_below (blk_below (blk_drew HBX.out) hb4) hb5, (hb5.cell (World.block_lt_of_cell? W4 _ ((hb4.cell (World.block_lt_of_cell? wr.drew _ ek)).trans ek))).trans ((hb4.cell (World.block_lt_of_cell? wr.drew _ ek)).trans ek)⟩, ?_⟩
                  rw [hvl]
                  refine se_move rfl rfl rfl ?_
                  refine se_un (v := .int .i64 0) rfl rfl rfl rfl rfl (fun w' hw => by simp only [OutV]; go_simp) ?_
                  refine se_un (v := .bool false) rfl rfl rfl rfl rfl (fun w' hw => by simp only [OutV]; go_simp) ?_
                  refine se_assign rfl rfl rfl ?_
                  refine se_assign rfl rfl rfl ?_
                  intro _
                  have HBD := Aside0.mk (below_step (below_step (below_drew1 (Below.refl _ _)) hb4) hb5)
                  have HB5 := Aside0.mk (below_step HBR.out HBD.out)
                  have HBX5 := Aside0.mk (blk_below HBX.out HBD.out)
                  have HKX5 := Aside0.mk (KX.below HKX.out HBD.out)
                  have HC5 := Aside0.mk (Kd.C_below HCR.out HBD.out)
                  clear hnm hb4 hb5 ek HBD
                  simp only [puts, Act.put, List.setIfInBounds_toArray, List.set_cons_zero, List.set_cons_succ]
                  go_wp2
                  have h2 := HS2.out
                  rw [hvl] at h2
                  cases h2
                  exact bodyPost_ret (v := .tuple #[.int .i64 0, .bool false, .int .i64 5]) (by simp [results, Tryd.f12, go_sem]) rfl ⟨rfl, HB5.out⟩
                · refine wp_eff (S := fun w' => w'.heap[b6]? = some (.cells (cell5 (toS x) (.slice A1 (toS x).f3.length c1)).toArray 52 (0, 0)) ∧ w'.cell? (ad.add i) = some (.slice A2 l.length c2)) [(0, false), (1, false), (2, false), (3, false), (4, false), (5, true), (6, true), (7, false), (8, false), (9, false), (10, false), (11, false)] (by kernel_rfl) (by kernel_rfl) ⟨blk_drew HBX.out, ek⟩ (fun _ _ d _ _ h => by cases d <;> exact h) ?_
                  refine se_load (v := .agg (cell5 (toS x) (.slice A1 (toS x).f3.length c1)).toArray) rfl rfl rfl (fun w' hw => run_load52 hw.1 rfl) ?_
                  refine se_move rfl rfl rfl ?_
                  refine se_move rfl rfl rfl ?_
                  refine se_indexAddr (v := .pointer (some (ad.add i))) rfl rfl rfl rfl (fun w' hw => by go_simp) ?_
                  refine se_load (v := .slice A2 l.length c2) rfl rfl rfl (fun w' hw => by have h5 := hw.2; go_simp) ?_
                  refine se_call (vs := [.slice A2 l.length c2]) rfl rfl Tryd.func23 (by kernel_rfl) rfl (by kernel_rfl) ?_
                  refine (names_calls _ A2 c2 l (Kd.C_below HCL.out (below_drew1 (Below.refl _ _)))).mono ?_
                  rintro e W4 ⟨gb, rfl, hnm, hb4⟩
                  refine ⟨_, rfl, ⟨blk_below (blk_drew HBX.out) hb4, (hb4.cell (World.block_lt_of_cell? wr.drew _ ek)).trans ek⟩, ?_⟩
                  refine se_call (vs := [.agg (cell5 (toS x) (.slice A1 (toS x).f3.length c1)).toArray, fnV gb]) rfl rfl Tryd.func22 (by kernel_rfl) rfl (by kernel_rfl) ?_
                  refine (value_all x HWF.out W4 _ gb l (KX.below (KX.below HKX.out (below_drew1 (Below.refl _ _))) hb4) hnm).mono ?_
                  rintro e W5 ⟨rfl, hb5⟩
                  refine ⟨_, rfl, ⟨blk_below (blk_below (blk_drew HBX.out) hb4) hb5, (hb5.cell (World.block_lt_of_cell? W4 _ ((hb4.cell (World.block_lt_of_cell? wr.drew _ ek)).trans ek))).trans ((hb4.cell (World.block_lt_of_cell? wr.drew _ ek)).trans ek)⟩, ?_⟩
                  rw [hvl]
                  refine se_move rfl rfl rfl ?_
                  refine se_un (v := .int .i64 u) rfl rfl rfl rfl rfl (fun w' hw => by simp only [OutV]; go_simp) ?_
                  refine se_un (v := .bool true) rfl rfl rfl rfl rfl (fun w' hw => by simp only [OutV]; go_simp) ?_
                  refine se_assign rfl rfl rfl ?_
                  refine se_assign rfl rfl rfl ?_
                  intro _
                  have HBD := Aside0.mk (below_step (below_step (below_drew1 (Below.refl _ _)) hb4) hb5)
                  have HB5 := Aside0.mk (below_step HBR.out HBD.out)
                  have HBX5 := Aside0.mk (blk_below HBX.out HBD.out)
                  have HKX5 := Aside0.mk (KX.below HKX.out HBD.out)
                  have HC5 := Aside0.mk (Kd.C_below HCR.out HBD.out)
                  clear hnm hb4 hb5 ek HBD
                  simp only [puts, Act.put, List.setIfInBounds_toArray, List.set_cons_zero, List.set_cons_succ]
                  have h2 := HS2.out
                  rw [hvl] at h2
                  simp only at h2
                  by_cases hu : u = 0
                  · rw [if_pos hu] at h2
                    have d2 : (u != 0) = false := by rw [hu]; rfl
                    clear hvl
                    go_wp2
                    go_roundw
                    case rel => exact ⟨i + 1, by go_num, hil, ⟨h2⟩, HBX5, HKX5, HC5, HB5⟩
                    case measure => simp [intOf]; omega
                  · rw [if_neg hu] at h2
                    have d2 : (u != 0) = true := bne_iff_ne.2 hu
                    cases h2
                    clear hvl
                    go_wp2
                    exact bodyPost_ret (v := .tuple #[.int .i64 (i : Int), .bool true, .int .i64 0]) (by simp [results, Tryd.f12, go_sem]) rfl ⟨rfl, HB5.out⟩
              · obtain rfl : i = L.length := by omega
                have h2 := HS.out
                rw [Nat.sub_self] at h2
                cases h2
                go_wp2
                exact bodyPost_ret (v := .tuple #[.int .i64 0, .bool false, .int .i64 0]) (by simp [results, Tryd.f12, go_sem]) rfl ⟨rfl, HBR.out⟩
          | true =>
            have HS := Aside0.mk (show scanF L x (List.range ((i0 : Int) + 1).toNat).reverse = (r1, r2, r3) from by rw [show ((i0 : Int) + 1).toNat = i0 + 1 by omega]; exact h2)
            clear h2
            go_upto_block 0 with (fail)
            go_loopw [14] (fun v14 wr => ∃ j : Int, v14 = .int .i64 j ∧ -1 ≤ j ∧ j < (L.length : Int) ∧ Aside0 (scanF L x (List.range (j + 1).toNat).reverse = (r1, r2, r3)) ∧ Aside0 (wr.heap[b6]? = some (.cells (cell5 (toS x) (.slice A1 (toS x).f3.length c1)).toArray 52 (0, 0))) ∧
              Aside0 (KX wr (.agg (cell5 (toS x) (.slice A1 (toS x).f3.length c1)).toArray) x) ∧ Aside0 (Kd.C kL wr A L.length L) ∧ Aside0 (Below W.heap.size W wr)) (fun v14 _ => (intOf v14 + 1).toNat)
            case atStart => exact ⟨(i0 : Int), rfl, by omega, by omega, HS, hW3, KX3, HC3, HB3⟩
            case round =>
              clear HS hW3 KX3 HC3 HB3
              obtain ⟨j, rfl, hj, hjl, HS, HBX, HKX, HCR, HBR⟩ := hrel
              by_cases hj0 : 0 ≤ j
              · obtain ⟨i, rfl⟩ : ∃ i : Nat, j = (i : Int) := ⟨j.toNat, by omega⟩
                have hil : i < L.length := by omega
                have zz : (i : Int) < (L.length : Int) := by omega
                have hsc := HS.out
                rw [show ((i : Int) + 1).toNat = i + 1 by omega, scan_back L x i] at hsc
                have hgl : L.getD i [] = L[i] := by simp [List.getD_eq_getElem?_getD, hil]
                obtain ⟨ad, A2, c2, rfl, ek0, hcl⟩ := atL HCR.out i hil
                rw [hgl] at hsc
                generalize L[i] = l at ek0 hcl hsc hgl
                clear hgl
                have ek : wr.drew.cell? (ad.add i) = some (.slice A2 l.length c2) := ek0
                have HCL := Aside0.mk hcl
                have HS2 := Aside0.mk hsc
                clear hcl hsc
                go_upto_region 15 with (fail)
                rcases hvl : valF l x with _ | u
                · refine wp_eff (S := fun w' => w'.heap[b6]? = some (.cells (cell5 (toS x) (.slice A1 (toS x).f3.length c1)).toArray 52 (0, 0)) ∧ w'.cell? (ad.add i) = some (.slice A2 l.length c2)) [(0, false), (1, false), (2, false), (3, false), (4, false), (5, true), (6, true), (7, false), (8, false), (9, false), (10, false), (11, false)] (by kernel_rfl) (by kernel_rfl) ⟨blk_drew HBX.out, ek⟩ (fun _ _ d _ _ h => by cases d <;> exact h) ?_
                  refine se_load (v := .agg (cell5 (toS x) (.slice A1 (toS x).f3.length c1)).toArray) rfl rfl rfl (fun w' hw => run_load52 hw.1 rfl) ?_
                  refine se_move rfl rfl rfl ?_
                  refine se_move rfl rfl rfl ?_
                  refine se_indexAddr (v := .pointer (some (ad.add i))) rfl rfl rfl rfl (fun w' hw => by go_simp) ?_
                  refine se_load (v := .slice A2 l.length c2) rfl rfl rfl (fun w' hw => by have h5 := hw.2; go_simp) ?_
                  refine se_call (vs := [.slice A2 l.length c2]) rfl rfl Tryd.func23 (by kernel_rfl) rfl (by kernel_rfl) ?_
                  refine (names_calls _ A2 c2 l (Kd.C_below HCL.out (below_drew1 (Below.refl _ _)))).mono ?_
                  rintro e W4 ⟨gb, rfl, hnm, hb4⟩
                  refine ⟨_, rfl, ⟨blk_below (blk_drew HBX.out) hb4, (hb4.cell (World.block_lt_of_cell? wr.drew _ ek)).trans ek⟩, ?_⟩
                  refine se_call (vs := [.agg (cell5 (toS x) (.slice A1 (toS x).f3.length c1)).toArray, fnV gb]) rfl rfl Tryd.func22 (by kernel_rfl) rfl (by kernel_rfl) ?_
                  refine (value_all x HWF.out W4 _ gb l (KX.below (KX.below HKX.out (below_drew1 (Below.refl _ _))) hb4) hnm).mono ?_
                  rintro e W5 ⟨rfl, hb5⟩
                  refine ⟨_, rfl, ⟨blk_below (blk_below (blk_drew HBX.out) hb4) hb5, (hb5.cell (World.block_lt_of_cell? W4 _ ((hb4.cell (World.block_lt_of_cell? wr.drew _ ek)).trans ek))).trans ((hb4.cell (World.block_lt_of_cell? wr.drew _ ek)).trans ek)⟩, ?_⟩
                  rw [hvl]
                  refine se_move rfl rfl rfl ?_
                  refine se_un (v := .int .i64 0) rfl rfl rfl rfl rfl (fun w' hw => by simp only [OutV]; go_simp) ?_
                  refine se_un (v := .bool false) rfl rfl rfl rfl rfl (fun w' hw => by simp only [OutV]; go_simp) ?_
                  refine se_assign rfl rfl rfl ?_
                  refine se_assign rfl rfl rfl ?_
                  intro _
                  have HBD := Aside0.mk (below_step (below_step (below_drew1 (Below.refl _ _)) hb4) hb5)
                  have HB5 := Aside0.mk (below_step HBR.out HBD.out)
                  have HBX5 := Aside0.mk (blk_below HBX.out HBD.out)
                  have HKX5 := Aside0.mk (KX.below HKX.out HBD.out)
                  have HC5 := Aside0.mk (Kd.C_below HCR.out HBD.out)
                  clear hnm hb4 hb5 ek HBD
                  simp only [puts, Act.put, List.setIfInBounds_toArray, List.set_cons_zero, List.set_cons_succ]
                  go_wp2
                  have h2 := HS2.out
                  rw [hvl] at h2
                  cases h2
                  exact bodyPost_ret (v := .tuple #[.int .i64 0, .bool false, .int .i64 5]) (by simp [results, Tryd.f12, go_sem]) rfl ⟨rfl, HB5.out⟩
                · refine wp_eff (S := fun w' => w'.heap[b6]? = some (.cells (cell5 (toS x) (.slice A1 (toS x).f3.length c1)).toArray 52 (0, 0)) ∧ w'.cell? (ad.add i) = some (.slice A2 l.length c2)) [(0, false), (1, false), (2, false), (3, false), (4, false), (5, true), (6, true), (7, false), (8, false), (9, false), (10, false), (11, false)] (by kernel_rfl) (by kernel_rfl) ⟨blk_drew HBX.out, ek⟩ (fun _ _ d _ _ h => by cases d <;> exact h) ?_
                  refine se_load (v := .agg (cell5 (toS x) (.slice A1 (toS x).f3.length c1)).toArray) rfl rfl rfl (fun w' hw => run_load52 hw.1 rfl) ?_
                  refine se_move rfl rfl rfl ?_
                  refine se_move rfl rfl rfl ?_
                  refine se_indexAddr (v := .pointer (some (ad.add i))) rfl rfl rfl rfl (fun w' hw => by go_simp) ?_
                  refine se_load (v := .slice A2 l.length c2) rfl rfl rfl (fun w' hw => by have h5 := hw.2; go_simp) ?_
                  refine se_call (vs := [.slice A2 l.length c2]) rfl rfl Tryd.func23 (by kernel_rfl) rfl (by kernel_rfl) ?_
                  refine (names_calls _ A2 c2 l (Kd.C_below HCL.out (below_drew1 (Below.refl _ _)))).mono ?_
                  rintro e W4 ⟨gb, rfl, hnm, hb4⟩
                  refine ⟨_, rfl, ⟨blk_below (blk_drew HBX.out) hb4, (hb4.cell (World.block_lt_of_cell? wr.drew _ ek)).trans ek⟩, ?_⟩
                  refine se_call (vs := [.agg (cell5 (toS x) (.slice A1 (toS x).f3.length c1)).toArray, fnV gb]) rfl rfl Tryd.func22 (by kernel_rfl) rfl (by kernel_rfl) ?_
                  refine (value_all x HWF.out W4 _ gb l (KX.below (KX.below HKX.out (below_drew1 (Below.refl _ _))) hb4) hnm).mono ?_
                  rintro e W5 ⟨rfl, hb5⟩
                  refine ⟨_, rfl, ⟨blk_below (blk_below (blk_drew HBX.out) hb4) hb5, (hb5.cell (World.block_lt_of_cell? W4 _ ((hb4.cell (World.block_lt_of_cell? wr.drew _ ek)).trans ek))).trans ((hb4.cell (World.block_lt_of_cell? wr.drew _ ek)).trans ek)⟩, ?_⟩
                  rw [hvl]
                  refine se_move rfl rfl rfl ?_
                  refine se_un (v := .int .i64 u) rfl rfl rfl rfl rfl (fun w' hw => by simp only [OutV]; go_simp) ?_
                  refine se_un (v := .bool true) rfl rfl rfl rfl rfl (fun w' hw => by simp only [OutV]; go_simp) ?_
                  refine se_assign rfl rfl rfl ?_
                  refine se_assign rfl rfl rfl ?_
                  intro _
                  have HBD := Aside0.mk (below_step (below_step (below_drew1 (Below.refl _ _)) hb4) hb5)
                  have HB5 := Aside0.mk (below_step HBR.out HBD.out)
                  have HBX5 := Aside0.mk (blk_below HBX.out HBD.out)
                  have HKX5 := Aside0.mk (KX.below HKX.out HBD.out)
                  have HC5 := Aside0.mk (Kd.C_below HCR.out HBD.out)
                  clear hnm hb4 hb5 ek HBD
                  simp only [puts, Act.put, List.setIfInBounds_toArray, List.set_cons_zero, List.set_cons_succ]
                  have h2 := HS2.out
                  rw [hvl] at h2
                  simp only at h2
                  by_cases hu : u = 0
                  · rw [if_pos hu] at h2
                    have d2 : (u != 0) = false := by rw [hu]; rfl
                    clear hvl
                    go_wp2
                    go_roundw
                    case rel => exact ⟨(i : Int) - 1, by go_num, by omega, by omega, ⟨by rw [show ((i : Int) - 1 + 1).toNat = i by omega]; exact h2⟩, HBX5, HKX5, HC5, HB5⟩
                    case measure => simp [intOf]; omega
                  · rw [if_neg hu] at h2
                    have d2 : (u != 0) = true := bne_iff_ne.2 hu
                    cases h2
                    clear hvl
                    go_wp2
                    exact bodyPost_ret (v := .tuple #[.int .i64 (i : Int), .bool true, .int .i64 0]) (by simp [results, Tryd.f12, go_sem]) rfl ⟨rfl, HB5.out⟩
              · have h2 := HS.out
                rw [show (j + 1).toNat = 0 by omega] at h2
                cases h2
                go_wp2
                exact bodyPost_ret (v := .tuple #[.int .i64 0, .bool false, .int .i64 0]) (by simp [results, Tryd.f12, go_sem]) rfl ⟨rfl, HBR.out⟩
  · have d1 : (er != 0) = true := bne_iff_ne.2 he
    go_wp2
    have hv : firstF t L m back = (0, false, er) := by unfold firstF; rw [HP.out, if_pos he]
    have h2 := HV.out
    rw [hv] at h2
    cases h2
    exact bodyPost_ret (v := .tuple #[.int .i64 0, .bool false, .int .i64 er]) (by simp [results, Tryd.f12, go_sem]) rfl ⟨rfl, HB3.out⟩
end Go.Proofs.YtmageoieajhhdaaDoor.Bk
