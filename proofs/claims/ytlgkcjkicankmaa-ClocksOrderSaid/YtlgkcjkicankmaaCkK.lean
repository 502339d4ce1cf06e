/- ClocksOrder: its walk, and its row. -/
import Derived.Test.YtlgkcjkicankmaaCkJ
namespace Go.Proofs.Ytlgkcjkicankmaa.Ck
open Go Go.RowKit Go.Maps Go.Proofs.YtlgkcjkicankmaaW Go.Proofs.YtlgkcjkicankmaaW.PrintWords Go.Proofs.YtlgkcjkicankmaaW.PrintLast Go.Proofs.YtlgkcjkicankmaaW.PrintMore Go.Proofs.Ytlgkcjkicankmaa.PLockupEither Go.Proofs.Ytlgkcjkicankmaa.Bs Go.Proofs.Ytlgkcjkicankmaa.RegionVal Go.Proofs.Ytlgkcjkicankmaa.Lk
open Go.Lib hiding intOf
set_option linter.unusedVariables false
set_option linter.unusedSimpArgs false
/-- AHEAD IS AN ORDER -/
theorem bef_lt {l : List CE} {th : Nat} {E : List S32} (hE : IsE l E) (ht : ∀ x ∈ l, 0 ≤ x.t ∧ x.t < (th : Int)) {i j : Nat} (hi : i < l.length) (hj : j < l.length) (h : bef l th E i j = true) : i < j := by
  obtain ⟨h1, h2⟩ := bef_true.1 h
  have := (clk_of l th E hE ht).fwd hi hj h2
  omega
theorem bef_trans {l : List CE} {th : Nat} {E : List S32} (hE : IsE l E) (ht : ∀ x ∈ l, 0 ≤ x.t ∧ x.t < (th : Int)) {i j k : Nat} (hi : i < l.length) (hj : j < l.length) (hk : k < l.length) (h : bef l th E i j = true) (h' : bef l th E j k = true) : bef l th E i k = true := by
  have k1 := bef_lt hE ht hi hj h
  have k2 := bef_lt hE ht hj hk h'
  exact bef_true.2 ⟨by omega, (clk_of l th E hE ht).trans hi hj hk (bef_true.1 h).2 (bef_true.1 h').2⟩
set_option maxHeartbeats 16000000 in
set_option maxRecDepth 100000 in
theorem clocksOrder_walk (w : World) (A : Option Addr) (c : Nat) (l0 : List CE) (hr : Kd.C kC w A l0.length l0) (hc : l0.length ≤ c) (T i j k : Int) :
    Calls Try.prog 7 #[.slice A l0.length c, .int .i64 T, .int .i64 i, .int .i64 j, .int .i64 k] w fun e w' => e = .returned (.bool true) ∧ Below w.heap.size w w' := by
  have HR := Aside0.mk hr
  clear hr
  go_enter Try.func7, Try.ntmps7
  go_wp2_with fail
  refine (cbegun_calls w).mono ?_
  rintro e w1 ⟨rfl, hb1⟩
  have HB1 := Aside0.mk hb1
  have HR1 := Aside0.mk (Kd.C_below HR.out hb1)
  clear hb1 HR
  go_wp2_with fail
  refine (soon_calls w1 A c l0 HR1.out hc).mono ?_
  rintro e w2 ⟨l, rfl, hlc, hl60, hr2, hb2⟩
  have HB2 := Aside0.mk (below_then HB1.out HB1.out.size hb2)
  have HR2 := Aside0.mk hr2
  clear hb2 hr2 HR1 HB1 hc
  go_wp2_with fail
  refine (Before_calls w2 A c l T i j HR2.out hlc).mono ?_
  rintro e w3 ⟨a, rfl, _, haE, hb3⟩
  have HB3 := Aside0.mk (below_then HB2.out HB2.out.size hb3)
  have HR3 := Aside0.mk (Kd.C_below HR2.out hb3)
  have HAE := Aside0.mk haE
  clear hb3 HR2 HB2 haE
  go_wp2_with fail
  refine (Before_calls w3 A c l T j k HR3.out hlc).mono ?_
  rintro e w4 ⟨b, rfl, _, hbE, hb4⟩
  have HB4 := Aside0.mk (below_then HB3.out HB3.out.size hb4)
  have HR4 := Aside0.mk (Kd.C_below HR3.out hb4)
  have HBE := Aside0.mk hbE
  clear hb4 HR3 HB3 hbE
  go_wp2_with fail
  refine (Before_calls w4 A c l T i k HR4.out hlc).mono ?_
  rintro e w5 ⟨d, rfl, _, hdE, hb5⟩
  have HB5 := Aside0.mk (below_then HB4.out HB4.out.size hb5)
  have HR5 := Aside0.mk (Kd.C_below HR4.out hb5)
  have HDE := Aside0.mk hdE
  clear hb5 HR4 HB4 hdE
  go_wp2_with fail
  refine (Before_calls w5 A c l T j i HR5.out hlc).mono ?_
  rintro e w6 ⟨f, rfl, _, hfE, hb6⟩
  have HB6 := Aside0.mk (below_then HB5.out HB5.out.size hb6)
  have HR6 := Aside0.mk (Kd.C_below HR5.out hb6)
  have HFE := Aside0.mk hfE
  clear hb6 HR5 HB5 hfE
  by_cases hq : pairF l T i j = 0 ∧ pairF l T j k = 0
  · obtain ⟨hqa, hqb⟩ := hq
    obtain ⟨hck, hi0, hi1, hj0, hj1⟩ := pair_ok hqa
    obtain ⟨_, _, _, hk0, hk1⟩ := pair_ok hqb
    have hqd : pairF l T i k = 0 := pair_of hck ⟨hi0, hi1⟩ ⟨hk0, hk1⟩
    have hqf : pairF l T j i = 0 := pair_of hck ⟨hj0, hj1⟩ ⟨hi0, hi1⟩
    obtain ⟨hl, th, hT, hth, ht⟩ := chk_ok hck
    obtain ⟨i', hi'⟩ : ∃ i' : Nat, i = (i' : Int) := ⟨i.toNat, by omega⟩
    obtain ⟨j', hj'⟩ : ∃ j' : Nat, j = (j' : Int) := ⟨j.toNat, by omega⟩
    obtain ⟨k', hk'⟩ : ∃ k' : Nat, k = (k' : Int) := ⟨k.toNat, by omega⟩
    subst hT hi' hj' hk'
    have hi2 : i' < l.length := by omega
    have hj2 : j' < l.length := by omega
    have hk2 : k' < l.length := by omega
    obtain ⟨E, hE, ha⟩ := HAE.out hqa
    obtain ⟨E1, hE1, hb⟩ := HBE.out hqb
    obtain rfl := hE1.uniq hE
    obtain ⟨E2, hE2, hd⟩ := HDE.out hqd
    obtain rfl := hE2.uniq hE
    obtain ⟨E3, hE3, hf⟩ := HFE.out hqf
    obtain rfl := hE3.uniq hE
    have ha' : a = bef l th E3 i' j' := ha
    have hb' : b = bef l th E3 j' k' := hb
    have hd' : d = bef l th E3 i' k' := hd
    have hf' : f = bef l th E3 j' i' := hf
    have HAP := Aside0.mk (Apart_calls w6 A c l (th : Int) (i' : Int) (j' : Int) HR6.out hlc)
    have F1 : a = true → i' < j' := fun h => bef_lt hE ht hi2 hj2 (by rw [← ha']; exact h)
    have F2 : f = true → j' < i' := fun h => bef_lt hE ht hj2 hi2 (by rw [← hf']; exact h)
    have F3 : a = true → b = true → d = true := fun h1 h2 => by
      rw [hd']
      exact bef_trans hE ht hi2 hj2 hk2 (by rw [← ha']; exact h1) (by rw [← hb']; exact h2)
    have HE := Aside0.mk hE
    have HAV := Aside0.mk ha'
    have HFV := Aside0.mk hf'
    rw [hqa, hqb, hqd, hqf]
    rw [hqa] at HAP
    clear hqa hqb hqd hqf hck hi0 hi1 hj0 hj1 hk0 hk1 ht ha hb hd hf ha' hb' hd' hf' hE hE1 hE2 hE3 HAE HBE HDE HFE
    go_wp2_with fail
    refine HAP.out.mono ?_
    rintro e w7 ⟨x, rfl, hx, hb7⟩
    obtain ⟨E4, hE4, hxv⟩ := hx trivial
    obtain rfl := hE4.uniq HE.out
    have hxv' : x = (decide (i' ≠ j') && !a && !f) := by rw [HAV.out, HFV.out]; exact hxv
    have HB7 := Aside0.mk (below_then HB6.out HB6.out.size hb7)
    clear hx hE4 hxv hb7 HAP HE HAV HFV HR6 HB6
    go_wp2_with fail
    refine (cbegun_calls _).mono ?_
    rintro e w8 ⟨rfl, hb8⟩
    have HB8 := Aside0.mk (below_then HB7.out HB7.out.size hb8)
    clear hb8 HB7
    cases a with
    | true =>
      have hij := F1 rfl
      have hf0 : f = false := by
        cases f with
        | false => rfl
        | true => have := F2 rfl; omega
      subst hf0
      have hij1 : (i' : Int) < (j' : Int) := by omega
      have hx0 : x = false := by rw [hxv']; simp
      subst hx0
      have hne : ((i' : Int) != (j' : Int)) = true := bne_iff_ne.2 (by omega)
      cases b with
      | true =>
        obtain rfl := F3 rfl rfl
        clear F1 F2 F3 hxv' hij
        go_wp2
        exact bodyPost_ret (v := .bool true) (by simp [results, Try.f7, go_sem]) rfl ⟨rfl, HB8.out⟩
      | false =>
        clear F1 F2 F3 hxv' hij
        go_wp2
        exact bodyPost_ret (v := .bool true) (by simp [results, Try.f7, go_sem]) rfl ⟨rfl, HB8.out⟩
    | false =>
      by_cases hij : i' = j'
      · have hne : ((i' : Int) != (j' : Int)) = false := by rw [hij]; simp
        have hx0 : x = false := by rw [hxv', decide_eq_false (fun h => h hij)]; rfl
        subst hx0
        clear F1 F2 F3 hxv'
        go_wp2
        exact bodyPost_ret (v := .bool true) (by simp [results, Try.f7, go_sem]) rfl ⟨rfl, HB8.out⟩
      · have hne : ((i' : Int) != (j' : Int)) = true := bne_iff_ne.2 (by omega)
        have hx0 : x = !f := by rw [hxv', decide_eq_true (show i' ≠ j' from hij)]; rfl
        subst hx0
        clear F1 F2 F3 hxv'
        cases f with
        | true =>
          go_wp2
          exact bodyPost_ret (v := .bool true) (by simp [results, Try.f7, go_sem]) rfl ⟨rfl, HB8.out⟩
        | false =>
          go_wp2
          exact bodyPost_ret (v := .bool true) (by simp [results, Try.f7, go_sem]) rfl ⟨rfl, HB8.out⟩
  · clear HAE HBE HDE HFE
    by_cases hqa : pairF l T i j = 0
    · have hqb : pairF l T j k ≠ 0 := fun h => hq ⟨hqa, h⟩
      rw [hqa]
      generalize pairF l T j k = q at hqb ⊢
      have d1 : (q != 0) = true := bne_iff_ne.2 hqb
      generalize pairF l T i k = q3
      generalize pairF l T j i = q4
      clear hq hqa hqb
      go_wp2_with fail
      refine (cbegun_calls _).mono ?_
      rintro e w8 ⟨rfl, hb8⟩
      have HB8 := Aside0.mk (below_then HB6.out HB6.out.size hb8)
      clear hb8
      go_wp2
      exact bodyPost_ret (v := .bool true) (by simp [results, Try.f7, go_sem]) rfl ⟨rfl, HB8.out⟩
    · generalize pairF l T i j = q at hqa ⊢
      have d1 : (q != 0) = true := bne_iff_ne.2 hqa
      generalize pairF l T j k = q2
      generalize pairF l T i k = q3
      generalize pairF l T j i = q4
      clear hq hqa
      go_wp2_with fail
      refine (cbegun_calls _).mono ?_
      rintro e w8 ⟨rfl, hb8⟩
      have HB8 := Aside0.mk (below_then HB6.out HB6.out.size hb8)
      clear hb8
      go_wp2
      exact bodyPost_ret (v := .bool true) (by simp [results, Try.f7, go_sem]) rfl ⟨rfl, HB8.out⟩
theorem clocksOrder_row (w : World) (A : Option Addr) (c : Nat) (l : List CE) (lc : l.length ≤ c) (h : Kd.C kC w A l.length l) (_b : True) (T : Int) (_wT : (Lit.int .i64 T).wf = true) (i : Int) (_wi : (Lit.int .i64 i).wf = true) (j : Int) (_wj : (Lit.int .i64 j).wf = true) (k : Int) (_wk : (Lit.int .i64 k).wf = true) :
    Calls Try.prog 7 #[.slice A l.length c, .int .i64 T, .int .i64 i, .int .i64 j, .int .i64 k] w fun e w' => e = .returned (.bool true) ∧ Below w.heap.size w w' :=
  clocksOrder_walk w A c l h lc T i j k
end Go.Proofs.Ytlgkcjkicankmaa.Ck
