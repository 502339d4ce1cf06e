/- BrkLogic: the call answers true, whatever comes in. -/
import Derived.Test.YtmageoieajhhdaaDoorBkS
import Derived.Test.YtmageoieajhhdaaDoorBkT
namespace Go.Proofs.YtmageoieajhhdaaDoor.Bk
open Go Go.RowKit Go.Proofs.YtmageoieajhhdaaDoorW.PrintWords Go.Proofs.YtmageoieajhhdaaDoorW.PrintLast Go.Proofs.YtmageoieajhhdaaDoorW.PrintMore Go.Proofs.YtmageoieajhhdaaDoor.PBrkWritten Go.Proofs.YtmageoieajhhdaaDoor.RegionVal
open Go.Lib hiding intOf
set_option linter.unusedVariables false
set_option linter.unusedSimpArgs false
theorem eq_and (a b : Bs) : (⟨#[33, 40, 40]⟩ : ByteArray) ++ bs a ++ ⟨#[41, 38, 40]⟩ ++ bs b ++ ⟨#[41, 41]⟩ = bs (sAnd a b) := by
  rw [show (⟨#[33, 40, 40]⟩ : ByteArray) = bs [33, 40, 40] from rfl, show (⟨#[41, 38, 40]⟩ : ByteArray) = bs [41, 38, 40] from rfl, show (⟨#[41, 41]⟩ : ByteArray) = bs [41, 41] from rfl, bs_app, bs_app, bs_app, bs_app]
  rfl
theorem eq_or (a b : Bs) : (⟨#[33, 40]⟩ : ByteArray) ++ bs a ++ ⟨#[41, 124, 33, 40]⟩ ++ bs b ++ ⟨#[41]⟩ = bs (sOr a b) := by
  rw [show (⟨#[33, 40]⟩ : ByteArray) = bs [33, 40] from rfl, show (⟨#[41, 124, 33, 40]⟩ : ByteArray) = bs [41, 124, 33, 40] from rfl, show (⟨#[41]⟩ : ByteArray) = bs [41] from rfl, bs_app, bs_app, bs_app, bs_app]
  rfl
theorem eq_less (a b : Bs) : (⟨#[40]⟩ : ByteArray) ++ bs a ++ ⟨#[41, 60, 40]⟩ ++ bs b ++ ⟨#[41]⟩ = bs (sLess a b) := by
  rw [show (⟨#[40]⟩ : ByteArray) = bs [40] from rfl, show (⟨#[41, 60, 40]⟩ : ByteArray) = bs [41, 60, 40] from rfl, show (⟨#[41]⟩ : ByteArray) = bs [41] from rfl, bs_app, bs_app, bs_app, bs_app]
  rfl
theorem eq_sum (a b : Bs) : (⟨#[40]⟩ : ByteArray) ++ bs a ++ ⟨#[41, 43, 40]⟩ ++ bs b ++ ⟨#[41, 45, 40]⟩ ++ bs b ++ ⟨#[41, 45, 40]⟩ ++ bs a ++ ⟨#[41]⟩ = bs (sSum a b) := by
  rw [show (⟨#[40]⟩ : ByteArray) = bs [40] from rfl, show (⟨#[41, 43, 40]⟩ : ByteArray) = bs [41, 43, 40] from rfl, show (⟨#[41, 45, 40]⟩ : ByteArray) = bs [41, 45, 40] from rfl, show (⟨#[41]⟩ : ByteArray) = bs [41] from rfl, bs_app, bs_app, bs_app, bs_app, bs_app, bs_app, bs_app, bs_app]
  rfl
set_option maxHeartbeats 8000000 in
set_option maxRecDepth 100000 in
theorem brkLogic_walk (W : World) (a b : Bs) (l : Vs) (A : Option Addr) (c : Nat) (h : Kd.C kV W A l.length l) (hT : Tab W) (ha : a.length ≤ 140737488351232) (hb : b.length ≤ 140737488351232) :
    Calls Tryd.prog 5 #[.string (bs a), .string (bs b), .slice A l.length c] W fun e W' => e = .returned (.bool true) ∧ Below W.heap.size W W' := by
  have HC := Aside0.mk h
  have HT := Aside0.mk hT
  clear h hT
  obtain ⟨x, e1, h1⟩ : ∃ x e1, valueF (sAnd a b) l = (x, e1) := ⟨_, _, rfl⟩
  have H1 := Aside0.mk h1
  obtain ⟨y, e2, h2⟩ : ∃ y e2, valueF (sOr a b) l = (y, e2) := ⟨_, _, rfl⟩
  have H2 := Aside0.mk h2
  obtain ⟨p, e3, h3⟩ : ∃ p e3, valueF (sLess a b) l = (p, e3) := ⟨_, _, rfl⟩
  have H3 := Aside0.mk h3
  obtain ⟨q, e4, h4⟩ : ∃ q e4, valueF (sLess b a) l = (q, e4) := ⟨_, _, rfl⟩
  have H4 := Aside0.mk h4
  obtain ⟨z, e5, h5⟩ : ∃ z e5, valueF (sSum a b) l = (z, e5) := ⟨_, _, rfl⟩
  have H5 := Aside0.mk h5
  clear h1 h2 h3 h4 h5
  obtain ⟨n1, hn1⟩ : ∃ n, (parseF a).2 = n := ⟨_, rfl⟩
  obtain ⟨n2, hn2⟩ : ∃ n, (parseF b).2 = n := ⟨_, rfl⟩
  have N1 := Aside0.mk hn1
  have N2 := Aside0.mk hn2
  clear hn1 hn2
  go_enter Tryd.func5, Tryd.ntmps5
  go_upto_region 3 with (first
    | (go_at_call 9; refine (bbegun_calls _ HT.out).mono ?_; rintro e W0 ⟨rfl, hb0⟩; have HB0 := Aside0.mk hb0; clear hb0)
    | fail)
  go_upto_region 4 with (first
    | (go_at_call 11; rw [eq_and a b]; refine (Value_calls (sAnd a b) l _ A c (Kd.C_below HC.out HB0.out)).mono ?_; rintro e W1 ⟨rfl, hb1'⟩; rw [H1.out]; have HB1 := Aside0.mk (below_step HB0.out hb1'); clear hb1')
    | fail)
  go_upto_region 5 with (first
    | (go_at_call 11; rw [eq_or a b]; refine (Value_calls (sOr a b) l _ A c (Kd.C_below HC.out HB1.out)).mono ?_; rintro e W2 ⟨rfl, hb2'⟩; rw [H2.out]; have HB2 := Aside0.mk (below_step HB1.out hb2'); clear hb2')
    | fail)
  go_upto_region 6 with (first
    | (go_at_call 11; rw [eq_less a b]; refine (Value_calls (sLess a b) l _ A c (Kd.C_below HC.out HB2.out)).mono ?_; rintro e W3 ⟨rfl, hb3'⟩; rw [H3.out]; have HB3 := Aside0.mk (below_step HB2.out hb3'); clear hb3')
    | fail)
  go_upto_region 7 with (first
    | (go_at_call 11; rw [eq_less b a]; refine (Value_calls (sLess b a) l _ A c (Kd.C_below HC.out HB3.out)).mono ?_; rintro e W4 ⟨rfl, hb4'⟩; rw [H4.out]; have HB4 := Aside0.mk (below_step HB3.out hb4'); clear hb4')
    | fail)
  go_upto_region 8 with (first
    | (go_at_call 11; rw [eq_sum a b]; refine (Value_calls (sSum a b) l _ A c (Kd.C_below HC.out HB4.out)).mono ?_; rintro e W5 ⟨rfl, hb5'⟩; rw [H5.out]; have HB5 := Aside0.mk (below_step HB4.out hb5'); clear hb5')
    | fail)
  by_cases z0 : n1 = 0
  case neg =>
    have q0 : (n1 == (0 : Int)) = false := by simpa using z0
    go_wp2_with (fail)
    go_at_call 13
    refine (Check_calls a _).mono ?_
    rintro e W6 ⟨rfl, hb6⟩
    rw [N1.out]
    have HB6 := Aside0.mk (below_step HB5.out hb6)
    clear hb6
    go_wp2_with (fail)
    go_at_call 9
    refine (bbegun_calls _ (Tab.below HT.out HB6.out)).mono ?_
    rintro e W8 ⟨rfl, hb8⟩
    have HB8 := Aside0.mk (below_step HB6.out hb8)
    clear hb8
    go_wp2_with (fail)
    exact bodyPost_ret (v := .bool true) (by simp [results, Tryd.f5, go_sem]) rfl ⟨rfl, HB8.out⟩
  subst z0
  by_cases z1 : n2 = 0
  case neg =>
    have q1 : (n2 == (0 : Int)) = false := by simpa using z1
    go_wp2_with (fail)
    go_at_call 13
    refine (Check_calls a _).mono ?_
    rintro e W6 ⟨rfl, hb6⟩
    rw [N1.out]
    have HB6 := Aside0.mk (below_step HB5.out hb6)
    clear hb6
    go_wp2_with (fail)
    go_at_call 13
    refine (Check_calls b _).mono ?_
    rintro e W7 ⟨rfl, hb7⟩
    rw [N2.out]
    have HB7 := Aside0.mk (below_step HB6.out hb7)
    clear hb7
    go_wp2_with (fail)
    go_at_call 9
    refine (bbegun_calls _ (Tab.below HT.out HB7.out)).mono ?_
    rintro e W8 ⟨rfl, hb8⟩
    have HB8 := Aside0.mk (below_step HB7.out hb8)
    clear hb8
    go_wp2_with (fail)
    exact bodyPost_ret (v := .bool true) (by simp [results, Tryd.f5, go_sem]) rfl ⟨rfl, HB8.out⟩
  subst z1
  by_cases z2 : e1 = 0
  case neg =>
    have q2 : (e1 == (0 : Int)) = false := by simpa using z2
    go_wp2_with (fail)
    go_at_call 13
    refine (Check_calls a _).mono ?_
    rintro e W6 ⟨rfl, hb6⟩
    rw [N1.out]
    have HB6 := Aside0.mk (below_step HB5.out hb6)
    clear hb6
    go_wp2_with (fail)
    go_at_call 13
    refine (Check_calls b _).mono ?_
    rintro e W7 ⟨rfl, hb7⟩
    rw [N2.out]
    have HB7 := Aside0.mk (below_step HB6.out hb7)
    clear hb7
    go_wp2_with (fail)
    go_at_call 9
    refine (bbegun_calls _ (Tab.below HT.out HB7.out)).mono ?_
    rintro e W8 ⟨rfl, hb8⟩
    have HB8 := Aside0.mk (below_step HB7.out hb8)
    clear hb8
    go_wp2_with (fail)
    exact bodyPost_ret (v := .bool true) (by simp [results, Tryd.f5, go_sem]) rfl ⟨rfl, HB8.out⟩
  subst z2
  by_cases z3 : e2 = 0
  case neg =>
    have q3 : (e2 == (0 : Int)) = false := by simpa using z3
    go_wp2_with (fail)
    go_at_call 13
    refine (Check_calls a _).mono ?_
    rintro e W6 ⟨rfl, hb6⟩
    rw [N1.out]
    have HB6 := Aside0.mk (below_step HB5.out hb6)
    clear hb6
    go_wp2_with (fail)
    go_at_call 13
    refine (Check_calls b _).mono ?_
    rintro e W7 ⟨rfl, hb7⟩
    rw [N2.out]
    have HB7 := Aside0.mk (below_step HB6.out hb7)
    clear hb7
    go_wp2_with (fail)
    go_at_call 9
    refine (bbegun_calls _ (Tab.below HT.out HB7.out)).mono ?_
    rintro e W8 ⟨rfl, hb8⟩
    have HB8 := Aside0.mk (below_step HB7.out hb8)
    clear hb8
    go_wp2_with (fail)
    exact bodyPost_ret (v := .bool true) (by simp [results, Tryd.f5, go_sem]) rfl ⟨rfl, HB8.out⟩
  subst z3
  by_cases z4 : e3 = 0
  case neg =>
    have q4 : (e3 == (0 : Int)) = false := by simpa using z4
    go_wp2_with (fail)
    go_at_call 13
    refine (Check_calls a _).mono ?_
    rintro e W6 ⟨rfl, hb6⟩
    rw [N1.out]
    have HB6 := Aside0.mk (below_step HB5.out hb6)
    clear hb6
    go_wp2_with (fail)
    go_at_call 13
    refine (Check_calls b _).mono ?_
    rintro e W7 ⟨rfl, hb7⟩
    rw [N2.out]
    have HB7 := Aside0.mk (below_step HB6.out hb7)
    clear hb7
    go_wp2_with (fail)
    go_at_call 9
    refine (bbegun_calls _ (Tab.below HT.out HB7.out)).mono ?_
    rintro e W8 ⟨rfl, hb8⟩
    have HB8 := Aside0.mk (below_step HB7.out hb8)
    clear hb8
    go_wp2_with (fail)
    exact bodyPost_ret (v := .bool true) (by simp [results, Tryd.f5, go_sem]) rfl ⟨rfl, HB8.out⟩
  subst z4
  by_cases z5 : e4 = 0
  case neg =>
    have q5 : (e4 == (0 : Int)) = false := by simpa using z5
    go_wp2_with (fail)
    go_at_call 13
    refine (Check_calls a _).mono ?_
    rintro e W6 ⟨rfl, hb6⟩
    rw [N1.out]
    have HB6 := Aside0.mk (below_step HB5.out hb6)
    clear hb6
    go_wp2_with (fail)
    go_at_call 13
    refine (Check_calls b _).mono ?_
    rintro e W7 ⟨rfl, hb7⟩
    rw [N2.out]
    have HB7 := Aside0.mk (below_step HB6.out hb7)
    clear hb7
    go_wp2_with (fail)
    go_at_call 9
    refine (bbegun_calls _ (Tab.below HT.out HB7.out)).mono ?_
    rintro e W8 ⟨rfl, hb8⟩
    have HB8 := Aside0.mk (below_step HB7.out hb8)
    clear hb8
    go_wp2_with (fail)
    exact bodyPost_ret (v := .bool true) (by simp [results, Tryd.f5, go_sem]) rfl ⟨rfl, HB8.out⟩
  subst z5
  by_cases z6 : e5 = 0
  case neg =>
    have q6 : (e5 == (0 : Int)) = false := by simpa using z6
    go_wp2_with (fail)
    go_at_call 13
    refine (Check_calls a _).mono ?_
    rintro e W6 ⟨rfl, hb6⟩
    rw [N1.out]
    have HB6 := Aside0.mk (below_step HB5.out hb6)
    clear hb6
    go_wp2_with (fail)
    go_at_call 13
    refine (Check_calls b _).mono ?_
    rintro e W7 ⟨rfl, hb7⟩
    rw [N2.out]
    have HB7 := Aside0.mk (below_step HB6.out hb7)
    clear hb7
    go_wp2_with (fail)
    go_at_call 9
    refine (bbegun_calls _ (Tab.below HT.out HB7.out)).mono ?_
    rintro e W8 ⟨rfl, hb8⟩
    have HB8 := Aside0.mk (below_step HB7.out hb8)
    clear hb8
    go_wp2_with (fail)
    exact bodyPost_ret (v := .bool true) (by simp [results, Tryd.f5, go_sem]) rfl ⟨rfl, HB8.out⟩
  subst z6
  have hl := logic_law N1.out N2.out H1.out H2.out H3.out H4.out H5.out
  obtain ⟨rfl, hpq, rfl⟩ := hl
  clear H1 H2 H3 H4 H5
  go_wp2_with (fail)
  go_at_call 13
  refine (Check_calls a _).mono ?_
  rintro e W6 ⟨rfl, hb6⟩
  rw [N1.out]
  have HB6 := Aside0.mk (below_step HB5.out hb6)
  clear hb6
  go_wp2_with (fail)
  go_at_call 13
  refine (Check_calls b _).mono ?_
  rintro e W7 ⟨rfl, hb7⟩
  rw [N2.out]
  have HB7 := Aside0.mk (below_step HB6.out hb7)
  clear hb7
  go_wp2_with (fail)
  go_at_call 9
  refine (bbegun_calls _ (Tab.below HT.out HB7.out)).mono ?_
  rintro e W8 ⟨rfl, hb8⟩
  have HB8 := Aside0.mk (below_step HB7.out hb8)
  clear hb8
  go_wp2_with (fail)
  exact bodyPost_ret (v := .bool true) (by simp [results, Tryd.f5, go_sem, hpq]) rfl ⟨rfl, HB8.out⟩
end Go.Proofs.YtmageoieajhhdaaDoor.Bk
