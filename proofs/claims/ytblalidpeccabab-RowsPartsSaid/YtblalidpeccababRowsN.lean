/- rowsBegun: its walk. -/
import Derived.Test.YtblalidpeccababRowsL
import Derived.Test.YtblalidpeccababRowsM
import Derived.Test.YtblalidpeccababSame
namespace Go.Proofs.Ytblalidpeccabab.Rw
open Go Go.RowKit Go.Lib Go.Proofs.YtblalidpeccababW.PrintWords Go.Proofs.YtblalidpeccababW.PrintLast Go.Proofs.YtblalidpeccababW.PrintMore Go.Proofs.Ytblalidpeccabab.PRowsThree Go.Proofs.Ytblalidpeccabab.Bs Go.Proofs.Ytblalidpeccabab.RegionVal
set_option linter.unusedVariables false
set_option linter.unusedSimpArgs false

/-- events that lie one behind the other at the head of a block -/
theorem C_two53 {W : World} {g : Nat} {cs : Array Value} {t : TypeId} (hb : W.heap[g]? = some (.cells cs t (0, 0))) (x y : S53) (hs : cs.toList = c53 x ++ c53 y) : Kd.C k53 W (some ⟨g, 0, none⟩) [x, y].length [x, y] := by
  refine ⟨rfl, by simp, fun _ => ⟨_, rfl, fun j p hj => ?_⟩⟩
  match j, hj with
  | 0, hj =>
    obtain rfl := Option.some.inj hj
    refine ⟨c53 x, rfl, k53_mk _ _, fun i u hu => ?_⟩
    have hi : i < 12 := (List.getElem?_eq_some_iff.1 hu).1
    rw [Addr.add_mid, blk_cell hb, ← Array.getElem?_toList, hs]
    show (c53 x ++ c53 y)[0 + (0 * 12 + i)]? = _
    rw [Nat.zero_mul, Nat.zero_add, Nat.zero_add, List.getElem?_append_left hi]
    exact hu
  | 1, hj =>
    obtain rfl := Option.some.inj hj
    refine ⟨c53 y, rfl, k53_mk _ _, fun i u hu => ?_⟩
    have hi : i < 12 := (List.getElem?_eq_some_iff.1 hu).1
    rw [Addr.add_mid, blk_cell hb, ← Array.getElem?_toList, hs]
    show (c53 x ++ c53 y)[0 + (1 * 12 + i)]? = _
    rw [Nat.one_mul, Nat.zero_add, List.getElem?_append_right (show 12 ≤ 12 + i by omega), show 12 + i - (c53 x).length = i from Nat.add_sub_cancel_left ..]
    exact hu
def ev (k s t : Int) : S53 := { z53 with f0 := k, f1 := s, f2 := t }
def La : List S53 := [ev 9 1 0, ev 1 3 1]
def Lb : List S53 := [ev 5 1 0, ev 5 2 0]
def Lm : List S53 := [ev 9 1 0, ev 5 1 0, ev 5 2 0, ev 1 3 1]
theorem srt_La : Srt ky La := by unfold Srt La; simp [ky, ev]
theorem srt_Lb : Srt ky Lb := by unfold Srt Lb; simp [ky, ev]
theorem mrg_LaLb : mrg ky La Lb = Lm := by
  unfold La Lb Lm
  simp [mrg_cons, mrg_nil_left, mrg_nil_right, ky, ev]
theorem thr_La : rows_Threads.f 10 La 2 = some ([[0], [1]], 0) := by kernel_rfl
theorem plc_of : plc (fun x => decide (x.f0 = 1)) La La.length = [1] := by decide
theorem plc_bt : plc (fun x => decide (0 ≤ x.f1) && decide (x.f1 < 3)) La La.length = [0] := by decide
theorem placed_of {r : Int} {x : List Int} (h : Placed (fun x => decide (x.f0 = 1)) La r x) : r = 0 ∧ x = [1] := by
  rcases h with ⟨_, _, h⟩ | ⟨h1, _, h2⟩
  · exact absurd h (by decide)
  · exact ⟨h1, h2.trans plc_of⟩
theorem placed_bt {r : Int} {x : List Int} (h : Placed (fun x => decide (0 ≤ x.f1) && decide (x.f1 < 3)) La r x) : r = 0 ∧ x = [0] := by
  rcases h with ⟨_, _, h⟩ | ⟨h1, _, h2⟩
  · exact absurd h (by decide)
  · exact ⟨h1, h2.trans plc_bt⟩
theorem merged_ab {r : Int} {x : List S53} (h : Merged La Lb r x) : r = 0 ∧ x = Lm := by
  rcases h with ⟨_, _, h⟩ | ⟨_, _, _, h⟩ | ⟨h1, _, _, _, h2⟩
  · exact absurd h (by decide)
  · exact absurd ⟨srt_La, srt_Lb⟩ h
  · exact ⟨h1, h2.trans mrg_LaLb⟩
/-- a row of the call's own, whose cells lie at the head of a block -/
theorem RE.form {w : World} {base : Nat} {v : Value} {xs : List S53} (h : Kd.R k53 53 w base (fun _ => True) v xs) (n : Nat) (hn : xs.length = n) (hp : 0 < n) : ∃ g c, v = .slice (some ⟨g, 0, none⟩) n c ∧ RE w base g n c xs := by
  subst hn
  obtain ⟨g, c, rfl, _⟩ := Kd.R_form h hp
  exact ⟨g, c, rfl, h⟩

theorem C_int {w : World} {A : Option Addr} {n : Nat} {xs : List Int} (h : ReadsInt w .i64 A n xs) : Kd.C (Kd.int .i64) w A n xs := Kd.C_of_reads (d := (0 : Int)) (h1 := fun _ => rfl) h
/-- the rows that rowsBegun asks for -/
theorem lit_rows (W : World) : Kd.C (Kd.slice 3 (Kd.int .i64)) (((W.alloc (.cells #[.int .i64 0] 3)).alloc (.cells #[.int .i64 1] 3)).alloc (.cells #[.slice (some ⟨W.heap.size, 0, none⟩) 1 1, .slice (some ⟨W.heap.size + 1, 0, none⟩) 1 1] 31)) (some ⟨W.heap.size + 1 + 1, 0, none⟩) [[0], [1]].length [[0], [1]] := by
  obtain ⟨W1, h1⟩ : ∃ W1, W1 = W.alloc (.cells #[.int .i64 0] 3) := ⟨_, rfl⟩
  have s1 : W1.heap.size = W.heap.size + 1 := by rw [h1]; exact Array.size_push _
  obtain ⟨W2, h2⟩ : ∃ W2, W2 = W1.alloc (.cells #[.int .i64 1] 3) := ⟨_, rfl⟩
  have s2 : W2.heap.size = W.heap.size + 1 + 1 := by rw [← s1, h2]; exact Array.size_push _
  have r0 : Kd.C (Kd.int .i64) W2 (some ⟨W.heap.size, 0, none⟩) [0].length [0] := by
    rw [h2, h1]
    exact C_int ((reads_lit W [0] (by simp) 3).below (below_alloc (Below.refl _ _) _))
  have r1 : Kd.C (Kd.int .i64) W2 (some ⟨W.heap.size + 1, 0, none⟩) [1].length [1] := by
    rw [h2, ← s1]
    exact C_int (reads_lit W1 [1] (by simp) 3)
  rw [← h1, ← h2]
  have hk := heap_alloc_new W2 (.cells #[.slice (some ⟨W.heap.size, 0, none⟩) 1 1, .slice (some ⟨W.heap.size + 1, 0, none⟩) 1 1] 31)
  rw [s2] at hk
  refine ⟨rfl, by simp, fun _ => ⟨_, rfl, fun j p hj => ?_⟩⟩
  match j, hj with
  | 0, hj =>
    obtain rfl := Option.some.inj hj
    refine ⟨[.slice (some ⟨W.heap.size, 0, none⟩) 1 1], rfl, ⟨_, 1, rfl, Nat.le_refl _, Kd.C_alloc r0 _⟩, fun i u hu => ?_⟩
    match i, hu with
    | 0, hu => obtain rfl := Option.some.inj hu; exact blk_cell hk 0
  | 1, hj =>
    obtain rfl := Option.some.inj hj
    refine ⟨[.slice (some ⟨W.heap.size + 1, 0, none⟩) 1 1], rfl, ⟨_, 1, rfl, Nat.le_refl _, Kd.C_alloc r1 _⟩, fun i u hu => ?_⟩
    match i, hu with
    | 0, hu => obtain rfl := Option.some.inj hu; exact blk_cell hk 1
theorem drawn_below {w w' : World} (h : Drawn0 w w') : Below w.heap.size w w' := h.below

set_option maxHeartbeats 8000000 in
set_option maxRecDepth 100000 in
theorem begun_calls (w : World) : Calls Try.prog 16 #[] w fun e w' => e = .returned (.bool true) ∧ Below w.heap.size w w' := by
  have HC0 := Aside0.mk (C_two53 (W := w.alloc (.cells (c53 (ev 9 1 0) ++ c53 (ev 1 3 1)).toArray 53)) (heap_alloc_new w _) (ev 9 1 0) (ev 1 3 1) rfl)
  have HB0 := Aside0.mk (below_alloc (Below.refl w.heap.size w) (.cells (c53 (ev 9 1 0) ++ c53 (ev 1 3 1)).toArray 53))
  go_enter Try.func16, Try.ntmps16
  go_wp2_with fail
  refine (of_calls _ (some ⟨w.heap.size, 0, none⟩) 2 La 1 HC0.out (by decide)).mono ?_
  rintro e w1 ⟨v1, r1, x1, rfl, h1, h2, h3⟩
  obtain ⟨rfl, rfl⟩ := placed_of h3
  have HC1 := Aside0.mk (Kd.C_below HC0.out h2)
  have HB1 := Aside0.mk (below_then HB0.out HB0.out.size h2)
  have HO1 := Aside0.mk h1
  clear h1 h2 h3 HC0 HB0
  go_wp2_with fail
  refine (between_calls _ (some ⟨w.heap.size, 0, none⟩) 2 La 0 3 HC1.out (by decide)).mono ?_
  rintro e w2 ⟨v2, r2, x2, rfl, h1, h2, h3⟩
  obtain ⟨rfl, rfl⟩ := placed_bt h3
  have HC2 := Aside0.mk (Kd.C_below HC1.out h2)
  have HB2 := Aside0.mk (below_then HB1.out HB1.out.size h2)
  have HO12 := Aside0.mk (own_keepR HO1.out h2)
  have HO2 := Aside0.mk h1
  clear h1 h2 h3 HC1 HB1 HO1
  have hBa := below_alloc (Below.refl w2.heap.size w2) (.cells (c53 (ev 5 1 0) ++ c53 (ev 5 2 0)).toArray 53)
  have HCa := Aside0.mk (Kd.C_below HC2.out hBa)
  have HCb := Aside0.mk (C_two53 (W := w2.alloc (.cells (c53 (ev 5 1 0) ++ c53 (ev 5 2 0)).toArray 53)) (heap_alloc_new w2 _) (ev 5 1 0) (ev 5 2 0) rfl)
  have HBa := Aside0.mk hBa
  clear hBa
  go_wp2_with fail
  refine (merge_calls _ (some ⟨w.heap.size, 0, none⟩) (some ⟨w2.heap.size, 0, none⟩) 2 2 La Lb HCa.out HCb.out (by decide) (by decide) (by decide) (by decide)).mono ?_
  rintro e w3 ⟨v3, r3, x3, rfl, h1, h2, h3⟩
  obtain ⟨rfl, rfl⟩ := merged_ab h3
  have h23 := below_then HBa.out HBa.out.size h2
  have HC3 := Aside0.mk (Kd.C_below HC2.out h23)
  have HB3 := Aside0.mk (below_then HB2.out HB2.out.size h23)
  have HO13 := Aside0.mk (own_keepR HO12.out h23)
  have HO23 := Aside0.mk (own_keepR HO2.out h23)
  obtain ⟨g3, c3, rfl, hr3⟩ := RE.form h1 4 rfl (by decide)
  have HR3 := Aside0.mk hr3
  clear h1 h2 h3 HC2 HB2 HO12 HO2 h23 HCa HCb HBa hr3
  go_wp2_with fail
  refine (rows_Threads.calls 10 (some ⟨w.heap.size, 0, none⟩) 2 La 2 [[0], [1]] 0 _ HC3.out (by decide) thr_La).mono ?_
  rintro e w4 ⟨v4, rfl, h1, h2⟩
  have HB4 := Aside0.mk (below_then HB3.out HB3.out.size h2)
  have HO14 := Aside0.mk (own_keepR HO13.out h2)
  have HO24 := Aside0.mk (own_keepR HO23.out h2)
  have HR4 := Aside0.mk (RE.below HR3.out h2)
  have HT4 := Aside0.mk (Kd.S_R h1)
  clear h1 h2 HC3 HB3 HO13 HO23 HR3
  obtain ⟨A1, d1, rfl, hd1, hrd1⟩ := own_rd HO14.out
  obtain ⟨A2, d2, rfl, hd2, hrd2⟩ := own_rd HO24.out
  have HD1 := Aside0.mk hrd1
  have HD2 := Aside0.mk hrd2
  clear hrd1 hrd2 HO14 HO24
  have hBa := below_alloc (Below.refl w4.heap.size w4) (.cells #[Value.int .i64 1] 3)
  have HBa := Aside0.mk hBa
  clear hBa
  go_wp2_with fail
  refine (same_calls _ A1 d1 [1] (some ⟨w4.heap.size, 0, none⟩) 1 [1] (HD1.out.below HBa.out) (reads_lit w4 [1] (by simp) 3)).mono ?_
  rintro e w5 ⟨rfl, h1⟩
  rw [show decide (([1] : List Int) = [1]) = true from by decide]
  have h45 := below_then HBa.out HBa.out.size h1
  have HB5 := Aside0.mk (below_then HB4.out HB4.out.size h45)
  have HD25 := Aside0.mk (HD2.out.below h45)
  have HR5 := Aside0.mk (RE.below HR4.out h45)
  have HT5 := Aside0.mk (Kd.R_below HT4.out h45)
  clear h1 h45 HBa HD1 HD2 HB4 HR4 HT4
  have hBa := below_alloc (Below.refl w5.heap.size w5) (.cells #[Value.int .i64 0] 3)
  have HBa := Aside0.mk hBa
  clear hBa
  go_wp2_with fail
  refine (same_calls _ A2 d2 [0] (some ⟨w5.heap.size, 0, none⟩) 1 [0] (HD25.out.below HBa.out) (reads_lit w5 [0] (by simp) 3)).mono ?_
  rintro e w6 ⟨rfl, h1⟩
  rw [show decide (([0] : List Int) = [0]) = true from by decide]
  have h45 := below_then HBa.out HBa.out.size h1
  have HB6 := Aside0.mk (below_then HB5.out HB5.out.size h45)
  have HR6 := Aside0.mk (RE.below HR5.out h45)
  have HT6 := Aside0.mk (Kd.R_below HT5.out h45)
  clear h1 h45 HBa HD25 HB5 HR5 HT5
  have hk0 : w6.cell? ⟨g3, 0, none⟩ = some (.int .i64 9) := HR6.out.cells 0 (by decide) 0 _ rfl
  have hk1 : w6.cell? ⟨g3, 12, none⟩ = some (.int .i64 5) := HR6.out.cells 1 (by decide) 0 _ rfl
  have hk3 : w6.cell? ⟨g3, 36, none⟩ = some (.int .i64 1) := HR6.out.cells 3 (by decide) 0 _ rfl
  obtain ⟨A4, d4, rfl, hd4, hc4⟩ := Kd.R_reads HT6.out
  have hBa := below_alloc (below_alloc (below_alloc (Below.refl w6.heap.size w6) (.cells #[Value.int .i64 0] 3)) (.cells #[Value.int .i64 1] 3)) (.cells #[.slice (some ⟨w6.heap.size, 0, none⟩) 1 1, .slice (some ⟨w6.heap.size + 1, 0, none⟩) 1 1] 31)
  have HC4 := Aside0.mk (Kd.C_below hc4 hBa)
  have HB7 := Aside0.mk (below_then HB6.out HB6.out.size hBa)
  clear hc4 hBa HT6
  go_wp2_with fail
  refine (backstitchref4_SameRows.calls 10 A4 d4 [[0], [1]] (some ⟨w6.heap.size + 1 + 1, 0, none⟩) 2 [[0], [1]] true _ HC4.out hd4 (lit_rows w6) (by decide) (by kernel_rfl)).mono ?_
  rintro e w7 ⟨rfl, h1⟩
  have HB8 := Aside0.mk (below_then HB7.out HB7.out.size (drawn_below h1))
  clear h1 HB7 HC4
  go_wp2
  exact bodyPost_ret (v := .bool true) (by simp [results, Try.f16, go_sem]) rfl ⟨rfl, HB8.out⟩
end Go.Proofs.Ytblalidpeccabab.Rw
