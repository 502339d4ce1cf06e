/- schedBegun: its walk. -/
import Derived.Test.YtblalidpeccabacSchedG
import Derived.Test.YtblalidpeccabacSame
namespace Go.Proofs.Ytblalidpeccabac.Sd
open Go Go.RowKit Go.Lib Go.Proofs.YtblalidpeccabacW.PrintWords Go.Proofs.YtblalidpeccabacW.PrintLast Go.Proofs.YtblalidpeccabacW.PrintMore Go.Proofs.Ytblalidpeccabac.PSchedBack Go.Proofs.Ytblalidpeccabac.Bs
set_option linter.unusedVariables false
set_option linter.unusedSimpArgs false

/-- elements of one cell each that lie at the head of a block -/
theorem C_flat {α : Type} (d : Kd α) (hd : d.sz = 1) {W : World} {g : Nat} {cs : Array Value} {t : TypeId} (hb : W.heap[g]? = some (.cells cs t (0, 0))) (xs : List α) (hl : xs.length ≤ 9223372036854775807) (hx : ∀ (j : Nat) (x : α), xs[j]? = some x → ∃ v, cs[j]? = some v ∧ d.K W x [v]) : Kd.C d W (some ⟨g, 0, none⟩) xs.length xs := by
  refine ⟨rfl, hl, fun _ => ⟨_, rfl, fun j p hj => ?_⟩⟩
  obtain ⟨v, h1, h2⟩ := hx j p hj
  refine ⟨[v], by rw [hd]; rfl, h2, fun i u hu => ?_⟩
  match i, hu with
  | 0, hu =>
    obtain rfl := Option.some.inj hu
    rw [hd, Nat.mul_one, Nat.add_zero, Addr.add_mid, Nat.zero_add, blk_cell hb]
    exact h1
theorem bools_lit (W : World) (t : TypeId) (b0 b1 b2 : Bool) : Kd.C Kd.bool (W.alloc (.cells #[.bool b0, .bool b1, .bool b2] t)) (some ⟨W.heap.size, 0, none⟩) 3 [b0, b1, b2] := by
  refine C_flat Kd.bool rfl (heap_alloc_new W _) [b0, b1, b2] (by simp) (fun j x hj => ?_)
  match j, hj with
  | 0, hj => obtain rfl := Option.some.inj hj; exact ⟨_, rfl, rfl⟩
  | 1, hj => obtain rfl := Option.some.inj hj; exact ⟨_, rfl, rfl⟩
  | 2, hj => obtain rfl := Option.some.inj hj; exact ⟨_, rfl, rfl⟩
def depL : List (List Bool) := [[true, true, false], [true, true, false], [false, false, true]]
def depW (W : World) : World := (((W.alloc (.cells #[.bool true, .bool true, .bool false] 4)).alloc (.cells #[.bool true, .bool true, .bool false] 4)).alloc (.cells #[.bool false, .bool false, .bool true] 4)).alloc (.cells #[.slice (some ⟨W.heap.size, 0, none⟩) 3 3, .slice (some ⟨W.heap.size + 1, 0, none⟩) 3 3, .slice (some ⟨W.heap.size + 1 + 1, 0, none⟩) 3 3] 50)
theorem depW_below (W : World) : Below W.heap.size W (depW W) := below_alloc (below_alloc (below_alloc (below_alloc (Below.refl _ _) _) _) _) _
theorem lit_dep (W : World) : Kd.C kB (depW W) (some ⟨W.heap.size + 1 + 1 + 1, 0, none⟩) depL.length depL := by
  unfold depW
  obtain ⟨W1, h1⟩ : ∃ W1, W1 = W.alloc (.cells #[.bool true, .bool true, .bool false] 4) := ⟨_, rfl⟩
  have s1 : W1.heap.size = W.heap.size + 1 := by rw [h1]; exact Array.size_push _
  obtain ⟨W2, h2⟩ : ∃ W2, W2 = W1.alloc (.cells #[.bool true, .bool true, .bool false] 4) := ⟨_, rfl⟩
  have s2 : W2.heap.size = W.heap.size + 1 + 1 := by rw [← s1, h2]; exact Array.size_push _
  obtain ⟨W3, h3⟩ : ∃ W3, W3 = W2.alloc (.cells #[.bool false, .bool false, .bool true] 4) := ⟨_, rfl⟩
  have s3 : W3.heap.size = W.heap.size + 1 + 1 + 1 := by rw [← s2, h3]; exact Array.size_push _
  have r0 : Kd.C Kd.bool W3 (some ⟨W.heap.size, 0, none⟩) 3 [true, true, false] := by
    rw [h3, h2, h1]
    exact Kd.C_alloc (Kd.C_alloc (bools_lit W 4 true true false) _) _
  have r1 : Kd.C Kd.bool W3 (some ⟨W.heap.size + 1, 0, none⟩) 3 [true, true, false] := by
    rw [h3, h2, ← s1]
    exact Kd.C_alloc (bools_lit W1 4 true true false) _
  have r2 : Kd.C Kd.bool W3 (some ⟨W.heap.size + 1 + 1, 0, none⟩) 3 [false, false, true] := by
    rw [h3, ← s2]
    exact bools_lit W2 4 false false true
  rw [← h1, ← h2, ← h3]
  have hk := heap_alloc_new W3 (.cells #[.slice (some ⟨W.heap.size, 0, none⟩) 3 3, .slice (some ⟨W.heap.size + 1, 0, none⟩) 3 3, .slice (some ⟨W.heap.size + 1 + 1, 0, none⟩) 3 3] 50)
  rw [s3] at hk
  refine C_flat kB rfl hk depL (by decide) (fun j x hj => ?_)
  match j, hj with
  | 0, hj => obtain rfl := Option.some.inj hj; exact ⟨_, rfl, _, 3, rfl, Nat.le_refl _, Kd.C_alloc r0 _⟩
  | 1, hj => obtain rfl := Option.some.inj hj; exact ⟨_, rfl, _, 3, rfl, Nat.le_refl _, Kd.C_alloc r1 _⟩
  | 2, hj => obtain rfl := Option.some.inj hj; exact ⟨_, rfl, _, 3, rfl, Nat.le_refl _, Kd.C_alloc r2 _⟩
/-- the rows that schedBegun asks for -/
def rowsW (W : World) : World := ((W.alloc (.cells #[.int .i64 1, .int .i64 2] 3)).alloc (.cells #[.int .i64 0] 3)).alloc (.cells #[.slice (some ⟨W.heap.size, 0, none⟩) 2 2, .slice (some ⟨W.heap.size + 1, 0, none⟩) 1 1] 23)
theorem rowsW_below (W : World) : Below W.heap.size W (rowsW W) := below_alloc (below_alloc (below_alloc (Below.refl _ _) _) _) _
theorem lit_rows (W : World) : Kd.C kR (rowsW W) (some ⟨W.heap.size + 1 + 1, 0, none⟩) [[1, 2], [0]].length [[1, 2], [0]] := by
  unfold rowsW
  obtain ⟨W1, h1⟩ : ∃ W1, W1 = W.alloc (.cells #[.int .i64 1, .int .i64 2] 3) := ⟨_, rfl⟩
  have s1 : W1.heap.size = W.heap.size + 1 := by rw [h1]; exact Array.size_push _
  obtain ⟨W2, h2⟩ : ∃ W2, W2 = W1.alloc (.cells #[.int .i64 0] 3) := ⟨_, rfl⟩
  have s2 : W2.heap.size = W.heap.size + 1 + 1 := by rw [← s1, h2]; exact Array.size_push _
  have r0 : Kd.C kI W2 (some ⟨W.heap.size, 0, none⟩) [1, 2].length [1, 2] := by
    rw [h2, h1]
    exact C_int ((reads_lit W [1, 2] (by simp) 3).below (below_alloc (Below.refl _ _) _))
  have r1 : Kd.C kI W2 (some ⟨W.heap.size + 1, 0, none⟩) [0].length [0] := by
    rw [h2, ← s1]
    exact C_int (reads_lit W1 [0] (by simp) 3)
  rw [← h1, ← h2]
  have hk := heap_alloc_new W2 (.cells #[.slice (some ⟨W.heap.size, 0, none⟩) 2 2, .slice (some ⟨W.heap.size + 1, 0, none⟩) 1 1] 23)
  rw [s2] at hk
  refine C_flat kR rfl hk [[1, 2], [0]] (by decide) (fun j x hj => ?_)
  match j, hj with
  | 0, hj => obtain rfl := Option.some.inj hj; exact ⟨_, rfl, _, 2, rfl, Nat.le_refl _, Kd.C_alloc r0 _⟩
  | 1, hj => obtain rfl := Option.some.inj hj; exact ⟨_, rfl, _, 1, rfl, Nat.le_refl _, Kd.C_alloc r1 _⟩

theorem cnt_b : sched_Count.f 20 [2, 1, 1] = some (12, 0) := by kernel_rfl
theorem nth_b : nthF 20 [2, 1] 1 = some ([0, 1, 0], 0) := by kernel_rfl
theorem norm_b : normF 20 [1, 0, 2] depL = some ([[1, 2], [0]], 0) := by kernel_rfl
theorem pack_b : packL [1, 1, 0] = [⟨1, 2⟩, ⟨0, 1⟩] := by kernel_rfl
theorem packs_b {r : Int} {x : List S57} (h : Packs [1, 1, 0] r x) : r = 0 ∧ x = [⟨1, 2⟩, ⟨0, 1⟩] := by
  rcases h with ⟨_, _, h⟩ | ⟨_, _, _, h⟩ | ⟨h1, _, _, h2⟩
  · exact absurd h (by decide)
  · exact absurd h (by decide)
  · exact ⟨h1, h2.trans pack_b⟩
theorem RP.below {w w1 : World} {base g n c : Nat} {xs : List S57} (h : RP w base g n c xs) (hb : Below w.heap.size w w1) : RP w1 base g n c xs := Kd.R_below h hb
/-- a row of the call's own, whose cells lie at the head of a block -/
theorem RP.formN {w : World} {base : Nat} {v : Value} {xs : List S57} (h : Kd.R k57 57 w base (fun _ => True) v xs) (n : Nat) (hn : xs.length = n) (hp : 0 < n) : ∃ g c, v = .slice (some ⟨g, 0, none⟩) n c ∧ RP w base g n c xs := by
  subst hn
  exact RP.form h hp
set_option maxHeartbeats 8000000 in
set_option maxRecDepth 100000 in
theorem begun_calls (w : World) : Calls Try.prog 16 #[] w fun e w' => e = .returned (.bool true) ∧ Below w.heap.size w w' := by
  have HB0 := Aside0.mk (below_alloc (Below.refl w.heap.size w) (.cells #[Value.int .i64 2, Value.int .i64 1, Value.int .i64 1] 3))
  go_enter Try.func16, Try.ntmps16
  go_wp2_with fail
  refine (sched_Count.calls 20 (some ⟨w.heap.size, 0, none⟩) 3 [2, 1, 1] 12 0 _ (C_int (reads_lit w [2, 1, 1] (by simp) 3)) (by decide) cnt_b).mono ?_
  rintro e w1 ⟨rfl, h2⟩
  have HB1 := Aside0.mk (below_then HB0.out HB0.out.size h2)
  clear h2 HB0
  have HBa := Aside0.mk (below_alloc (Below.refl w1.heap.size w1) (.cells #[Value.int .i64 2, Value.int .i64 1] 3))
  go_wp2_with fail
  refine (nth_calls 20 _ (some ⟨w1.heap.size, 0, none⟩) 2 [2, 1] 1 [0, 1, 0] 0 (C_int (reads_lit w1 [2, 1] (by simp) 3)) (by decide) nth_b).mono ?_
  rintro e w2 ⟨v2, rfl, h1, h2⟩
  have HB2 := Aside0.mk (below_then HB1.out HB1.out.size (below_then HBa.out HBa.out.size h2))
  have HO2 := Aside0.mk h1
  clear h1 h2 HB1 HBa
  have HBa := Aside0.mk (below_alloc (Below.refl w2.heap.size w2) (.cells #[Value.int .i64 1, Value.int .i64 0, Value.int .i64 2] 3))
  have hs2 : (w2.alloc (.cells #[Value.int .i64 1, Value.int .i64 0, Value.int .i64 2] 3)).heap.size = w2.heap.size + 1 := Array.size_push _
  have HLD := Aside0.mk (lit_dep (w2.alloc (.cells #[Value.int .i64 1, Value.int .i64 0, Value.int .i64 2] 3)))
  have HBb := Aside0.mk (depW_below (w2.alloc (.cells #[Value.int .i64 1, Value.int .i64 0, Value.int .i64 2] 3)))
  unfold depW at HLD HBb
  rw [hs2] at HLD HBb
  clear hs2
  go_wp2_with fail
  refine (normal_calls 20 _ (some ⟨w2.heap.size, 0, none⟩) 3 [1, 0, 2] (some ⟨w2.heap.size + 1 + 1 + 1 + 1, 0, none⟩) 3 depL [[1, 2], [0]] 0 (Kd.C_below (C_int (reads_lit w2 [1, 0, 2] (by simp) 3)) ?hb) (by decide) HLD.out (by decide) norm_b).mono ?_
  case hb => exact Below.mono HBb.out (Nat.le_of_eq (Array.size_push _))
  rintro e w3 ⟨v3, rfl, h1, h2⟩
  have hB23 := below_then HBa.out HBa.out.size (Below.mono HBb.out (Nat.le_of_eq (Array.size_push _)))
  have hB24 := below_then hB23 hB23.size h2
  have HB3 := Aside0.mk (below_then HB2.out HB2.out.size hB24)
  have HO23 := Aside0.mk (own_keep HO2.out hB24)
  have HT3 := Aside0.mk h1
  clear h1 h2 hB23 hB24 HLD HBa HBb HB2 HO2
  have HBa := Aside0.mk (below_alloc (Below.refl w3.heap.size w3) (.cells #[Value.int .i64 1, Value.int .i64 1, Value.int .i64 0] 3))
  go_wp2_with fail
  refine (pack_calls _ (some ⟨w3.heap.size, 0, none⟩) 3 [1, 1, 0] (C_int (reads_lit w3 [1, 1, 0] (by simp) 3)) (by decide)).mono ?_
  rintro e w4 ⟨v4, r4, x4, rfl, h1, h2, h3⟩
  obtain ⟨rfl, rfl⟩ := packs_b h3
  have hB24 := below_then HBa.out HBa.out.size h2
  have HB4 := Aside0.mk (below_then HB3.out HB3.out.size hB24)
  have HO24 := Aside0.mk (own_keep HO23.out hB24)
  have HT4 := Aside0.mk (OS.below HT3.out hB24)
  obtain ⟨g4, c4, rfl, hr4⟩ := RP.formN h1 2 rfl (by decide)
  have HR4 := Aside0.mk hr4
  clear h1 h2 h3 hB24 hr4 HBa HB3 HO23 HT3
  obtain ⟨A1, d1, rfl, hd1, hrd1⟩ := own_rd HO24.out
  have HBa := Aside0.mk (below_alloc (Below.refl w4.heap.size w4) (.cells #[Value.int .i64 0, Value.int .i64 1, Value.int .i64 0] 3))
  have HD1 := Aside0.mk (hrd1.below HBa.out)
  clear hrd1 HO24
  go_wp2_with fail
  refine (same_calls _ A1 d1 [0, 1, 0] (some ⟨w4.heap.size, 0, none⟩) 3 [0, 1, 0] HD1.out (reads_lit w4 [0, 1, 0] (by simp) 3)).mono ?_
  rintro e w5 ⟨rfl, h1⟩
  rw [show decide (([0, 1, 0] : List Int) = [0, 1, 0]) = true from by decide]
  have hB24 := below_then HBa.out HBa.out.size h1
  have HB5 := Aside0.mk (below_then HB4.out HB4.out.size hB24)
  have HT5 := Aside0.mk (OS.below HT4.out hB24)
  have HR5 := Aside0.mk (RP.below HR4.out hB24)
  clear h1 hB24 HBa HB4 HT4 HR4 HD1
  obtain ⟨A4, d4, rfl, hd4, hc4⟩ := Kd.R_reads (Kd.S_R HT5.out)
  have HLR := Aside0.mk (lit_rows w5)
  have HBb := Aside0.mk (rowsW_below w5)
  unfold rowsW at HLR HBb
  have HC4 := Aside0.mk (Kd.C_below hc4 HBb.out)
  clear hc4 HT5
  go_wp2_with fail
  refine (backstitchref4_SameRows.calls 10 A4 d4 [[1, 2], [0]] (some ⟨w5.heap.size + 1 + 1, 0, none⟩) 2 [[1, 2], [0]] true _ HC4.out hd4 HLR.out (by decide) (by kernel_rfl)).mono ?_
  rintro e w6 ⟨rfl, h1⟩
  have hB24 := below_then HBb.out HBb.out.size h1.below
  have HB6 := Aside0.mk (below_then HB5.out HB5.out.size hB24)
  have hr6 := RP.below HR5.out hB24
  obtain ⟨hk0, hk1, _⟩ := hr6.cells 0 (by decide)
  have hk0' : w6.cell? ⟨g4, 0, none⟩ = some (.int .i64 1) := hk0
  have hk1' : w6.cell? ⟨g4, 1, none⟩ = some (.int .i64 2) := hk1
  clear h1 hB24 HBb HB5 HR5 HC4 HLR hr6 hk0 hk1
  go_wp2
  exact bodyPost_ret (v := .bool true) (by simp [results, Try.f16, go_sem]) rfl ⟨rfl, HB6.out⟩
end Go.Proofs.Ytblalidpeccabac.Sd
