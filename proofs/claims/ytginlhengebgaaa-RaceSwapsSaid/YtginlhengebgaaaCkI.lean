/- spawned, soon, clocksBegun: their walks. -/
import Derived.Test.YtginlhengebgaaaCkH
namespace Go.Proofs.Ytginlhengebgaaa.Ck
open Go Go.RowKit Go.Maps Go.Proofs.YtginlhengebgaaaW Go.Proofs.YtginlhengebgaaaW.PrintWords Go.Proofs.YtginlhengebgaaaW.PrintLast Go.Proofs.YtginlhengebgaaaW.PrintMore Go.Proofs.Ytginlhengebgaaa.PLockupEither Go.Proofs.Ytginlhengebgaaa.Bs Go.Proofs.Ytginlhengebgaaa.RegionVal Go.Proofs.Ytginlhengebgaaa.Lk
open Go.Lib hiding intOf
set_option linter.unusedVariables false
set_option linter.unusedSimpArgs false
def cC (x : CE) : List Value := [.int .i64 x.k, .int .i64 0, .int .i64 x.t, .int .i64 0, .int .i64 0, .int .i64 0, .int .i64 x.a, .int .i64 x.b, .int .i64 0, .int .i64 0, .int .i64 0, .int .i64 0]
theorem cC_in (x : CE) : x.In (cC x) := by
  refine ⟨rfl, fun q hq => ?_, rfl, rfl, rfl, rfl⟩
  simp only [cC, List.mem_cons, List.not_mem_nil, or_false] at hq
  rcases hq with rfl | rfl | rfl | rfl | rfl | rfl | rfl | rfl | rfl | rfl | rfl | rfl <;> rfl
def l6 : List CE := [⟨4, 0, 7, 0⟩, ⟨11, 0, 1, 0⟩, ⟨4, 0, 7, 0⟩, ⟨3, 1, 7, 0⟩, ⟨17, 1, 0, 0⟩, ⟨12, 0, 1, 0⟩]
def E6 : List S32 := [⟨0, 1⟩, ⟨1, 2⟩, ⟨1, 3⟩, ⟨3, 4⟩, ⟨2, 5⟩, ⟨4, 5⟩]
theorem raw6 : raw l6 = E6 := by kernel_rfl
theorem isE6 : IsE l6 E6 := by
  refine ⟨by simp [E6, pq], fun p => by rw [raw6]⟩
theorem chk6 : chkF l6 2 = 0 := by kernel_rfl
theorem pair6 : pairF l6 2 2 3 = 0 := by kernel_rfl
theorem rows6 : rowsF l6 2 E6 6 = [[1, 0], [2, 0], [3, 0], [2, 1], [2, 2], [4, 2]] := by kernel_rfl
theorem apart6 : (decide ((2 : Int).toNat ≠ (3 : Int).toNat) && !bef l6 (2 : Int).toNat E6 (2 : Int).toNat (3 : Int).toNat && !bef l6 (2 : Int).toNat E6 (3 : Int).toNat (2 : Int).toNat) = true := by kernel_rfl
set_option maxHeartbeats 8000000 in
set_option maxRecDepth 100000 in
theorem spawned_calls (w : World) : Calls Try.prog 36 #[] w fun e w' => ∃ g, e = .returned (.slice (some ⟨g, 0, none⟩) 6 6) ∧ Kd.C kC w' (some ⟨g, 0, none⟩) 6 l6 ∧ Below w.heap.size w w' := by
  have HC0 := Aside0.mk (C_flat kC cC (fun _ x => cC_in x) (fun _ => rfl) l6 (by decide) (heap_alloc_new w (.cells (l6.flatMap cC).toArray 41)))
  have HB0 := Aside0.mk (below_alloc (Below.refl w.heap.size w) (.cells (l6.flatMap cC).toArray 41))
  go_enter Try.func36, Try.ntmps36
  go_wp2
  exact bodyPost_ret (v := .slice (some ⟨w.heap.size, 0, none⟩) 6 6) (by simp [results, Try.f36, go_sem]) rfl ⟨_, rfl, HC0.out, HB0.out⟩
theorem reads_blk {w : World} {g : Nat} {l : List Int} {t : TypeId} (hl : l.length ≤ 1000) (h : w.heap[g]? = some (.cells (nums .i64 l).toArray t (0, 0))) : ReadsInt w .i64 (some ⟨g, 0, none⟩) l.length l := by
  refine ⟨rfl, by omega, fun _ => ⟨_, rfl, fun j hj => ?_⟩⟩
  rw [show (⟨g, 0, none⟩ : Addr).add j = ⟨g, j, none⟩ by unfold Addr.add; by_cases h : j = 0 <;> simp [h], blk_cell h]
  simp [nums, hj, List.getD_eq_getElem?_getD]
set_option maxHeartbeats 16000000 in
set_option maxRecDepth 100000 in
theorem cbegun_calls (w : World) : Calls Try.prog 17 #[] w fun e w' => e = .returned (.bool true) ∧ Below w.heap.size w w' := by
  go_enter Try.func17, Try.ntmps17
  go_wp2_with fail
  refine (spawned_calls w).mono ?_
  rintro e w1 ⟨g1, rfl, hC1, hb1⟩
  have HB1 := Aside0.mk hb1
  have HP1 := Aside0.mk (Edges_calls w1 (some ⟨g1, 0, none⟩) 6 l6 2 hC1 (by decide))
  rw [chk6] at HP1
  clear hC1 hb1
  go_wp2_with fail
  refine HP1.out.mono ?_
  rintro e w2 ⟨v2, rfl, h2, _, hb2⟩
  obtain ⟨E, hE, hR2⟩ := h2 trivial
  obtain rfl := hE.uniq isE6
  obtain ⟨gE, cE, rfl⟩ := RE.form hR2 6 rfl (by omega)
  have HB2 := Aside0.mk (below_then HB1.out HB1.out.size hb2)
  have HR2 := Aside0.mk (show RE w2 w1.heap.size gE 6 cE E6 from hR2)
  clear h2 hE hR2 hb2 HP1 HB1
  go_wp2_with fail
  refine (spawned_calls w2).mono ?_
  rintro e w3 ⟨g3, rfl, hC3, hb3⟩
  have HB3 := Aside0.mk (below_then HB2.out HB2.out.size hb3)
  have HR3 := Aside0.mk (HR2.out.below hb3)
  have HP3 := Aside0.mk (Of_calls w3 (some ⟨g3, 0, none⟩) 6 l6 2 hC3 (by decide))
  rw [chk6] at HP3
  clear hC3 hb3 HR2 HB2
  go_wp2_with fail
  refine HP3.out.mono ?_
  rintro e w4 ⟨v4, rfl, h4, hb4⟩
  obtain ⟨g0, E, rfl, hE, hCK⟩ := h4 trivial
  obtain rfl := hE.uniq isE6
  rw [show rowsF l6 (2 : Int).toNat E6 l6.length = rowsF l6 2 E6 6 from rfl, rows6] at hCK
  rw [show l6.length = 6 from rfl]
  have HCK := Aside0.mk (show CK w4 g0 2 [[1, 0], [2, 0], [3, 0], [2, 1], [2, 2], [4, 2]] from hCK)
  have HB4 := Aside0.mk (below_then HB3.out HB3.out.size hb4)
  have HR4 := Aside0.mk (HR3.out.below hb4)
  clear h4 hE hCK hb4 HP3 HB3 HR3
  go_wp2_with fail
  refine (spawned_calls w4).mono ?_
  rintro e w5 ⟨g5, rfl, hC5, hb5⟩
  have HB5 := Aside0.mk (below_then HB4.out HB4.out.size hb5)
  have HR5 := Aside0.mk (HR4.out.below hb5)
  have HCK5 := Aside0.mk (HCK.out.below hb5)
  have HP5 := Aside0.mk (Apart_calls w5 (some ⟨g5, 0, none⟩) 6 l6 2 2 3 hC5 (by decide))
  rw [pair6] at HP5
  clear hC5 hb5 HR4 HB4 HCK
  go_wp2_with fail
  refine HP5.out.mono ?_
  rintro e w6 ⟨b6, rfl, h6, hb6⟩
  obtain ⟨E, hE, hb⟩ := h6 trivial
  obtain rfl := hE.uniq isE6
  rw [apart6] at hb
  subst hb
  have HB6 := Aside0.mk (below_then HB5.out HB5.out.size hb6)
  have HR6 := Aside0.mk (HR5.out.below hb6)
  have HCK6 := Aside0.mk (HCK5.out.below hb6)
  clear h6 hE hb6 HP5 HB5 HR5 HCK5
  have k0 := HR6.out.cells 2 (by decide) 0 (.int .i64 1) rfl
  have k1 := HR6.out.cells 2 (by decide) 1 (.int .i64 3) rfl
  have k2 := HR6.out.cells 4 (by decide) 0 (.int .i64 2) rfl
  have k3 := HR6.out.cells 4 (by decide) 1 (.int .i64 5) rfl
  have k4 := HCK6.out.cellT (i := 3) (by decide)
  unfold slot at k4
  simp only [Nat.reduceMul, Nat.reduceAdd, Nat.add_zero, Nat.add_assoc] at k0 k1 k2 k3 k4
  have hu32 := Try.underlying32
  have HB6a := Aside0.mk (below_then HB6.out HB6.out.size (below_alloc (Below.refl w6.heap.size w6) (.cells (nums .i64 [2, 1]).toArray 3)))
  have HCK6a := Aside0.mk (HCK6.out.below (below_alloc (Below.refl w6.heap.size w6) (.cells (nums .i64 [2, 1]).toArray 3)))
  have HL6 := Aside0.mk (reads_lit w6 [2, 1] (by decide) 3)
  go_wp2_with fail
  refine (same_calls _ (some ⟨g0 + 4, 0, none⟩) 2 [2, 1] (some ⟨w6.heap.size, 0, none⟩) 2 [2, 1] (reads_blk (by decide) (HCK6a.out.row 3 (by decide))) HL6.out).mono ?_
  rintro e w7 ⟨rfl, hb7⟩
  have HB7 := Aside0.mk (below_then HB6a.out HB6a.out.size hb7)
  have HCK7 := Aside0.mk (HCK6a.out.below hb7)
  have hdec1 : decide (([2, 1] : List Int) = [2, 1]) = true := by decide
  rw [hdec1]
  clear hdec1 hb7 HL6 HB6a HCK6a k0 k1 k2 k3 k4 HR6 HCK6 HB6
  have k5 := HCK7.out.cellT (i := 5) (by decide)
  unfold slot at k5
  simp only [Nat.reduceMul, Nat.reduceAdd, Nat.add_zero, Nat.add_assoc] at k5
  have HB7a := Aside0.mk (below_then HB7.out HB7.out.size (below_alloc (Below.refl w7.heap.size w7) (.cells (nums .i64 [4, 2]).toArray 3)))
  have HCK7a := Aside0.mk (HCK7.out.below (below_alloc (Below.refl w7.heap.size w7) (.cells (nums .i64 [4, 2]).toArray 3)))
  have HL7 := Aside0.mk (reads_lit w7 [4, 2] (by decide) 3)
  go_wp2_with fail
  refine (same_calls _ (some ⟨g0 + 6, 0, none⟩) 2 [4, 2] (some ⟨w7.heap.size, 0, none⟩) 2 [4, 2] (reads_blk (by decide) (HCK7a.out.row 5 (by decide))) HL7.out).mono ?_
  rintro e w8 ⟨rfl, hb8⟩
  have HB8 := Aside0.mk (below_then HB7a.out HB7a.out.size hb8)
  have hdec1 : decide (([4, 2] : List Int) = [4, 2]) = true := by decide
  rw [hdec1]
  clear hdec1 hb8 HL7 HB7a HCK7a k5
  go_wp2
  exact bodyPost_ret (v := .bool true) (by simp [results, Try.f17, go_sem]) rfl ⟨rfl, HB8.out⟩
end Go.Proofs.Ytginlhengebgaaa.Ck
