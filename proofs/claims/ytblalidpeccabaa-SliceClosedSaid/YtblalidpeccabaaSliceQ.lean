/- sliceBegun: it answers true. -/
import Derived.Test.YtblalidpeccabaaSliceP
import Derived.Test.YtblalidpeccabaaSame
import Derived.Test.YtblalidpeccabaaWRepsOne
namespace Go.Proofs.Ytblalidpeccabaa.Sm
open Go Go.RowKit Go.Lib Go.Proofs.YtblalidpeccabaaW.PrintWords Go.Proofs.YtblalidpeccabaaW.PrintLast Go.Proofs.YtblalidpeccabaaW.PrintMore Go.Proofs.Ytblalidpeccabaa.PHuntParts Go.Proofs.Ytblalidpeccabaa.Sc Go.Proofs.Ytblalidpeccabaa.Bs Go.Proofs.Ytblalidpeccabaa.RegionVal Go.Proofs.Ytblalidpeccabaa.Mp
set_option linter.unusedVariables false
set_option linter.unusedSimpArgs false

/-- a block that lies whole is a row -/
theorem C_blk {α : Type} (d : Kd α) {w : World} {g : Nat} {cs : List Value} {e : TypeId} {ps : List α} (hg : w.heap[g]? = some (.cells cs.toArray e (0, 0))) (hr : Reps (d.K w) d.sz ps cs) (hn : ps.length ≤ 1000000) : d.C w (some ⟨g, 0, none⟩) ps.length ps := by
  refine ⟨rfl, by omega, fun _ => ⟨_, rfl, fun j p hj => ?_⟩⟩
  obtain ⟨hjl, _⟩ := List.getElem?_eq_some_iff.1 hj
  have h1 : j * d.sz + d.sz ≤ cs.length := by rw [hr.1, ← Nat.succ_mul]; exact Nat.mul_le_mul_right _ hjl
  refine ⟨(cs.drop (j * d.sz)).take d.sz, by rw [List.length_take, List.length_drop]; omega, hr.2 j p hj, fun i u hu => ?_⟩
  rw [List.getElem?_take, List.getElem?_drop] at hu
  have hu' : cs[j * d.sz + i]? = some u := by
    split at hu
    · exact hu
    · cases hu
  rw [add_plain, blk_cell hg, List.getElem?_toArray]
  exact hu'
theorem C_lit {w : World} {g : Nat} {e : TypeId} (xs : List Int) (hg : w.heap[g]? = some (.cells (nums .i64 xs).toArray e (0, 0))) (hn : xs.length ≤ 1000) : Kd.C (Kd.int .i64) w (some ⟨g, 0, none⟩) xs.length xs :=
  C_int ⟨rfl, by omega, fun _ => ⟨_, rfl, fun j hj => by
    rw [add_plain, blk_cell hg]
    simp [nums, List.getD_eq_getElem?_getD, hj]⟩⟩
theorem reads_of {w : World} {A : Option Addr} {n : Nat} {xs : List Int} (h : Kd.C (Kd.int .i64) w A n xs) : ReadsInt w .i64 A n xs := Kd.reads_of_C (d := (0 : Int)) (h1 := fun _ => rfl) h
/-- a list that is handed out, read -/
def Out (w : World) (L : List Int) (e : Ending) (w' : World) : Prop := ∃ A c, e = .returned (.tuple #[.slice A L.length c, .int .i64 0]) ∧ L.length ≤ c ∧ Kd.C (Kd.int .i64) w' A L.length L ∧ Below w.heap.size w w'
theorem Told.zero {w w' : World} {r : Int} {L : List Int} {e : Ending} (h : Told w r L e w') (hr : r = 0) : Out w L e w' := by
  obtain ⟨⟨h0, _⟩ | ⟨_, v, rfl, ho⟩, hb⟩ := h
  · exact absurd hr h0
  · obtain ⟨A, c, rfl, hc, hR⟩ := own_rd ho
    exact ⟨A, c, rfl, hc, C_int hR, hb⟩
theorem Same_true {w : World} (L : List Int) {A A1 : Option Addr} {c c1 : Nat} (h : Kd.C (Kd.int .i64) w A L.length L) (h1 : Kd.C (Kd.int .i64) w A1 L.length L) : Calls Try.prog 23 #[.slice A L.length c, .slice A1 L.length c1] w fun e w' => e = .returned (.bool true) ∧ Below w.heap.size w w' :=
  (same_calls w A c L A1 c1 L (reads_of h) (reads_of h1)).mono fun e w' ⟨h, hb⟩ => ⟨by rw [h, decide_eq_true rfl], hb⟩
def L5 : List S35 := [⟨[]⟩, ⟨[]⟩, ⟨[0]⟩, ⟨[1]⟩, ⟨[2, 0]⟩]
def L4 : List S51 := [⟨1, 3, 5, 0⟩, ⟨2, 3, 9, 0⟩, ⟨1, 0, 1, 1⟩, ⟨3, 2, 1, 7⟩]
def M2 : List S51 := [⟨1, 3, 5, 0⟩, ⟨1, 0, 1, 1⟩]
theorem b1 : chk (us L5) [4] = 0 := by decide
theorem b2 : listed L5.length [backF (us L5) 4] = [0, 2, 4] := by decide
theorem b3 : chk (us L5) [0] = 0 := by decide
theorem b4 : listed L5.length [onF (us L5) 0] = [0, 2, 4] := by decide
theorem b5 : chk (us L5) [2, 4] = 0 := by decide
theorem b6 : listed L5.length [onF (us L5) 2, backF (us L5) 4] = [2, 4] := by decide
theorem b7 : rgt L4 2 = 0 := by decide
theorem b8 : aloneS L4 2 = M2 := by rfl
theorem b9 : rgt M2 1 = 0 := by decide
theorem b10 : envS (M2.take 2) 1 = 10 := by decide +kernel
theorem Back5 (w : World) (A : Option Addr) (hr : Kd.C k35 w A 5 L5) : Calls Try.prog 12 #[.slice A 5 5, .int .i64 4] w (Out w [0, 2, 4]) :=
  (Back_calls w A 5 L5 4 hr (Nat.le_refl _)).mono fun e w' h => by have := h.zero b1; rwa [show ((4 : Int).toNat) = 4 from rfl, b2] at this
theorem On5 (w : World) (A : Option Addr) (hr : Kd.C k35 w A 5 L5) : Calls Try.prog 14 #[.slice A 5 5, .int .i64 0] w (Out w [0, 2, 4]) :=
  (On_calls w A 5 L5 0 hr (Nat.le_refl _)).mono fun e w' h => by have := h.zero b3; rwa [show ((0 : Int).toNat) = 0 from rfl, b4] at this
theorem Chop5 (w : World) (A : Option Addr) (hr : Kd.C k35 w A 5 L5) : Calls Try.prog 15 #[.slice A 5 5, .int .i64 2, .int .i64 4] w (Out w [2, 4]) :=
  (Chop_calls w A 5 L5 2 4 hr (Nat.le_refl _)).mono fun e w' h => by have := h.zero b5; rwa [show ((2 : Int).toNat) = 2 from rfl, show ((4 : Int).toNat) = 4 from rfl, b6] at this
def OutM (w : World) (e : Ending) (w' : World) : Prop := ∃ A c, e = .returned (.tuple #[.slice A 2 c, .int .i64 0]) ∧ 2 ≤ c ∧ Kd.C k51 w' A 2 M2 ∧ Below w.heap.size w w'
theorem Alone4 (w : World) (A : Option Addr) (hr : Kd.C k51 w A 4 L4) : Calls Try.prog 11 #[.slice A 4 4, .int .i64 2] w (OutM w) :=
  (Alone_calls w A 4 L4 2 hr (Nat.le_refl _)).mono fun e w' ⟨h, hb⟩ => by
    rcases h with ⟨h, _⟩ | ⟨_, j, A', c', hj, hjj, rfl, hc, hC⟩
    · exact absurd b7 h
    · obtain rfl : 2 = j := by omega
      rw [b8] at hc hC
      exact ⟨A', c', by rw [b8]; rfl, hc, hC, hb⟩
theorem Run2 (w : World) (A : Option Addr) (c : Nat) (hr : Kd.C k51 w A 2 M2) (hc : 2 ≤ c) : Calls Try.prog 10 #[.slice A 2 c, .int .i64 1] w fun e w' => e = .returned (.tuple #[.int .i64 10, .int .i64 0]) ∧ Below w.heap.size w w' :=
  (Run_calls w A c M2 1 hr hc).mono fun e w' ⟨h, hb⟩ => by
    rcases h with ⟨h, _⟩ | ⟨_, j, hj, hjj, rfl⟩
    · exact absurd b9 h
    · obtain rfl : 1 = j := by omega
      exact ⟨by rw [show (1 + 1) = 2 from rfl, show (M2[1]).to_ = 1 from rfl, b10], hb⟩
theorem C5 {w : World} {g0 g1 g2 g3 : Nat} (h0 : w.heap[g0]? = some (.cells #[.int .i64 0] 3 (0, 0))) (h1 : w.heap[g1]? = some (.cells #[.int .i64 1] 3 (0, 0))) (h2 : w.heap[g2]? = some (.cells #[.int .i64 2, .int .i64 0] 3 (0, 0)))
    (h3 : w.heap[g3]? = some (.cells #[.slice none 0 0, .slice none 0 0, .slice (some ⟨g0, 0, none⟩) 1 1, .slice (some ⟨g1, 0, none⟩) 1 1, .slice (some ⟨g2, 0, none⟩) 2 2] 35 (0, 0))) : Kd.C k35 w (some ⟨g3, 0, none⟩) 5 L5 :=
  C_blk k35 (ps := L5) (cs := [.slice none 0 0, .slice none 0 0, .slice (some ⟨g0, 0, none⟩) 1 1, .slice (some ⟨g1, 0, none⟩) 1 1, .slice (some ⟨g2, 0, none⟩) 2 2]) h3
    (Reps.one (k35_mk w ⟨[]⟩ (c0 := 0) (Nat.le_refl _) (Kd.C_nil _ _)) (Reps.one (k35_mk w ⟨[]⟩ (c0 := 0) (Nat.le_refl _) (Kd.C_nil _ _)) (Reps.one (k35_mk w ⟨[0]⟩ (c0 := 1) (Nat.le_refl _) (C_lit [0] h0 (by decide))) (Reps.one (k35_mk w ⟨[1]⟩ (c0 := 1) (Nat.le_refl _) (C_lit [1] h1 (by decide))) (Reps.one (k35_mk w ⟨[2, 0]⟩ (c0 := 2) (Nat.le_refl _) (C_lit [2, 0] h2 (by decide))) (Reps.none _ _)))))) (by decide)
theorem k51_mk (w : World) (x : S51) : k51.K w x [.int .i64 x.to_, .int .i64 x.op, .int .i64 x.a, .int .i64 x.b] := ⟨_, _, rfl, rfl, _, _, rfl, rfl, _, _, rfl, rfl, rfl⟩
theorem C4 {w : World} {g : Nat} (h : w.heap[g]? = some (.cells #[.int .i64 1, .int .i64 3, .int .i64 5, .int .i64 0, .int .i64 2, .int .i64 3, .int .i64 9, .int .i64 0, .int .i64 1, .int .i64 0, .int .i64 1, .int .i64 1, .int .i64 3, .int .i64 2, .int .i64 1, .int .i64 7] 51 (0, 0))) : Kd.C k51 w (some ⟨g, 0, none⟩) 4 L4 :=
  C_blk k51 (ps := L4) (cs := [.int .i64 1, .int .i64 3, .int .i64 5, .int .i64 0, .int .i64 2, .int .i64 3, .int .i64 9, .int .i64 0, .int .i64 1, .int .i64 0, .int .i64 1, .int .i64 1, .int .i64 3, .int .i64 2, .int .i64 1, .int .i64 7]) h
    (Reps.c4 (k51_mk w ⟨1, 3, 5, 0⟩) (Reps.c4 (k51_mk w ⟨2, 3, 9, 0⟩) (Reps.c4 (k51_mk w ⟨1, 0, 1, 1⟩) (Reps.c4 (k51_mk w ⟨3, 2, 1, 7⟩) (Reps.none _ _))))) (by decide)

set_option maxHeartbeats 8000000 in
set_option maxRecDepth 100000 in
theorem begun_calls (w : World) : Calls Try.prog 9 #[] w fun e w' => e = .returned (.bool true) ∧ Below w.heap.size w w' := by
  go_enter Try.func9, Try.ntmps9
  go_wp2_with fail
  obtain ⟨W1, hW1⟩ : ∃ W1, W1 = (((w.alloc (.cells #[.int .i64 0] 3)).alloc (.cells #[.int .i64 1] 3)).alloc (.cells #[.int .i64 2, .int .i64 0] 3)).alloc (.cells #[.slice none 0 0, .slice none 0 0, .slice (some ⟨w.heap.size, 0, none⟩) 1 1, .slice (some ⟨w.heap.size + 1, 0, none⟩) 1 1, .slice (some ⟨w.heap.size + 1 + 1, 0, none⟩) 2 2] 35) := ⟨_, rfl⟩
  have HB1 := Aside0.mk (show Below w.heap.size w W1 by rw [hW1]; exact below_alloc (below_alloc (below_alloc (below_alloc (Below.refl _ _) _) _) _) _)
  have HC := Aside0.mk (show Kd.C k35 W1 (some ⟨w.heap.size + 1 + 1 + 1, 0, none⟩) 5 L5 from by
    have n0 := heap_alloc_new w (.cells #[.int .i64 0] 3)
    have n1 := heap_alloc_new (w.alloc (.cells #[.int .i64 0] 3)) (.cells #[.int .i64 1] 3)
    have n2 := heap_alloc_new ((w.alloc (.cells #[.int .i64 0] 3)).alloc (.cells #[.int .i64 1] 3)) (.cells #[.int .i64 2, .int .i64 0] 3)
    have n3 := heap_alloc_new (((w.alloc (.cells #[.int .i64 0] 3)).alloc (.cells #[.int .i64 1] 3)).alloc (.cells #[.int .i64 2, .int .i64 0] 3)) (.cells #[.slice none 0 0, .slice none 0 0, .slice (some ⟨w.heap.size, 0, none⟩) 1 1, .slice (some ⟨w.heap.size + 1, 0, none⟩) 1 1, .slice (some ⟨w.heap.size + 1 + 1, 0, none⟩) 2 2] 35)
    simp only [World.size_alloc] at n1 n2 n3
    rw [hW1]
    exact C5 (blk_alloc (blk_alloc (blk_alloc n0 _) _) _) (blk_alloc (blk_alloc n1 _) _) (blk_alloc n2 _) n3)
  (try rw [← hW1])
  clear hW1
  generalize w.heap.size + 1 + 1 + 1 = g5 at HC ⊢
  refine (Back5 _ _ HC.out).mono ?_
  rintro e w2 ⟨A2, c2, rfl, hc2, hC2, hb⟩
  have HB2 := Aside0.mk (below_then HB1.out HB1.out.size hb)
  have HC' := Aside0.mk (Kd.C_below HC.out hb)
  have HR2 := Aside0.mk hC2
  clear hb hC2 HC HB1
  go_wp2_with fail
  refine (On5 _ _ HC'.out).mono ?_
  rintro e w3 ⟨A3, c3, rfl, hc3, hC3, hb⟩
  have HB3 := Aside0.mk (below_then HB2.out HB2.out.size hb)
  have HC := Aside0.mk (Kd.C_below HC'.out hb)
  have HR2' := Aside0.mk (Kd.C_below HR2.out hb)
  have HR3 := Aside0.mk hC3
  clear hb hC3 HC' HB2 HR2
  go_wp2_with fail
  refine (Chop5 _ _ HC.out).mono ?_
  rintro e w4 ⟨A4, c4, rfl, hc4, hC4, hb⟩
  have HB4 := Aside0.mk (below_then HB3.out HB3.out.size hb)
  have HR2 := Aside0.mk (Kd.C_below HR2'.out hb)
  have HR3' := Aside0.mk (Kd.C_below HR3.out hb)
  have HR4 := Aside0.mk hC4
  clear hb hC4 HC HB3 HR2' HR3
  go_wp2_with fail
  have hW : Below w4.heap.size w4 (w4.alloc (.cells #[.int .i64 1, .int .i64 3, .int .i64 5, .int .i64 0, .int .i64 2, .int .i64 3, .int .i64 9, .int .i64 0, .int .i64 1, .int .i64 0, .int .i64 1, .int .i64 1, .int .i64 3, .int .i64 2, .int .i64 1, .int .i64 7] 51)) := below_alloc (Below.refl _ _) _
  refine (Alone4 _ _ (C4 (heap_alloc_new w4 _))).mono ?_
  rintro e w5 ⟨A5, c5, rfl, hc5, hC5, hb⟩
  have hb5 := below_then hW hW.size hb
  have HB5 := Aside0.mk (below_then HB4.out HB4.out.size hb5)
  have HR2' := Aside0.mk (Kd.C_below HR2.out hb5)
  have HR3 := Aside0.mk (Kd.C_below HR3'.out hb5)
  have HR4' := Aside0.mk (Kd.C_below HR4.out hb5)
  have HR5 := Aside0.mk hC5
  clear hb hC5 hW hb5 HB4 HR2 HR3' HR4
  go_wp2_with fail
  refine (Run2 _ _ _ HR5.out hc5).mono ?_
  rintro e w6 ⟨rfl, hb⟩
  have HB6 := Aside0.mk (below_then HB5.out HB5.out.size hb)
  have HR2 := Aside0.mk (Kd.C_below HR2'.out hb)
  have HR3' := Aside0.mk (Kd.C_below HR3.out hb)
  have HR4 := Aside0.mk (Kd.C_below HR4'.out hb)
  clear hb HR5 HB5 HR2' HR3 HR4'
  go_wp2_with fail
  refine (Same_true [0, 2, 4] (Kd.C_below HR2.out (below_alloc (Below.refl _ _) _)) (C_lit [0, 2, 4] (heap_alloc_new w6 _) (by decide))).mono ?_
  rintro e w7 ⟨rfl, hb⟩
  have hb7 := below_then (below_alloc (Below.refl w6.heap.size w6) (.cells #[.int .i64 0, .int .i64 2, .int .i64 4] 3)) (below_alloc (Below.refl w6.heap.size w6) (.cells #[.int .i64 0, .int .i64 2, .int .i64 4] 3)).size hb
  have HB7 := Aside0.mk (below_then HB6.out HB6.out.size hb7)
  have HR3 := Aside0.mk (Kd.C_below HR3'.out hb7)
  have HR4' := Aside0.mk (Kd.C_below HR4.out hb7)
  clear hb hb7 HB6 HR2 HR3' HR4
  go_wp2_with fail
  refine (Same_true [0, 2, 4] (Kd.C_below HR3.out (below_alloc (Below.refl _ _) _)) (C_lit [0, 2, 4] (heap_alloc_new w7 _) (by decide))).mono ?_
  rintro e w8 ⟨rfl, hb⟩
  have hb8 := below_then (below_alloc (Below.refl w7.heap.size w7) (.cells #[.int .i64 0, .int .i64 2, .int .i64 4] 3)) (below_alloc (Below.refl w7.heap.size w7) (.cells #[.int .i64 0, .int .i64 2, .int .i64 4] 3)).size hb
  have HB8 := Aside0.mk (below_then HB7.out HB7.out.size hb8)
  have HR4 := Aside0.mk (Kd.C_below HR4'.out hb8)
  clear hb hb8 HB7 HR3 HR4'
  go_wp2_with fail
  refine (Same_true [2, 4] (Kd.C_below HR4.out (below_alloc (Below.refl _ _) _)) (C_lit [2, 4] (heap_alloc_new w8 _) (by decide))).mono ?_
  rintro e w9 ⟨rfl, hb⟩
  have hb9 := below_then (below_alloc (Below.refl w8.heap.size w8) (.cells #[.int .i64 2, .int .i64 4] 3)) (below_alloc (Below.refl w8.heap.size w8) (.cells #[.int .i64 2, .int .i64 4] 3)).size hb
  have HB9 := Aside0.mk (below_then HB8.out HB8.out.size hb9)
  clear hb hb9 HB8 HR4
  go_wp2
  go_ret
  exact ⟨rfl, HB9.out⟩
theorem begunC {w w0 : World} (hb : Below w0.heap.size w0 w) : Calls Try.prog 9 #[] w fun e w' => e = .returned (.bool true) ∧ Below w0.heap.size w0 w' :=
  (begun_calls w).mono fun _ _ ⟨h1, h2⟩ => ⟨h1, below_step hb h2⟩
end Go.Proofs.Ytblalidpeccabaa.Sm
