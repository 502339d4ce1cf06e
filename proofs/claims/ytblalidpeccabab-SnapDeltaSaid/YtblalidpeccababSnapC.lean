/- snap.Flat of the begun state. -/
import Derived.Test.YtblalidpeccababSnapB
namespace Go.Proofs.Ytblalidpeccabab.Sn
open Go.Proofs.YtblalidpeccababW
open Go Go.RowKit Go.Lib Go.Proofs.YtblalidpeccababW.PrintWords Go.Proofs.YtblalidpeccababW.PrintLast Go.Proofs.YtblalidpeccababW.PrintMore Go.Proofs.Ytblalidpeccabab.PSnapDelta Go.Proofs.Ytblalidpeccabab.Bs
set_option linter.unusedVariables false
set_option linter.unusedSimpArgs false

def ab : ByteArray := ⟨#[97, 98]⟩
def flat0 : List Int := [0, 0, 1, 2, 97, 98, 0, 0, 0, 0, 3]
theorem textF_ab : [ab].flatMap textF = [2, 97, 98] := by rfl
/-- the state that was handed in, and the writer's variable, as they lie -/
structure Laid (A : Option Addr) (c sb : Nat) (w : World) : Prop where mk ::
  st : w.heap[sb]? = some (.cells #[.slice none 0 0, .slice none 0 0, .slice A 1 c, .slice none 0 0, .slice none 0 0, .slice none 0 0, .int .i64 0, .int .i64 3] 29 (0, 0))
  vr : w.heap[sb + 1 + 1]? = some (.cells #[.pointer (some ⟨sb + 1, 0, none⟩)] 61 (0, 0))
theorem Laid.cells {A : Option Addr} {c sb : Nat} {w : World} (h : Laid A c sb w) : w.cell? ⟨sb, 0, none⟩ = some (.slice none 0 0) ∧ w.cell? ⟨sb, 1, none⟩ = some (.slice none 0 0) ∧ w.cell? ⟨sb, 2, none⟩ = some (.slice A 1 c) ∧ w.cell? ⟨sb, 3, none⟩ = some (.slice none 0 0) ∧
    w.cell? ⟨sb, 4, none⟩ = some (.slice none 0 0) ∧ w.cell? ⟨sb, 5, none⟩ = some (.slice none 0 0) ∧ w.cell? ⟨sb, 6, none⟩ = some (.int .i64 0) ∧ w.cell? ⟨sb, 7, none⟩ = some (.int .i64 3) ∧ w.cell? ⟨sb + 1 + 1, 0, none⟩ = some (.pointer (some ⟨sb + 1, 0, none⟩)) :=
  ⟨blk_cell h.st 0, blk_cell h.st 1, blk_cell h.st 2, blk_cell h.st 3, blk_cell h.st 4, blk_cell h.st 5, blk_cell h.st 6, blk_cell h.st 7, blk_cell h.vr 0⟩

set_option maxHeartbeats 8000000 in
set_option maxRecDepth 100000 in
theorem flat_calls (w : World) (A : Option Addr) (c : Nat) (hr : Kd.C Kd.string w A 1 [ab]) (hc : 1 ≤ c) :
    Calls Try.prog 10 #[.agg #[.slice none 0 0, .slice none 0 0, .slice A 1 c, .slice none 0 0, .slice none 0 0, .slice none 0 0, .int .i64 0, .int .i64 3]] w fun e w' => ∃ A' c', e = .returned (.slice A' flat0.length c') ∧ flat0.length ≤ c' ∧ Kd.C (Kd.int .i64) w' A' flat0.length flat0 ∧ Below w.heap.size w w' := by
  have HR := Aside0.mk hr
  clear hr
  go_enter Try.func10, Try.ntmps10
  go_wp2_with fail
  obtain ⟨sb, hsb⟩ : ∃ sb, sb = w.heap.size := ⟨_, rfl⟩
  obtain ⟨W3, hW3⟩ : ∃ W3, W3 = ((w.alloc (.cells #[.slice none 0 0, .slice none 0 0, .slice A 1 c, .slice none 0 0, .slice none 0 0, .slice none 0 0, .int .i64 0, .int .i64 3] 29)).alloc (.cells #[.slice none 0 0] 63)).alloc (.cells #[.pointer (some ⟨w.heap.size + 1, 0, none⟩)] 61) := ⟨_, rfl⟩
  have n1 := heap_alloc_new w (.cells #[.slice none 0 0, .slice none 0 0, .slice A 1 c, .slice none 0 0, .slice none 0 0, .slice none 0 0, .int .i64 0, .int .i64 3] 29)
  have n2 := heap_alloc_new (w.alloc (.cells #[.slice none 0 0, .slice none 0 0, .slice A 1 c, .slice none 0 0, .slice none 0 0, .slice none 0 0, .int .i64 0, .int .i64 3] 29)) (.cells #[.slice none 0 0] 63)
  have n3 := heap_alloc_new ((w.alloc (.cells #[.slice none 0 0, .slice none 0 0, .slice A 1 c, .slice none 0 0, .slice none 0 0, .slice none 0 0, .int .i64 0, .int .i64 3] 29)).alloc (.cells #[.slice none 0 0] 63)) (.cells #[.pointer (some ⟨w.heap.size + 1, 0, none⟩)] 61)
  simp only [World.size_alloc] at n2 n3
  have HB3 := Aside0.mk (show Below w.heap.size w W3 by rw [hW3]; exact below_alloc (below_alloc (below_alloc (Below.refl _ _) _) _) _)
  have m1 : W3.heap[sb]? = some (.cells #[.slice none 0 0, .slice none 0 0, .slice A 1 c, .slice none 0 0, .slice none 0 0, .slice none 0 0, .int .i64 0, .int .i64 3] 29 (0, 0)) := by rw [hW3, hsb]; exact blk_alloc (blk_alloc n1 _) _
  have m2 : W3.heap[sb + 1]? = some (.cells #[.slice none 0 0] 63 (0, 0)) := by rw [hW3, hsb]; exact blk_alloc n2 _
  have m3 : W3.heap[sb + 1 + 1]? = some (.cells #[.pointer (some ⟨sb + 1, 0, none⟩)] 61 (0, 0)) := by rw [hW3, hsb]; exact n3
  have hob : ob W3 (sb + 1) = none := by rw [ob_of m2]; rfl
  have HS0 := Aside0.mk (show Step (sb + 1) W3 W3 from Step.refl _ _)
  have HW0 := Aside0.mk (show Wr w (sb + 1) W3 [] from ⟨by omega, ⟨_, m2, World.ownsRow_nil _ _ _ _⟩, HB3.out⟩)
  have FX := Aside0.mk (fun (W : World) (h : Step (sb + 1) W3 W) => Laid.mk (A := A) (c := c) (h.far m1 (by omega) (by rw [hob]; simp)) (h.far m3 (by omega) (by rw [hob]; simp)))
  (try rw [← hW3])
  (try rw [← hsb])
  clear hW3 hsb n1 n2 n3 m1 m2 m3 hob
  refine (many22_nil w (sb + 1) 23 _ _ W3 _ HW0.out (by first | (simp [LIM]; done) | (rw [textF_ab]; simp [LIM]))).mono ?_
  rintro e W1_ ⟨⟨v1, rfl⟩, h1, h2⟩
  have HW1 := Aside0.mk h1
  have HS1 := Aside0.mk (HS0.out.trans h2)
  clear h1 h2 HW0 HS0
  obtain ⟨c0, c1, c2, c3, c4, c5, c6, c7, cv⟩ := (FX.out W1_ HS1.out).cells
  go_wp2_with fail
  clear c0 c1 c2 c3 c4 c5 c6 c7 cv
  refine (many24_nil w (sb + 1) 25 _ _ W1_ _ HW1.out (by first | (simp [LIM]; done) | (rw [textF_ab]; simp [LIM]))).mono ?_
  rintro e W2_ ⟨⟨v2, rfl⟩, h1, h2⟩
  have HW2 := Aside0.mk h1
  have HS2 := Aside0.mk (HS1.out.trans h2)
  clear h1 h2 HW1 HS1
  obtain ⟨c0, c1, c2, c3, c4, c5, c6, c7, cv⟩ := (FX.out W2_ HS2.out).cells
  go_wp2_with fail
  clear c0 c1 c2 c3 c4 c5 c6 c7 cv
  refine (manyS_calls w (sb + 1) 28 #[.pointer (some ⟨sb + 1, 0, none⟩)] #[] (fun args w => enters_ Try.func28 (by kernel_rfl) rfl args w) textF A c [ab] W2_ _ HW2.out (fun w' o h _ => h.C HR.out) (fun x _ => emits28 w (sb + 1) W2_ x) (by rw [textF_ab]; simp [LIM])).mono ?_
  rintro e W3_ ⟨⟨v3, rfl⟩, h1, h2⟩
  have HW3 := Aside0.mk h1
  have HS3 := Aside0.mk (HS2.out.trans h2)
  clear h1 h2 HW2 HS2
  obtain ⟨c0, c1, c2, c3, c4, c5, c6, c7, cv⟩ := (FX.out W3_ HS3.out).cells
  go_wp2_with fail
  clear c0 c1 c2 c3 c4 c5 c6 c7 cv
  refine (many29_nil w (sb + 1) 30 _ _ W3_ _ HW3.out (by first | (simp [LIM]; done) | (rw [textF_ab]; simp [LIM]))).mono ?_
  rintro e W4_ ⟨⟨v4, rfl⟩, h1, h2⟩
  have HW4 := Aside0.mk h1
  have HS4 := Aside0.mk (HS3.out.trans h2)
  clear h1 h2 HW3 HS3
  obtain ⟨c0, c1, c2, c3, c4, c5, c6, c7, cv⟩ := (FX.out W4_ HS4.out).cells
  go_wp2_with fail
  clear c0 c1 c2 c3 c4 c5 c6 c7 cv
  refine (many31_nil w (sb + 1) 32 _ _ W4_ _ HW4.out (by first | (simp [LIM]; done) | (rw [textF_ab]; simp [LIM]))).mono ?_
  rintro e W5_ ⟨⟨v5, rfl⟩, h1, h2⟩
  have HW5 := Aside0.mk h1
  have HS5 := Aside0.mk (HS4.out.trans h2)
  clear h1 h2 HW4 HS4
  obtain ⟨c0, c1, c2, c3, c4, c5, c6, c7, cv⟩ := (FX.out W5_ HS5.out).cells
  go_wp2_with fail
  clear c0 c1 c2 c3 c4 c5 c6 c7 cv
  refine (many33_nil w (sb + 1) 34 _ _ W5_ _ HW5.out (by first | (simp [LIM]; done) | (rw [textF_ab]; simp [LIM]))).mono ?_
  rintro e W6_ ⟨⟨v6, rfl⟩, h1, h2⟩
  have HW6 := Aside0.mk h1
  have HS6 := Aside0.mk (HS5.out.trans h2)
  clear h1 h2 HW5 HS5
  obtain ⟨c0, c1, c2, c3, c4, c5, c6, c7, cv⟩ := (FX.out W6_ HS6.out).cells
  go_wp2_with fail
  clear c0 c1 c2 c3 c4 c5 c6 c7 cv
  have hb6 : Below W6_.heap.size W6_ (W6_.alloc (.cells #[.int .i64 0, .int .i64 3] 3)) := below_alloc (Below.refl _ _) _
  refine (put_calls w (sb + 1) _ _ _ 2 [0, 3] (HW6.out.keep hb6) (reads_lit W6_ [0, 3] (by simp) _) (by rw [textF_ab]; simp [LIM])).mono ?_
  rintro e W7_ ⟨⟨v7, rfl⟩, h1, h2⟩
  have HS7 := Aside0.mk ((HS6.out.trans (Step.of_below hb6 HW6.out.lt)).trans h2)
  rw [textF_ab] at h1
  have HW7 := Aside0.mk (show Wr w (sb + 1) W7_ flat0 from h1)
  clear h1 h2 hb6 HW6 HS6
  obtain ⟨c0, c1, c2, c3, c4, c5, c6, c7, cv⟩ := (FX.out W7_ HS7.out).cells
  obtain ⟨v, hv, ho⟩ := HW7.out.blk
  obtain ⟨A9, c9, rfl, hc9, hr9⟩ := own_rd ho
  have cw := blk_cell hv 0
  simp only [List.getElem?_toArray, List.getElem?_cons_zero] at cw
  have HR9 := Aside0.mk (C_int hr9)
  clear hv ho hr9
  go_wp2
  go_ret
  exact ⟨A9, c9, rfl, hc9, HR9.out, HW7.out.below⟩
end Go.Proofs.Ytblalidpeccabab.Sn
