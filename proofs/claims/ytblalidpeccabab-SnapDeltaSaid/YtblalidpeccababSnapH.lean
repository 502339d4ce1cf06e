/- snapBegun: it answers true. -/
import Derived.Test.YtblalidpeccababSnapG
import Derived.Test.YtblalidpeccababWRepsOne
import Derived.Test.YtblalidpeccababWEqStruct
namespace Go.Proofs.Ytblalidpeccabab.Sn
open Go.Proofs.YtblalidpeccababW
open Go Go.RowKit Go.Lib Go.Proofs.YtblalidpeccababW.PrintWords Go.Proofs.YtblalidpeccababW.PrintLast Go.Proofs.YtblalidpeccababW.PrintMore Go.Proofs.Ytblalidpeccabab.PSnapDelta Go.Proofs.Ytblalidpeccabab.Bs
set_option linter.unusedVariables false
set_option linter.unusedSimpArgs false

theorem C_lit {w : World} {g : Nat} {e : TypeId} (xs : List Int) (hg : w.heap[g]? = some (.cells (nums .i64 xs).toArray e (0, 0))) (hn : xs.length ≤ 1000) : Kd.C (Kd.int .i64) w (some ⟨g, 0, none⟩) xs.length xs :=
  C_int ⟨rfl, by omega, fun _ => ⟨_, rfl, fun j hj => by
    rw [add_plain, blk_cell hg]
    simp [nums, List.getD_eq_getElem?_getD, hj]⟩⟩
theorem C_str {w : World} {g : Nat} {e : TypeId} (s : ByteArray) (hg : w.heap[g]? = some (.cells #[.string s] e (0, 0))) : Kd.C Kd.string w (some ⟨g, 0, none⟩) 1 [s] :=
  Kd.C_of_reads (d := ByteArray.empty) (h1 := fun _ => rfl) ⟨rfl, by omega, fun _ => ⟨_, rfl, fun j hj => by
    obtain rfl : j = 0 := by omega
    rw [add_plain, blk_cell hg]; rfl⟩⟩
theorem Same_true {w : World} (L : List Int) {A A1 : Option Addr} {c c1 : Nat} (h : Kd.C (Kd.int .i64) w A L.length L) (h1 : Kd.C (Kd.int .i64) w A1 L.length L) : Calls Try.prog 12 #[.slice A L.length c, .slice A1 L.length c1] w fun e w' => e = .returned (.bool true) ∧ Below w.heap.size w w' :=
  (same_calls w A c L A1 c1 L (reads_of h) (reads_of h1)).mono fun e w' ⟨h, hb⟩ => ⟨by rw [h, decide_eq_true rfl], hb⟩
theorem eqA60 (d : Nat) (w : World) (x0 y0 : Int) (x1 y1 : Int) :
    (Op.equalIn (d + 2) 60 (.agg #[.int .i64 x0, .int .i64 x1]) (.agg #[.int .i64 y0, .int .i64 y1])).run Try.prog w = .ok (x0 == y0 && (x1 == y1)) w := by
  refine eqA_of Try.underlying60 (by kernel_rfl) ?_
  refine eqf_cons (by rfl) (by go_simp; rfl) (by go_simp; rfl) (by go_simp) ?_
  exact eqf_last (by rfl) (by go_simp; rfl) (by go_simp; rfl) (by go_simp)
attribute [local go_sem high] eqA60
theorem d0 : deltaF [1, 2] [1, 3, 0, 4] = [⟨1, 3⟩, ⟨3, 4⟩] := by rfl

set_option maxHeartbeats 8000000 in
set_option maxRecDepth 100000 in
theorem begun_calls (w : World) : Calls Try.prog 9 #[] w fun e w' => e = .returned (.bool true) ∧ Below w.heap.size w w' := by
  go_enter Try.func9, Try.ntmps9
  go_wp2_with fail
  have hW : Below w.heap.size w (w.alloc (.cells #[.string ab] 9)) := below_alloc (Below.refl _ _) _
  refine (flat_calls (w.alloc (.cells #[.string ab] 9)) (some ⟨w.heap.size, 0, none⟩) 1 (C_str ab (heap_alloc_new w _)) (Nat.le_refl _)).mono ?_
  rintro e w1 ⟨A1, c1, rfl, hc1, hC1, hb⟩
  have HB1 := Aside0.mk (below_then hW hW.size hb)
  have HC1 := Aside0.mk hC1
  clear hb hC1 hW
  go_wp2_with fail
  refine (back_calls w1 A1 c1 HC1.out hc1).mono ?_
  rintro e w2 ⟨A2, c2, rfl, hC2, hb⟩
  have HB2 := Aside0.mk (below_then HB1.out HB1.out.size hb)
  have HC1' := Aside0.mk (Kd.C_below HC1.out hb)
  have HC2 := Aside0.mk hC2
  clear hb hC2 HC1 HB1
  go_wp2_with fail
  have n1 := heap_alloc_new w2 (.cells #[.slice none 0 0, .slice none 0 0, .slice A2 1 c2, .slice none 0 0, .slice none 0 0, .slice none 0 0, .int .i64 0, .int .i64 3] 29)
  have n2 := heap_alloc_new (w2.alloc (.cells #[.slice none 0 0, .slice none 0 0, .slice A2 1 c2, .slice none 0 0, .slice none 0 0, .slice none 0 0, .int .i64 0, .int .i64 3] 29)) (.cells #[.int .i64 1, .int .i64 2] 3)
  have n3 := heap_alloc_new ((w2.alloc (.cells #[.slice none 0 0, .slice none 0 0, .slice A2 1 c2, .slice none 0 0, .slice none 0 0, .slice none 0 0, .int .i64 0, .int .i64 3] 29)).alloc (.cells #[.int .i64 1, .int .i64 2] 3)) (.cells #[.int .i64 1, .int .i64 3, .int .i64 0, .int .i64 4] 3)
  simp only [World.size_alloc] at n2 n3
  have hst := blk_alloc (blk_alloc n1 (.cells #[.int .i64 1, .int .i64 2] 3)) (.cells #[.int .i64 1, .int .i64 3, .int .i64 0, .int .i64 4] 3)
  have hb3 : Below w2.heap.size w2 (((w2.alloc (.cells #[.slice none 0 0, .slice none 0 0, .slice A2 1 c2, .slice none 0 0, .slice none 0 0, .slice none 0 0, .int .i64 0, .int .i64 3] 29)).alloc (.cells #[.int .i64 1, .int .i64 2] 3)).alloc (.cells #[.int .i64 1, .int .i64 3, .int .i64 0, .int .i64 4] 3)) := below_alloc (below_alloc (below_alloc (Below.refl _ _) _) _) _
  have hl1 := C_lit [1, 2] (blk_alloc n2 (.cells #[.int .i64 1, .int .i64 3, .int .i64 0, .int .i64 4] 3)) (by simp)
  have hl2 := C_lit [1, 3, 0, 4] n3 (by simp)
  refine (delta_calls _ (some ⟨w2.heap.size + 1, 0, none⟩) 2 [1, 2] (some ⟨w2.heap.size + 1 + 1, 0, none⟩) 4 [1, 3, 0, 4] hl1 (by simp) hl2 (by simp) (by simp) (by simp)).mono ?_
  rintro e w4 ⟨A4, c4, rfl, hc4, hC4, hb4⟩
  rw [d0] at hC4
  simp only [d0]
  have hbb := below_then hb3 hb3.size hb4
  have HB4 := Aside0.mk (below_then HB2.out HB2.out.size hbb)
  have HC14 := Aside0.mk (Kd.C_below HC1'.out hbb)
  have HC24 := Aside0.mk (Kd.C_below HC2.out hbb)
  have HST := Aside0.mk (blk_below hst hb4)
  have HC4 := Aside0.mk hC4
  clear n1 n2 n3 hst hb3 hl1 hl2 hC4 hb4 hbb HB2 HC1' HC2
  go_wp2_with fail
  have hl3 := C_lit flat0 (show (w4.alloc (.cells #[.int .i64 0, .int .i64 0, .int .i64 1, .int .i64 2, .int .i64 97, .int .i64 98, .int .i64 0, .int .i64 0, .int .i64 0, .int .i64 0, .int .i64 3] 3)).heap[w4.heap.size]? = some (.cells (nums .i64 flat0).toArray 3 (0, 0)) from heap_alloc_new w4 (.cells #[.int .i64 0, .int .i64 0, .int .i64 1, .int .i64 2, .int .i64 97, .int .i64 98, .int .i64 0, .int .i64 0, .int .i64 0, .int .i64 0, .int .i64 3] 3)) (by decide)
  have hb5 : Below w4.heap.size w4 (w4.alloc (.cells #[.int .i64 0, .int .i64 0, .int .i64 1, .int .i64 2, .int .i64 97, .int .i64 98, .int .i64 0, .int .i64 0, .int .i64 0, .int .i64 0, .int .i64 3] 3)) := below_alloc (Below.refl _ _) _
  refine (Same_true flat0 (Kd.C_below HC14.out hb5) hl3).mono ?_
  rintro e w5 ⟨rfl, hb⟩
  have hbb := below_then hb5 hb5.size hb
  have HB5 := Aside0.mk (below_then HB4.out HB4.out.size hbb)
  have hst := blk_below HST.out hbb
  have hC4 := Kd.C_below HC4.out hbb
  have hC2 := Kd.C_below HC24.out hbb
  have c2_ := blk_cell hst 2
  have c7 := blk_cell hst 7
  simp only [List.getElem?_toArray, List.getElem?_cons_zero, List.getElem?_cons_succ] at c2_ c7
  obtain ⟨ad, rfl, e0, e1⟩ := at_T60 hC4 0 (by omega) (by simp)
  obtain ⟨ad', h', e2, e3⟩ := at_T60 hC4 1 (by omega) (by simp)
  obtain rfl := Option.some.inj h'
  obtain ⟨ax, rfl, es⟩ := Kd.at_string hC2 0 (by omega) (by omega)
  replace e0 : w5.cell? ad = some (.int .i64 1) := e0
  replace e1 : w5.cell? ⟨ad.block, ad.off + 1, none⟩ = some (.int .i64 3) := e1
  replace e2 : w5.cell? ⟨ad.block, ad.off + 2, none⟩ = some (.int .i64 3) := e2
  replace e3 : w5.cell? ⟨ad.block, ad.off + 2 + 1, none⟩ = some (.int .i64 4) := e3
  replace es : w5.cell? ax = some (.string ⟨#[97, 98]⟩) := es
  clear h' hst hC4 hC2 hbb hb hb5 hl3 HST HC4 HC24 HC14 HB4
  go_wp2_with fail
  go_ret
  exact ⟨rfl, HB5.out⟩
theorem begunC {w w0 : World} (hb : Below w0.heap.size w0 w) : Calls Try.prog 9 #[] w fun e w' => e = .returned (.bool true) ∧ Below w0.heap.size w0 w' :=
  (begun_calls w).mono fun e w' ⟨h, hB⟩ => ⟨h, below_then hb hb.size hB⟩
end Go.Proofs.Ytblalidpeccabab.Sn
