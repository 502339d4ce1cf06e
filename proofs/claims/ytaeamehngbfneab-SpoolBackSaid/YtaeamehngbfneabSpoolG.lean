/- spoolBegun: it answers true. -/
import Derived.Test.YtaeamehngbfneabSpoolE
namespace Go.Proofs.Ytaeamehngbfneab.Sp
open Go Go.RowKit Go.Lib Go.Proofs.YtaeamehngbfneabW.PrintWords Go.Proofs.YtaeamehngbfneabW.PrintLast Go.Proofs.YtaeamehngbfneabW.PrintMore Go.Proofs.Ytaeamehngbfneab.PSpoolBack Go.Proofs.Ytaeamehngbfneab.RegionVal
set_option linter.unusedVariables false
set_option linter.unusedSimpArgs false

def v0 : S28 := ⟨2, -2⟩
theorem v0_right : Right 2 (-2) := .inr (.inr (.inl ⟨rfl, by decide, by decide⟩))
theorem v0_in : In64 (-2) := ⟨by decide, by decide⟩
theorem v0_0 : rd (rec 2 (-2)) 0 = 2 := by simp [rd, rec, own]
theorem v0_8 : rd (rec 2 (-2)) 8 = 254 := by simp [rd, rec, own, big]

set_option maxHeartbeats 8000000 in
set_option maxRecDepth 100000 in
theorem begun_calls (w : World) : Calls Try.prog 15 #[] w fun e w' => e = .returned (.bool true) ∧ Below w.heap.size w w' := by
  go_enter Try.func15, Try.ntmps15
  go_wp2_with fail
  refine (Put_calls _ none 0 [] 2 (-2) (Kd.C_nil _ _) (Nat.le_refl _) (by simp) v0_right v0_in).mono ?_
  rintro e w1 ⟨A1, c1, rfl, hc1, hC1, hB1⟩
  rw [List.nil_append] at hc1 hC1
  rw [List.nil_append]
  have HL := Aside0.mk (rec_length 2 (-2))
  have HRD := Aside0.mk (show spool_Read.f 2000 (rec 2 (-2) ++ [1, 2]) = some ([v0], 13, 0) by
    have := read_whole [v0] [1, 2] (fun x hx => by obtain rfl : x = v0 := by simpa using hx
                                                   exact ⟨v0_right, v0_in⟩) (by simp) (by simp) (k := 2000) (by omega)
    simpa [bytes, v0] using this)
  have H0 := Aside0.mk v0_0
  have H8 := Aside0.mk v0_8
  generalize rec 2 (-2) = r at *
  have HB1 := Aside0.mk hB1
  have HC1 := Aside0.mk hC1
  clear hB1 hC1
  go_wp2_with (first
    | (at_builtin; refine print_append_row (w0 := w1) w1.heap.size rfl _ _ 42 5 .u8 1 rfl Try.underlying42 By.infoInt (by decide) _ [] r A1 r.length c1 rfl rfl (World.ownsRow_made w1 #[] 0 (Nat.le_refl _) (by decide) rfl) (reads_of8 (Kd.C_below HC1.out (below_alloc (Below.refl _ _) _))) (below_alloc (Below.refl _ _) _) (by simp) (by have := HL.out; simp; omega) ?_; intro v1 w2 hown hB hg hat; have HO1 := Aside0.mk hown; have HB2 := Aside0.mk hB; clear hown hB hg hat)
    | (at_builtin; refine print_append_row (w0 := w1) w1.heap.size rfl _ _ 42 5 .u8 1 rfl Try.underlying42 By.infoInt (by decide) _ r [1, 2] _ 2 2 rfl rfl (own_keep HO1.out (below_alloc (Below.refl _ _) _)) (reads_blk (heap_alloc_new _ _) (by simp)) (below_alloc HB2.out _) (below_alloc HB2.out _).size (by have := HL.out; simp; omega) ?_; intro v2 w3 hown hB hg hat; have HO2 := Aside0.mk hown; have HB3 := Aside0.mk hB; clear hown hB hg hat))
  obtain ⟨A4, c4, rfl, hc4, hr4⟩ := own_rdB HO2.out
  refine (spool_Read.calls 2000 A4 c4 (r ++ [1, 2]) [v0] 13 0 w3 (C_of_reads8 hr4) hc4 HRD.out).mono ?_
  rintro e w4 ⟨v4, rfl, hR4, hB4⟩
  obtain ⟨A5, c5, rfl, hc5, hC5⟩ := Kd.R_reads hR4
  have hB : Below w1.heap.size w1 w4 := below_then HB3.out HB3.out.size hB4
  have HB4 := Aside0.mk (below_then HB1.out HB1.out.size hB)
  have hC1 := Kd.C_below HC1.out hB
  obtain ⟨ad, rfl, q0, q1⟩ := at_T28 hC5 0 (by decide) (by decide)
  have e0 : rd_T28 [v0] 0 = v0 := rfl
  rw [e0] at q0 q1
  have hl := HL.out
  obtain ⟨ad1, e1, x0⟩ := Kd.at_int hC1 0 (by omega) (by omega)
  cases e1
  obtain ⟨ad2, e2, x8⟩ := Kd.at_int hC1 8 (by omega) (by omega)
  cases e2
  rw [H0.out] at x0
  rw [H8.out] at x8
  simp only [show ((0 : Int)).toNat = 0 from rfl, show ((8 : Int)).toNat = 8 from rfl, Nat.zero_mul, Nat.mul_one, Addr.add_zero'] at x0 x8 q0 q1
  have x8' : w4.cell? ⟨ad1.block, ad1.off + 8, none⟩ = some (.int .u8 254) := x8
  clear x8
  have h28 : ∀ (x0 x1 y0 y1 : Int) (w : World), (Op.equalIn 10000 28 (.agg #[.int .i64 x0, .int .i64 x1]) (.agg #[.int .i64 y0, .int .i64 y1])).run Try.prog w = .ok (x0 == y0 && (x1 == y1)) w := fun x0 x1 y0 y1 w => eqA28 9998 w x0 y0 x1 y1
  clear hR4 hB4 hB hC1 hC5 hr4 HO1 HO2 HB2 HB3
  simp only [v0, List.length_cons, List.length_nil, Nat.zero_add] at q0 q1 hc5 ⊢
  go_wp2
  go_ret
  exact ⟨rfl, HB4.out⟩
end Go.Proofs.Ytaeamehngbfneab.Sp
