/- slice.Chop: its walk. -/
import Derived.Test.YtblalidpeccabaaSliceH
namespace Go.Proofs.Ytblalidpeccabaa.Sm
open Go Go.RowKit Go.Lib Go.Proofs.YtblalidpeccabaaW.PrintWords Go.Proofs.YtblalidpeccabaaW.PrintLast Go.Proofs.YtblalidpeccabaaW.PrintMore Go.Proofs.Ytblalidpeccabaa.PHuntParts Go.Proofs.Ytblalidpeccabaa.Sc Go.Proofs.Ytblalidpeccabaa.Bs
set_option linter.unusedVariables false
set_option linter.unusedSimpArgs false

set_option maxHeartbeats 8000000 in
set_option maxRecDepth 100000 in
theorem Chop_calls (w : World) (A : Option Addr) (c : Nat) (l : List S35) (a b : Int) (hr : Kd.C k35 w A l.length l) (hc : l.length ≤ c) :
    Calls Try.prog 15 #[.slice A l.length c, .int .i64 a, .int .i64 b] w (Told w (chk (us l) [a, b]) (listed l.length [onF (us l) a.toNat, backF (us l) b.toNat])) := by
  have HR := Aside0.mk hr
  clear hr
  go_enter Try.func15, Try.ntmps15
  go_wp2_with fail
  have hW : Below w.heap.size w (w.alloc (.cells #[.int .i64 a, .int .i64 b] 3)) := below_alloc (Below.refl _ _) _
  refine (check_calls _ A c l (some ⟨w.heap.size, 0, none⟩) 2 [a, b] (Kd.C_below HR.out hW) hc (C_int (reads_lit w [a, b] (by simp) 3)) (Nat.le_refl _)).mono ?_
  rintro e w1 ⟨rfl, hb⟩
  have HB1 := Aside0.mk (below_then hW hW.size hb)
  clear hb hW
  by_cases h0 : chk (us l) [a, b] = 0
  · obtain ⟨hl, hf, hp⟩ := chk_zero.1 h0
    rw [us_length] at hl hp
    have hi := hp a (by simp)
    have hj := hp b (by simp)
    obtain ⟨i, rfl⟩ : ∃ i : Nat, a = (i : Int) := ⟨a.toNat, by omega⟩
    obtain ⟨j, rfl⟩ : ∃ j : Nat, b = (j : Int) := ⟨b.toNat, by omega⟩
    have hi' : i < l.length := by omega
    have hj' : j < l.length := by omega
    have HF := Aside0.mk hf
    have HC0 := Aside0.mk h0
    rw [h0]
    clear h0 hp hf
    have HLO := Aside0.mk (show (onF (us l) i).length = l.length by rw [onF_length HF.out (by rw [us_length]; exact hi'), us_length])
    have HLB := Aside0.mk (show (backF (us l) j).length = l.length by rw [backF_length HF.out (by rw [us_length]; exact hj'), us_length])
    go_wp2_with fail
    refine (on_calls w1 A c l i (Kd.C_below HR.out HB1.out) hc HF.out hl hi').mono ?_
    rintro e w2 ⟨rfl, hg2, hb⟩
    have HB2 := Aside0.mk (below_then HB1.out HB1.out.size hb)
    have HC2 := Aside0.mk (C_bools hg2 (by rw [HLO.out]; omega))
    clear hb hg2
    go_wp2_with fail
    refine (back_calls w2 A c l j (Kd.C_below HR.out HB2.out) hc HF.out hl hj').mono ?_
    rintro e w3 ⟨v, rfl, hR, hb⟩
    obtain ⟨A3, c3, rfl, hc3, hC3⟩ := Kd.R_reads hR
    have HB3 := Aside0.mk (below_then HB2.out HB2.out.size hb)
    have HC2' := Aside0.mk (Kd.C_below HC2.out hb)
    have HC3 := Aside0.mk hC3
    clear hR hb hC3 HC2
    obtain ⟨bs, hbs⟩ : ∃ bs, bs = backF (us l) j := ⟨_, rfl⟩
    obtain ⟨os, hos⟩ : ∃ os, os = onF (us l) i := ⟨_, rfl⟩
    rw [← hbs] at hc3 HC3 HLB ⊢
    rw [← hos] at HC2' HLO
    have HBS := Aside0.mk hbs
    have HOS := Aside0.mk hos
    clear hbs hos
    have hlo := HLO.out
    have hlb := HLB.out
    rw [hlo] at HC2'
    rw [hlb] at HC3 hc3 ⊢
    go_wp2_with fail
    refine (listed_calls (w3.alloc (.cells #[.slice (some ⟨w1.heap.size, 0, none⟩) l.length l.length, .slice A3 l.length c3] 57)) l.length w3.heap.size 57 [⟨some ⟨w1.heap.size, 0, none⟩, l.length, os⟩, ⟨A3, c3, bs⟩] hl (by simp)
      (by have := heap_alloc_new w3 (.cells #[.slice (some ⟨w1.heap.size, 0, none⟩) l.length l.length, .slice A3 l.length c3] 57); simpa [encL, hlo, hlb] using this) (fun x hx => by
      rcases List.mem_cons.1 hx with rfl | hx
      · exact ⟨by have := Kd.C_below HC2'.out (below_alloc (Below.refl w3.heap.size w3) (.cells #[.slice (some ⟨w1.heap.size, 0, none⟩) l.length l.length, .slice A3 l.length c3] 57)); simpa [hlo] using this, hlo⟩
      · obtain rfl : x = ⟨A3, c3, bs⟩ := by simpa using hx
        exact ⟨by have := Kd.C_below HC3.out (below_alloc (Below.refl w3.heap.size w3) (.cells #[.slice (some ⟨w1.heap.size, 0, none⟩) l.length l.length, .slice A3 l.length c3] 57)); simpa [hlb] using this, hlb⟩)).mono ?_
    rintro e w4 ⟨v, rfl, ho, hb⟩
    have HB4 := Aside0.mk (below_then (below_alloc HB3.out (.cells #[.slice (some ⟨w1.heap.size, 0, none⟩) l.length l.length, .slice A3 l.length c3] 57)) (below_alloc HB3.out _).size hb)
    have HO := Aside0.mk (own_less ho (show w.heap.size ≤ (w3.alloc (.cells #[.slice (some ⟨w1.heap.size, 0, none⟩) l.length l.length, .slice A3 l.length c3] 57)).heap.size from (below_alloc HB3.out _).size))
    clear hb ho
    go_wp2
    exact bodyPost_ret (v := .tuple #[v, .int .i64 0]) (by simp [results, Try.f15, go_sem]) rfl ⟨.inr ⟨HC0.out, v, rfl, by rw [Int.toNat_natCast, Int.toNat_natCast, ← HBS.out, ← HOS.out]; exact HO.out⟩, HB4.out⟩
  · have HX := Aside0.mk h0
    obtain ⟨r, hr⟩ : ∃ r, r = chk (us l) [a, b] := ⟨_, rfl⟩
    rw [← hr] at h0 ⊢
    have HRR := Aside0.mk hr
    have q0 : (r == 0) = false := beq_eq_false_iff_ne.mpr h0
    have q1 : (r != 0) = true := bne_iff_ne.mpr h0
    clear hr h0
    go_wp2
    exact bodyPost_ret (v := .tuple #[.slice none 0 0, .int .i64 r]) (by simp [results, Try.f15, go_sem]) rfl ⟨.inl ⟨HX.out, by rw [HRR.out]⟩, HB1.out⟩
end Go.Proofs.Ytblalidpeccabaa.Sm
