/- slice.On: its walk. -/
import Derived.Test.YtblalidpeccabaaSliceG
namespace Go.Proofs.Ytblalidpeccabaa.Sm
open Go Go.RowKit Go.Lib Go.Proofs.YtblalidpeccabaaW.PrintWords Go.Proofs.YtblalidpeccabaaW.PrintLast Go.Proofs.YtblalidpeccabaaW.PrintMore Go.Proofs.Ytblalidpeccabaa.PHuntParts Go.Proofs.Ytblalidpeccabaa.Sc Go.Proofs.Ytblalidpeccabaa.Bs
set_option linter.unusedVariables false
set_option linter.unusedSimpArgs false

theorem C_bools {w : World} {g : Nat} {xs : List Bool} {T : TypeId} (h : w.heap[g]? = some (.cells (bools xs).toArray T (0, 0))) (hl : xs.length ≤ 1000) : Kd.C Kd.bool w (some ⟨g, 0, none⟩) xs.length xs :=
  Kd.C_of_reads (enc := Value.bool) (d := false) (h1 := fun _ => rfl) ⟨rfl, by omega, fun _ => ⟨_, rfl, fun k hk => by
    rw [add_plain, blk_cell h k]
    simp [bools, hk, List.getD_eq_getElem?_getD]⟩⟩

set_option maxHeartbeats 8000000 in
set_option maxRecDepth 100000 in
theorem On_calls (w : World) (A : Option Addr) (c : Nat) (l : List S35) (i : Int) (hr : Kd.C k35 w A l.length l) (hc : l.length ≤ c) :
    Calls Try.prog 14 #[.slice A l.length c, .int .i64 i] w (Told w (chk (us l) [i]) (listed l.length [onF (us l) i.toNat])) := by
  have HR := Aside0.mk hr
  clear hr
  go_enter Try.func14, Try.ntmps14
  go_wp2_with fail
  have hW : Below w.heap.size w (w.alloc (.cells #[.int .i64 i] 3)) := below_alloc (Below.refl _ _) _
  refine (check_calls _ A c l (some ⟨w.heap.size, 0, none⟩) 1 [i] (Kd.C_below HR.out hW) hc (C_int (reads_lit w [i] (by simp) 3)) (Nat.le_refl _)).mono ?_
  rintro e w1 ⟨rfl, hb⟩
  have HB1 := Aside0.mk (below_then hW hW.size hb)
  clear hb hW
  by_cases h0 : chk (us l) [i] = 0
  · obtain ⟨hl, hf, hp⟩ := chk_zero.1 h0
    rw [us_length] at hl hp
    have hi := hp i (by simp)
    obtain ⟨j, rfl⟩ : ∃ j : Nat, i = (j : Int) := ⟨i.toNat, by omega⟩
    have hj : j < l.length := by omega
    have HF := Aside0.mk hf
    have HC0 := Aside0.mk h0
    rw [h0]
    clear h0 hp hf
    have HLB := Aside0.mk (onF_length HF.out (show j < (us l).length by rw [us_length]; exact hj))
    go_wp2_with fail
    refine (on_calls w1 A c l j (Kd.C_below HR.out HB1.out) hc HF.out hl hj).mono ?_
    rintro e w2 ⟨rfl, hg2, hb⟩
    have HB2 := Aside0.mk (below_then HB1.out HB1.out.size hb)
    have HC2 := Aside0.mk (C_bools hg2 (by rw [HLB.out, us_length]; omega))
    clear hb hg2
    have hc2 : (onF (us l) j).length ≤ l.length := by rw [HLB.out, us_length]; omega
    have hlen : (onF (us l) j).length = l.length := by rw [HLB.out, us_length]
    rw [hlen] at HC2
    obtain ⟨bs, hbs⟩ : ∃ bs, bs = onF (us l) j := ⟨_, rfl⟩
    rw [← hbs] at hc2 HC2 HLB hlen
    have HBS := Aside0.mk hbs
    clear hbs
    go_wp2_with fail
    refine (listed_calls (w2.alloc (.cells #[.slice (some ⟨w1.heap.size, 0, none⟩) l.length l.length] 57)) l.length w2.heap.size 57 [⟨some ⟨w1.heap.size, 0, none⟩, l.length, bs⟩] hl (by simp) (by have := heap_alloc_new w2 (.cells #[.slice (some ⟨w1.heap.size, 0, none⟩) l.length l.length] 57); simpa [encL, hlen] using this) (fun x hx => by
      obtain rfl : x = ⟨some ⟨w1.heap.size, 0, none⟩, l.length, bs⟩ := by simpa using hx
      exact ⟨by have := Kd.C_below HC2.out (below_alloc (Below.refl w2.heap.size w2) (.cells #[.slice (some ⟨w1.heap.size, 0, none⟩) l.length l.length] 57)); simpa [hlen] using this, hlen⟩)).mono ?_
    rintro e w3 ⟨v, rfl, ho, hb⟩
    have HB3 := Aside0.mk (below_then HB2.out HB2.out.size (below_then (below_alloc (Below.refl w2.heap.size w2) (.cells #[.slice (some ⟨w1.heap.size, 0, none⟩) l.length l.length] 57)) (below_alloc (Below.refl w2.heap.size w2) _).size hb))
    have HO := Aside0.mk (own_less ho (show w.heap.size ≤ (w2.alloc (.cells #[.slice (some ⟨w1.heap.size, 0, none⟩) l.length l.length] 57)).heap.size from (below_alloc HB2.out _).size))
    clear hb ho
    go_wp2
    exact bodyPost_ret (v := .tuple #[v, .int .i64 0]) (by simp [results, Try.f14, go_sem]) rfl ⟨.inr ⟨HC0.out, v, rfl, by rw [Int.toNat_natCast, ← HBS.out]; exact HO.out⟩, HB3.out⟩
  · have HX := Aside0.mk h0
    obtain ⟨r, hr⟩ : ∃ r, r = chk (us l) [i] := ⟨_, rfl⟩
    rw [← hr] at h0 ⊢
    have HRR := Aside0.mk hr
    have q0 : (r == 0) = false := beq_eq_false_iff_ne.mpr h0
    have q1 : (r != 0) = true := bne_iff_ne.mpr h0
    clear hr h0
    go_wp2
    exact bodyPost_ret (v := .tuple #[.slice none 0 0, .int .i64 r]) (by simp [results, Try.f14, go_sem]) rfl ⟨.inl ⟨HX.out, by rw [HRR.out]⟩, HB1.out⟩
end Go.Proofs.Ytblalidpeccabaa.Sm
