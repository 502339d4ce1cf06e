/- slice.Back: its walk. -/
import Derived.Test.YtblalidpeccabaaSliceE
namespace Go.Proofs.Ytblalidpeccabaa.Sm
open Go Go.RowKit Go.Lib Go.Proofs.YtblalidpeccabaaW.PrintWords Go.Proofs.YtblalidpeccabaaW.PrintLast Go.Proofs.YtblalidpeccabaaW.PrintMore Go.Proofs.Ytblalidpeccabaa.PHuntParts Go.Proofs.Ytblalidpeccabaa.Sc Go.Proofs.Ytblalidpeccabaa.Bs
set_option linter.unusedVariables false
set_option linter.unusedSimpArgs false

/-- a list handed out, or an error's number -/
def Told (w : World) (r : Int) (L : List Int) (e : Ending) (w' : World) : Prop :=
  ((r ≠ 0 ∧ e = .returned (.tuple #[.slice none 0 0, .int .i64 r])) ∨ (r = 0 ∧ ∃ v, e = .returned (.tuple #[v, .int .i64 0]) ∧ w'.ownsRow w.heap.size 3 1 v L.length (nums .i64 L))) ∧ Below w.heap.size w w'
theorem C_int {w : World} {A : Option Addr} {n : Nat} {xs : List Int} (h : ReadsInt w .i64 A n xs) : Kd.C (Kd.int .i64) w A n xs := Kd.C_of_reads (d := (0 : Int)) (h1 := fun _ => rfl) h

set_option maxHeartbeats 8000000 in
set_option maxRecDepth 100000 in
theorem Back_calls (w : World) (A : Option Addr) (c : Nat) (l : List S35) (i : Int) (hr : Kd.C k35 w A l.length l) (hc : l.length ≤ c) :
    Calls Try.prog 12 #[.slice A l.length c, .int .i64 i] w (Told w (chk (us l) [i]) (listed l.length [backF (us l) i.toNat])) := by
  have HR := Aside0.mk hr
  clear hr
  go_enter Try.func12, Try.ntmps12
  go_wp2_with fail
  have hW : Below w.heap.size w (w.alloc (.cells #[.int .i64 i] 3)) := below_alloc (Below.refl _ _) _
  refine (check_calls _ A c l (some ⟨w.heap.size, 0, none⟩) 1 [i] (Kd.C_below HR.out hW) hc (C_int (reads_lit w [i] (by simp) 3)) (Nat.le_refl _)).mono ?_
  rintro e w1 ⟨rfl, hb⟩
  have HB1 := Aside0.mk (below_then hW hW.size hb)
  clear hb hW
  by_cases h0 : chk (us l) [i] = 0
  · obtain ⟨hl, hf, hp⟩ := chk_zero.1 h0
    rw [us_length] at hl hp
    have hi := hp i (by simp)
    obtain ⟨j, rfl⟩ : ∃ j : Nat, i = (j : Int) := ⟨i.toNat, by omega⟩
    have hj : j < l.length := by omega
    have HF := Aside0.mk hf
    have HC0 := Aside0.mk h0
    rw [h0]
    clear h0 hp hf
    have HLB := Aside0.mk (backF_length HF.out (show j < (us l).length by rw [us_length]; exact hj))
    go_wp2_with fail
    refine (back_calls w1 A c l j (Kd.C_below HR.out HB1.out) hc HF.out hl hj).mono ?_
    rintro e w2 ⟨v, rfl, hR, hb⟩
    obtain ⟨A2, c2, rfl, hc2, hC2⟩ := Kd.R_reads hR
    have HB2 := Aside0.mk (below_then HB1.out HB1.out.size hb)
    have HC2 := Aside0.mk hC2
    clear hR hb hC2
    obtain ⟨bs, hbs⟩ : ∃ bs, bs = backF (us l) j := ⟨_, rfl⟩
    rw [← hbs] at hc2 HC2 HLB ⊢
    have HBS := Aside0.mk hbs
    clear hbs
    go_wp2_with fail
    refine (listed_calls (w2.alloc (.cells #[.slice A2 bs.length c2] 57)) l.length w2.heap.size 57 [⟨A2, c2, bs⟩] hl (by simp) (heap_alloc_new w2 _) (fun x hx => by
      obtain rfl : x = ⟨A2, c2, bs⟩ := by simpa using hx
      exact ⟨Kd.C_below HC2.out (below_alloc (Below.refl _ _) _), by rw [HLB.out, us_length]⟩)).mono ?_
    rintro e w3 ⟨v, rfl, ho, hb⟩
    have HB3 := Aside0.mk (below_then HB2.out HB2.out.size (below_then (below_alloc (Below.refl w2.heap.size w2) (.cells #[.slice A2 bs.length c2] 57)) (below_alloc (Below.refl w2.heap.size w2) _).size hb))
    have HO := Aside0.mk (own_less ho (show w.heap.size ≤ (w2.alloc (.cells #[.slice A2 bs.length c2] 57)).heap.size from (below_alloc HB2.out _).size))
    clear hb ho
    go_wp2
    exact bodyPost_ret (v := .tuple #[v, .int .i64 0]) (by simp [results, Try.f12, go_sem]) rfl ⟨.inr ⟨HC0.out, v, rfl, by rw [Int.toNat_natCast, ← HBS.out]; exact HO.out⟩, HB3.out⟩
  · have HX := Aside0.mk h0
    obtain ⟨r, hr⟩ : ∃ r, r = chk (us l) [i] := ⟨_, rfl⟩
    rw [← hr] at h0 ⊢
    have HRR := Aside0.mk hr
    have q0 : (r == 0) = false := beq_eq_false_iff_ne.mpr h0
    have q1 : (r != 0) = true := bne_iff_ne.mpr h0
    clear hr h0
    go_wp2
    exact bodyPost_ret (v := .tuple #[.slice none 0 0, .int .i64 r]) (by simp [results, Try.f12, go_sem]) rfl ⟨.inl ⟨HX.out, by rw [HRR.out]⟩, HB1.out⟩
end Go.Proofs.Ytblalidpeccabaa.Sm
