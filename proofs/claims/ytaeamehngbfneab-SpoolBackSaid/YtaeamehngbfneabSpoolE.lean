/- spool.All: its walk. -/
import Derived.Test.YtaeamehngbfneabSpoolD
namespace Go.Proofs.Ytaeamehngbfneab.Sp
open Go Go.RowKit Go.Lib Go.Proofs.YtaeamehngbfneabW.PrintWords Go.Proofs.YtaeamehngbfneabW.PrintLast Go.Proofs.YtaeamehngbfneabW.PrintMore Go.Proofs.Ytaeamehngbfneab.PSpoolBack Go.Proofs.Ytaeamehngbfneab.RegionVal
set_option linter.unusedVariables false
set_option linter.unusedSimpArgs false

def Rights (l : List S28) : Prop := ∀ x ∈ l, Right x.f0 x.f1
def In64s (l : List S28) : Prop := ∀ x ∈ l, In64 x.f1
theorem Ok_of {l : List S28} (h : Rights l) (k : In64s l) : Ok l := fun x hx => ⟨h x hx, k x hx⟩
def AllPost (w : World) (l : List S28) (e : Ending) (w' : World) : Prop :=
  ((Rights l ∧ ∃ A' c', e = .returned (.tuple #[.slice A' (bytes l).length c', .int .i64 0]) ∧ (bytes l).length ≤ c' ∧ Kd.C (Kd.int .u8) w' A' (bytes l).length (bytes l)) ∨
   (¬ Rights l ∧ ∃ r : Int, r ≠ 0 ∧ e = .returned (.tuple #[.slice none 0 0, .int .i64 r]))) ∧ Below w.heap.size w w'
theorem bytes_snoc (l : List S28) (k : Nat) (h : k < l.length) : bytes (l.take (k + 1)) = bytes (l.take k) ++ rec l[k].f0 l[k].f1 := by
  rw [List.take_succ_eq_append_getElem h, bytes_append]
  simp [bytes]

set_option maxHeartbeats 8000000 in
set_option maxRecDepth 100000 in
theorem All_calls (w : World) (A : Option Addr) (c : Nat) (l : List S28) (hr : Kd.C k28 w A l.length l) (hc : l.length ≤ c) (hl : l.length ≤ 60) (h64 : In64s l) :
    Calls Try.prog 16 #[.slice A l.length c] w (AllPost w l) := by
  have HR := Aside0.mk hr
  have H64 := Aside0.mk h64
  clear hr h64
  go_enter Try.func16, Try.ntmps16
  go_wp2_with fail
  go_loopw [4, 11] (fun v i wr => ∃ k : Nat, k ≤ l.length ∧ i = .int .i64 (k : Int) ∧ Rights (l.take k) ∧ (∃ A' c', v = .slice A' (bytes (l.take k)).length c' ∧ (bytes (l.take k)).length ≤ c' ∧ Aside0 (Kd.C (Kd.int .u8) wr A' (bytes (l.take k)).length (bytes (l.take k)))) ∧ Aside0 (Below w.heap.size w wr)) (fun _ i _ => l.length - (intOf i).toNat)
  case atStart => exact ⟨0, Nat.zero_le _, rfl, by simp [Rights], ⟨none, 0, rfl, by simp [bytes], ⟨⟨rfl, by simp [bytes], fun h => by simp [bytes] at h⟩⟩⟩, ⟨Below.refl _ _⟩⟩
  case round =>
    obtain ⟨k, hk, rfl, hrt, ⟨A', c', rfl, hc', HC⟩, HB⟩ := hrel
    have HRT := Aside0.mk hrt
    clear hrt
    by_cases hlt : k < l.length
    · have hk1 : (k : Int) < (l.length : Int) := by omega
      obtain ⟨ad, rfl, h0, h1⟩ := at_T28 (Kd.C_below HR.out HB.out) (k : Int) (by omega) (by omega)
      have hrdk : rd_T28 l (k : Int) = l[k] := by simp [rd_T28, List.getD_eq_getElem?_getD, hlt]
      rw [hrdk] at h0 h1
      simp only [Int.toNat_natCast] at h0 h1
      have HT := Aside0.mk (bytes_snoc l k hlt)
      have HN := Aside0.mk (H64.out l[k] (List.getElem_mem _))
      have HTK := Aside0.mk (show l.take (k + 1) = l.take k ++ [l[k]] from List.take_succ_eq_append_getElem hlt)
      have HMEM := Aside0.mk (show l[k] ∈ l from List.getElem_mem _)
      have HBL := Aside0.mk (show (bytes (l.take k)).length ≤ 3900 by rw [bytes_length, List.length_take]; omega)
      clear hrdk
      obtain ⟨z, hz⟩ : ∃ z, z = l[k] := ⟨_, rfl⟩
      rw [← hz] at h0 h1
      rw [← hz] at HT HN HTK HMEM
      have HZ := Aside0.mk hz
      clear hz
      obtain ⟨B, hBy⟩ : ∃ B, B = bytes (l.take k) := ⟨_, rfl⟩
      rw [← hBy] at HC hc' HT HBL ⊢
      have HBy := Aside0.mk hBy
      clear hBy
      go_wp2_with fail
      by_cases hright : Right z.f0 z.f1
      · refine (Put_calls _ A' c' B z.f0 z.f1 (Kd.C_below HC.out (below_alloc (Below.refl _ _) _)) hc' HBL.out hright HN.out).mono ?_
        rintro e w2 ⟨A2, c2, rfl, hc2, hC2, hb2⟩
        have HB2 := Aside0.mk (below_then (below_alloc HB.out _) (below_alloc HB.out _).size hb2)
        have HC2 := Aside0.mk hC2
        have HR2 := Aside0.mk (show Rights (l.take (k + 1)) by
          rw [HTK.out]
          intro x hx
          rcases List.mem_append.1 hx with hx | hx
          · exact HRT.out x hx
          · obtain rfl : x = z := by simpa using hx
            exact hright)
        clear hb2 hC2
        go_wp2
        go_roundw
        case rel => exact ⟨k + 1, by omega, by simp, HR2.out, ⟨A2, c2, by rw [HT.out, List.length_append], by rw [HT.out]; exact hc2, ⟨by rw [HT.out]; exact HC2.out⟩⟩, HB2⟩
        case measure => simp [intOf]; omega
      · refine (Put_bad _ A' c' B.length z.f0 z.f1 HBL.out hright).mono ?_
        rintro e w2 ⟨⟨r, hr, rfl⟩, hb2⟩
        have HB2 := Aside0.mk (below_then (below_alloc HB.out _) (below_alloc HB.out _).size hb2)
        have HRR := Aside0.mk hr
        have hr' : (r == 0) = false := beq_eq_false_iff_ne.mpr hr
        have HNR := Aside0.mk (show ¬ Rights l from fun h => hright (h z HMEM.out))
        clear hb2 hr
        go_wp2
        exact bodyPost_ret (v := .tuple #[.slice none 0 0, .int .i64 r]) (by simp [results, Try.f16, go_sem]) rfl ⟨.inr ⟨HNR.out, r, HRR.out, rfl⟩, HB2.out⟩
    · have hk' : k = l.length := by omega
      subst hk'
      have HT := Aside0.mk (show l.take l.length = l from List.take_length)
      rw [HT.out] at HC HRT hc' ⊢
      go_wp2
      exact bodyPost_ret (v := .tuple #[.slice A' (bytes l).length c', .int .i64 0]) (by simp [results, Try.f16, go_sem]) rfl ⟨.inl ⟨HRT.out, A', c', rfl, hc', HC.out⟩, HB.out⟩
end Go.Proofs.Ytaeamehngbfneab.Sp
