/- RaceLocked: its walk and its row. -/
import Derived.Test.YtginlhengebgaaaRcL
import Derived.Test.YtginlhengebgaaaCkY
namespace Go.Proofs.Ytginlhengebgaaa.Ck
open Go Go.RowKit Go.Maps Go.Proofs.YtginlhengebgaaaW Go.Proofs.YtginlhengebgaaaW.PrintWords Go.Proofs.YtginlhengebgaaaW.PrintLast Go.Proofs.YtginlhengebgaaaW.PrintMore Go.Proofs.Ytginlhengebgaaa.PLockupEither Go.Proofs.Ytginlhengebgaaa.Bs Go.Proofs.Ytginlhengebgaaa.RegionVal Go.Proofs.Ytginlhengebgaaa.Lk Go.Proofs.Ytginlhengebgaaa.Open
open Go.Lib hiding intOf
set_option linter.unusedVariables false
set_option linter.unusedSimpArgs false
theorem info41w : (Try.prog.info? 41).map (fun i => (i.zero, i.size, i.bytes)) = some (some (v41 ⟨0, 0, 0⟩), 12, 96) := by kernel_rfl
theorem and3 (x : Int) : 0 ≤ bits .and .i64 x 3 ∧ bits .and .i64 x 3 < 4 := by
  have h : (BitVec.ofInt 64 x &&& BitVec.ofInt 64 3).toNat ≤ 3 := by
    rw [BitVec.toNat_and]
    exact Nat.le_trans Nat.and_le_right (by decide)
  show 0 ≤ IntKind.i64.wrap ((BitVec.ofInt 64 x &&& BitVec.ofInt 64 3).toNat : Int) ∧ IntKind.i64.wrap ((BitVec.ofInt 64 x &&& BitVec.ofInt 64 3).toNat : Int) < 4
  rw [IntKind.wrap_i64]
  omega
theorem C_cellB {w : World} {A : Option Addr} {n : Nat} {xs : List Bool} (h : Kd.C Kd.bool w A n xs) (i : Nat) (hi : i < xs.length) : ∃ ad, A = some ad ∧ w.cell? (ad.add i) = some (.bool xs[i]) := by
  obtain ⟨ad, c, e, hl, hK, hc⟩ := Kd.C_get h false (i : Int) (by omega) (by have := h.1; omega)
  rw [show xs.getD (Int.toNat (i : Int)) false = xs[i] by simp [List.getD_eq_getElem?_getD, hi]] at hK
  obtain rfl : c = [.bool xs[i]] := hK
  refine ⟨ad, e, ?_⟩
  have := hc 0 _ rfl
  rw [Int.toNat_natCast] at this
  rw [show Kd.bool.sz = 1 from rfl, Nat.mul_one, Nat.add_zero] at this
  exact this
def lkF (who slots : List Int) (writes : List Bool) (i : Nat) : Int × Int × Int := (bits .and .i64 (who.getD i 0) 3, if writes.getD i false then 4 else 3, bits .and .i64 (slots.getD i 0) 1)
theorem tris_chk {f : Nat → Int × Int × Int} (h : ∀ i, 0 ≤ (f i).1 ∧ (f i).1 < ((4 : Nat) : Int)) {n : Nat} (hn : n ≤ 30) : chkF (tris f n) 4 = 0 := by
  unfold chkF
  rw [if_neg (by rw [tris_len]; omega), if_neg (by decide), if_neg ?_]
  rw [Bool.not_eq_true, List.any_eq_false]
  intro x hx
  have h1 := tris_t h n x hx
  unfold badT
  simp only [Bool.or_eq_true, decide_eq_true_eq]
  omega
set_option maxHeartbeats 32000000 in
set_option maxRecDepth 100000 in
theorem raceLocked_walk (w : World) (A1 : Option Addr) (c1 : Nat) (who : List Int) (lc1 : who.length ≤ c1) (h1 : Kd.C Lk.kI w A1 who.length who) (A2 : Option Addr) (c2 : Nat) (slots : List Int) (lc2 : slots.length ≤ c2) (h2 : Kd.C Lk.kI w A2 slots.length slots)
    (A3 : Option Addr) (c3 : Nat) (writes : List Bool) (lc3 : writes.length ≤ c3) (h3 : Kd.C Kd.bool w A3 writes.length writes) :
    Calls Try.prog 11 #[.slice A1 who.length c1, .slice A2 slots.length c2, .slice A3 writes.length c3] w fun e w' => e = .returned (.bool true) ∧ Below w.heap.size w w' := by
  have HW0 := Aside0.mk h1
  have HS0 := Aside0.mk h2
  have HR0 := Aside0.mk h3
  have hwl := h1.2.1
  have hsl := h2.2.1
  have hrl := h3.2.1
  clear h1 h2 h3
  go_enter Try.func11, Try.ntmps11
  go_wp2_with fail
  refine (rbegun_calls w).mono ?_
  rintro e w1 ⟨rfl, hb1⟩
  have HB1 := Aside0.mk hb1
  have HWR := Aside0.mk (Kd.C_below HW0.out hb1)
  have HSR := Aside0.mk (Kd.C_below HS0.out hb1)
  have HRR := Aside0.mk (Kd.C_below HR0.out hb1)
  clear hb1 HW0 HS0 HR0
  obtain ⟨f, hf⟩ : ∃ f, f = lkF who slots writes := ⟨_, rfl⟩
  have HF := Aside0.mk hf
  have HFT := Aside0.mk (show ∀ i, 0 ≤ (f i).1 ∧ (f i).1 < ((4 : Nat) : Int) from fun i => by rw [hf]; exact and3 _)
  clear hf
  go_wp2_with fail
  go_loopw [7, 8] (fun v7 v8 wr => ∃ (n : Nat), v8 = .int .i64 (n : Int) ∧ n ≤ 30 ∧ Aside0 (Kd.R kC 41 wr w1.heap.size (fun _ => True) v7 (tris f n)) ∧ Aside0 (Below w1.heap.size w1 wr)) (fun _ v8 _ => 30 - (intOf v8).toNat)
  case atStart => exact ⟨0, rfl, by omega, ⟨Kd.R_nil _ _ _ _ _⟩, ⟨Below.refl _ _⟩⟩
  case round =>
    obtain ⟨n, rfl, hn, HO, HB⟩ := hrel
    by_cases hlt : n < who.length ∧ n < slots.length ∧ n < writes.length ∧ n < 30
    · obtain ⟨q1, q2, q3, q4⟩ := hlt
      have z1 : (n : Int) < (who.length : Int) := by omega
      have z2 : (n : Int) < (slots.length : Int) := by omega
      have z3 : (n : Int) < (writes.length : Int) := by omega
      have z4 : (n : Int) < 30 := by omega
      obtain ⟨ad1, rfl, k1⟩ := C_cell (Kd.C_below HWR.out HB.out) n q1
      obtain ⟨ad2, rfl, k2⟩ := C_cell (Kd.C_below HSR.out HB.out) n q2
      obtain ⟨ad3, rfl, k3⟩ := C_cellB (Kd.C_below HRR.out HB.out) n q3
      have HFN := Aside0.mk (show f n = (bits .and .i64 who[n] 3, if writes[n] then 4 else 3, bits .and .i64 slots[n] 1) by
        rw [HF.out]
        unfold lkF
        simp [List.getD_eq_getElem?_getD, q1, q2, q3])
      generalize who[n] = x at k1 HFN
      generalize slots[n] = s at k2 HFN
      generalize writes[n] = b at k3 HFN
      have HSZ := Aside0.mk HB.out.size
      have HL := Aside0.mk (show ((tris f n).length + 3) * 96 ≤ 140737488355328 by rw [tris_len]; omega)
      cases b with
      | true =>
        go_wp2_with (first
          | (at_builtin; refine Kd.R_append_rows kC (w0 := wr) w1.heap.size rfl _ _ 37 41 (v41 ⟨0, 0, 0⟩) 96 rfl Try.underlying37 info41w rfl (by decide) (by omega) _ (tris f n) (tri (bits .and .i64 x 3) 4 (bits .and .i64 s 1)) _ 3 3 (fun _ => True) (fun _ => False) rfl rfl (Kd.R_alloc HO.out _) (C_flat kC cC (fun _ x => cC_in x) (fun _ => rfl) (tri (bits .and .i64 x 3) 4 (bits .and .i64 s 1)) (by simp [tri]) (heap_alloc_new _ _)) (fun x cs h => h) (fun _ h => h.elim) (fun _ _ => trivial) (Below.alloc (Below.refl w1.heap.size wr) HSZ.out _) (Nat.le_trans HSZ.out (below_alloc (Below.refl _ _) _).size) HL.out ?_; intro v2 w7 hown7 hB hg hat; have HO7 := Aside0.mk hown7; have HB7 := Aside0.mk (Below.trans HB.out hB); clear hown7 hB hg hat)
          | fail)
        have HO8 := Aside0.mk (show Kd.R kC 41 w7 w1.heap.size (fun _ => True) v2 (tris f (n + 1)) by
          rw [tris_succ, HFN.out]
          exact HO7.out)
        clear HO HO7 HB
        go_roundw
        case rel => exact ⟨n + 1, by go_num, by omega, HO8, HB7⟩
        case measure => simp [intOf]; omega
      | false =>
        go_wp2_with (first
          | (at_builtin; refine Kd.R_append_rows kC (w0 := wr) w1.heap.size rfl _ _ 37 41 (v41 ⟨0, 0, 0⟩) 96 rfl Try.underlying37 info41w rfl (by decide) (by omega) _ (tris f n) (tri (bits .and .i64 x 3) 3 (bits .and .i64 s 1)) _ 3 3 (fun _ => True) (fun _ => False) rfl rfl (Kd.R_alloc HO.out _) (C_flat kC cC (fun _ x => cC_in x) (fun _ => rfl) (tri (bits .and .i64 x 3) 3 (bits .and .i64 s 1)) (by simp [tri]) (heap_alloc_new _ _)) (fun x cs h => h) (fun _ h => h.elim) (fun _ _ => trivial) (Below.alloc (Below.refl w1.heap.size wr) HSZ.out _) (Nat.le_trans HSZ.out (below_alloc (Below.refl _ _) _).size) HL.out ?_; intro v2 w7 hown7 hB hg hat; have HO7 := Aside0.mk hown7; have HB7 := Aside0.mk (Below.trans HB.out hB); clear hown7 hB hg hat)
          | fail)
        have HO8 := Aside0.mk (show Kd.R kC 41 w7 w1.heap.size (fun _ => True) v2 (tris f (n + 1)) by
          rw [tris_succ, HFN.out]
          exact HO7.out)
        clear HO HO7 HB
        go_roundw
        case rel => exact ⟨n + 1, by go_num, by omega, HO8, HB7⟩
        case measure => simp [intOf]; omega
    · obtain ⟨B, d, rfl, hd, hRC⟩ := Kd.R_reads HO.out
      have HAL := Aside0.mk (All_calls wr B d (tris f n) 4 hRC hd)
      rw [tris_chk HFT.out hn] at HAL
      have HBB := Aside0.mk (below_then HB1.out HB1.out.size HB.out)
      clear hRC hd
      by_cases q1 : n < who.length
      · have z1 : (n : Int) < (who.length : Int) := by omega
        by_cases q2 : n < slots.length
        · have z2 : (n : Int) < (slots.length : Int) := by omega
          by_cases q3 : n < writes.length
          · have z3 : (n : Int) < (writes.length : Int) := by omega
            have z4 : (30 : Int) ≤ (n : Int) := by omega
            clear hlt q1 q2 q3
            go_wp2_with fail
            refine HAL.out.mono ?_
            rintro e w8 ⟨v8, rfl, hv8, _, hb8⟩
            obtain ⟨E, hE, hRE⟩ := hv8 trivial
            rw [show (4 : Int).toNat = 4 from rfl, chain_races hE (tris_t HFT.out n) (tris_chain f n)] at hRE
            obtain ⟨B8, d8, rfl, _, _⟩ := Kd.R_reads hRE
            have HB8 := Aside0.mk (below_then HBB.out HBB.out.size hb8)
            clear hv8 hE hRE hb8 HAL HBB HO HB
            go_wp2_with fail
            refine (rbegun_calls _).mono ?_
            rintro e w9 ⟨rfl, hb9⟩
            have HB9 := Aside0.mk (below_then HB8.out HB8.out.size hb9)
            clear hb9 HB8
            go_wp2
            exact bodyPost_ret (v := .bool true) (by simp [results, Try.f11, go_sem]) rfl ⟨rfl, HB9.out⟩
          · have z3 : (writes.length : Int) ≤ (n : Int) := by omega
            clear hlt q1 q2 q3
            go_wp2_with fail
            refine HAL.out.mono ?_
            rintro e w8 ⟨v8, rfl, hv8, _, hb8⟩
            obtain ⟨E, hE, hRE⟩ := hv8 trivial
            rw [show (4 : Int).toNat = 4 from rfl, chain_races hE (tris_t HFT.out n) (tris_chain f n)] at hRE
            obtain ⟨B8, d8, rfl, _, _⟩ := Kd.R_reads hRE
            have HB8 := Aside0.mk (below_then HBB.out HBB.out.size hb8)
            clear hv8 hE hRE hb8 HAL HBB HO HB
            go_wp2_with fail
            refine (rbegun_calls _).mono ?_
            rintro e w9 ⟨rfl, hb9⟩
            have HB9 := Aside0.mk (below_then HB8.out HB8.out.size hb9)
            clear hb9 HB8
            go_wp2
            exact bodyPost_ret (v := .bool true) (by simp [results, Try.f11, go_sem]) rfl ⟨rfl, HB9.out⟩
        · have z2 : (slots.length : Int) ≤ (n : Int) := by omega
          clear hlt q1 q2
          go_wp2_with fail
          refine HAL.out.mono ?_
          rintro e w8 ⟨v8, rfl, hv8, _, hb8⟩
          obtain ⟨E, hE, hRE⟩ := hv8 trivial
          rw [show (4 : Int).toNat = 4 from rfl, chain_races hE (tris_t HFT.out n) (tris_chain f n)] at hRE
          obtain ⟨B8, d8, rfl, _, _⟩ := Kd.R_reads hRE
          have HB8 := Aside0.mk (below_then HBB.out HBB.out.size hb8)
          clear hv8 hE hRE hb8 HAL HBB HO HB
          go_wp2_with fail
          refine (rbegun_calls _).mono ?_
          rintro e w9 ⟨rfl, hb9⟩
          have HB9 := Aside0.mk (below_then HB8.out HB8.out.size hb9)
          clear hb9 HB8
          go_wp2
          exact bodyPost_ret (v := .bool true) (by simp [results, Try.f11, go_sem]) rfl ⟨rfl, HB9.out⟩
      · have z1 : (who.length : Int) ≤ (n : Int) := by omega
        clear hlt q1
        go_wp2_with fail
        refine HAL.out.mono ?_
        rintro e w8 ⟨v8, rfl, hv8, _, hb8⟩
        obtain ⟨E, hE, hRE⟩ := hv8 trivial
        rw [show (4 : Int).toNat = 4 from rfl, chain_races hE (tris_t HFT.out n) (tris_chain f n)] at hRE
        obtain ⟨B8, d8, rfl, _, _⟩ := Kd.R_reads hRE
        have HB8 := Aside0.mk (below_then HBB.out HBB.out.size hb8)
        clear hv8 hE hRE hb8 HAL HBB HO HB
        go_wp2_with fail
        refine (rbegun_calls _).mono ?_
        rintro e w9 ⟨rfl, hb9⟩
        have HB9 := Aside0.mk (below_then HB8.out HB8.out.size hb9)
        clear hb9 HB8
        go_wp2
        exact bodyPost_ret (v := .bool true) (by simp [results, Try.f11, go_sem]) rfl ⟨rfl, HB9.out⟩
theorem raceLocked_row (w : World) (A1 : Option Addr) (c1 : Nat) (who : List Int) (lc1 : who.length ≤ c1) (h1 : Kd.C Lk.kI w A1 who.length who) (_b1 : True) (A2 : Option Addr) (c2 : Nat) (slots : List Int) (lc2 : slots.length ≤ c2) (h2 : Kd.C Lk.kI w A2 slots.length slots) (_b2 : True)
    (A3 : Option Addr) (c3 : Nat) (writes : List Bool) (lc3 : writes.length ≤ c3) (h3 : Kd.C Kd.bool w A3 writes.length writes) (_b3 : True) :
    Calls Try.prog 11 #[.slice A1 who.length c1, .slice A2 slots.length c2, .slice A3 writes.length c3] w fun e w' => e = .returned (.bool true) ∧ Below w.heap.size w w' :=
  raceLocked_walk w A1 c1 who lc1 h1 A2 c2 slots lc2 h2 A3 c3 writes lc3 h3
theorem opens24m : Opens Try.prog 24 (Kd.slice 3 Lk.kI) (fun _ => True) := (opens_slice Try.underlying24 (by kernel_rfl) opens_int3c).imp (fun _ _ => trivial)
theorem opens62 : Opens Try.prog 62 (Kd.slice 4 Kd.bool) (fun _ => True) := (opens_slice Try.underlying62 (by kernel_rfl) (opens_bool Try.underlying4)).imp (fun _ _ => trivial)
end Go.Proofs.Ytginlhengebgaaa.Ck
