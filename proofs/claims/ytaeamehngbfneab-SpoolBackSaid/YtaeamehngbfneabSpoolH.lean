/- SpoolTorn: the call answers true, whatever comes in. -/
import Derived.Test.YtaeamehngbfneabSpoolG
import Derived.Test.YtaeamehngbfneabOpen
namespace Go.Proofs.Ytaeamehngbfneab.Sp
open Go Go.RowKit Go.Lib Go.Proofs.YtaeamehngbfneabW.PrintWords Go.Proofs.YtaeamehngbfneabW.PrintLast Go.Proofs.YtaeamehngbfneabW.PrintMore Go.Proofs.Ytaeamehngbfneab.PSpoolBack Go.Proofs.Ytaeamehngbfneab.RegionVal Go.Proofs.Ytaeamehngbfneab.Open
attribute [local go_sem] max2_int min2_int max_two min_two
set_option linter.unusedVariables false
set_option linter.unusedSimpArgs false

theorem wf64 {n : Int} (h : (Lit.int .i64 n).wf = true) : In64 n := by
  simp only [Lit.wf, IntKind.min, IntKind.max, IntKind.signed, IntKind.bits, Bool.and_eq_true, decide_eq_true_eq, if_true] at h
  unfold In64
  omega
theorem opens_int3 : Opens Try.prog 3 (Kd.int .i64) (fun n => (Lit.int .i64 n).wf = true) := opens_int Try.underlying3
theorem opens28 : Opens Try.prog 28 k28 (fun x => In64 x.f1) :=
  (opens_iso (fun x : S28 => (x.f0, x.f1)) (fun x => ⟨x.1, x.2⟩) (fun _ => rfl)
    (opens_struct Try.underlying28 (by kernel_rfl) (opensF_cons opens_int3 (by kernel_rfl) (opensF_one opens_int3 (by kernel_rfl))))).imp (fun _ h => wf64 h.2)
theorem opens41 : Opens Try.prog 41 (Kd.slice 28 k28) (fun l => l.length ≤ 9223372036854775807 ∧ l.length * Try.prog.bytesOf 28 ≤ 140737488351232 ∧ ∀ a ∈ l, In64 a.f1) :=
  opens_slice Try.underlying41 (by kernel_rfl) opens28
theorem begunC {w w0 : World} (hb : Below w0.heap.size w0 w) : Calls Try.prog 15 #[] w fun e w' => e = .returned (.bool true) ∧ Below w0.heap.size w0 w' :=
  (begun_calls w).mono fun _ _ ⟨h1, h2⟩ => ⟨h1, below_step hb h2⟩
theorem min_cut (n : Nat) (b : Int) (hb0 : 0 ≤ b) (hb : b ≤ 1000) (hn : n ≤ 9223372036854775807) : ∃ m : Nat, m ≤ n ∧ (m : Int) ≤ b ∧ (if b < (n : Int) then b else (n : Int)) = (m : Int) := by
  refine ⟨min n b.toNat, by omega, by omega, ?_⟩
  split <;> omega
theorem Ok_take {l : List S28} (h : Ok l) (n : Nat) : Ok (l.take n) := fun x hx => h x (List.mem_of_mem_take hx)

theorem ReadC {w w0 : World} (hb : Below w0.heap.size w0 w) (A : Option Addr) (c n : Nat) (b : List Int) (r1 : List S28) (r2 r3 : Int) (hn : b.length = n) (hr : Kd.C (Kd.int .u8) w A n b) (hc : n ≤ c) (h : spool_Read.f 2000 b = some (r1, r2, r3)) :
    Calls Try.prog 17 #[.slice A n c] w fun e w' => ∃ A' c', e = .returned (.tuple #[.slice A' r1.length c', .int .i64 r2, .int .i64 r3]) ∧ r1.length ≤ c' ∧ Kd.C k28 w' A' r1.length r1 ∧ Below w0.heap.size w0 w' := by
  subst hn
  refine (spool_Read.calls 2000 A c b r1 r2 r3 w hr hc h).mono ?_
  rintro e w' ⟨v, rfl, hR, hB⟩
  obtain ⟨A', c', rfl, hc', hC⟩ := Kd.R_reads hR
  exact ⟨A', c', rfl, hc', hC, below_step hb hB⟩
theorem sameC {w w0 : World} (hb : Below w0.heap.size w0 w) (A1 A2 : Option Addr) (c1 c2 n1 n2 : Nat) (l : List S28) (h1 : l.length = n1) (h2 : l.length = n2) (hl : l.length ≤ 1000) (hr1 : Kd.C k28 w A1 n1 l) (hc1 : n1 ≤ c1) (hr2 : Kd.C k28 w A2 n2 l) (hc2 : n2 ≤ c2) :
    Calls Try.prog 18 #[.slice A1 n1 c1, .slice A2 n2 c2] w fun e w' => e = .returned (.bool true) ∧ Below w0.heap.size w0 w' := by
  subst h1
  obtain rfl := h2
  refine (backstitchref4_SameVals.calls 2000 A1 c1 l A2 c2 l true w hr1 hc1 hr2 hc2 (same_f l hl)).mono ?_
  rintro e w' ⟨rfl, ⟨q, rfl⟩⟩
  exact ⟨rfl, pw_below_drewN hb q⟩

set_option maxHeartbeats 16000000 in
set_option maxRecDepth 100000 in
theorem spoolTorn_walk (w : World) (A : Option Addr) (c : Nat) (l : List S28) (lc : l.length ≤ c) (hr : Kd.C k28 w A l.length l) (_B : l.length ≤ 9223372036854775807 ∧ l.length * Try.prog.bytesOf 28 ≤ 140737488351232 ∧ ∀ a ∈ l, In64 a.f1)
    (a : Int) (hwf : (Lit.int .i64 a).wf = true) :
    Calls Try.prog 7 #[.slice A l.length c, .int .i64 a] w fun e w' => e = .returned (.bool true) ∧ Below w.heap.size w w' := by
  have hl0 := _B.1
  have h64 := _B.2.2
  have HWF := Aside0.mk (wf64 hwf)
  obtain ⟨n1, hn1, b1, hm1⟩ := min_cut l.length 60 (by omega) (by omega) hl0
  have hT1 := Kd.C_take hr hn1
  obtain ⟨l', hl'⟩ : ∃ l', l' = l.take n1 := ⟨_, rfl⟩
  have h64' : In64s l' := by rw [hl']; exact fun x hx => h64 x (List.mem_of_mem_take hx)
  rw [← hl'] at hT1
  have e1 : l'.length = n1 := by rw [hl', List.length_take]; omega
  have b3 : n1 ≤ c := by omega
  subst e1
  have HT := Aside0.mk hT1
  have H64 := Aside0.mk h64'
  have HM1 := Aside0.mk hm1
  clear hr _B hl' hT1 hm1 hn1 h64 h64' hwf
  have HB := Aside0.mk (Below.refl w.heap.size w)
  go_enter Try.func7, Try.ntmps7
  go_wp2_with fail
  refine (begunC HB.out).mono ?_
  rintro e w1 ⟨rfl, hb⟩
  have HB1 := Aside0.mk hb; clear hb
  have hm1 := HM1.out
  go_wp2_with fail
  refine (All_calls w1 A c l' (Kd.C_below HT.out HB1.out) b3 (by omega) H64.out).mono ?_
  rintro e w2 ⟨⟨hrt, A2, c2, rfl, hc2, hC2⟩ | ⟨hrt, r, hr0, rfl⟩, hb⟩
  · have HB2 := Aside0.mk (below_then HB1.out HB1.out.size hb)
    have HC2 := Aside0.mk hC2
    have HRT := Aside0.mk hrt
    have hbl := bytes_length l'
    have HBL := Aside0.mk hbl
    clear hb hC2 hrt
    obtain ⟨B, hBy⟩ : ∃ B, B = bytes l' := ⟨_, rfl⟩
    rw [← hBy] at hbl HC2 hc2 HBL ⊢
    have HBy := Aside0.mk hBy
    clear hBy
    have e60 : (B.length : Int) ≤ 780 := by omega
    clear hbl
    by_cases ha0 : a < 0
    · go_wp2_with fail
      refine (begunC HB2.out).mono ?_
      rintro e w3 ⟨rfl, hb⟩
      have HB3 := Aside0.mk hb; clear hb
      go_wp2
      go_ret
      exact ⟨rfl, HB3.out⟩
    · by_cases ha1 : (B.length : Int) < a
      · go_wp2_with fail
        refine (begunC HB2.out).mono ?_
        rintro e w3 ⟨rfl, hb⟩
        have HB3 := Aside0.mk hb; clear hb
        go_wp2
        go_ret
        exact ⟨rfl, HB3.out⟩
      · obtain ⟨m, rfl⟩ : ∃ m : Nat, a = (m : Int) := ⟨a.toNat, by omega⟩
        have hmB : m ≤ B.length := by omega
        have z2 : (m : Int) ≤ (c2 : Int) := by omega
        obtain ⟨t, ht1, ht2⟩ := bytes_take l' m (by have := HBL.out; omega)
        rw [← HBy.out] at ht2
        obtain ⟨j, hj⟩ : ∃ j, j = m / 13 := ⟨_, rfl⟩
        rw [← hj] at ht2
        have hlj : (l'.take j).length = j := by rw [List.length_take]; have := HBL.out; omega
        have HRD := Aside0.mk (show spool_Read.f 2000 (B.take m) = some (l'.take j, 13 * (j : Int), 0) by
          rw [ht2, read_whole (l'.take j) t (Ok_take (Ok_of HRT.out H64.out) j) (by rw [hlj]; omega) (by omega) (by omega), hlj])
        have HLJ := Aside0.mk hlj
        have y1 : 13 * (j : Int) ≤ (m : Int) := by omega
        have y2 : (m : Int) - 13 * (j : Int) < 13 := by omega
        have y3 : (j : Int) ≤ (c : Int) := by have := HBL.out; omega
        have y4 : (j : Int) ≤ 60 := by have := HBL.out; omega
        have HJL := Aside0.mk (show j ≤ l'.length by have := HBL.out; omega)
        have HTJ := Aside0.mk (Kd.C_take HT.out (show j ≤ l'.length by have := HBL.out; omega))
        clear hj ht1 ht2 hlj
        go_wp2_with fail
        refine (ReadC HB2.out A2 c2 m (B.take m) (l'.take j) (13 * (j : Int)) 0 (by rw [List.length_take]; omega) (by have := Kd.C_take HC2.out hmB; rwa [List.length_take_of_le hmB] at this) (by omega) HRD.out).mono ?_
        rintro e w3 ⟨A3, c3, rfl, hc3, hC3, hb⟩
        rw [HLJ.out] at hc3 hC3 ⊢
        have HB3 := Aside0.mk hb
        have HC3 := Aside0.mk hC3
        clear hb hC3
        go_wp2_with fail
        refine (begunC (Below.refl w3.heap.size w3)).mono ?_
        rintro e w4 ⟨rfl, hb⟩
        have HC4 := Aside0.mk (Kd.C_below HC3.out hb)
        have HB4 := Aside0.mk (below_then HB3.out HB3.out.size hb)
        clear hb
        have y5 : (13 * (j : Int)) / 13 = (j : Int) := by omega
        go_wp2_with fail
        refine (sameC HB4.out A3 A c3 c j j (l'.take j) HLJ.out HLJ.out (by rw [HLJ.out]; omega) HC4.out hc3 (Kd.C_below (by have := HTJ.out; rwa [HLJ.out] at this) HB4.out) (by omega)).mono ?_
        rintro e w5 ⟨rfl, hb⟩
        have HB5 := Aside0.mk hb
        clear hb
        go_wp2
        go_ret
        exact ⟨rfl, HB5.out⟩
  · have HB2 := Aside0.mk (below_then HB1.out HB1.out.size hb)
    have hr' : (r == 0) = false := beq_eq_false_iff_ne.mpr hr0
    have hr'' : (r != 0) = true := bne_iff_ne.mpr hr0
    clear hb hr0 hrt
    go_wp2_with fail
    refine (begunC HB2.out).mono ?_
    rintro e w3 ⟨rfl, hb⟩
    have HB3 := Aside0.mk hb; clear hb
    go_wp2
    go_ret
    exact ⟨rfl, HB3.out⟩
end Go.Proofs.Ytaeamehngbfneab.Sp
