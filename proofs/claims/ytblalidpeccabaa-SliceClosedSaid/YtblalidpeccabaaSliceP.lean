/- slice.Alone: its walk. -/
import Derived.Test.YtblalidpeccabaaSliceO
namespace Go.Proofs.Ytblalidpeccabaa.Sm
open Go Go.RowKit Go.Lib Go.Proofs.YtblalidpeccabaaW.PrintWords Go.Proofs.YtblalidpeccabaaW.PrintLast Go.Proofs.YtblalidpeccabaaW.PrintMore Go.Proofs.Ytblalidpeccabaa.PHuntParts Go.Proofs.Ytblalidpeccabaa.Sc Go.Proofs.Ytblalidpeccabaa.Bs Go.Proofs.Ytblalidpeccabaa.RegionVal Go.Proofs.Ytblalidpeccabaa.Mp
set_option linter.unusedVariables false
set_option linter.unusedSimpArgs false

theorem info51 : (Try.prog.info? 51).map (fun i => (i.zero, i.size, i.bytes)) = some (some (.agg #[.int .i64 0, .int .i64 0, .int .i64 0, .int .i64 0]), 4, 32) := by kernel_rfl
theorem k51_mkM (w : World) (base : Nat) (ok : Nat → Prop) (x : S51) : k51.M w base ok x [.int .i64 x.to_, .int .i64 x.op, .int .i64 x.a, .int .i64 x.b] :=
  ⟨_, _, rfl, rfl, _, _, rfl, rfl, _, _, rfl, rfl, rfl⟩
def inA (l : List S51) (j : Nat) : Nat → Bool := inS S51.to_ S51.a S51.b low l j
def aloneS (l : List S51) (j : Nat) : List S51 := keep (inA l j) l l.length

set_option maxHeartbeats 8000000 in
set_option maxRecDepth 100000 in
theorem Alone_calls (w : World) (A : Option Addr) (c : Nat) (l : List S51) (a : Int) (hr : Kd.C k51 w A l.length l) (hc : l.length ≤ c) :
    Calls Try.prog 11 #[.slice A l.length c, .int .i64 a] w fun e w' => ((rgt l a ≠ 0 ∧ e = .returned (.tuple #[.slice none 0 0, .int .i64 (rgt l a)])) ∨
      (rgt l a = 0 ∧ ∃ (j : Nat) (A' : Option Addr) (c' : Nat), j < l.length ∧ a = (j : Int) ∧ e = .returned (.tuple #[.slice A' (aloneS l j).length c', .int .i64 0]) ∧ (aloneS l j).length ≤ c' ∧ Kd.C k51 w' A' (aloneS l j).length (aloneS l j))) ∧ Below w.heap.size w w' := by
  have HR := Aside0.mk hr
  clear hr
  go_enter Try.func11, Try.ntmps11
  go_wp2_with fail
  refine (right_calls w A c l a HR.out hc).mono ?_
  rintro e w1 ⟨rfl, hb⟩
  have HB1 := Aside0.mk hb
  clear hb
  by_cases h0 : rgt l a = 0
  · obtain ⟨hl, hop, h1, h2⟩ := rgt_zero.1 h0
    obtain ⟨j, rfl⟩ : ∃ j : Nat, a = (j : Int) := ⟨a.toNat, by omega⟩
    have hj : j < l.length := by omega
    have HZ := Aside0.mk h0
    rw [h0]
    clear h0 hop
    go_wp2_with fail
    refine (uses_calls w1 A c l (Kd.C_below HR.out HB1.out) hc hl).mono ?_
    rintro e w2 ⟨g, rfl, hC2, hb⟩
    have HC2 := Aside0.mk hC2
    have HB2 := Aside0.mk (below_then HB1.out HB1.out.size hb)
    have hus := usesS_length l
    have HF := Aside0.mk (show Sc.Form (us (usesS l)) by rw [us_usesS]; exact usesF_form _ _ _ _ _)
    clear hb hC2
    have HLN := Aside0.mk hus
    rw [← hus] at HC2
    have hb2 := back_calls w2 (some ⟨g, 0, none⟩) l.length (usesS l) j HC2.out (Nat.le_of_eq hus) HF.out (by rw [hus]; exact hl) (by rw [hus]; exact hj)
    rw [hus] at hb2
    clear hus
    go_wp2_with fail
    refine hb2.mono ?_
    rintro e w3 ⟨v, rfl, hR, hb⟩
    obtain ⟨A3, c3, rfl, hc3, hC3⟩ := Kd.R_reads hR
    have HB3 := Aside0.mk (below_then HB2.out HB2.out.size hb)
    have HC3 := Aside0.mk hC3
    have HLB := Aside0.mk (show (backF (us (usesS l)) j).length = l.length by rw [backF_length HF.out (by rw [us_length, HLN.out]; exact hj), us_length, HLN.out])
    have HIN := Aside0.mk (show ∀ k, (backF (us (usesS l)) j).getD k false = inA l j k from fun k => by rw [us_usesS]; rfl)
    clear hR hb hC3 hb2
    have hbl : (backF (us (usesS l)) j).length ≤ 200 := by rw [HLB.out]; exact hl
    generalize backF (us (usesS l)) j = bs at hbl hc3 HC3 HLB HIN ⊢
    go_wp2_with fail
    go_loopw [7, 21] (fun v i wr => ∃ k : Nat, k ≤ bs.length ∧ i = .int .i64 (k : Int) ∧ Aside0 (k51.R 51 wr w3.heap.size (fun _ => True) v (keep (inA l j) l k)) ∧ Aside0 (Below w3.heap.size w3 wr)) (fun _ i _ => bs.length - (intOf i).toNat)
    case atStart => exact ⟨0, Nat.zero_le _, rfl, ⟨Kd.R_nil _ _ _ _ _⟩, ⟨Below.refl _ _⟩⟩
    case round =>
      obtain ⟨k, hk, rfl, HO, HB⟩ := hrel
      by_cases hlt : k < bs.length
      · have hk1 : (k : Int) < (bs.length : Int) := by omega
        obtain ⟨ad3, rfl, h0⟩ := Kd.at_bool (Kd.C_below HC3.out HB.out) (k : Int) (by omega) (by omega)
        have hrd : rdOf false bs (k : Int) = bs.getD k false := rfl
        rw [hrd, Int.toNat_natCast] at h0
        have HKL := Aside0.mk (show k < l.length by have := HLB.out; omega)
        have HKS := Aside0.mk (keep_succ (inA l j) HKL.out)
        have HIK := Aside0.mk (HIN.out k)
        generalize bs.getD k false = q at h0 HIK
        clear hrd
        cases q with
        | true =>
          have hb4 := below_then HB3.out HB3.out.size HB.out
          obtain ⟨ad, rfl, e0, e1, e2, e3⟩ := at_T51 (Kd.C_below HR.out hb4) HKL.out
          have hkl : (k : Int) < (l.length : Int) := by have := HKL.out; omega
          have HLL := Aside0.mk (keep_length_le (inA l j) l k (Nat.le_of_lt HKL.out))
          have HX := Aside0.mk (show keep (inA l j) l (k + 1) = keep (inA l j) l k ++ [l[k]'HKL.out] by rw [HKS.out, ← HIK.out, if_pos rfl])
          generalize l[k]'HKL.out = z at e0 e1 e2 e3 HX
          clear hb4 HKS
          go_wp2_with (at_builtin; refine Kd.R_append k51 (w0 := w3) w3.heap.size rfl (.tmp 27) (.tmp 32) 22 51 (.agg #[.int .i64 0, .int .i64 0, .int .i64 0, .int .i64 0]) 32 rfl Try.underlying22 info51 rfl (by decide) (by omega) _ (keep (inA l j) l k) z [.int .i64 z.to_, .int .i64 z.op, .int .i64 z.a, .int .i64 z.b] (fun _ => True) (fun _ => False) rfl rfl (k51_mkM _ _ _ z) (fun _ hk => hk.elim) (fun _ _ => trivial) HO.out HB.out HB.out.size (by have := HLL.out; omega) ?_; intro v8 w8 ho hb hg hat; have HO8 := Aside0.mk ho; have HB8 := Aside0.mk hb; clear ho hb hg hat)
          go_roundw
          case rel => exact ⟨k + 1, by omega, by go_num, ⟨by rw [HX.out]; exact HO8.out⟩, HB8⟩
          case measure => simp [intOf]; omega
        | false =>
          have HX := Aside0.mk (show keep (inA l j) l (k + 1) = keep (inA l j) l k by rw [HKS.out, ← HIK.out, if_neg (by decide), List.append_nil])
          go_wp2
          go_roundw
          case rel => exact ⟨k + 1, by omega, by go_num, ⟨by rw [HX.out]; exact HO.out⟩, HB⟩
          case measure => simp [intOf]; omega
      · obtain rfl : k = l.length := by have := HLB.out; omega
        obtain ⟨A9, c9, rfl, hc9, hC9⟩ := Kd.R_reads HO.out
        have HC9 := Aside0.mk hC9
        clear hC9
        go_wp2
        exact bodyPost_ret (v := .tuple #[.slice A9 (keep (inA l j) l l.length).length c9, .int .i64 0]) (by simp [results, Try.f11, go_sem]) rfl ⟨.inr ⟨HZ.out, j, A9, c9, hj, rfl, rfl, hc9, HC9.out⟩, below_then HB3.out HB3.out.size HB.out⟩
  · have HX := Aside0.mk h0
    obtain ⟨r, hr⟩ : ∃ r, r = rgt l a := ⟨_, rfl⟩
    rw [← hr] at h0 ⊢
    have HRR := Aside0.mk hr
    have q0 : (r == 0) = false := beq_eq_false_iff_ne.mpr h0
    have q1 : (r != 0) = true := bne_iff_ne.mpr h0
    clear hr h0
    go_wp2
    exact bodyPost_ret (v := .tuple #[.slice none 0 0, .int .i64 r]) (by simp [results, Try.f11, go_sem]) rfl ⟨.inl ⟨HX.out, by rw [HRR.out]⟩, HB1.out⟩
end Go.Proofs.Ytblalidpeccabaa.Sm
