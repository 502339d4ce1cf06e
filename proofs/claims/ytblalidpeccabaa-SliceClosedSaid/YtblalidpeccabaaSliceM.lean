/- slice.Run: its walk. -/
import Derived.Test.YtblalidpeccabaaSliceL
namespace Go.Proofs.Ytblalidpeccabaa.Sm
open Go Go.RowKit Go.Lib Go.Proofs.YtblalidpeccabaaW.PrintWords Go.Proofs.YtblalidpeccabaaW.PrintLast Go.Proofs.YtblalidpeccabaaW.PrintMore Go.Proofs.Ytblalidpeccabaa.PHuntParts Go.Proofs.Ytblalidpeccabaa.Sc Go.Proofs.Ytblalidpeccabaa.Bs Go.Proofs.Ytblalidpeccabaa.RegionVal Go.Proofs.Ytblalidpeccabaa.Mp
set_option linter.unusedVariables false
set_option linter.unusedSimpArgs false

def envS (l : List S51) : Int → Int := env S51.to_ S51.a S51.b opv l
theorem val0_put (m : List (Int × Int)) (x v y : Int) : val0 (Mp.put m x v) y = if y = x then v else val0 m y := by
  unfold val0
  rw [get_put]
  split <;> rfl
theorem envS_snoc (l : List S51) (x : S51) (v : Int) : envS (l ++ [x]) v = if x.to_ = v then opv x (envS l x.a) (envS l x.b) else envS l v := env_snoc _ _ _ _ l x v

set_option maxHeartbeats 8000000 in
set_option maxRecDepth 100000 in
theorem Run_calls (w : World) (A : Option Addr) (c : Nat) (l : List S51) (a : Int) (hr : Kd.C k51 w A l.length l) (hc : l.length ≤ c) :
    Calls Try.prog 10 #[.slice A l.length c, .int .i64 a] w fun e w' => ((rgt l a ≠ 0 ∧ e = .returned (.tuple #[.int .i64 0, .int .i64 (rgt l a)])) ∨
      (rgt l a = 0 ∧ ∃ (j : Nat) (hj : j < l.length), a = (j : Int) ∧ e = .returned (.tuple #[.int .i64 (envS (l.take (j + 1)) l[j].to_), .int .i64 0]))) ∧ Below w.heap.size w w' := by
  have HR := Aside0.mk hr
  clear hr
  go_enter Try.func10, Try.ntmps10
  go_wp2_with fail
  refine (right_calls w A c l a HR.out hc).mono ?_
  rintro e w1 ⟨rfl, hb⟩
  have HB1 := Aside0.mk hb
  clear hb
  by_cases h0 : rgt l a = 0
  · obtain ⟨hl, hop, h1, h2⟩ := rgt_zero.1 h0
    obtain ⟨j, rfl⟩ : ∃ j : Nat, a = (j : Int) := ⟨a.toNat, by omega⟩
    have hj : j < l.length := by omega
    have HZ := Aside0.mk h0
    rw [h0]
    clear h0 hop
    have z1 : (j : Int) + 1 ≤ (c : Int) := by omega
    have hmm := @run_makeMap Try.prog
    go_wp2_with fail
    obtain ⟨W0, hW0⟩ : ∃ W0, W0 = w1.alloc (.map #[] 0) := ⟨_, rfl⟩
    obtain ⟨b, hbb⟩ : ∃ b, b = w1.heap.size := ⟨_, rfl⟩
    have HM0 := Aside0.mk (show Mp.Holds W0 b ei ei ([] : List (Int × Int)) by rw [hW0, hbb]; exact holds_made w1 ei ei)
    have HB0 := Aside0.mk (show Below w.heap.size w W0 by rw [hW0]; exact below_alloc HB1.out _)
    have hbs : w.heap.size ≤ b := by rw [hbb]; exact HB1.out.size
    have HBS := Aside0.mk hbs
    (try rw [← hW0])
    (try rw [← hbb])
    clear hW0 hbb hmm hbs
    go_loopw [22] (fun i wr => ∃ (k : Nat) (m : List (Int × Int)), k ≤ j + 1 ∧ i = .int .i64 (k : Int) ∧ Aside0 (Mp.Holds wr b ei ei m) ∧ Aside0 (∀ v, val0 m v = envS (l.take k) v) ∧ Aside0 (Below w.heap.size w wr)) (fun i _ => (j + 1) - (intOf i).toNat)
    case atStart => exact ⟨0, [], Nat.zero_le _, rfl, HM0, ⟨fun v => rfl⟩, HB0⟩
    case round =>
      obtain ⟨k, m, hk, rfl, HM, HV, HB⟩ := hrel
      by_cases hlt : k < j + 1
      · have hk1 : (k : Int) < (j : Int) + 1 := by omega
        have hkl : k < l.length := by omega
        obtain ⟨ad, rfl, e0, e1, e2, e3⟩ := at_T51 (Kd.C_below HR.out HB.out) hkl
        have HTK := Aside0.mk (show l.take (k + 1) = l.take k ++ [l[k]] from List.take_succ_eq_append_getElem hkl)
        obtain ⟨z, hz⟩ : ∃ z, z = l[k] := ⟨_, rfl⟩
        rw [← hz] at e0 e1 e2 e3
        rw [← hz] at HTK
        clear hz
        go_wp2_with fail
        refine (do_calls _ w b m z (HM.out.below (below_alloc (Below.refl _ _) _)) (below_alloc HB.out _) HBS.out).mono ?_
        rintro e w3 ⟨⟨v, rfl⟩, hm3, hb3⟩
        have HM3 := Aside0.mk hm3
        have HB3 := Aside0.mk hb3
        have HV3 := Aside0.mk (show ∀ v, val0 (Mp.put m z.to_ (opv z (val0 m z.a) (val0 m z.b))) v = envS (l.take (k + 1)) v from fun v => by
          rw [val0_put, HTK.out, envS_snoc, HV.out, HV.out, HV.out]
          by_cases e : v = z.to_
          · rw [if_pos e, if_pos e.symm]
          · rw [if_neg e, if_neg (fun h => e h.symm)])
        clear hm3 hb3
        go_wp2
        go_roundw
        case rel => exact ⟨k + 1, _, by omega, by go_num, HM3, HV3, HB3⟩
        case measure => simp [intOf]; omega
      · have hk' : k = j + 1 := by omega
        subst hk'
        obtain ⟨ad, rfl, e0, e1, e2, e3⟩ := at_T51 (Kd.C_below HR.out HB.out) hj
        have HVJ := Aside0.mk (HV.out l[j].to_)
        obtain ⟨t, ht⟩ : ∃ t, t = l[j].to_ := ⟨_, rfl⟩
        rw [← ht] at e0 HVJ
        have HTT := Aside0.mk ht
        have hjj : (j : Int) < (l.length : Int) := by omega
        clear ht e1 e2 e3
        go_wp2_with (at_lookup; refine wpList_look1 rfl _ _ 55 rfl (key_int Try.underlying3) Try.underlying55 (z := .int .i64 0) (fun w => by go_simp) b m t rfl rfl HM.out (.int .i64 (val0 m t)) (by unfold val0; cases Mp.get m t <;> rfl) ?_)
        exact bodyPost_ret (v := .tuple #[.int .i64 (val0 m t), .int .i64 0]) (by simp [results, Try.f10, go_sem]) rfl ⟨.inr ⟨HZ.out, j, hj, rfl, by rw [HVJ.out, HTT.out]⟩, HB.out⟩
  · have HX := Aside0.mk h0
    obtain ⟨r, hr⟩ : ∃ r, r = rgt l a := ⟨_, rfl⟩
    rw [← hr] at h0 ⊢
    have HRR := Aside0.mk hr
    have q0 : (r == 0) = false := beq_eq_false_iff_ne.mpr h0
    have q1 : (r != 0) = true := bne_iff_ne.mpr h0
    clear hr h0
    go_wp2
    exact bodyPost_ret (v := .tuple #[.int .i64 0, .int .i64 r]) (by simp [results, Try.f10, go_sem]) rfl ⟨.inl ⟨HX.out, by rw [HRR.out]⟩, HB1.out⟩
end Go.Proofs.Ytblalidpeccabaa.Sm
