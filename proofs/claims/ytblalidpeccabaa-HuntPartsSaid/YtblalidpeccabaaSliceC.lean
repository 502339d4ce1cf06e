/- slice.back: what it computes; its contract in plain words. -/
import Derived.Test.YtblalidpeccabaaSliceB
namespace Go.Proofs.Ytblalidpeccabaa.Sm
open Go Go.RowKit Go.Lib Go.Proofs.YtblalidpeccabaaW.PrintWords Go.Proofs.YtblalidpeccabaaW.PrintLast Go.Proofs.YtblalidpeccabaaW.PrintMore Go.Proofs.Ytblalidpeccabaa.PHuntParts Go.Proofs.Ytblalidpeccabaa.Sc
set_option linter.unusedVariables false
set_option linter.unusedSimpArgs false

theorem wrap64_id {x : Int} (h0 : -9223372036854775808 ≤ x) (h1 : x ≤ 9223372036854775807) : wrap64 x = x := by
  unfold wrap64; omega
theorem back_l1 (l : List S35) (x6 : Int) (xs : List Int) (hn : xs.length ≤ 9223372036854775807) : ∀ (m q F : Nat) (inn : List Bool), xs.length - q = m → q ≤ xs.length → (∀ n ∈ xs, 0 ≤ n ∧ n < inn.length) →
    slice_back.l1 (F + 1 + m) l inn x6 xs (xs.length : Int) (q : Int) = slice_back.l0 F l (Sc.mark inn (xs.drop q)) (wrap64 (x6 - 1))
  | 0, q, F, inn, hm, hq, hb => by
    have e : q = xs.length := by omega
    subst e
    rw [Nat.add_zero, slice_back.l1, if_neg (by omega), List.drop_length]
    rfl
  | m + 1, q, F, inn, hm, hq, hb => by
    have hlt : q < xs.length := by omega
    have hz := hb xs[q] (List.getElem_mem _)
    have hrd : rd xs (q : Int) = xs[q] := by simp [rd, List.getD_eq_getElem?_getD, hlt]
    rw [show F + 1 + (m + 1) = (F + 1 + m) + 1 by omega, slice_back.l1, if_pos (by omega), if_pos (by omega), if_pos (by omega), hrd, if_pos hz.1, if_pos hz.2, wrap64_id (by omega) (by omega), show ((q : Int) + 1) = ((q + 1 : Nat) : Int) by omega,
      back_l1 l x6 xs hn m (q + 1) F _ (by omega) (by omega) (fun n h => by rw [List.length_set]; exact hb n h)]
    rw [List.drop_eq_getElem_cons hlt]
    rfl
theorem back_l0 (l : List S35) (hf : Sc.Form (us l)) (hn : ∀ k, (use (us l) k).length ≤ 9223372036854775807) (hl : l.length ≤ 100000) : ∀ (k : Nat) (inn : List Bool), k ≤ l.length → inn.length = l.length →
    ∃ F, slice_back.l0 F l inn ((k : Int) - 1) = some (backL (us l) k inn)
  | 0, inn, _, _ => ⟨1, by rw [slice_back.l0, if_neg (by omega)]; rfl⟩
  | k + 1, inn, hk, hi => by
    have hk' : k < l.length := by omega
    have e : ((k + 1 : Nat) : Int) - 1 = (k : Int) := by omega
    rw [e]
    have hrd : rdOf false inn (k : Int) = inn.getD k false := rfl
    by_cases hin : inn.getD k false = true
    · obtain ⟨F, hF⟩ := back_l0 l hf hn hl k (Sc.mark inn (use (us l) k)) (by omega) (by rw [mark_length]; exact hi)
      refine ⟨(F + 1 + (use (us l) k).length) + 1, ?_⟩
      have hT : (rd_T35 l (k : Int)).f0 = use (us l) k := by rw [use_us hk']; simp [rd_T35, List.getD_eq_getElem?_getD, hk']
      rw [slice_back.l0, if_pos (by omega), if_pos (by omega), if_pos (by omega), hrd, if_pos hin, if_pos (by omega), hT]
      have := back_l1 l (k : Int) (use (us l) k) (hn k) (use (us l) k).length 0 F inn (by omega) (by omega) (fun n h => by have := hf k (by rw [us_length]; exact hk') n h; omega)
      rw [show ((0 : Nat) : Int) = 0 from rfl, List.drop_zero] at this
      rw [this, wrap64_id (by omega) (by omega), hF, backL, if_pos hin]
    · obtain ⟨F, hF⟩ := back_l0 l hf hn hl k inn (by omega) hi
      refine ⟨F + 1, ?_⟩
      rw [slice_back.l0, if_pos (by omega), if_pos (by omega), if_pos (by omega), hrd, if_neg hin, wrap64_id (by omega) (by omega), hF, backL, if_neg hin]
theorem back_f (l : List S35) (hf : Sc.Form (us l)) (hn : ∀ k, (use (us l) k).length ≤ 9223372036854775807) (hl : l.length ≤ 100000) {i : Nat} (hi : i < l.length) : ∃ F, slice_back.f F l (i : Int) = some (backF (us l) i) := by
  obtain ⟨F, hF⟩ := back_l0 l hf hn hl (i + 1) ((List.replicate l.length false).set i true) (by omega) (by simp)
  refine ⟨F, ?_⟩
  unfold slice_back.f
  rw [if_pos (by omega)]
  simp only [Int.toNat_natCast]
  rw [if_pos (by omega)]
  simp only [Option.bind_some]
  rw [if_pos (by omega), if_pos (by simp; omega)]
  rw [show ((i + 1 : Nat) : Int) - 1 = (i : Int) by omega] at hF
  rw [hF, backF, us_length]
/-- what comes in is no longer than the machine lets it be -/
theorem use_len {w : World} {A : Option Addr} {n : Nat} {l : List S35} (h : Kd.C k35 w A n l) (k : Nat) : (use (us l) k).length ≤ 9223372036854775807 := by
  by_cases hk : k < l.length
  · obtain rfl := h.1
    obtain ⟨ad, A0, c0, _, _, _, hC⟩ := at_T35 h (k : Int) (by omega) (by omega)
    rw [use_us hk]
    have hrd : rd_T35 l (k : Int) = l[k] := by simp [rd_T35, List.getD_eq_getElem?_getD, hk]
    rw [hrd] at hC
    exact hC.2.1
  · rw [use_out (by rw [us_length]; omega)]; simp
theorem back_calls (w : World) (A : Option Addr) (c : Nat) (l : List S35) (i : Nat) (hr : Kd.C k35 w A l.length l) (hc : l.length ≤ c) (hf : Sc.Form (us l)) (hl : l.length ≤ 200) (hi : i < l.length) :
    Calls Try.prog 26 #[.slice A l.length c, .int .i64 (i : Int)] w fun e w' => ∃ v, e = .returned v ∧ Kd.R Kd.bool 4 w' w.heap.size (fun _ => True) v (backF (us l) i) ∧ Below w.heap.size w w' := by
  obtain ⟨F, hF⟩ := back_f l hf (use_len hr) (by omega) hi
  exact slice_back.calls F A c l (i : Int) _ w hr hc hF
end Go.Proofs.Ytblalidpeccabaa.Sm
