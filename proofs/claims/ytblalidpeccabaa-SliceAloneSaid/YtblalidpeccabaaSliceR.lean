/- SliceAlone's walk: the call answers true, whatever comes in. -/
import Derived.Test.YtblalidpeccabaaSliceQ
namespace Go.Proofs.Ytblalidpeccabaa.Sm
open Go Go.RowKit Go.Lib Go.Proofs.YtblalidpeccabaaW.PrintWords Go.Proofs.YtblalidpeccabaaW.PrintLast Go.Proofs.YtblalidpeccabaaW.PrintMore Go.Proofs.Ytblalidpeccabaa.PHuntParts Go.Proofs.Ytblalidpeccabaa.Sc Go.Proofs.Ytblalidpeccabaa.Bs Go.Proofs.Ytblalidpeccabaa.RegionVal Go.Proofs.Ytblalidpeccabaa.Mp
set_option linter.unusedVariables false
set_option linter.unusedSimpArgs false

theorem hop51 (x : S51) (p q p' q' : Int) (h : low x = false) : opv x p q = opv x p' q' := by
  have : ¬ x.op < 3 := of_decide_eq_false h
  unfold opv
  rw [if_neg (by omega), if_neg (by omega), if_neg (by omega), if_neg (by omega), if_neg (by omega), if_neg (by omega)]
theorem keep_mem {R : Nat → Bool} {l : List S51} {n : Nat} {x : S51} (h : x ∈ keep R l n) : x ∈ l := by
  unfold keep at h
  obtain ⟨k, _, hk⟩ := List.mem_filterMap.1 h
  exact List.mem_of_getElem? hk
theorem alone_right {l : List S51} {j : Nat} (h : rgt l (j : Int) = 0) : 1 ≤ (aloneS l j).length ∧ (aloneS l j).length ≤ j + 1 ∧ rgt (aloneS l j) (((aloneS l j).length - 1 : Nat) : Int) = 0 := by
  obtain ⟨h1, h2, h3, h4⟩ := rgt_zero.1 h
  have hj : j < l.length := by omega
  have hl := alone_length S51.to_ S51.a S51.b low hj
  have hl' : 1 ≤ (aloneS l j).length ∧ (aloneS l j).length ≤ j + 1 := hl
  refine ⟨hl'.1, hl'.2, rgt_zero.2 ⟨by omega, ?_, by omega, by omega⟩⟩
  rw [List.any_eq_false] at h2 ⊢
  intro x hx
  exact h2 x (keep_mem hx)
theorem alone_last {l : List S51} {j : Nat} (hj : j < l.length) (hk : (aloneS l j).length - 1 < (aloneS l j).length) : (aloneS l j)[(aloneS l j).length - 1] = l[j] := by
  have h : aloneS l j = keep (inA l j) l j ++ [l[j]] := alone_at S51.to_ S51.a S51.b low hj
  have e : (aloneS l j).length - 1 = (keep (inA l j) l j).length := by rw [h, List.length_append, List.length_singleton]; omega
  have h2 : (aloneS l j)[(keep (inA l j) l j).length]? = some l[j] := by rw [h]; simp
  rw [← e, List.getElem?_eq_getElem hk] at h2
  exact Option.some.inj h2
theorem alone_value {l : List S51} {j : Nat} (hj : j < l.length) (hk : (aloneS l j).length - 1 < (aloneS l j).length) : envS ((aloneS l j).take ((aloneS l j).length - 1 + 1)) (aloneS l j)[(aloneS l j).length - 1].to_ = envS (l.take (j + 1)) l[j].to_ := by
  rw [alone_last hj, List.take_of_length_le (by omega)]
  exact alone_env S51.to_ S51.a S51.b low opv hop51 hj
theorem alone_twice {l : List S51} {j : Nat} (hj : j < l.length) : aloneS (aloneS l j) ((aloneS l j).length - 1) = aloneS l j := alone_again S51.to_ S51.a S51.b low hj

/-- of the lines told for line j: sliced again, and run -/
theorem again_calls (w : World) (A : Option Addr) (c : Nat) (l : List S51) (j : Nat) (hj : j < l.length) (h0 : rgt l (j : Int) = 0) (hr : Kd.C k51 w A (aloneS l j).length (aloneS l j)) (hc : (aloneS l j).length ≤ c) :
    Calls Try.prog 11 #[.slice A (aloneS l j).length c, .int .i64 (((aloneS l j).length : Int) - 1)] w fun e w' => (∃ A' c', e = .returned (.tuple #[.slice A' (aloneS l j).length c', .int .i64 0])) ∧ Below w.heap.size w w' := by
  obtain ⟨h1, h2, h3⟩ := alone_right h0
  rw [show ((aloneS l j).length : Int) - 1 = (((aloneS l j).length - 1 : Nat) : Int) by omega]
  refine (Alone_calls w A c (aloneS l j) _ hr hc).mono ?_
  rintro e w' ⟨⟨h, _⟩ | ⟨_, i, A', c', hi, hii, rfl, _⟩, hb⟩
  · exact absurd h3 h
  · obtain rfl : (aloneS l j).length - 1 = i := by omega
    rw [alone_twice hj]
    exact ⟨⟨A', c', rfl⟩, hb⟩
theorem rerun_calls (w : World) (A : Option Addr) (c : Nat) (l : List S51) (j : Nat) (hj : j < l.length) (h0 : rgt l (j : Int) = 0) (hr : Kd.C k51 w A (aloneS l j).length (aloneS l j)) (hc : (aloneS l j).length ≤ c) :
    Calls Try.prog 10 #[.slice A (aloneS l j).length c, .int .i64 (((aloneS l j).length : Int) - 1)] w fun e w' => e = .returned (.tuple #[.int .i64 (envS (l.take (j + 1)) l[j].to_), .int .i64 0]) ∧ Below w.heap.size w w' := by
  obtain ⟨h1, h2, h3⟩ := alone_right h0
  rw [show ((aloneS l j).length : Int) - 1 = (((aloneS l j).length - 1 : Nat) : Int) by omega]
  refine (Run_calls w A c (aloneS l j) _ hr hc).mono ?_
  rintro e w' ⟨⟨h, _⟩ | ⟨_, i, hi, hii, rfl⟩, hb⟩
  · exact absurd h3 h
  · obtain rfl : (aloneS l j).length - 1 = i := by omega
    rw [alone_value hj hi]
    exact ⟨rfl, hb⟩

set_option maxHeartbeats 8000000 in
set_option maxRecDepth 100000 in
theorem sliceAlone_walk (w : World) (A : Option Addr) (c : Nat) (l : List S51) (lc : l.length ≤ c) (hr : Kd.C k51 w A l.length l) (_B : l.length ≤ 9223372036854775807 ∧ l.length * Try.prog.bytesOf 51 ≤ 140737488351232 ∧ ∀ a ∈ l, True)
    (a : Int) (ha : (Lit.int .i64 a).wf = true) :
    Calls Try.prog 3 #[.slice A l.length c, .int .i64 a] w fun e w' => e = .returned (.bool true) ∧ Below w.heap.size w w' := by
  have HR := Aside0.mk hr
  have HB := Aside0.mk (Below.refl w.heap.size w)
  clear hr _B ha
  go_enter Try.func3, Try.ntmps3
  go_wp2_with fail
  refine (begunC HB.out).mono ?_
  rintro e w1 ⟨rfl, hb⟩
  have HB1 := Aside0.mk hb; clear hb
  go_wp2_with fail
  refine (Run_calls _ A c l a (Kd.C_below HR.out HB1.out) lc).mono ?_
  rintro e w2 ⟨⟨h0, rfl⟩ | ⟨h0, j, hj, rfl, rfl⟩, hb⟩
  · have HB2 := Aside0.mk (below_then HB1.out HB1.out.size hb); clear hb
    have H0 := Aside0.mk h0
    have hA := Alone_calls w2 A c l a (Kd.C_below HR.out HB2.out) lc
    obtain ⟨r, hrr⟩ : ∃ r, r = rgt l a := ⟨_, rfl⟩
    rw [← hrr] at h0 hA ⊢
    have q0 : (r == 0) = false := beq_eq_false_iff_ne.mpr h0
    have q1 : (r != 0) = true := bne_iff_ne.mpr h0
    have H1 := Aside0.mk h0
    clear hrr h0
    go_wp2_with fail
    refine hA.mono ?_
    rintro e w3 ⟨⟨_, rfl⟩ | ⟨h, _⟩, hb⟩
    · have HB3 := Aside0.mk (below_then HB2.out HB2.out.size hb); clear hb hA
      go_wp2_with fail
      refine (begunC HB3.out).mono ?_
      rintro e w4 ⟨rfl, hb⟩
      have HB4 := Aside0.mk hb; clear hb
      go_wp2
      go_ret
      exact ⟨rfl, HB4.out⟩
    · exact absurd h H1.out
  · have HB2 := Aside0.mk (below_then HB1.out HB1.out.size hb); clear hb
    have H0 := Aside0.mk h0
    have HV := Aside0.mk (rerun_calls (l := l) (j := j) (hj := hj) (h0 := h0))
    have HA := Aside0.mk (again_calls (l := l) (j := j) (hj := hj) (h0 := h0))
    obtain ⟨h1, h2, h3⟩ := alone_right h0
    obtain ⟨m, hm⟩ : ∃ m, m = aloneS l j := ⟨_, rfl⟩
    rw [← hm] at HV HA h1 h2
    generalize envS (l.take (j + 1)) l[j].to_ = n at HV ⊢
    have HM := Aside0.mk hm
    clear h0 h3 hm
    have hjj : (j : Int) < (l.length : Int) := by omega
    have hl200 : l.length ≤ 200 := (rgt_zero.1 H0.out).1
    go_wp2_with fail
    refine (Alone_calls _ A c l j (Kd.C_below HR.out HB2.out) lc).mono ?_
    rintro e w3 ⟨⟨h, _⟩ | ⟨_, i, A', c', hi, hii, rfl, hc', hC'⟩, hb⟩
    · exact absurd H0.out h
    · obtain rfl : j = i := by omega
      have HB3 := Aside0.mk (below_then HB2.out HB2.out.size hb); clear hb
      rw [← HM.out] at hc' hC' ⊢
      have HC := Aside0.mk hC'
      clear hC' hi hii
      go_wp2_with fail
      refine (HV.out w3 A' c' HC.out hc').mono ?_
      rintro e w4 ⟨rfl, hb⟩
      have HB4 := Aside0.mk (below_then HB3.out HB3.out.size hb)
      have HC4 := Aside0.mk (Kd.C_below HC.out hb)
      clear hb
      go_wp2_with fail
      refine (HA.out w4 A' c' HC4.out hc').mono ?_
      rintro e w5 ⟨⟨A5, c5, rfl⟩, hb⟩
      have HB5 := Aside0.mk (below_then HB4.out HB4.out.size hb)
      clear hb
      go_wp2_with fail
      refine (begunC HB5.out).mono ?_
      rintro e w6 ⟨rfl, hb⟩
      have HB6 := Aside0.mk hb; clear hb
      go_wp2
      go_ret
      exact ⟨by go_num, HB6.out⟩
end Go.Proofs.Ytblalidpeccabaa.Sm
