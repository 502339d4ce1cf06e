/- slices.EqualFunc of rows with slices.Equal; sched.Alike: their walks. -/
import Derived.Test.YtblalidpeccabacSchedG
import Derived.Test.YtblalidpeccabacSchedEq
namespace Go.Proofs.Ytblalidpeccabac.Sd
open Go Go.RowKit Go.Proofs.YtblalidpeccabacW.PrintWords Go.Proofs.YtblalidpeccabacW.PrintLast Go.Proofs.YtblalidpeccabacW.PrintMore Go.Proofs.Ytblalidpeccabac.PSchedBack Go.Proofs.Ytblalidpeccabac.Bs
open Go.Lib hiding intOf
set_option linter.unusedVariables false
set_option linter.unusedSimpArgs false

theorem eql_l0 (a b : List Int) (hl : a.length = b.length) (hb : a.length ≤ 100000) : ∀ (j i f : Nat), i + j = a.length → slices_Equal_int_int.l0 (f + j + 1) a b (a.length : Int) (i : Int) = some (decide (a.drop i = b.drop i))
  | 0, i, f, h => by
    show slices_Equal_int_int.l0 (f + 1) _ _ _ _ = _
    unfold slices_Equal_int_int.l0
    rw [if_neg (by omega), List.drop_eq_nil_of_le (by omega), List.drop_eq_nil_of_le (by omega)]
    simp
  | j + 1, i, f, h => by
    show slices_Equal_int_int.l0 (f + j + 1 + 1) _ _ _ _ = _
    unfold slices_Equal_int_int.l0
    have ha : i < a.length := by omega
    have hb' : i < b.length := by omega
    have e1 : rd a (i : Int) = a[i] := by simp [rd, List.getD_eq_getElem?_getD, ha]
    have e2 : rd b (i : Int) = b[i] := by simp [rd, List.getD_eq_getElem?_getD, hb']
    rw [if_pos (by omega), if_pos (by omega), if_pos (by omega), if_pos (by omega), e1, e2, List.drop_eq_getElem_cons ha, List.drop_eq_getElem_cons hb']
    by_cases he : a[i] = b[i]
    · rw [if_pos he, show wrap64 ((i : Int) + 1) = ((i + 1 : Nat) : Int) by unfold wrap64; omega, eql_l0 a b hl hb j (i + 1) f (by omega), he]
      exact congrArg some (decide_eq_decide.2 ⟨fun h => by rw [h], fun h => (List.cons.inj h).2⟩)
    · rw [if_neg he]
      exact congrArg some (decide_eq_false (fun h => he (List.cons.inj h).1)).symm
theorem eql_f (a b : List Int) (ha : a.length ≤ 900) : slices_Equal_int_int.f 1000 a b = some (decide (a = b)) := by
  unfold slices_Equal_int_int.f
  by_cases hl : a.length = b.length
  · rw [if_pos (by omega)]
    obtain ⟨f, hf⟩ : ∃ f, 1000 = f + a.length + 1 := ⟨1000 - (a.length + 1), by omega⟩
    have h := eql_l0 a b hl (by omega) a.length 0 f (by omega)
    rw [← hf] at h
    exact h
  · rw [if_neg (by omega)]
    congr 1
    exact (decide_eq_false (fun e => hl (by rw [e]))).symm
/-- the row of rows at a place -/
theorem at_row {w : World} {A : Option Addr} {n : Nat} {xs : List (List Int)} (h : Kd.C kR w A n xs) (i : Nat) (hi : i < xs.length) : ∃ ad A0 c0, A = some ad ∧ w.cell? (ad.add i) = some (.slice A0 (xs[i]).length c0) ∧ (xs[i]).length ≤ c0 ∧ Kd.C kI w A0 (xs[i]).length xs[i] := by
  obtain ⟨ad, A0, c0, e, h2, h3, h4⟩ := at_L3 h (i : Int) (by omega) (by have := h.1; omega)
  have hrd : rd_L3 xs (i : Int) = xs[i] := by unfold rd_L3; simp [List.getD_eq_getElem?_getD, hi]
  rw [hrd] at h2 h3 h4
  rw [Int.toNat_natCast] at h2
  exact ⟨ad, A0, c0, e, h2, h3, h4⟩
theorem take_stepR {a b : List (List Int)} {k : Nat} (h : a.take k = b.take k) (h1 : k < a.length) (h2 : k < b.length) (e : a[k] = b[k]) : a.take (k + 1) = b.take (k + 1) := by
  rw [List.take_succ_eq_append_getElem h1, List.take_succ_eq_append_getElem h2, h, e]

set_option maxHeartbeats 8000000 in
set_option maxRecDepth 100000 in
theorem eqRows_calls (w : World) (A1 : Option Addr) (c1 : Nat) (a : List (List Int)) (A2 : Option Addr) (c2 : Nat) (b : List (List Int)) (hr1 : Kd.C kR w A1 a.length a) (hr2 : Kd.C kR w A2 b.length b) (hb : ∀ r ∈ a, r.length ≤ 900) :
    Calls Try.prog 42 #[.slice A1 a.length c1, .slice A2 b.length c2, .func (.func 33) #[] #[]] w fun e w' => e = .returned (.bool (decide (a = b))) ∧ Below w.heap.size w w' := by
  have hn1 : a.length ≤ 9223372036854775807 := hr1.2.1
  have hn2 : b.length ≤ 9223372036854775807 := hr2.2.1
  have HR1 := Aside0.mk hr1
  have HR2 := Aside0.mk hr2
  have HBD := Aside0.mk hb
  have eg : ∀ args w, (callFunc 33 args).run Try.prog w = .ok (.enter 33 args) w := fun args w => enters_ Try.func33 (by kernel_rfl) rfl args w
  clear hr1 hr2 hb
  by_cases hl : a.length = b.length
  · have HL := Aside0.mk hl
    obtain ⟨L, hL⟩ : ∃ L, L = a.length := ⟨_, rfl⟩
    have HLL := Aside0.mk hL
    rw [← hl, ← hL]
    rw [← hL] at hn1
    clear hl hL hn2
    go_enter Try.func42, Try.ntmps42
    go_wp2_with fail
    go_loopw [17] (fun v17 wr => ∃ i : Nat, v17 = .int .i64 (i : Int) ∧ i ≤ L ∧ Aside0 (a.take i = b.take i) ∧ Aside0 (Below w.heap.size w wr)) (fun v17 _ => L - (intOf v17).toNat)
    case atStart => exact ⟨0, rfl, Nat.zero_le _, ⟨rfl⟩, ⟨Below.refl _ _⟩⟩
    case round =>
      obtain ⟨i, rfl, hi, HT, HB⟩ := hrel
      by_cases hlt : i < L
      · have hlt1 : (i : Int) < (L : Int) := by omega
        have hia : i < a.length := by rw [← HLL.out]; exact hlt
        have hib : i < b.length := by rw [← HL.out]; exact hia
        obtain ⟨ad1, B1, d1, rfl, k1, k2, k3⟩ := at_row (Kd.C_below HR1.out HB.out) i hia
        obtain ⟨ad2, B2, d2, rfl, m1, m2, m3⟩ := at_row (Kd.C_below HR2.out HB.out) i hib
        have HEQ := Aside0.mk (slices_Equal_int_int.calls 1000 B1 d1 a[i] B2 d2 b[i] _ wr k3 k2 m3 m2 (eql_f a[i] b[i] (HBD.out _ (List.getElem_mem _))))
        have HT2 := Aside0.mk (fun e => take_stepR HT.out hia hib e)
        have HNE := Aside0.mk (show a[i] ≠ b[i] → a ≠ b from fun hne e => hne (by subst e; rfl))
        generalize a[i] = x at k1 HEQ HT2 HNE
        generalize b[i] = y at m1 HEQ HT2 HNE
        clear k2 k3 m2 m3 hia hib
        go_wp2_with fail
        refine HEQ.out.mono ?_
        rintro e w2 ⟨rfl, hd⟩
        have HB2 := Aside0.mk (below_then HB.out HB.out.size hd.below)
        clear hd HEQ
        by_cases hxy : x = y
        · have HT3 := Aside0.mk (HT2.out hxy)
          rw [decide_eq_true hxy]
          clear hxy HT2 HNE
          go_wp2
          go_roundw
          case rel => exact ⟨i + 1, by go_num, hlt, HT3, HB2⟩
          case measure => simp [intOf]; omega
        · have HD := Aside0.mk (show decide (a = b) = false from decide_eq_false (HNE.out hxy))
          rw [decide_eq_false hxy]
          clear hxy HT2 HNE
          go_wp2
          exact bodyPost_ret (v := .bool false) (by simp [results, Try.f42, go_sem]) rfl ⟨by rw [HD.out], HB2.out⟩
      · have HD := Aside0.mk (show decide (a = b) = true from decide_eq_true (by
          have h := HT.out
          have h1 := HLL.out
          have h2 := HL.out
          rwa [List.take_of_length_le (by omega), List.take_of_length_le (by omega)] at h))
        have hle : L ≤ i := by omega
        go_wp2
        exact bodyPost_ret (v := .bool true) (by simp [results, Try.f42, go_sem]) rfl ⟨by rw [HD.out], HB.out⟩
  · have HD := Aside0.mk (show decide (a = b) = false from decide_eq_false (fun e => hl (by rw [e])))
    have hl2 : ((a.length : Int) != (b.length : Int)) = true := by simp; omega
    go_enter Try.func42, Try.ntmps42
    go_wp2
    exact bodyPost_ret (v := .bool false) (by simp [results, Try.f42, go_sem]) rfl ⟨by rw [HD.out], Below.refl _ _⟩

set_option maxHeartbeats 8000000 in
set_option maxRecDepth 100000 in
theorem alike_calls (K : Nat) (w : World) (A : Option Addr) (c : Nat) (l : List Int) (A1 : Option Addr) (c1 : Nat) (m : List Int) (A2 : Option Addr) (c2 : Nat) (dep : List (List Bool)) (a b : List (List Int)) (hr : Kd.C kI w A l.length l) (hc : l.length ≤ c) (hr1 : Kd.C kI w A1 m.length m) (hc1 : m.length ≤ c1) (hr2 : Kd.C kB w A2 dep.length dep) (hc2 : dep.length ≤ c2) (h : normF K l dep = some (a, 0)) (h1 : normF K m dep = some (b, 0)) (hb : ∀ r ∈ a, r.length ≤ 900) :
    Calls Try.prog 21 #[.slice A l.length c, .slice A1 m.length c1, .slice A2 dep.length c2] w fun en w' => en = .returned (.tuple #[.bool (decide (a = b)), .int .i64 0]) ∧ Below w.heap.size w w' := by
  have HR1 := Aside0.mk hr1
  have HR2 := Aside0.mk hr2
  have HN1 := Aside0.mk h1
  have HBD := Aside0.mk hb
  have HC := Aside0.mk (normal_calls K w A c l A2 c2 dep a 0 hr hc hr2 hc2 h)
  clear hr hr1 hr2 h h1 hb
  go_enter Try.func21, Try.ntmps21
  go_wp2_with fail
  refine HC.out.mono ?_
  rintro e w1 ⟨v8, rfl, hO, hb⟩
  have HB1 := Aside0.mk hb
  have HO1 := Aside0.mk hO
  clear hb hO HC
  go_wp2_with fail
  refine (normal_calls K w1 A1 c1 m A2 c2 dep b 0 (Kd.C_below HR1.out HB1.out) hc1 (Kd.C_below HR2.out HB1.out) hc2 HN1.out).mono ?_
  rintro e w2 ⟨v10, rfl, hO, hb⟩
  have HB2 := Aside0.mk (below_then HB1.out HB1.out.size hb)
  obtain ⟨A8, d8, rfl, hd8, k8⟩ := Kd.S_reads (OS.below HO1.out hb)
  obtain ⟨A10, d10, rfl, hd10, k10⟩ := Kd.S_reads hO
  have H8 := Aside0.mk k8
  have H10 := Aside0.mk k10
  clear hb hO k8 k10 HO1 HB1
  go_wp2_with fail
  refine (eqRows_calls w2 A8 d8 a A10 d10 b H8.out H10.out HBD.out).mono ?_
  rintro e w3 ⟨rfl, hb⟩
  have HB3 := Aside0.mk (below_then HB2.out HB2.out.size hb)
  clear hb
  obtain ⟨q, hq⟩ : ∃ q, q = decide (a = b) := ⟨_, rfl⟩
  rw [← hq]
  have HQ := Aside0.mk hq
  clear hq
  go_wp2
  exact bodyPost_ret (v := .tuple #[.bool q, .int .i64 0]) (by simp [results, Try.f21, go_sem]) rfl ⟨by rw [HQ.out], HB3.out⟩
end Go.Proofs.Ytblalidpeccabac.Sd
