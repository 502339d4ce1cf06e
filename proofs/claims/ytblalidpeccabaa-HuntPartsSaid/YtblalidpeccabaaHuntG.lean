/- row of versions; huntBegun: it answers true. -/
import Derived.Test.YtblalidpeccabaaHuntF
import Derived.Test.YtblalidpeccabaaHuntRw
namespace Go.Proofs.Ytblalidpeccabaa.Hn
open Go Go.RowKit Go.Lib Go.Proofs.YtblalidpeccabaaW.PrintWords Go.Proofs.YtblalidpeccabaaW.PrintLast Go.Proofs.YtblalidpeccabaaW.PrintMore Go.Proofs.Ytblalidpeccabaa.PHuntParts Go.Proofs.Ytblalidpeccabaa.Sc Go.Proofs.Ytblalidpeccabaa.Bs Go.Proofs.Ytblalidpeccabaa.RegionVal Go.Proofs.Ytblalidpeccabaa.Sm Go.Proofs.Ytblalidpeccabaa.Hp
set_option linter.unusedVariables false
set_option linter.unusedSimpArgs false

def rowAt (i : Nat) : S35 := ⟨if i = 0 then [] else [(i : Int) - 1]⟩
def rowS (n : Nat) : List S35 := (List.range n).map rowAt
theorem rowS_length (n : Nat) : (rowS n).length = n := by simp [rowS]
theorem us_row (n : Nat) : us (rowS n) = rowL n := by
  unfold us rowS rowL
  rw [List.map_map]
  rfl
theorem row_l0 (n : Nat) (hn : n ≤ 1000) : ∀ m i (xs : List S35), n - i = m → 1 ≤ i → i ≤ n → xs.length = n → (∀ j, j < n → xs[j]? = some (if j < i then rowAt j else z35)) → backstitchkeep4_row.l0 (m + 1) (n : Int) xs (i : Int) = some (rowS n)
  | 0, i, xs, hm, h1, hi, hl, hx => by
    obtain rfl : i = n := by omega
    rw [backstitchkeep4_row.l0, if_neg (by omega)]
    congr 1
    apply List.ext_getElem?
    intro j
    by_cases hj : j < i
    · rw [hx j hj, if_pos hj]
      simp [rowS, hj]
    · rw [List.getElem?_eq_none (by omega), List.getElem?_eq_none (by rw [rowS_length]; omega)]
  | m + 1, i, xs, hm, h1, hi, hl, hx => by
    have hlt : i < n := by omega
    rw [backstitchkeep4_row.l0, if_pos (by omega), if_pos (by omega), if_pos (by omega), wrap64_id (by omega) (by omega), wrap64_id (by omega) (by omega), show ((i : Int) + 1) = ((i + 1 : Nat) : Int) by omega]
    refine row_l0 n hn m (i + 1) _ (by omega) (by omega) (by omega) (by rw [List.length_set]; exact hl) (fun j hj => ?_)
    rw [List.getElem?_set]
    by_cases e : i = j
    · subst e
      rw [Int.toNat_natCast, if_pos rfl, if_pos (by omega), if_pos (by omega)]
      unfold rowAt
      rw [if_neg (by omega)]
    · rw [Int.toNat_natCast, if_neg e, hx j hj]
      by_cases h2 : j < i
      · rw [if_pos h2, if_pos (by omega)]
      · rw [if_neg h2, if_neg (by omega)]
theorem row_f (n : Nat) (h1 : 1 ≤ n) (hn : n ≤ 1000) : backstitchkeep4_row.f (n - 1 + 1) (n : Int) = some (rowS n) := by
  unfold backstitchkeep4_row.f
  rw [if_pos (by omega), Int.toNat_natCast, if_pos (by omega)]
  refine row_l0 n hn (n - 1) 1 _ rfl (Nat.le_refl _) h1 (by simp) (fun j hj => ?_)
  rw [List.getElem?_replicate, if_pos hj]
  by_cases h0 : j < 1
  · rw [if_pos h0]
    obtain rfl : j = 0 := by omega
    rfl
  · rw [if_neg h0]
theorem row_calls (w : World) (n : Nat) (h1 : 1 ≤ n) (hn : n ≤ 1000) :
    Calls Try.prog 20 #[.int .i64 (n : Int)] w fun e w' => ∃ A c, e = .returned (.slice A n c) ∧ n ≤ c ∧ Kd.C k35 w' A n (rowS n) ∧ Below w.heap.size w w' :=
  (backstitchkeep4_row.calls _ (n : Int) _ w (row_f n h1 hn)).mono fun e w' ⟨v, he, hS, hb⟩ => by
    obtain ⟨A, c, hv, hc, hC⟩ := Kd.R_reads (Kd.S_R hS)
    rw [rowS_length] at hv hc hC
    exact ⟨A, c, by rw [he, hv], hc, hC, hb⟩

def ge3 (n : Int) : Bool := decide (3 ≤ n)
/-- huntBegun's closure -/
theorem asks31 (w : World) (xs : List Int) : Sm.Asks 31 #[] w (Value.int .i64) xs ge3 := by
  refine ⟨fun args w => enters_ Try.func31 (by kernel_rfl) rfl args w, fun n hn w hw => ?_⟩
  show Calls Try.prog 31 #[.int .i64 n] w _
  by_cases h : 3 ≤ n
  · have HX := Aside0.mk (show ge3 n = true from decide_eq_true h)
    go_enter Try.func31, Try.ntmps31
    go_wp2
    go_ret
    exact ⟨by rw [HX.out]; simp, Below.refl _ _⟩
  · have HX := Aside0.mk (show ge3 n = false from decide_eq_false h)
    go_enter Try.func31, Try.ntmps31
    go_wp2
    go_ret
    exact ⟨by rw [HX.out]; simp, Below.refl _ _⟩
theorem h1 : acode (rowL 6) 5 [1] = 0 := by decide +kernel
theorem h2 : susp (rowL 6) 5 [1] = [2, 3, 4, 5] := by decide +kernel
theorem h3 : pickF (rowL 6) [2, 3, 4, 5] 5 = 3 := by decide +kernel
theorem h4 : huntF (rowL 6) ge3 4 5 [1] 0 = (3, 2) := by decide +kernel
theorem Suspects6 (w : World) (A : Option Addr) (c : Nat) (G : Option Addr) (hr : Kd.C k35 w A 6 (rowS 6)) (hc : 6 ≤ c) (hg : Kd.C (Kd.int .i64) w G 1 [1]) : Calls Try.prog 17 #[.slice A 6 c, .int .i64 5, .slice G 1 1] w (Sm.Out w [2, 3, 4, 5]) :=
  (Suspects_calls w A c (rowS 6) 5 G 1 [1] hr hc hg (Nat.le_refl _)).mono fun e w' ⟨h, hb⟩ => by
    rw [us_row, show (Int.toNat 5) = 5 from rfl, h2] at h
    rcases h with ⟨h, _⟩ | ⟨_, A', c', h3, h4, h5⟩
    · exact absurd h1 h
    · exact ⟨A', c', h3, h4, h5, hb⟩
theorem Pick6 (w : World) (A : Option Addr) (c : Nat) (G : Option Addr) (hr : Kd.C k35 w A 6 (rowS 6)) (hc : 6 ≤ c) (hg : Kd.C (Kd.int .i64) w G 1 [1]) : Calls Try.prog 22 #[.slice A 6 c, .int .i64 5, .slice G 1 1] w fun e w' => e = .returned (.tuple #[.int .i64 3, .bool true, .int .i64 0]) ∧ Below w.heap.size w w' :=
  (Pick_calls w A c (rowS 6) 5 G 1 [1] hr hc hg (Nat.le_refl _)).mono fun e w' ⟨h, hb⟩ => by
    rw [us_row, show (Int.toNat 5) = 5 from rfl, h2, h3] at h
    rcases h with ⟨h, _⟩ | ⟨_, h, _⟩ | ⟨_, _, h⟩
    · exact absurd h1 h
    · exact absurd h (by decide)
    · exact ⟨h, hb⟩
theorem Hunt6 (w : World) (A : Option Addr) (c : Nat) (G : Option Addr) (hr : Kd.C k35 w A 6 (rowS 6)) (hc : 6 ≤ c) (hg : Kd.C (Kd.int .i64) w G 1 [1]) : Calls Try.prog 19 #[.slice A 6 c, .int .i64 5, .slice G 1 1, .func (.func 31) #[] #[]] w fun e w' => e = .returned (.tuple #[.int .i64 3, .int .i64 2, .int .i64 0]) ∧ Below w.heap.size w w' :=
  (Hunt_calls w A c (rowS 6) 5 G 1 [1] 31 #[] ge3 hr hc hg (Nat.le_refl _) (by decide) (asks31 w _)).mono fun e w' ⟨h, hb⟩ => by
    rw [us_row, show (Int.toNat 5) = 5 from rfl, h2] at h
    rcases h with ⟨h, _⟩ | ⟨_, r, h, he⟩
    · exact absurd h1 h
    · rw [show ([2, 3, 4, 5] : List Int).length = 4 from rfl, h4] at h
      subst h
      exact ⟨he, hb⟩

set_option maxHeartbeats 8000000 in
set_option maxRecDepth 100000 in
theorem begun_calls (w : World) : Calls Try.prog 16 #[] w fun e w' => e = .returned (.bool true) ∧ Below w.heap.size w w' := by
  have row6 : ∀ W : World, Calls Try.prog 20 #[.int .i64 6] W fun e w' => ∃ A c, e = .returned (.slice A 6 c) ∧ 6 ≤ c ∧ Kd.C k35 w' A 6 (rowS 6) ∧ Below W.heap.size W w' := fun W => row_calls W 6 (by omega) (by omega)
  have R6 := Aside0.mk row6
  clear row6
  go_enter Try.func16, Try.ntmps16
  go_wp2_with fail
  refine (R6.out w).mono ?_
  rintro e w1 ⟨A1, c1, rfl, hc1, hC1, hb1⟩
  have HB1 := Aside0.mk hb1
  have HC1 := Aside0.mk hC1
  clear hb1 hC1
  go_wp2_with fail
  have hW1 : Below w1.heap.size w1 (w1.alloc (.cells #[.int .i64 1] 3)) := below_alloc (Below.refl _ _) _
  refine (Suspects6 _ A1 c1 _ (Kd.C_below HC1.out hW1) hc1 (C_lit [1] (heap_alloc_new w1 _) (by decide))).mono ?_
  rintro e w2 ⟨A2, c2, rfl, hc2, hC2, hb⟩
  have HB2 := Aside0.mk (below_then HB1.out HB1.out.size (below_then hW1 hW1.size hb))
  have HC2 := Aside0.mk hC2
  clear hW1 hb hC2 HC1 HB1
  go_wp2_with fail
  refine (R6.out w2).mono ?_
  rintro e w3 ⟨A3, c3, rfl, hc3, hC3, hb3⟩
  have HB3 := Aside0.mk (below_then HB2.out HB2.out.size hb3)
  have HC2' := Aside0.mk (Kd.C_below HC2.out hb3)
  have HC3 := Aside0.mk hC3
  clear hb3 hC3 HC2 HB2
  go_wp2_with fail
  have hW3 : Below w3.heap.size w3 (w3.alloc (.cells #[.int .i64 1] 3)) := below_alloc (Below.refl _ _) _
  refine (Pick6 _ A3 c3 _ (Kd.C_below HC3.out hW3) hc3 (C_lit [1] (heap_alloc_new w3 _) (by decide))).mono ?_
  rintro e w4 ⟨rfl, hb⟩
  have hb4 := below_then hW3 hW3.size hb
  have HB4 := Aside0.mk (below_then HB3.out HB3.out.size hb4)
  have HC2 := Aside0.mk (Kd.C_below HC2'.out hb4)
  clear hW3 hb hb4 HC3 HB3 HC2'
  go_wp2_with fail
  refine (R6.out w4).mono ?_
  rintro e w5 ⟨A5, c5, rfl, hc5, hC5, hb5⟩
  have HB5 := Aside0.mk (below_then HB4.out HB4.out.size hb5)
  have HC2' := Aside0.mk (Kd.C_below HC2.out hb5)
  have HC5 := Aside0.mk hC5
  clear hb5 hC5 HC2 HB4
  go_wp2_with fail
  have hW5 : Below w5.heap.size w5 (w5.alloc (.cells #[.int .i64 1] 3)) := below_alloc (Below.refl _ _) _
  refine (Hunt6 _ A5 c5 _ (Kd.C_below HC5.out hW5) hc5 (C_lit [1] (heap_alloc_new w5 _) (by decide))).mono ?_
  rintro e w6 ⟨rfl, hb⟩
  have hb6 := below_then hW5 hW5.size hb
  have HB6 := Aside0.mk (below_then HB5.out HB5.out.size hb6)
  have HC2 := Aside0.mk (Kd.C_below HC2'.out hb6)
  clear hW5 hb hb6 HC5 HB5 HC2'
  go_wp2_with fail
  have hW6 : Below w6.heap.size w6 (w6.alloc (.cells #[.int .i64 2, .int .i64 3, .int .i64 4, .int .i64 5] 3)) := below_alloc (Below.refl _ _) _
  refine (Same_true [2, 3, 4, 5] (Kd.C_below HC2.out hW6) (C_lit [2, 3, 4, 5] (heap_alloc_new w6 _) (by decide))).mono ?_
  rintro e w7 ⟨rfl, hb⟩
  have HB7 := Aside0.mk (below_then HB6.out HB6.out.size (below_then hW6 hW6.size hb))
  clear hb hW6 HB6 HC2
  go_wp2
  go_ret
  exact ⟨rfl, HB7.out⟩
theorem begunC {w w0 : World} (hb : Below w0.heap.size w0 w) : Calls Try.prog 16 #[] w fun e w' => e = .returned (.bool true) ∧ Below w0.heap.size w0 w' :=
  (begun_calls w).mono fun _ _ ⟨h1, h2⟩ => ⟨h1, below_step hb h2⟩
end Go.Proofs.Ytblalidpeccabaa.Hn
