/- smallBegun's walk: it answers true. -/
import Derived.Test.YtaeamehngbfneaaSmallF
namespace Go.Proofs.Ytaeamehngbfneaa.Sl
open Go Go.RowKit Go.Lib Go.Proofs.YtaeamehngbfneaaW.PrintWords Go.Proofs.YtaeamehngbfneaaW.PrintLast Go.Proofs.YtaeamehngbfneaaW.PrintMore Go.Proofs.Ytaeamehngbfneaa.RegionVal Go.Proofs.Ytaeamehngbfneaa.PSmallAll
set_option linter.unusedVariables false
set_option linter.unusedSimpArgs false

theorem same_loop (l m : List Int) (hl : l.length ≤ 1000) (hm : l.length = m.length) : ∀ (d k i : Nat), i + d = l.length → d < k → backstitchref4_SameInts.l0 k l m i = some (decide (l.drop i = m.drop i))
  | 0, k, i, h, hk => by
    obtain ⟨k, rfl⟩ : ∃ m, k = m + 1 := ⟨k - 1, by omega⟩
    simp only [backstitchref4_SameInts.l0]
    rw [if_neg (by omega), List.drop_eq_nil_of_le (by omega), List.drop_eq_nil_of_le (by omega)]
    simp
  | d + 1, k, i, h, hk => by
    obtain ⟨k, rfl⟩ : ∃ m, k = m + 1 := ⟨k - 1, by omega⟩
    simp only [backstitchref4_SameInts.l0]
    have hi : i < l.length := by omega
    have hi' : i < m.length := by omega
    have hr : rd l (i : Int) = l[i] := by simp [rd, List.getD_eq_getElem?_getD, hi]
    have hr' : rd m (i : Int) = m[i] := by simp [rd, List.getD_eq_getElem?_getD, hi']
    rw [if_pos (by omega), if_pos (by omega), if_pos (by omega), hr, hr', List.drop_eq_getElem_cons hi, List.drop_eq_getElem_cons hi']
    by_cases e : l[i] = m[i]
    · rw [if_pos e, show wrap64 ((i : Int) + 1) = ((i + 1 : Nat) : Int) by unfold wrap64; omega, same_loop l m hl hm d k (i + 1) (by omega) (by omega)]
      congr 1
      simp only [List.cons.injEq, e, true_and]
    · rw [if_neg e]
      congr 1
      simp only [List.cons.injEq, e, false_and, decide_false]

theorem same_f (l m : List Int) (hl : l.length ≤ 1000) : backstitchref4_SameInts.f 1001 l m = some (decide (l = m)) := by
  unfold backstitchref4_SameInts.f
  by_cases h : (l.length : Int) = (m.length : Int)
  · rw [if_pos h]
    have := same_loop l m hl (by omega) l.length 1001 0 (by omega) (by omega)
    simpa using this
  · rw [if_neg h]
    have : l ≠ m := fun e => h (by rw [e])
    simp [this]

theorem sameC (w : World) (A : Option Addr) (c : Nat) (l : List Int) (A1 : Option Addr) (c1 : Nat) (m : List Int) (hr : ReadsInt w .i64 A l.length l) (hc : l.length ≤ c) (hl : l.length ≤ 1000) (hr1 : ReadsInt w .i64 A1 m.length m) (hc1 : m.length ≤ c1) :
    Calls Try.prog 14 #[.slice A l.length c, .slice A1 m.length c1] w fun e w' => e = .returned (.bool (decide (l = m))) ∧ Below w.heap.size w w' := by
  refine (backstitchref4_SameInts.calls 1001 A c l A1 c1 m (decide (l = m)) w (Kd.C_of_reads (d := (0 : Int)) (h1 := fun _ => rfl) hr) hc (Kd.C_of_reads (d := (0 : Int)) (h1 := fun _ => rfl) hr1) hc1 (same_f l m hl)).mono ?_
  rintro e w' ⟨rfl, h⟩
  exact ⟨rfl, h.below⟩

/-- a literal -/
theorem reads_lit (w : World) (xs : List Int) (hn : xs.length ≤ 1000) (T : TypeId) : ReadsInt (w.alloc (.cells (nums .i64 xs).toArray T)) .i64 (some ⟨w.heap.size, 0, none⟩) xs.length xs := by
  refine ⟨rfl, by omega, fun _ => ⟨_, rfl, fun j hj => ?_⟩⟩
  rw [add_plain]
  rw [blk_cell (heap_alloc_new w _) j]
  simp [nums, List.getD_eq_getElem?_getD, hj]

theorem min_begun : minF begunP [5, 1, 8, 3, 9] = ([1, 9], (minF begunP [5, 1, 8, 3, 9]).2) ∧ 0 < (minF begunP [5, 1, 8, 3, 9]).2 ∧ (minF begunP [5, 1, 8, 3, 9]).2 < 1000 := by decide

set_option maxHeartbeats 8000000 in
set_option maxRecDepth 100000 in
theorem begun_calls (w : World) : Calls Try.prog 9 #[] w fun e w' => e = .returned (.bool true) ∧ Below w.heap.size w w' := by
  obtain ⟨q, hq⟩ : ∃ q, q = (minF begunP [5, 1, 8, 3, 9]).2 := ⟨_, rfl⟩
  have hm := min_begun
  rw [← hq] at hm
  obtain ⟨hm0, hq0, hq1⟩ := hm
  have HM := Aside0.mk hm0
  have d1 : decide ((0 : Int) < (q : Int)) = true := decide_eq_true (by omega)
  clear hm0 hq
  go_enter Try.func9, Try.ntmps9
  go_wp2_with fail
  refine (Min_yes 19 #[] _ begunP (holds_begun1 _) _ (some ⟨w.heap.size, 0, none⟩) 5 [5, 1, 8, 3, 9] (Below.refl _ _) (reads_lit w [5, 1, 8, 3, 9] (by simp) 3) (by simp) (by simp) (by decide)).mono ?_
  rintro e w1 ⟨A1, c1, rfl, hc1, hr1, hb1⟩
  rw [HM.out] at hc1 hr1 ⊢
  have HR1 := Aside0.mk hr1
  have HC1 := Aside0.mk hc1
  have HB1 := Aside0.mk (below_then (below_alloc (Below.refl w.heap.size w) _) (by simp) hb1)
  clear hr1 hc1 hb1
  go_wp2_with fail
  refine (Without_ok _ (some ⟨w1.heap.size, 0, none⟩) 3 [1, 2, 3] 1 2 (reads_lit w1 [1, 2, 3] (by simp) 3) (by simp) (by simp) (by omega) (by omega) (by simp)).mono ?_
  rintro e w2 ⟨v2, rfl, ho2, hb2⟩
  obtain ⟨A2, c2, rfl, hc2, hr2⟩ := own_rd ho2
  have HR2 := Aside0.mk (show ReadsInt w2 .i64 A2 ([1, 3] : List Int).length [1, 3] from hr2)
  have HC2 := Aside0.mk (show ([1, 3] : List Int).length ≤ c2 from hc2)
  have hb2' : Below w1.heap.size w1 w2 := below_then (below_alloc (Below.refl _ w1) _) (by simp) hb2
  have HB2 := Aside0.mk (below_then HB1.out HB1.out.size hb2')
  have HR1' := Aside0.mk (HR1.out.below hb2')
  clear hr2 hc2 ho2 hb2 hb2'
  go_wp2_with fail
  refine (Min_no 20 #[] _ (fun _ => false) (holds_begun2 _) _ none 0 [] (Below.refl _ _) ⟨rfl, by simp, fun h => absurd h (by simp)⟩ (by simp) (by simp) rfl).mono ?_
  rintro e w3 ⟨rfl, hb3⟩
  have HR1 := Aside0.mk (HR1'.out.below hb3)
  have HR2' := Aside0.mk (HR2.out.below hb3)
  have HB3 := Aside0.mk (below_then HB2.out HB2.out.size hb3)
  clear hb3
  go_wp2_with fail
  refine (sameC _ A1 c1 [1, 9] (some ⟨w3.heap.size, 0, none⟩) 2 [1, 9] (HR1.out.below (below_alloc (Below.refl _ _) _)) HC1.out (by simp) (reads_lit w3 [1, 9] (by simp) 3) (by simp)).mono ?_
  rintro e w4 ⟨rfl, hb4⟩
  rw [show decide (([1, 9] : List Int) = [1, 9]) = true from rfl]
  have hb4' : Below w3.heap.size w3 w4 := below_then (below_alloc (Below.refl _ w3) _) (by simp) hb4
  have HR2 := Aside0.mk (HR2'.out.below hb4')
  have HB4 := Aside0.mk (below_then HB3.out HB3.out.size hb4')
  clear hb4 hb4'
  go_wp2_with fail
  refine (sameC _ A2 c2 [1, 3] (some ⟨w4.heap.size, 0, none⟩) 2 [1, 3] (HR2.out.below (below_alloc (Below.refl _ _) _)) HC2.out (by simp) (reads_lit w4 [1, 3] (by simp) 3) (by simp)).mono ?_
  rintro e w5 ⟨rfl, hb5⟩
  rw [show decide (([1, 3] : List Int) = [1, 3]) = true from rfl]
  have HB5 := Aside0.mk (below_then HB4.out HB4.out.size (below_then (below_alloc (Below.refl _ w4) _) (by simp) hb5))
  clear hb5
  go_wp2
  go_ret
  exact ⟨rfl, HB5.out⟩
end Go.Proofs.Ytaeamehngbfneaa.Sl
