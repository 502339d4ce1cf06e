/- thinBegun: it answers true. -/
import Derived.Test.YtaeamehngbfneaaThinA
import Derived.Test.YtaeamehngbfneaaSame
namespace Go.Proofs.Ytaeamehngbfneaa.Th
open Go Go.RowKit Go.Lib Go.Proofs.YtaeamehngbfneaaW.PrintWords Go.Proofs.YtaeamehngbfneaaW.PrintLast Go.Proofs.YtaeamehngbfneaaW.PrintMore Go.Proofs.Ytaeamehngbfneaa.Bs
attribute [local go_sem] max2_int min2_int max_two min_two
set_option linter.unusedVariables false
set_option linter.unusedSimpArgs false

theorem kept_at (n i : Nat) (l : List Int) (h1 : Pows n i) (h2 : l.Pairwise (· < ·)) (h3 : ∀ x, x ∈ raw n i ↔ x ∈ l) : kept n = l :=
  sorted_ext (kept_sorted n) h2 (fun x => by unfold kept; rw [(sortedOnce_spec _).2, ← Pows.uniq h1 (pw_pows n), h3])
theorem pows_of (n i : Nat) (h : ((List.range i).all fun j => decide (2 ^ j ≤ n)) = true) (h' : n < 2 ^ i) : Pows n i :=
  ⟨fun j hj => by simpa using List.all_eq_true.1 h j (List.mem_range.2 hj), h'⟩
theorem kept11 : kept 11 = [0, 4, 8, 10, 11] :=
  kept_at 11 4 _ (pows_of _ _ (by decide) (by decide)) (by decide) (fun x => by rw [show raw 11 4 = [0, 11, 11, 10, 10, 8, 8, 4, 8, 0] from rfl]; simp only [List.mem_cons, List.not_mem_nil, or_false]; omega)
theorem kept12 : kept 12 = [0, 8, 10, 11, 12] :=
  kept_at 12 4 _ (pows_of _ _ (by decide) (by decide)) (by decide) (fun x => by rw [show raw 12 4 = [0, 12, 12, 11, 12, 10, 12, 8, 8, 0] from rfl]; simp only [List.mem_cons, List.not_mem_nil, or_false]; omega)
theorem gone11 : gone 11 = [4] := by unfold gone; rw [kept11, kept12]; decide

set_option maxHeartbeats 8000000 in
set_option maxRecDepth 100000 in
theorem begun_calls (w : World) : Calls Try.prog 15 #[] w fun e w' => e = .returned (.bool true) ∧ Below w.heap.size w w' := by
  go_enter Try.func15, Try.ntmps15
  go_wp2_with fail
  refine (Kept_ok _ 11 (by omega)).mono ?_
  rintro e w1 ⟨g1, c1, rfl, hc1, hg1, hA1, hB1⟩
  have HA1 := Aside0.mk hA1
  have HB1 := Aside0.mk hB1
  clear hA1 hB1
  go_wp2_with fail
  refine (Add_calls _ g1 c1 11 (by omega) HA1.out hc1).mono ?_
  rintro e w2 ⟨g2, c2, A3, c3, rfl, hc2, hg2, hA2, hc3, hr3, hB2⟩
  rw [kept11] at hc1 ⊢
  rw [kept12] at hc2 hA2 ⊢
  rw [gone11] at hc3 hr3 ⊢
  have HA1' := Aside0.mk (show At w2 g1 [0, 4, 8, 10, 11] by rw [← kept11]; exact HA1.out.below hB2)
  have HA2 := Aside0.mk hA2
  have HR3 := Aside0.mk hr3
  have HB2 := Aside0.mk (below_then HB1.out HB1.out.size hB2)
  clear hA2 hB2 hr3 HA1
  go_wp2_with fail
  refine (From_calls _ g1 c1 [0, 4, 8, 10, 11] 9 HA1'.out hc1 (by decide) (by decide) (by decide) ⟨0, by decide, by decide⟩).mono ?_
  rintro e w3 ⟨r, rfl, hr, hrx, hall, hB3⟩
  obtain rfl : r = 8 := by
    have := hall 8 (by decide) (by decide)
    simp only [List.mem_cons, List.not_mem_nil, or_false] at hr
    omega
  have HA2' := Aside0.mk (HA2.out.below hB3)
  have HA1 := Aside0.mk (HA1'.out.below hB3)
  have HR3' := Aside0.mk (HR3.out.below hB3)
  have HB3 := Aside0.mk (below_then HB2.out HB2.out.size hB3)
  clear hr hrx hall hB3
  go_wp2_with fail
  refine (same_calls _ (some ⟨g1, 0, none⟩) c1 [0, 4, 8, 10, 11] (some ⟨w3.heap.size, 0, none⟩) 5 [0, 4, 8, 10, 11] ((HA1.out.reads (by simp)).below (below_alloc (Below.refl _ _) _)) (reads_lit w3 [0, 4, 8, 10, 11] (by simp) 3)).mono ?_
  rintro e w4 ⟨rfl, hb4⟩
  rw [show decide (([0, 4, 8, 10, 11] : List Int) = [0, 4, 8, 10, 11]) = true from rfl]
  have hb4' : Below w3.heap.size w3 w4 := below_then (below_alloc (Below.refl _ w3) _) (by simp) hb4
  have HA2 := Aside0.mk (HA2'.out.below hb4')
  have HR3 := Aside0.mk (HR3'.out.below hb4')
  have HB4 := Aside0.mk (below_then HB3.out HB3.out.size hb4')
  clear hb4 hb4'
  go_wp2_with fail
  refine (same_calls _ (some ⟨g2, 0, none⟩) c2 [0, 8, 10, 11, 12] (some ⟨w4.heap.size, 0, none⟩) 5 [0, 8, 10, 11, 12] ((HA2.out.reads (by simp)).below (below_alloc (Below.refl _ _) _)) (reads_lit w4 [0, 8, 10, 11, 12] (by simp) 3)).mono ?_
  rintro e w5 ⟨rfl, hb5⟩
  rw [show decide (([0, 8, 10, 11, 12] : List Int) = [0, 8, 10, 11, 12]) = true from rfl]
  have hb5' : Below w4.heap.size w4 w5 := below_then (below_alloc (Below.refl _ w4) _) (by simp) hb5
  have HR3' := Aside0.mk (HR3.out.below hb5')
  have HB5 := Aside0.mk (below_then HB4.out HB4.out.size hb5')
  clear hb5 hb5'
  go_wp2_with fail
  refine (same_calls _ A3 c3 [4] (some ⟨w5.heap.size, 0, none⟩) 1 [4] (HR3'.out.below (below_alloc (Below.refl _ _) _)) (reads_lit w5 [4] (by simp) 3)).mono ?_
  rintro e w6 ⟨rfl, hb6⟩
  rw [show decide (([4] : List Int) = [4]) = true from rfl]
  have hb6' : Below w5.heap.size w5 w6 := below_then (below_alloc (Below.refl _ w5) _) (by simp) hb6
  have HB6 := Aside0.mk (below_then HB5.out HB5.out.size hb6')
  clear hb6 hb6'
  go_wp2
  go_ret
  exact ⟨rfl, HB6.out⟩

theorem begunC {w w0 : World} (hb : Below w0.heap.size w0 w) : Calls Try.prog 15 #[] w fun e w' => e = .returned (.bool true) ∧ Below w0.heap.size w0 w' :=
  (begun_calls w).mono fun _ _ ⟨h1, h2⟩ => ⟨h1, below_step hb h2⟩
end Go.Proofs.Ytaeamehngbfneaa.Th
