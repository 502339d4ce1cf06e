/- slices.Clone at []int and at pages; slices.Index, IndexFunc as pages uses them. -/
import Derived.Test.YtblalidpeccabacPageG
namespace Go.Proofs.Ytblalidpeccabac.Pg
open Go Go.RowKit Go.Lib Go.Proofs.YtblalidpeccabacW.PrintWords Go.Proofs.YtblalidpeccabacW.PrintLast Go.Proofs.YtblalidpeccabacW.PrintMore Go.Proofs.Ytblalidpeccabac.PPagesBack Go.Proofs.Ytblalidpeccabac.Bs Go.Proofs.Ytblalidpeccabac.RegionVal
set_option linter.unusedVariables false
set_option linter.unusedSimpArgs false

theorem R_int {w : World} {base : Nat} {v : Value} {xs : List Int} (h : w.ownsRow base 3 1 v xs.length (nums .i64 xs)) : Kd.R kI 3 w base (fun _ => True) v xs := Kd.R_of_own h (fun _ _ => trivial)
theorem info38 : (Try.prog.info? 38).map (fun i => (i.zero, i.size, i.bytes)) = some (some (.agg #[.int .i64 0, .int .i64 0, .int .i64 0, .int .i64 0]), 4, 32) := by kernel_rfl
theorem R_litP (W : World) (base : Nat) (hb : base ≤ W.heap.size) : Kd.R kP 38 (W.alloc (.cells #[] 38)) base (fun _ => True) (.slice (some ⟨W.heap.size, 0, none⟩) 0 0) [] :=
  ⟨fun _ _ => trivial, [], World.ownsRow_made W #[] 0 hb (by decide) rfl, ⟨rfl, fun i p h => by simp at h⟩⟩
theorem M_of_K {W : World} {base : Nat} {x : List Int} {cs : List Value} (h : kP.K W x cs) : kP.M W base (fun _ => False) x cs := by
  obtain ⟨h1, rfl⟩ := Kd.arr_cells (enc := Value.int .i64) (h1 := fun _ => rfl) h
  exact Kd.arr_of_cells h1

set_option maxHeartbeats 8000000 in
set_option maxRecDepth 100000 in
theorem cloneI_calls (w : World) (A : Option Addr) (c : Nat) (xs : List Int) (hr : Kd.C kI w A xs.length xs) (hc : xs.length ≤ c) (hl : xs.length ≤ 1000000) :
    Calls Try.prog 27 #[.slice A xs.length c] w fun e w' => ∃ v, e = .returned v ∧ Kd.R kI 3 w' w.heap.size (fun _ => True) v xs ∧ Below w.heap.size w w' := by
  cases A with
  | none =>
    have hx : xs = [] := by
      cases xs with
      | nil => rfl
      | cons x xs => obtain ⟨_, h, _⟩ := hr.2.2 (by simp); cases h
    subst hx
    clear hr
    have hq : ∀ w : World, (binOp .eql 23 (.slice none 0 c) (.slice none 0 0)).run Try.prog w = .ok (.bool true) w := fun w => Lib.run_eql_slice_nil w 23 3 none 0 c 0 0 Try.underlying23
    go_enter Try.func27, Try.ntmps27
    go_wp2
    go_ret
    exact ⟨_, rfl, Kd.R_nil _ _ _ _ _, Below.refl _ _⟩
  | some ad =>
    have HR := Aside0.mk (reads_of hr)
    clear hr
    have hq : ∀ w : World, (binOp .eql 23 (.slice (some ad) xs.length c) (.slice none 0 0)).run Try.prog w = .ok (.bool false) w := fun w => Lib.run_eql_slice_nil w 23 3 (some ad) xs.length c 0 0 Try.underlying23
    go_enter Try.func27, Try.ntmps27
    go_wp2_with (at_builtin; refine print_append_row (w0 := w) w.heap.size rfl _ _ 23 3 .i64 8 rfl Try.underlying23 infoInt (by decide) (.slice (some ⟨w.heap.size, 0, none⟩) 0 0) [] xs (some ad) xs.length c rfl rfl (World.ownsRow_made w #[] 0 (Nat.le_refl _) (by decide) rfl) (HR.out.below (below_alloc (Below.refl _ _) _)) (below_alloc (Below.refl _ _) _) (below_alloc (Below.refl _ _) _).size (by simp; omega) ?_; intro v1 w3 hown hB hg hat; have HO3 := Aside0.mk hown; have HB3 := Aside0.mk hB; clear hown hB hg hat)
    go_ret
    exact ⟨_, rfl, R_int (by have := HO3.out; rwa [List.nil_append] at this), HB3.out⟩

set_option maxHeartbeats 8000000 in
set_option maxRecDepth 100000 in
theorem cloneP_calls (w : World) (A : Option Addr) (c : Nat) (xs : List (List Int)) (hr : Kd.C kP w A xs.length xs) (hc : xs.length ≤ c) (hl : xs.length ≤ 1000000) :
    Calls Try.prog 47 #[.slice A xs.length c] w fun e w' => ∃ v, e = .returned v ∧ Kd.R kP 38 w' w.heap.size (fun _ => True) v xs ∧ Below w.heap.size w w' := by
  cases A with
  | none =>
    have hx : xs = [] := by
      cases xs with
      | nil => rfl
      | cons x xs => obtain ⟨_, h, _⟩ := hr.2.2 (by simp); cases h
    subst hx
    clear hr
    have hq : ∀ w : World, (binOp .eql 22 (.slice none 0 c) (.slice none 0 0)).run Try.prog w = .ok (.bool true) w := fun w => Lib.run_eql_slice_nil w 22 38 none 0 c 0 0 Try.underlying22
    go_enter Try.func47, Try.ntmps47
    go_wp2
    go_ret
    exact ⟨_, rfl, Kd.R_nil _ _ _ _ _, Below.refl _ _⟩
  | some ad =>
    have HR := Aside0.mk hr
    clear hr
    have hq : ∀ w : World, (binOp .eql 22 (.slice (some ad) xs.length c) (.slice none 0 0)).run Try.prog w = .ok (.bool false) w := fun w => Lib.run_eql_slice_nil w 22 38 (some ad) xs.length c 0 0 Try.underlying22
    go_enter Try.func47, Try.ntmps47
    go_wp2_with (at_builtin; refine Kd.R_append_rows kP (Rr := kP.K (w.alloc (.cells #[] 38))) (w0 := w) w.heap.size rfl _ _ 22 38 (.agg #[.int .i64 0, .int .i64 0, .int .i64 0, .int .i64 0]) 32 rfl Try.underlying22 info38 rfl (by decide) (by omega) (.slice (some ⟨w.heap.size, 0, none⟩) 0 0) [] xs (some ad) xs.length c (fun _ => True) (fun _ => False) rfl rfl (R_litP w w.heap.size (Nat.le_refl _)) (Kd.C_below HR.out (below_alloc (Below.refl _ _) _)) (fun x cs h => M_of_K h) (fun _ h => h.elim) (fun _ _ => trivial) (below_alloc (Below.refl _ _) _) (below_alloc (Below.refl _ _) _).size (by simp; omega) ?_; intro v1 w3 hown hB hg hat; have HO3 := Aside0.mk hown; have HB3 := Aside0.mk hB; clear hown hB hg hat)
    go_ret
    exact ⟨_, rfl, by have := HO3.out; rwa [List.nil_append] at this, HB3.out⟩

/-- where the first x stands -/
def idxF (l : List Int) (x : Int) : Int := match l.findIdx? (fun y => decide (x = y)) with | some i => (i : Int) | none => -1
theorem index_loop (l : List Int) (x : Int) (hl : l.length ≤ 1000) : ∀ (d k i : Nat), i + d = l.length → d < k → slices_Index_int_int.l0 k l x (l.length : Int) i = some (match (l.drop i).findIdx? (fun y => decide (x = y)) with | some j => ((i + j : Nat) : Int) | none => -1)
  | 0, k, i, h, hk => by
    obtain ⟨k, rfl⟩ : ∃ m, k = m + 1 := ⟨k - 1, by omega⟩
    simp only [slices_Index_int_int.l0]
    rw [if_neg (by omega), List.drop_eq_nil_of_le (by omega)]
    rfl
  | d + 1, k, i, h, hk => by
    obtain ⟨k, rfl⟩ : ∃ m, k = m + 1 := ⟨k - 1, by omega⟩
    simp only [slices_Index_int_int.l0]
    have hi : i < l.length := by omega
    have hr : rd l (i : Int) = l[i] := by simp [rd, List.getD_eq_getElem?_getD, hi]
    rw [if_pos (by omega), if_pos (by omega), if_pos (by omega), hr, List.drop_eq_getElem_cons hi, List.findIdx?_cons]
    by_cases e : x = l[i]
    · rw [if_pos e, if_pos (by simpa using e)]
      simp
    · rw [if_neg e, if_neg (by simpa using e), show wrap64 ((i : Int) + 1) = ((i + 1 : Nat) : Int) by unfold wrap64; omega, index_loop l x hl d k (i + 1) (by omega) (by omega)]
      cases (l.drop (i + 1)).findIdx? (fun y => decide (x = y)) with
      | none => rfl
      | some j =>
        show some (((i + 1 + j : Nat) : Int)) = some (((i + (j + 1) : Nat) : Int))
        rw [show i + 1 + j = i + (j + 1) by omega]
theorem index_calls (w : World) (A : Option Addr) (c : Nat) (l : List Int) (x : Int) (hr : Kd.C kI w A l.length l) (hc : l.length ≤ c) (hl : l.length ≤ 1000) :
    Calls Try.prog 48 #[.slice A l.length c, .int .i64 x] w fun e w' => e = .returned (.int .i64 (idxF l x)) ∧ Below w.heap.size w w' :=
  (slices_Index_int_int.calls 1001 A c l x (idxF l x) w hr hc (by
    unfold slices_Index_int_int.f idxF
    have := index_loop l x hl l.length 1001 0 (by omega) (by omega)
    rw [List.drop_zero] at this
    rw [show ((0 : Nat) : Int) = 0 from rfl] at this
    rw [this]
    cases l.findIdx? (fun y => decide (x = y)) <;> simp)).mono fun e w' ⟨h1, h2⟩ => ⟨h1, h2.below⟩
end Go.Proofs.Ytblalidpeccabac.Pg
