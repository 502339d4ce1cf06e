/- slices.Clone, slices.DeleteFunc at []int; the closures of hunt.suspects. -/
import Derived.Test.YtblalidpeccabaaHuntA
namespace Go.Proofs.Ytblalidpeccabaa.Hn
open Go Go.RowKit Go.Lib Go.Proofs.YtblalidpeccabaaW.PrintWords Go.Proofs.YtblalidpeccabaaW.PrintLast Go.Proofs.YtblalidpeccabaaW.PrintMore Go.Proofs.Ytblalidpeccabaa.PHuntParts Go.Proofs.Ytblalidpeccabaa.Sc Go.Proofs.Ytblalidpeccabaa.Bs Go.Proofs.Ytblalidpeccabaa.RegionVal Go.Proofs.Ytblalidpeccabaa.Sm Go.Proofs.Ytblalidpeccabaa.Hp
set_option linter.unusedVariables false
set_option linter.unusedSimpArgs false

set_option maxHeartbeats 8000000 in
set_option maxRecDepth 100000 in
theorem clone_calls (w : World) (A : Option Addr) (c : Nat) (xs : List Int) (hr : Kd.C (Kd.int .i64) w A xs.length xs) (hc : xs.length ≤ c) (hl : xs.length ≤ 1000000) :
    Calls Try.prog 33 #[.slice A xs.length c] w fun e w' => ∃ v, e = .returned v ∧ w'.ownsRow w.heap.size 3 1 v xs.length (nums .i64 xs) ∧ Below w.heap.size w w' := by
  cases A with
  | none =>
    have hx : xs = [] := by
      cases xs with
      | nil => rfl
      | cons x xs => obtain ⟨_, h, _⟩ := hr.2.2 (by simp); cases h
    subst hx
    clear hr
    have hq : ∀ w : World, (binOp .eql 31 (.slice none 0 c) (.slice none 0 0)).run Try.prog w = .ok (.bool true) w := fun w => Lib.run_eql_slice_nil w 31 3 none 0 c 0 0 Try.underlying31
    go_enter Try.func33, Try.ntmps33
    go_wp2
    go_ret
    exact ⟨_, rfl, World.ownsRow_nil _ _ _ _, Below.refl _ _⟩
  | some ad =>
    have HR := Aside0.mk (reads_of hr)
    clear hr
    have hq : ∀ w : World, (binOp .eql 31 (.slice (some ad) xs.length c) (.slice none 0 0)).run Try.prog w = .ok (.bool false) w := fun w => Lib.run_eql_slice_nil w 31 3 (some ad) xs.length c 0 0 Try.underlying31
    go_enter Try.func33, Try.ntmps33
    go_wp2_with (at_builtin; refine print_append_row (w0 := w) w.heap.size rfl _ _ 31 3 .i64 8 rfl Try.underlying31 infoInt (by decide) (.slice (some ⟨w.heap.size, 0, none⟩) 0 0) [] xs (some ad) xs.length c rfl rfl (World.ownsRow_made w #[] 0 (Nat.le_refl _) (by decide) rfl) (HR.out.below (below_alloc (Below.refl _ _) _)) (below_alloc (Below.refl _ _) _) (below_alloc (Below.refl _ _) _).size (by simp; omega) ?_; intro v1 w3 hown hB hg hat; have HO3 := Aside0.mk hown; have HB3 := Aside0.mk hB; clear hown hB hg hat)
    go_ret
    exact ⟨_, rfl, by have := HO3.out; rwa [List.nil_append] at this, HB3.out⟩

/-- from a later world on the same holds -/
theorem Asks.later {α : Type} {f : FuncId} {cap : Array Value} {w0 w : World} {enc : α → Value} {xs : List α} {p : α → Bool} (h : Sm.Asks f cap w0 enc xs p) (hw : Below w0.heap.size w0 w) : Sm.Asks f cap w enc xs p :=
  ⟨h.eg, fun x hx W hW => h.calls x hx W (below_then hw hw.size hW)⟩

theorem index_l0 (l : List Int) (x : Int) (hn : l.length ≤ 9223372036854775807) : ∀ m q, l.length - q = m → q ≤ l.length → ∃ r, slices_Index_int_int.l0 (m + 1) l x (l.length : Int) (q : Int) = some r ∧ decide (r ≥ 0) = decide (x ∈ l.drop q)
  | 0, q, hm, hq => by
    have e : q = l.length := by omega
    subst e
    rw [slices_Index_int_int.l0, if_neg (by omega), List.drop_length]
    exact ⟨_, rfl, by simp⟩
  | m + 1, q, hm, hq => by
    have hlt : q < l.length := by omega
    have hrd : rd l (q : Int) = l[q] := by simp [rd, List.getD_eq_getElem?_getD, hlt]
    obtain ⟨r, h1, h2⟩ := index_l0 l x hn m (q + 1) (by omega) (by omega)
    rw [slices_Index_int_int.l0, if_pos (by omega), if_pos (by omega), if_pos (by omega), hrd]
    by_cases h : x = l[q]
    · rw [if_pos h]
      refine ⟨_, rfl, ?_⟩
      rw [decide_eq_true (show (q : Int) ≥ 0 by omega), List.drop_eq_getElem_cons hlt]
      exact (decide_eq_true (List.mem_cons.2 (.inl h))).symm
    · rw [if_neg h, wrap64_id (by omega) (by omega), show ((q : Int) + 1) = ((q + 1 : Nat) : Int) by omega, h1]
      refine ⟨r, rfl, ?_⟩
      rw [h2]
      refine decide_eq_decide.2 ?_
      rw [List.drop_eq_getElem_cons hlt, List.mem_cons]
      exact ⟨.inr, fun k => k.resolve_left h⟩
theorem contains_calls (w : World) (A : Option Addr) (c : Nat) (l : List Int) (x : Int) (hr : Kd.C (Kd.int .i64) w A l.length l) (hc : l.length ≤ c) :
    Calls Try.prog 44 #[.slice A l.length c, .int .i64 x] w fun e w' => e = .returned (.bool (decide (x ∈ l))) ∧ Below w.heap.size w w' := by
  obtain ⟨r, h1, h2⟩ := index_l0 l x hr.2.1 (l.length - 0) 0 rfl (by omega)
  rw [List.drop_zero] at h2
  refine (slices_Contains_int_int.calls (l.length - 0 + 1) A c l x (decide (r ≥ 0)) w hr hc (by unfold slices_Contains_int_int.f slices_Index_int_int.f; rw [show ((0 : Nat) : Int) = 0 from rfl] at h1; rw [h1]; rfl)).mono fun e w' ⟨h3, h4⟩ => ⟨by rw [h3, h2], h4.below⟩

/-- suspects' inner closure: is n one of what g comes of? -/
theorem asks47 (W : World) (hbx nbx hb : Nat) (xss : List (List Int)) (n : Int) (good : List Int) (h1 : W.heap[hbx]? = some (.cells #[.pointer (some ⟨hb, 0, none⟩)] 62 (0, 0))) (h2 : W.heap[nbx]? = some (.cells #[.int .i64 n] 3 (0, 0)))
    (h3 : Hunter W hb xss) (h4 : ∀ g ∈ good, 0 ≤ g ∧ g < (xss.length : Int)) : Sm.Asks 47 #[.pointer (some ⟨hbx, 0, none⟩), .pointer (some ⟨nbx, 0, none⟩)] W (Value.int .i64) good (fun g => decide (n ∈ xss.getD g.toNat [])) := by
  refine ⟨fun args w => enters_ Try.func47 (by kernel_rfl) rfl args w, fun g hg w hw => ?_⟩
  obtain ⟨i0, i1⟩ := h4 g hg
  obtain ⟨j, rfl⟩ : ∃ j : Nat, g = (j : Int) := ⟨g.toNat, by omega⟩
  have hj : j < xss.length := by omega
  have H1 := Aside0.mk (blk_below h1 hw)
  have H2 := Aside0.mk (blk_below h2 hw)
  obtain ⟨A, c, g0, hc, hC⟩ := h3.below hw
  obtain ⟨ad, A0, c0, rfl, g1, hc0, hC0⟩ := at_row hC hj
  have hgd : xss.getD (Int.toNat (j : Int)) [] = xss[j] := by simp [List.getD_eq_getElem?_getD, hj]
  show Calls Try.prog 47 #[.int .i64 (j : Int), .pointer (some ⟨hbx, 0, none⟩), .pointer (some ⟨nbx, 0, none⟩)] w _
  rw [hgd]
  have HC0 := Aside0.mk hC0
  generalize xss[j] = ys at g1 hc0 HC0 ⊢
  have G0 := Aside0.mk g0
  have G1 := Aside0.mk g1
  have L0 := Aside0.mk (World.block_lt_of_cell? w _ g0)
  have L1 := Aside0.mk (World.block_lt_of_cell? w _ g1)
  have hj1 : (j : Int) < (xss.length : Int) := by omega
  clear h1 h2 h3 h4 hw hC hC0 hgd g0 g1 hg
  go_enter Try.func47, Try.ntmps47
  go_wp2_with fail
  refine wp_eff (S := fun w' => Below w.heap.size w w') [(0, false), (1, false), (2, false), (3, false), (4, false), (5, false), (6, false), (7, false), (8, true), (9, false)] (by kernel_rfl) (by kernel_rfl) (below_drew1 (Below.refl _ _)) (fun _ _ d _ _ h => by cases d <;> exact h) ?_
  refine se_un rfl rfl rfl rfl rfl (fun w' hw => by
    have q := blk_cell (blk_below H1.out hw) 0
    simp only [List.getElem?_toArray, List.getElem?_cons_zero] at q
    go_simp; with_reducible rfl) ?_
  refine se_un rfl rfl rfl rfl rfl (fun w' hw => by go_simp; with_reducible rfl) ?_
  refine se_un rfl rfl rfl rfl rfl (fun w' hw => by go_simp; with_reducible rfl) ?_
  refine se_un rfl rfl rfl rfl rfl (fun w' hw => by have q := (hw.cell L0.out).trans G0.out; go_simp; with_reducible rfl) ?_
  refine se_move rfl rfl rfl ?_
  refine se_indexAddr rfl rfl rfl rfl (fun w' hw => by go_simp; with_reducible rfl) ?_
  refine se_un rfl rfl rfl rfl rfl (fun w' hw => by have q := (hw.cell L1.out).trans G1.out; go_simp; with_reducible rfl) ?_
  refine se_un rfl rfl rfl rfl rfl (fun w' hw => by
    have q := blk_cell (blk_below H2.out hw) 0
    simp only [List.getElem?_toArray, List.getElem?_cons_zero] at q
    go_simp; with_reducible rfl) ?_
  refine se_call (vs := [.slice A0 ys.length c0, .int .i64 n]) rfl rfl Try.func44 (by kernel_rfl) rfl (by kernel_rfl) ?_
  refine (contains_calls _ A0 c0 ys n (Kd.C_below HC0.out (below_drew1 (Below.refl _ _))) hc0).mono ?_
  rintro e w3 ⟨rfl, hb3⟩
  refine ⟨_, rfl, below_then (below_drew1 (Below.refl _ _)) (below_drew1 (Below.refl w.heap.size w)).size hb3, ?_⟩
  refine se_assign rfl rfl rfl ?_
  intro hw7
  have HB7 := Aside0.mk hw7
  clear hw7 hb3
  simp only [puts, Act.put, List.setIfInBounds_toArray, List.set_cons_zero, List.set_cons_succ]
  go_wp2
  go_ret
  exact ⟨rfl, HB7.out⟩
end Go.Proofs.Ytblalidpeccabaa.Hn
