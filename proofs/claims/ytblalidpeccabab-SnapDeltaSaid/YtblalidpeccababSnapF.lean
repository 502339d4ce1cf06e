/- snap.Back of the begun numbers; snapBegun. -/
import Derived.Test.YtblalidpeccababSnapE
namespace Go.Proofs.Ytblalidpeccabab.Sn
open Go.Proofs.YtblalidpeccababW
open Go Go.RowKit Go.Lib Go.Proofs.YtblalidpeccababW.PrintWords Go.Proofs.YtblalidpeccababW.PrintLast Go.Proofs.YtblalidpeccababW.PrintMore Go.Proofs.Ytblalidpeccabab.PSnapDelta Go.Proofs.Ytblalidpeccabab.Bs
set_option linter.unusedVariables false
set_option linter.unusedSimpArgs false

theorem ab_lim : ∀ x ∈ [ab], x.size ≤ LIM := by
  intro x hx
  obtain rfl : x = ab := by simpa using hx
  decide
/-- a state as it lies -/
def stC (v2 : Value) (a s : Int) : Array Value := #[.slice none 0 0, .slice none 0 0, v2, .slice none 0 0, .slice none 0 0, .slice none 0 0, .int .i64 a, .int .i64 s]
structure Two (sb rs : Nat) (v2 : Value) (a s : Int) (w : World) : Prop where mk ::
  st : w.heap[sb]? = some (.cells (stC v2 a s) 29 (0, 0))
  rs : w.heap[rs]? = some (.cells (stC (.slice none 0 0) 0 0) 29 (0, 0))
theorem Two.cells {sb rs : Nat} {v2 : Value} {a s : Int} {w : World} (h : Two sb rs v2 a s w) : w.cell? ⟨sb, 0, none⟩ = some (.slice none 0 0) ∧ w.cell? ⟨sb, 1, none⟩ = some (.slice none 0 0) ∧ w.cell? ⟨sb, 2, none⟩ = some v2 ∧ w.cell? ⟨sb, 3, none⟩ = some (.slice none 0 0) ∧
    w.cell? ⟨sb, 4, none⟩ = some (.slice none 0 0) ∧ w.cell? ⟨sb, 5, none⟩ = some (.slice none 0 0) ∧ w.cell? ⟨sb, 6, none⟩ = some (.int .i64 a) ∧ w.cell? ⟨sb, 7, none⟩ = some (.int .i64 s) :=
  ⟨blk_cell h.st 0, blk_cell h.st 1, blk_cell h.st 2, blk_cell h.st 3, blk_cell h.st 4, blk_cell h.st 5, blk_cell h.st 6, blk_cell h.st 7⟩
theorem Two.froz {sb rs : Nat} {v2 : Value} {a s : Int} {w : World} (h : Two sb rs v2 a s w) : ∀ i, w.frozen? ⟨sb, i, none⟩ = false := fun i => blk_frozen h.st i
theorem Two.keep {sb rs rb : Nat} {v2 : Value} {a s : Int} {w w1 : World} (h : Two sb rs v2 a s w) (hg : w.grownBy w1 (some rb)) (h1 : sb ≠ rb) (h2 : rs ≠ rb) : Two sb rs v2 a s w1 :=
  ⟨blk_grown h.st hg (by simpa using h1), blk_grown h.rs hg (by simpa using h2)⟩
theorem Two.put {sb rs : Nat} {v2 u2 : Value} {a s b t : Int} {w : World} (h : Two sb rs v2 a s w) (hne : rs ≠ sb) (j : Nat) (u : Value) (e : (stC v2 a s).setIfInBounds j u = stC u2 b t) : Two sb rs u2 b t (w.setCell ⟨sb, j, none⟩ u) :=
  ⟨blk_put h.st j u e, blk_far h.rs (p := ⟨sb, j, none⟩) hne u⟩

set_option maxHeartbeats 8000000 in
set_option maxRecDepth 100000 in
theorem back_calls (w : World) (A : Option Addr) (c : Nat) (hr : Kd.C (Kd.int .i64) w A flat0.length flat0) (hc : flat0.length ≤ c) :
    Calls Try.prog 11 #[.slice A flat0.length c] w fun e w' => ∃ A' c', e = .returned (.tuple #[.agg #[.slice none 0 0, .slice none 0 0, .slice A' 1 c', .slice none 0 0, .slice none 0 0, .slice none 0 0, .int .i64 0, .int .i64 3], .int .i64 0]) ∧ Kd.C Kd.string w' A' 1 [ab] ∧ Below w.heap.size w w' := by
  have HR := Aside0.mk (reads_of hr)
  have HC := Aside0.mk hc
  clear hr hc
  go_enter Try.func11, Try.ntmps11
  go_wp2_with fail
  obtain ⟨r, hr⟩ : ∃ r, r = w.heap.size := ⟨_, rfl⟩
  obtain ⟨W3, hW3⟩ : ∃ W3, W3 = ((w.alloc (.cells #[.slice none 0 0, .slice none 0 0, .slice none 0 0, .slice none 0 0, .slice none 0 0, .slice none 0 0, .int .i64 0, .int .i64 0] 29)).alloc (.cells #[.slice A flat0.length c, .bool false] 88)).alloc (.cells #[.slice none 0 0, .slice none 0 0, .slice none 0 0, .slice none 0 0, .slice none 0 0, .slice none 0 0, .int .i64 0, .int .i64 0] 29) := ⟨_, rfl⟩
  have n1 := heap_alloc_new w (.cells #[.slice none 0 0, .slice none 0 0, .slice none 0 0, .slice none 0 0, .slice none 0 0, .slice none 0 0, .int .i64 0, .int .i64 0] 29)
  have n2 := heap_alloc_new (w.alloc (.cells #[.slice none 0 0, .slice none 0 0, .slice none 0 0, .slice none 0 0, .slice none 0 0, .slice none 0 0, .int .i64 0, .int .i64 0] 29)) (.cells #[.slice A flat0.length c, .bool false] 88)
  have n3 := heap_alloc_new ((w.alloc (.cells #[.slice none 0 0, .slice none 0 0, .slice none 0 0, .slice none 0 0, .slice none 0 0, .slice none 0 0, .int .i64 0, .int .i64 0] 29)).alloc (.cells #[.slice A flat0.length c, .bool false] 88)) (.cells #[.slice none 0 0, .slice none 0 0, .slice none 0 0, .slice none 0 0, .slice none 0 0, .slice none 0 0, .int .i64 0, .int .i64 0] 29)
  simp only [World.size_alloc] at n2 n3
  have HB3 := Aside0.mk (show Below w.heap.size w W3 by rw [hW3]; exact below_alloc (below_alloc (below_alloc (Below.refl _ _) _) _) _)
  have HT0 := Aside0.mk (show Two (r + 1 + 1) r (.slice none 0 0) 0 0 W3 from ⟨by rw [hW3, hr]; exact n3, by rw [hW3, hr]; exact blk_alloc (blk_alloc n1 _) _⟩)
  have HR0 := Aside0.mk (show Rd w (r + 1) W3 flat0 from ⟨by omega, ⟨A, c, by rw [hW3, hr]; exact blk_alloc n2 _, HC.out, HR.out⟩, HB3.out⟩)
  have HRS := Aside0.mk (Nat.le_of_eq hr.symm)
  (try rw [← hW3])
  (try rw [← hr])
  clear hW3 hr n1 n2 n3 HR HC HB3
  refine (some35_zero w (r + 1) _ [0, 1, 2, 97, 98, 0, 0, 0, 0, 3] _ _ 36 HR0.out).mono ?_
  rintro e u1 ⟨rfl, h1, h2⟩
  have hT := HT0.out.keep h2 (by omega) (by omega)
  obtain ⟨c0, c1, c2_, c3, c4, c5, c6, c7⟩ := hT.cells
  have hfr := hT.froz
  have HT1 := Aside0.mk (hT.put (u2 := (.slice none 0 0)) (b := 0) (t := 0) (by omega) 0 (.slice none 0 0) rfl)
  have HR1 := Aside0.mk (h1.keep (grown_set u1 (r + 1 + 1) 0 (.slice none 0 0)) (by simp) (fun k hk => by cases hk; have := HRS.out; omega))
  clear h1 h2 hT HT0 HR0
  go_wp2_with fail
  clear c0 c1 c2_ c3 c4 c5 c6 c7 hfr
  refine (some37_zero w (r + 1) _ [1, 2, 97, 98, 0, 0, 0, 0, 3] _ _ 38 HR1.out).mono ?_
  rintro e u2 ⟨rfl, h1, h2⟩
  have hT := HT1.out.keep h2 (by omega) (by omega)
  obtain ⟨c0, c1, c2_, c3, c4, c5, c6, c7⟩ := hT.cells
  have hfr := hT.froz
  have HT2 := Aside0.mk (hT.put (u2 := (.slice none 0 0)) (b := 0) (t := 0) (by omega) 1 (.slice none 0 0) rfl)
  have HR2 := Aside0.mk (h1.keep (grown_set u2 (r + 1 + 1) 1 (.slice none 0 0)) (by simp) (fun k hk => by cases hk; have := HRS.out; omega))
  clear h1 h2 hT HT1 HR1
  go_wp2_with fail
  clear c0 c1 c2_ c3 c4 c5 c6 c7 hfr
  refine (some39_calls w (r + 1) _ [ab] [0, 0, 0, 0, 3] (show Rd w (r + 1) _ (1 :: ([ab].flatMap textF ++ [0, 0, 0, 0, 3])) from HR2.out) ab_lim (by decide)).mono ?_
  rintro e u3 ⟨vv, rfl, ho, h1, h2⟩
  obtain ⟨A2, c2, rfl, hrr⟩ := own_reads_of (enc := Value.string) (d := ByteArray.empty) ho
  have HRR := Aside0.mk hrr
  have hT := HT2.out.keep h2 (by omega) (by omega)
  obtain ⟨c0, c1, c2_, c3, c4, c5, c6, c7⟩ := hT.cells
  have hfr := hT.froz
  have HT3 := Aside0.mk (hT.put (u2 := (.slice A2 1 c2)) (b := 0) (t := 0) (by omega) 2 (.slice A2 1 c2) rfl)
  have HR3 := Aside0.mk (h1.keep (grown_set u3 (r + 1 + 1) 2 (.slice A2 1 c2)) (by simp) (fun k hk => by cases hk; have := HRS.out; omega))
  have HO3 := Aside0.mk (own_move ho (fun k hk => Below.heap_setCell u3 ⟨r + 1 + 1, 2, none⟩ (.slice A2 1 c2) k (fun e => by
    have h3 := own_base ho k hk
    have h4 := blk_lt HT2.out.st
    have : k = r + 1 + 1 := e
    omega)))
  clear ho hrr
  have HOB := Aside0.mk (blk_lt HT2.out.st)
  clear h1 h2 hT HT2 HR2
  go_wp2_with fail
  clear c0 c1 c2_ c3 c4 c5 c6 c7 hfr
  refine (some41_zero w (r + 1) _ [0, 0, 0, 3] _ _ 42 HR3.out).mono ?_
  rintro e u4 ⟨rfl, h1, h2⟩
  have hT := HT3.out.keep h2 (by omega) (by omega)
  obtain ⟨c0, c1, c2_, c3, c4, c5, c6, c7⟩ := hT.cells
  have hfr := hT.froz
  have HT4 := Aside0.mk (hT.put (u2 := (.slice A2 1 c2)) (b := 0) (t := 0) (by omega) 3 (.slice none 0 0) rfl)
  have HR4 := Aside0.mk (h1.keep (grown_set u4 (r + 1 + 1) 3 (.slice none 0 0)) (by simp) (fun k hk => by cases hk; have := HRS.out; omega))
  have HO4 := Aside0.mk (own_move (own_grown HO3.out h2 (by have := HOB.out; omega)) (fun k hk => Below.heap_setCell u4 ⟨r + 1 + 1, 3, none⟩ (.slice none 0 0) k (fun e => by
    have h3 := own_base HO3.out k hk
    have h4 := HOB.out
    have : k = r + 1 + 1 := e
    omega)))
  clear h1 h2 hT HT3 HR3
  go_wp2_with fail
  clear c0 c1 c2_ c3 c4 c5 c6 c7 hfr
  refine (some43_zero w (r + 1) _ [0, 0, 3] _ _ 44 HR4.out).mono ?_
  rintro e u5 ⟨rfl, h1, h2⟩
  have hT := HT4.out.keep h2 (by omega) (by omega)
  obtain ⟨c0, c1, c2_, c3, c4, c5, c6, c7⟩ := hT.cells
  have hfr := hT.froz
  have HT5 := Aside0.mk (hT.put (u2 := (.slice A2 1 c2)) (b := 0) (t := 0) (by omega) 4 (.slice none 0 0) rfl)
  have HR5 := Aside0.mk (h1.keep (grown_set u5 (r + 1 + 1) 4 (.slice none 0 0)) (by simp) (fun k hk => by cases hk; have := HRS.out; omega))
  have HO5 := Aside0.mk (own_move (own_grown HO4.out h2 (by have := HOB.out; omega)) (fun k hk => Below.heap_setCell u5 ⟨r + 1 + 1, 4, none⟩ (.slice none 0 0) k (fun e => by
    have h3 := own_base HO4.out k hk
    have h4 := HOB.out
    have : k = r + 1 + 1 := e
    omega)))
  clear h1 h2 hT HT4 HR4
  go_wp2_with fail
  clear c0 c1 c2_ c3 c4 c5 c6 c7 hfr
  refine (some45_zero w (r + 1) _ [0, 3] _ _ 46 HR5.out).mono ?_
  rintro e u6 ⟨rfl, h1, h2⟩
  have hT := HT5.out.keep h2 (by omega) (by omega)
  obtain ⟨c0, c1, c2_, c3, c4, c5, c6, c7⟩ := hT.cells
  have hfr := hT.froz
  have HT6 := Aside0.mk (hT.put (u2 := (.slice A2 1 c2)) (b := 0) (t := 0) (by omega) 5 (.slice none 0 0) rfl)
  have HR6 := Aside0.mk (h1.keep (grown_set u6 (r + 1 + 1) 5 (.slice none 0 0)) (by simp) (fun k hk => by cases hk; have := HRS.out; omega))
  have HO6 := Aside0.mk (own_move (own_grown HO5.out h2 (by have := HOB.out; omega)) (fun k hk => Below.heap_setCell u6 ⟨r + 1 + 1, 5, none⟩ (.slice none 0 0) k (fun e => by
    have h3 := own_base HO5.out k hk
    have h4 := HOB.out
    have : k = r + 1 + 1 := e
    omega)))
  clear h1 h2 hT HT5 HR5
  go_wp2_with fail
  clear c0 c1 c2_ c3 c4 c5 c6 c7 hfr
  refine (num_calls w (r + 1) _ 0 [3] HR6.out).mono ?_
  rintro e u7 ⟨rfl, h1, h2⟩
  have HT7 := Aside0.mk (HT6.out.keep h2 (by omega) (by omega))
  have HR7 := Aside0.mk h1
  have HO7 := Aside0.mk (own_grown HO6.out h2 (by have := HOB.out; omega))
  clear h1 h2 HT6 HR6 HO6
  go_wp2_with fail
  refine (num_calls w (r + 1) _ 3 [] HR7.out).mono ?_
  rintro e u8 ⟨rfl, h1, h2⟩
  have hT := HT7.out.keep h2 (by omega) (by omega)
  have hT' := hT.put (u2 := (.slice A2 1 c2)) (b := 0) (t := 0) (by omega) 6 (.int .i64 0) rfl
  have HT8 := Aside0.mk (hT'.put (u2 := (.slice A2 1 c2)) (b := 0) (t := 3) (by omega) 7 (.int .i64 3) rfl)
  have hr8 := (h1.keep (grown_set u8 (r + 1 + 1) 6 (.int .i64 0)) (by simp) (fun k hk => by cases hk; have := HRS.out; omega)).keep (grown_set _ (r + 1 + 1) 7 (.int .i64 3)) (by simp) (fun k hk => by cases hk; have := HRS.out; omega)
  have HR8 := Aside0.mk hr8
  have HO8 := Aside0.mk (own_grown (own_grown (own_grown HO7.out h2 (by have := HOB.out; omega)) (grown_set u8 (r + 1 + 1) 6 (.int .i64 0)) HOB.out) (grown_set _ (r + 1 + 1) 7 (.int .i64 3)) HOB.out)
  obtain ⟨c0, c1, c2_, c3, c4, c5, c6, c7⟩ := hT.cells
  have hfr := hT.froz
  have HS8 := Aside0.mk hT
  clear h1 h2 hT hT' hr8 HT7 HR7 HO7
  go_upto_region 10 with (fail)
  obtain ⟨X, hX⟩ : ∃ X, X = (u8.setCell ⟨r + 1 + 1, 6, none⟩ (.int .i64 0)).setCell ⟨r + 1 + 1, 7, none⟩ (.int .i64 3) := ⟨_, rfl⟩
  rw [← hX] at HT8 HR8 HO8 ⊢
  clear c0 c1 c2_ c3 c4 c5 c6 c7 hfr HS8 hX
  obtain ⟨c0, c1, c2_, c3, c4, c5, c6, c7⟩ := HT8.out.cells
  obtain ⟨A8, c8, k1, k2, k3⟩ := HR8.out.blk
  have e0 := blk_cell k1 0
  have e1 := blk_cell k1 1
  simp only [List.getElem?_toArray, List.getElem?_cons_zero, List.getElem?_cons_succ, List.length_nil] at e0 e1
  have r0 := blk_cell HT8.out.rs 0
  have r1 := blk_cell HT8.out.rs 1
  have r2 := blk_cell HT8.out.rs 2
  have r3 := blk_cell HT8.out.rs 3
  have r4 := blk_cell HT8.out.rs 4
  have r5 := blk_cell HT8.out.rs 5
  have r6 := blk_cell HT8.out.rs 6
  have r7 := blk_cell HT8.out.rs 7
  simp only [stC, List.getElem?_toArray, List.getElem?_cons_zero, List.getElem?_cons_succ] at r0 r1 r2 r3 r4 r5 r6 r7
  have hfr : ∀ i, X.frozen? ⟨r, i, none⟩ = false := fun i => blk_frozen HT8.out.rs i
  clear k1 k2 k3
  go_wp2
  have hlt := Nat.lt_trans (show r < r + 1 + 1 by omega) HOB.out
  have HCY := Aside0.mk (show Kd.C Kd.string ((((((((X.setCell ⟨r, 0, none⟩ (.slice none 0 0)).setCell ⟨r, 1, none⟩ (.slice none 0 0)).setCell ⟨r, 2, none⟩ (.slice A2 1 c2)).setCell ⟨r, 3, none⟩ (.slice none 0 0)).setCell ⟨r, 4, none⟩ (.slice none 0 0)).setCell ⟨r, 5, none⟩ (.slice none 0 0)).setCell ⟨r, 6, none⟩ (.int .i64 0)).setCell ⟨r, 7, none⟩ (.int .i64 3)) A2 1 [ab] from Kd.C_of_reads (d := ByteArray.empty) (h1 := fun _ => rfl) (own_reads_of' (ownsRow_setCell_below (a := ⟨r, 7, none⟩) (ownsRow_setCell_below (a := ⟨r, 6, none⟩) (ownsRow_setCell_below (a := ⟨r, 5, none⟩) (ownsRow_setCell_below (a := ⟨r, 4, none⟩) (ownsRow_setCell_below (a := ⟨r, 3, none⟩) (ownsRow_setCell_below (a := ⟨r, 2, none⟩) (ownsRow_setCell_below (a := ⟨r, 1, none⟩) (ownsRow_setCell_below (a := ⟨r, 0, none⟩) HO8.out hlt (.slice none 0 0)) hlt (.slice none 0 0)) hlt (.slice A2 1 c2)) hlt (.slice none 0 0)) hlt (.slice none 0 0)) hlt (.slice none 0 0)) hlt (.int .i64 0)) hlt (.int .i64 3))))
  have HBY := Aside0.mk (show Below w.heap.size w ((((((((X.setCell ⟨r, 0, none⟩ (.slice none 0 0)).setCell ⟨r, 1, none⟩ (.slice none 0 0)).setCell ⟨r, 2, none⟩ (.slice A2 1 c2)).setCell ⟨r, 3, none⟩ (.slice none 0 0)).setCell ⟨r, 4, none⟩ (.slice none 0 0)).setCell ⟨r, 5, none⟩ (.slice none 0 0)).setCell ⟨r, 6, none⟩ (.int .i64 0)).setCell ⟨r, 7, none⟩ (.int .i64 3)) from ((((((((HR8.out.below.setCell (p := ⟨r, 0, none⟩) HRS.out (.slice none 0 0)).setCell (p := ⟨r, 1, none⟩) HRS.out (.slice none 0 0)).setCell (p := ⟨r, 2, none⟩) HRS.out (.slice A2 1 c2)).setCell (p := ⟨r, 3, none⟩) HRS.out (.slice none 0 0)).setCell (p := ⟨r, 4, none⟩) HRS.out (.slice none 0 0)).setCell (p := ⟨r, 5, none⟩) HRS.out (.slice none 0 0)).setCell (p := ⟨r, 6, none⟩) HRS.out (.int .i64 0)).setCell (p := ⟨r, 7, none⟩) HRS.out (.int .i64 3)))
  have hby : ((((((((X.setCell ⟨r, 0, none⟩ (.slice none 0 0)).setCell ⟨r, 1, none⟩ (.slice none 0 0)).setCell ⟨r, 2, none⟩ (.slice A2 1 c2)).setCell ⟨r, 3, none⟩ (.slice none 0 0)).setCell ⟨r, 4, none⟩ (.slice none 0 0)).setCell ⟨r, 5, none⟩ (.slice none 0 0)).setCell ⟨r, 6, none⟩ (.int .i64 0)).setCell ⟨r, 7, none⟩ (.int .i64 3)).heap[r]? = some (.cells (stC (.slice A2 1 c2) 0 3) 29 (0, 0)) := (blk_put (blk_put (blk_put (blk_put (blk_put (blk_put (blk_put (blk_put HT8.out.rs 0 (.slice none 0 0) rfl) 1 (.slice none 0 0) rfl) 2 (.slice A2 1 c2) rfl) 3 (.slice none 0 0) rfl) 4 (.slice none 0 0) rfl) 5 (.slice none 0 0) rfl) 6 (.int .i64 0) rfl) 7 (.int .i64 3) rfl)
  obtain ⟨Y, hY⟩ : ∃ Y, Y = ((((((((X.setCell ⟨r, 0, none⟩ (.slice none 0 0)).setCell ⟨r, 1, none⟩ (.slice none 0 0)).setCell ⟨r, 2, none⟩ (.slice A2 1 c2)).setCell ⟨r, 3, none⟩ (.slice none 0 0)).setCell ⟨r, 4, none⟩ (.slice none 0 0)).setCell ⟨r, 5, none⟩ (.slice none 0 0)).setCell ⟨r, 6, none⟩ (.int .i64 0)).setCell ⟨r, 7, none⟩ (.int .i64 3)) := ⟨_, rfl⟩
  rw [← hY] at HCY HBY hby ⊢
  clear hY r0 r1 r2 r3 r4 r5 r6 r7
  have y0 := blk_cell hby 0
  have y1 := blk_cell hby 1
  have y2 := blk_cell hby 2
  have y3 := blk_cell hby 3
  have y4 := blk_cell hby 4
  have y5 := blk_cell hby 5
  have y6 := blk_cell hby 6
  have y7 := blk_cell hby 7
  simp only [stC, List.getElem?_toArray, List.getElem?_cons_zero, List.getElem?_cons_succ] at y0 y1 y2 y3 y4 y5 y6 y7
  exact bodyPost_ret (v := .tuple #[.agg #[.slice none 0 0, .slice none 0 0, .slice A2 1 c2, .slice none 0 0, .slice none 0 0, .slice none 0 0, .int .i64 0, .int .i64 3], .int .i64 0]) (by simp [results, Try.f11, go_sem, y0, y1, y2, y3, y4, y5, y6, y7]) rfl ⟨A2, c2, rfl, HCY.out, HBY.out⟩
end Go.Proofs.Ytblalidpeccabab.Sn
