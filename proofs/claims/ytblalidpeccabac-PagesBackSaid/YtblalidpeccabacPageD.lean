/- pages.Check: its walk. -/
import Derived.Test.YtblalidpeccabacPageC
namespace Go.Proofs.Ytblalidpeccabac.Pg
open Go Go.RowKit Go.Lib Go.Proofs.YtblalidpeccabacW.PrintWords Go.Proofs.YtblalidpeccabacW.PrintLast Go.Proofs.YtblalidpeccabacW.PrintMore Go.Proofs.Ytblalidpeccabac.PPagesBack Go.Proofs.Ytblalidpeccabac.Bs Go.Proofs.Ytblalidpeccabac.RegionVal
set_option linter.unusedVariables false
set_option linter.unusedSimpArgs false
attribute [local go_sem high] eqA38

structure Lies (w : World) (A : Option Addr) (a : Nat) (B : Option Addr) (b : Nat) (C : Option Addr) (c : Nat) (s : St) : Prop where mk ::
  P : Kd.C kP w A s.ps.length s.ps
  pa : s.ps.length ≤ a
  U : Kd.C kI w B s.us.length s.us
  ub : s.us.length ≤ b
  R : Kd.C kR w C s.rs.length s.rs
  rc : s.rs.length ≤ c
theorem Lies.below {w w' : World} {A : Option Addr} {a : Nat} {B : Option Addr} {b : Nat} {C : Option Addr} {c : Nat} {s : St} (h : Lies w A a B b C c s) (hb : Below w.heap.size w w') : Lies w' A a B b C c s :=
  ⟨Kd.C_below h.P hb, h.pa, Kd.C_below h.U hb, h.ub, Kd.C_below h.R hb, h.rc⟩
def pageOk (s : St) (i : Nat) : Bool := decide (s.ps.getD i [] = [0, 0, 0, 0]) == decide ((usesL s.ps.length s.rs).getD i 0 = 0)
def chkF (s : St) : Int :=
  if 400 < s.ps.length ∨ 40 < s.rs.length then 2
  else if okR s.ps.length s.rs = true ∧ usesL s.ps.length s.rs = s.us then (if (List.range s.ps.length).all (pageOk s) then 0 else 3) else 3
theorem all_take {s : St} {k : Nat} (h : (List.range k).all (pageOk s) = true) (h1 : pageOk s k = true) : (List.range (k + 1)).all (pageOk s) = true := by
  rw [List.range_succ, List.all_append, h]
  simp [h1]
theorem all_bad {s : St} {k n : Nat} (hk : k < n) (h1 : pageOk s k = false) : ¬ (List.range n).all (pageOk s) = true := by
  intro h
  have := List.all_eq_true.1 h k (List.mem_range.2 hk)
  rw [h1] at this
  cases this

theorem pq_ok {bz : Bool} {u : Int} {p : List Int} {r : Bool} (h : false = !(bz == (u == 0))) (h1 : r = (decide (p = [0, 0, 0, 0]) == decide (u = 0))) (h2 : bz = decide (p = [0, 0, 0, 0])) : r = true := by
  rw [h1, ← h2]
  change (bz == (u == 0)) = true
  revert h
  generalize (bz == (u == 0)) = x
  cases x <;> simp
theorem pq_bad {bz : Bool} {u : Int} {p : List Int} {r : Bool} (h : true = !(bz == (u == 0))) (h1 : r = (decide (p = [0, 0, 0, 0]) == decide (u = 0))) (h2 : bz = decide (p = [0, 0, 0, 0])) : r = false := by
  rw [h1, ← h2]
  change (bz == (u == 0)) = false
  revert h
  generalize (bz == (u == 0)) = x
  cases x <;> simp

set_option maxHeartbeats 8000000 in
set_option maxRecDepth 100000 in
theorem check_calls (w : World) (A : Option Addr) (a : Nat) (B : Option Addr) (b : Nat) (C : Option Addr) (c : Nat) (s : St) (hL : Lies w A a B b C c s) :
    Calls Try.prog 13 #[.agg #[.slice A s.ps.length a, .slice B s.us.length b, .slice C s.rs.length c]] w fun e w' => e = .returned (.int .i64 (chkF s)) ∧ Below w.heap.size w w' := by
  have HL := Aside0.mk hL
  have n1 := heap_alloc_new w (.cells #[.slice A s.ps.length a, .slice B s.us.length b, .slice C s.rs.length c] 26)
  have hbw : Below w.heap.size w (w.alloc (.cells #[.slice A s.ps.length a, .slice B s.us.length b, .slice C s.rs.length c] 26)) := below_alloc (Below.refl _ _) _
  have HW1 := Aside0.mk hbw
  have HX1 := Aside0.mk n1
  obtain ⟨W1, hW1⟩ : ∃ W1, W1 = w.alloc (.cells #[.slice A s.ps.length a, .slice B s.us.length b, .slice C s.rs.length c] 26) := ⟨_, rfl⟩
  rw [← hW1] at HW1 HX1
  have HWW := Aside0.mk hW1
  have c0 := blk_cell HX1.out 0
  have c1_ := blk_cell HX1.out 1
  have c2_ := blk_cell HX1.out 2
  have d2 := blk_cell n1 2
  have d0 := blk_cell n1 0
  simp only [List.getElem?_toArray, List.getElem?_cons_zero, List.getElem?_cons_succ] at c0 c1_ c2_ d2 d0
  clear hL hW1 hbw n1
  by_cases h1 : 400 < s.ps.length
  · have q0 : decide ((400 : Int) < (s.ps.length : Int)) = true := decide_eq_true (by omega)
    have HE := Aside0.mk (show chkF s = 2 by unfold chkF; rw [if_pos (.inl h1)])
    go_enter Try.func13, Try.ntmps13
    go_wp2
    go_ret
    exact ⟨by rw [HE.out]; rfl, by rw [← HWW.out]; exact HW1.out⟩
  by_cases h2 : 40 < s.rs.length
  · have q0 : decide ((400 : Int) < (s.ps.length : Int)) = false := decide_eq_false (by omega)
    have q1 : decide ((40 : Int) < (s.rs.length : Int)) = true := decide_eq_true (by omega)
    have HE := Aside0.mk (show chkF s = 2 by unfold chkF; rw [if_pos (.inr h2)])
    go_enter Try.func13, Try.ntmps13
    go_wp2
    go_ret
    exact ⟨by rw [HE.out]; rfl, by rw [← HWW.out]; exact HW1.out⟩
  have q0 : decide ((400 : Int) < (s.ps.length : Int)) = false := decide_eq_false (by omega)
  have q1 : decide ((40 : Int) < (s.rs.length : Int)) = false := decide_eq_false (by omega)
  have hn : s.ps.length ≤ 400 := by omega
  have hk : s.rs.length ≤ 40 := by omega
  have HCHK := Aside0.mk (show chkF s = if okR s.ps.length s.rs = true ∧ usesL s.ps.length s.rs = s.us then (if (List.range s.ps.length).all (pageOk s) then 0 else 3) else 3 by unfold chkF; rw [if_neg (by omega)])
  clear h1 h2
  go_enter Try.func13, Try.ntmps13
  go_wp2_with fail
  rw [← HWW.out]
  refine (uses_calls W1 A s.ps.length a B s.us.length b C c s.rs (Kd.C_below HL.out.R HW1.out) HL.out.rc hn hk).mono ?_
  rintro e w2 (⟨hok, v, rfl, hown, hb⟩ | ⟨hok, rfl, hb⟩)
  · have HB2 := Aside0.mk (below_then HW1.out HW1.out.size hb)
    have HX2 := Aside0.mk (blk_below HX1.out hb)
    obtain ⟨A2, a2, rfl, hc2, hr2⟩ := own_rd (xs := usesL s.ps.length s.rs) (by rw [usesL_length]; exact hown)
    have HU2 := Aside0.mk (C_int hr2)
    rw [usesL_length] at hc2
    have e1 := blk_cell HX2.out 1
    have e0 := blk_cell HX2.out 0
    simp only [List.getElem?_toArray, List.getElem?_cons_zero, List.getElem?_cons_succ] at e0 e1
    have HOK := Aside0.mk hok
    clear c0 c1_ c2_ d0 d2 hown hr2 hb q0 q1 hok
    simp only [usesL_length]
    have hu0 := HU2.out
    rw [usesL_length] at hu0
    have hEQ := equal_calls w2 A2 a2 (usesL s.ps.length s.rs) B b s.us (by rw [usesL_length]; exact hu0) (by rw [usesL_length]; exact hc2) (by rw [usesL_length]; omega) (Kd.C_below HL.out.U HB2.out) HL.out.ub
    rw [usesL_length] at hEQ
    have HEQ := Aside0.mk hEQ
    clear hEQ hu0
    go_wp2_with fail
    refine HEQ.out.mono ?_
    rintro e w3 ⟨rfl, hb⟩
    have HB3 := Aside0.mk (below_then HB2.out HB2.out.size hb)
    have HU3 := Aside0.mk (Kd.C_below HU2.out hb)
    have HX3 := Aside0.mk (blk_below HX2.out hb)
    have f0 := blk_cell HX3.out 0
    simp only [List.getElem?_toArray, List.getElem?_cons_zero, List.getElem?_cons_succ] at f0
    clear hb e0 e1 HEQ
    by_cases heq : usesL s.ps.length s.rs = s.us
    · rw [decide_eq_true heq]
      have HCK := Aside0.mk (show chkF s = if (List.range s.ps.length).all (pageOk s) then 0 else 3 by rw [HCHK.out, if_pos ⟨HOK.out, heq⟩])
      clear heq
      go_wp2_with fail
      go_loopw [34] (fun i wr => ∃ k : Nat, k ≤ s.ps.length ∧ i = .int .i64 (k : Int) ∧ Aside0 ((List.range k).all (pageOk s) = true) ∧ Aside0 (Below w.heap.size w wr) ∧ Aside0 (Below w3.heap.size w3 wr)) (fun i _ => s.ps.length - (intOf i).toNat)
      case atStart => exact ⟨0, Nat.zero_le _, rfl, ⟨rfl⟩, HB3, ⟨Below.refl _ _⟩⟩
      case round =>
        obtain ⟨k, hkl, rfl, HA, HB, HB3'⟩ := hrel
        clear f0
        by_cases hlt : k < s.ps.length
        · have hk1 : (k : Int) < (s.ps.length : Int) := by omega
          obtain ⟨ad, p0, p1, p2, p3, rfl, hp, e0, e1, e2, e3⟩ := at_P (Kd.C_below HL.out.P HB.out) k hlt
          obtain ⟨au, rfl, eu⟩ := at_I (xs := usesL s.ps.length s.rs) (Kd.C_below HU3.out HB3'.out) k (by rw [usesL_length]; exact hlt)
          have HPK := Aside0.mk (show pageOk s k = (decide ([p0, p1, p2, p3] = [0, 0, 0, 0]) == decide ((usesL s.ps.length s.rs)[k]'(by rw [usesL_length]; exact hlt) = 0)) by
            unfold pageOk
            rw [List.getD_eq_getElem?_getD, List.getD_eq_getElem?_getD, List.getElem?_eq_getElem hlt, List.getElem?_eq_getElem (show k < (usesL s.ps.length s.rs).length by rw [usesL_length]; exact hlt), Option.getD_some, Option.getD_some, hp])
          generalize (usesL s.ps.length s.rs)[k]'(by rw [usesL_length]; exact hlt) = u at eu HPK
          clear hp
          go_wp2_with fail
          have hn4 := heap_alloc_new wr (.cells #[.int .i64 p0, .int .i64 p1, .int .i64 p2, .int .i64 p3] 38)
          have hb4 : Below wr.heap.size wr (wr.alloc (.cells #[.int .i64 p0, .int .i64 p1, .int .i64 p2, .int .i64 p3] 38)) := below_alloc (Below.refl _ _) _
          obtain ⟨W4, hW4⟩ : ∃ W4, W4 = wr.alloc (.cells #[.int .i64 p0, .int .i64 p1, .int .i64 p2, .int .i64 p3] 38) := ⟨_, rfl⟩
          rw [← hW4] at hn4 hb4 ⊢
          have HN4 := Aside0.mk hn4
          have eu4 := (hb4.cell (World.block_lt_of_cell? wr _ eu)).trans eu
          have EU4 := Aside0.mk eu4
          have HB4 := Aside0.mk (below_then HB.out HB.out.size hb4)
          have HB43 := Aside0.mk (below_then HB3'.out HB3'.out.size hb4)
          obtain ⟨bz, hbz⟩ : ∃ bz, bz = (p0 == 0 && (p1 == 0 && (p2 == 0 && (p3 == 0 && true)))) := ⟨_, rfl⟩
          have HBZ := Aside0.mk hbz
          have hz : bz = decide ([p0, p1, p2, p3] = [0, 0, 0, 0]) := by
            rw [hbz, Bool.eq_iff_iff]
            simp
          have HBX := Aside0.mk (show bz = decide ([p0, p1, p2, p3] = [0, 0, 0, 0]) from hz)
          obtain ⟨bq, hbq⟩ : ∃ bq, bq = !(bz == (u == 0)) := ⟨_, rfl⟩
          have HBQ := Aside0.mk hbq
          clear hbq
          clear hW4 e0 e1 e2 e3 eu eu4 hn4 hb4 hz hbz
          refine wp_val (S := fun w' => Below W4.heap.size W4 w') (by kernel_rfl) (by kernel_rfl) (below_drew1 (Below.refl _ _)) ?_
          refine st_un (v := .agg #[.int .i64 p0, .int .i64 p1, .int .i64 p2, .int .i64 p3]) rfl rfl rfl rfl (fun w' hw => by
            have k0 := blk_cell (blk_below HN4.out hw) 0
            have k1 := blk_cell (blk_below HN4.out hw) 1
            have k2 := blk_cell (blk_below HN4.out hw) 2
            have k3 := blk_cell (blk_below HN4.out hw) 3
            simp only [List.getElem?_toArray, List.getElem?_cons_zero, List.getElem?_cons_succ] at k0 k1 k2 k3
            go_simp) ?_
          refine st_gen (v := .agg #[.int .i64 0, .int .i64 0, .int .i64 0, .int .i64 0]) rfl (fun w' hw => by go_simp) ?_
          refine st_bin (v := .bool bz) rfl rfl rfl (fun w' hw => by rw [HBZ.out]; go_simp) ?_
          refine st_move rfl rfl ?_
          refine st_move rfl rfl ?_
          refine st_indexAddr rfl rfl rfl (fun w' hw => by go_simp; with_reducible rfl) ?_
          refine st_un rfl rfl rfl rfl (fun w' hw => by have q := (hw.cell (World.block_lt_of_cell? W4 _ EU4.out)).trans EU4.out; go_simp; with_reducible rfl) ?_
          refine st_bin (v := .bool (u == 0)) rfl rfl rfl (fun w' hw => by go_simp) ?_
          refine st_bin (v := .bool bq) rfl rfl rfl (fun w' hw => by rw [HBQ.out]; go_simp) ?_
          intro w5 hw5
          simp only [ext, puts, Act.put, List.setIfInBounds_toArray, List.set_cons_zero, List.set_cons_succ]
          have HB5 := Aside0.mk (below_then HB4.out HB4.out.size hw5)
          have HB53 := Aside0.mk (below_then HB43.out HB43.out.size hw5)
          clear hw5
          cases bq with
          | false =>
            have HOK2 := Aside0.mk (pq_ok HBQ.out HPK.out HBX.out)
            clear HBQ HPK HBX HBZ
            go_wp2
            go_roundw
            case rel => exact ⟨k + 1, by omega, by go_num, ⟨all_take HA.out HOK2.out⟩, HB5, HB53⟩
            case measure => simp [intOf]; omega
          | true =>
            have HE := Aside0.mk (show chkF s = 3 by rw [HCK.out, if_neg (all_bad hlt (pq_bad HBQ.out HPK.out HBX.out))])
            clear HBQ HPK HBX HBZ
            go_wp2
            go_ret
            exact ⟨by rw [HE.out]; rfl, HB5.out⟩
        · obtain rfl : k = s.ps.length := by omega
          have HE := Aside0.mk (show chkF s = 0 by rw [HCK.out, if_pos HA.out])
          go_wp2
          go_ret
          exact ⟨by rw [HE.out]; rfl, HB.out⟩
    · rw [decide_eq_false heq]
      have HE := Aside0.mk (show chkF s = 3 by rw [HCHK.out, if_neg (fun h => heq h.2)])
      clear heq
      go_wp2
      go_ret
      exact ⟨by rw [HE.out]; rfl, HB3.out⟩
  · have HE := Aside0.mk (show chkF s = 3 by rw [HCHK.out, if_neg (fun h => by rw [hok] at h; cases h.1)])
    have HB2 := Aside0.mk (below_then HW1.out HW1.out.size hb)
    clear hb
    go_wp2
    go_ret
    exact ⟨by rw [HE.out]; rfl, HB2.out⟩
end Go.Proofs.Ytblalidpeccabac.Pg
