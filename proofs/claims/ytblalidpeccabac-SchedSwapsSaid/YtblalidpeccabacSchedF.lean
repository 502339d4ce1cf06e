/- sched.check: its walk; slices.Insert behind the last one. -/
import Derived.Test.YtblalidpeccabacSchedE
import Derived.Test.YtblalidpeccabacPSchedBackx2
import Derived.Test.YtblalidpeccabacSchedD
namespace Go.Proofs.Ytblalidpeccabac.Sd
open Go Go.RowKit Go.Lib Go.Proofs.YtblalidpeccabacW.PrintWords Go.Proofs.YtblalidpeccabacW.PrintLast Go.Proofs.YtblalidpeccabacW.PrintMore Go.Proofs.Ytblalidpeccabac.PSchedBack Go.Proofs.Ytblalidpeccabac.Bs
set_option linter.unusedVariables false
set_option linter.unusedSimpArgs false
attribute [local go_sem] max2_int min2_int max_two min_two

abbrev kB : Kd (List Bool) := Kd.slice 4 Kd.bool
/-- no act of the word's -/
def notAct (n : Int) (m : Nat) : Bool := decide (n < 0) || decide ((m : Int) ≤ n)
theorem check1_asks (w : World) (g : Nat) (A : Option Addr) (m c : Nat) (xs : List Int) (hb : w.heap[g]? = some (.cells #[.slice A m c] 45 (0, 0))) : Asks 52 #[.pointer (some ⟨g, 0, none⟩)] w (Value.int .i64) xs (fun n => notAct n m) := by
  refine ⟨fun args w => enters_ Try.func52 (by kernel_rfl) rfl args w, fun x hx W hW => ?_⟩
  have h0 := blk_cell (blk_below hb hW) 0
  simp only [List.getElem?_toArray, List.getElem?_cons_zero] at h0
  show Calls Try.prog 52 #[.int .i64 x, .pointer (some ⟨g, 0, none⟩)] W _
  unfold notAct
  by_cases hx0 : x < 0
  · go_enter Try.func52, Try.ntmps52
    go_wp2
    go_ret
    exact ⟨by simp [hx0], Below.refl _ _⟩
  · go_enter Try.func52, Try.ntmps52
    go_wp2
    go_ret
    exact ⟨by simp; omega, Below.refl _ _⟩
/-- what check tells -/
def checkF (K : Nat) (l : List Int) (dep : List (List Bool)) : Option Int :=
  if 200 < l.length then some 2 else if 12 < dep.length then some 2 else (sched_hangs.f K dep).bind fun b => if b = true then (if l.any (fun n => notAct n dep.length) then some 1 else some 0) else some 3

set_option maxHeartbeats 8000000 in
set_option maxRecDepth 100000 in
theorem check_calls (K : Nat) (w : World) (A : Option Addr) (c : Nat) (l : List Int) (A2 : Option Addr) (c2 : Nat) (dep : List (List Bool)) (r : Int) (hr : Kd.C kI w A l.length l) (hc : l.length ≤ c) (hr2 : Kd.C kB w A2 dep.length dep) (hc2 : dep.length ≤ c2) (h : checkF K l dep = some r) :
    Calls Try.prog 39 #[.slice A l.length c, .slice A2 dep.length c2] w fun e w' => e = .returned (.int .i64 r) ∧ Below w.heap.size w w' := by
  have hn : l.length ≤ 9223372036854775807 := hr.2.1
  have hn2 : dep.length ≤ 9223372036854775807 := hr2.2.1
  have hbox := heap_alloc_new w (.cells #[.slice A2 dep.length c2] 45)
  have hba := below_alloc (Below.refl w.heap.size w) (.cells #[.slice A2 dep.length c2] 45)
  have HBX := Aside0.mk hbox
  have HBA := Aside0.mk hba
  have HR := Aside0.mk hr
  have HR2 := Aside0.mk hr2
  clear hr hr2 hbox hba
  unfold checkF at h
  by_cases hb1 : 200 < l.length
  · rw [if_pos hb1] at h
    obtain rfl := Option.some.inj h
    have hb1i : (200 : Int) < (l.length : Int) := by omega
    clear h
    go_enter Try.func39, Try.ntmps39
    go_wp2
    exact bodyPost_ret (v := .int .i64 2) (by simp [results, Try.f39, go_sem]) rfl ⟨rfl, HBA.out⟩
  · rw [if_neg hb1] at h
    have hb1i : (l.length : Int) ≤ 200 := by omega
    by_cases hb2 : 12 < dep.length
    · rw [if_pos hb2] at h
      obtain rfl := Option.some.inj h
      have hb2i : (12 : Int) < (dep.length : Int) := by omega
      clear h
      go_enter Try.func39, Try.ntmps39
      go_wp2
      exact bodyPost_ret (v := .int .i64 2) (by simp [results, Try.f39, go_sem]) rfl ⟨rfl, HBA.out⟩
    · rw [if_neg hb2] at h
      have hb2i : (dep.length : Int) ≤ 12 := by omega
      obtain ⟨b, hb, h⟩ := Option.bind_eq_some_iff.1 h
      have HH := Aside0.mk (sched_hangs.calls K A2 c2 dep b (w.alloc (.cells #[.slice A2 dep.length c2] 45)) (Kd.C_below HR2.out HBA.out) hc2 hb)
      clear hb
      cases b with
      | false =>
        rw [if_neg (by decide)] at h
        obtain rfl := Option.some.inj h
        clear h
        go_enter Try.func39, Try.ntmps39
        go_wp2_with fail
        refine HH.out.mono ?_
        rintro e w1 ⟨rfl, hd⟩
        have HB := Aside0.mk (below_then HBA.out HBA.out.size hd.below)
        clear hd
        go_wp2
        exact bodyPost_ret (v := .int .i64 3) (by simp [results, Try.f39, go_sem]) rfl ⟨rfl, HB.out⟩
      | true =>
        rw [if_pos rfl] at h
        have HF := Aside0.mk h
        clear h
        go_enter Try.func39, Try.ntmps39
        go_wp2_with fail
        refine HH.out.mono ?_
        rintro e w1 ⟨rfl, hd⟩
        have HB := Aside0.mk (below_then HBA.out HBA.out.size hd.below)
        have HCO := Aside0.mk (containsI_calls w1 A c l 52 #[.pointer (some ⟨w.heap.size, 0, none⟩)] _ (Kd.C_below HR.out HB.out) hc (check1_asks w1 w.heap.size A2 dep.length c2 l (blk_below HBX.out hd.below)))
        clear hd
        go_wp2_with fail
        refine HCO.out.mono ?_
        rintro e w2 ⟨rfl, hb⟩
        have HB2 := Aside0.mk (below_then HB.out HB.out.size hb)
        clear hb HCO HH
        by_cases hany : l.any (fun n => notAct n dep.length) = true
        · have hr1 : r = 1 := by have h := HF.out; rw [if_pos hany] at h; exact (Option.some.inj h).symm
          subst hr1
          rw [hany]
          clear hany
          go_wp2
          exact bodyPost_ret (v := .int .i64 1) (by simp [results, Try.f39, go_sem]) rfl ⟨rfl, HB2.out⟩
        · have hr1 : r = 0 := by have h := HF.out; rw [if_neg hany] at h; exact (Option.some.inj h).symm
          subst hr1
          have hany2 : l.any (fun n => notAct n dep.length) = false := by simpa using hany
          rw [hany2]
          clear hany hany2
          go_wp2
          exact bodyPost_ret (v := .int .i64 0) (by simp [results, Try.f39, go_sem]) rfl ⟨rfl, HB2.out⟩

/-- what an insertion leaves: the row with one more; nobody else's cells have turned -/
def Inserted (W w' : World) (base : Nat) (v v1 : Value) (xs : List Int) : Prop :=
  w'.ownsRow base 3 1 v1 xs.length (nums .i64 xs) ∧ W.grownBy w' v.ownBlock ∧ (v1.ownBlock = v.ownBlock ∨ ∃ b, v1.ownBlock = some b ∧ W.heap.size ≤ b)
set_option maxHeartbeats 8000000 in
set_option maxRecDepth 100000 in
theorem insert_end (W : World) (base : Nat) (v : Value) (s : List Int) (lb : Nat) (y : Int) (h : W.ownsRow base 3 1 v s.length (nums .i64 s)) (hb : base ≤ W.heap.size) (hl : ReadsInt W .i64 (some ⟨lb, 0, none⟩) 1 [y]) (hs : s.length ≤ 10000) :
    Calls Try.prog 41 #[v, .int .i64 (s.length : Int), .slice (some ⟨lb, 0, none⟩) 1 1] W fun e w' => ∃ v1, e = .returned v1 ∧ Inserted W w' base v v1 (s ++ [y]) := by
  obtain ⟨A, c, rfl, hc, _⟩ := own_rd h
  have HO := Aside0.mk h
  have HL := Aside0.mk hl
  have HBB := Aside0.mk hb
  clear h hl hb
  have hs1 : (s.length : Int) ≤ 10000 := by omega
  by_cases hcs : c = s.length
  · subst hcs
    go_enter Try.func41, Try.ntmps41
    go_wp2_with (at_builtin; refine print_append_row (w0 := W) base rfl _ _ 23 3 .i64 8 rfl Try.underlying23 infoInt (by decide) _ s [y] _ 1 1 rfl rfl HO.out HL.out (Below.refl _ _) HBB.out (by show (s.length + 1) * 8 ≤ _; omega) ?_; intro v1 w4 hown hB hg hat; have HI := Aside0.mk (show Inserted W w4 base (.slice A s.length s.length) v1 (s ++ [y]) from ⟨hown, hg, hat⟩); clear hown hB hg hat)
    exact bodyPost_ret (v := v1) (by simp [results, Try.f41, go_sem]) rfl ⟨_, rfl, HI.out⟩
  · have hcs2 : s.length < c := by omega
    go_enter Try.func41, Try.ntmps41
    go_wp2_with (at_builtin; refine print_append_row (w0 := W) base rfl _ _ 23 3 .i64 8 rfl Try.underlying23 infoInt (by decide) _ s [y] _ 1 1 rfl rfl HO.out HL.out (Below.refl _ _) HBB.out (by show (s.length + 1) * 8 ≤ _; omega) ?_; intro v1 w4 hown hB hg hat; have HI := Aside0.mk (show Inserted W w4 base (.slice A s.length c) v1 (s ++ [y]) from ⟨hown, hg, hat⟩); clear hown hB hg hat)
    exact bodyPost_ret (v := v1) (by simp [results, Try.f41, go_sem]) rfl ⟨_, rfl, HI.out⟩
end Go.Proofs.Ytblalidpeccabac.Sd
