/- slices.Clone of ints, slices.Max, sched.without: their walks. -/
import Derived.Test.YtblalidpeccabacPSchedBackx3
import Derived.Test.YtblalidpeccabacBase
namespace Go.Proofs.Ytblalidpeccabac.Sd
open Go Go.RowKit Go.Lib Go.Proofs.YtblalidpeccabacW.PrintWords Go.Proofs.YtblalidpeccabacW.PrintLast Go.Proofs.YtblalidpeccabacW.PrintMore Go.Proofs.Ytblalidpeccabac.PSchedBack Go.Proofs.Ytblalidpeccabac.Bs
set_option linter.unusedVariables false
set_option linter.unusedSimpArgs false
attribute [local go_sem] max2_int min2_int max_two min_two

abbrev kI : Kd Int := Kd.int .i64
theorem reads_of {w : World} {A : Option Addr} {n : Nat} {xs : List Int} (h : Kd.C kI w A n xs) : ReadsInt w .i64 A n xs := Kd.reads_of_C (d := (0 : Int)) (h1 := fun _ => rfl) h
theorem C_int {w : World} {A : Option Addr} {n : Nat} {xs : List Int} (h : ReadsInt w .i64 A n xs) : Kd.C kI w A n xs := Kd.C_of_reads (d := (0 : Int)) (h1 := fun _ => rfl) h
theorem R_int {w : World} {base : Nat} {v : Value} {xs : List Int} (h : w.ownsRow base 3 1 v xs.length (nums .i64 xs)) : Kd.R kI 3 w base (fun _ => True) v xs := Kd.R_of_own h (fun _ _ => trivial)
/-- a row of ints of one's own, at the head of block g -/
abbrev IR (w : World) (base g n c : Nat) (xs : List Int) : Prop := Kd.R kI 3 w base (fun _ => True) (.slice (some ⟨g, 0, none⟩) n c) xs
theorem IR.len {w : World} {base g n c : Nat} {xs : List Int} (h : IR w base g n c xs) : n = xs.length := (Kd.R_reads' h).1
theorem IR.C {w : World} {base g n c : Nat} {xs : List Int} (h : IR w base g n c xs) : Kd.C kI w (some ⟨g, 0, none⟩) xs.length xs := (Kd.R_reads' h).2.2
theorem IR.cell {w : World} {base g n c : Nat} {xs : List Int} (h : IR w base g n c xs) (i : Nat) (hi : i < xs.length) : w.cell? ⟨g, i, none⟩ = some (.int .i64 xs[i]) ∧ w.frozen? ⟨g, i, none⟩ = false := by
  obtain rfl := h.len
  have h1 := Kd.R_cell (0 : Int) h (i : Int) (by omega) (by omega)
  rwa [Int.toNat_natCast, show rdOf (0 : Int) xs (i : Int) = xs[i] by simp [rdOf, List.getD_eq_getElem?_getD, hi]] at h1
theorem IR.put {w : World} {base g n c : Nat} {xs : List Int} (h : IR w base g n c xs) (i : Nat) (x : Int) : IR (w.setCell ⟨g, i, none⟩ (.int .i64 x)) base g n c (xs.set i x) ∧ w.grownBy (w.setCell ⟨g, i, none⟩ (.int .i64 x)) (some g) := by
  obtain rfl := h.len
  have h1 := Kd.R_put h (i : Int) x
  rwa [Int.toNat_natCast] at h1
theorem IR.base {w : World} {base g n c : Nat} {xs : List Int} (h : IR w base g n c xs) : base ≤ g := Kd.R_base h g rfl
theorem R_form {w : World} {base : Nat} {v : Value} {xs : List Int} (h : Kd.R kI 3 w base (fun _ => True) v xs) (hp : 0 < xs.length) : ∃ g c, v = .slice (some ⟨g, 0, none⟩) xs.length c ∧ IR w base g xs.length c xs := by
  obtain ⟨g, c, rfl, _⟩ := Kd.R_form h hp
  exact ⟨g, c, rfl, h⟩

set_option maxHeartbeats 8000000 in
set_option maxRecDepth 100000 in
theorem clone_calls (w : World) (A : Option Addr) (c : Nat) (xs : List Int) (hr : Kd.C kI w A xs.length xs) (hc : xs.length ≤ c) (hl : xs.length ≤ 1000000) :
    Calls Try.prog 27 #[.slice A xs.length c] w fun e w' => ∃ v, e = .returned v ∧ Kd.R kI 3 w' w.heap.size (fun _ => True) v xs ∧ Below w.heap.size w w' := by
  cases A with
  | none =>
    have hx : xs = [] := by
      cases xs with
      | nil => rfl
      | cons x xs => obtain ⟨_, h, _⟩ := hr.2.2 (by simp); cases h
    subst hx
    clear hr
    have hq : ∀ w : World, (binOp .eql 23 (.slice none 0 c) (.slice none 0 0)).run Try.prog w = .ok (.bool true) w := fun w => Lib.run_eql_slice_nil w 23 3 none 0 c 0 0 Try.underlying23
    go_enter Try.func27, Try.ntmps27
    go_wp2
    go_ret
    exact ⟨_, rfl, Kd.R_nil _ _ _ _ _, Below.refl _ _⟩
  | some ad =>
    have HR := Aside0.mk (reads_of hr)
    clear hr
    have hq : ∀ w : World, (binOp .eql 23 (.slice (some ad) xs.length c) (.slice none 0 0)).run Try.prog w = .ok (.bool false) w := fun w => Lib.run_eql_slice_nil w 23 3 (some ad) xs.length c 0 0 Try.underlying23
    go_enter Try.func27, Try.ntmps27
    go_wp2_with (at_builtin; refine print_append_row (w0 := w) w.heap.size rfl _ _ 23 3 .i64 8 rfl Try.underlying23 infoInt (by decide) (.slice (some ⟨w.heap.size, 0, none⟩) 0 0) [] xs (some ad) xs.length c rfl rfl (World.ownsRow_made w #[] 0 (Nat.le_refl _) (by decide) rfl) (HR.out.below (below_alloc (Below.refl _ _) _)) (below_alloc (Below.refl _ _) _) (below_alloc (Below.refl _ _) _).size (by simp; omega) ?_; intro v1 w3 hown hB hg hat; have HO3 := Aside0.mk hown; have HB3 := Aside0.mk hB; clear hown hB hg hat)
    go_ret
    exact ⟨_, rfl, R_int (by have := HO3.out; rwa [List.nil_append] at this), HB3.out⟩

/-- the greatest one -/
def IsMax (xs : List Int) (m : Int) : Prop := (∀ y ∈ xs, y ≤ m) ∧ m ∈ xs
set_option maxHeartbeats 8000000 in
set_option maxRecDepth 100000 in
theorem max_calls (w : World) (A : Option Addr) (c : Nat) (xs : List Int) (hr : Kd.C kI w A xs.length xs) (hp : 0 < xs.length) (hl : xs.length ≤ 1000000) :
    Calls Try.prog 37 #[.slice A xs.length c] w fun e w' => ∃ m, e = .returned (.int .i64 m) ∧ IsMax xs m ∧ Below w.heap.size w w' := by
  have HR := Aside0.mk hr
  obtain ⟨ad, rfl, h0⟩ := Kd.at_int hr (0 : Int) (by omega) (by omega)
  have e0 : rd xs (0 : Int) = xs[0] := by simp [rd, List.getD_eq_getElem?_getD, hp]
  rw [e0, show (0 : Int).toNat = 0 from rfl, show ad.add 0 = ad from rfl] at h0
  have HP := Aside0.mk hp
  have hne : xs ≠ [] := fun h => by rw [h] at hp; simp at hp
  have hp1 : ¬ ((xs.length : Int) < 1) := by omega
  have hp2 : 0 < xs.length := hp
  have hp3 : (0 : Int) < (xs.length : Int) := by omega
  clear hr e0
  obtain ⟨x0, hx0⟩ : ∃ x0, x0 = xs[0] := ⟨_, rfl⟩
  rw [← hx0] at h0
  have HX := Aside0.mk hx0
  clear hx0
  go_enter Try.func37, Try.ntmps37
  go_wp2_with fail
  go_loopw [3, 4] (fun vm vi wr => ∃ (m : Int) (i : Nat), vm = .int .i64 m ∧ vi = .int .i64 (i : Int) ∧ 1 ≤ i ∧ i ≤ xs.length ∧ Aside0 (IsMax (xs.take i) m) ∧ Aside0 (Below w.heap.size w wr)) (fun _ vi _ => xs.length - (intOf vi).toNat)
  case atStart => exact ⟨x0, 1, rfl, rfl, Nat.le_refl _, hp, ⟨by
    have e : xs.take 1 = [x0] := by rw [HX.out, List.take_succ_eq_append_getElem hp]; simp
    rw [e]
    exact ⟨fun y hy => by rw [List.mem_singleton.1 hy]; exact Int.le_refl _, List.mem_singleton.2 rfl⟩⟩, ⟨Below.refl _ _⟩⟩
  case round =>
    clear h0
    obtain ⟨m, i, rfl, rfl, hi1, hi, HM, HB⟩ := hrel
    by_cases hlt : i < xs.length
    · have hlt1 : (i : Int) < (xs.length : Int) := by omega
      obtain ⟨ad', e, h0⟩ := Kd.at_int (Kd.C_below HR.out HB.out) (i : Int) (by omega) (by omega)
      obtain rfl := Option.some.inj e
      have hrd : rd xs (i : Int) = xs[i] := by simp [rd, List.getD_eq_getElem?_getD, hlt]
      rw [hrd, Int.toNat_natCast] at h0
      have HM2 := Aside0.mk (show IsMax (xs.take (i + 1)) (if m < xs[i] then xs[i] else m) by
        rw [List.take_succ_eq_append_getElem hlt]
        refine ⟨fun y hy => ?_, ?_⟩
        · rcases List.mem_append.1 hy with h | h
          · have := HM.out.1 y h
            split <;> omega
          · rw [List.mem_singleton.1 h]
            split <;> omega
        · split
          · exact List.mem_append_right _ (List.mem_singleton.2 rfl)
          · exact List.mem_append_left _ HM.out.2)
      generalize xs[i] = y at h0 HM2
      clear hrd e
      by_cases hmy : m < y
      · have HM3 := Aside0.mk (show IsMax (xs.take (i + 1)) y by have := HM2.out; rwa [if_pos hmy] at this)
        clear HM2
        go_wp2
        go_roundw
        case rel => exact ⟨y, i + 1, by first | rfl | (simp [hmy]), by go_num, by omega, hlt, HM3, HB⟩
        case measure => simp [intOf]; omega
      · have HM3 := Aside0.mk (show IsMax (xs.take (i + 1)) m by have := HM2.out; rwa [if_neg hmy] at this)
        clear HM2
        have hmy2 : y ≤ m := by omega
        go_wp2
        go_roundw
        case rel => exact ⟨m, i + 1, by first | rfl | (simp [hmy]), by go_num, by omega, hlt, HM3, HB⟩
        case measure => simp [intOf]; omega
    · have HE := Aside0.mk (show IsMax xs m by have := HM.out; rwa [List.take_of_length_le (by omega)] at this)
      have hle : xs.length ≤ i := by omega
      go_wp2
      exact bodyPost_ret (v := .int .i64 m) (by simp [results, Try.f37, go_sem]) rfl ⟨m, rfl, HE.out, HB.out⟩
end Go.Proofs.Ytblalidpeccabac.Sd
