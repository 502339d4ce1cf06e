/- slices.Grow of nil and slices.Concat of events: a row of the call's own. -/
import Derived.Test.YtblalidpeccababRowsJ
import Derived.Lib.AppendZerosOnto
import Derived.Lib.AppendZeros
import Derived.Lib.SliceRun
import Derived.OwnWalk
import Derived.WalkKit
namespace Go.Proofs.Ytblalidpeccabab.Rw
open Go Go.RowKit Go.Lib Go.Proofs.YtblalidpeccababW.PrintWords Go.Proofs.YtblalidpeccababW.PrintLast Go.Proofs.YtblalidpeccababW.PrintMore Go.Proofs.Ytblalidpeccabab.PRowsThree Go.Proofs.Ytblalidpeccabab.Bs Go.Proofs.Ytblalidpeccabab.RegionVal
set_option linter.unusedVariables false
set_option linter.unusedSimpArgs false

def zv53 : Value := .agg #[(.int .i64 0), (.int .i64 0), (.int .i64 0), (.int .i64 0), (.int .i64 0), (.int .i64 0), (.int .i64 0), (.int .i64 0), (.int .i64 0), (.int .i64 0), (.int .i64 0), (.int .i64 0)]
theorem infoZ53 : (Try.prog.info? 53).map (fun i => (i.zero, i.size, i.bytes)) = some (some zv53, 12, 96) := by kernel_rfl
/-- an event list of the call's own -/
abbrev Own53 (w w' : World) (v : Value) (xs : List S53) : Prop := Kd.R k53 53 w' w.heap.size (fun _ => True) v xs

set_option maxHeartbeats 2000000 in
set_option maxRecDepth 100000 in
theorem grow_zero (w : World) : Calls Try.prog 68 #[.slice none 0 0, .int .i64 0] w fun e w' => e = .returned (.slice none 0 0) ∧ w = w' := by
  go_enter Try.func68, Try.ntmps68
  go_wp2
  go_ret
  exact ⟨rfl, rfl⟩
set_option maxHeartbeats 4000000 in
set_option maxRecDepth 100000 in
theorem grow_pos (w : World) (n : Nat) (hn : 0 < n) (hb : n ≤ 200) : Calls Try.prog 68 #[.slice none 0 0, .int .i64 n] w fun e w' =>
    e = .returned (.slice (some ⟨w.heap.size, 0, none⟩) 0 (grownCap w n 0 53)) ∧
    w' = w.drew.alloc (.cells (#[] ++ Builtin.zeroCells zv53.cells n ++ Builtin.zeroCells zv53.cells (grownCap w n 0 53 - n)) 53) := by
  obtain ⟨i0, hi, hz0, hz1, hz2⟩ := info_parts infoZ53
  have hrz : ∀ ty, (Builtin.append_ #[44, 3] ty #[.slice none 0 0, .int .i64 (n : Int)]).run Try.prog w =
      .ok (.slice (some ⟨w.heap.size, 0, none⟩) n (grownCap w n 0 53)) (w.drew.alloc (.cells (#[] ++ Builtin.zeroCells zv53.cells n ++ Builtin.zeroCells zv53.cells (grownCap w n 0 53 - n)) 53)) := fun ty => by
    have h := Lib.run_append_grow_zeros w 44 3 ty 53 i0 zv53 .i64 .i64 Try.underlying44 Try.underlying3 hi hz0 none 0 0 [] (run_firstCells_none w.drew i0.size 0 0 0) n hn (by omega) (by omega) (by omega)
      (by rw [hz2]; omega) (by rw [hz2, Nat.zero_add]; exact growslice_fits hn (by omega))
    simpa using h
  have h1 : ¬ ((n : Int) < 0) := by omega
  have h4 : (n : Int) > 0 := by omega
  have hGn : n ≤ grownCap w n 0 53 := grownCap_ge w _ _ _
  obtain ⟨G, hG⟩ : ∃ G, G = grownCap w n 0 53 := ⟨_, rfl⟩
  rw [← hG] at hrz hGn ⊢
  have hG63 : G ≤ 9223372036854775807 := by
    have := grownCap_le_maxLen w n 0 53 (by unfold maxLen; omega)
    rw [← hG] at this
    unfold maxLen at this
    omega
  clear hG hi hz0 hz1 hz2
  go_enter Try.func68, Try.ntmps68
  go_wp2_with (at_builtin; refine Lib.wpList_append_run _ rfl _ _ _ _ rfl _ _ rfl rfl _ _ (hrz _) ?_)
  go_ret
  exact ⟨rfl, rfl⟩
theorem grow_nil (w : World) (n : Nat) (hb : n ≤ 200) : Calls Try.prog 68 #[.slice none 0 0, .int .i64 n] w fun e w' => ∃ v, e = .returned v ∧ Own53 w w' v [] ∧ Below w.heap.size w w' := by
  rcases Nat.eq_zero_or_pos n with rfl | hn
  · refine (grow_zero w).mono ?_
    rintro e w' ⟨rfl, rfl⟩
    exact ⟨_, rfl, Kd.R_nil _ _ _ _ _, Below.refl _ _⟩
  · refine (grow_pos w n hn hb).mono ?_
    rintro e w' ⟨rfl, rfl⟩
    refine ⟨_, rfl, ?_, below_alloc (below_drew (Below.refl _ _)) _⟩
    have hG : grownCap w n 0 53 ≤ maxLen := grownCap_le_maxLen w n 0 53 (by unfold maxLen; omega)
    have hge := grownCap_ge w n 0 53
    refine ⟨fun _ _ => trivial, [], World.ownsRow_made w.drew _ _ (Nat.le_refl _) hG ?_, ⟨rfl, fun i p h => by simp at h⟩⟩
    have hz : zv53.cells.size = 12 := rfl
    show _ = _ * 12
    simp [Builtin.zeroCells, hz]
    omega

/-- how many events the first k lists have -/
def many (xss : List (List S53)) (k : Nat) : Nat := (xss.take k).flatten.length
theorem flat_succ {xss : List (List S53)} {k : Nat} (h : k < xss.length) : (xss.take (k + 1)).flatten = (xss.take k).flatten ++ xss[k] := by
  rw [List.take_succ_eq_append_getElem h, List.flatten_append]
  simp
theorem many_succ {xss : List (List S53)} {k : Nat} (h : k < xss.length) : many xss (k + 1) = many xss k + (xss[k]).length := by
  unfold many
  rw [flat_succ h, List.length_append]
theorem many_le (xss : List (List S53)) (k : Nat) : many xss k ≤ xss.flatten.length := by
  have h : xss.flatten = (xss.take k).flatten ++ (xss.drop k).flatten := by rw [← List.flatten_append, List.take_append_drop]
  unfold many
  rw [h, List.length_append]
  omega
abbrev kE : Kd (List S53) := Kd.slice 53 k53
/-- a slice of lists: its cells -/
theorem row_at {w w0 : World} {A : Option Addr} {xss : List (List S53)} (h : Kd.C kE w0 A xss.length xss) (hb : Below w0.heap.size w0 w) {k : Nat} (hk : k < xss.length) :
    ∃ ad A1 c1, A = some ad ∧ w.cell? (ad.add k) = some (.slice A1 (xss[k]).length c1) ∧ (xss[k]).length ≤ c1 ∧ Kd.C k53 w A1 (xss[k]).length xss[k] := by
  obtain ⟨ad, e, hc⟩ := h.2.2 (by omega)
  obtain ⟨c, hl, ⟨A1, c1, rfl, hlc, hC⟩, hcell⟩ := hc k _ (List.getElem?_eq_getElem hk)
  have h0 := hcell 0 _ rfl
  refine ⟨ad, A1, c1, e, ?_, hlc, Kd.C_below hC hb⟩
  have : (ad.add (k * kE.sz + 0)) = ad.add k := by show ad.add (k * 1 + 0) = _; rw [Nat.mul_one, Nat.add_zero]
  rw [this] at h0
  exact (hb.cell (World.block_lt_of_cell? w0 _ h0)).trans h0

set_option maxHeartbeats 4000000 in
set_option maxRecDepth 100000 in
theorem concat_calls (w : World) (A : Option Addr) (c : Nat) (xss : List (List S53)) (hr : Kd.C kE w A xss.length xss) (hc : xss.length ≤ c) (hb : xss.flatten.length ≤ 200) :
    Calls Try.prog 56 #[.slice A xss.length c] w fun e w' => ∃ v, e = .returned v ∧ Own53 w w' v xss.flatten ∧ Below w.heap.size w w' := by
  have hn : xss.length ≤ 9223372036854775807 := hr.2.1
  have HR := Aside0.mk hr
  have HF := Aside0.mk hb
  clear hr hb
  go_enter Try.func56, Try.ntmps56
  go_wp2
  go_loop [3, 11] (fun size idx => ∃ k : Nat, k ≤ xss.length ∧ idx = .int .i64 k ∧ size = .int .i64 (many xss k : Nat)) (fun _ idx => xss.length - (intOf idx).toNat)
  case atStart => exact ⟨0, Nat.zero_le _, rfl, by simp [many]⟩
  case round =>
    obtain ⟨k, hk, rfl, rfl⟩ := hrel
    by_cases hlt : k < xss.length
    · obtain ⟨ad, A1, c1, rfl, hcell, hlc, -⟩ := row_at HR.out (Below.refl _ _) hlt
      have hm := Aside0.mk (many_succ hlt)
      have hl := many_le xss (k + 1)
      have hl1 : many xss k + (xss[k]).length ≤ 200 := by rw [← hm.out]; have := HF.out; omega
      clear hl
      have hz : ¬ (((many xss k : Nat) : Int) + ((xss[k]).length : Int) < 0) := by omega
      go_wp2
      go_round
      case rel => exact ⟨k + 1, by omega, by go_num, by rw [hm.out]; go_num⟩
      case measure => simp [intOf]; omega
    · have hk' : k = xss.length := by omega
      subst hk'
      have hm : many xss xss.length = xss.flatten.length := by unfold many; rw [List.take_length]
      have HM := Aside0.mk hm
      clear hm
      go_wp2_with fail
      refine (grow_nil _ (many xss xss.length) (by rw [HM.out]; exact HF.out)).mono ?_
      rintro e w1 ⟨v0, rfl, hown, hbel⟩
      have HB := Aside0.mk hbel
      have HO := Aside0.mk hown
      clear hbel hown
      go_wp2
      go_loopw [6, 27] (fun v idx wr => ∃ k : Nat, k ≤ xss.length ∧ idx = .int .i64 k ∧ Aside0 (Own53 w wr v (xss.take k).flatten) ∧ Aside0 (Below w.heap.size w wr)) (fun _ idx _ => xss.length - (intOf idx).toNat)
      case atStart => exact ⟨0, Nat.zero_le _, rfl, ⟨by simpa using HO.out⟩, HB⟩
      case round =>
        obtain ⟨k, hk, rfl, HO, HB⟩ := hrel
        by_cases hlt : k < xss.length
        · obtain ⟨ad, A1, c1, rfl, hcell, hlc, hrd⟩ := row_at HR.out HB.out hlt
          have HRD := Aside0.mk hrd
          have hf := Aside0.mk (flat_succ hlt)
          have hl1 := Aside0.mk (show ((xss.take k).flatten.length + (xss[k]).length) * 96 ≤ 140737488355328 by
            have h1 := many_le xss (k + 1)
            rw [many_succ hlt] at h1
            unfold many at h1
            have := HF.out
            omega)
          clear hrd
          go_wp2_with (at_builtin; refine Kd.R_append_rows k53 (w0 := w) w.heap.size rfl _ _ 44 53 zv53 96 rfl Try.underlying44 infoZ53 rfl (by decide) (by omega) _ (xss.take k).flatten xss[k] A1 (xss[k]).length c1 (fun _ => True) (fun _ => False) rfl rfl HO.out HRD.out (fun x cs h => by obtain rfl := k53_open h; exact k53_mkM _ _ _ x) (fun _ h => h.elim) (fun _ _ => trivial) HB.out HB.out.size hl1.out ?_; intro v1 w1 hown hB hg hat; have HO1 := Aside0.mk hown; have HB1 := Aside0.mk hB; clear hown hB hg hat)
          go_roundw
          case rel => exact ⟨k + 1, by omega, by go_num, ⟨by rw [hf.out]; exact HO1.out⟩, HB1⟩
          case measure => simp [intOf]; omega
        · have hk' : k = xss.length := by omega
          subst hk'
          go_wp2
          go_ret
          exact ⟨_, rfl, by have := HO.out; rwa [List.take_length] at this, HB.out⟩
end Go.Proofs.Ytblalidpeccabab.Rw
