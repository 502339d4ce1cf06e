/- What the walks of Hunt lean on beside slice.Back: a list handed out, HasInt, SameInts, the kinds of what comes in. -/
import Derived.Test.YtblalidpeccabaaSliceF
import Derived.Test.YtblalidpeccabaaSame
import Derived.Test.YtblalidpeccabaaRegionTwo
import Derived.Test.YtblalidpeccabaaOpen
namespace Go.Proofs.Ytblalidpeccabaa.Sm
open Go Go.RowKit Go.Lib Go.Proofs.YtblalidpeccabaaW.PrintWords Go.Proofs.YtblalidpeccabaaW.PrintLast Go.Proofs.YtblalidpeccabaaW.PrintMore Go.Proofs.Ytblalidpeccabaa.PHuntParts Go.Proofs.Ytblalidpeccabaa.Sc Go.Proofs.Ytblalidpeccabaa.Bs Go.Proofs.Ytblalidpeccabaa.RegionVal Go.Proofs.Ytblalidpeccabaa.Open
set_option linter.unusedVariables false
set_option linter.unusedSimpArgs false

theorem C_lit {w : World} {g : Nat} {e : TypeId} (xs : List Int) (hg : w.heap[g]? = some (.cells (nums .i64 xs).toArray e (0, 0))) (hn : xs.length ≤ 1000) : Kd.C (Kd.int .i64) w (some ⟨g, 0, none⟩) xs.length xs :=
  C_int ⟨rfl, by omega, fun _ => ⟨_, rfl, fun j hj => by
    rw [add_plain, blk_cell hg]
    simp [nums, List.getD_eq_getElem?_getD, hj]⟩⟩
theorem reads_of {w : World} {A : Option Addr} {n : Nat} {xs : List Int} (h : Kd.C (Kd.int .i64) w A n xs) : ReadsInt w .i64 A n xs := Kd.reads_of_C (d := (0 : Int)) (h1 := fun _ => rfl) h
/-- a list that is handed out, read -/
def Out (w : World) (L : List Int) (e : Ending) (w' : World) : Prop := ∃ A c, e = .returned (.tuple #[.slice A L.length c, .int .i64 0]) ∧ L.length ≤ c ∧ Kd.C (Kd.int .i64) w' A L.length L ∧ Below w.heap.size w w'
theorem Told.zero {w w' : World} {r : Int} {L : List Int} {e : Ending} (h : Told w r L e w') (hr : r = 0) : Out w L e w' := by
  obtain ⟨⟨h0, _⟩ | ⟨_, v, rfl, ho⟩, hb⟩ := h
  · exact absurd hr h0
  · obtain ⟨A, c, rfl, hc, hR⟩ := own_rd ho
    exact ⟨A, c, rfl, hc, C_int hR, hb⟩
theorem Same_true {w : World} (L : List Int) {A A1 : Option Addr} {c c1 : Nat} (h : Kd.C (Kd.int .i64) w A L.length L) (h1 : Kd.C (Kd.int .i64) w A1 L.length L) : Calls Try.prog 23 #[.slice A L.length c, .slice A1 L.length c1] w fun e w' => e = .returned (.bool true) ∧ Below w.heap.size w w' :=
  (same_calls w A c L A1 c1 L (reads_of h) (reads_of h1)).mono fun e w' ⟨h, hb⟩ => ⟨by rw [h, decide_eq_true rfl], hb⟩
theorem has_l0 (l : List Int) (x : Int) (hn : l.length ≤ 9223372036854775807) : ∀ m q, l.length - q = m → q ≤ l.length → backstitchref4_HasInt.l0 (m + 1) l x (q : Int) = some (decide (x ∈ l.drop q))
  | 0, q, hm, hq => by
    have e : q = l.length := by omega
    subst e
    rw [backstitchref4_HasInt.l0, if_neg (by omega), List.drop_length]
    simp
  | m + 1, q, hm, hq => by
    have hlt : q < l.length := by omega
    have hrd : rd l (q : Int) = l[q] := by simp [rd, List.getD_eq_getElem?_getD, hlt]
    rw [backstitchref4_HasInt.l0, if_pos (by omega), if_pos (by omega), hrd, List.drop_eq_getElem_cons hlt]
    by_cases h : l[q] = x
    · rw [if_pos h]; simp [h]
    · rw [if_neg h, wrap64_id (by omega) (by omega), show ((q : Int) + 1) = ((q + 1 : Nat) : Int) by omega, has_l0 l x hn m (q + 1) (by omega) (by omega)]
      refine congrArg some (decide_eq_decide.2 ?_)
      rw [List.mem_cons]
      exact ⟨.inr, fun k => k.resolve_left (fun e => h e.symm)⟩
theorem has_calls (w : World) (A : Option Addr) (c : Nat) (l : List Int) (x : Int) (hr : Kd.C (Kd.int .i64) w A l.length l) (hc : l.length ≤ c) :
    Calls Try.prog 13 #[.slice A l.length c, .int .i64 x] w fun e w' => e = .returned (.bool (decide (x ∈ l))) ∧ Below w.heap.size w w' := by
  have h := has_l0 l x hr.2.1 (l.length - 0) 0 rfl (by omega)
  rw [List.drop_zero] at h
  exact (backstitchref4_HasInt.calls _ A c l x _ w hr hc h).mono fun e w' ⟨h1, h2⟩ => ⟨h1, h2.below⟩
theorem Told.any {w w' : World} {r : Int} {L : List Int} {e : Ending} (h : Told w r L e w') : (∃ v, e = .returned (.tuple #[v, .int .i64 r])) ∧ Below w.heap.size w w' := by
  obtain ⟨⟨h0, rfl⟩ | ⟨rfl, v, rfl, ho⟩, hb⟩ := h
  · exact ⟨⟨_, rfl⟩, hb⟩
  · exact ⟨⟨_, rfl⟩, hb⟩
theorem Told.bad {w w' : World} {r : Int} {L : List Int} {e : Ending} (h : Told w r L e w') (hr : r ≠ 0) : e = .returned (.tuple #[.slice none 0 0, .int .i64 r]) ∧ Below w.heap.size w w' := by
  obtain ⟨⟨h0, rfl⟩ | ⟨h0, v, rfl, ho⟩, hb⟩ := h
  · exact ⟨rfl, hb⟩
  · exact absurd h0 hr
theorem bools_of (r : Int) : ∃ b : Bool, (r == 0) = b ∧ (r != 0) = !b := ⟨_, rfl, rfl⟩

theorem opens_int3 : Opens Try.prog 3 (Kd.int .i64) (fun n => (Lit.int .i64 n).wf = true) := opens_int Try.underlying3
theorem opens31 : Opens Try.prog 31 (Kd.slice 3 (Kd.int .i64)) (fun l => l.length ≤ 9223372036854775807 ∧ l.length * Try.prog.bytesOf 3 ≤ 140737488351232 ∧ ∀ a ∈ l, (Lit.int .i64 a).wf = true) :=
  opens_slice Try.underlying31 (by kernel_rfl) opens_int3
theorem opens35 : Opens Try.prog 35 k35 (fun _ => True) :=
  (opens_iso (fun x : S35 => x.f0) (fun x => ⟨x⟩) (fun _ => rfl) (opens_struct Try.underlying35 (by kernel_rfl) (opensF_one opens31 (by kernel_rfl)))).imp (fun _ _ => trivial)
theorem opens30 : Opens Try.prog 30 (Kd.slice 35 k35) (fun l => l.length ≤ 9223372036854775807 ∧ l.length * Try.prog.bytesOf 35 ≤ 140737488351232 ∧ ∀ a ∈ l, True) :=
  opens_slice Try.underlying30 (by kernel_rfl) opens35
end Go.Proofs.Ytblalidpeccabaa.Sm
