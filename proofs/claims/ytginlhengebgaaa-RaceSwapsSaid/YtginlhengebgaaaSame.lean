/- Words that every walk over lists of ints leans on. SameInts and HasInt: their walks. -/
import Derived.Test.YtginlhengebgaaaRows
import Derived.Test.YtginlhengebgaaaWWords
import Derived.Test.YtginlhengebgaaaWInvWords
import Derived.Test.YtginlhengebgaaaWLast
import Derived.Test.YtginlhengebgaaaWMore
import Derived.Lib.AppendZerosOnto
import Derived.Lib.SliceRun
import Derived.Lib.LazyBuf
import Derived.Lib.OwnBridge
import Derived.OwnWalk
import Derived.WalkKit
import Derived.Deep.LoopGhost
import Derived.KernelRfl
import Derived.Deep.QuietTactic
import Derived.BigQuiet
namespace Go.Proofs.Ytginlhengebgaaa.Bs
open Go Go.RowKit Go.Lib Go.Proofs.YtginlhengebgaaaW.PrintWords
set_option linter.unusedVariables false
set_option linter.unusedSimpArgs false

theorem infoInt : (Try.prog.info? 3).map (fun i => (i.zero, i.size, i.bytes)) = some (some (.int .i64 0), 1, 8) := by kernel_rfl

/-- a row of the call's own that holds xs -/
def Made (w : World) (xs : List Int) (e : Ending) (w' : World) : Prop :=
  ∃ v, e = .returned v ∧ w'.ownsRow w.heap.size 3 1 v xs.length (nums .i64 xs) ∧ Below w.heap.size w w'

/-- an owned row, read -/
theorem own_rd {w : World} {B : Nat} {v : Value} {xs : List Int} (h : w.ownsRow B 3 1 v xs.length (nums .i64 xs)) : ∃ A c, v = .slice A xs.length c ∧ xs.length ≤ c ∧ ReadsInt w .i64 A xs.length xs := by
  obtain ⟨A, c, rfl, hr⟩ := own_reads h
  refine ⟨A, c, rfl, ?_, hr⟩
  rcases h.2 with ⟨e, hn⟩ | ⟨g, cap, cur, e, _, _, hl, _⟩
  · rw [hn]; exact Nat.zero_le _
  · simp only [Value.slice.injEq] at e
    obtain ⟨_, _, rfl⟩ := e
    exact hl

/-- a literal -/
theorem reads_lit (w : World) (xs : List Int) (hn : xs.length ≤ 1000) (T : TypeId) : ReadsInt (w.alloc (.cells (nums .i64 xs).toArray T)) .i64 (some ⟨w.heap.size, 0, none⟩) xs.length xs := by
  refine ⟨rfl, by omega, fun _ => ⟨_, rfl, fun j hj => ?_⟩⟩
  rw [add_plain]
  rw [blk_cell (heap_alloc_new w _) j]
  simp [nums, List.getD_eq_getElem?_getD, hj]

/-- a literal that one owns -/
theorem own_lit (w : World) (xs : List Int) (hn : xs.length ≤ 1000) : (w.alloc (.cells (nums .i64 xs).toArray 3)).ownsRow w.heap.size 3 1 (.slice (some ⟨w.heap.size, 0, none⟩) xs.length xs.length) xs.length (nums .i64 xs) := by
  refine ⟨by simp [nums], .inr ⟨w.heap.size, xs.length, (nums .i64 xs).toArray, rfl, Nat.le_refl _, heap_alloc_new w _, Nat.le_refl _, by unfold maxLen; omega, by simp [nums], ?_⟩⟩
  simp only [Nat.mul_one, nums]
  exact List.take_of_length_le (by simp)

/-- a row at the head of block g -/
structure At (w : World) (g : Nat) (xs : List Int) : Prop where mk ::
  out : ∀ j, j < xs.length → w.cell? ⟨g, 0 + j, none⟩ = some (.int .i64 (xs.getD j 0))
theorem At.lt {w : World} {g : Nat} {xs : List Int} (h : At w g xs) (hl : 0 < xs.length) : g < w.heap.size := World.block_lt_of_cell? w _ (h.out 0 hl)
theorem At.below {w w1 : World} {g : Nat} {xs : List Int} (h : At w g xs) (hb : Below w.heap.size w w1) : At w1 g xs :=
  ⟨fun j hj => (hb.cell (World.block_lt_of_cell? w _ (h.out j hj))).trans (h.out j hj)⟩
theorem At.reads {w : World} {g : Nat} {xs : List Int} (h : At w g xs) (hl : xs.length ≤ 9223372036854775807) : ReadsInt w .i64 (some ⟨g, 0, none⟩) xs.length xs :=
  ⟨rfl, hl, fun _ => ⟨_, rfl, fun j hj => by rw [add_plain]; have := h.out j hj; rwa [Nat.zero_add] at this⟩⟩
theorem At.of_own {w : World} {B : Nat} {v : Value} {xs : List Int} (h : w.ownsRow B 3 1 v xs.length (nums .i64 xs)) (hl : 0 < xs.length) : ∃ g c, v = .slice (some ⟨g, 0, none⟩) xs.length c ∧ B ≤ g ∧ xs.length ≤ c ∧ c ≤ maxLen ∧ At w g xs := by
  obtain ⟨g, c, rfl, h1, _, h3, h4, _, h6⟩ := Lib.holds_of_ownsRow (enc := Value.int .i64) h (fun e0 => by
    subst e0
    rcases h.2 with ⟨_, hn⟩ | ⟨g, c, cur, e, _⟩
    · omega
    · cases e)
  exact ⟨g, c, rfl, h1, h3, h4, ⟨fun j hj => by
    have := (h6 j (by simpa using hj)).1
    simpa [List.getD_eq_getElem?_getD, hj] using this⟩⟩
end Go.Proofs.Ytginlhengebgaaa.Bs
namespace Go.Proofs.Ytginlhengebgaaa.Bs
open Go Go.RowKit Go.Lib Go.Proofs.YtginlhengebgaaaW.PrintWords
set_option linter.unusedVariables false
set_option linter.unusedSimpArgs false

theorem take_step {l m : List Int} {k : Nat} (h : l.take k = m.take k) (h1 : k < l.length) (h2 : k < m.length) (e : l.getD k 0 = m.getD k 0) : l.take (k + 1) = m.take (k + 1) := by
  rw [List.take_succ_eq_append_getElem h1, List.take_succ_eq_append_getElem h2, h]
  rw [List.getD_eq_getElem?_getD, List.getD_eq_getElem?_getD, List.getElem?_eq_getElem h1, List.getElem?_eq_getElem h2] at e
  congr 2

set_option maxHeartbeats 4000000 in
set_option maxRecDepth 100000 in
theorem same_calls (w : World) (A : Option Addr) (c : Nat) (l : List Int) (A1 : Option Addr) (c1 : Nat) (m : List Int) (hr : ReadsInt w .i64 A l.length l) (hr1 : ReadsInt w .i64 A1 m.length m) :
    Calls Try.prog 28 #[.slice A l.length c, .slice A1 m.length c1] w fun e w' => e = .returned (.bool (decide (l = m))) ∧ Below w.heap.size w w' := by
  have hl := hr.2.1
  have hl1 := hr1.2.1
  have HR := Aside0.mk hr
  have HR1 := Aside0.mk hr1
  clear hr hr1
  by_cases he : l.length = m.length
  · have HE := Aside0.mk he
    have hd : ((l.length : Int) != (m.length : Int)) = false := by simp; omega
    clear he
    go_enter Try.func28, Try.ntmps28
    go_wp2
    go_loopw [5] (fun i wr => ∃ k : Nat, k ≤ l.length ∧ i = .int .i64 k ∧ Aside0 (l.take k = m.take k) ∧ Aside0 (Below w.heap.size w wr)) (fun i _ => l.length - (intOf i).toNat)
    case atStart => exact ⟨0, Nat.zero_le _, rfl, ⟨by simp⟩, ⟨Below.refl _ _⟩⟩
    case round =>
      obtain ⟨k, hk, rfl, HT, HB⟩ := hrel
      by_cases hlt : k < l.length
      · have hlt1 : k < m.length := by have := HE.out; omega
        obtain ⟨ad, rfl, hcell⟩ := HR.out.2.2 (by omega)
        obtain ⟨ad1, rfl, hcell1⟩ := HR1.out.2.2 (by omega)
        have g1 : wr.cell? (ad.add k) = some (.int .i64 (l.getD k 0)) := (HB.out.cell (World.block_lt_of_cell? w _ (hcell k hlt))).trans (hcell k hlt)
        have g2 : wr.cell? (ad1.add k) = some (.int .i64 (m.getD k 0)) := (HB.out.cell (World.block_lt_of_cell? w _ (hcell1 k hlt1))).trans (hcell1 k hlt1)
        have HS := Aside0.mk (fun e => take_step HT.out hlt hlt1 e)
        have HNE := Aside0.mk (show l.getD k 0 ≠ m.getD k 0 → l ≠ m from fun hne e => hne (by rw [e]))
        generalize l.getD k 0 = x at g1 HS HNE
        generalize m.getD k 0 = y at g2 HS HNE
        have z1 : (k : Int) < (l.length : Int) := by omega
        have z2 : (k : Int) < (m.length : Int) := by omega
        clear hcell hcell1
        by_cases hxy : x = y
        · subst hxy
          have HS' := Aside0.mk (HS.out rfl)
          clear HS
          go_wp2_with fail
          go_quiet (fail)
          go_wp2
          go_roundw
          case rel => exact ⟨k + 1, by omega, by go_num, HS', ⟨below_then HB.out HB.out.size ⟨rfl, rfl, rfl, Nat.le_refl _, fun _ _ => rfl⟩⟩⟩
          case measure => simp [intOf]; omega
        · have hne := HNE.out hxy
          have HD := Aside0.mk (show decide (l = m) = false from decide_eq_false hne)
          clear hne
          go_wp2_with fail
          go_quiet (fail)
          go_wp2
          go_ret
          rw [HD.out]
          exact ⟨rfl, below_then HB.out HB.out.size ⟨rfl, rfl, rfl, Nat.le_refl _, fun _ _ => rfl⟩⟩
      · have hk' : k = l.length := by omega
        subst hk'
        have HD := Aside0.mk (show decide (l = m) = true by
          have := HT.out
          rw [List.take_length, HE.out, List.take_length] at this
          exact decide_eq_true this)
        go_wp2
        go_ret
        rw [HD.out]
        exact ⟨rfl, HB.out⟩
  · have hd : ((l.length : Int) != (m.length : Int)) = true := by simp; omega
    have HD := Aside0.mk (show decide (l = m) = false from decide_eq_false (fun e => he (by rw [e])))
    clear he
    go_enter Try.func28, Try.ntmps28
    go_wp2
    go_ret
    rw [HD.out]
    exact ⟨rfl, Below.refl _ _⟩
end Go.Proofs.Ytginlhengebgaaa.Bs
