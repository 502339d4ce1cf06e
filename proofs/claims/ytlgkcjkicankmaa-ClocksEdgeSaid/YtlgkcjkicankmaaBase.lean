/- Words that every walk over lists of ints leans on. -/
import Derived.Test.YtlgkcjkicankmaaRows
import Derived.Test.YtlgkcjkicankmaaWWords
import Derived.Test.YtlgkcjkicankmaaWInvWords
import Derived.Test.YtlgkcjkicankmaaWLast
import Derived.Test.YtlgkcjkicankmaaWMore
import Derived.Lib.AppendZerosOnto
import Derived.Lib.SliceRun
import Derived.Lib.LazyBuf
import Derived.Lib.OwnBridge
import Derived.OwnWalk
import Derived.WalkKit
import Derived.Deep.LoopGhost
import Derived.KernelRfl
namespace Go.Proofs.Ytlgkcjkicankmaa.Bs
open Go Go.RowKit Go.Lib Go.Proofs.YtlgkcjkicankmaaW.PrintWords
set_option linter.unusedVariables false
set_option linter.unusedSimpArgs false

theorem infoInt : (Try.prog.info? 3).map (fun i => (i.zero, i.size, i.bytes)) = some (some (.int .i64 0), 1, 8) := by kernel_rfl

/-- a row of the call's own that holds xs -/
def Made (w : World) (xs : List Int) (e : Ending) (w' : World) : Prop :=
  ∃ v, e = .returned v ∧ w'.ownsRow w.heap.size 3 1 v xs.length (nums .i64 xs) ∧ Below w.heap.size w w'

/-- an owned row, read -/
theorem own_rd {w : World} {B : Nat} {v : Value} {xs : List Int} (h : w.ownsRow B 3 1 v xs.length (nums .i64 xs)) : ∃ A c, v = .slice A xs.length c ∧ xs.length ≤ c ∧ ReadsInt w .i64 A xs.length xs := by
  obtain ⟨A, c, rfl, hr⟩ := own_reads h
  refine ⟨A, c, rfl, ?_, hr⟩
  rcases h.2 with ⟨e, hn⟩ | ⟨g, cap, cur, e, _, _, hl, _⟩
  · rw [hn]; exact Nat.zero_le _
  · simp only [Value.slice.injEq] at e
    obtain ⟨_, _, rfl⟩ := e
    exact hl

/-- a literal -/
theorem reads_lit (w : World) (xs : List Int) (hn : xs.length ≤ 1000) (T : TypeId) : ReadsInt (w.alloc (.cells (nums .i64 xs).toArray T)) .i64 (some ⟨w.heap.size, 0, none⟩) xs.length xs := by
  refine ⟨rfl, by omega, fun _ => ⟨_, rfl, fun j hj => ?_⟩⟩
  rw [add_plain]
  rw [blk_cell (heap_alloc_new w _) j]
  simp [nums, List.getD_eq_getElem?_getD, hj]

/-- a literal that one owns -/
theorem own_lit (w : World) (xs : List Int) (hn : xs.length ≤ 1000) : (w.alloc (.cells (nums .i64 xs).toArray 3)).ownsRow w.heap.size 3 1 (.slice (some ⟨w.heap.size, 0, none⟩) xs.length xs.length) xs.length (nums .i64 xs) := by
  refine ⟨by simp [nums], .inr ⟨w.heap.size, xs.length, (nums .i64 xs).toArray, rfl, Nat.le_refl _, heap_alloc_new w _, Nat.le_refl _, by unfold maxLen; omega, by simp [nums], ?_⟩⟩
  simp only [Nat.mul_one, nums]
  exact List.take_of_length_le (by simp)

/-- a row at the head of block g -/
structure At (w : World) (g : Nat) (xs : List Int) : Prop where mk ::
  out : ∀ j, j < xs.length → w.cell? ⟨g, 0 + j, none⟩ = some (.int .i64 (xs.getD j 0))
theorem At.lt {w : World} {g : Nat} {xs : List Int} (h : At w g xs) (hl : 0 < xs.length) : g < w.heap.size := World.block_lt_of_cell? w _ (h.out 0 hl)
theorem At.below {w w1 : World} {g : Nat} {xs : List Int} (h : At w g xs) (hb : Below w.heap.size w w1) : At w1 g xs :=
  ⟨fun j hj => (hb.cell (World.block_lt_of_cell? w _ (h.out j hj))).trans (h.out j hj)⟩
theorem At.reads {w : World} {g : Nat} {xs : List Int} (h : At w g xs) (hl : xs.length ≤ 9223372036854775807) : ReadsInt w .i64 (some ⟨g, 0, none⟩) xs.length xs :=
  ⟨rfl, hl, fun _ => ⟨_, rfl, fun j hj => by rw [add_plain]; have := h.out j hj; rwa [Nat.zero_add] at this⟩⟩
theorem At.of_own {w : World} {B : Nat} {v : Value} {xs : List Int} (h : w.ownsRow B 3 1 v xs.length (nums .i64 xs)) (hl : 0 < xs.length) : ∃ g c, v = .slice (some ⟨g, 0, none⟩) xs.length c ∧ B ≤ g ∧ xs.length ≤ c ∧ c ≤ maxLen ∧ At w g xs := by
  obtain ⟨g, c, rfl, h1, _, h3, h4, _, h6⟩ := Lib.holds_of_ownsRow (enc := Value.int .i64) h (fun e0 => by
    subst e0
    rcases h.2 with ⟨_, hn⟩ | ⟨g, c, cur, e, _⟩
    · omega
    · cases e)
  exact ⟨g, c, rfl, h1, h3, h4, ⟨fun j hj => by
    have := (h6 j (by simpa using hj)).1
    simpa [List.getD_eq_getElem?_getD, hj] using this⟩⟩
end Go.Proofs.Ytlgkcjkicankmaa.Bs
