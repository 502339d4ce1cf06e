/- SameInts and HasInt: their walks. -/
import Derived.Test.YtlgkcjkicankmaaBase
import Derived.Deep.QuietTactic
import Derived.BigQuiet
namespace Go.Proofs.Ytlgkcjkicankmaa.Bs
open Go Go.RowKit Go.Lib Go.Proofs.YtlgkcjkicankmaaW.PrintWords
set_option linter.unusedVariables false
set_option linter.unusedSimpArgs false

theorem take_step {l m : List Int} {k : Nat} (h : l.take k = m.take k) (h1 : k < l.length) (h2 : k < m.length) (e : l.getD k 0 = m.getD k 0) : l.take (k + 1) = m.take (k + 1) := by
  rw [List.take_succ_eq_append_getElem h1, List.take_succ_eq_append_getElem h2, h]
  rw [List.getD_eq_getElem?_getD, List.getD_eq_getElem?_getD, List.getElem?_eq_getElem h1, List.getElem?_eq_getElem h2] at e
  congr 2

set_option maxHeartbeats 4000000 in
set_option maxRecDepth 100000 in
theorem same_calls (w : World) (A : Option Addr) (c : Nat) (l : List Int) (A1 : Option Addr) (c1 : Nat) (m : List Int) (hr : ReadsInt w .i64 A l.length l) (hr1 : ReadsInt w .i64 A1 m.length m) :
    Calls Try.prog 20 #[.slice A l.length c, .slice A1 m.length c1] w fun e w' => e = .returned (.bool (decide (l = m))) ∧ Below w.heap.size w w' := by
  have hl := hr.2.1
  have hl1 := hr1.2.1
  have HR := Aside0.mk hr
  have HR1 := Aside0.mk hr1
  clear hr hr1
  by_cases he : l.length = m.length
  · have HE := Aside0.mk he
    have hd : ((l.length : Int) != (m.length : Int)) = false := by simp; omega
    clear he
    go_enter Try.func20, Try.ntmps20
    go_wp2
    go_loopw [5] (fun i wr => ∃ k : Nat, k ≤ l.length ∧ i = .int .i64 k ∧ Aside0 (l.take k = m.take k) ∧ Aside0 (Below w.heap.size w wr)) (fun i _ => l.length - (intOf i).toNat)
    case atStart => exact ⟨0, Nat.zero_le _, rfl, ⟨by simp⟩, ⟨Below.refl _ _⟩⟩
    case round =>
      obtain ⟨k, hk, rfl, HT, HB⟩ := hrel
      by_cases hlt : k < l.length
      · have hlt1 : k < m.length := by have := HE.out; omega
        obtain ⟨ad, rfl, hcell⟩ := HR.out.2.2 (by omega)
        obtain ⟨ad1, rfl, hcell1⟩ := HR1.out.2.2 (by omega)
        have g1 : wr.cell? (ad.add k) = some (.int .i64 (l.getD k 0)) := (HB.out.cell (World.block_lt_of_cell? w _ (hcell k hlt))).trans (hcell k hlt)
        have g2 : wr.cell? (ad1.add k) = some (.int .i64 (m.getD k 0)) := (HB.out.cell (World.block_lt_of_cell? w _ (hcell1 k hlt1))).trans (hcell1 k hlt1)
        have HS := Aside0.mk (fun e => take_step HT.out hlt hlt1 e)
        have HNE := Aside0.mk (show l.getD k 0 ≠ m.getD k 0 → l ≠ m from fun hne e => hne (by rw [e]))
        generalize l.getD k 0 = x at g1 HS HNE
        generalize m.getD k 0 = y at g2 HS HNE
        have z1 : (k : Int) < (l.length : Int) := by omega
        have z2 : (k : Int) < (m.length : Int) := by omega
        clear hcell hcell1
        by_cases hxy : x = y
        · subst hxy
          have HS' := Aside0.mk (HS.out rfl)
          clear HS
          go_wp2_with fail
          go_quiet (fail)
          go_wp2
          go_roundw
          case rel => exact ⟨k + 1, by omega, by go_num, HS', ⟨below_then HB.out HB.out.size ⟨rfl, rfl, rfl, Nat.le_refl _, fun _ _ => rfl⟩⟩⟩
          case measure => simp [intOf]; omega
        · have hne := HNE.out hxy
          have HD := Aside0.mk (show decide (l = m) = false from decide_eq_false hne)
          clear hne
          go_wp2_with fail
          go_quiet (fail)
          go_wp2
          go_ret
          rw [HD.out]
          exact ⟨rfl, below_then HB.out HB.out.size ⟨rfl, rfl, rfl, Nat.le_refl _, fun _ _ => rfl⟩⟩
      · have hk' : k = l.length := by omega
        subst hk'
        have HD := Aside0.mk (show decide (l = m) = true by
          have := HT.out
          rw [List.take_length, HE.out, List.take_length] at this
          exact decide_eq_true this)
        go_wp2
        go_ret
        rw [HD.out]
        exact ⟨rfl, HB.out⟩
  · have hd : ((l.length : Int) != (m.length : Int)) = true := by simp; omega
    have HD := Aside0.mk (show decide (l = m) = false from decide_eq_false (fun e => he (by rw [e])))
    clear he
    go_enter Try.func20, Try.ntmps20
    go_wp2
    go_ret
    rw [HD.out]
    exact ⟨rfl, Below.refl _ _⟩
end Go.Proofs.Ytlgkcjkicankmaa.Bs
