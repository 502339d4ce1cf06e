/- Cuts of a row of ints, and an append to a row of one's own: their runs. -/
import Derived.Test.YtaeamehngbfneaaConcat
namespace Go.Proofs.Ytaeamehngbfneaa.Sl
open Go Go.RowKit Go.Lib Go.Proofs.YtaeamehngbfneaaW.PrintWords
set_option linter.unusedVariables false
set_option linter.unusedSimpArgs false

theorem cut_h (A : Option Addr) (n c : Nat) (j : Int) (m : Nat) (hj : j = (m : Int)) (hm : m ≤ n) (hc : n ≤ c) (W : World) :
    Sem.run Try.prog (Instr.sliceAt 22 (.slice A n c) none (some (.int .i64 j)) none) W = .ok (.slice A m c) W := by
  subst hj
  have h1 : (m : Int) ≤ (c : Int) := by omega
  have h2 : (0 : Int) ≤ (m : Int) := by omega
  go_simp

theorem cut_l (A : Option Addr) (n c : Nat) (i : Int) (m : Nat) (hi : i = (m : Int)) (hm : m ≤ n) (hc : n ≤ c) (W : World) :
    Sem.run Try.prog (Instr.sliceAt 22 (.slice A n c) (some (.int .i64 i)) none none) W = .ok (.slice (if c = m then A else A.map (·.add m)) (n - m) (c - m)) W := by
  subst hi
  have h1 : (m : Int) ≤ (n : Int) := by omega
  have h2 : (0 : Int) ≤ (m : Int) := by omega
  go_simp

theorem cut_lh (A : Option Addr) (n c : Nat) (i j : Int) (m k : Nat) (hi : i = (m : Int)) (hj : j = (k : Int)) (hm : m ≤ k) (hk : k ≤ n) (hc : n ≤ c) (W : World) :
    Sem.run Try.prog (Instr.sliceAt 22 (.slice A n c) (some (.int .i64 i)) (some (.int .i64 j)) none) W = .ok (.slice (if c = m then A else A.map (·.add m)) (k - m) (c - m)) W := by
  subst hi hj
  have h1 : (m : Int) ≤ (k : Int) := by omega
  have h2 : (0 : Int) ≤ (m : Int) := by omega
  have h3 : (k : Int) ≤ (c : Int) := by omega
  go_simp

theorem ReadsInt.stretch {w : World} {k : IntKind} {A : Option Addr} {n c : Nat} {xs : List Int} (h : ReadsInt w k A n xs) (i j : Nat) (hij : i ≤ j) (hj : j ≤ n) (hc : n ≤ c) : ReadsInt w k (if c = i then A else A.map (·.add i)) (j - i) ((xs.take j).drop i) :=
  ReadsInt.drop_ (ReadsInt.take_ h j hj) i hij (by omega)

/-- append(v, ys...) to a row of one's own -/
theorem app_run {w0 W : World} (base : Nat) (v : Value) (xs ys : List Int) (A : Option Addr) (m c : Nat) (cs : Array Bool)
    (HO : W.ownsRow base 3 1 v xs.length (nums .i64 xs)) (HR : ReadsInt W .i64 A m ys) (HB : Below base w0 W) (hbase : base ≤ W.heap.size) (hl : (xs.length + m) * 8 ≤ 140737488355328) :
    ∃ v1 w1, Sem.run Try.prog (builtin .append #[22, 22] 22 cs #[v, .slice A m c]) W = .ok (.value v1) w1 ∧ w1.ownsRow base 3 1 v1 (xs ++ ys).length (nums .i64 (xs ++ ys)) ∧ Below base w0 w1 ∧ base ≤ w1.heap.size := by
  obtain ⟨i0, hi, hz0, hz1, hz2⟩ := info_parts infoInt
  have ht : Try.prog.underlying 22 = some (.slice 3) := Try.underlying22
  have hm : ys.length = m := HR.1
  have hrun : ∃ v1 w1, (Builtin.append_ #[22, 22] 22 #[v, .slice A m c]).run Try.prog W = .ok v1 w1 ∧ w1.ownsRow base 3 1 v1 (xs ++ ys).length (nums .i64 (xs ++ ys)) ∧ W.grownBy w1 v.ownBlock := by
    rcases A with _ | ad
    · have h0 : m = 0 := by
        rcases Nat.eq_zero_or_pos m with h0 | h0
        · exact h0
        · obtain ⟨ad, h, _⟩ := HR.2.2 h0
          cases h
      subst h0
      obtain rfl : ys = [] := List.eq_nil_of_length_eq_zero hm
      refine ⟨v, W, ?_, by simpa using HO, World.grownBy.refl W _⟩
      rcases HO.2 with ⟨rfl, hn⟩ | ⟨g, cap, cur, rfl, _, _, hnc, _⟩
      · simp [Builtin.append_, run_underlying ht, sizeOf, typeInfo, hi, Builtin.lenOf, Builtin.firstCells]
      · simp [Builtin.append_, run_underlying ht, sizeOf, typeInfo, hi, Builtin.lenOf, Builtin.firstCells, hnc, storeCells]
    · have hcells : ∀ j u, (nums .i64 ys)[j]? = some u → W.cell? (ad.add j) = some u := by
        intro j u hu
        have hj : j < ys.length := by
          rcases Nat.lt_or_ge j ys.length with h | h
          · exact h
          · simp [nums, List.getElem?_eq_none h] at hu
        obtain ⟨ad', h', hc⟩ := HR.2.2 (by omega)
        injection h' with h'
        subst h'
        have := hc j (by omega)
        simp [nums, List.getElem?_eq_getElem hj] at hu
        subst hu
        rw [this]
        simp [List.getD_eq_getElem?_getD, List.getElem?_eq_getElem hj]
      obtain ⟨v1, w1, hr, h2, h3, _, h5⟩ := run_append_own_at (P := Try.prog) W base 22 22 3 i0 (.int .i64 0) 1 8 ht hi hz0 hz1 hz2 rfl (by omega) v xs.length (nums .i64 xs) HO ad m c (nums .i64 ys) (by simp [nums, hm]) hcells
        (by intro u hu; simp only [nums, List.mem_map] at hu; obtain ⟨q, _, rfl⟩ := hu; rfl) (by simp only [maxLen]; omega) hl hbase
      exact ⟨v1, w1, hr, by simpa [nums, hm] using h2, h3⟩
  obtain ⟨v1, w1, hr, hown, hg⟩ := hrun
  refine ⟨v1, w1, ?_, hown, HB.grown hg hbase (own_base HO), Nat.le_trans hbase hg.size⟩
  simp only [builtin, Sem.run_bind, hr, Result.andThen_ok, Sem.run_pure]
end Go.Proofs.Ytaeamehngbfneaa.Sl
