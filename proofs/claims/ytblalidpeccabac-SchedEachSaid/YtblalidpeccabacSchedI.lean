/- slices.Repeat of one number: its walk. -/
import Derived.Test.YtblalidpeccabacSchedE
import Derived.Test.YtblalidpeccabacRegionEff
import Derived.Test.YtblalidpeccabacSame
import Derived.Laws.CopyOwn
namespace Go.Proofs.Ytblalidpeccabac.Sd
open Go Go.RowKit Go.Lib Go.Proofs.YtblalidpeccabacW.PrintWords Go.Proofs.YtblalidpeccabacW.PrintLast Go.Proofs.YtblalidpeccabacW.PrintMore Go.Proofs.Ytblalidpeccabac.PSchedBack Go.Proofs.Ytblalidpeccabac.Bs Go.Proofs.Ytblalidpeccabac.RegionVal
set_option linter.unusedVariables false
set_option linter.unusedSimpArgs false

theorem makeI (n : Nat) (hn : n ≤ 100000) (W : World) : Sem.run Try.prog (Instr.makeSlice 23 (.int .i64 (n : Int)) (.int .i64 (n : Int))) W = .ok (.slice (some ⟨W.heap.size, 0, none⟩) n n) (W.alloc (.cells (nums .i64 (List.replicate n 0)).toArray 3)) := by
  obtain ⟨i0, hi, hz0, hz1, hz2⟩ := info_parts infoInt
  have h := run_make W 23 3 i0 (.int .i64 0) Try.underlying23 hi hz0 .i64 .i64 (n : Int) (n : Int) (by omega) (by omega) (by rw [hz2]; omega) (by omega)
  rw [hz1] at h
  simp only [Int.toNat_natCast, Nat.mul_one] at h
  rw [show madeCells (Value.int IntKind.i64 0).cells n = (nums .i64 (List.replicate n 0)).toArray by
    apply Array.ext
    · simp [madeCells, nums]
    · intro i h1 h2
      simp only [madeCells, nums, Value.cells, Array.getElem_map, Array.getElem_range, List.getElem_toArray, List.getElem_map, List.getElem_replicate]
      rw [show (#[Value.int IntKind.i64 0] : Array Value).size = 1 from rfl, Nat.mod_one]
      rfl] at h
  exact h
/-- N cells, of which m are x -/
def rep (x : Int) (N m : Nat) : List Int := List.replicate m x ++ List.replicate (N - m) 0
theorem info3s : (Try.prog.info? 3).map (·.size) = some 1 := by kernel_rfl
theorem rep_copy (x : Int) (N m k : Nat) (hk : m + k ≤ N) : (nums .i64 (rep x N m)).toArray.toList.take m ++ nums .i64 (List.replicate k x) ++ (nums .i64 (rep x N m)).toArray.toList.drop (m + (nums .i64 (List.replicate k x)).length) = nums .i64 (rep x N (m + k)) := by
  unfold rep nums
  simp only [List.map_append, List.map_replicate, List.length_replicate, List.take_append, List.drop_append, List.take_replicate, List.drop_replicate]
  rw [Nat.min_self, Nat.sub_self, Nat.zero_min, List.replicate_zero, List.append_nil, show m - (m + k) = 0 by omega, List.replicate_zero, List.nil_append, show m + k - m = k by omega, show N - m - k = N - (m + k) by omega, List.replicate_append_replicate]
/-- what copy does to the row -/
theorem run_copy0 (x : Int) (N : Nat) (W : World) (g m : Nat) (a : Addr) (n sn sc dc : Nat) (hm : m + n = N) (hk : W.heap[g]? = some (.cells (nums .i64 (rep x N m)).toArray 3 (0, 0))) (k : Nat) (hn : k = min sn n) (hs : ∀ j, j < k → W.cell? (a.add j) = some (.int .i64 x)) :
    Sem.run Try.prog (Builtin.copy_ #[23, 23] 3 #[.slice (some ⟨g, m, none⟩) n dc, .slice (some a) sn sc]) W = .ok (.int .i64 (k : Int)) (W.setRow g (nums .i64 (rep x N (m + k))).toArray) := by
  have hlen : (nums .i64 (List.replicate k x)).length = k := by simp [nums]
  have h := run_copy_row (P := Try.prog) W 23 23 3 3 g m n dc a sn sc (nums .i64 (rep x N m)).toArray 3 (nums .i64 (List.replicate k x)) Try.underlying23 info3s hk (by rw [hlen, hn]) (fun j v hv => by
    have hj : j < k := by
      rcases Nat.lt_or_ge j k with h | h
      · exact h
      · rw [List.getElem?_eq_none (by rw [hlen]; exact h)] at hv; cases hv
    rw [hs j hj, ← hv]
    simp [nums, hj]) (by rw [hlen]; simp [nums, rep]; omega) (by
    intro v hv
    simp only [nums, List.mem_map] at hv
    obtain ⟨x, _, rfl⟩ := hv
    rfl)
  rw [rep_copy x N m k (by omega), hlen] at h
  exact h
theorem run_copyR (x : Int) (N : Nat) (W : World) (g m : Nat) (a : Addr) (n sn sc dc : Nat) (hm : m + n = N) (hk : W.heap[g]? = some (.cells (nums .i64 (rep x N m)).toArray 3 (0, 0))) (k : Nat) (hn : k = min sn n) (hs : ∀ j, j < k → W.cell? (a.add j) = some (.int .i64 x)) :
    Sem.run Try.prog (builtin .copy #[23, 23] 3 #[false, false] #[.slice (some ⟨g, m, none⟩) n dc, .slice (some a) sn sc]) W = .ok (.value (.int .i64 (k : Int))) (W.setRow g (nums .i64 (rep x N (m + k))).toArray) := by
  simp only [builtin, Sem.run_bind, run_copy0 x N W g m a n sn sc dc hm hk k hn hs, Result.andThen_ok, Sem.run_pure]
theorem rep_cell {x : Int} {N : Nat} {W : World} {g m j : Nat} (hk : W.heap[g]? = some (.cells (nums .i64 (rep x N m)).toArray 3 (0, 0))) (hj : j < m) : W.cell? ⟨g, j, none⟩ = some (.int .i64 x) := by
  rw [blk_cell hk]
  unfold rep nums
  simp [List.getElem?_append_left, hj]
theorem mul_1 (N : Nat) (h : N ≤ 200) : bits_Mul.f 1 (N : Int) = some (0, (N : Int)) := by
  have h2 : ∀ n : Fin 201, bits_Mul.f 1 ((n.val : Nat) : Int) = some (0, ((n.val : Nat) : Int)) := by decide +kernel
  exact h2 ⟨N, by omega⟩

set_option maxHeartbeats 8000000 in
set_option maxRecDepth 100000 in
theorem repeat_calls (w : World) (gx : Nat) (x : Int) (N : Nat) (hN : 1 ≤ N) (hN2 : N ≤ 200) (hx : w.heap[gx]? = some (.cells #[.int .i64 x] 3 (0, 0))) :
    Calls Try.prog 46 #[.slice (some ⟨gx, 0, none⟩) 1 1, .int .i64 (N : Int)] w fun e w' => ∃ g, e = .returned (.slice (some ⟨g, 0, none⟩) N N) ∧ w.heap.size ≤ g ∧ w'.heap[g]? = some (.cells (nums .i64 (List.replicate N x)).toArray 3 (0, 0)) ∧ Below w.heap.size w w' := by
  have HX := Aside0.mk hx
  have hmk := makeI N (by omega)
  have hu : IntKind.u64.wrap (N : Int) = (N : Int) := by rw [IntKind.wrap_u64]; omega
  have hi : IntKind.i64.wrap (N : Int) = (N : Int) := by rw [IntKind.wrap_i64]; omega
  have h0 : ¬ ((N : Int) < 0) := by omega
  have h00 : (0 : Int) ≤ (N : Int) := by omega
  have hbig : ¬ ((9223372036854775807 : Int) < (N : Int)) := by omega
  have hbig2 : (N : Int) ≤ 9223372036854775807 := by omega
  have HM := Aside0.mk (fun W => bits_Mul.calls 1 (N : Int) 0 (N : Int) W (mul_1 N hN2))
  clear hx
  go_enter Try.func46, Try.ntmps46
  go_wp2_with fail
  refine (HM.out _).mono ?_
  rintro e w2 ⟨rfl, hd⟩
  have HB2 := Aside0.mk hd.below
  clear hd HM
  go_upto_region 7 with (fail)
  clear hmk
  have n3 := heap_alloc_new w2 (.cells (nums .i64 (List.replicate N 0)).toArray 3)
  have hb3 := below_then HB2.out HB2.out.size (below_alloc (Below.refl w2.heap.size w2) (.cells (nums .i64 (List.replicate N 0)).toArray 3))
  obtain ⟨W3, hW3⟩ : ∃ W3, W3 = w2.alloc (.cells (nums .i64 (List.replicate N 0)).toArray 3) := ⟨_, rfl⟩
  obtain ⟨g, hg⟩ : ∃ g, g = w2.heap.size := ⟨_, rfl⟩
  rw [← hW3] at n3 hb3
  rw [← hg] at n3
  rw [← hW3, ← hg]
  have HG := Aside0.mk (show w.heap.size ≤ g by have := HB2.out.size; omega)
  have HB3 := Aside0.mk hb3
  have hx3 := blk_below HX.out hb3
  have x0 := blk_cell hx3 0
  simp only [List.getElem?_toArray, List.getElem?_cons_zero, List.getElem?_cons_succ] at x0
  have n3' : W3.heap[g]? = some (.cells (nums .i64 (rep x N 0)).toArray 3 (0, 0)) := by rw [n3]; unfold rep; rw [List.replicate_zero, List.nil_append, Nat.sub_zero]
  have hrun := run_copy0 x N W3 g 0 ⟨gx, 0, none⟩ N 1 1 N (by omega) n3' 1 (by omega) (fun j hj => by
    obtain rfl : j = 0 := by omega
    rw [add_plain]
    exact x0)
  have HN4 := Aside0.mk (setRow_heap W3 g _ (nums .i64 (rep x N (0 + 1))).toArray 3 (0, 0) n3)
  have HB4 := Aside0.mk (below_setRow hb3 HG.out (nums .i64 (rep x N (0 + 1))).toArray)
  clear n3 n3' hb3 hW3 hg hx3 x0 HB3 HX HB2 hu hi hbig hbig2 h0 h00
  generalize W3.setRow g (nums .i64 (rep x N (0 + 1))).toArray = W4 at hrun HN4 HB4
  go_wp2_with fail
  go_loopw [8] (fun i wr => ∃ m : Nat, 1 ≤ m ∧ m ≤ N ∧ i = .int .i64 (m : Int) ∧ Aside0 (wr.heap[g]? = some (.cells (nums .i64 (rep x N m)).toArray 3 (0, 0))) ∧ Aside0 (Below w.heap.size w wr)) (fun i _ => N - (intOf i).toNat)
  case atStart => exact ⟨1, by omega, by omega, rfl, HN4, HB4⟩
  case round =>
    obtain ⟨m, hm1, hm2, rfl, HN, HB⟩ := hrel
    clear hrun HN4 HB4
    by_cases hlt : m < N
    · have hm' : (m : Int) < (N : Int) := by omega
      obtain ⟨k, hk⟩ : ∃ k, k = min m (N - m) := ⟨_, rfl⟩
      have hk1 : 1 ≤ k := by omega
      have hk2 : m + k ≤ N := by omega
      have hrun := run_copyR x N wr.drew g m ⟨g, 0, none⟩ (N - m) m N (N - m) (by omega) HN.out k hk (fun j hj => by
        rw [add_plain]
        exact rep_cell HN.out (by omega))
      have HN5 := Aside0.mk (setRow_heap wr.drew g _ (nums .i64 (rep x N (m + k))).toArray 3 (0, 0) HN.out)
      have HB5 := Aside0.mk (below_setRow (below_drew1 HB.out) HG.out (nums .i64 (rep x N (m + k))).toArray)
      generalize wr.drew.setRow g (nums .i64 (rep x N (m + k))).toArray = W5 at hrun HN5 HB5
      have hw : IntKind.i64.wrap ((m : Int) + (k : Int)) = ((m + k : Nat) : Int) := by rw [IntKind.wrap_i64]; omega
      clear hk
      go_wp2_with fail
      refine wp_eff (S := fun w' => True) [(0, false), (1, false), (2, false), (3, false), (4, false), (5, false), (6, false), (7, true), (8, false), (9, false)] (by kernel_rfl) (by kernel_rfl) trivial (fun _ _ d _ _ h => by cases d <;> exact h) ?_
      refine se_move rfl rfl rfl ?_
      refine se_move rfl rfl rfl ?_
      refine se_move rfl rfl rfl ?_
      refine se_slice (v := .slice (some ⟨g, m, none⟩) (N - m) (N - m)) rfl rfl rfl rfl rfl rfl (fun w' hw => by go_simp; omega) ?_
      refine se_move rfl rfl rfl ?_
      refine se_move rfl rfl rfl ?_
      refine se_slice (v := .slice (some ⟨g, 0, none⟩) m N) rfl rfl rfl rfl rfl rfl (fun w' hw => by go_simp) ?_
      refine se_made rfl rfl rfl hrun trivial ?_
      refine se_bin (v := .int .i64 ((m + k : Nat) : Int)) rfl rfl rfl rfl (fun w' hw => by go_simp) ?_
      refine se_un rfl rfl rfl rfl rfl (fun w' hw => by go_simp; with_reducible rfl) ?_
      intro _
      simp only [puts, Act.put, List.setIfInBounds_toArray, List.set_cons_zero, List.set_cons_succ]
      clear hrun
      go_wp2
      go_roundw
      case rel => exact ⟨m + k, by omega, hk2, rfl, HN5, HB5⟩
      case measure => simp [intOf]; omega
    · have HE := Aside0.mk (show wr.heap[g]? = some (.cells (nums .i64 (List.replicate N x)).toArray 3 (0, 0)) by
        have h := HN.out
        rw [show m = N by omega] at h
        unfold rep at h
        rwa [Nat.sub_self, List.replicate_zero, List.append_nil] at h)
      have hle : (N : Int) ≤ (m : Int) := by omega
      have hle2 : N ≤ m := by omega
      go_wp2
      go_ret
      exact ⟨g, rfl, HG.out, HE.out, HB.out⟩
end Go.Proofs.Ytblalidpeccabac.Sd
