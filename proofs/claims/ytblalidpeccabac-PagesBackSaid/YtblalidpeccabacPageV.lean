/- slices.Repeat of one number, sixteen times; pages.New: their walks. pagesBegun: its walk. -/
import Derived.Test.YtblalidpeccabacPageT
import Derived.Laws.CopyOwn
namespace Go.Proofs.Ytblalidpeccabac.Pg
open Go Go.RowKit Go.Lib Go.Proofs.YtblalidpeccabacW.PrintWords Go.Proofs.YtblalidpeccabacW.PrintLast Go.Proofs.YtblalidpeccabacW.PrintMore Go.Proofs.Ytblalidpeccabac.PPagesBack Go.Proofs.Ytblalidpeccabac.Bs Go.Proofs.Ytblalidpeccabac.RegionVal
set_option linter.unusedVariables false
set_option linter.unusedSimpArgs false

def rep (m : Nat) : List Int := List.replicate m (-1) ++ List.replicate (16 - m) 0
theorem info3s : (Try.prog.info? 3).map (·.size) = some 1 := by kernel_rfl
theorem rep_copy (m k : Nat) (hk : m + k ≤ 16) : (nums .i64 (rep m)).toArray.toList.take m ++ nums .i64 (List.replicate k (-1)) ++ (nums .i64 (rep m)).toArray.toList.drop (m + (nums .i64 (List.replicate k (-1))).length) = nums .i64 (rep (m + k)) := by
  unfold rep nums
  simp only [List.map_append, List.map_replicate, List.length_replicate, List.take_append, List.drop_append, List.take_replicate, List.drop_replicate]
  rw [Nat.min_self, Nat.sub_self, Nat.zero_min, List.replicate_zero, List.append_nil, show m - (m + k) = 0 by omega, List.replicate_zero, List.nil_append, show m + k - m = k by omega, show 16 - m - k = 16 - (m + k) by omega, List.replicate_append_replicate]
/-- what copy does to the row -/
theorem run_copy0 (W : World) (g m : Nat) (a : Addr) (n sn sc dc : Nat) (hm : m + n = 16) (hk : W.heap[g]? = some (.cells (nums .i64 (rep m)).toArray 3 (0, 0))) (k : Nat) (hn : k = min sn n) (hs : ∀ j, j < k → W.cell? (a.add j) = some (.int .i64 (-1))) :
    Sem.run Try.prog (Builtin.copy_ #[23, 23] 3 #[.slice (some ⟨g, m, none⟩) n dc, .slice (some a) sn sc]) W = .ok (.int .i64 (k : Int)) (W.setRow g (nums .i64 (rep (m + k))).toArray) := by
  have hlen : (nums .i64 (List.replicate k (-1))).length = k := by simp [nums]
  have h := run_copy_row (P := Try.prog) W 23 23 3 3 g m n dc a sn sc (nums .i64 (rep m)).toArray 3 (nums .i64 (List.replicate k (-1))) Try.underlying23 info3s hk (by rw [hlen, hn]) (fun j v hv => by
    have hj : j < k := by
      rcases Nat.lt_or_ge j k with h | h
      · exact h
      · rw [List.getElem?_eq_none (by rw [hlen]; exact h)] at hv; cases hv
    rw [hs j hj, ← hv]
    simp [nums, hj]) (by rw [hlen]; simp [nums, rep]; omega) (by
    intro v hv
    simp only [nums, List.mem_map] at hv
    obtain ⟨x, _, rfl⟩ := hv
    rfl)
  rw [rep_copy m k (by omega), hlen] at h
  exact h
theorem run_copyR (W : World) (g m : Nat) (a : Addr) (n sn sc dc : Nat) (hm : m + n = 16) (hk : W.heap[g]? = some (.cells (nums .i64 (rep m)).toArray 3 (0, 0))) (k : Nat) (hn : k = min sn n) (hs : ∀ j, j < k → W.cell? (a.add j) = some (.int .i64 (-1))) :
    Sem.run Try.prog (builtin .copy #[23, 23] 3 #[false, false] #[.slice (some ⟨g, m, none⟩) n dc, .slice (some a) sn sc]) W = .ok (.value (.int .i64 (k : Int))) (W.setRow g (nums .i64 (rep (m + k))).toArray) := by
  simp only [builtin, Sem.run_bind, run_copy0 W g m a n sn sc dc hm hk k hn hs, Result.andThen_ok, Sem.run_pure]
theorem rep_cell {W : World} {g m j : Nat} (hk : W.heap[g]? = some (.cells (nums .i64 (rep m)).toArray 3 (0, 0))) (hj : j < m) : W.cell? ⟨g, j, none⟩ = some (.int .i64 (-1)) := by
  rw [blk_cell hk]
  unfold rep nums
  simp [List.getElem?_append_left, hj]
theorem make16 (W : World) : Sem.run Try.prog (Instr.makeSlice 23 (.int .i64 16) (.int .i64 16)) W = .ok (.slice (some ⟨W.heap.size, 0, none⟩) 16 16) (W.alloc (.cells (nums .i64 (rep 0)).toArray 3)) := makeI 16 (by omega) W
theorem mul_116 : bits_Mul.f 1 16 = some (0, 16) := by rfl

set_option maxHeartbeats 8000000 in
set_option maxRecDepth 100000 in
theorem repeat_calls (w : World) (gx : Nat) (hx : w.heap[gx]? = some (.cells #[.int .i64 (-1)] 3 (0, 0))) :
    Calls Try.prog 46 #[.slice (some ⟨gx, 0, none⟩) 1 1, .int .i64 16] w fun e w' => ∃ g, e = .returned (.slice (some ⟨g, 0, none⟩) 16 16) ∧ w.heap.size ≤ g ∧ w'.heap[g]? = some (.cells (nums .i64 (List.replicate 16 (-1))).toArray 3 (0, 0)) ∧ Below w.heap.size w w' := by
  have HX := Aside0.mk hx
  have hmk := make16
  have HM := Aside0.mk (fun W => bits_Mul.calls 1 16 0 16 W mul_116)
  clear hx
  go_enter Try.func46, Try.ntmps46
  go_wp2_with fail
  refine (HM.out _).mono ?_
  rintro e w2 ⟨rfl, hd⟩
  have HB2 := Aside0.mk hd.below
  clear hd HM
  go_upto_region 7 with (fail)
  clear hmk
  have n3 := heap_alloc_new w2 (.cells (nums .i64 (rep 0)).toArray 3)
  have hb3 := below_then HB2.out HB2.out.size (below_alloc (Below.refl w2.heap.size w2) (.cells (nums .i64 (rep 0)).toArray 3))
  obtain ⟨W3, hW3⟩ : ∃ W3, W3 = w2.alloc (.cells (nums .i64 (rep 0)).toArray 3) := ⟨_, rfl⟩
  obtain ⟨g, hg⟩ : ∃ g, g = w2.heap.size := ⟨_, rfl⟩
  rw [← hW3] at n3 hb3
  rw [← hg] at n3
  rw [← hW3, ← hg]
  have HG := Aside0.mk (show w.heap.size ≤ g by have := HB2.out.size; omega)
  have HB3 := Aside0.mk hb3
  have hx3 := blk_below HX.out hb3
  have x0 := blk_cell hx3 0
  simp only [List.getElem?_toArray, List.getElem?_cons_zero, List.getElem?_cons_succ] at x0
  have hrun := run_copy0 W3 g 0 ⟨gx, 0, none⟩ 16 1 1 16 rfl n3 1 (by decide) (fun j hj => by
    obtain rfl : j = 0 := by omega
    rw [add_plain]
    exact x0)
  have HN4 := Aside0.mk (setRow_heap W3 g _ (nums .i64 (rep (0 + 1))).toArray 3 (0, 0) n3)
  have HB4 := Aside0.mk (below_setRow hb3 HG.out (nums .i64 (rep (0 + 1))).toArray)
  clear n3 hb3 hW3 hg hx3 x0 HB3 HX HB2
  generalize W3.setRow g (nums .i64 (rep (0 + 1))).toArray = W4 at hrun HN4 HB4
  go_wp2_with fail
  go_loopw [8] (fun i wr => ∃ m : Nat, 1 ≤ m ∧ m ≤ 16 ∧ i = .int .i64 (m : Int) ∧ Aside0 (wr.heap[g]? = some (.cells (nums .i64 (rep m)).toArray 3 (0, 0))) ∧ Aside0 (Below w.heap.size w wr)) (fun i _ => 16 - (intOf i).toNat)
  case atStart => exact ⟨1, by omega, by omega, rfl, HN4, HB4⟩
  case round =>
    obtain ⟨m, hm1, hm2, rfl, HN, HB⟩ := hrel
    clear hrun HN4 HB4
    by_cases hlt : m < 16
    · have hm' : (m : Int) < 16 := by omega
      obtain ⟨k, hk⟩ : ∃ k, k = min m (16 - m) := ⟨_, rfl⟩
      have hk1 : 1 ≤ k := by omega
      have hk2 : m + k ≤ 16 := by omega
      have hrun := run_copyR wr.drew g m ⟨g, 0, none⟩ (16 - m) m 16 (16 - m) (by omega) HN.out k hk (fun j hj => by
        rw [add_plain]
        exact rep_cell HN.out (by omega))
      have HN5 := Aside0.mk (setRow_heap wr.drew g _ (nums .i64 (rep (m + k))).toArray 3 (0, 0) HN.out)
      have HB5 := Aside0.mk (below_setRow (below_drew1 HB.out) HG.out (nums .i64 (rep (m + k))).toArray)
      generalize wr.drew.setRow g (nums .i64 (rep (m + k))).toArray = W5 at hrun HN5 HB5
      have hw : IntKind.i64.wrap ((m : Int) + (k : Int)) = ((m + k : Nat) : Int) := by rw [IntKind.wrap_i64]; omega
      clear hk
      go_wp2_with fail
      refine wp_eff (S := fun w' => True) [(0, false), (1, false), (2, false), (3, false), (4, false), (5, false), (6, false), (7, true), (8, false), (9, false)] (by kernel_rfl) (by kernel_rfl) trivial (fun _ _ d _ _ h => by cases d <;> exact h) ?_
      refine se_move rfl rfl rfl ?_
      refine se_move rfl rfl rfl ?_
      refine se_move rfl rfl rfl ?_
      refine se_slice (v := .slice (some ⟨g, m, none⟩) (16 - m) (16 - m)) rfl rfl rfl rfl rfl rfl (fun w' hw => by go_simp; rw [if_pos (by omega), if_neg (by omega)]) ?_
      refine se_move rfl rfl rfl ?_
      refine se_move rfl rfl rfl ?_
      refine se_slice (v := .slice (some ⟨g, 0, none⟩) m 16) rfl rfl rfl rfl rfl rfl (fun w' hw => by go_simp; intro hc; exact absurd hc (by omega)) ?_
      refine se_made rfl rfl rfl hrun trivial ?_
      refine se_bin (v := .int .i64 ((m + k : Nat) : Int)) rfl rfl rfl rfl (fun w' hw => by go_simp) ?_
      refine se_un rfl rfl rfl rfl rfl (fun w' hw => by go_simp; with_reducible rfl) ?_
      intro _
      simp only [puts, Act.put, List.setIfInBounds_toArray, List.set_cons_zero, List.set_cons_succ]
      clear hrun
      go_wp2
      go_roundw
      case rel => exact ⟨m + k, by omega, hk2, rfl, HN5, HB5⟩
      case measure => simp [intOf]; omega
    · obtain rfl : m = 16 := by omega
      go_wp2
      go_ret
      exact ⟨g, rfl, HG.out, HN.out, HB.out⟩
theorem put3_far {w : World} {g k : Nat} {v0 v1 v2 : Value} {cs : Array Value} {t : TypeId} (h : w.heap[k]? = some (.cells cs t (0, 0))) (hk : k ≠ g) : (put3 w g v0 v1 v2).heap[k]? = some (.cells cs t (0, 0)) :=
  blk_far (blk_far (blk_far h (p := ⟨g, 0, none⟩) hk _) (p := ⟨g, 1, none⟩) hk _) (p := ⟨g, 2, none⟩) hk _
def s00 : St := ⟨[], [], [List.replicate 16 (-1)]⟩
set_option maxHeartbeats 8000000 in
set_option maxRecDepth 100000 in
theorem new_calls (w : World) : Calls Try.prog 24 #[] w fun e w' => ∃ V, e = .returned V ∧ Gives w' s00 V ∧ Below w.heap.size w w' := by
  have n1 := heap_alloc_new w (.cells #[.slice none 0 0, .slice none 0 0, .slice none 0 0] 26)
  have hb1 : Below w.heap.size w (w.alloc (.cells #[.slice none 0 0, .slice none 0 0, .slice none 0 0] 26)) := below_alloc (Below.refl _ _) _
  obtain ⟨W1, hW1⟩ : ∃ W1, W1 = w.alloc (.cells #[.slice none 0 0, .slice none 0 0, .slice none 0 0] 26) := ⟨_, rfl⟩
  obtain ⟨g, hg⟩ : ∃ g, g = w.heap.size := ⟨_, rfl⟩
  rw [← hW1] at n1 hb1
  rw [← hg] at n1
  have n2 := heap_alloc_new W1 (.cells #[.int .i64 (-1)] 3)
  have n1' := blk_alloc n1 (.cells #[.int .i64 (-1)] 3)
  have hb2 : Below w.heap.size w (W1.alloc (.cells #[.int .i64 (-1)] 3)) := below_alloc hb1 _
  have HN := Aside0.mk n1'
  have HB := Aside0.mk hb2
  have HGE := Aside0.mk (show w.heap.size ≤ g by omega)
  have HWW := Aside0.mk hW1
  have HGG := Aside0.mk hg
  have HR := Aside0.mk (repeat_calls _ _ n2)
  clear n1 n1' hb1 hb2 hW1 hg n2
  go_enter Try.func24, Try.ntmps24
  go_upto_region 1 with (fail)
  rw [← HWW.out, ← HGG.out]
  clear HWW HGG
  go_wp2_with fail
  refine HR.out.mono ?_
  rintro e w2 ⟨g2, rfl, hg2, hk2, hb⟩
  have HN2 := Aside0.mk (blk_below HN.out hb)
  have HB2 := Aside0.mk (below_then HB.out HB.out.size hb)
  have n3 := heap_alloc_new w2 (.cells #[.slice (some ⟨g2, 0, none⟩) 16 16] 23)
  have hk3 := blk_alloc hk2 (.cells #[.slice (some ⟨g2, 0, none⟩) 16 16] 23)
  have hn3 := blk_alloc HN2.out (.cells #[.slice (some ⟨g2, 0, none⟩) 16 16] 23)
  have hb3 : Below w.heap.size w (w2.alloc (.cells #[.slice (some ⟨g2, 0, none⟩) 16 16] 23)) := below_alloc HB2.out _
  have hg0 := blk_lt HN.out
  have hgs : w2.heap.size ≠ g := fun e => by have := blk_lt HN2.out; omega
  have hg2g : g2 ≠ g := fun e => by omega
  have hz3 := put3_far (v0 := .slice none 0 0) (v1 := .slice none 0 0) (v2 := .slice (some ⟨w2.heap.size, 0, none⟩) 1 1) n3 hgs
  have hz2 := put3_far (v0 := .slice none 0 0) (v1 := .slice none 0 0) (v2 := .slice (some ⟨w2.heap.size, 0, none⟩) 1 1) hk3 hg2g
  have HC := Aside0.mk (show Kd.C kR (put3 (w2.alloc (.cells #[.slice (some ⟨g2, 0, none⟩) 16 16] 23)) g (.slice none 0 0) (.slice none 0 0) (.slice (some ⟨w2.heap.size, 0, none⟩) 1 1)) (some ⟨w2.heap.size, 0, none⟩) 1 [List.replicate 16 (-1)] from row_one (cs := [.slice (some ⟨g2, 0, none⟩) 16 16]) hz3 rfl ⟨some ⟨g2, 0, none⟩, 16, by rw [List.length_replicate], by rw [List.length_replicate]; exact Nat.le_refl _, C_lit (List.replicate 16 (-1)) hz2 (by simp)⟩)
  have HN3 := Aside0.mk hn3
  have HB3 := Aside0.mk hb3
  have y0 := blk_cell hn3 0
  have y1 := blk_cell hn3 1
  have y2 := blk_cell hn3 2
  simp only [List.getElem?_toArray, List.getElem?_cons_zero, List.getElem?_cons_succ] at y0 y1 y2
  have hfr : ∀ i, (w2.alloc (.cells #[.slice (some ⟨g2, 0, none⟩) 16 16] 23)).frozen? ⟨g, i, none⟩ = false := fun i => blk_frozen HN3.out i
  clear hg2 hk2 hb n3 hk3 hn3 hb3 HR hg0 hgs hg2g hz3 hz2
  go_wp2
  have hz := put3_blk (v0 := .slice none 0 0) (v1 := .slice none 0 0) (v2 := .slice (some ⟨w2.heap.size, 0, none⟩) 1 1) HN3.out
  have z0 := blk_cell hz 0
  have z1 := blk_cell hz 1
  have z2 := blk_cell hz 2
  simp only [List.getElem?_toArray, List.getElem?_cons_zero, List.getElem?_cons_succ, put3] at z0 z1 z2
  have HBB := Aside0.mk (put3_below (v0 := .slice none 0 0) (v1 := .slice none 0 0) (v2 := .slice (some ⟨w2.heap.size, 0, none⟩) 1 1) HB3.out HGE.out)
  exact bodyPost_ret (v := .agg #[.slice none 0 0, .slice none 0 0, .slice (some ⟨w2.heap.size, 0, none⟩) 1 1]) (by simp [results, Try.f24, go_sem, z0, z1, z2]) rfl ⟨_, rfl, ⟨none, 0, none, 0, some ⟨w2.heap.size, 0, none⟩, 1, rfl, ⟨C_none _ _, Nat.le_refl _, C_none _ _, Nat.le_refl _, HC.out, Nat.le_refl _⟩⟩, HBB.out⟩
end Go.Proofs.Ytblalidpeccabac.Pg
namespace Go.Proofs.Ytblalidpeccabac.Pg
open Go Go.RowKit Go.Lib Go.Proofs.YtblalidpeccabacW.PrintWords Go.Proofs.YtblalidpeccabacW.PrintLast Go.Proofs.YtblalidpeccabacW.PrintMore Go.Proofs.Ytblalidpeccabac.PPagesBack Go.Proofs.Ytblalidpeccabac.Bs Go.Proofs.Ytblalidpeccabac.RegionVal
set_option linter.unusedVariables false
set_option linter.unusedSimpArgs false

def s01 : St := (setF s00 0 5 7).1
theorem s01_ps : s01.ps = [[0, 7, 0, 0]] := by decide +kernel
theorem s01_us : s01.us = [1] := by decide +kernel
theorem s01_n : (setF s00 0 5 7).2.1 = 1 := by decide +kernel
theorem s01_e : (setF s00 0 5 7).2.2 = 0 := by decide +kernel
theorem s01_get1 : getF s01 1 5 = (7, 0) := by decide +kernel
theorem s01_get0 : getF s01 0 5 = (0, 0) := by decide +kernel
theorem s01_chk : chkF s01 = 0 := by decide +kernel

set_option maxHeartbeats 8000000 in
set_option maxRecDepth 100000 in
theorem begun_calls (w : World) : Calls Try.prog 9 #[] w fun e w' => e = .returned (.bool true) ∧ Below w.heap.size w w' := by
  have HNEW := Aside0.mk (new_calls w)
  go_enter Try.func9, Try.ntmps9
  go_wp2_with fail
  refine HNEW.out.mono ?_
  rintro e w1 ⟨V, rfl, ⟨A, a, B, b, C, c, rfl, hL⟩, hb⟩
  have HB1 := Aside0.mk hb
  have HSET := Aside0.mk (set_calls w1 A a B b C c s00 hL 0 5 7)
  clear hL hb HNEW
  go_wp2_with fail
  refine HSET.out.mono ?_
  rintro e w2 ⟨V, rfl, hG, hb⟩
  rw [s01_n, s01_e]
  obtain ⟨A2, a2, B2, b2, C2, c2, rfl, hL⟩ := (show Gives w2 s01 V from hG)
  rw [show s01.ps.length = 1 by rw [s01_ps]; rfl, show s01.us.length = 1 by rw [s01_us]; rfl]
  have HB2 := Aside0.mk (below_then HB1.out HB1.out.size hb)
  have n3 := heap_alloc_new w2 (.cells #[.slice A2 1 a2, .slice B2 1 b2, .slice C2 s01.rs.length c2] 26)
  have hb3 : Below w2.heap.size w2 (w2.alloc (.cells #[.slice A2 1 a2, .slice B2 1 b2, .slice C2 s01.rs.length c2] 26)) := below_alloc (Below.refl _ _) _
  obtain ⟨W3, hW3⟩ : ∃ W3, W3 = w2.alloc (.cells #[.slice A2 1 a2, .slice B2 1 b2, .slice C2 s01.rs.length c2] 26) := ⟨_, rfl⟩
  obtain ⟨g, hg⟩ : ∃ g, g = w2.heap.size := ⟨_, rfl⟩
  rw [← hW3] at n3 hb3
  rw [← hg] at n3
  have HN3 := Aside0.mk n3
  have HL3 := Aside0.mk (hL.below hb3)
  have HB3 := Aside0.mk (below_then HB2.out HB2.out.size hb3)
  have HWW := Aside0.mk hW3
  have HGG := Aside0.mk hg
  clear hG hL hb n3 hb3 hW3 hg HSET
  go_upto_region 2 with (fail)
  rw [← HWW.out, ← HGG.out]
  clear HWW HGG
  have HARG := Aside0.mk (show ∀ (W : World) (h : Lies W A2 a2 B2 b2 C2 c2 s01) (x t r1 r2 : Int), getF s01 x t = (r1, r2) → Calls Try.prog 12 #[.agg #[.slice A2 1 a2, .slice B2 1 b2, .slice C2 s01.rs.length c2], .int .i64 x, .int .i64 t] W fun e w' => e = .returned (.tuple #[.int .i64 r1, .int .i64 r2]) ∧ Below W.heap.size W w' from by
    intro W h x t r1 r2 hr
    have := get_calls W A2 a2 B2 b2 C2 c2 s01 h x t
    rw [hr, show s01.ps.length = 1 by rw [s01_ps]; rfl, show s01.us.length = 1 by rw [s01_us]; rfl] at this
    exact this)
  have x0 := blk_cell HN3.out 0
  have x1 := blk_cell HN3.out 1
  have x2 := blk_cell HN3.out 2
  simp only [List.getElem?_toArray, List.getElem?_cons_zero, List.getElem?_cons_succ] at x0 x1 x2
  go_wp2_with fail
  refine (HARG.out W3 HL3.out 1 5 7 0 s01_get1).mono ?_
  rintro e w4 ⟨rfl, hb⟩
  have HN4 := Aside0.mk (blk_below HN3.out hb)
  have HL4 := Aside0.mk (HL3.out.below hb)
  have HB4 := Aside0.mk (below_then HB3.out HB3.out.size hb)
  clear x0 x1 x2 hb HN3 HL3 HB3
  have x0 := blk_cell HN4.out 0
  have x1 := blk_cell HN4.out 1
  have x2 := blk_cell HN4.out 2
  simp only [List.getElem?_toArray, List.getElem?_cons_zero, List.getElem?_cons_succ] at x0 x1 x2
  go_wp2_with fail
  refine (HARG.out w4 HL4.out 0 5 0 0 s01_get0).mono ?_
  rintro e w5 ⟨rfl, hb⟩
  have HN5 := Aside0.mk (blk_below HN4.out hb)
  have HL5 := Aside0.mk (HL4.out.below hb)
  have HB5 := Aside0.mk (below_then HB4.out HB4.out.size hb)
  clear x0 x1 x2 hb HN4 HL4 HB4
  have x0 := blk_cell HN5.out 0
  have x1 := blk_cell HN5.out 1
  have x2 := blk_cell HN5.out 2
  simp only [List.getElem?_toArray, List.getElem?_cons_zero, List.getElem?_cons_succ] at x0 x1 x2
  have hck := check_calls w5 A2 a2 B2 b2 C2 c2 s01 HL5.out
  rw [s01_chk, show s01.ps.length = 1 by rw [s01_ps]; rfl, show s01.us.length = 1 by rw [s01_us]; rfl] at hck
  have HCK := Aside0.mk hck
  clear hck
  go_wp2_with fail
  refine HCK.out.mono ?_
  rintro e w6 ⟨rfl, hb⟩
  have HN6 := Aside0.mk (blk_below HN5.out hb)
  have HL6 := Aside0.mk (HL5.out.below hb)
  have HB6 := Aside0.mk (below_then HB5.out HB5.out.size hb)
  clear x0 x1 x2 hb HN5 HL5 HB5 HCK
  have x0 := blk_cell HN6.out 0
  have x1 := blk_cell HN6.out 1
  simp only [List.getElem?_toArray, List.getElem?_cons_zero, List.getElem?_cons_succ] at x0 x1
  obtain ⟨ad, rfl, e1⟩ := at_I HL6.out.U 0 (by rw [s01_us]; decide)
  have e2 : w6.cell? (ad.add 0) = some (.int .i64 1) := by rw [e1]; simp only [s01_us, List.getElem_cons_zero]
  have e2 : w6.cell? ad = some (.int .i64 1) := by rwa [show ad.add 0 = ad from rfl] at e2
  clear e1
  go_wp2
  go_ret
  exact ⟨rfl, HB6.out⟩
end Go.Proofs.Ytblalidpeccabac.Pg
