/- slices.Insert of one number ahead of others: by the shelf's contracts. -/
import Derived.Test.YtblalidpeccabacSchedF
import Derived.Shelf.Spec.SlicesInsertGrow
import Derived.Laws.LoneSync
namespace Go.Proofs.Ytblalidpeccabac.Sd
open Go Go.RowKit Go.Lib Go.Shelf Go.Proofs.YtblalidpeccabacW Go.Proofs.YtblalidpeccabacW.PrintWords Go.Proofs.YtblalidpeccabacW.PrintLast Go.Proofs.YtblalidpeccabacW.PrintMore Go.Proofs.Ytblalidpeccabac.PSchedBack Go.Proofs.Ytblalidpeccabac.Bs
set_option linter.unusedVariables false
set_option linter.unusedSimpArgs false

def insRen : Go.Shelf.Ren := ⟨fun | 21 => 41 | 27 => 55 | 28 => 56 | 35 => 60 | 39 => 63 | n => n, fun | 22 => 23 | n => n, fun | n => n⟩
theorem insLays : Go.Proofs.Lays2.n21 Try.prog insRen := {
  mixed := by kernel_rfl
  f21 := Try.func41.trans (congrArg some (by kernel_rfl))
  f27 := Try.func55.trans (congrArg some (by kernel_rfl))
  f28 := Try.func56.trans (congrArg some (by kernel_rfl))
  f35 := Try.func60.trans (congrArg some (by kernel_rfl))
  f39 := Try.func63.trans (congrArg some (by kernel_rfl))
  t0 := Try.underlying0
  a0 := Try.isAgg0
  z0 := Try.sizeOf0
  v0 := Try.zeroValue0
  t3 := Try.underlying3
  a3 := Try.isAgg3
  z3 := Try.sizeOf3
  v3 := Try.zeroValue3
  t4 := Try.underlying4
  a4 := Try.isAgg4
  z4 := Try.sizeOf4
  v4 := Try.zeroValue4
  t22 := Try.underlying23
  a22 := Try.isAgg23
  z22 := Try.sizeOf23
  v22 := Try.zeroValue23
  i3 := infoInt }
theorem nums_one (xs : List Int) : ∀ v ∈ nums .i64 xs, v.oneCell' = true := fun v hv => by
  simp only [nums, List.mem_map] at hv
  obtain ⟨x, _, rfl⟩ := hv
  rfl
theorem gb_drew (w : World) (r : Option Nat) : w.grownBy w.drew r := gb_below r (below_drew1 (Below.refl _ _))
theorem gb_cells (w : World) (g o : Nat) (vs : List Value) : w.grownBy (w.setCells g o vs) (some g) :=
  ⟨(setCells_same g _ _ _).1, (setCells_same g _ _ _).2.1, (setCells_same g _ _ _).2.2.1, Nat.le_of_eq (setCells_same g _ _ _).2.2.2.symm, fun k _ hne => setCells_far _ _ _ (fun e => hne (by rw [e]))⟩
theorem list_mid (cur cs : List Value) (n i : Nat) (y : Value) (c1 c2 : List Value) (hn : n ≤ cur.length) (ht : cur.take n = cs) (hi : i ≤ n)
    (h1 : c1 = cur.take (i + 1) ++ cs.drop i ++ cur.drop (i + 1 + (cs.drop i).length)) (h2 : c2 = c1.take i ++ [y] ++ c1.drop (i + 1)) (hc : n + 1 ≤ cur.length) : c2.take (n + 1) = cs.take i ++ [y] ++ cs.drop i := by
  have hcl : cs.length = n := by rw [← ht, List.length_take]; omega
  have e1 : c1.take i = cs.take i := by
    rw [h1, List.append_assoc, List.take_append_of_le_length (by rw [List.length_take]; omega), List.take_take, ← ht, List.take_take]
    congr 1
    omega
  have e2 : c1.drop (i + 1) = cs.drop i ++ cur.drop (i + 1 + (cs.drop i).length) := by
    rw [h1, List.append_assoc]
    exact List.drop_left' (by rw [List.length_take]; omega)
  rw [h2, e1, e2, ← List.append_assoc]
  exact List.take_left' (by rw [List.length_append, List.length_append, List.length_take, List.length_drop]; simp; omega)
theorem list_new (row cs : List Value) (n i : Nat) (y : Value) (c1 c2 : List Value) (hcl : cs.length = n) (hi : i ≤ n) (hr : row.take i = cs.take i) (hrl : n + 1 ≤ row.length)
    (h1 : c1 = row.take i ++ [y] ++ row.drop (i + 1)) (h2 : c2 = c1.take (i + 1) ++ cs.drop i ++ c1.drop (i + 1 + (cs.drop i).length)) : c2.take (n + 1) = cs.take i ++ [y] ++ cs.drop i := by
  have e1 : c1.take (i + 1) = cs.take i ++ [y] := by
    rw [h1, hr]
    exact List.take_left' (by rw [List.length_append, List.length_take]; simp; omega)
  rw [h2, e1]
  exact List.take_left' (by rw [List.length_append, List.length_append, List.length_take, List.length_drop]; simp; omega)
set_option maxHeartbeats 4000000 in
theorem insert_mid (W : World) (base : Nat) (v : Value) (s : List Int) (i lb : Nat) (y : Int) (h : W.ownsRow base 3 1 v s.length (nums .i64 s)) (hi : i < s.length) (hb : base ≤ W.heap.size) (hl : W.heap[lb]? = some (.cells #[.int .i64 y] 3 (0, 0))) (hlg : v.ownBlock ≠ some lb) (hs : s.length ≤ 10000) :
    Calls Try.prog 41 #[v, .int .i64 (i : Int), .slice (some ⟨lb, 0, none⟩) 1 1] W fun e w' => ∃ v1, e = .returned v1 ∧ Inserted W w' base v v1 (s.take i ++ [y] ++ s.drop i) := by
  rcases h.2 with ⟨hv, hn⟩ | ⟨g, cap, cur, rfl, hbg, hh, hnc, hcm, hcs, htk⟩
  · omega
  have hcs1 : cur.size = cap := by rw [hcs]; exact Nat.mul_one cap
  rw [Nat.mul_one] at htk
  have hlg2 : lb ≠ g := fun e => hlg (by rw [e]; rfl)
  have hnl : (nums .i64 s).length = s.length := by simp [nums]
  have hcell : ∀ j u, (nums .i64 s)[j]? = some u → W.cell? ⟨g, 0 + j, none⟩ = some u := fun j u hj => by
    rw [Nat.zero_add, blk_cell hh, ← Array.getElem?_toList, ← hj, ← htk, List.getElem?_take]
    rw [if_pos (by have := (List.getElem?_eq_some_iff.1 hj).1; rw [hnl] at this; exact this)]
  have hvs : ∀ j u, [Value.int .i64 y][j]? = some u → W.cell? ⟨lb, 0 + j, none⟩ = some u := fun j u hj => by
    match j, hj with
    | 0, hj => rw [blk_cell hl]; simpa using hj
  have h1v : ∀ u ∈ [Value.int .i64 y], u.oneCell' = true := fun u hu => by rw [List.mem_singleton.1 hu]; rfl
  have hmid : nums .i64 (s.take i ++ [y] ++ s.drop i) = (nums .i64 s).take i ++ [Value.int .i64 y] ++ (nums .i64 s).drop i := by simp [nums]
  have hlen2 : (s.take i ++ [y] ++ s.drop i).length = s.length + 1 := by simp; omega
  have hdl : ((nums .i64 s).drop i).length = s.length - i := by rw [List.length_drop, hnl]
  by_cases hroom : s.length + 1 ≤ cap
  · have h0 : W.cell? ⟨g, 0, none⟩ = some (nums .i64 s)[0] := hcell 0 _ (List.getElem?_eq_getElem (by rw [hnl]; omega))
    obtain ⟨tB, kB, hsb, hkB, _⟩ := World.shape?_of_cell? h0
    obtain ⟨tA, kA, hsa, _, _⟩ := World.shape?_of_cell? (show W.cell? ⟨lb, 0, none⟩ = some (.int .i64 y) from hvs 0 _ rfl)
    refine (Any2.slices_Insert_int_shift insLays g 0 s.length cap i lb 0 1 1 (nums .i64 s) [.int .i64 y] W hi (by decide) hroom (by unfold maxLen at hcm; omega) hlg2 hnl rfl hcell (fun j hj => by
      rw [Nat.zero_add, blk_cell hh, Array.getElem?_eq_getElem (by omega)]; rfl) (fun j hj => blk_frozen hh _) hvs (nums_one s) h1v tA tB kA kB hsa hsb (Nat.pos_iff_ne_zero.1 (Nat.lt_of_le_of_lt (Nat.zero_le _) hkB)) (blk_frozen hl _) (blk_frozen hl _)).mono ?_
    rintro e w' ⟨rfl, rfl⟩
    simp only [Nat.zero_add]
    have hh2 : W.drew.heap[g]? = some (.cells cur 3 (0, 0)) := hh
    obtain ⟨c1, k1, k2, k3⟩ := setCells_row ((nums .i64 s).drop i) (i + 1) W.drew cur hh2 (by rw [hdl]; omega)
    obtain ⟨c2, k4, k5, k6⟩ := setCells_row [Value.int .i64 y] i (W.drew.setCells g (i + 1) ((nums .i64 s).drop i)) c1 k1 (by rw [k2]; show i + 1 ≤ _; omega)
    refine ⟨_, rfl, ⟨by simp [nums], .inr ⟨g, cap, c2, by rw [hlen2], hbg, k4, by rw [hlen2]; exact hroom, hcm, by rw [k5, k2]; exact hcs, ?_⟩⟩, ?_, .inl rfl⟩
    · rw [hlen2, Nat.mul_one, hmid]
      exact list_mid cur.toList _ s.length i _ c1.toList c2.toList (show s.length ≤ cur.size by omega) htk (by omega) k3 k6 (show s.length + 1 ≤ cur.size by omega)
    · exact gb_trans (gb_drew W _) (gb_trans (gb_cells _ g _ _) (gb_cells _ g _ _))
  · refine (Any2.slices_Insert_int_grow insLays g 0 s.length cap i lb 0 1 1 (nums .i64 s) [.int .i64 y] W hi (by decide) hnc (by omega) (by omega) hnl rfl hcell hvs (nums_one s) h1v).mono ?_
    rintro e w' ⟨rfl, rfl⟩
    obtain ⟨G, hG⟩ : ∃ G, G = grownCap W (s.length + 1) cap (insRen.t 3) := ⟨_, rfl⟩
    have hG1 : s.length + 1 ≤ G := by rw [hG]; exact grownCap_ge _ _ _ _
    have hG2 : G ≤ maxLen := by rw [hG]; exact grownCap_le_maxLen _ _ _ _ (by unfold maxLen; omega)
    rw [← hG]
    obtain ⟨ROW, hROW⟩ : ∃ ROW : Array Value, ROW = ((nums .i64 s).take i).toArray ++ Builtin.zeroCells (Value.int .i64 0).cells (s.length + 1 - i) ++ Builtin.zeroCells (Value.int .i64 0).cells (G - (s.length + 1)) := ⟨_, rfl⟩
    have hRs : ROW.size = G := by rw [hROW]; simp [Builtin.zeroCells, Value.cells, nums]; omega
    have hRt : ROW.toList.take i = (nums .i64 s).take i := by
      rw [hROW]
      simp only [Array.toList_append, List.append_assoc]
      exact List.take_left' (by rw [List.length_take, hnl]; omega)
    rw [← hROW]
    have hn0 : (W.alloc (.cells ROW (insRen.t 3))).drew.heap[W.heap.size]? = some (.cells ROW 3 (0, 0)) := heap_alloc_new W _
    obtain ⟨c1, k1, k2, k3⟩ := setCells_row [Value.int .i64 y] i (W.alloc (.cells ROW (insRen.t 3))).drew ROW hn0 (by rw [hRs]; show i + 1 ≤ _; omega)
    obtain ⟨c2, k4, k5, k6⟩ := setCells_row ((nums .i64 s).drop i) (i + 1) ((W.alloc (.cells ROW (insRen.t 3))).drew.setCells W.heap.size i [Value.int .i64 y]).drew c1 k1 (by rw [k2, hRs, hdl]; omega)
    refine ⟨_, rfl, ⟨by simp [nums], .inr ⟨W.heap.size, G, c2, by rw [hlen2], hb, k4, by rw [hlen2]; exact hG1, hG2, by rw [k5, k2, hRs, Nat.mul_one], ?_⟩⟩, ?_, .inr ⟨_, rfl, Nat.le_refl _⟩⟩
    · rw [hlen2, Nat.mul_one, hmid]
      exact list_new ROW.toList _ s.length i _ c1.toList c2.toList hnl (by omega) hRt (show s.length + 1 ≤ ROW.size by omega) k3 k6
    · have hbel : Below W.heap.size W (((W.alloc (.cells ROW (insRen.t 3))).drew.setCells W.heap.size i [Value.int .i64 y]).drew.setCells W.heap.size (i + 1) ((nums .i64 s).drop i)) := by
        have h1 := below_drew1 (below_alloc (Below.refl W.heap.size W) (.cells ROW (insRen.t 3)))
        have h2 := Below.grown h1 (gb_cells (W.alloc (.cells ROW (insRen.t 3))).drew W.heap.size i [Value.int .i64 y]) h1.size (fun k hk => by cases hk; exact Nat.le_refl _)
        have h3 := below_drew1 h2
        exact Below.grown h3 (gb_cells _ W.heap.size (i + 1) ((nums .i64 s).drop i)) h3.size (fun k hk => by cases hk; exact Nat.le_refl _)
      exact gb_below _ hbel
end Go.Proofs.Ytblalidpeccabac.Sd
