/- slice.on: its walk. -/
import Derived.Test.YtblalidpeccabaaSliceF
import Derived.Test.YtblalidpeccabaaRegionTwo
import Derived.Laws.MakeOwn
import Derived.RangeFuncBox
import Derived.RangeFuncNested
namespace Go.Proofs.Ytblalidpeccabaa.Sm
open Go Go.RowKit Go.Lib Go.Proofs.YtblalidpeccabaaW.PrintWords Go.Proofs.YtblalidpeccabaaW.PrintLast Go.Proofs.YtblalidpeccabaaW.PrintMore Go.Proofs.Ytblalidpeccabaa.PHuntParts Go.Proofs.Ytblalidpeccabaa.Sc Go.Proofs.Ytblalidpeccabaa.Bs Go.Proofs.Ytblalidpeccabaa.RegionVal
set_option linter.unusedVariables false
set_option linter.unusedSimpArgs false

theorem se_store {P : Program} {L : List Oper} {S : World → Prop} {a0 : Act} {K : List (Nat × Value) → World → Prop} {env : List (Nat × Value)} {rest : List (Nat × Bool)} {i : Nat} {w w' : World} {T : TypeId} {pos : String} {after : Array Edge} {g : Option (Nat × Bool)} {op : Op}
    (ho : want.nthO L i = some ⟨none, op, T, pos, after, g⟩) (hg : want L a0 env g = some true) (hr : (execOp (ev a0 env) ⟨none, op, T, pos, after, g⟩).run P w = .ok .skip w') (hS : S w') (h : SeqE P L S a0 K rest env w') : SeqE P L S a0 K ((i, true) :: rest) env w :=
  ⟨_, ho, .inl ⟨hg, by rw [hr]; exact ⟨hS, h⟩⟩⟩

theorem makeB (n : Nat) (hn : n ≤ 1000) (W : World) : Sem.run Try.prog (Instr.makeSlice 57 (.int .i64 (n : Int)) (.int .i64 (n : Int))) W = .ok (.slice (some ⟨W.heap.size, 0, none⟩) n n) (W.alloc (.cells (bools (List.replicate n false)).toArray 4)) := by
  obtain ⟨i0, hi, hz0, hz1, hz2⟩ := info_parts info4
  have h := run_make W 57 4 i0 (.bool false) Try.underlying57 hi hz0 .i64 .i64 (n : Int) (n : Int) (by omega) (by omega) (by rw [hz2]; omega) (by omega)
  rw [hz1] at h
  simp only [Int.toNat_natCast, Nat.mul_one] at h
  rw [show madeCells (Value.bool false).cells n = (bools (List.replicate n false)).toArray by
    apply Array.ext
    · simp [madeCells, bools]
    · intro i h1 h2
      simp only [madeCells, bools, Value.cells, Array.getElem_map, Array.getElem_range, List.getElem_toArray, List.getElem_map, List.getElem_replicate]
      rw [show (#[Value.bool false] : Array Value).size = 1 from rfl, Nat.mod_one]
      rfl] at h
  exact h

/-- slice.on's closure: is a place in the set? -/
theorem on1_asks (w : World) (g b : Nat) (n : Nat) (inn : List Bool) (xs : List Int) (hl : inn.length = n) (hn : n ≤ 1000) (hb : Boxed w b 57 (.slice (some ⟨g, 0, none⟩) n n)) (hg : w.heap[g]? = some (.cells (bools inn).toArray 4 (0, 0)))
    (hx : ∀ x ∈ xs, 0 ≤ x ∧ x < (n : Int)) : Asks 42 #[.pointer (some ⟨b, 0, none⟩)] w (Value.int .i64) xs (fun x => inn.getD x.toNat false) := by
  refine ⟨fun args w => enters_ Try.func42 (by kernel_rfl) rfl args w, fun x hxx W hW => ?_⟩
  have hb1 : W.cell? ⟨b, 0, none⟩ = some (.slice (some ⟨g, 0, none⟩) n n) := Boxed.cell ((hW.block _ hb.lt).trans hb)
  obtain ⟨h0, h1⟩ := hx x hxx
  obtain ⟨j, rfl⟩ : ∃ j : Nat, x = (j : Int) := ⟨x.toNat, by omega⟩
  have hj : j < inn.length := by omega
  have hc : W.cell? ⟨g, j, none⟩ = some (.bool (inn.getD j false)) := by
    rw [blk_cell (blk_below hg hW) j]
    simp [bools, hj, List.getD_eq_getElem?_getD]
  show Calls Try.prog 42 #[.int .i64 (j : Int), .pointer (some ⟨b, 0, none⟩)] W _
  rw [Int.toNat_natCast]
  generalize inn.getD j false = q at hc ⊢
  clear hb hg hx hxx hW
  go_enter Try.func42, Try.ntmps42
  go_wp2
  go_ret
  exact ⟨rfl, Below.refl _ _⟩

theorem bools_set (xs : List Bool) (i : Nat) (b : Bool) : (bools xs).toArray.setIfInBounds i (.bool b) = (bools (xs.set i b)).toArray := by
  rw [List.setIfInBounds_toArray]; unfold bools; rw [List.map_set]

set_option maxHeartbeats 8000000 in
set_option maxRecDepth 100000 in
theorem on_calls (w : World) (A : Option Addr) (c : Nat) (l : List S35) (i : Nat) (hr : Kd.C k35 w A l.length l) (hc : l.length ≤ c) (hf : Sc.Form (us l)) (hl : l.length ≤ 200) (hi : i < l.length) :
    Calls Try.prog 30 #[.slice A l.length c, .int .i64 (i : Int)] w fun e w' => e = .returned (.slice (some ⟨w.heap.size, 0, none⟩) l.length l.length) ∧
      w'.heap[w.heap.size]? = some (.cells (bools (onF (us l) i)).toArray 4 (0, 0)) ∧ Below w.heap.size w w' := by
  have HR := Aside0.mk hr
  have HF := Aside0.mk hf
  have hmk := makeB l.length (by omega)
  have hi1 : (i : Int) < (l.length : Int) := by omega
  clear hr hf
  have n1 := World.alloc_heap_new w (.cells (bools (List.replicate l.length false)).toArray 4)
  have n2 := blk_alloc n1 (.cells #[.slice (some ⟨w.heap.size, 0, none⟩) l.length l.length] 57)
  have hcell := blk_cell n2 i
  have hci : (bools (List.replicate l.length false)).toArray[i]? = some (.bool false) := by simp [bools, hi]
  rw [hci] at hcell
  have hfro := blk_frozen n2 i
  have m1 := World.alloc_heap_new w (.cells ((bools (List.replicate l.length false)).set i (.bool true)).toArray 4)
  have m2 := blk_alloc m1 (.cells #[.slice (some ⟨w.heap.size, 0, none⟩) l.length l.length] 57)
  rw [show (bools (List.replicate l.length false)).set i (.bool true) = bools ((List.replicate l.length false).set i true) by unfold bools; rw [List.map_set]] at m2
  have HN3 := Aside0.mk m2
  have HBX := Aside0.mk (show Boxed ((w.alloc (.cells (bools ((List.replicate l.length false).set i true)).toArray 4)).alloc (.cells #[.slice (some ⟨w.heap.size, 0, none⟩) l.length l.length] 57)) (w.heap.size + 1) 57 (.slice (some ⟨w.heap.size, 0, none⟩) l.length l.length) by
    have := World.alloc_heap_new (w.alloc (.cells (bools ((List.replicate l.length false).set i true)).toArray 4)) (.cells #[.slice (some ⟨w.heap.size, 0, none⟩) l.length l.length] 57)
    rwa [World.size_alloc] at this)
  have HB0 := Aside0.mk (below_alloc (below_alloc (Below.refl w.heap.size w) (.cells (bools ((List.replicate l.length false).set i true)).toArray 4)) (.cells #[.slice (some ⟨w.heap.size, 0, none⟩) l.length l.length] 57))
  clear n1 n2 m1 m2 hci
  go_enter Try.func30, Try.ntmps30
  go_wp2_with fail
  rw [show (bools (List.replicate l.length false)).set i (.bool true) = bools ((List.replicate l.length false).set i true) by unfold bools; rw [List.map_set]]
  clear hcell hfro hmk
  generalize ((w.alloc (.cells (bools ((List.replicate l.length false).set i true)).toArray 4)).alloc (.cells #[.slice (some ⟨w.heap.size, 0, none⟩) l.length l.length] 57)) = w1 at HN3 HBX HB0 ⊢
  go_loopw [6] (fun q wr => ∃ (k : Nat) (inn : List Bool), k ≤ l.length ∧ i < k ∧ q = .int .i64 (k : Int) ∧ inn.length = l.length ∧ Aside0 (onL (us l) (l.length - k) k inn = onF (us l) i) ∧
      Aside0 (wr.heap[w.heap.size]? = some (.cells (bools inn).toArray 4 (0, 0))) ∧ Aside0 (Boxed wr (w.heap.size + 1) 57 (.slice (some ⟨w.heap.size, 0, none⟩) l.length l.length)) ∧ Aside0 (Below w.heap.size w wr)) (fun q _ => l.length - (intOf q).toNat)
  case atStart => exact ⟨i + 1, (List.replicate l.length false).set i true, by omega, by omega, by go_num, by simp, ⟨by unfold onF; rw [us_length]⟩, HN3, HBX, HB0⟩
  case round =>
    obtain ⟨k, inn, hk, hik, rfl, hin, HE, HG, HX, HB⟩ := hrel
    clear HN3 HBX HB0
    by_cases hlt : k < l.length
    · have hk1 : (k : Int) < (l.length : Int) := by omega
      obtain ⟨ad, A0, c0, rfl, h0, hl0, hC0⟩ := at_T35 HR.out (k : Int) (by omega) (by omega)
      have hrd : rd_T35 l (k : Int) = l[k] := by simp [rd_T35, List.getD_eq_getElem?_getD, hlt]
      rw [hrd] at h0 hl0 hC0
      rw [Int.toNat_natCast] at h0
      obtain ⟨xs, hxs⟩ : ∃ xs, xs = l[k].f0 := ⟨_, rfl⟩
      rw [← hxs] at h0 hl0 hC0
      have HU := Aside0.mk (show use (us l) k = xs by rw [use_us hlt, hxs])
      have HC0 := Aside0.mk hC0
      have HH0 := Aside0.mk h0
      have had := World.block_lt_of_cell? w _ h0
      have HXS := Aside0.mk (show ∀ x ∈ xs, 0 ≤ x ∧ x < (l.length : Int) from fun x hx => by have := HF.out k (by rw [us_length]; exact hlt) x (by rw [HU.out]; exact hx); omega)
      clear hrd hxs hC0
      go_wp2_with fail
      have wg : w.heap.size < wr.heap.size := blk_lt HG.out
      refine wp_eff (S := fun w' => Boxed w' (w.heap.size + 1) 57 (.slice (some ⟨w.heap.size, 0, none⟩) l.length l.length) ∧ Below w.heap.size w w')
        [(0, false), (1, false), (2, false), (3, false), (4, false), (5, false), (6, false), (7, false), (8, true), (9, false), (10, true)] (by kernel_rfl) (by kernel_rfl) ⟨HX.out, below_drew1 HB.out⟩ (fun _ _ d _ _ h => by cases d <;> exact h) ?_
      refine se_un rfl rfl rfl rfl rfl (fun w' hw => by have q := hw.1.cell; go_simp; with_reducible rfl) ?_
      refine se_move rfl rfl rfl ?_
      refine se_move rfl rfl rfl ?_
      refine se_move rfl rfl rfl ?_
      refine se_indexAddr rfl rfl rfl rfl (fun w' hw => by go_simp; with_reducible rfl) ?_
      refine se_un rfl rfl rfl rfl rfl (fun w' hw => by go_simp; with_reducible rfl) ?_
      refine se_un rfl rfl rfl rfl rfl (fun w' hw => by have q := (hw.2.cell had).trans h0; go_simp; with_reducible rfl) ?_
      refine se_gen (v := .func (.func 42) #[] #[.pointer (some ⟨w.heap.size + 1, 0, none⟩)]) rfl rfl (fun w' hw => by
        simp only [execOp, List.map_toArray, List.map_cons, List.map_nil]
        rw [ev_of (v := .pointer (some ⟨w.heap.size + 1, 0, none⟩)) rfl]
        go_simp) ?_
      refine se_call (vs := [.slice A0 xs.length c0, .func (.func 42) #[] #[.pointer (some ⟨w.heap.size + 1, 0, none⟩)]]) rfl rfl Try.func38 (by kernel_rfl) rfl (by kernel_rfl) ?_
      refine (containsI_calls _ A0 c0 xs 42 #[.pointer (some ⟨w.heap.size + 1, 0, none⟩)] (fun x => inn.getD x.toNat false) (Kd.C_below HC0.out (below_drew1 HB.out)) hl0 (on1_asks _ w.heap.size (w.heap.size + 1) l.length inn xs hin (by omega) HX.out HG.out HXS.out)).mono ?_
      rintro e w3 ⟨rfl, hb⟩
      have hq : xs.any (fun x => inn.getD x.toNat false) = anyIn inn (use (us l) k) := by rw [HU.out]; rfl
      rw [hq]
      obtain ⟨q, hqq⟩ : ∃ q, q = anyIn inn (use (us l) k) := ⟨_, rfl⟩
      rw [← hqq]
      have hb3 : Below w.heap.size w w3 := below_then (below_drew1 HB.out) (below_drew1 HB.out).size hb
      have hx3 : Boxed w3 (w.heap.size + 1) 57 (.slice (some ⟨w.heap.size, 0, none⟩) l.length l.length) := (hb.block _ HX.out.lt).trans HX.out
      have hg3 : w3.heap[w.heap.size]? = some (.cells (bools inn).toArray 4 (0, 0)) := blk_below (blk_drew HG.out) hb
      refine ⟨_, rfl, ⟨hx3, hb3⟩, ?_⟩
      have hgc := blk_cell hg3 k
      rw [show (bools inn).toArray[k]? = some (.bool (inn.getD k false)) by simp [bools, hin, hlt, List.getD_eq_getElem?_getD]] at hgc
      have hgf := blk_frozen hg3 k
      refine se_indexAddr rfl rfl rfl rfl (fun w' hw => by go_simp; with_reducible rfl) ?_
      have hS4 : Boxed (w3.setCell ⟨w.heap.size, k, none⟩ (.bool q)) (w.heap.size + 1) 57 (.slice (some ⟨w.heap.size, 0, none⟩) l.length l.length) ∧ Below w.heap.size w (w3.setCell ⟨w.heap.size, k, none⟩ (.bool q)) :=
        ⟨blk_far hx3 (p := ⟨w.heap.size, k, none⟩) (Nat.succ_ne_self _) _, hb3.setCell (p := ⟨w.heap.size, k, none⟩) (Nat.le_refl _) _⟩
      refine se_store (w' := w3.setCell ⟨w.heap.size, k, none⟩ (.bool q)) rfl rfl (by
        simp only [execOp]
        rw [ev_of (v := .pointer (some ⟨w.heap.size, k, none⟩)) rfl, ev_of (v := .bool q) rfl]
        go_simp) hS4 ?_
      intro _
      simp only [puts, Act.put, List.setIfInBounds_toArray, List.set_cons_zero, List.set_cons_succ]
      have hg4 := blk_put hg3 k (.bool q) (bools_set inn k q)
      have HG4 := Aside0.mk hg4
      have HX4 := Aside0.mk hS4.1
      have HB4 := Aside0.mk hS4.2
      have HE4 := Aside0.mk (show onL (us l) (l.length - (k + 1)) (k + 1) (inn.set k q) = onF (us l) i by
        have := HE.out
        rw [show l.length - k = (l.length - (k + 1)) + 1 by omega, onL] at this
        rw [hqq]; exact this)
      clear hgc hgf hS4 hg4 hg3 hx3 hb3 hq hqq hb
      go_wp2
      go_roundw
      case rel => exact ⟨k + 1, inn.set k q, by omega, by omega, by go_num, by rw [List.length_set]; exact hin, HE4, HG4, HX4, HB4⟩
      case measure => simp [intOf]; omega
    · have hk' : k = l.length := by omega
      subst hk'
      have hb := HX.out.cell
      have HEE := Aside0.mk (show inn = onF (us l) i by have := HE.out; rw [Nat.sub_self] at this; exact this)
      go_wp2
      go_ret
      exact ⟨rfl, by rw [← HEE.out]; exact HG.out, HB.out⟩
end Go.Proofs.Ytblalidpeccabaa.Sm
