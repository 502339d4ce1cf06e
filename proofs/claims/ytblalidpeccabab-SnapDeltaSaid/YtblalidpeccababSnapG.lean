/- snap.Delta in plain words; snap.Patched: its walk. -/
import Derived.Test.YtblalidpeccababSnapF
import Derived.Test.YtblalidpeccababSnapP
import Derived.Laws.CopyOwn
import Derived.Laws.MakeOwn
namespace Go.Proofs.Ytblalidpeccabab.Sn
open Go.Proofs.YtblalidpeccababW
open Go Go.RowKit Go.Lib Go.Proofs.YtblalidpeccababW.PrintWords Go.Proofs.YtblalidpeccababW.PrintLast Go.Proofs.YtblalidpeccababW.PrintMore Go.Proofs.Ytblalidpeccabab.PSnapDelta Go.Proofs.Ytblalidpeccabab.Bs
set_option linter.unusedVariables false
set_option linter.unusedSimpArgs false

theorem delta_calls (w : World) (A : Option Addr) (c : Nat) (a : List Int) (B : Option Addr) (d : Nat) (b : List Int) (hr : Kd.C (Kd.int .i64) w A a.length a) (hc : a.length ≤ c) (hb : Kd.C (Kd.int .i64) w B b.length b) (hd : b.length ≤ d) (ha : a.length ≤ 100000) (hbl : b.length ≤ 100000) :
    Calls Try.prog 14 #[.slice A a.length c, .slice B b.length d] w fun e w' => ∃ A' c', e = .returned (.slice A' (deltaF a b).length c') ∧ (deltaF a b).length ≤ c' ∧ Kd.C k60 w' A' (deltaF a b).length (deltaF a b) ∧ Below w.heap.size w w' :=
  (snap_Delta.calls _ A c a B d b _ w hr hc hb hd (delta_f a b ha hbl)).mono fun e w' ⟨v, he, hR, hb⟩ => by
    obtain ⟨A', c', hv, h1, h2⟩ := Kd.R_reads hR
    exact ⟨A', c', by rw [he, hv], h1, h2, hb⟩
theorem makeI (n : Nat) (hn : n ≤ 100000) (W : World) : Sem.run Try.prog (Instr.makeSlice 31 (.int .i64 (n : Int)) (.int .i64 (n : Int))) W = .ok (.slice (some ⟨W.heap.size, 0, none⟩) n n) (W.alloc (.cells (nums .i64 (List.replicate n 0)).toArray 3)) := by
  obtain ⟨i0, hi, hz0, hz1, hz2⟩ := info_parts infoInt
  have h := run_make W 31 3 i0 (.int .i64 0) Try.underlying31 hi hz0 .i64 .i64 (n : Int) (n : Int) (by omega) (by omega) (by rw [hz2]; omega) (by omega)
  rw [hz1] at h
  simp only [Int.toNat_natCast, Nat.mul_one] at h
  rw [show madeCells (Value.int IntKind.i64 0).cells n = (nums .i64 (List.replicate n 0)).toArray by
    apply Array.ext
    · simp [madeCells, nums]
    · intro i h1 h2
      simp only [madeCells, nums, Value.cells, Array.getElem_map, Array.getElem_range, List.getElem_toArray, List.getElem_map, List.getElem_replicate]
      rw [show (#[Value.int IntKind.i64 0] : Array Value).size = 1 from rfl, Nat.mod_one]
      rfl] at h
  exact h
theorem splice_base (n : Nat) (a : List Int) : splice (nums .i64 (List.replicate n 0)) 0 (nums .i64 (a.take (min a.length n))) = nums .i64 (base n a) := by
  unfold splice nums base
  rw [List.take_zero, List.nil_append, Nat.zero_add, List.length_map, ← List.map_drop, ← List.map_append]
  congr 1
  apply List.ext_getElem?
  intro j
  rw [List.length_take]
  by_cases h1 : j < min (min a.length n) a.length
  · rw [List.getElem?_append_left (by rw [List.length_take]; omega)]
    simp [List.getD_eq_getElem?_getD, show j < n by omega, List.getElem?_take, show j < min a.length n by omega, show j < a.length by omega]
  · rw [List.getElem?_append_right (by rw [List.length_take]; omega), List.length_take, List.drop_replicate, List.getElem?_replicate]
    by_cases h2 : j < n
    · rw [if_pos (by omega)]
      simp [h2, List.getD_eq_getElem?_getD, show a.length ≤ j by omega]
    · rw [if_neg (by omega), List.getElem?_eq_none (by simp; omega)]
theorem nums_set (ys : List Int) (j : Nat) (v : Int) : (nums .i64 ys).toArray.setIfInBounds j (.int .i64 v) = (nums .i64 (ys.set j v)).toArray := by
  rw [List.setIfInBounds_toArray]; unfold nums; rw [List.map_set]

/-- copy(out, a), out being zeros of one's own -/
theorem copy_run (w w0 : World) (g : Nat) (A : Option Addr) (c : Nat) (a : List Int) (n : Nat) (hk : w.heap[g]? = some (.cells (nums .i64 (List.replicate n 0)).toArray 3 (0, 0))) (hr : ReadsInt w .i64 A a.length a) (hb : Below w0.heap.size w0 w) (hg : w0.heap.size ≤ g) :
    ∃ v w2, Sem.run Try.prog (Builtin.copy_ #[31, 31] 3 #[.slice (some ⟨g, 0, none⟩) n n, .slice A a.length c]) w = .ok v w2 ∧ w2.heap[g]? = some (.cells (nums .i64 (base n a)).toArray 3 (0, 0)) ∧ Below w0.heap.size w0 w2 := by
  have hsp := splice_base n a
  have hlen : (nums .i64 (a.take (min a.length n))).length = Nat.min a.length n := by
    simp only [nums, List.length_map, List.length_take]
    exact Nat.min_eq_left (Nat.min_le_left _ _)
  by_cases h0 : Nat.min a.length n = 0
  · refine ⟨_, w, run_copy_none (P := Try.prog) w 31 31 3 3 _ A n n a.length c Try.underlying31 (by kernel_rfl) h0, ?_, hb⟩
    have e : nums .i64 (a.take (min a.length n)) = [] := List.eq_nil_of_length_eq_zero (by rw [hlen, h0])
    rw [e] at hsp
    rw [hk, ← hsp]
    simp [splice]
  · have hpos : 0 < a.length := by
      rcases Nat.eq_zero_or_pos a.length with h | h
      · exact absurd (by rw [h]; exact Nat.zero_min n) h0
      · exact h
    obtain ⟨ad, rfl, h2⟩ := hr.2.2 hpos
    refine ⟨_, _, run_copy_row (P := Try.prog) w 31 31 3 3 g 0 n n ad a.length c (nums .i64 (List.replicate n 0)).toArray 3 (nums .i64 (a.take (min a.length n))) Try.underlying31 (by kernel_rfl) hk hlen (fun j v hj => ?_) (by rw [Nat.zero_add, hlen]; simp [nums]; exact Nat.min_le_right _ _) (by intro v hv; simp only [nums, List.mem_map] at hv; obtain ⟨q, _, rfl⟩ := hv; rfl), ?_, below_setRow hb hg _⟩
    · simp only [nums, List.getElem?_map, Option.map_eq_some_iff] at hj
      obtain ⟨x, hx, rfl⟩ := hj
      have hjl : j < a.length := by
        have := (List.getElem?_eq_some_iff.1 hx).1
        rw [List.length_take] at this
        omega
      refine (h2 j hjl).trans ?_
      rw [List.getElem?_take] at hx
      split at hx
      · rw [List.getD_eq_getElem?_getD, hx]; rfl
      · cases hx
    · have := setRow_heap w g (nums .i64 (List.replicate n 0)).toArray ((nums .i64 (List.replicate n 0)).take 0 ++ nums .i64 (a.take (min a.length n)) ++ (nums .i64 (List.replicate n 0)).drop (0 + (nums .i64 (a.take (min a.length n))).length)).toArray 3 _ hk
      rw [← hsp]
      unfold splice
      rw [← List.append_assoc]
      exact this

set_option maxHeartbeats 8000000 in
set_option maxRecDepth 100000 in
theorem patched_calls (w : World) (A : Option Addr) (c : Nat) (a : List Int) (n : Nat) (B : Option Addr) (d : Nat) (l : List S60) (hr : Kd.C (Kd.int .i64) w A a.length a) (hc : a.length ≤ c) (hn : n ≤ 20000) (hb : Kd.C k60 w B l.length l) (hd : l.length ≤ d) (hf : Fit n l) (hl : l.length ≤ 100000) :
    Calls Try.prog 15 #[.slice A a.length c, .int .i64 (n : Int), .slice B l.length d] w fun e w' => ∃ A' c', e = .returned (.tuple #[.slice A' n c', .int .i64 0]) ∧ n ≤ c' ∧ Kd.C (Kd.int .i64) w' A' n (patchF n a l) ∧ Below w.heap.size w w' := by
  have HR := Aside0.mk hr
  have HBL := Aside0.mk hb
  have HF := Aside0.mk hf
  have hmk := makeI n (by omega)
  have q0 : decide ((n : Int) < 0) = false := decide_eq_false (by omega)
  have q1 : decide (20000 < (n : Int)) = false := decide_eq_false (by omega)
  have HB0 := Aside0.mk (below_alloc (Below.refl w.heap.size w) (.cells (nums .i64 (List.replicate n 0)).toArray 3))
  have HK0 := Aside0.mk (heap_alloc_new w (.cells (nums .i64 (List.replicate n 0)).toArray 3))
  obtain ⟨v2, w2, hcp, hk2, hb2⟩ := copy_run (w.alloc (.cells (nums .i64 (List.replicate n 0)).toArray 3)) w w.heap.size A c a n HK0.out ((reads_of hr).below HB0.out) HB0.out (Nat.le_refl _)
  have HK2 := Aside0.mk hk2
  have HB2 := Aside0.mk hb2
  clear hk2 hb2
  clear hr hb hf
  go_enter Try.func15, Try.ntmps15
  go_wp2_with fail
  clear hcp hmk
  obtain ⟨g, hg⟩ : ∃ g, g = w.heap.size := ⟨_, rfl⟩
  have HG := Aside0.mk (Nat.le_of_eq hg.symm)
  rw [← hg] at HK2 ⊢
  clear hg HK0 HB0
  go_loopw [9, 25] (fun x i wr => ∃ (k : Nat) (y : Int), k ≤ l.length ∧ i = .int .i64 (k : Int) ∧ x = .int .i64 y ∧ Aside0 (∀ p ∈ l.drop k, y < p.f0) ∧ Aside0 (wr.heap[g]? = some (.cells (nums .i64 ((l.take k).foldl putD (base n a))).toArray 3 (0, 0))) ∧ Aside0 (Below w.heap.size w wr)) (fun _ i _ => l.length - (intOf i).toNat)
  case atStart => exact ⟨0, -1, Nat.zero_le _, rfl, rfl, ⟨fun p hp => by have := HF.out.2 p (by simpa using hp); omega⟩, ⟨by rw [List.take_zero]; exact HK2.out⟩, HB2⟩
  case round =>
    obtain ⟨k, y, hk, rfl, rfl, HLA, HK, HB⟩ := hrel
    clear HK2 HB2
    by_cases hlt : k < l.length
    · have hk1 : (k : Int) < (l.length : Int) := by omega
      obtain ⟨ad, rfl, e0, e1⟩ := at_T60 (Kd.C_below HBL.out HB.out) (k : Int) (by omega) (by omega)
      have hrd : rd_T60 l (k : Int) = l[k] := by simp [rd_T60, List.getD_eq_getElem?_getD, hlt]
      rw [hrd, Int.toNat_natCast] at e0 e1
      have hp := HF.out.2 l[k] (List.getElem_mem _)
      have hy := HLA.out l[k] (by rw [List.drop_eq_getElem_cons hlt]; exact List.mem_cons_self)
      have HTK := Aside0.mk (show (l.take (k + 1)).foldl putD (base n a) = putD ((l.take k).foldl putD (base n a)) l[k] by rw [List.take_succ_eq_append_getElem hlt, List.foldl_append]; rfl)
      have HNX := Aside0.mk (show ∀ q ∈ l.drop (k + 1), l[k].f0 < q.f0 from fun q hq => by
        obtain ⟨j, hj, rfl⟩ := List.getElem_of_mem hq
        rw [List.length_drop] at hj
        rw [List.getElem_drop]
        exact List.pairwise_iff_getElem.1 HF.out.1 k (k + 1 + j) hlt (by omega) (by omega))
      generalize l[k] = p at e0 e1 hp hy HTK HNX
      obtain ⟨i, v⟩ := p
      simp only at e0 e1 hp hy HNX
      obtain ⟨j, rfl⟩ : ∃ j : Nat, i = (j : Int) := ⟨i.toNat, by omega⟩
      have hj : j < n := by omega
      have q3 : decide ((j : Int) ≤ y) = false := decide_eq_false (by omega)
      have q4 : decide ((n : Int) ≤ (j : Int)) = false := decide_eq_false (by omega)
      have hjn : (j : Int) < (n : Int) := by omega
      obtain ⟨ys, hys⟩ : ∃ ys, ys = (l.take k).foldl putD (base n a) := ⟨_, rfl⟩
      have hyl : ys.length = n := by rw [hys, fold_length, base_length]
      rw [← hys] at HK HTK
      have HKA := Aside0.mk (blk_alloc HK.out (.cells #[.int .i64 (j : Int), .int .i64 v] 60))
      have hcell := blk_cell HKA.out j
      rw [show (nums .i64 ys).toArray[j]? = some (.int .i64 (ys.getD j 0)) by simp [nums, List.getD_eq_getElem?_getD, show j < ys.length by omega]] at hcell
      have hfro := blk_frozen HKA.out j
      have HYL := Aside0.mk hyl
      generalize ys.getD j 0 = old at hcell
      clear hrd hp hy hys hyl
      go_wp2_with fail
      go_roundw
      case rel => exact ⟨k + 1, (j : Int), by omega, by go_num, rfl, HNX, ⟨blk_put HKA.out j (.int .i64 v) (by rw [nums_set, HTK.out]; rfl)⟩, ⟨(below_alloc HB.out _).setCell (p := ⟨g, j, none⟩) HG.out _⟩⟩
      case measure => simp [intOf]; omega
    · obtain rfl : k = l.length := by omega
      have hC := HK.out
      rw [List.take_length] at hC
      have HCC := Aside0.mk (show Kd.C (Kd.int .i64) wr (some ⟨g, 0, none⟩) n (patchF n a l) from C_int ⟨patch_length n a l, by omega, fun _ => ⟨_, rfl, fun j hj => by
        rw [add_plain, blk_cell hC]
        show (nums .i64 (patchF n a l)).toArray[j]? = _
        simp [nums, List.getD_eq_getElem?_getD, patch_length, hj]⟩⟩)
      clear hC
      go_wp2
      exact bodyPost_ret (v := .tuple #[.slice (some ⟨g, 0, none⟩) n n, .int .i64 0]) (by simp [results, Try.f15, go_sem]) rfl ⟨_, _, rfl, Nat.le_refl _, HCC.out, HB.out⟩
end Go.Proofs.Ytblalidpeccabab.Sn
