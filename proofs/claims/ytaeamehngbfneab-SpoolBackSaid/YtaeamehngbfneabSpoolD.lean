/- spool.Put: its walk. -/
import Derived.Test.YtaeamehngbfneabSpoolC
import Derived.Test.YtaeamehngbfneabCutsB
import Derived.Test.YtaeamehngbfneabRegionTwo
namespace Go.Proofs.Ytaeamehngbfneab.Sp
open Go Go.RowKit Go.Lib Go.Proofs.YtaeamehngbfneabW.PrintWords Go.Proofs.YtaeamehngbfneabW.PrintLast Go.Proofs.YtaeamehngbfneabW.PrintMore Go.Proofs.Ytaeamehngbfneab.PSpoolBack Go.Proofs.Ytaeamehngbfneab.RegionVal
set_option linter.unusedVariables false
set_option linter.unusedSimpArgs false

theorem reads_blk {w : World} {g : Nat} {xs : List Int} {T : TypeId} (h : w.heap[g]? = some (.cells (nums .u8 xs).toArray T (0, 0))) (hl : xs.length ≤ 1000) : ReadsInt w .u8 (some ⟨g, 0, none⟩) xs.length xs :=
  ⟨rfl, by omega, fun _ => ⟨_, rfl, fun k hk => by
    rw [add_plain, blk_cell h k]
    simp [nums, hk, List.getD_eq_getElem?_getD]⟩⟩
theorem own_rdB {w : World} {B : Nat} {v : Value} {xs : List Int} (h : w.ownsRow B 5 1 v xs.length (nums .u8 xs)) : ∃ A c, v = .slice A xs.length c ∧ xs.length ≤ c ∧ ReadsInt w .u8 A xs.length xs := by
  obtain ⟨A, c, rfl, hr⟩ := own_reads h
  refine ⟨A, c, rfl, ?_, hr⟩
  rcases h.2 with ⟨e, hn⟩ | ⟨g, cap, cur, e, _, _, hl, _⟩
  · rw [hn]; exact Nat.zero_le _
  · simp only [Value.slice.injEq] at e
    obtain ⟨_, _, rfl⟩ := e
    exact hl
theorem own_keep {W W1 : World} {B e size n : Nat} {v : Value} {xs : List Value} (h : W.ownsRow B e size v n xs) (hb : Below W.heap.size W W1) : W1.ownsRow B e size v n xs := by
  refine own_other h (row := none) ⟨hb.os, hb.tape, hb.output, hb.size, fun k hk _ => hb.block k hk⟩ ?_
  by_cases hv : v.ownBlock = none
  · exact .inl hv
  · exact .inr hv
theorem C_of_reads8 {w : World} {A : Option Addr} {n : Nat} {xs : List Int} (h : ReadsInt w .u8 A n xs) : Kd.C (Kd.int .u8) w A n xs := Kd.C_of_reads (d := (0 : Int)) (h1 := fun _ => rfl) h
theorem reads_of8 {w : World} {A : Option Addr} {n : Nat} {xs : List Int} (h : Kd.C (Kd.int .u8) w A n xs) : ReadsInt w .u8 A n xs := Kd.reads_of_C h

/-- three lists laid side by side -/
theorem three_lists {W : World} {g : Nat} {A1 A2 A3 : Option Addr} {n1 n2 n3 c1 c2 c3 : Nat} {xs ys zs : List Int} {T : TypeId} (hblk : W.heap[g]? = some (.cells #[.slice A1 n1 c1, .slice A2 n2 c2, .slice A3 n3 c3] T (0, 0)))
    (h1 : ReadsInt W .u8 A1 n1 xs) (h2 : ReadsInt W .u8 A2 n2 ys) (h3 : ReadsInt W .u8 A3 n3 zs) (l1 : n1 ≤ c1) (l2 : n2 ≤ c2) (l3 : n3 ≤ c3) :
    Kd.C (Kd.slice 5 (Kd.int .u8)) W (some ⟨g, 0, none⟩) ([xs, ys, zs] : List (List Int)).length [xs, ys, zs] := by
  obtain rfl := h1.1
  obtain rfl := h2.1
  obtain rfl := h3.1
  refine ⟨rfl, by simp, fun _ => ⟨⟨g, 0, none⟩, rfl, fun j p hj => ?_⟩⟩
  match j, hj with
  | 0, hj =>
    obtain rfl : xs = p := by simpa using hj
    refine ⟨_, rfl, ⟨A1, c1, rfl, l1, C_of_reads8 h1⟩, fun i u hu => ?_⟩
    have hi : i = 0 := by
      have := (List.getElem?_eq_some_iff.1 hu).1
      simp at this; omega
    subst hi
    have h0 : (.slice A1 xs.length c1 : Value) = u := by simpa using hu
    subst h0
    exact blk_cell hblk 0
  | 1, hj =>
    obtain rfl : ys = p := by simpa using hj
    refine ⟨_, rfl, ⟨A2, c2, rfl, l2, C_of_reads8 h2⟩, fun i u hu => ?_⟩
    have hi : i = 0 := by
      have := (List.getElem?_eq_some_iff.1 hu).1
      simp at this; omega
    subst hi
    have h0 : (.slice A2 ys.length c2 : Value) = u := by simpa using hu
    subst h0
    exact blk_cell hblk 1
  | 2, hj =>
    obtain rfl : zs = p := by simpa using hj
    refine ⟨_, rfl, ⟨A3, c3, rfl, l3, C_of_reads8 h3⟩, fun i u hu => ?_⟩
    have hi : i = 0 := by
      have := (List.getElem?_eq_some_iff.1 hu).1
      simp at this; omega
    subst hi
    have h0 : (.slice A3 zs.length c3 : Value) = u := by simpa using hu
    subst h0
    exact blk_cell hblk 2
  | j + 3, hj => simp at hj

theorem lit1_run (W : World) (x : Int) : Sem.run Try.prog (Instr.buildSlice 42 1 #[(0, .int .u8 x)]) W = .ok (.slice (some ⟨W.heap.size, 0, none⟩) 1 1) (W.alloc (.cells #[.int .u8 x] 5)) := by
  go_simp
theorem own_litB (w : World) (xs : List Int) (hn : xs.length ≤ 1000) : (w.alloc (.cells (nums .u8 xs).toArray 5)).ownsRow w.heap.size 5 1 (.slice (some ⟨w.heap.size, 0, none⟩) xs.length xs.length) xs.length (nums .u8 xs) := by
  refine ⟨by simp [nums], .inr ⟨w.heap.size, xs.length, (nums .u8 xs).toArray, rfl, Nat.le_refl _, heap_alloc_new w _, Nat.le_refl _, by unfold maxLen; omega, by simp [nums], ?_⟩⟩
  simp only [Nat.mul_one, nums]
  exact List.take_of_length_le (by simp)

set_option maxHeartbeats 8000000 in
set_option maxRecDepth 100000 in
theorem Put_bad (w : World) (A : Option Addr) (c m : Nat) (k n : Int) (hm : m ≤ 3900) (hk : ¬ Right k n) :
    Calls Try.prog 24 #[.slice A m c, .agg #[.int .i64 k, .int .i64 n]] w fun e w' => (∃ r : Int, r ≠ 0 ∧ e = .returned (.tuple #[.slice none 0 0, .int .i64 r])) ∧ Below w.heap.size w w' := by
  obtain ⟨r, hr, hf⟩ := right_not hk
  have HF := Aside0.mk hf
  have HK := Aside0.mk hk
  have HR := Aside0.mk hr
  have hr' : (r == 0) = false := beq_eq_false_iff_ne.mpr hr
  clear hf hk hr
  go_enter Try.func24, Try.ntmps24
  go_wp2_with fail
  refine (spool_right.calls k n r _ HF.out).mono ?_
  rintro e w1 ⟨rfl, hb⟩
  have HB := Aside0.mk (below_then (below_alloc (Below.refl w.heap.size w) _) (below_alloc (Below.refl w.heap.size w) _).size hb)
  clear hb
  go_wp2
  exact bodyPost_ret (v := .tuple #[.slice none 0 0, .int .i64 r]) (by simp [results, Try.f24, go_sem]) rfl ⟨⟨r, HR.out, rfl⟩, HB.out⟩

set_option maxHeartbeats 8000000 in
set_option maxRecDepth 100000 in
theorem Put_calls (w : World) (A : Option Addr) (c : Nat) (b : List Int) (k n : Int) (hr : Kd.C (Kd.int .u8) w A b.length b) (hc : b.length ≤ c) (hm : b.length ≤ 3900) (hk : Right k n) (hn : In64 n) :
    Calls Try.prog 24 #[.slice A b.length c, .agg #[.int .i64 k, .int .i64 n]] w fun e w' => ∃ A' c', e = .returned (.tuple #[.slice A' (b ++ rec k n).length c', .int .i64 0]) ∧ (b ++ rec k n).length ≤ c' ∧ Kd.C (Kd.int .u8) w' A' (b ++ rec k n).length (b ++ rec k n) ∧ Below w.heap.size w w' := by
  have HR := Aside0.mk hr
  have HK := Aside0.mk hk
  have HN := Aside0.mk hn
  clear hr hk hn
  go_enter Try.func24, Try.ntmps24
  go_wp2_with fail
  refine (spool_right.calls k n 0 _ (right_ok HK.out)).mono ?_
  rintro e w1 ⟨rfl, hb⟩
  have hbx : w1.heap[w.heap.size]? = some (.cells #[.int .i64 k, .int .i64 n] 28 (0, 0)) := (hb.block _ (by simp)).trans (heap_alloc_new w _)
  have HX := Aside0.mk hbx
  have HB := Aside0.mk (below_then (below_alloc (Below.refl w.heap.size w) _) (below_alloc (Below.refl w.heap.size w) _).size hb)
  clear hb hbx
  go_wp2_with fail
  have hk8 : IntKind.u8.wrap k = k := by
    have := right_kind HK.out
    simp [IntKind.wrap, IntKind.signed, IntKind.bits]; omega
  have hn64 : IntKind.u64.wrap n = n % 18446744073709551616 := by
    simp [IntKind.wrap, IntKind.signed, IntKind.bits]
  have HK8 := Aside0.mk hk8
  have HN64 := Aside0.mk hn64
  obtain ⟨N, hN⟩ : ∃ N, N = n % 18446744073709551616 := ⟨_, rfl⟩
  have HNN := Aside0.mk hN
  have HNR := Aside0.mk (show 0 ≤ N ∧ N < 18446744073709551616 by omega)
  have HOW := Aside0.mk (show [k] ++ big N 8 = own k n by rw [hN]; rfl)
  rw [← hN] at hn64
  have HNW := Aside0.mk hn64
  clear hk8 hN hn64
  refine wp_join (S := fun w' => Below w1.heap.size w1 w')
    (fun F w' => ∃ v20 v24 v : Value, (F = [(7, v), (25, v), (24, v24), (20, v20), (23, .int .u64 N), (22, .int .i64 n), (21, .pointer (some ⟨w.heap.size, 1, none⟩)), (19, .int .u8 k), (18, .int .i64 k), (17, .pointer (some ⟨w.heap.size, 0, none⟩))] ∨
      F = [(7, v), (25, v), (20, v20), (24, v24), (23, .int .u64 N), (22, .int .i64 n), (21, .pointer (some ⟨w.heap.size, 1, none⟩)), (19, .int .u8 k), (18, .int .i64 k), (17, .pointer (some ⟨w.heap.size, 0, none⟩))]) ∧
      w'.ownsRow w1.heap.size 5 1 v (own k n).length (nums .u8 (own k n)) ∧ Below w1.heap.size w1 w')
    [0, 1, 2, 4, 5, 6] 3 7 [(7, true), (8, true), (9, false)] [(3, true), (8, true), (9, false)] (by kernel_rfl) (by kernel_rfl) (below_drew1 (Below.refl _ _)) (fun _ _ d _ _ h => by cases d <;> exact h) ?hJ ?_
  case hJ =>
    rintro F w2 ⟨v20, v24, v, hF, ho, hb⟩
    have HO := Aside0.mk ho
    have HB2 := Aside0.mk hb
    rw [show puts _ F = puts _ [(7, v), (25, v), (24, v24), (20, v20), (23, .int .u64 N), (22, .int .i64 n), (21, .pointer (some ⟨w.heap.size, 1, none⟩)), (19, .int .u8 k), (18, .int .i64 k), (17, .pointer (some ⟨w.heap.size, 0, none⟩))] from by
      rcases hF with rfl | rfl
      · rfl
      · exact puts_cons _ _ (puts_cons _ _ (puts_swap _ (by decide) _ _ _))]
    clear hF ho hb
    simp only [puts, Act.put, List.setIfInBounds_toArray, List.set_cons_zero, List.set_cons_succ]
    obtain ⟨A2, c2, rfl, hc2, hr2⟩ := own_rdB HO.out
    have HR2 := Aside0.mk hr2
    clear hr2
    have HBW := Aside0.mk (below_then HB.out HB.out.size HB2.out)
    obtain ⟨s, hs⟩ : ∃ s, s = sumFrom init (own k n) := ⟨_, rfl⟩
    have hs0 : 0 ≤ s := by rw [hs]; exact (sum_lt _).1
    have hs1 : s < 4294967296 := by rw [hs]; exact (sum_lt _).2
    have HS := Aside0.mk hs
    have HSF := Aside0.mk (show spool_sum.f 2000 (own k n) = some s by rw [hs]; exact sum_f _ (by rw [own_length]; omega) (by rw [own_length]; omega))
    have HOL := Aside0.mk (own_length k n)
    have HREC := Aside0.mk (show ([b, own k n, big s 4] : List (List Int)).flatten = b ++ rec k n by rw [hs]; simp [rec])
    clear hs
    generalize own k n = ow at *
    go_wp2_with fail
    refine (spool_sum.calls 2000 A2 c2 ow s w2 (C_of_reads8 HR2.out) hc2 HSF.out).mono ?_
    rintro e w3 ⟨rfl, ⟨q, rfl⟩⟩
    go_wp2_with fail
    refine (big_calls _ 4 s (by omega) ⟨hs0, by omega⟩).mono ?_
    rintro e w4 ⟨rfl, hrow, hb⟩
    have HB4 := Aside0.mk (below_then (pw_below_drewN HBW.out q) HBW.out.size hb)
    have HR2' := Aside0.mk (reads_of8 (Kd.C_below (C_of_reads8 HR2.out) (below_then (pw_below_drewN (Below.refl w2.heap.size w2) q) (Nat.le_refl _) hb)))
    have HROW := Aside0.mk (show ReadsInt w4 .u8 (some ⟨(w2.drewN q).heap.size + 1, 0, none⟩) 4 (big s 4) by have := reads_blk hrow (by rw [big_length]; omega); rwa [big_length] at this)
    clear hb hrow
    go_wp2_with fail
    refine (By.concat_calls _ (some ⟨w4.heap.size, 0, none⟩) 3 [b, ow, big s 4] (three_lists (heap_alloc_new w4 _) (reads_of8 (Kd.C_below HR.out (below_alloc HB4.out _))) (reads_of8 (Kd.C_below (C_of_reads8 HR2'.out) (below_alloc (Below.refl _ _) _))) (reads_of8 (Kd.C_below (C_of_reads8 HROW.out) (below_alloc (Below.refl _ _) _))) hc hc2 (Nat.le_refl _)) (Nat.le_refl _) (by rw [HREC.out, List.length_append, rec_length]; omega)).mono ?_
    rintro e w5 ⟨v5, rfl, ho5, hb5⟩
    rw [HREC.out] at ho5
    obtain ⟨A5, c5, rfl, hc5, hr5⟩ := own_rdB ho5
    have HB5 := Aside0.mk (below_then (below_alloc HB4.out _) (below_alloc HB4.out _).size hb5)
    have HR5 := Aside0.mk hr5
    clear hb5 hr5 ho5
    go_wp2
    exact bodyPost_ret (v := .tuple #[.slice A5 (b ++ rec k n).length c5, .int .i64 0]) (by simp [results, Try.f24, go_sem]) rfl ⟨A5, c5, rfl, hc5, C_of_reads8 HR5.out, HB5.out⟩
  dsimp only [pures, List.map_cons, List.map_nil]
  refine se_un rfl rfl rfl rfl rfl (fun w' _ => by go_simp; with_reducible rfl) ?_
  refine se_un rfl rfl rfl rfl rfl (fun w' hw => by
    have h0 := blk_cell (blk_below HX.out hw) 0
    simp only [List.getElem?_toArray, List.getElem?_cons_zero] at h0
    go_simp
    with_reducible rfl) ?_
  refine se_un (v := .int .u8 k) rfl rfl rfl rfl rfl (fun w' _ => by go_simp; exact HK8.out) ?_
  refine se_un rfl rfl rfl rfl rfl (fun w' _ => by go_simp; with_reducible rfl) ?_
  refine se_un rfl rfl rfl rfl rfl (fun w' hw => by
    have h0 := blk_cell (blk_below HX.out hw) 1
    simp only [List.getElem?_toArray, List.getElem?_cons_zero, List.getElem?_cons_succ] at h0
    go_simp
    with_reducible rfl) ?_
  refine se_un (v := .int .u64 N) rfl rfl rfl rfl rfl (fun w' _ => by go_simp; exact HNW.out) ?_
  have HA := Aside0.mk (own_litB w1.drew [k] (by simp))
  refine ⟨?_, ?_⟩
  · refine se_lit (vs := [(0, .int .u8 k)]) rfl rfl rfl (lit1_run _ _) (below_alloc (below_drew1 (Below.refl _ _)) _) ?_
    refine se_call (vs := [.int .u64 N, .int .i64 8]) rfl rfl Try.func28 (by kernel_rfl) rfl (by kernel_rfl) ?_
    refine (big_calls _ 8 N (by omega) HNR.out).mono ?_
    rintro e w2 ⟨rfl, hrow, hb⟩
    have hb2 := below_then (below_alloc (below_drew1 (Below.refl w1.heap.size w1)) _) (below_alloc (below_drew1 (Below.refl w1.heap.size w1)) _).size hb
    refine ⟨_, rfl, hb2, ?_⟩
    obtain ⟨v3, x3, hx3, ho3, hb3, hs3⟩ := By.app_run (w0 := w1) w1.heap.size _ [k] (big N 8) _ 8 8 #[false, false] (own_keep HA.out hb) (by have := reads_blk hrow (by rw [big_length]; omega); rwa [big_length] at this) hb2 hb2.size (by simp)
    refine se_made rfl rfl rfl hx3 hb3 ?_
    refine se_assign rfl rfl rfl ?_
    exact ⟨_, _, v3, .inl rfl, by rw [← HOW.out]; exact ho3, hb3⟩
  · refine se_call (vs := [.int .u64 N, .int .i64 8]) rfl rfl Try.func28 (by kernel_rfl) rfl (by kernel_rfl) ?_
    refine (big_calls _ 8 N (by omega) HNR.out).mono ?_
    rintro e w2 ⟨rfl, hrow, hb⟩
    have hb2 : Below w1.heap.size w1 w2 := below_then (below_drew1 (Below.refl w1.heap.size w1)) (Nat.le_refl _) hb
    refine ⟨_, rfl, hb2, ?_⟩
    refine se_lit (vs := [(0, .int .u8 k)]) rfl rfl rfl (lit1_run _ _) (below_alloc hb2 _) ?_
    obtain ⟨v3, x3, hx3, ho3, hb3, hs3⟩ := By.app_run (w0 := w1) w1.heap.size _ [k] (big N 8) _ 8 8 #[false, false] (own_less (own_litB w2 [k] (by simp)) hb2.size) (by have := reads_blk (blk_alloc hrow (.cells #[.int .u8 k] 5)) (by rw [big_length]; omega); rwa [big_length] at this) (below_alloc hb2 _) (below_alloc hb2 _).size (by simp)
    refine se_made rfl rfl rfl hx3 hb3 ?_
    refine se_assign rfl rfl rfl ?_
    exact ⟨_, _, v3, .inr rfl, by rw [← HOW.out]; exact ho3, hb3⟩
end Go.Proofs.Ytaeamehngbfneab.Sp
