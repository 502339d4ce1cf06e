/- slices.DeleteFunc at []int; hunt.suspects. -/
import Derived.Test.YtblalidpeccabaaHuntB
namespace Go.Proofs.Ytblalidpeccabaa.Hn
open Go Go.RowKit Go.Lib Go.Proofs.YtblalidpeccabaaW.PrintWords Go.Proofs.YtblalidpeccabaaW.PrintLast Go.Proofs.YtblalidpeccabaaW.PrintMore Go.Proofs.Ytblalidpeccabaa.PHuntParts Go.Proofs.Ytblalidpeccabaa.Sc Go.Proofs.Ytblalidpeccabaa.Bs Go.Proofs.Ytblalidpeccabaa.RegionVal Go.Proofs.Ytblalidpeccabaa.Sm Go.Proofs.Ytblalidpeccabaa.Hp
set_option linter.unusedVariables false
set_option linter.unusedSimpArgs false

/-- does one of the good come of n? -/
def gone (xss : List (List Int)) (good : List Int) (n : Int) : Bool := good.any (fun g => decide (n ∈ xss.getD g.toNat []))

set_option maxHeartbeats 8000000 in
set_option maxRecDepth 100000 in
theorem asks46 (W : World) (gbx hbx hb : Nat) (xss : List (List Int)) (GA : Option Addr) (gc : Nat) (good xs : List Int) (h1 : W.heap[hbx]? = some (.cells #[.pointer (some ⟨hb, 0, none⟩)] 62 (0, 0)))
    (h2 : W.heap[gbx]? = some (.cells #[.slice GA good.length gc] 31 (0, 0))) (h3 : Hunter W hb xss) (h4 : ∀ g ∈ good, 0 ≤ g ∧ g < (xss.length : Int)) (h5 : Kd.C (Kd.int .i64) W GA good.length good) (h6 : good.length ≤ gc) :
    Sm.Asks 46 #[.pointer (some ⟨gbx, 0, none⟩), .pointer (some ⟨hbx, 0, none⟩)] W (Value.int .i64) xs (gone xss good) := by
  refine ⟨fun args w => enters_ Try.func46 (by kernel_rfl) rfl args w, fun n hn w hw => ?_⟩
  show Calls Try.prog 46 #[.int .i64 n, .pointer (some ⟨gbx, 0, none⟩), .pointer (some ⟨hbx, 0, none⟩)] w _
  have hW : Below w.heap.size w (w.alloc (.cells #[.int .i64 n] 3)) := below_alloc (Below.refl _ _) _
  have hb2 := below_then hw hw.size hW
  have HA := Aside0.mk (asks47 (w.alloc (.cells #[.int .i64 n] 3)) hbx w.heap.size hb xss n good (blk_below h1 hb2) (heap_alloc_new w _) (h3.below hb2) h4)
  have HC := Aside0.mk (Kd.C_below h5 hb2)
  have hcell := blk_cell (blk_below h2 hb2) 0
  simp only [List.getElem?_toArray, List.getElem?_cons_zero] at hcell
  clear h1 h2 h3 h4 h5 hw hb2 hn
  go_enter Try.func46, Try.ntmps46
  go_wp2_with fail
  refine (containsI_calls _ GA gc good 47 #[.pointer (some ⟨hbx, 0, none⟩), .pointer (some ⟨w.heap.size, 0, none⟩)] (fun g => decide (n ∈ xss.getD g.toNat [])) HC.out h6 HA.out).mono ?_
  rintro e w3 ⟨rfl, hb3⟩
  have HB3 := Aside0.mk (below_then hW hW.size hb3)
  obtain ⟨q, hq⟩ : ∃ q, q = good.any (fun g => decide (n ∈ xss.getD g.toNat [])) := ⟨_, rfl⟩
  rw [← hq]
  have HX := Aside0.mk (show q = gone xss good n from hq)
  clear hb3 hW hq
  go_wp2
  go_ret
  exact ⟨by rw [← HX.out]; rfl, HB3.out⟩

theorem idx_some {p : Int → Bool} {xs : List Int} (h : xs.any p = true) : ∃ k : Nat, idx p xs = (k : Int) ∧ ∃ hk : k < xs.length, p xs[k] = true ∧ ∀ j (hj : j < k), p (xs[j]'(by omega)) = false := by
  unfold idx
  cases hf : xs.findIdx? p with
  | some k =>
    obtain ⟨hk, h1, h2⟩ := List.findIdx?_eq_some_iff_getElem.1 hf
    exact ⟨k, rfl, hk, h1, fun j hj => by simpa using h2 j hj⟩
  | none =>
    have h1 := List.findIdx?_eq_none_iff.1 hf
    obtain ⟨x, hx, hp⟩ := List.any_eq_true.1 h
    rw [h1 x hx] at hp
    cases hp
theorem filter_none {p : Int → Bool} {xs : List Int} (h : xs.any p = false) : xs.filter (fun x => !p x) = xs := by
  rw [List.any_eq_false] at h
  exact List.filter_eq_self.2 (fun x hx => by simpa using h x hx)
/-- what lies in the row's block -/
def rowOf (ys : List Int) (rest : List Value) : Array Value := (nums .i64 ys ++ rest).toArray
theorem rowOf_get {ys : List Int} {rest : List Value} {j : Nat} (h : j < ys.length) : (rowOf ys rest)[j]? = some (.int .i64 ys[j]) := by
  unfold rowOf
  rw [List.getElem?_toArray, List.getElem?_append_left (by simpa [nums] using h)]
  simp [nums, h]
theorem rowOf_set {ys : List Int} {rest : List Value} {j : Nat} {v : Int} (h : j < ys.length) : (rowOf ys rest).setIfInBounds j (.int .i64 v) = rowOf (ys.set j v) rest := by
  unfold rowOf
  rw [List.setIfInBounds_toArray, List.set_append_left _ _ (by simpa [nums] using h)]
  unfold nums
  rw [List.map_set]
theorem blk_setCells {g : Nat} {t : TypeId} : ∀ (vs : List Value) (o : Nat) (w : World) (cs : Array Value), w.heap[g]? = some (.cells cs t (0, 0)) → ∃ cs', (w.setCells g o vs).heap[g]? = some (.cells cs' t (0, 0)) ∧ cs'.size = cs.size ∧ ∀ j, j < o → cs'[j]? = cs[j]?
  | [], o, w, cs, h => ⟨cs, h, rfl, fun _ _ => rfl⟩
  | v :: vs, o, w, cs, h => by
    obtain ⟨cs', h1, h2, h3⟩ := blk_setCells vs (o + 1) (w.setCell ⟨g, o, none⟩ v) _ (blk_put h o v rfl)
    refine ⟨cs', h1, by rw [h2]; simp, fun j hj => ?_⟩
    rw [h3 j (by omega), Array.getElem?_setIfInBounds, if_neg (by omega)]

set_option maxHeartbeats 8000000 in
set_option maxRecDepth 100000 in
theorem delete_calls (w0 w : World) (g c : Nat) (xs : List Int) (rest : List Value) (f : FuncId) (cap : Array Value) (p : Int → Bool) (hb : Below w0.heap.size w0 w) (hg : w0.heap.size ≤ g)
    (hk : w.heap[g]? = some (.cells (rowOf xs rest) 3 (0, 0))) (hc : xs.length ≤ c) (hl : xs.length ≤ 1000000) (hf : Sm.Asks f cap w0 (Value.int .i64) xs p) :
    Calls Try.prog 45 #[.slice (some ⟨g, 0, none⟩) xs.length c, .func (.func f) #[] cap] w fun e w' => e = .returned (.slice (some ⟨g, 0, none⟩) (xs.filter (fun x => !p x)).length c) ∧
      Kd.C (Kd.int .i64) w' (some ⟨g, 0, none⟩) (xs.filter (fun x => !p x)).length (xs.filter (fun x => !p x)) ∧ Below w0.heap.size w0 w' := by
  have HB := Aside0.mk hb
  have HK := Aside0.mk hk
  have HF := Aside0.mk hf
  have eg := hf.eg
  have HC := Aside0.mk (show Kd.C (Kd.int .i64) w (some ⟨g, 0, none⟩) xs.length xs from C_int ⟨rfl, by omega, fun _ => ⟨_, rfl, fun j hj => by
    rw [add_plain, blk_cell hk, rowOf_get (by omega)]
    simp [List.getD_eq_getElem?_getD, hj]⟩⟩)
  clear hb hk hf
  go_enter Try.func45, Try.ntmps45
  go_wp2_with fail
  refine (indexI_calls w (some ⟨g, 0, none⟩) c xs f cap p HC.out hc (Asks.later HF.out HB.out)).mono ?_
  rintro e w1 ⟨rfl, hb1⟩
  have HB1 := Aside0.mk (below_then HB.out HB.out.size hb1)
  have HK1 := Aside0.mk (blk_below HK.out hb1)
  have HC1 := Aside0.mk (Kd.C_below HC.out hb1)
  clear hb1
  cases ha : xs.any p with
  | false =>
    have HX := Aside0.mk (filter_none ha)
    have hi : idx p xs = -1 := by
      have := idx_any p xs
      rw [ha] at this
      have h2 : ¬ 0 ≤ idx p xs := of_decide_eq_false this
      unfold idx at h2 ⊢
      cases hf : xs.findIdx? p with
      | none => rfl
      | some k => rw [hf] at h2; exact absurd (by simp) h2
    rw [hi]
    clear hi ha
    go_wp2
    go_ret
    exact ⟨by rw [HX.out]; rfl, by rw [HX.out]; exact HC1.out, HB1.out⟩
  | true =>
    obtain ⟨k0, hk0, hkl, hp0, hpn⟩ := idx_some ha
    rw [hk0]
    have hne : ((k0 : Int) == -1) = false := beq_eq_false_iff_ne.2 (by omega)
    have HST := Aside0.mk (show xs.take k0 = (xs.take (k0 + 1)).filter (fun x => !p x) by
      rw [List.take_succ_eq_append_getElem hkl, List.filter_append, List.filter_cons, if_neg (by rw [hp0]; decide), List.filter_nil, List.append_nil]
      refine (List.filter_eq_self.2 (fun x hx => ?_)).symm
      obtain ⟨j, hj, rfl⟩ := List.getElem_of_mem hx
      rw [List.length_take] at hj
      rw [List.getElem_take, hpn j (by omega)]; rfl)
    clear ha hk0 hp0 hpn
    go_wp2_with fail
    go_loopw [5, 6] (fun a b wr => ∃ (i j : Nat) (ys : List Int), a = .int .i64 (i : Int) ∧ b = .int .i64 (j : Int) ∧ i < j ∧ j ≤ xs.length ∧ ys.length = xs.length ∧ Aside0 (wr.heap[g]? = some (.cells (rowOf ys rest) 3 (0, 0))) ∧
      Aside0 (ys.take i = (xs.take j).filter (fun x => !p x)) ∧ Aside0 (ys.drop j = xs.drop j) ∧ Aside0 (Below w0.heap.size w0 wr)) (fun _ b _ => xs.length - (intOf b).toNat)
    case atStart => exact ⟨k0, k0 + 1, xs, rfl, by go_num, by omega, by omega, rfl, HK1, HST, ⟨rfl⟩, HB1⟩
    case round =>
      obtain ⟨i, j, ys, rfl, rfl, hij, hj, hys, HKr, HT, HD, HBr⟩ := hrel
      have HY := Aside0.mk hys
      by_cases hlt : j < xs.length
      · have hj1 : (j : Int) < (xs.length : Int) := by omega
        have hi1 : (i : Int) < (xs.length : Int) := by omega
        have hjy : j < ys.length := by omega
        have hiy : i < ys.length := by omega
        have hyj : ys[j] = xs[j] := by
          have := congrArg (fun m => m[0]?) HD.out
          simpa [hlt, hjy] using this
        have e0 := blk_cell HKr.out j
        rw [rowOf_get hjy, hyj] at e0
        have HI := Aside0.mk hiy
        have HCL := Aside0.mk (HF.out.calls xs[j] (List.getElem_mem _) wr HBr.out)
        have HTK := Aside0.mk (show xs.take (j + 1) = xs.take j ++ [xs[j]] from List.take_succ_eq_append_getElem hlt)
        have HDR := Aside0.mk (show ∀ (q : Int), (ys.set i q).drop (j + 1) = xs.drop (j + 1) from fun q => by
          rw [List.drop_set_of_lt (by omega), ← List.drop_drop (i := 1) (j := j), HD.out, List.drop_drop])
        have HDS := Aside0.mk (show ys.drop (j + 1) = xs.drop (j + 1) from by
          rw [← List.drop_drop (i := 1) (j := j), HD.out, List.drop_drop])
        have HLEN := Aside0.mk hjy
        generalize xs[j] = z at e0 HCL HTK
        clear hys hjy hyj hiy
        go_wp2_with fail
        refine HCL.out.mono ?_
        rintro e w2 ⟨rfl, hb2⟩
        have HB2 := Aside0.mk (below_then HBr.out HBr.out.size hb2)
        have HK2 := Aside0.mk (blk_below HKr.out hb2)
        clear hb2
        cases hp : p z with
        | true =>
          have HX := Aside0.mk (show (xs.take (j + 1)).filter (fun x => !p x) = (xs.take j).filter (fun x => !p x) by
            rw [HTK.out, List.filter_append, List.filter_cons, if_neg (by rw [hp]; decide), List.filter_nil, List.append_nil])
          clear hp
          go_wp2
          go_roundw
          case rel => exact ⟨i, j + 1, ys, rfl, by go_num, by omega, by omega, HY.out, HK2, ⟨by rw [HX.out]; exact HT.out⟩, HDS, HB2⟩
          case measure => simp [intOf]; omega
        | false =>
          have HX := Aside0.mk (show (ys.set i z).take (i + 1) = (xs.take (j + 1)).filter (fun x => !p x) by
            rw [HTK.out, List.filter_append, List.filter_cons, if_pos (by rw [hp]; decide), List.filter_nil, ← HT.out]
            rw [List.take_succ_eq_append_getElem (by rw [List.length_set]; exact HI.out), List.getElem_set_self, List.take_set_of_le (Nat.le_refl _)])
          have hci := blk_cell HK2.out i
          rw [rowOf_get HI.out] at hci
          have hfi := blk_frozen HK2.out i
          generalize ys[i]'HI.out = old at hci
          clear hp
          go_wp2
          go_roundw
          case rel => exact ⟨i + 1, j + 1, ys.set i z, by go_num, by go_num, by omega, by omega, by rw [List.length_set]; exact HY.out, ⟨blk_put HK2.out i _ (rowOf_set HI.out)⟩, HX, ⟨HDR.out z⟩, ⟨HB2.out.setCell (p := ⟨g, i, none⟩) hg _⟩⟩
          case measure => simp [intOf]; omega
      · obtain rfl : j = xs.length := by omega
        have HX := Aside0.mk (show ys.take i = xs.filter (fun x => !p x) by
          have := HT.out
          rwa [List.take_length] at this)
        have hcl : ∀ ty, (Builtin.clear_ #[31] ty #[.slice (some ⟨g, i, none⟩) (xs.length - i) (c - i)]).run Try.prog wr = .ok (.tuple #[]) (wr.setCells g i (List.replicate (xs.length - i) (.int .i64 0))) := fun ty =>
          Lib.run_clear_slice wr 31 3 ty (.int .i64 0) Try.underlying31 (fun w => by go_simp) rfl rfl g i _ _ (by omega)
            (fun t ht => by rw [blk_cell HKr.out, rowOf_get (by omega)]; rfl) (fun t ht => blk_frozen HKr.out _)
        have hi1 : (i : Int) ≤ (xs.length : Int) := by omega
        have hic : (i : Int) ≤ (c : Int) := by omega
        have hicn : ¬ c = i := by omega
        clear hys
        go_wp2
        go_ret
        have hlen : (xs.filter (fun x => !p x)).length = i := by rw [← HX.out, List.length_take_of_le (by rw [HY.out]; omega)]
        obtain ⟨cs', h1, h2, h3⟩ := blk_setCells (List.replicate (xs.length - i) (.int .i64 0)) i wr _ HKr.out
        refine ⟨by rw [hlen]; rfl, C_int ⟨rfl, by omega, fun _ => ⟨_, rfl, fun t ht => ?_⟩⟩, below_setCells hg _ _ _ HBr.out⟩
        rw [hlen] at ht
        rw [add_plain, blk_cell h1, h3 t ht, rowOf_get (by have := HY.out; omega), ← HX.out]
        simp [List.getD_eq_getElem?_getD, List.getElem?_take, ht, show t < ys.length by have := HY.out; omega]

set_option maxHeartbeats 8000000 in
set_option maxRecDepth 100000 in
theorem suspects_calls (w : World) (hb : Nat) (xss : List (List Int)) (bad : Nat) (GA : Option Addr) (gc : Nat) (good : List Int) (hH : Hunter w hb xss) (hbad : bad < xss.length) (h4 : ∀ g ∈ good, 0 ≤ g ∧ g < (xss.length : Int)) (h5 : Kd.C (Kd.int .i64) w GA good.length good) (h6 : good.length ≤ gc)
    (h7 : 0 < (xss[bad]).length) (h8 : (xss[bad]).length ≤ 1000) :
    Calls Try.prog 35 #[.pointer (some ⟨hb, 0, none⟩), .int .i64 (bad : Int), .slice GA good.length gc] w fun e w' => ∃ A c, e = .returned (.slice A ((xss[bad]).filter (fun x => !gone xss good x)).length c) ∧
      ((xss[bad]).filter (fun x => !gone xss good x)).length ≤ c ∧ Kd.C (Kd.int .i64) w' A ((xss[bad]).filter (fun x => !gone xss good x)).length ((xss[bad]).filter (fun x => !gone xss good x)) ∧ Below w.heap.size w w' := by
  obtain ⟨W1, hW1⟩ : ∃ W1, W1 = (w.alloc (.cells #[.pointer (some ⟨hb, 0, none⟩)] 62)).alloc (.cells #[.slice GA good.length gc] 31) := ⟨_, rfl⟩
  have hB1 : Below w.heap.size w W1 := by rw [hW1]; exact below_alloc (below_alloc (Below.refl _ _) _) _
  have n1 : W1.heap[w.heap.size]? = some (.cells #[.pointer (some ⟨hb, 0, none⟩)] 62 (0, 0)) := by rw [hW1]; exact blk_alloc (heap_alloc_new w _) _
  have n2 : W1.heap[w.heap.size + 1]? = some (.cells #[.slice GA good.length gc] 31 (0, 0)) := by
    have := heap_alloc_new (w.alloc (.cells #[.pointer (some ⟨hb, 0, none⟩)] 62)) (.cells #[.slice GA good.length gc] 31)
    rw [World.size_alloc] at this
    rw [hW1]; exact this
  have hA := asks46 W1 (w.heap.size + 1) w.heap.size hb xss GA gc good (xss[bad]) n1 n2 (hH.below hB1) h4 (Kd.C_below h5 hB1) h6
  obtain ⟨A, c, q0, hc, hC⟩ := hH.below hB1
  obtain ⟨ad, A0, c0, rfl, q1, hc0, hC0⟩ := at_row hC hbad
  have HB1 := Aside0.mk hB1
  have HA := Aside0.mk hA
  have HC0 := Aside0.mk hC0
  generalize xss[bad] = xs at hc0 q1 HC0 HA h7 h8 ⊢
  have hbi : (bad : Int) < (xss.length : Int) := by omega
  rw [hW1] at q0 q1
  have HW := Aside0.mk hW1
  clear hH h4 h5 hB1 hC hC0 n1 n2 hA hW1
  go_enter Try.func35, Try.ntmps35
  go_wp2_with fail
  rw [← HW.out]
  refine (clone_calls W1 A0 c0 xs HC0.out hc0 (by omega)).mono ?_
  rintro e w2 ⟨v, rfl, ho, hb2⟩
  rcases ho.2 with ⟨_, h0⟩ | ⟨g, cap, cur, rfl, hg, hcur, hn, hmx, hsz, htk⟩
  · omega
  · have HB2 := Aside0.mk hb2
    rw [Nat.mul_one] at htk
    have hcur' : w2.heap[g]? = some (.cells (rowOf xs (cur.toList.drop xs.length)) 3 (0, 0)) := by
      rw [hcur]
      unfold rowOf
      rw [← htk, List.take_append_drop]
    have HD := Aside0.mk (delete_calls W1 w2 g cap xs _ 46 #[.pointer (some ⟨w.heap.size + 1, 0, none⟩), .pointer (some ⟨w.heap.size, 0, none⟩)] (gone xss good) hb2 hg hcur' hn (by omega) HA.out)
    clear ho hcur hsz htk hcur' hb2 q0 q1 HC0
    go_wp2_with fail
    refine HD.out.mono ?_
    rintro e w3 ⟨rfl, hC3, hb3⟩
    have HC3 := Aside0.mk hC3
    have HB3 := Aside0.mk (below_then HB1.out HB1.out.size hb3)
    have hle := List.length_filter_le (fun x => !gone xss good x) xs
    clear hC3 hb3
    obtain ⟨ys, hys⟩ : ∃ ys, ys = xs.filter (fun x => !gone xss good x) := ⟨_, rfl⟩
    rw [← hys] at HC3 hle ⊢
    have HYS := Aside0.mk hys
    clear hys
    go_wp2
    go_ret
    exact ⟨some ⟨g, 0, none⟩, cap, by rw [← HYS.out]; rfl, by rw [← HYS.out]; omega, by rw [← HYS.out]; exact HC3.out, HB3.out⟩
end Go.Proofs.Ytblalidpeccabaa.Hn
