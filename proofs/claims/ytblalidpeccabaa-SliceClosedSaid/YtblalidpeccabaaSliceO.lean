/- slice.uses: its walk. -/
import Derived.Test.YtblalidpeccabaaSliceN
namespace Go.Proofs.Ytblalidpeccabaa.Sm
open Go Go.RowKit Go.Lib Go.Proofs.YtblalidpeccabaaW.PrintWords Go.Proofs.YtblalidpeccabaaW.PrintLast Go.Proofs.YtblalidpeccabaaW.PrintMore Go.Proofs.Ytblalidpeccabaa.PHuntParts Go.Proofs.Ytblalidpeccabaa.Sc Go.Proofs.Ytblalidpeccabaa.Bs Go.Proofs.Ytblalidpeccabaa.RegionVal Go.Proofs.Ytblalidpeccabaa.Mp
set_option linter.unusedVariables false
set_option linter.unusedSimpArgs false

def low (x : S51) : Bool := decide (x.op < 3)
def uAt (l : List S51) (k : Nat) : List Int := usesAt S51.to_ S51.a S51.b low l k
def usesS (l : List S51) : List S35 := (List.range l.length).map (fun k => ⟨uAt l k⟩)
theorem us_usesS (l : List S51) : us (usesS l) = usesF S51.to_ S51.a S51.b low l := by
  unfold us usesS usesF
  rw [List.map_map]
  rfl
theorem usesS_length (l : List S51) : (usesS l).length = l.length := by simp [usesS]
/-- what is used of the variables ns -/
def pt (q : Bool) (f : Int → Option Nat) (ns : List Int) : List Int := if q = true then (ns.filterMap f).map (fun d : Nat => (d : Int)) else []
theorem uAt_eq {l : List S51} {k : Nat} (hk : k < l.length) : uAt l k = pt (low l[k]) (lastI S51.to_ (l.take k)) [l[k].a, l[k].b] := by
  unfold uAt usesAt pt
  rw [List.getElem?_eq_getElem hk]
theorem pt_some {q : Bool} {f : Int → Option Nat} {ns : List Int} {y : Int} {d : Nat} (hq : q = true) (hf : f y = some d) : pt q f (ns ++ [y]) = pt q f ns ++ [(d : Int)] := by
  unfold pt
  simp [hq, List.filterMap_append, hf]
theorem pt_none {q : Bool} {f : Int → Option Nat} {ns : List Int} {y : Int} (h : q = false ∨ f y = none) : pt q f (ns ++ [y]) = pt q f ns := by
  unfold pt
  rcases h with h | h
  · simp [h]
  · simp [List.filterMap_append, h]
theorem pt_nil (q : Bool) (f : Int → Option Nat) : pt q f [] = [] := by unfold pt; split <;> rfl
theorem pt_le (q : Bool) (f : Int → Option Nat) (ns : List Int) : (pt q f ns).length ≤ ns.length := by
  unfold pt
  split
  · rw [List.length_map]; exact List.length_filterMap_le _ _
  · simp

/-- a row of uses as it lies, ahead of B, and not in g or b -/
def Lie (w : World) (g b B : Nat) (v : Value) (xs : List Int) : Prop :=
  ∃ A c, v = .slice A xs.length c ∧ xs.length ≤ c ∧ ReadsInt w .i64 A xs.length xs ∧ ∀ ad, A = some ad → ad.block ≠ g ∧ ad.block ≠ b ∧ ad.block < B
theorem Lie.keep {w w1 : World} {g b B : Nat} {v : Value} {xs : List Int} (h : Lie w g b B v xs) (hk : ∀ j, j < B → j ≠ g → j ≠ b → w1.heap[j]? = w.heap[j]?) : Lie w1 g b B v xs := by
  obtain ⟨A, c, hv, hc, ⟨r1, r2, r3⟩, ha⟩ := h
  refine ⟨A, c, hv, hc, ⟨r1, r2, fun h0 => ?_⟩, ha⟩
  obtain ⟨ad, rfl, hcell⟩ := r3 h0
  obtain ⟨h1, h2, h3⟩ := ha ad rfl
  exact ⟨ad, rfl, fun j hj => (World.cell?_of_block (a := ad.add j) (by rw [add_block]; exact hk ad.block h3 h1 h2)).trans (hcell j hj)⟩
theorem Lie.more {w : World} {g b B B1 : Nat} {v : Value} {xs : List Int} (h : Lie w g b B v xs) (hB : B ≤ B1) : Lie w g b B1 v xs := by
  obtain ⟨A, c, hv, hc, hr, ha⟩ := h
  exact ⟨A, c, hv, hc, hr, fun ad e => ⟨(ha ad e).1, (ha ad e).2.1, Nat.lt_of_lt_of_le (ha ad e).2.2 hB⟩⟩
theorem Lie.of_own {w : World} {g b B : Nat} {v : Value} {xs : List Int} (h : w.ownsRow B 3 1 v xs.length (nums .i64 xs)) (hg : g < B) (hb : b < B) : Lie w g b w.heap.size v xs := by
  obtain ⟨A, c, rfl, hc, hr⟩ := own_rd h
  refine ⟨A, c, rfl, hc, hr, fun ad e => ?_⟩
  subst e
  have h1 := own_base h ad.block rfl
  have h2 := own_lt h ad.block rfl
  omega

def nilS : Value := .slice none 0 0
/-- the rows that are made, k of them -/
structure Rows (w : World) (g b : Nat) (l : List S51) (k : Nat) (rows : List Value) : Prop where mk ::
  len : rows.length = l.length
  blk : w.heap[g]? = some (.cells rows.toArray 35 (0, 0))
  done : ∀ j v, j < k → rows[j]? = some v → Lie w g b w.heap.size v (uAt l j)
  rest : ∀ j, k ≤ j → j < l.length → rows[j]? = some nilS

theorem set_self {α : Type} {l : List α} {i : Nat} {x : α} (h : l[i]? = some x) : l.set i x = l := by
  obtain ⟨hi, rfl⟩ := List.getElem?_eq_some_iff.1 h
  exact List.set_getElem_self hi
theorem makeU (n : Nat) (hn : n ≤ 1000) (W : World) : Sem.run Try.prog (Instr.makeSlice 30 (.int .i64 (n : Int)) (.int .i64 (n : Int))) W = .ok (.slice (some ⟨W.heap.size, 0, none⟩) n n) (W.alloc (.cells (Array.replicate n nilS) 35)) := by
  obtain ⟨i0, hi, hz0, hz1, hz2⟩ := info_parts info35
  have h := run_make W 30 35 i0 (.agg #[.slice none 0 0]) Try.underlying30 hi hz0 .i64 .i64 (n : Int) (n : Int) (by omega) (by omega) (by rw [hz2]; omega) (by omega)
  rw [hz1] at h
  simp only [Int.toNat_natCast, Nat.mul_one] at h
  rw [show madeCells (Value.agg #[.slice none 0 0]).cells n = (List.replicate n nilS).toArray by
    apply Array.ext
    · simp [madeCells]
    · intro i h1 h2
      simp only [madeCells, Array.getElem_map, Array.getElem_range, List.getElem_toArray, List.getElem_replicate]
      rw [show (Value.agg #[.slice none 0 0]).cells = #[nilS] from by simp [Value.cells, nilS]]
      rw [show (#[nilS] : Array Value).size = 1 from rfl, Nat.mod_one]
      rfl] at h
  rw [List.toArray_replicate] at h
  exact h

set_option maxHeartbeats 8000000 in
set_option maxRecDepth 100000 in
theorem uses_calls (w : World) (A : Option Addr) (c : Nat) (l : List S51) (hr : Kd.C k51 w A l.length l) (hc : l.length ≤ c) (hl : l.length ≤ 200) :
    Calls Try.prog 27 #[.slice A l.length c] w fun e w' => ∃ g, e = .returned (.slice (some ⟨g, 0, none⟩) l.length l.length) ∧ Kd.C k35 w' (some ⟨g, 0, none⟩) l.length (usesS l) ∧ Below w.heap.size w w' := by
  have HR := Aside0.mk hr
  have hmk := makeU l.length (by omega)
  have hmm := @run_makeMap Try.prog
  clear hr
  go_enter Try.func27, Try.ntmps27
  go_wp2_with fail
  obtain ⟨W0, hW0⟩ : ∃ W0, W0 = (w.alloc (.map #[] 0)).alloc (.cells (Array.replicate l.length nilS) 35) := ⟨_, rfl⟩
  obtain ⟨b, hbb⟩ : ∃ b, b = w.heap.size := ⟨_, rfl⟩
  have HM0 := Aside0.mk (show Mp.Holds W0 b ei ei ([] : List (Int × Int)) by rw [hW0, hbb]; exact (holds_made w ei ei).below (below_alloc (Below.refl _ _) _))
  have HB0 := Aside0.mk (show Below w.heap.size w W0 by rw [hW0]; exact below_alloc (below_alloc (Below.refl _ _) _) _)
  have HR0 := Aside0.mk (show Rows W0 (b + 1) b l 0 (List.replicate l.length nilS) from ⟨by simp, by
      rw [hW0, hbb, List.toArray_replicate]
      have := heap_alloc_new (w.alloc (.map #[] 0)) (.cells (Array.replicate l.length nilS) 35)
      rwa [World.size_alloc] at this, fun j v hj => absurd hj (by omega), fun j _ hj => by simp [hj]⟩)
  have HGB := Aside0.mk (show w.heap.size ≤ b ∧ b + 1 < W0.heap.size by rw [hW0, hbb, World.size_alloc, World.size_alloc]; omega)
  (try rw [← hW0])
  (try rw [← hbb])
  clear hW0 hbb hmm hmk
  go_loopw [17] (fun i wr => ∃ (k : Nat) (m : List (Int × Int)) (rows : List Value), k ≤ l.length ∧ i = .int .i64 (k : Int) ∧ Aside0 (Mp.Holds wr b ei ei m) ∧ Aside0 (∀ v, Mp.get m v = (lastI S51.to_ (l.take k) v).map (fun d : Nat => (d : Int))) ∧ Aside0 (Rows wr (b + 1) b l k rows) ∧ Aside0 (w.heap.size ≤ b ∧ b + 1 < wr.heap.size) ∧ Aside0 (Below w.heap.size w wr)) (fun i _ => l.length - (intOf i).toNat)
  case atStart => exact ⟨0, [], _, Nat.zero_le _, rfl, HM0, ⟨fun v => rfl⟩, HR0, HGB, HB0⟩
  case round =>
    obtain ⟨k, m, rows, hk, rfl, HM, HV, HRS, HGB, HB⟩ := hrel
    clear HM0 HR0 HB0
    by_cases hlt : k < l.length
    · have hk1 : (k : Int) < (l.length : Int) := by omega
      obtain ⟨ad, rfl, e0, e1, e2, e3⟩ := at_T51 (Kd.C_below HR.out HB.out) hlt
      have HTK := Aside0.mk (show l.take (k + 1) = l.take k ++ [l[k]] from List.take_succ_eq_append_getElem hlt)
      have HU := Aside0.mk (uAt_eq hlt)
      obtain ⟨z, hz⟩ : ∃ z, z = l[k] := ⟨_, rfl⟩
      rw [← hz] at e0 e1 e2 e3
      rw [← hz] at HTK HU
      clear hz
      go_wp2_with fail
      obtain ⟨W1, hW1⟩ : ∃ W1, W1 = wr.alloc (.cells #[.int .i64 z.to_, .int .i64 z.op, .int .i64 z.a, .int .i64 z.b] 51) := ⟨_, rfl⟩
      obtain ⟨W2, hW2⟩ : ∃ W2, W2 = W1.alloc (.cells #[.int .i64 z.a, .int .i64 z.b] 3) := ⟨_, rfl⟩
      obtain ⟨xb, hxb⟩ : ∃ xb, xb = wr.heap.size := ⟨_, rfl⟩
      have hX1 : W1.heap[xb]? = some (.cells #[.int .i64 z.to_, .int .i64 z.op, .int .i64 z.a, .int .i64 z.b] 51 (0, 0)) := by rw [hW1, hxb]; exact heap_alloc_new wr _
      have hs1 : W1.heap.size = xb + 1 := by rw [hW1, World.size_alloc, hxb]
      have hs2 : W2.heap.size = xb + 2 := by rw [hW2, World.size_alloc, hs1]
      have HL := Aside0.mk (show W2.heap[xb + 1]? = some (.cells #[.int .i64 z.a, .int .i64 z.b] 3 (0, 0)) by rw [hW2, ← hs1]; exact heap_alloc_new W1 _)
      have HX := Aside0.mk (show W2.heap[xb]? = some (.cells #[.int .i64 z.to_, .int .i64 z.op, .int .i64 z.a, .int .i64 z.b] 51 (0, 0)) by rw [hW2]; exact blk_alloc hX1 _)
      have h02 : Below wr.heap.size wr W2 := by rw [hW2, hW1]; exact below_alloc (below_alloc (Below.refl _ _) _) _
      have HWR := Aside0.mk h02
      have HB2 := Aside0.mk (below_then HB.out HB.out.size h02)
      have HM2 := Aside0.mk (HM.out.below h02)
      have HG2 := Aside0.mk (blk_below HRS.out.blk h02)
      have HGB2 := Aside0.mk (show w.heap.size ≤ b ∧ b + 1 < xb ∧ xb + 1 < W2.heap.size from ⟨HGB.out.1, by rw [hxb]; exact HGB.out.2, by omega⟩)
      have HXB := Aside0.mk hxb
      (try rw [← hW1])
      (try rw [← hxb])
      (try rw [← hW2])
      clear hW1 hW2 hxb hX1 h02 hs1 hs2 e0 e1 e2 e3
      go_loopw [28] (fun i wq => ∃ (r : Nat) (v : Value), r ≤ 2 ∧ i = .int .i64 (r : Int) ∧ Aside0 (wq.heap[b + 1]? = some (.cells (rows.set k v).toArray 35 (0, 0))) ∧
          Aside0 (wq.ownsRow W2.heap.size 3 1 v (pt (low z) (lastI S51.to_ (l.take k)) ([z.a, z.b].take r)).length (nums .i64 (pt (low z) (lastI S51.to_ (l.take k)) ([z.a, z.b].take r)))) ∧
          Aside0 (∀ j, j < W2.heap.size → j ≠ b + 1 → wq.heap[j]? = W2.heap[j]?) ∧ Aside0 (W2.heap.size ≤ wq.heap.size) ∧ Aside0 (Below w.heap.size w wq)) (fun i _ => 2 - (intOf i).toNat)
      case atStart => exact ⟨0, nilS, by omega, rfl, ⟨by
          rw [show rows.set k nilS = rows from set_self (HRS.out.rest k (Nat.le_refl _) hlt)]; exact HG2.out⟩, ⟨by rw [List.take_zero, pt_nil]; exact World.ownsRow_nil _ _ _ _⟩, ⟨fun _ _ _ => rfl⟩, ⟨Nat.le_refl _⟩, HB2⟩
      case round =>
        obtain ⟨r, v, hr2, rfl, HGq, HOq, HKq, HSq, HBq⟩ := hrel
        by_cases hrt : r < 2
        · have hr1 : (r : Int) < 2 := by omega
          obtain ⟨y, hy0, hy1⟩ : ∃ y, wr.cell? ⟨xb + 1, r, none⟩ = some (.int .i64 y) ∧ [z.a, z.b].take (r + 1) = [z.a, z.b].take r ++ [y] := by
            have hL : wr.heap[xb + 1]? = some (.cells #[.int .i64 z.a, .int .i64 z.b] 3 (0, 0)) := (HKq.out _ HGB2.out.2.2 (by have := HGB2.out; omega)).trans HL.out
            have hc := blk_cell hL r
            rcases (show r = 0 ∨ r = 1 by omega) with rfl | rfl
            · exact ⟨z.a, by simpa using hc, rfl⟩
            · exact ⟨z.b, by simpa using hc, rfl⟩
          have HY := Aside0.mk hy1
          clear hy1
          have HMq := Aside0.mk (show Mp.Holds wr b ei ei m from HM2.out.kept (HKq.out b (by have := HGB2.out; omega) (by omega)))
          have hop := blk_cell ((HKq.out xb (by have := HGB2.out; omega) (by have := HGB2.out; omega)).trans HX.out) 1
          simp only [List.getElem?_toArray, List.getElem?_cons_zero, List.getElem?_cons_succ] at hop
          have hgt := HV.out y
          cases hly : lastI S51.to_ (l.take k) y with
          | none =>
            rw [hly] at hgt
            have HGT := Aside0.mk hgt
            have HLY := Aside0.mk hly
            clear hgt hly
            go_wp2_with (at_lookup; refine wpList_look rfl _ _ 54 rfl (key_int Try.underlying3) Try.underlying54 (z := .int .i64 0) (fun w => by go_simp) b m y rfl rfl HMq.out (.int .i64 0) false (by rw [HGT.out]; rfl) (by rw [HGT.out]; rfl) ?_)
            go_roundw
            case rel => exact ⟨r + 1, v, by omega, by go_num, HGq, ⟨by rw [HY.out, pt_none (.inr HLY.out)]; exact HOq.out⟩, HKq, HSq, HBq⟩
            case measure => simp [intOf]; omega
          | some d =>
            rw [hly] at hgt
            have HGT := Aside0.mk hgt
            have HLY := Aside0.mk hly
            clear hgt hly
            by_cases hlo : z.op < 3
            · have HLO := Aside0.mk (show low z = true from decide_eq_true hlo)
              have hkl : k < rows.length := by rw [HRS.out.len]; exact hlt
              have hrk : (rows.set k v).toArray[k]? = some v := by simp [hkl]
              have hck := blk_cell HGq.out k
              rw [hrk] at hck
              have HLEN := Aside0.mk (show (pt (low z) (lastI S51.to_ (l.take k)) ([z.a, z.b].take r)).length ≤ 2 from Nat.le_trans (pt_le _ _ _) (Nat.le_trans (List.length_take_le _ _) (by omega)))
              have HKL := Aside0.mk hkl
              have HRK := Aside0.mk hrk
              clear hkl hrk
              have hbg : b + 1 < W2.heap.size := by have := HGB2.out; omega
              have HBG := Aside0.mk hbg
              clear hbg
              go_wp2_with (first
                | (at_lookup; refine wpList_look rfl _ _ 54 rfl (key_int Try.underlying3) Try.underlying54 (z := .int .i64 0) (fun w => by go_simp) b m y rfl rfl HMq.out (.int .i64 (d : Int)) true (by rw [HGT.out]; rfl) (by rw [HGT.out]; rfl) ?_)
                | (at_builtin; refine print_append_row (w0 := wr) W2.heap.size rfl _ _ 31 3 .i64 8 rfl Try.underlying31 infoInt (by decide) v (pt (low z) (lastI S51.to_ (l.take k)) ([z.a, z.b].take r)) [(d : Int)] _ 1 1 rfl rfl (own_keep HOq.out (below_alloc (Below.refl _ _) _)) (reads_lit _ [(d : Int)] (by simp) _) ((below_alloc (Below.refl _ _) _).mono HSq.out) (Nat.le_trans HSq.out (below_alloc (Below.refl _ _) _).size) (by have := HLEN.out; omega) ?_; intro v1 w3 hown hB hg hat; obtain ⟨A1, c1, rfl, _, _⟩ := own_rd hown; have HO3 := Aside0.mk hown; have HB3 := Aside0.mk hB; have h3 := (hB.block (b + 1) HBG.out).trans HGq.out; have hc3 := blk_cell h3 k; rw [HRK.out] at hc3; have hf3 := blk_frozen h3 k; have HG3 := Aside0.mk h3; clear hown hB hg hat h3))
              go_roundw
              case rel => exact ⟨r + 1, _, by omega, by go_num, ⟨blk_put HG3.out k _ (by rw [List.setIfInBounds_toArray, List.set_set])⟩,
                ⟨by rw [HY.out, pt_some HLO.out HLY.out]; have h := HO3.out; simp only [List.length_append, List.length_singleton] at h ⊢; exact ownsRow_setCell_below (a := ⟨b + 1, k, none⟩) h HBG.out _⟩,
                ⟨fun j hj hne => ((Below.heap_setCell w3 ⟨b + 1, k, none⟩ _ j hne).trans (HB3.out.block j hj)).trans (HKq.out j hj hne)⟩,
                ⟨by simpa [World.setCell] using Nat.le_trans HSq.out HB3.out.size⟩,
                ⟨(HBq.out.trans (HB3.out.mono (by have := HGB2.out; omega))).setCell (p := ⟨b + 1, k, none⟩) (by have := HGB2.out; show w.heap.size ≤ b + 1; omega) _⟩⟩
              case measure => simp [intOf]; omega
            · have HLO := Aside0.mk (show low z = false from decide_eq_false hlo)
              go_wp2_with (at_lookup; refine wpList_look rfl _ _ 54 rfl (key_int Try.underlying3) Try.underlying54 (z := .int .i64 0) (fun w => by go_simp) b m y rfl rfl HMq.out (.int .i64 (d : Int)) true (by rw [HGT.out]; rfl) (by rw [HGT.out]; rfl) ?_)
              go_roundw
              case rel => exact ⟨r + 1, v, by omega, by go_num, HGq, ⟨by rw [HY.out, pt_none (.inl HLO.out)]; exact HOq.out⟩, HKq, HSq, HBq⟩
              case measure => simp [intOf]; omega
        · have hr' : r = 2 := by omega
          subst hr'
          have HX3 := Aside0.mk ((HKq.out xb (by have := HGB2.out; omega) (by have := HGB2.out; omega)).trans HX.out)
          have HM3 := Aside0.mk (show Mp.Holds wr b ei ei m from HM2.out.kept (HKq.out b (by have := HGB2.out; omega) (by omega)))
          have hto := blk_cell HX3.out 0
          simp only [List.getElem?_toArray, List.getElem?_cons_zero, List.getElem?_cons_succ] at hto
          have HPUT := Aside0.mk (show ∀ v, Mp.get (Mp.put m z.to_ (k : Int)) v = (lastI S51.to_ (l.take (k + 1)) v).map (fun d : Nat => (d : Int)) from fun v => by
            rw [get_put, HTK.out, lastI_snoc, List.length_take_of_le (by omega)]
            by_cases e : v = z.to_
            · rw [if_pos e, if_pos e.symm]; rfl
            · rw [if_neg e, if_neg (fun h => e h.symm)]; exact HV.out v)
          go_wp2_with (at_mapUpdate; refine wpList_upd rfl _ _ _ 54 rfl (key_int Try.underlying3) Try.underlying54 b m z.to_ (k : Int) rfl rfl rfl HM3.out ?_; intro w3 hm3 hg3 hs3; have HM4 := Aside0.mk hm3; have HG3 := Aside0.mk hg3; have HS3 := Aside0.mk hs3; clear hm3 hg3 hs3)
          go_roundw
          case rel =>
            have hsz : W2.heap.size ≤ w3.heap.size := by rw [HS3.out]; exact HSq.out
            have hbw := HGB2.out
            have hwr := HWR.out.size
            exact ⟨k + 1, _, rows.set k v, by omega, by go_num, HM4, HPUT, ⟨⟨by rw [List.length_set]; exact HRS.out.len, blk_grown HGq.out HG3.out (by simp), fun j u hj hu => by
                have key : ∀ q, q < W2.heap.size → q ≠ b + 1 → q ≠ b → w3.heap[q]? = W2.heap[q]? := fun q h1 h2 h3 => (HG3.out.block q (Nat.lt_of_lt_of_le h1 HSq.out) (by simpa using h3)).trans (HKq.out q h1 h2)
                by_cases e : j = k
                · subst e
                  rw [List.getElem?_set_self (by rw [HRS.out.len]; exact hlt)] at hu
                  obtain rfl : v = u := by simpa using hu
                  have hown := HOq.out
                  rw [show ([z.a, z.b].take 2) = [z.a, z.b] from rfl, ← HU.out] at hown
                  rw [HS3.out]
                  have hl := Lie.of_own (g := b + 1) (b := b) hown (by omega) (by omega)
                  exact hl.keep (fun q h1 h2 h3 => HG3.out.block q h1 (by simpa using h3))
                · rw [List.getElem?_set_ne (fun h => e h.symm)] at hu
                  have hl := HRS.out.done j u (by omega) hu
                  exact ((hl.keep (fun q h1 h2 h3 => (key q (Nat.lt_of_lt_of_le h1 hwr) h2 h3).trans (HWR.out.block q h1))).more (Nat.le_trans hwr hsz)), fun j hj hjl => by
                rw [List.getElem?_set_ne (by omega)]; exact HRS.out.rest j (by omega) hjl⟩⟩, ⟨⟨hbw.1, by omega⟩⟩,
              ⟨HBq.out.grown HG3.out HBq.out.size (fun q e => by cases e; exact hbw.1)⟩⟩
          case measure => simp [intOf]; omega
    · have hk' : k = l.length := by omega
      subst hk'
      go_wp2
      go_ret
      refine ⟨b + 1, rfl, ⟨usesS_length l, by omega, fun h0 => ⟨_, rfl, fun j p hj => ?_⟩⟩, HB.out⟩
      obtain ⟨hjl, rfl⟩ := List.getElem?_eq_some_iff.1 hj
      rw [usesS_length] at hjl
      have hjr : j < rows.length := by rw [HRS.out.len]; exact hjl
      obtain ⟨A1, c1, hv, hc1, hr1, _⟩ := HRS.out.done j rows[j] hjl (List.getElem?_eq_getElem hjr)
      have hp : ((usesS l)[j]'(by rw [usesS_length]; exact hjl)).f0 = uAt l j := by simp [usesS]
      refine ⟨[rows[j]], rfl, ?_, fun i u hi => ?_⟩
      · rw [hv, ← hp]
        rw [← hp] at hc1 hr1
        exact k35_mk _ _ hc1 (C_int hr1)
      · obtain rfl : i = 0 := by
          cases i with
          | zero => rfl
          | succ i => simp at hi
        obtain rfl : rows[j] = u := by simpa using hi
        have := blk_cell HRS.out.blk j
        rw [show k35.sz = 1 from rfl, Nat.mul_one, add_plain]
        simp only [Nat.add_zero, Nat.zero_add]
        rw [this]
        simp [hjr]
end Go.Proofs.Ytblalidpeccabaa.Sm
