/- hunt.begin: its walk. -/
import Derived.Test.YtblalidpeccabaaHuntZ
import Derived.Test.YtblalidpeccabaaHuntRowPure
namespace Go.Proofs.Ytblalidpeccabaa.Hn
open Go Go.RowKit Go.Lib Go.Proofs.YtblalidpeccabaaW.PrintWords Go.Proofs.YtblalidpeccabaaW.PrintLast Go.Proofs.YtblalidpeccabaaW.PrintMore Go.Proofs.Ytblalidpeccabaa.PHuntParts Go.Proofs.Ytblalidpeccabaa.Sc Go.Proofs.Ytblalidpeccabaa.Bs Go.Proofs.Ytblalidpeccabaa.RegionVal Go.Proofs.Ytblalidpeccabaa.Sm Go.Proofs.Ytblalidpeccabaa.Hp
set_option linter.unusedVariables false
set_option linter.unusedSimpArgs false

abbrev kR : Kd (List Int) := Kd.slice 3 (Kd.int .i64)
/-- the slices of all places -/
def bkS (l : List S35) : List (List Int) := (List.range l.length).map (bk (us l))
theorem bkS_length (l : List S35) : (bkS l).length = l.length := by simp [bkS]
theorem bkS_get {l : List S35} {k : Nat} (h : k < l.length) : (bkS l)[k]? = some (bk (us l) k) := by simp [bkS, h]
theorem bkS_take {l : List S35} {k : Nat} (h : k < l.length) : (bkS l).take (k + 1) = (bkS l).take k ++ [bk (us l) k] := by
  have hk : k < (bkS l).length := by rw [bkS_length]; exact h
  rw [List.take_succ_eq_append_getElem hk]
  congr 2
  have := bkS_get h
  rw [List.getElem?_eq_getElem hk] at this
  exact Option.some.inj this
/-- block hb has the rows xss -/
def Hunter (w : World) (hb : Nat) (xss : List (List Int)) : Prop := ∃ A c, w.cell? ⟨hb, 0, none⟩ = some (.slice A xss.length c) ∧ xss.length ≤ c ∧ Kd.C kR w A xss.length xss
theorem Hunter.lt {w : World} {hb : Nat} {xss : List (List Int)} (h : Hunter w hb xss) : hb < w.heap.size := by
  obtain ⟨A, c, h0, _⟩ := h
  exact World.block_lt_of_cell? w _ h0
theorem Hunter.below {w w1 : World} {hb : Nat} {xss : List (List Int)} (h : Hunter w hb xss) (hw : Below w.heap.size w w1) : Hunter w1 hb xss := by
  have := h.lt
  obtain ⟨A, c, h0, hc, hC⟩ := h
  exact ⟨A, c, (hw.cell (p := ⟨hb, 0, none⟩) this).trans h0, hc, Kd.C_below hC hw⟩
theorem at_row {w : World} {A : Option Addr} {xss : List (List Int)} (h : Kd.C kR w A xss.length xss) {i : Nat} (hi : i < xss.length) : ∃ ad A0 c0, A = some ad ∧ w.cell? (ad.add i) = some (.slice A0 xss[i].length c0) ∧ xss[i].length ≤ c0 ∧ Kd.C (Kd.int .i64) w A0 xss[i].length xss[i] := by
  obtain ⟨ad, c, e, _, hK, hc0⟩ := Kd.C_get h [] (i : Int) (by omega) (by omega)
  have hx : xss.getD ((i : Int).toNat) [] = xss[i] := by simp [List.getD_eq_getElem?_getD, hi]
  rw [hx] at hK
  rw [Int.toNat_natCast] at hc0
  obtain ⟨A0, c0, rfl, h1, h2⟩ := hK
  refine ⟨ad, A0, c0, e, ?_, h1, h2⟩
  have := hc0 0 _ rfl
  rwa [show (kR).sz = 1 from rfl, Nat.mul_one, Nat.add_zero] at this
def badG (n : Nat) (good : List Int) : Bool := good.any (badPlace n)
/-- what begin tells -/
def hcode (xss : List (List Int)) (bad : Int) (good : List Int) : Int := if chk xss [bad] = 0 then (if badG xss.length good = true then 1 else 0) else chk xss [bad]
theorem info31 : (Try.prog.info? 31).map (fun i => (i.zero, i.size, i.bytes)) = some (some (.slice none 0 0), 1, 24) := by kernel_rfl
theorem told_own {w w' : World} {r : Int} {L : List Int} {e : Ending} (h : Sm.Told w r L e w') (hr : r = 0) : ∃ v, e = .returned (.tuple #[v, .int .i64 0]) ∧ (Kd.int .i64).R 3 w' w.heap.size (fun _ => True) v L ∧ Below w.heap.size w w' := by
  obtain ⟨⟨h0, _⟩ | ⟨_, v, rfl, ho⟩, hb⟩ := h
  · exact absurd hr h0
  · exact ⟨v, rfl, Kd.R_of_own ho (fun _ _ => trivial), hb⟩

set_option maxHeartbeats 8000000 in
set_option maxRecDepth 100000 in
theorem begin_calls (w : World) (A : Option Addr) (c : Nat) (l : List S35) (bad : Int) (G : Option Addr) (d : Nat) (good : List Int) (hr : Kd.C k35 w A l.length l) (hc : l.length ≤ c) (hg : Kd.C (Kd.int .i64) w G good.length good) (hd : good.length ≤ d) :
    Calls Try.prog 43 #[.slice A l.length c, .int .i64 bad, .slice G good.length d] w fun e w' => ((hcode (us l) bad good ≠ 0 ∧ e = .returned (.tuple #[.pointer none, .int .i64 (hcode (us l) bad good)])) ∨
      (hcode (us l) bad good = 0 ∧ ∃ hb, e = .returned (.tuple #[.pointer (some ⟨hb, 0, none⟩), .int .i64 0]) ∧ Hunter w' hb (bkS l))) ∧ Below w.heap.size w w' := by
  have HR := Aside0.mk hr
  have HG := Aside0.mk hg
  have hgm := hg.2.1
  clear hr hg
  go_enter Try.func43, Try.ntmps43
  go_wp2_with fail
  refine (Back_calls w A c l bad HR.out hc).mono ?_
  rintro e w1 hT
  by_cases h0 : chk (us l) [bad] = 0
  · obtain ⟨v1, rfl, -, hb⟩ := told_own hT h0
    have HB1 := Aside0.mk hb
    have H0 := Aside0.mk h0
    obtain ⟨hl, hf, hp⟩ := chk_zero.1 h0
    rw [us_length] at hl
    have HF := Aside0.mk hf
    clear h0 hT hb hf hp
    go_wp2_with fail
    obtain ⟨W2, hW2⟩ : ∃ W2, W2 = w1.alloc (.cells #[.slice none 0 0] 79) := ⟨_, rfl⟩
    obtain ⟨hb, hhb⟩ : ∃ hb, hb = w1.heap.size := ⟨_, rfl⟩
    have HH2 := Aside0.mk (show W2.heap[hb]? = some (.cells #[.slice none 0 0] 79 (0, 0)) by rw [hW2, hhb]; exact heap_alloc_new w1 _)
    have HB2 := Aside0.mk (show Below w.heap.size w W2 by rw [hW2]; exact below_alloc HB1.out _)
    have HHB := Aside0.mk (show w.heap.size ≤ hb ∧ hb + 1 = W2.heap.size by rw [hW2, hhb, World.size_alloc]; exact ⟨HB1.out.size, rfl⟩)
    (try rw [← hW2])
    (try rw [← hhb])
    clear hW2 hhb HB1
    go_loopw [29] (fun i wr => ∃ (k : Nat) (A' : Option Addr) (c' : Nat), k ≤ l.length ∧ i = .int .i64 (k : Int) ∧ Aside0 (wr.heap[hb]? = some (.cells #[.slice A' k c'] 79 (0, 0))) ∧ Aside0 (kR.R 31 wr (hb + 1) (fun _ => True) (.slice A' k c') ((bkS l).take k)) ∧ Aside0 (Below w.heap.size w wr) ∧ Aside0 (hb + 1 ≤ wr.heap.size)) (fun i _ => l.length - (intOf i).toNat)
    case atStart => exact ⟨0, none, 0, Nat.zero_le _, rfl, HH2, ⟨by rw [List.take_zero]; exact Kd.R_nil _ _ _ _ _⟩, HB2, ⟨Nat.le_of_eq HHB.out.2⟩⟩
    case round =>
      obtain ⟨k, A', c', hk, rfl, HH, HO, HB, HS⟩ := hrel
      by_cases hlt : k < l.length
      · have hk1 : (k : Int) < (l.length : Int) := by omega
        have HBK := Aside0.mk (Back_calls wr A c l (k : Int) (Kd.C_below HR.out HB.out) hc)
        have HCK := Aside0.mk (show chk (us l) [(k : Int)] = 0 from chk_zero.2 ⟨by rw [us_length]; exact hl, HF.out, fun n hn => by
          obtain rfl : n = (k : Int) := by simpa using hn
          rw [us_length]; omega⟩)
        go_wp2_with fail
        refine HBK.out.mono ?_
        rintro e w4 hT
        obtain ⟨v4, rfl, hR4, hb4⟩ := told_own hT HCK.out
        rw [Int.toNat_natCast, ← us_length l] at hR4
        replace hR4 : (Kd.int .i64).R 3 w4 wr.heap.size (fun _ => True) v4 (bk (us l) k) := hR4
        have hO4 := Kd.R_below HO.out hb4
        have hH4 := blk_below HH.out hb4
        have HB4 := Aside0.mk (below_then HB.out HB.out.size hb4)
        have HS4 := Aside0.mk (Nat.le_trans HS.out hb4.size)
        have HHH := Aside0.mk hH4
        have hcell := blk_cell hH4 0
        have hfro := blk_frozen hH4 0
        simp only [List.getElem?_toArray, List.getElem?_cons_zero] at hcell
        have HO4 := Aside0.mk hO4
        obtain ⟨inner, hown⟩ := Kd.R_own HO.out
        have hM : kR.M w4 (hb + 1) (fun k_ => some k_ ≠ (Value.slice A' k c').ownBlock) (bk (us l) k) [v4] := ⟨v4, rfl, Kd.R_mono (Kd.R_lower (Kd.R_new hR4 hown) HS.out) (fun _ h => h.2)⟩
        have HM := Aside0.mk hM
        have HT := Aside0.mk (bkS_take hlt)
        have HLT := Aside0.mk (show ((bkS l).take k).length = k from List.length_take_of_le (by rw [bkS_length]; omega))
        have HV4 := Aside0.mk (Kd.R_slice hR4)
        obtain ⟨A4, c4, rfl⟩ := HV4.out
        clear hT hb4 hR4 hO4 hH4 hown hM HBK HCK HV4
        go_wp2_with (at_builtin; refine Kd.R_append kR (w0 := w4) (hb + 1) rfl (.tmp 42) (.tmp 44) 77 31 (.slice none 0 0) 24 rfl Try.underlying77 info31 rfl (by decide) (by omega) (.slice A' k c') ((bkS l).take k) (bk (us l) k) [.slice A4 (bk (us l) k).length c4] (fun _ => True) (fun k_ => some k_ ≠ (Value.slice A' k c').ownBlock) rfl rfl HM.out (fun _ h => ⟨trivial, h⟩) (fun _ _ => trivial) HO4.out ((Below.refl w4.heap.size w4).mono HS4.out) HS4.out (by have := HLT.out; omega) ?_; intro v8 w8 ho hb8 hg hat; obtain ⟨A8, c8, hv8⟩ := Kd.R_slice ho; rw [List.length_append, HLT.out, List.length_singleton] at hv8; subst hv8; have HO8 := Aside0.mk ho; have HB8 := Aside0.mk hb8; have h8 := (hb8.block hb (by omega)).trans HHH.out; have HH8 := Aside0.mk h8; have hc8 := blk_cell h8 0; have hf8 := blk_frozen h8 0; simp only [List.getElem?_toArray, List.getElem?_cons_zero] at hc8; clear ho hb8 hg hat h8)
        go_roundw
        case rel => exact ⟨k + 1, A8, c8, by omega, by go_num, ⟨blk_put HH8.out 0 _ (by simp)⟩, ⟨by
          rw [HT.out]
          exact Kd.R_mono (Kd.R_far (p := ⟨hb, 0, none⟩) (Kd.R_bound HO8.out) (fun k_ h => by have := h.2.1; show k_ ≠ hb; omega) _) (fun _ _ => trivial)⟩,
          ⟨(HB4.out.trans (HB8.out.mono (by have := HHB.out.1; omega))).setCell (p := ⟨hb, 0, none⟩) HHB.out.1 _⟩, ⟨by simpa [World.setCell] using Nat.le_trans HS4.out HB8.out.size⟩⟩
        case measure => simp [intOf]; omega
      · obtain rfl : k = l.length := by omega
        have hHU : Hunter wr hb (bkS l) := by
          have hO := HO.out
          rw [List.take_of_length_le (by rw [bkS_length]; omega)] at hO
          obtain ⟨A9, c9, hv, hc9, hC9⟩ := Kd.R_reads hO
          have hcell := blk_cell HH.out 0
          refine ⟨A9, c9, ?_, hc9, hC9⟩
          rw [hcell, hv]
          simp [bkS_length]
        have HHU := Aside0.mk hHU
        have HX0 := Aside0.mk (show hcode (us l) bad good = if badG l.length good = true then 1 else 0 by unfold hcode; rw [if_pos H0.out, us_length])
        clear hHU
        go_wp2_with fail
        go_loopw [51] (fun i wq => ∃ k : Nat, k ≤ good.length ∧ i = .int .i64 (k : Int) ∧ Aside0 (∀ j (hj : j < k) (hj' : j < good.length), badPlace l.length good[j] = false) ∧ Aside0 (Below wr.heap.size wr wq)) (fun i _ => good.length - (intOf i).toNat)
        case atStart => exact ⟨0, Nat.zero_le _, rfl, ⟨fun j hj => absurd hj (by omega)⟩, ⟨Below.refl _ _⟩⟩
        case round =>
          obtain ⟨q, hq, rfl, HP, HBq⟩ := hrel
          have HB9 := Aside0.mk (below_then HB.out HB.out.size HBq.out)
          by_cases hqt : q < good.length
          · have hq1 : (q : Int) < (good.length : Int) := by omega
            obtain ⟨ad, rfl, h0⟩ := Kd.at_int (Kd.C_below HG.out HB9.out) (q : Int) (by omega) (by omega)
            have hrd : rd good (q : Int) = good[q] := by simp [rd, List.getD_eq_getElem?_getD, hqt]
            rw [hrd, Int.toNat_natCast] at h0
            have HMEM := Aside0.mk (show good[q] ∈ good from List.getElem_mem _)
            obtain ⟨z, hz⟩ : ∃ z, z = good[q] := ⟨_, rfl⟩
            rw [← hz] at h0 HMEM
            have HZ := Aside0.mk hz
            clear hz hrd
            have BAD := Aside0.mk (fun (h : badPlace l.length z = true) => show hcode (us l) bad good = 1 by
              rw [HX0.out, if_pos]
              exact List.any_eq_true.2 ⟨z, HMEM.out, h⟩)
            by_cases hz0 : z < 0
            · have HX := Aside0.mk (BAD.out (by simp [badPlace, hz0]))
              go_wp2
              exact bodyPost_ret (v := .tuple #[.pointer none, .int .i64 1]) (by simp [results, Try.f43, go_sem]) rfl ⟨.inl ⟨by rw [HX.out]; decide, by rw [HX.out]⟩, HB9.out⟩
            · by_cases hz1 : (l.length : Int) ≤ z
              · have HX := Aside0.mk (BAD.out (by simp [badPlace, hz1]))
                go_wp2
                exact bodyPost_ret (v := .tuple #[.pointer none, .int .i64 1]) (by simp [results, Try.f43, go_sem]) rfl ⟨.inl ⟨by rw [HX.out]; decide, by rw [HX.out]⟩, HB9.out⟩
              · have HX := Aside0.mk (show badPlace l.length z = false by simp [badPlace]; omega)
                go_wp2
                go_roundw
                case rel => exact ⟨q + 1, by omega, by go_num, ⟨fun j hj hj' => by
                  by_cases e : j = q
                  · subst e; rw [← HZ.out]; exact HX.out
                  · exact HP.out j (by omega) hj'⟩, HBq⟩
                case measure => simp [intOf]; omega
          · obtain rfl : q = good.length := by omega
            have HX := Aside0.mk (show hcode (us l) bad good = 0 by
              rw [HX0.out, if_neg]
              unfold badG
              rw [Bool.not_eq_true, List.any_eq_false]
              intro x hx
              obtain ⟨j, hj, rfl⟩ := List.getElem_of_mem hx
              rw [HP.out j hj hj]; decide)
            go_wp2
            exact bodyPost_ret (v := .tuple #[.pointer (some ⟨hb, 0, none⟩), .int .i64 0]) (by simp [results, Try.f43, go_sem]) rfl ⟨.inr ⟨HX.out, hb, rfl, HHU.out.below HBq.out⟩, HB9.out⟩
  · have HX := Aside0.mk (show hcode (us l) bad good = chk (us l) [bad] by unfold hcode; rw [if_neg h0])
    obtain ⟨rfl, hb⟩ := hT.bad h0
    have HB1 := Aside0.mk hb
    have H0 := Aside0.mk h0
    have q0 : (chk (us l) [bad] == 0) = false := beq_eq_false_iff_ne.mpr h0
    have q1 : (chk (us l) [bad] != 0) = true := bne_iff_ne.mpr h0
    clear h0 hT hb
    generalize chk (us l) [bad] = r at q0 q1 HX H0 ⊢
    go_wp2
    exact bodyPost_ret (v := .tuple #[.pointer none, .int .i64 r]) (by simp [results, Try.f43, go_sem]) rfl ⟨.inl ⟨by rw [HX.out]; exact H0.out, by rw [HX.out]⟩, HB1.out⟩
end Go.Proofs.Ytblalidpeccabaa.Hn
