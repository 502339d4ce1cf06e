/- snap.reader: some bytes, text, some texts. -/
import Derived.Test.YtblalidpeccababSnapD
namespace Go.Proofs.Ytblalidpeccabab.Sn
open Go.Proofs.YtblalidpeccababW
open Go Go.RowKit Go.Lib Go.Proofs.YtblalidpeccababW.PrintWords Go.Proofs.YtblalidpeccababW.PrintLast Go.Proofs.YtblalidpeccababW.PrintMore Go.Proofs.Ytblalidpeccabab.PSnapDelta Go.Proofs.Ytblalidpeccabab.Bs
set_option linter.unusedVariables false
set_option linter.unusedSimpArgs false

theorem infoU8 : (Try.prog.info? 5).map (fun i => (i.zero, i.size, i.bytes)) = some (some (.int .u8 0), 1, 1) := by kernel_rfl
theorem infoStr : (Try.prog.info? 9).map (fun i => (i.zero, i.size, i.bytes)) = some (some (.string ByteArray.empty), 1, 16) := by kernel_rfl
theorem grown_then {a b c : World} {r : Nat} {row : Option Nat} (h : a.grownBy b (some r)) (k : b.grownBy c row) (hr : ∀ i, row = some i → a.heap.size ≤ i) : a.grownBy c (some r) :=
  ⟨k.os.trans h.os, k.tape.trans h.tape, k.output.trans h.output, Nat.le_trans h.size k.size, fun i hi hne => (k.block i (Nat.lt_of_lt_of_le hi h.size) (fun e => by have := hr i e.symm; omega)).trans (h.block i hi hne)⟩
theorem grown_alloc (w : World) (o : Obj) : w.grownBy (w.alloc o) none := grown_of_below (below_alloc (Below.refl _ _) _) none
theorem own_grown {w w1 : World} {B e size n r : Nat} {v : Value} {xs : List Value} (h : w.ownsRow B e size v n xs) (hg : w.grownBy w1 (some r)) (hr : r < B) : w1.ownsRow B e size v n xs :=
  own_move h (fun k hk => hg.block k (own_lt h k hk) (fun e => by have := own_base h k hk; have : k = r := by simpa using e
                                                                  omega))
theorem lit_u8 (w : World) (x : Int) : ReadsInt (w.alloc (.cells #[.int .u8 x] 5)) .u8 (some ⟨w.heap.size, 0, none⟩) 1 [x] := by
  refine ⟨rfl, by omega, fun _ => ⟨_, rfl, fun j hj => ?_⟩⟩
  obtain rfl : j = 0 := by omega
  rw [add_plain, blk_cell (heap_alloc_new w (.cells #[.int .u8 x] 5)) 0]
  rfl

set_option maxHeartbeats 8000000 in
set_option maxRecDepth 100000 in
theorem some64_calls (w0 : World) (rb : Nat) (w : World) (bs rest : List Int) (h : Rd w0 rb w ((bs.length : Int) :: (bs ++ rest))) (hb : ∀ x ∈ bs, 0 ≤ x ∧ x ≤ 255) (hl : bs.length ≤ LIM) :
    Calls Try.prog 64 #[.pointer (some ⟨rb, 0, none⟩), .func (.func 65) #[.pointer (some ⟨rb, 0, none⟩)] #[]] w fun e w' => ∃ v, e = .returned v ∧ w'.ownsRow w.heap.size 5 1 v bs.length (nums .u8 bs) ∧ Rd w0 rb w' rest ∧ w.grownBy w' (some rb) := by
  have HN := Aside0.mk (num_calls w0 rb w _ _ h)
  have HLT := Aside0.mk h.lt
  have HGE := Aside0.mk (Nat.le_trans h.below.size (Nat.le_refl _))
  have HBS := Aside0.mk hb
  have HL := Aside0.mk hl
  have hlm : bs.length ≤ 1000000000 := hl
  clear h hb hl
  go_enter Try.func64, Try.ntmps64
  go_wp2_with fail
  refine HN.out.mono ?_
  rintro e w1 ⟨rfl, h1, h2⟩
  obtain ⟨A1, c1, k1, k2, k3⟩ := h1.blk
  have e0 := blk_cell k1 0
  have e1 := blk_cell k1 1
  simp only [List.getElem?_toArray, List.getElem?_cons_zero, List.getElem?_cons_succ] at e0 e1
  have q0 : decide ((bs.length : Int) < 0) = false := decide_eq_false (by omega)
  have q1 : decide (((bs ++ rest).length : Int) < (bs.length : Int)) = false := decide_eq_false (by rw [List.length_append]; omega)
  have q2 : ¬ ((bs ++ rest).length : Int) < (bs.length : Int) := by rw [List.length_append]; omega
  have q3 : decide ((bs ++ rest).length < bs.length) = false := decide_eq_false (by rw [List.length_append]; omega)
  obtain ⟨m, hm⟩ : ∃ m, m = (bs ++ rest).length := ⟨_, rfl⟩
  rw [← hm] at e0 q1 q2 q3
  have H1 := Aside0.mk h1
  have H2 := Aside0.mk h2
  clear h1 h2 k1 k2 k3 HN hm
  go_wp2_with fail
  go_loopw [6, 7] (fun v i wr => ∃ j : Nat, j ≤ bs.length ∧ i = .int .i64 (j : Int) ∧ Aside0 (wr.ownsRow w.heap.size 5 1 v (bs.take j).length (nums .u8 (bs.take j))) ∧ Aside0 (Rd w0 rb wr (bs.drop j ++ rest)) ∧ Aside0 (w.grownBy wr (some rb))) (fun _ i _ => bs.length - (intOf i).toNat)
  case atStart => exact ⟨0, Nat.zero_le _, rfl, ⟨by rw [List.take_zero]; exact World.ownsRow_nil _ _ _ _⟩, ⟨by rw [List.drop_zero]; exact H1.out⟩, H2⟩
  case round =>
    obtain ⟨j, hj, rfl, HO, HR, HG⟩ := hrel
    clear e0 e1 H1 H2
    obtain ⟨A2, c2, k1, k2, k3⟩ := HR.out.blk
    have e1 := blk_cell k1 1
    simp only [List.getElem?_toArray, List.getElem?_cons_zero, List.getElem?_cons_succ] at e1
    clear k1 k2 k3
    by_cases hlt : j < bs.length
    · have hj1 : (j : Int) < (bs.length : Int) := by omega
      have HTK := Aside0.mk (show bs.take (j + 1) = bs.take j ++ [bs[j]] from List.take_succ_eq_append_getElem hlt)
      have HDR := Aside0.mk (show bs.drop j ++ rest = bs[j] :: (bs.drop (j + 1) ++ rest) by rw [List.drop_eq_getElem_cons hlt]; rfl)
      have HX := Aside0.mk (HBS.out bs[j] (List.getElem_mem _))
      have HTL := Aside0.mk (show (bs.take j).length ≤ LIM from Nat.le_trans (List.length_take_le _ _) (Nat.le_trans hj HL.out))
      generalize bs[j] = x at HTK HDR HX
      have HOC := Aside0.mk (octet_calls w0 rb wr x (bs.drop (j + 1) ++ rest) (by rw [← HDR.out]; exact HR.out) HX.out.1 HX.out.2)
      go_wp2_with fail
      refine HOC.out.mono ?_
      rintro e w2 ⟨rfl, h3, h4⟩
      have hbW : w.heap.size ≤ w2.heap.size := Nat.le_trans HG.out.size h4.size
      have HO2 := Aside0.mk (own_grown HO.out h4 HLT.out)
      have HG2 := Aside0.mk (grown_trans HG.out h4)
      have HR2 := Aside0.mk h3
      have HBW := Aside0.mk hbW
      have HLW := Aside0.mk (own_base HO2.out)
      clear h3 h4 hbW HOC e1
      go_wp2_with (at_builtin; refine print_append_row (w0 := w2.alloc (.cells #[.int .u8 x] 5)) w.heap.size rfl _ _ 118 5 .u8 1 rfl Try.underlying118 infoU8 (by decide) _ (bs.take j) [x] _ 1 1 rfl rfl (HO2.out.alloc _) (lit_u8 w2 x) (Below.refl _ _) (Nat.le_trans HBW.out (below_alloc (Below.refl w2.heap.size w2) _).size) (by have := HTL.out; unfold LIM at this; omega) ?_; intro v5 w5 hown hB hg hat; have HO5 := Aside0.mk hown; have HG5 := Aside0.mk hg; clear hown hB hg hat)
      go_roundw
      case rel => exact ⟨j + 1, by omega, by go_num, ⟨by rw [HTK.out]; exact HO5.out⟩, ⟨(HR2.out.keep (grown_alloc w2 _) (by simp) (fun k e => by cases e)).keep HG5.out (fun e => by have := HLW.out rb e.symm; have := HLT.out; omega) (fun k e => Nat.le_trans HGE.out (HLW.out k e))⟩, ⟨grown_then (grown_then HG2.out (grown_alloc w2 _) (fun k e => by cases e)) HG5.out HLW.out⟩⟩
      case measure => simp [intOf]; omega
    · obtain rfl : j = bs.length := by omega
      go_wp2
      go_ret
      have ho := HO.out
      have hr := HR.out
      rw [List.take_length] at ho
      rw [List.drop_length, List.nil_append] at hr
      exact ⟨_, rfl, ho, hr, HG.out⟩
theorem str_bytes (s : ByteArray) : strOfNums (PrintWords.bytesOf s) = s := by
  unfold strOfNums PrintWords.bytesOf
  rw [List.map_map]
  have : ((fun n : Int => UInt8.ofNat n.toNat) ∘ fun b : UInt8 => (b.toNat : Int)) = id := by
    funext b
    simp
  rw [this, List.map_id]
theorem lit_str (w : World) (x : ByteArray) : ReadsOf Value.string ByteArray.empty (w.alloc (.cells #[.string x] 9)) (some ⟨w.heap.size, 0, none⟩) 1 [x] := by
  refine ⟨rfl, by omega, fun _ => ⟨_, rfl, fun j hj => ?_⟩⟩
  obtain rfl : j = 0 := by omega
  rw [add_plain, blk_cell (heap_alloc_new w (.cells #[.string x] 9)) 0]
  rfl
theorem flat_ge (l : List ByteArray) : l.length ≤ (l.flatMap textF).length := by
  induction l with
  | nil => simp
  | cons x l ih => rw [List.flatMap_cons, List.length_append]; unfold textF at ih ⊢; simp only [List.length_cons] at ih ⊢; omega
set_option maxHeartbeats 8000000 in
set_option maxRecDepth 100000 in
theorem text_calls (w0 : World) (rb : Nat) (w : World) (s : ByteArray) (rest : List Int) (h : Rd w0 rb w ((s.size : Int) :: (PrintWords.bytesOf s ++ rest))) (hl : s.size ≤ LIM) :
    Calls Try.prog 40 #[.pointer (some ⟨rb, 0, none⟩)] w fun e w' => e = .returned (.string s) ∧ Rd w0 rb w' rest ∧ w.grownBy w' (some rb) := by
  have HN := Aside0.mk (some64_calls w0 rb w (PrintWords.bytesOf s) rest (by rw [PrintWords.bytesOf_length]; exact h) (fun x hx => bytesOf_mem hx) (by rw [PrintWords.bytesOf_length]; exact hl))
  clear h
  go_enter Try.func40, Try.ntmps40
  go_wp2_with fail
  refine HN.out.mono ?_
  rintro e w1 ⟨v, rfl, ho, h1, h2⟩
  have kb : (convert 118 9 v).run Try.prog w1 = .ok (.string s) w1 := by rw [own_string Try.underlying118 Try.underlying5 Try.underlying9 ho, str_bytes]
  have H1 := Aside0.mk h1
  have H2 := Aside0.mk h2
  clear h1 h2 ho HN
  go_wp2
  go_ret
  exact ⟨rfl, H1.out, H2.out⟩
set_option maxHeartbeats 8000000 in
set_option maxRecDepth 100000 in
theorem some39_calls (w0 : World) (rb : Nat) (w : World) (bs : List ByteArray) (rest : List Int) (h : Rd w0 rb w ((bs.length : Int) :: (bs.flatMap textF ++ rest))) (hb : ∀ x ∈ bs, x.size ≤ LIM) (hl : bs.length ≤ LIM) :
    Calls Try.prog 39 #[.pointer (some ⟨rb, 0, none⟩), .func (.func 40) #[.pointer (some ⟨rb, 0, none⟩)] #[]] w fun e w' => ∃ v, e = .returned v ∧ w'.ownsRow w.heap.size 9 1 v bs.length (encs Value.string bs) ∧ Rd w0 rb w' rest ∧ w.grownBy w' (some rb) := by
  have HN := Aside0.mk (num_calls w0 rb w _ _ h)
  have HLT := Aside0.mk h.lt
  have HGE := Aside0.mk (Nat.le_trans h.below.size (Nat.le_refl _))
  have HBS := Aside0.mk hb
  have HL := Aside0.mk hl
  have hlm : bs.length ≤ 1000000000 := hl
  clear h hb hl
  go_enter Try.func39, Try.ntmps39
  go_wp2_with fail
  refine HN.out.mono ?_
  rintro e w1 ⟨rfl, h1, h2⟩
  obtain ⟨A1, c1, k1, k2, k3⟩ := h1.blk
  have e0 := blk_cell k1 0
  have e1 := blk_cell k1 1
  simp only [List.getElem?_toArray, List.getElem?_cons_zero, List.getElem?_cons_succ] at e0 e1
  have q0 : decide ((bs.length : Int) < 0) = false := decide_eq_false (by omega)
  have q1 : decide (((bs.flatMap textF ++ rest).length : Int) < (bs.length : Int)) = false := decide_eq_false (by rw [List.length_append]; have := flat_ge bs; omega)
  have q2 : ¬ ((bs.flatMap textF ++ rest).length : Int) < (bs.length : Int) := by rw [List.length_append]; have := flat_ge bs; omega
  have q3 : decide ((bs.flatMap textF ++ rest).length < bs.length) = false := decide_eq_false (by rw [List.length_append]; have := flat_ge bs; omega)
  obtain ⟨m, hm⟩ : ∃ m, m = (bs.flatMap textF ++ rest).length := ⟨_, rfl⟩
  rw [← hm] at e0 q1 q2 q3
  have H1 := Aside0.mk h1
  have H2 := Aside0.mk h2
  clear h1 h2 k1 k2 k3 HN hm
  go_wp2_with fail
  go_loopw [6, 7] (fun v i wr => ∃ j : Nat, j ≤ bs.length ∧ i = .int .i64 (j : Int) ∧ Aside0 (wr.ownsRow w.heap.size 9 1 v (bs.take j).length (encs Value.string (bs.take j))) ∧ Aside0 (Rd w0 rb wr ((bs.drop j).flatMap textF ++ rest)) ∧ Aside0 (w.grownBy wr (some rb))) (fun _ i _ => bs.length - (intOf i).toNat)
  case atStart => exact ⟨0, Nat.zero_le _, rfl, ⟨by rw [List.take_zero]; exact World.ownsRow_nil _ _ _ _⟩, ⟨by rw [List.drop_zero]; exact H1.out⟩, H2⟩
  case round =>
    obtain ⟨j, hj, rfl, HO, HR, HG⟩ := hrel
    clear e0 e1 H1 H2
    obtain ⟨A2, c2, k1, k2, k3⟩ := HR.out.blk
    have e1 := blk_cell k1 1
    simp only [List.getElem?_toArray, List.getElem?_cons_zero, List.getElem?_cons_succ] at e1
    clear k1 k2 k3
    by_cases hlt : j < bs.length
    · have hj1 : (j : Int) < (bs.length : Int) := by omega
      have HTK := Aside0.mk (show bs.take (j + 1) = bs.take j ++ [bs[j]] from List.take_succ_eq_append_getElem hlt)
      have HDR := Aside0.mk (show (bs.drop j).flatMap textF ++ rest = (bs[j].size : Int) :: (PrintWords.bytesOf bs[j] ++ ((bs.drop (j + 1)).flatMap textF ++ rest)) by rw [List.drop_eq_getElem_cons hlt, List.flatMap_cons, List.append_assoc]; rfl)
      have HX := Aside0.mk (HBS.out bs[j] (List.getElem_mem _))
      have HTL := Aside0.mk (show (bs.take j).length ≤ LIM from Nat.le_trans (List.length_take_le _ _) (Nat.le_trans hj HL.out))
      generalize bs[j] = x at HTK HDR HX
      have HOC := Aside0.mk (text_calls w0 rb wr x ((bs.drop (j + 1)).flatMap textF ++ rest) (by rw [← HDR.out]; exact HR.out) HX.out)
      go_wp2_with fail
      refine HOC.out.mono ?_
      rintro e w2 ⟨rfl, h3, h4⟩
      have hbW : w.heap.size ≤ w2.heap.size := Nat.le_trans HG.out.size h4.size
      have HO2 := Aside0.mk (own_grown HO.out h4 HLT.out)
      have HG2 := Aside0.mk (grown_trans HG.out h4)
      have HR2 := Aside0.mk h3
      have HBW := Aside0.mk hbW
      have HLW := Aside0.mk (own_base HO2.out)
      clear h3 h4 hbW HOC e1
      go_wp2_with (at_builtin; refine print_append_row_of (w0 := w2.alloc (.cells #[.string x] 9)) Value.string ByteArray.empty w.heap.size rfl _ _ 24 9 (.string ByteArray.empty) 16 rfl Try.underlying24 infoStr rfl (by decide) (fun _ => rfl) _ (bs.take j) [x] _ 1 1 rfl rfl (HO2.out.alloc _) (lit_str w2 x) (Below.refl _ _) (Nat.le_trans HBW.out (below_alloc (Below.refl w2.heap.size w2) _).size) (by have := HTL.out; unfold LIM at this; omega) ?_; intro v5 w5 hown hB hg hat; have HO5 := Aside0.mk hown; have HG5 := Aside0.mk hg; clear hown hB hg hat)
      go_roundw
      case rel => exact ⟨j + 1, by omega, by go_num, ⟨by rw [HTK.out]; exact HO5.out⟩, ⟨(HR2.out.keep (grown_alloc w2 _) (by simp) (fun k e => by cases e)).keep HG5.out (fun e => by have := HLW.out rb e.symm; have := HLT.out; omega) (fun k e => Nat.le_trans HGE.out (HLW.out k e))⟩, ⟨grown_then (grown_then HG2.out (grown_alloc w2 _) (fun k e => by cases e)) HG5.out HLW.out⟩⟩
      case measure => simp [intOf]; omega
    · obtain rfl : j = bs.length := by omega
      go_wp2
      go_ret
      have ho := HO.out
      have hr := HR.out
      rw [List.take_length] at ho
      rw [List.drop_length, List.flatMap_nil, List.nil_append] at hr
      exact ⟨_, rfl, ho, hr, HG.out⟩
end Go.Proofs.Ytblalidpeccabab.Sn
