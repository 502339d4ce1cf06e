/- snap.writer: many bytes, many of nothing; text; snap.Flat of the begun state. -/
import Derived.Test.YtblalidpeccababSnapA
namespace Go.Proofs.Ytblalidpeccabab.Sn
open Go.Proofs.YtblalidpeccababW
open Go Go.RowKit Go.Lib Go.Proofs.YtblalidpeccababW.PrintWords Go.Proofs.YtblalidpeccababW.PrintLast Go.Proofs.YtblalidpeccababW.PrintMore Go.Proofs.Ytblalidpeccabab.PSnapDelta Go.Proofs.Ytblalidpeccabab.Bs
set_option linter.unusedVariables false
set_option linter.unusedSimpArgs false

set_option maxHeartbeats 8000000 in
set_option maxRecDepth 100000 in
theorem manyB_calls (w0 : World) (wb : Nat) (f : FuncId) (pre cap : Array Value) (eg : ∀ args w, (callFunc f args).run Try.prog w = .ok (.enter f args) w) (fl : Int → List Int) (A : Option Addr) (c : Nat) (l : List Int) (w : World) (out : List Int) (hW : Wr w0 wb w out)
    (hr : ∀ w' o, Wr w0 wb w' o → Step wb w w' → Kd.C (Kd.int .u8) w' A l.length l) (hf : ∀ x ∈ l, Emits w0 wb w f pre cap (.int .u8 x) (fl x)) (hl : out.length + 1 + (l.flatMap fl).length ≤ LIM) :
    Calls Try.prog 60 #[.pointer (some ⟨wb, 0, none⟩), .slice A l.length c, .func (.func f) pre cap] w fun e w' => (∃ v, e = .returned v) ∧ Wr w0 wb w' (out ++ ((l.length : Int) :: l.flatMap fl)) ∧ Step wb w w' := by
  have hn : l.length ≤ 9223372036854775807 := (hr w out hW (Step.refl _ _)).2.1
  have HR := Aside0.mk hr
  have HF := Aside0.mk hf
  have HW := Aside0.mk hW
  have HL := Aside0.mk hl
  clear hr hf hW hl
  go_enter Try.func60, Try.ntmps60
  go_wp2_with fail
  have hb0 : Below w.heap.size w (w.alloc (.cells #[.int .i64 (l.length : Int)] 3)) := below_alloc (Below.refl _ _) _
  refine (put_calls w0 wb _ out _ 1 [(l.length : Int)] (HW.out.keep hb0) (reads_lit w [(l.length : Int)] (by simp) _) (by have := HL.out; simp; omega)).mono ?_
  rintro e w1 ⟨⟨v, rfl⟩, h1, h2⟩
  have HW1 := Aside0.mk h1
  have HS1 := Aside0.mk ((Step.of_below hb0 HW.out.lt).trans h2)
  clear h1 h2 hb0
  go_wp2_with fail
  go_loopw [15] (fun i wr => ∃ k : Nat, k ≤ l.length ∧ i = .int .i64 (k : Int) ∧ Aside0 (Wr w0 wb wr (out ++ ((l.length : Int) :: (l.take k).flatMap fl))) ∧ Aside0 (Step wb w wr)) (fun i _ => l.length - (intOf i).toNat)
  case atStart => exact ⟨0, Nat.zero_le _, rfl, ⟨by rw [List.take_zero]; exact HW1.out⟩, HS1⟩
  case round =>
    obtain ⟨k, hk, rfl, HWr, HSr⟩ := hrel
    by_cases hlt : k < l.length
    · have hk1 : (k : Int) < (l.length : Int) := by omega
      obtain ⟨ad, rfl, e0⟩ := Kd.at_int (HR.out wr _ HWr.out HSr.out) (k : Int) (by omega) (by omega)
      have hrd : rd l (k : Int) = l[k] := by simp [rd, List.getD_eq_getElem?_getD, hlt]
      rw [hrd, Int.toNat_natCast] at e0
      have HE := Aside0.mk (HF.out l[k] (List.getElem_mem _))
      have HTK := Aside0.mk (show (l.take (k + 1)).flatMap fl = (l.take k).flatMap fl ++ fl l[k] by rw [List.take_succ_eq_append_getElem hlt, List.flatMap_append, List.flatMap_cons, List.flatMap_nil, List.append_nil])
      have HLE := Aside0.mk (show ((l.take k).flatMap fl).length + (fl l[k]).length ≤ (l.flatMap fl).length by
        have h := congrArg (fun m => (List.flatMap fl m).length) (List.take_append_drop (k + 1) l)
        simp only [List.flatMap_append, List.length_append] at h
        rw [HTK.out, List.length_append] at h
        omega)
      generalize l[k] = x at e0 HE HTK HLE
      clear hrd
      have HCL := Aside0.mk (HE.out.calls wr _ HWr.out HSr.out (by have := HL.out; have := HLE.out; simp only [List.length_append, List.length_cons]; omega))
      go_wp2_with fail
      refine HCL.out.mono ?_
      rintro e w2 ⟨⟨v, rfl⟩, h1, h2⟩
      have HW2 := Aside0.mk h1
      have HS2 := Aside0.mk (HSr.out.trans h2)
      clear h1 h2 HCL
      go_wp2
      go_roundw
      case rel => exact ⟨k + 1, by omega, by go_num, ⟨by rw [HTK.out]; have := HW2.out; rwa [List.append_assoc] at this⟩, HS2⟩
      case measure => simp [intOf]; omega
    · obtain rfl : k = l.length := by omega
      go_wp2
      go_end0
      refine ⟨⟨_, rfl⟩, ?_, HSr.out⟩
      have := HWr.out
      rwa [List.take_length] at this

set_option maxHeartbeats 8000000 in
set_option maxRecDepth 100000 in
theorem many22_nil (w0 : World) (wb : Nat) (f : FuncId) (pre cap : Array Value) (w : World) (out : List Int) (hW : Wr w0 wb w out) (hl : out.length + 1 ≤ LIM) :
    Calls Try.prog 22 #[.pointer (some ⟨wb, 0, none⟩), .slice none 0 0, .func (.func f) pre cap] w fun e w' => (∃ v, e = .returned v) ∧ Wr w0 wb w' (out ++ [0]) ∧ Step wb w w' := by
  have HW := Aside0.mk hW
  have HL := Aside0.mk hl
  clear hW hl
  go_enter Try.func22, Try.ntmps22
  go_wp2_with fail
  have hb0 : Below w.heap.size w (w.alloc (.cells #[.int .i64 0] 3)) := below_alloc (Below.refl _ _) _
  refine (put_calls w0 wb _ out _ 1 [0] (HW.out.keep hb0) (reads_lit w [0] (by simp) _) (by have := HL.out; simp; omega)).mono ?_
  rintro e w1 ⟨⟨v, rfl⟩, h1, h2⟩
  have HW1 := Aside0.mk h1
  have HS1 := Aside0.mk ((Step.of_below hb0 HW.out.lt).trans h2)
  clear h1 h2 hb0
  go_wp2_with fail
  go_loopw [15] (fun i wr => i = .int .i64 0 ∧ w1 = wr) (fun _ _ => 0)
  case atStart => exact ⟨rfl, rfl⟩
  case round =>
    obtain ⟨rfl, rfl⟩ := hrel
    go_wp2
    go_end0
    exact ⟨⟨_, rfl⟩, HW1.out, HS1.out⟩

set_option maxHeartbeats 8000000 in
set_option maxRecDepth 100000 in
theorem many24_nil (w0 : World) (wb : Nat) (f : FuncId) (pre cap : Array Value) (w : World) (out : List Int) (hW : Wr w0 wb w out) (hl : out.length + 1 ≤ LIM) :
    Calls Try.prog 24 #[.pointer (some ⟨wb, 0, none⟩), .slice none 0 0, .func (.func f) pre cap] w fun e w' => (∃ v, e = .returned v) ∧ Wr w0 wb w' (out ++ [0]) ∧ Step wb w w' := by
  have HW := Aside0.mk hW
  have HL := Aside0.mk hl
  clear hW hl
  go_enter Try.func24, Try.ntmps24
  go_wp2_with fail
  have hb0 : Below w.heap.size w (w.alloc (.cells #[.int .i64 0] 3)) := below_alloc (Below.refl _ _) _
  refine (put_calls w0 wb _ out _ 1 [0] (HW.out.keep hb0) (reads_lit w [0] (by simp) _) (by have := HL.out; simp; omega)).mono ?_
  rintro e w1 ⟨⟨v, rfl⟩, h1, h2⟩
  have HW1 := Aside0.mk h1
  have HS1 := Aside0.mk ((Step.of_below hb0 HW.out.lt).trans h2)
  clear h1 h2 hb0
  go_wp2_with fail
  go_loopw [15] (fun i wr => i = .int .i64 0 ∧ w1 = wr) (fun _ _ => 0)
  case atStart => exact ⟨rfl, rfl⟩
  case round =>
    obtain ⟨rfl, rfl⟩ := hrel
    go_wp2
    go_end0
    exact ⟨⟨_, rfl⟩, HW1.out, HS1.out⟩

set_option maxHeartbeats 8000000 in
set_option maxRecDepth 100000 in
theorem many29_nil (w0 : World) (wb : Nat) (f : FuncId) (pre cap : Array Value) (w : World) (out : List Int) (hW : Wr w0 wb w out) (hl : out.length + 1 ≤ LIM) :
    Calls Try.prog 29 #[.pointer (some ⟨wb, 0, none⟩), .slice none 0 0, .func (.func f) pre cap] w fun e w' => (∃ v, e = .returned v) ∧ Wr w0 wb w' (out ++ [0]) ∧ Step wb w w' := by
  have HW := Aside0.mk hW
  have HL := Aside0.mk hl
  clear hW hl
  go_enter Try.func29, Try.ntmps29
  go_wp2_with fail
  have hb0 : Below w.heap.size w (w.alloc (.cells #[.int .i64 0] 3)) := below_alloc (Below.refl _ _) _
  refine (put_calls w0 wb _ out _ 1 [0] (HW.out.keep hb0) (reads_lit w [0] (by simp) _) (by have := HL.out; simp; omega)).mono ?_
  rintro e w1 ⟨⟨v, rfl⟩, h1, h2⟩
  have HW1 := Aside0.mk h1
  have HS1 := Aside0.mk ((Step.of_below hb0 HW.out.lt).trans h2)
  clear h1 h2 hb0
  go_wp2_with fail
  go_loopw [15] (fun i wr => i = .int .i64 0 ∧ w1 = wr) (fun _ _ => 0)
  case atStart => exact ⟨rfl, rfl⟩
  case round =>
    obtain ⟨rfl, rfl⟩ := hrel
    go_wp2
    go_end0
    exact ⟨⟨_, rfl⟩, HW1.out, HS1.out⟩

set_option maxHeartbeats 8000000 in
set_option maxRecDepth 100000 in
theorem many31_nil (w0 : World) (wb : Nat) (f : FuncId) (pre cap : Array Value) (w : World) (out : List Int) (hW : Wr w0 wb w out) (hl : out.length + 1 ≤ LIM) :
    Calls Try.prog 31 #[.pointer (some ⟨wb, 0, none⟩), .slice none 0 0, .func (.func f) pre cap] w fun e w' => (∃ v, e = .returned v) ∧ Wr w0 wb w' (out ++ [0]) ∧ Step wb w w' := by
  have HW := Aside0.mk hW
  have HL := Aside0.mk hl
  clear hW hl
  go_enter Try.func31, Try.ntmps31
  go_wp2_with fail
  have hb0 : Below w.heap.size w (w.alloc (.cells #[.int .i64 0] 3)) := below_alloc (Below.refl _ _) _
  refine (put_calls w0 wb _ out _ 1 [0] (HW.out.keep hb0) (reads_lit w [0] (by simp) _) (by have := HL.out; simp; omega)).mono ?_
  rintro e w1 ⟨⟨v, rfl⟩, h1, h2⟩
  have HW1 := Aside0.mk h1
  have HS1 := Aside0.mk ((Step.of_below hb0 HW.out.lt).trans h2)
  clear h1 h2 hb0
  go_wp2_with fail
  go_loopw [15] (fun i wr => i = .int .i64 0 ∧ w1 = wr) (fun _ _ => 0)
  case atStart => exact ⟨rfl, rfl⟩
  case round =>
    obtain ⟨rfl, rfl⟩ := hrel
    go_wp2
    go_end0
    exact ⟨⟨_, rfl⟩, HW1.out, HS1.out⟩

set_option maxHeartbeats 8000000 in
set_option maxRecDepth 100000 in
theorem many33_nil (w0 : World) (wb : Nat) (f : FuncId) (pre cap : Array Value) (w : World) (out : List Int) (hW : Wr w0 wb w out) (hl : out.length + 1 ≤ LIM) :
    Calls Try.prog 33 #[.pointer (some ⟨wb, 0, none⟩), .slice none 0 0, .func (.func f) pre cap] w fun e w' => (∃ v, e = .returned v) ∧ Wr w0 wb w' (out ++ [0]) ∧ Step wb w w' := by
  have HW := Aside0.mk hW
  have HL := Aside0.mk hl
  clear hW hl
  go_enter Try.func33, Try.ntmps33
  go_wp2_with fail
  have hb0 : Below w.heap.size w (w.alloc (.cells #[.int .i64 0] 3)) := below_alloc (Below.refl _ _) _
  refine (put_calls w0 wb _ out _ 1 [0] (HW.out.keep hb0) (reads_lit w [0] (by simp) _) (by have := HL.out; simp; omega)).mono ?_
  rintro e w1 ⟨⟨v, rfl⟩, h1, h2⟩
  have HW1 := Aside0.mk h1
  have HS1 := Aside0.mk ((Step.of_below hb0 HW.out.lt).trans h2)
  clear h1 h2 hb0
  go_wp2_with fail
  go_loopw [15] (fun i wr => i = .int .i64 0 ∧ w1 = wr) (fun _ _ => 0)
  case atStart => exact ⟨rfl, rfl⟩
  case round =>
    obtain ⟨rfl, rfl⟩ := hrel
    go_wp2
    go_end0
    exact ⟨⟨_, rfl⟩, HW1.out, HS1.out⟩

/-- text's closure writes its byte -/
theorem emits61 (w0 : World) (wb : Nat) (w : World) (b : Nat) (x : Int) (h0 : 0 ≤ x) (h1 : x ≤ 255) (hb : ∀ w', Step wb w w' → w'.heap[b]? = some (.cells #[.pointer (some ⟨wb, 0, none⟩)] 61 (0, 0))) : Emits w0 wb w 61 #[] #[.pointer (some ⟨b, 0, none⟩)] (.int .u8 x) [x] := by
  refine ⟨fun w' out hW hS hl => ?_⟩
  show Calls Try.prog 61 #[.int .u8 x, .pointer (some ⟨b, 0, none⟩)] w' _
  have hcell := blk_cell (hb w' hS) 0
  simp only [List.getElem?_toArray, List.getElem?_cons_zero] at hcell
  have HW := Aside0.mk hW
  have HL := Aside0.mk hl
  clear hb hS hW hl
  go_enter Try.func61, Try.ntmps61
  go_wp2_with fail
  have hb0 : Below w'.heap.size w' (w'.alloc (.cells #[.int .i64 x] 3)) := below_alloc (Below.refl _ _) _
  refine (put_calls w0 wb _ out _ 1 [x] (HW.out.keep hb0) (reads_lit w' [x] (by simp) _) (by have := HL.out; simpa using this)).mono ?_
  rintro e w1 ⟨⟨v, rfl⟩, h1, h2⟩
  have HW1 := Aside0.mk h1
  have HS1 := Aside0.mk ((Step.of_below hb0 HW.out.lt).trans h2)
  clear h1 h2 hb0
  go_wp2
  go_end0
  exact ⟨⟨_, rfl⟩, HW1.out, HS1.out⟩
def textF (s : ByteArray) : List Int := (s.size : Int) :: PrintWords.bytesOf s
theorem flat_one (l : List Int) : l.flatMap (fun x => [x]) = l := by
  induction l with
  | nil => rfl
  | cons x l ih => rw [List.flatMap_cons, ih]; rfl
theorem bytesOf_mem {s : ByteArray} {x : Int} (h : x ∈ PrintWords.bytesOf s) : 0 ≤ x ∧ x ≤ 255 := by
  unfold PrintWords.bytesOf at h
  obtain ⟨b, _, rfl⟩ := List.mem_map.1 h
  have := b.toNat_lt
  omega
set_option maxHeartbeats 8000000 in
set_option maxRecDepth 100000 in
theorem emits28 (w0 : World) (wb : Nat) (w : World) (s : ByteArray) : Emits w0 wb w 28 #[.pointer (some ⟨wb, 0, none⟩)] #[] (.string s) (textF s) := by
  refine ⟨fun w' out hW hS hl => ?_⟩
  show Calls Try.prog 28 #[.pointer (some ⟨wb, 0, none⟩), .string s] w' _
  have hsl : s.size ≤ LIM := by
    have h1 : (textF s).length = s.size + 1 := by unfold textF; rw [List.length_cons, PrintWords.bytesOf_length]
    omega
  have HSL := Aside0.mk hsl
  have HW := Aside0.mk hW
  have HL := Aside0.mk hl
  have kb := fun W => print_bytes (P := Try.prog) 9 118 5 Try.underlying9 Try.underlying118 Try.underlying5 s W
  clear hS hW hl hsl
  go_enter Try.func28, Try.ntmps28
  go_wp2_with fail
  obtain ⟨W1, hW1⟩ : ∃ W1, W1 = w'.alloc (.cells #[.pointer (some ⟨wb, 0, none⟩)] 61) := ⟨_, rfl⟩
  obtain ⟨b, hb⟩ : ∃ b, b = w'.heap.size := ⟨_, rfl⟩
  have hs1 : W1.heap.size = b + 1 := by rw [hW1, World.size_alloc, hb]
  have hx1 : W1.heap[b]? = some (.cells #[.pointer (some ⟨wb, 0, none⟩)] 61 (0, 0)) := by rw [hW1, hb]; exact heap_alloc_new w' _
  have hB1 : Below w'.heap.size w' W1 := by rw [hW1]; exact below_alloc (Below.refl _ _) _
  rw [← hW1, ← hb]
  obtain ⟨cc, hcc⟩ : ∃ cc, cc = grownCap W1 s.size 0 5 := ⟨_, rfl⟩
  obtain ⟨W2, hW2⟩ : ∃ W2, W2 = bytesWorld W1 5 s := ⟨_, rfl⟩
  have hB2 : Below w'.heap.size w' W2 := by rw [hW2]; exact bytes_below hB1 hB1.size 5 s
  have hx2 : W2.heap[b]? = some (.cells #[.pointer (some ⟨wb, 0, none⟩)] 61 (0, 0)) := by rw [hW2, Lib.bytesWorld_at_old W1 5 s b (by omega)]; exact hx1
  have hC2 : Kd.C (Kd.int .u8) W2 (some ⟨b + 1, 0, none⟩) s.size (PrintWords.bytesOf s) := by
    have := bytes_reads W1 5 s (by have := HSL.out; unfold LIM at this; omega)
    rw [hs1] at this
    rw [hW2]
    exact Kd.C_of_reads (d := (0 : Int)) (h1 := fun _ => rfl) this
  have hs2 : W2.heap.size = b + 2 := by rw [hW2, Lib.bytesWorld_size, hs1]
  rw [← hcc, ← hW2]
  have hob : ob W2 wb = ob w' wb := by unfold ob; rw [hB2.block wb HW.out.lt]
  have hwb := HW.out.lt
  have hne : ∀ g, b ≤ g → some g ≠ ob W2 wb := fun g hg e => by
    rw [hob] at e
    have := HW.out.ob_lt e.symm
    omega
  have hm := manyB_calls w0 wb 61 #[] #[.pointer (some ⟨b, 0, none⟩)] (fun args w => enters_ Try.func61 (by kernel_rfl) rfl args w) (fun x => [x]) (some ⟨b + 1, 0, none⟩) cc (PrintWords.bytesOf s) W2 out (HW.out.keep hB2)
    (fun w'' _ _ hS => by rw [PrintWords.bytesOf_length]; exact hS.C_int hC2 (by omega) (by omega) (hne _ (by omega)))
    (fun x hx => emits61 w0 wb W2 b x (bytesOf_mem hx).1 (bytesOf_mem hx).2 (fun w'' hS => hS.far hx2 (by omega) (hne _ (Nat.le_refl _))))
    (by rw [flat_one]; have := HL.out; unfold textF at this; simp only [List.length_cons] at this; omega)
  rw [flat_one, PrintWords.bytesOf_length] at hm
  have HM := Aside0.mk hm
  have HB2 := Aside0.mk hB2
  clear hm hne hob hC2 hx2 hx1 hB1 hB2 hW1 hW2 hcc hs1 hs2 hb
  refine HM.out.mono ?_
  rintro e w3 ⟨⟨v, rfl⟩, h1, h2⟩
  have HW3 := Aside0.mk h1
  have HS3 := Aside0.mk ((Step.of_below HB2.out HW.out.lt).trans h2)
  clear h1 h2 HM
  go_wp2
  go_end0
  exact ⟨⟨_, rfl⟩, HW3.out, HS3.out⟩
end Go.Proofs.Ytblalidpeccabab.Sn
