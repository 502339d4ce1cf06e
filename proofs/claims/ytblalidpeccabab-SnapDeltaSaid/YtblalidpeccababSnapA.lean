/- snap.writer: put, many of strings, of bytes, of nothing; text. -/
import Derived.Test.YtblalidpeccababPSnapDeltax1
import Derived.Test.YtblalidpeccababBase
import Derived.Test.YtblalidpeccababSame
namespace Go.Proofs.Ytblalidpeccabab.Sn
open Go Go.RowKit Go.Lib Go.Proofs.YtblalidpeccababW.PrintWords Go.Proofs.YtblalidpeccababW.PrintLast Go.Proofs.YtblalidpeccababW.PrintMore Go.Proofs.Ytblalidpeccabab.PSnapDelta Go.Proofs.Ytblalidpeccabab.Bs
set_option linter.unusedVariables false
set_option linter.unusedSimpArgs false

theorem own_keep {W W1 : World} {B e size n : Nat} {v : Value} {xs : List Value} (h : W.ownsRow B e size v n xs) (hb : Below W.heap.size W W1) : W1.ownsRow B e size v n xs := pw_own_below h hb
theorem reads_of {w : World} {A : Option Addr} {n : Nat} {xs : List Int} (h : Kd.C (Kd.int .i64) w A n xs) : ReadsInt w .i64 A n xs := Kd.reads_of_C (d := (0 : Int)) (h1 := fun _ => rfl) h
theorem C_int {w : World} {A : Option Addr} {n : Nat} {xs : List Int} (h : ReadsInt w .i64 A n xs) : Kd.C (Kd.int .i64) w A n xs := Kd.C_of_reads (d := (0 : Int)) (h1 := fun _ => rfl) h

/-- block wb is a writer that has put out; whatever lay in w0 lies there still -/
structure Wr (w0 : World) (wb : Nat) (w : World) (out : List Int) : Prop where mk ::
  le : w0.heap.size ≤ wb
  blk : ∃ v, w.heap[wb]? = some (.cells #[v] 63 (0, 0)) ∧ w.ownsRow w0.heap.size 3 1 v out.length (nums .i64 out)
  below : Below w0.heap.size w0 w
theorem Wr.lt {w0 w : World} {wb : Nat} {out : List Int} (h : Wr w0 wb w out) : wb < w.heap.size := by
  obtain ⟨v, h1, _⟩ := h.blk
  exact blk_lt h1
theorem Wr.keep {w0 w w1 : World} {wb : Nat} {out : List Int} (h : Wr w0 wb w out) (hb : Below w.heap.size w w1) : Wr w0 wb w1 out := by
  obtain ⟨v, h1, h2⟩ := h.blk
  exact ⟨h.le, ⟨v, blk_below h1 hb, own_keep h2 hb⟩, below_then h.below h.below.size hb⟩
def LIM : Nat := 1000000000
/-- the block that what was put lies in -/
def ob (w : World) (wb : Nat) : Option Nat := match w.heap[wb]? with
  | some (.cells cs _ _) => (cs[0]?).bind Value.ownBlock
  | _ => none
theorem ob_of {w : World} {wb : Nat} {v : Value} {t : TypeId} (h : w.heap[wb]? = some (.cells #[v] t (0, 0))) : ob w wb = v.ownBlock := by
  unfold ob
  rw [h]
  simp
/-- nothing but the writer, and what it has put, has changed -/
structure Step (wb : Nat) (w w' : World) : Prop where mk ::
  size : w.heap.size ≤ w'.heap.size
  keep : ∀ k, k < w.heap.size → k ≠ wb → some k ≠ ob w wb → w'.heap[k]? = w.heap[k]?
  at_ : ob w' wb = ob w wb ∨ ∃ k, ob w' wb = some k ∧ w.heap.size ≤ k
theorem Step.refl (wb : Nat) (w : World) : Step wb w w := ⟨Nat.le_refl _, fun _ _ _ _ => rfl, .inl rfl⟩
theorem Step.trans {wb : Nat} {a b c : World} (h : Step wb a b) (k : Step wb b c) : Step wb a c := by
  refine ⟨Nat.le_trans h.size k.size, fun j hj h1 h2 => (k.keep j (Nat.lt_of_lt_of_le hj h.size) h1 ?_).trans (h.keep j hj h1 h2), ?_⟩
  · rcases h.at_ with e | ⟨q, e, hq⟩
    · rw [e]; exact h2
    · rw [e]
      intro e2
      have : j = q := by simpa using e2
      omega
  · rcases k.at_ with e | ⟨q, e, hq⟩
    · rcases h.at_ with e' | ⟨q', e', hq'⟩
      · exact .inl (e.trans e')
      · exact .inr ⟨q', e.trans e', hq'⟩
    · exact .inr ⟨q, e, Nat.le_trans h.size hq⟩
theorem Step.of_below {wb : Nat} {w w' : World} (h : Below w.heap.size w w') (hw : wb < w.heap.size) : Step wb w w' := by
  refine ⟨h.size, fun k hk _ _ => h.block k hk, .inl ?_⟩
  unfold ob
  rw [h.block wb hw]
theorem Step.far {wb : Nat} {w w' : World} (h : Step wb w w') {b : Nat} {o : Obj} (hb : w.heap[b]? = some o) (h1 : b ≠ wb) (h2 : some b ≠ ob w wb) : w'.heap[b]? = some o :=
  (h.keep b (blk_lt hb) h1 h2).trans hb
theorem Wr.ob_ge {w0 w : World} {wb : Nat} {out : List Int} (h : Wr w0 wb w out) {k : Nat} (hk : ob w wb = some k) : w0.heap.size ≤ k := by
  obtain ⟨v, h1, h2⟩ := h.blk
  rw [ob_of h1] at hk
  exact own_base h2 k hk
theorem Wr.ob_lt {w0 w : World} {wb : Nat} {out : List Int} (h : Wr w0 wb w out) {k : Nat} (hk : ob w wb = some k) : k < w.heap.size := by
  obtain ⟨v, h1, h2⟩ := h.blk
  rw [ob_of h1] at hk
  exact own_lt h2 k hk
theorem Step.C_int {q : IntKind} {wb : Nat} {w w' : World} (h : Step wb w w') {g n : Nat} {xs : List Int} (hC : Kd.C (Kd.int q) w (some ⟨g, 0, none⟩) n xs) (hg : g < w.heap.size) (h1 : g ≠ wb) (h2 : some g ≠ ob w wb) : Kd.C (Kd.int q) w' (some ⟨g, 0, none⟩) n xs := by
  refine ⟨hC.1, hC.2.1, fun hn => ?_⟩
  obtain ⟨ad, e, hc⟩ := hC.2.2 hn
  refine ⟨ad, e, fun j p hj => ?_⟩
  obtain ⟨c, c1, c2, c3⟩ := hc j p hj
  refine ⟨c, c1, c2, fun i u hu => ?_⟩
  obtain rfl : (⟨g, 0, none⟩ : Addr) = ad := by simpa using e
  refine (World.cell?_of_block ?_).trans (c3 i u hu)
  rw [add_block]
  exact h.keep g hg h1 h2
/-- what lay in w0 is read on -/
theorem Wr.C {α : Type} {d : Kd α} {w0 w : World} {wb : Nat} {out : List Int} (h : Wr w0 wb w out) {A : Option Addr} {n : Nat} {xs : List α} (hC : d.C w0 A n xs) : d.C w A n xs := Kd.C_below hC h.below

set_option maxHeartbeats 8000000 in
set_option maxRecDepth 100000 in
theorem put_calls (w0 : World) (wb : Nat) (w : World) (out : List Int) (A : Option Addr) (c : Nat) (l : List Int) (hW : Wr w0 wb w out) (hr : ReadsInt w .i64 A l.length l) (hl : out.length + l.length ≤ LIM) :
    Calls Try.prog 26 #[.pointer (some ⟨wb, 0, none⟩), .slice A l.length c] w fun e w' => (∃ v, e = .returned v) ∧ Wr w0 wb w' (out ++ l) ∧ Step wb w w' := by
  obtain ⟨v, h1, h2⟩ := hW.blk
  have HL := Aside0.mk hl
  have HW := Aside0.mk hW
  have HR := Aside0.mk hr
  have HO := Aside0.mk h2
  have HK := Aside0.mk h1
  have hcell := blk_cell h1 0
  simp only [List.getElem?_toArray, List.getElem?_cons_zero] at hcell
  obtain ⟨A0, c0, rfl, _, _⟩ := own_rd h2
  have hne : ∀ k, (Value.slice A0 out.length c0).ownBlock = some k → k ≠ wb := fun k hk e => by
    subst e
    obtain ⟨cells, hc⟩ := own_typed h2 k hk
    rw [h1] at hc
    cases hc
  have HNE := Aside0.mk hne
  clear hl hW hr h1 h2 hne
  go_enter Try.func26, Try.ntmps26
  go_wp2_with (at_builtin; refine print_append_row (w0 := w0) w0.heap.size rfl _ _ 31 3 .i64 8 rfl Try.underlying31 infoInt (by decide) (.slice A0 out.length c0) out l A l.length c rfl rfl HO.out HR.out HW.out.below HW.out.below.size (by have := HL.out; unfold LIM at this; omega) ?_; intro v1 w3 hown hB hg hat; obtain ⟨A1, c1, rfl, _, _⟩ := own_rd hown; have HO3 := Aside0.mk hown; have HB3 := Aside0.mk hB; have HG3 := Aside0.mk hg; have HAT := Aside0.mk hat; have hk3 := (hg.block wb HW.out.lt (fun e => HNE.out wb e.symm rfl)).trans HK.out; have HK3 := Aside0.mk hk3; have hc3 := blk_cell hk3 0; have hf3 := blk_frozen hk3 0; simp only [List.getElem?_toArray, List.getElem?_cons_zero] at hc3; clear hown hB hg hat hk3)
  go_end0
  have hput := blk_put HK3.out 0 (.slice A1 (out ++ l).length c1) (cs' := #[.slice A1 (out ++ l).length c1]) (by simp)
  rw [List.length_append] at hput
  refine ⟨⟨_, rfl⟩, ⟨HW.out.le, ⟨.slice A1 (out ++ l).length c1, by rw [List.length_append]; exact hput, ?_⟩, HB3.out.setCell (p := ⟨wb, 0, none⟩) HW.out.le _⟩, ?_⟩
  · refine own_move HO3.out (fun k hk => Below.heap_setCell w3 ⟨wb, 0, none⟩ _ k ?_)
    rintro rfl
    obtain ⟨cells, hc⟩ := own_typed HO3.out k hk
    rw [HK3.out] at hc
    cases hc
  · refine ⟨by simpa [World.setCell] using HG3.out.size, fun k hk h1 h2 => ?_, ?_⟩
    · rw [ob_of HK.out] at h2
      exact (Below.heap_setCell w3 ⟨wb, 0, none⟩ _ k h1).trans (HG3.out.block k hk h2)
    · rw [ob_of hput, ob_of HK.out]
      have := HAT.out
      rw [List.length_append] at this
      exact this

/-- a function value that writes ns, asked of x -/
structure Emits (w0 : World) (wb : Nat) (w : World) (f : FuncId) (pre cap : Array Value) (x : Value) (ns : List Int) : Prop where mk ::
  calls : ∀ w' out, Wr w0 wb w' out → Step wb w w' → out.length + ns.length ≤ LIM → Calls Try.prog f (pre ++ #[x] ++ cap) w' fun e w'' => (∃ v, e = .returned v) ∧ Wr w0 wb w'' (out ++ ns) ∧ Step wb w' w''

set_option maxHeartbeats 8000000 in
set_option maxRecDepth 100000 in
theorem manyS_calls (w0 : World) (wb : Nat) (f : FuncId) (pre cap : Array Value) (eg : ∀ args w, (callFunc f args).run Try.prog w = .ok (.enter f args) w) (fl : ByteArray → List Int) (A : Option Addr) (c : Nat) (l : List ByteArray) (w : World) (out : List Int) (hW : Wr w0 wb w out)
    (hr : ∀ w' o, Wr w0 wb w' o → Step wb w w' → Kd.C Kd.string w' A l.length l) (hf : ∀ x ∈ l, Emits w0 wb w f pre cap (.string x) (fl x)) (hl : out.length + 1 + (l.flatMap fl).length ≤ LIM) :
    Calls Try.prog 27 #[.pointer (some ⟨wb, 0, none⟩), .slice A l.length c, .func (.func f) pre cap] w fun e w' => (∃ v, e = .returned v) ∧ Wr w0 wb w' (out ++ ((l.length : Int) :: l.flatMap fl)) ∧ Step wb w w' := by
  have hn : l.length ≤ 9223372036854775807 := (hr w out hW (Step.refl _ _)).2.1
  have HR := Aside0.mk hr
  have HF := Aside0.mk hf
  have HW := Aside0.mk hW
  have HL := Aside0.mk hl
  clear hr hf hW hl
  go_enter Try.func27, Try.ntmps27
  go_wp2_with fail
  have hb0 : Below w.heap.size w (w.alloc (.cells #[.int .i64 (l.length : Int)] 3)) := below_alloc (Below.refl _ _) _
  refine (put_calls w0 wb _ out _ 1 [(l.length : Int)] (HW.out.keep hb0) (reads_lit w [(l.length : Int)] (by simp) _) (by have := HL.out; simp; omega)).mono ?_
  rintro e w1 ⟨⟨v, rfl⟩, h1, h2⟩
  have HW1 := Aside0.mk h1
  have HS1 := Aside0.mk ((Step.of_below hb0 HW.out.lt).trans h2)
  clear h1 h2 hb0
  go_wp2_with fail
  go_loopw [15] (fun i wr => ∃ k : Nat, k ≤ l.length ∧ i = .int .i64 (k : Int) ∧ Aside0 (Wr w0 wb wr (out ++ ((l.length : Int) :: (l.take k).flatMap fl))) ∧ Aside0 (Step wb w wr)) (fun i _ => l.length - (intOf i).toNat)
  case atStart => exact ⟨0, Nat.zero_le _, rfl, ⟨by rw [List.take_zero]; exact HW1.out⟩, HS1⟩
  case round =>
    obtain ⟨k, hk, rfl, HWr, HSr⟩ := hrel
    by_cases hlt : k < l.length
    · have hk1 : (k : Int) < (l.length : Int) := by omega
      obtain ⟨ad, rfl, e0⟩ := Kd.at_string (HR.out wr _ HWr.out HSr.out) (k : Int) (by omega) (by omega)
      have hrd : rdOf ByteArray.empty l (k : Int) = l[k] := by simp [rdOf, List.getD_eq_getElem?_getD, hlt]
      rw [hrd, Int.toNat_natCast] at e0
      have HE := Aside0.mk (HF.out l[k] (List.getElem_mem _))
      have HTK := Aside0.mk (show (l.take (k + 1)).flatMap fl = (l.take k).flatMap fl ++ fl l[k] by rw [List.take_succ_eq_append_getElem hlt, List.flatMap_append, List.flatMap_cons, List.flatMap_nil, List.append_nil])
      have HLE := Aside0.mk (show ((l.take k).flatMap fl).length + (fl l[k]).length ≤ (l.flatMap fl).length by
        have h := congrArg (fun m => (List.flatMap fl m).length) (List.take_append_drop (k + 1) l)
        simp only [List.flatMap_append, List.length_append] at h
        rw [HTK.out, List.length_append] at h
        omega)
      generalize l[k] = x at e0 HE HTK HLE
      clear hrd
      have HCL := Aside0.mk (HE.out.calls wr _ HWr.out HSr.out (by have := HL.out; have := HLE.out; simp only [List.length_append, List.length_cons]; omega))
      go_wp2_with fail
      refine HCL.out.mono ?_
      rintro e w2 ⟨⟨v, rfl⟩, h1, h2⟩
      have HW2 := Aside0.mk h1
      have HS2 := Aside0.mk (HSr.out.trans h2)
      clear h1 h2 HCL
      go_wp2
      go_roundw
      case rel => exact ⟨k + 1, by omega, by go_num, ⟨by rw [HTK.out]; have := HW2.out; rwa [List.append_assoc] at this⟩, HS2⟩
      case measure => simp [intOf]; omega
    · obtain rfl : k = l.length := by omega
      go_wp2
      go_end0
      refine ⟨⟨_, rfl⟩, ?_, HSr.out⟩
      have := HWr.out
      rwa [List.take_length] at this
end Go.Proofs.Ytblalidpeccabab.Sn
