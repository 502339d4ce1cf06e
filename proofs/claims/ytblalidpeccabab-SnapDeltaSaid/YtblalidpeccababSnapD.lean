/- snap.reader: num, some of nothing, octet, some bytes, text, some texts. -/
import Derived.Test.YtblalidpeccababSnapC
namespace Go.Proofs.Ytblalidpeccabab.Sn
open Go.Proofs.YtblalidpeccababW
open Go Go.RowKit Go.Lib Go.Proofs.YtblalidpeccababW.PrintWords Go.Proofs.YtblalidpeccababW.PrintLast Go.Proofs.YtblalidpeccababW.PrintMore Go.Proofs.Ytblalidpeccabab.PSnapDelta Go.Proofs.Ytblalidpeccabab.Bs
set_option linter.unusedVariables false
set_option linter.unusedSimpArgs false

/-- block rb is a reader that still has rest; that lies in w0 -/
structure Rd (w0 : World) (rb : Nat) (w : World) (rest : List Int) : Prop where mk ::
  le : w0.heap.size ≤ rb
  blk : ∃ A c, w.heap[rb]? = some (.cells #[.slice A rest.length c, .bool false] 88 (0, 0)) ∧ rest.length ≤ c ∧ ReadsInt w0 .i64 A rest.length rest
  below : Below w0.heap.size w0 w
theorem Rd.lt {w0 w : World} {rb : Nat} {rest : List Int} (h : Rd w0 rb w rest) : rb < w.heap.size := by
  obtain ⟨A, c, h1, _⟩ := h.blk
  exact blk_lt h1
theorem Rd.keep {w0 w w1 : World} {rb : Nat} {rest : List Int} (h : Rd w0 rb w rest) {row : Option Nat} (hg : w.grownBy w1 row) (hne : some rb ≠ row) (hge : ∀ k, row = some k → w0.heap.size ≤ k) : Rd w0 rb w1 rest := by
  obtain ⟨A, c, h1, h2, h3⟩ := h.blk
  exact ⟨h.le, ⟨A, c, blk_grown h1 hg hne, h2, h3⟩, h.below.grown hg h.below.size hge⟩
theorem grown_trans {a b c : World} {r : Option Nat} (h : a.grownBy b r) (k : b.grownBy c r) : a.grownBy c r :=
  ⟨k.os.trans h.os, k.tape.trans h.tape, k.output.trans h.output, Nat.le_trans h.size k.size, fun i hi hr => (k.block i (Nat.lt_of_lt_of_le hi h.size) hr).trans (h.block i hi hr)⟩

theorem grown_set (w : World) (b o : Nat) (u : Value) : w.grownBy (w.setCell ⟨b, o, none⟩ u) (some b) :=
  ⟨rfl, rfl, rfl, by simp [World.setCell], fun i _ hr => Below.heap_setCell w ⟨b, o, none⟩ u i (fun e => hr (by rw [e]))⟩
set_option maxHeartbeats 8000000 in
set_option maxRecDepth 100000 in
theorem num_calls (w0 : World) (rb : Nat) (w : World) (n : Int) (rest : List Int) (h : Rd w0 rb w (n :: rest)) :
    Calls Try.prog 47 #[.pointer (some ⟨rb, 0, none⟩)] w fun e w' => e = .returned (.int .i64 n) ∧ Rd w0 rb w' rest ∧ w.grownBy w' (some rb) := by
  obtain ⟨A, c, h1, h2, h3⟩ := h.blk
  obtain ⟨ad, rfl, hc0⟩ := h3.2.2 (by simp)
  have e0 := blk_cell h1 0
  have e1 := blk_cell h1 1
  have f0 := blk_frozen h1 0
  simp only [List.getElem?_toArray, List.getElem?_cons_zero, List.getElem?_cons_succ, List.length_cons] at e0 e1
  have x0 := hc0 0 (by simp)
  rw [show (n :: rest).getD 0 0 = n from rfl] at x0
  have x1 : w.cell? ad = some (.int .i64 n) := (h.below.cell (World.block_lt_of_cell? w0 _ x0)).trans x0
  have hmax := h3.2.1
  simp only [List.length_cons] at hmax h2
  have HD := Aside0.mk (ReadsInt.drop_ (c := c) h3 1 (by simp) (by simp; omega))
  have H := Aside0.mk h
  have HK := Aside0.mk h1
  have hl0 : (0 : Int) < (rest.length : Int) + 1 := by omega
  have hl1 : (1 : Int) ≤ (rest.length : Int) + 1 := by omega
  by_cases hc1 : c = 1
  · subst hc1
    have hr0 : rest = [] := List.eq_nil_of_length_eq_zero (by omega)
    subst hr0
    clear h h1 h2 h3 hc0 x0 hl0 hl1 hmax
    simp only [List.length_nil, Nat.zero_add] at e0
    go_enter Try.func47, Try.ntmps47
    go_wp2
    go_ret
    refine ⟨rfl, ⟨H.out.le, ⟨some ad, 0, blk_put HK.out 0 _ (by simp), Nat.le_refl _, rfl, by simp, fun h => absurd h (by simp)⟩, H.out.below.setCell (p := ⟨rb, 0, none⟩) H.out.le _⟩, grown_set _ _ _ _⟩
  · have hc2 : ¬ c = 1 := hc1
    have hz : ((rest.length : Int) + 1 == 0) = false := beq_eq_false_iff_ne.mpr (by omega)
    have HC := Aside0.mk h2
    clear h h1 h3 hc0 x0
    go_enter Try.func47, Try.ntmps47
    go_wp2
    go_ret
    have hd := HD.out
    rw [if_neg hc2] at hd
    refine ⟨rfl, ⟨H.out.le, ⟨some ⟨ad.block, ad.off + 1, none⟩, c - 1, blk_put HK.out 0 _ (by simp), by have := HC.out; omega, ?_⟩, H.out.below.setCell (p := ⟨rb, 0, none⟩) H.out.le _⟩, grown_set _ _ _ _⟩
    have e : (some ad).map (·.add 1) = some (⟨ad.block, ad.off + 1, none⟩ : Addr) := rfl
    rw [e] at hd
    exact hd

set_option maxHeartbeats 8000000 in
set_option maxRecDepth 100000 in
theorem some35_zero (w0 : World) (rb : Nat) (w : World) (rest : List Int) (pre cap : Array Value) (g : FuncId) (h : Rd w0 rb w (0 :: rest)) :
    Calls Try.prog 35 #[.pointer (some ⟨rb, 0, none⟩), .func (.func g) pre cap] w fun e w' => e = .returned (.slice none 0 0) ∧ Rd w0 rb w' rest ∧ w.grownBy w' (some rb) := by
  have HN := Aside0.mk (num_calls w0 rb w 0 rest h)
  clear h
  go_enter Try.func35, Try.ntmps35
  go_wp2_with fail
  refine HN.out.mono ?_
  rintro e w1 ⟨rfl, h1, h2⟩
  obtain ⟨A1, c1, k1, k2, k3⟩ := h1.blk
  have e0 := blk_cell k1 0
  have e1 := blk_cell k1 1
  simp only [List.getElem?_toArray, List.getElem?_cons_zero, List.getElem?_cons_succ] at e0 e1
  have H1 := Aside0.mk h1
  have H2 := Aside0.mk h2
  clear h1 h2 k1 k2 k3 HN
  go_wp2_with fail
  go_loopw [6, 7] (fun a i wr => a = .slice none 0 0 ∧ i = .int .i64 0 ∧ w1 = wr) (fun _ _ _ => 0)
  case atStart => exact ⟨rfl, rfl, rfl⟩
  case round =>
    obtain ⟨rfl, rfl, rfl⟩ := hrel
    go_wp2
    go_ret
    exact ⟨rfl, H1.out, H2.out⟩

set_option maxHeartbeats 8000000 in
set_option maxRecDepth 100000 in
theorem some37_zero (w0 : World) (rb : Nat) (w : World) (rest : List Int) (pre cap : Array Value) (g : FuncId) (h : Rd w0 rb w (0 :: rest)) :
    Calls Try.prog 37 #[.pointer (some ⟨rb, 0, none⟩), .func (.func g) pre cap] w fun e w' => e = .returned (.slice none 0 0) ∧ Rd w0 rb w' rest ∧ w.grownBy w' (some rb) := by
  have HN := Aside0.mk (num_calls w0 rb w 0 rest h)
  clear h
  go_enter Try.func37, Try.ntmps37
  go_wp2_with fail
  refine HN.out.mono ?_
  rintro e w1 ⟨rfl, h1, h2⟩
  obtain ⟨A1, c1, k1, k2, k3⟩ := h1.blk
  have e0 := blk_cell k1 0
  have e1 := blk_cell k1 1
  simp only [List.getElem?_toArray, List.getElem?_cons_zero, List.getElem?_cons_succ] at e0 e1
  have H1 := Aside0.mk h1
  have H2 := Aside0.mk h2
  clear h1 h2 k1 k2 k3 HN
  go_wp2_with fail
  go_loopw [6, 7] (fun a i wr => a = .slice none 0 0 ∧ i = .int .i64 0 ∧ w1 = wr) (fun _ _ _ => 0)
  case atStart => exact ⟨rfl, rfl, rfl⟩
  case round =>
    obtain ⟨rfl, rfl, rfl⟩ := hrel
    go_wp2
    go_ret
    exact ⟨rfl, H1.out, H2.out⟩

set_option maxHeartbeats 8000000 in
set_option maxRecDepth 100000 in
theorem some41_zero (w0 : World) (rb : Nat) (w : World) (rest : List Int) (pre cap : Array Value) (g : FuncId) (h : Rd w0 rb w (0 :: rest)) :
    Calls Try.prog 41 #[.pointer (some ⟨rb, 0, none⟩), .func (.func g) pre cap] w fun e w' => e = .returned (.slice none 0 0) ∧ Rd w0 rb w' rest ∧ w.grownBy w' (some rb) := by
  have HN := Aside0.mk (num_calls w0 rb w 0 rest h)
  clear h
  go_enter Try.func41, Try.ntmps41
  go_wp2_with fail
  refine HN.out.mono ?_
  rintro e w1 ⟨rfl, h1, h2⟩
  obtain ⟨A1, c1, k1, k2, k3⟩ := h1.blk
  have e0 := blk_cell k1 0
  have e1 := blk_cell k1 1
  simp only [List.getElem?_toArray, List.getElem?_cons_zero, List.getElem?_cons_succ] at e0 e1
  have H1 := Aside0.mk h1
  have H2 := Aside0.mk h2
  clear h1 h2 k1 k2 k3 HN
  go_wp2_with fail
  go_loopw [6, 7] (fun a i wr => a = .slice none 0 0 ∧ i = .int .i64 0 ∧ w1 = wr) (fun _ _ _ => 0)
  case atStart => exact ⟨rfl, rfl, rfl⟩
  case round =>
    obtain ⟨rfl, rfl, rfl⟩ := hrel
    go_wp2
    go_ret
    exact ⟨rfl, H1.out, H2.out⟩

set_option maxHeartbeats 8000000 in
set_option maxRecDepth 100000 in
theorem some43_zero (w0 : World) (rb : Nat) (w : World) (rest : List Int) (pre cap : Array Value) (g : FuncId) (h : Rd w0 rb w (0 :: rest)) :
    Calls Try.prog 43 #[.pointer (some ⟨rb, 0, none⟩), .func (.func g) pre cap] w fun e w' => e = .returned (.slice none 0 0) ∧ Rd w0 rb w' rest ∧ w.grownBy w' (some rb) := by
  have HN := Aside0.mk (num_calls w0 rb w 0 rest h)
  clear h
  go_enter Try.func43, Try.ntmps43
  go_wp2_with fail
  refine HN.out.mono ?_
  rintro e w1 ⟨rfl, h1, h2⟩
  obtain ⟨A1, c1, k1, k2, k3⟩ := h1.blk
  have e0 := blk_cell k1 0
  have e1 := blk_cell k1 1
  simp only [List.getElem?_toArray, List.getElem?_cons_zero, List.getElem?_cons_succ] at e0 e1
  have H1 := Aside0.mk h1
  have H2 := Aside0.mk h2
  clear h1 h2 k1 k2 k3 HN
  go_wp2_with fail
  go_loopw [6, 7] (fun a i wr => a = .slice none 0 0 ∧ i = .int .i64 0 ∧ w1 = wr) (fun _ _ _ => 0)
  case atStart => exact ⟨rfl, rfl, rfl⟩
  case round =>
    obtain ⟨rfl, rfl, rfl⟩ := hrel
    go_wp2
    go_ret
    exact ⟨rfl, H1.out, H2.out⟩

set_option maxHeartbeats 8000000 in
set_option maxRecDepth 100000 in
theorem some45_zero (w0 : World) (rb : Nat) (w : World) (rest : List Int) (pre cap : Array Value) (g : FuncId) (h : Rd w0 rb w (0 :: rest)) :
    Calls Try.prog 45 #[.pointer (some ⟨rb, 0, none⟩), .func (.func g) pre cap] w fun e w' => e = .returned (.slice none 0 0) ∧ Rd w0 rb w' rest ∧ w.grownBy w' (some rb) := by
  have HN := Aside0.mk (num_calls w0 rb w 0 rest h)
  clear h
  go_enter Try.func45, Try.ntmps45
  go_wp2_with fail
  refine HN.out.mono ?_
  rintro e w1 ⟨rfl, h1, h2⟩
  obtain ⟨A1, c1, k1, k2, k3⟩ := h1.blk
  have e0 := blk_cell k1 0
  have e1 := blk_cell k1 1
  simp only [List.getElem?_toArray, List.getElem?_cons_zero, List.getElem?_cons_succ] at e0 e1
  have H1 := Aside0.mk h1
  have H2 := Aside0.mk h2
  clear h1 h2 k1 k2 k3 HN
  go_wp2_with fail
  go_loopw [6, 7] (fun a i wr => a = .slice none 0 0 ∧ i = .int .i64 0 ∧ w1 = wr) (fun _ _ _ => 0)
  case atStart => exact ⟨rfl, rfl, rfl⟩
  case round =>
    obtain ⟨rfl, rfl, rfl⟩ := hrel
    go_wp2
    go_ret
    exact ⟨rfl, H1.out, H2.out⟩

set_option maxHeartbeats 8000000 in
set_option maxRecDepth 100000 in
theorem octet_calls (w0 : World) (rb : Nat) (w : World) (n : Int) (rest : List Int) (h : Rd w0 rb w (n :: rest)) (h0 : 0 ≤ n) (h255 : n ≤ 255) :
    Calls Try.prog 65 #[.pointer (some ⟨rb, 0, none⟩)] w fun e w' => e = .returned (.int .u8 n) ∧ Rd w0 rb w' rest ∧ w.grownBy w' (some rb) := by
  have HN := Aside0.mk (num_calls w0 rb w n rest h)
  clear h
  go_enter Try.func65, Try.ntmps65
  go_wp2_with fail
  refine HN.out.mono ?_
  rintro e w1 ⟨rfl, h1, h2⟩
  obtain ⟨A1, c1, k1, k2, k3⟩ := h1.blk
  have e1 := blk_cell k1 1
  have f1 := blk_frozen k1 1
  simp only [List.getElem?_toArray, List.getElem?_cons_zero, List.getElem?_cons_succ] at e1
  have q1 : decide (n < 0) = false := decide_eq_false (by omega)
  have q2 : decide (255 < n) = false := decide_eq_false (by omega)
  have H1 := Aside0.mk h1
  have H2 := Aside0.mk h2
  have K1 := Aside0.mk k1
  have K2 := Aside0.mk (And.intro k2 k3)
  clear h1 h2 k1 k2 k3 HN
  go_wp2
  go_ret
  refine ⟨rfl, ⟨H1.out.le, ⟨A1, c1, blk_put K1.out 1 _ (by simp), K2.out.1, K2.out.2⟩, H1.out.below.setCell (p := ⟨rb, 1, none⟩) H1.out.le _⟩, grown_trans H2.out (grown_set _ _ _ _)⟩
end Go.Proofs.Ytblalidpeccabab.Sn
