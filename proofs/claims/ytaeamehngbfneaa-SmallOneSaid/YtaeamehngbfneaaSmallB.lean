/- small.Without and asker.ask: their walks. -/
import Derived.Test.YtaeamehngbfneaaSmallA
import Derived.Deep.RegionHeld3
namespace Go.Proofs.Ytaeamehngbfneaa.Sl
open Go Go.RowKit Go.Lib Go.Proofs.YtaeamehngbfneaaW.PrintWords
set_option linter.unusedVariables false
set_option linter.unusedSimpArgs false

/-- a row of the call's own that holds xs, and no error -/
def MadeOk (w : World) (xs : List Int) (e : Ending) (w' : World) : Prop :=
  ∃ v, e = .returned (.tuple #[v, .int .i64 0]) ∧ w'.ownsRow w.heap.size 3 1 v xs.length (nums .i64 xs) ∧ Below w.heap.size w w'

set_option maxHeartbeats 4000000 in
set_option maxRecDepth 100000 in
theorem Without_ok (w : World) (A : Option Addr) (c : Nat) (xs : List Int) (f t : Int) (hr : ReadsInt w .i64 A xs.length xs) (hc : xs.length ≤ c) (hn : xs.length ≤ 200) (h0 : 0 ≤ f) (h1 : f ≤ t) (h2 : t ≤ xs.length) :
    Calls Try.prog 12 #[.slice A xs.length c, .int .i64 f, .int .i64 t] w (MadeOk w (xs.take f.toNat ++ xs.drop t.toNat)) := by
  have HR := Aside0.mk hr
  have HC := Aside0.mk hc
  have d1 : decide ((200 : Int) < xs.length) = false := decide_eq_false (by omega)
  have d2 : decide (f < 0) = false := decide_eq_false (by omega)
  have d3 : decide (t < f) = false := decide_eq_false (by omega)
  have d4 : decide ((xs.length : Int) < t) = false := decide_eq_false (by omega)
  clear hr hc
  go_enter Try.func12, Try.ntmps12
  go_wp2_with fail
  refine (without_calls _ A c xs f t HR.out HC.out (by omega) h0 h1 h2).mono ?_
  rintro e w' ⟨v, rfl, hown, hbel⟩
  have HO := Aside0.mk hown
  have HB := Aside0.mk hbel
  clear hown hbel
  go_wp2
  go_ret2
  exact ⟨_, rfl, HO.out, HB.out⟩

set_option maxHeartbeats 4000000 in
set_option maxRecDepth 100000 in
theorem Without_large (w : World) (A : Option Addr) (c n : Nat) (f t : Int) (hn : 200 < n) :
    Calls Try.prog 12 #[.slice A n c, .int .i64 f, .int .i64 t] w fun e w' => e = .returned (.tuple #[.slice none 0 0, .int .i64 2]) ∧ w = w' := by
  have d1 : decide ((200 : Int) < n) = true := decide_eq_true (by omega)
  go_enter Try.func12, Try.ntmps12
  go_wp2
  go_ret2
  exact ⟨rfl, rfl⟩

set_option maxHeartbeats 4000000 in
set_option maxRecDepth 100000 in
theorem Without_arg (w : World) (A : Option Addr) (c n : Nat) (f t : Int) (hn : n ≤ 200) (h : ¬ (0 ≤ f ∧ f ≤ t ∧ t ≤ n)) :
    Calls Try.prog 12 #[.slice A n c, .int .i64 f, .int .i64 t] w fun e w' => e = .returned (.tuple #[.slice none 0 0, .int .i64 1]) ∧ w = w' := by
  have d1 : decide ((200 : Int) < n) = false := decide_eq_false (by omega)
  by_cases h0 : f < 0
  · have d2 : decide (f < 0) = true := decide_eq_true h0
    clear h h0
    go_enter Try.func12, Try.ntmps12
    go_wp2
    go_ret2
    exact ⟨rfl, rfl⟩
  · have d2 : decide (f < 0) = false := decide_eq_false h0
    by_cases h1 : t < f
    · have d3 : decide (t < f) = true := decide_eq_true h1
      clear h
      go_enter Try.func12, Try.ntmps12
      go_wp2
      go_ret2
      exact ⟨rfl, rfl⟩
    · have d3 : decide (t < f) = false := decide_eq_false h1
      have d4 : decide ((n : Int) < t) = true := decide_eq_true (by omega)
      clear h
      go_enter Try.func12, Try.ntmps12
      go_wp2
      go_ret2
      exact ⟨rfl, rfl⟩

/-- a function value that answers p, from the world w0 on -/
structure Holds (f : FuncId) (cap : Array Value) (w0 : World) (p : List Int → Bool) : Prop where
  eg : ∀ args w, (callFunc f args).run Try.prog w = .ok (.enter f args) w
  calls : ∀ (w : World) (A : Option Addr) (c : Nat) (xs : List Int), Below w0.heap.size w0 w → ReadsInt w .i64 A xs.length xs → xs.length ≤ c → xs.length ≤ 200 →
    Calls Try.prog f (#[.slice A xs.length c] ++ cap) w fun e w' => e = .returned (.bool (p xs)) ∧ Below w.heap.size w w'

/-- the asker's block -/
def Asker (w : World) (g : Nat) (fv : Value) (m : Int) : Prop := w.heap[g]? = some (.cells #[fv, .int .i64 m] 44 (0, 0))

/-- a list that is read, whatever becomes of block g -/
def Rd (w : World) (g : Nat) (A : Option Addr) (xs : List Int) : Prop := ∀ w', w.grownBy w' (some g) → ReadsInt w' .i64 A xs.length xs

theorem grown_trans {w w1 w2 : World} {row : Option Nat} (h : w.grownBy w1 row) (k : w1.grownBy w2 row) : w.grownBy w2 row :=
  ⟨k.os.trans h.os, k.tape.trans h.tape, k.output.trans h.output, Nat.le_trans h.size k.size, fun i hi hr => (k.block i (Nat.lt_of_lt_of_le hi h.size) hr).trans (h.block i hi hr)⟩
theorem grown_refl (w : World) (row : Option Nat) : w.grownBy w row := ⟨rfl, rfl, rfl, Nat.le_refl _, fun _ _ _ => rfl⟩
theorem grown_set (w : World) (g j : Nat) (u : Value) : w.grownBy (w.setCell ⟨g, j, none⟩ u) (some g) :=
  have h : Below 0 w (w.setCell ⟨g, j, none⟩ u) := (Below.refl 0 w).setCell (p := ⟨g, j, none⟩) (Nat.zero_le _) u
  ⟨h.os, h.tape, h.output, h.size, fun i hi hr => Below.heap_setCell w ⟨g, j, none⟩ u i (fun e => hr (by rw [e]))⟩
theorem Rd.on {w w1 : World} {g : Nat} {A : Option Addr} {xs : List Int} (h : Rd w g A xs) (hg : w.grownBy w1 (some g)) : Rd w1 g A xs := fun _ k => h _ (grown_trans hg k)
theorem Rd.now {w : World} {g : Nat} {A : Option Addr} {xs : List Int} (h : Rd w g A xs) : ReadsInt w .i64 A xs.length xs := h w (grown_refl w _)

/-- an owned row, read -/
theorem own_rd {w : World} {B : Nat} {v : Value} {xs : List Int} (h : w.ownsRow B 3 1 v xs.length (nums .i64 xs)) : ∃ A c, v = .slice A xs.length c ∧ xs.length ≤ c ∧ ReadsInt w .i64 A xs.length xs := by
  obtain ⟨A, c, rfl, hr⟩ := own_reads h
  refine ⟨A, c, rfl, ?_, hr⟩
  rcases h.2 with ⟨e, hn⟩ | ⟨g, cap, cur, e, _, _, hl, _⟩
  · rw [hn]; exact Nat.zero_le _
  · simp only [Value.slice.injEq] at e
    obtain ⟨_, _, rfl⟩ := e
    exact hl

set_option maxHeartbeats 8000000 in
set_option maxRecDepth 100000 in
theorem ask_calls (f : FuncId) (cap : Array Value) (w0 : World) (p : List Int → Bool) (hf : Holds f cap w0 p) (w : World) (g : Nat) (m : Int) (A : Option Addr) (c : Nat) (xs : List Int)
    (h0 : Below w0.heap.size w0 w) (hg0 : w0.heap.size ≤ g) (hg : Asker w g (.func (.func f) #[] cap) m) (hm0 : 0 ≤ m) (hm : m ≤ 1000000) (hr : Rd w g A xs) (hc : xs.length ≤ c) (hn : xs.length ≤ 200) :
    Calls Try.prog 22 #[.pointer (some ⟨g, 0, none⟩), .slice A xs.length c] w fun e w' => e = .returned (.bool (p xs)) ∧ Asker w' g (.func (.func f) #[] cap) (m + 1) ∧ w.grownBy w' (some g) := by
  have hc0 := blk_cell hg 0
  have hc1 := blk_cell hg 1
  have hf0 := blk_frozen hg 0
  have hf1 := blk_frozen hg 1
  simp only [List.getElem?_toArray, List.getElem?_cons_zero, List.getElem?_cons_succ] at hc0 hc1
  have HR := Aside0.mk hr
  have HG := Aside0.mk hg
  have H0 := Aside0.mk h0
  have HF := Aside0.mk hf
  clear hr hg h0 hf
  go_enter Try.func22, Try.ntmps22
  go_wp2_with fail
  obtain ⟨W1, hW1⟩ : ∃ W1, W1 = w.setCell ⟨g, 1, none⟩ (.int .i64 (m + 1)) := ⟨_, rfl⟩
  rw [← hW1]
  have hG1 : w.grownBy W1 (some g) := by rw [hW1]; exact grown_set w g 1 _
  have hA1 : Asker W1 g (.func (.func f) #[] cap) (m + 1) := by rw [hW1]; exact blk_set HG.out 1 (.int .i64 (m + 1))
  have hB1 : Below w0.heap.size w0 W1 := by rw [hW1]; exact H0.out.setCell (p := ⟨g, 1, none⟩) hg0 _
  clear hW1 hc0 hc1 hf0 hf1
  have hc0 := blk_cell hA1 0
  simp only [List.getElem?_toArray, List.getElem?_cons_zero] at hc0
  have HA1 := Aside0.mk hA1
  have HG1 := Aside0.mk hG1
  have HB1 := Aside0.mk hB1
  have HRD := Aside0.mk ((HR.out.on hG1).now)
  clear hA1 hG1 hB1
  have eg := HF.out.eg
  go_region_held3 (fun w' => w'.cell? ⟨g, 0, none⟩ = some (.func (.func f) #[] cap) ∧ Below W1.heap.size W1 w')
    (first | exact ⟨hc0, below_drew (Below.refl _ _)⟩ | exact ⟨(hbel3.out.cell (World.block_lt_of_cell? W1 _ hc0)).trans hc0, hbel3.out⟩ | exact ⟨(hbel.out.cell (World.block_lt_of_cell? W1 _ hc0)).trans hc0, hbel.out⟩)
    (first | (go_at_call 23; refine (clone_calls _ A c xs (HRD.out.below (below_drew (Below.refl _ _))) hc (by omega)).mono ?_; rintro e w2 ⟨v, rfl, hown, hb⟩; have hbel := Aside0.mk (show Below W1.heap.size W1 w2 from below_then (below_drew (Below.refl _ W1)) (Nat.le_refl _) hb); have HO := Aside0.mk hown; clear hb hown; obtain ⟨A2, c2, rfl, hle, hrd⟩ := own_rd HO.out; have HRD2 := Aside0.mk hrd; clear hrd) | ((with_reducible refine (HF.out.calls _ A2 c2 xs (below_then HB1.out HB1.out.size hbel.out) HRD2.out hle hn).mono ?_); rintro e w3 ⟨rfl, hb⟩; have hbel3 := Aside0.mk (show Below W1.heap.size W1 w3 from below_step hbel.out hb); clear hb))
  go_wp2
  go_ret
  refine ⟨rfl, ?_, grown_trans HG1.out (grown_of_below hbel3.out _)⟩
  exact (hbel3.out.block g (blk_lt HA1.out)).trans HA1.out

end Go.Proofs.Ytaeamehngbfneaa.Sl
