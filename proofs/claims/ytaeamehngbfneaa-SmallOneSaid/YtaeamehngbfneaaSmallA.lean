/- slices.Clone at []int, small.without, small.Without: their walks. -/
import Derived.Test.YtaeamehngbfneaaConcat
import Derived.Lib.LazyBuf
import Derived.Deep.RegionWith
import Derived.Outline
namespace Go.Proofs.Ytaeamehngbfneaa.Sl
open Go Go.RowKit Go.Lib Go.Proofs.YtaeamehngbfneaaW.PrintWords
set_option linter.unusedVariables false
set_option linter.unusedSimpArgs false

set_option maxHeartbeats 4000000 in
set_option maxRecDepth 100000 in
theorem clone_calls (w : World) (A : Option Addr) (c : Nat) (xs : List Int) (hr : ReadsInt w .i64 A xs.length xs) (hc : xs.length ≤ c) (hb : xs.length * 8 ≤ 140737488355328) :
    Calls Try.prog 23 #[.slice A xs.length c] w (Made w xs) := by
  have HR := Aside0.mk hr
  have hq := fun W : World => run_eql_slice_nil (P := Try.prog) W 22 3 A xs.length c Try.underlying22
  cases A with
  | none =>
    have h0 : xs = [] := by
      cases xs with
      | nil => rfl
      | cons x xs => obtain ⟨ad, e, _⟩ := hr.2.2 (by simp); cases e
    subst h0
    clear hr HR hb
    simp only [Option.isNone_none, List.length_nil] at hq
    go_enter Try.func23, Try.ntmps23
    go_wp2
    go_ret
    exact ⟨_, rfl, World.ownsRow_nil _ _ _ _, Below.refl _ _⟩
  | some ad =>
    simp only [Option.isNone_some] at hq
    have HF := Aside0.mk hb
    clear hr hb
    go_enter Try.func23, Try.ntmps23
    go_wp2_with (at_builtin; refine print_append_row (w0 := w) w.heap.size rfl _ _ 22 3 .i64 8 rfl Try.underlying22 infoInt (by decide) _ [] xs (some ad) xs.length c rfl rfl (World.ownsRow_made w #[] 0 (Nat.le_refl _) (by decide) rfl) (HR.out.below (below_alloc (Below.refl _ _) _)) (below_alloc (Below.refl _ _) _) (by simp) (by simpa using HF.out) ?_; intro v1 w1 hown hB hg hat; have HO1 := Aside0.mk hown; have HB1 := Aside0.mk hB; clear hown hB hg hat)
    go_ret
    exact ⟨_, rfl, by simpa using HO1.out, HB1.out⟩

/-- two lists laid side by side -/
theorem two_lists {W : World} {g : Nat} {A1 A2 : Option Addr} {n1 n2 c1 c2 : Nat} {xs ys : List Int} {T : TypeId} (hblk : W.heap[g]? = some (.cells #[.slice A1 n1 c1, .slice A2 n2 c2] T (0, 0)))
    (h1 : ReadsInt W .i64 A1 n1 xs) (h2 : ReadsInt W .i64 A2 n2 ys) (l1 : n1 ≤ c1) (l2 : n2 ≤ c2) :
    Kd.C (Kd.slice 3 (Kd.int .i64)) W (some ⟨g, 0, none⟩) ([xs, ys] : List (List Int)).length [xs, ys] := by
  obtain rfl := h1.1
  obtain rfl := h2.1
  refine ⟨rfl, by simp, fun _ => ⟨⟨g, 0, none⟩, rfl, fun j p hj => ?_⟩⟩
  match j, hj with
  | 0, hj =>
    obtain rfl : xs = p := by simpa using hj
    refine ⟨_, rfl, ⟨A1, c1, rfl, l1, Kd.C_of_reads (d := (0 : Int)) (h1 := fun _ => rfl) h1⟩, fun i u hu => ?_⟩
    have hi : i = 0 := by
      have := (List.getElem?_eq_some_iff.1 hu).1
      simp at this; omega
    subst hi
    have h0 : (.slice A1 xs.length c1 : Value) = u := by simpa using hu
    subst h0
    exact blk_cell hblk 0
  | 1, hj =>
    obtain rfl : ys = p := by simpa using hj
    refine ⟨_, rfl, ⟨A2, c2, rfl, l2, Kd.C_of_reads (d := (0 : Int)) (h1 := fun _ => rfl) h2⟩, fun i u hu => ?_⟩
    have hi : i = 0 := by
      have := (List.getElem?_eq_some_iff.1 hu).1
      simp at this; omega
    subst hi
    have h0 : (.slice A2 ys.length c2 : Value) = u := by simpa using hu
    subst h0
    exact blk_cell hblk 1
  | j + 2, hj => simp at hj

theorem concat2 {w0 W : World} {g : Nat} {A1 A2 : Option Addr} {n1 n2 c1 c2 : Nat} {xs ys : List Int} {T : TypeId} (hblk : W.heap[g]? = some (.cells #[.slice A1 n1 c1, .slice A2 n2 c2] T (0, 0)))
    (h1 : ReadsInt W .i64 A1 n1 xs) (h2 : ReadsInt W .i64 A2 n2 ys) (l1 : n1 ≤ c1) (l2 : n2 ≤ c2) (hbel : Below w0.heap.size w0 W) (hb : (xs ++ ys).length * 8 ≤ 140737488355328) :
    Calls Try.prog 29 #[.slice (some ⟨g, 0, none⟩) 2 2] W (Made w0 (xs ++ ys)) := by
  refine (concat_calls W (some ⟨g, 0, none⟩) 2 [xs, ys] (two_lists hblk h1 h2 l1 l2) (Nat.le_refl 2) (by simpa using hb)).mono ?_
  rintro e w' ⟨v, rfl, ho, hb'⟩
  exact ⟨v, rfl, by simpa using own_less ho hbel.size, below_then hbel hbel.size hb'⟩

set_option maxHeartbeats 4000000 in
set_option maxRecDepth 100000 in
theorem without_calls (w : World) (A : Option Addr) (c : Nat) (xs : List Int) (f t : Int) (hr : ReadsInt w .i64 A xs.length xs) (hc : xs.length ≤ c) (hb : xs.length * 8 ≤ 140737488355328) (h0 : 0 ≤ f) (h1 : f ≤ t) (h2 : t ≤ xs.length) :
    Calls Try.prog 25 #[.slice A xs.length c, .int .i64 f, .int .i64 t] w (Made w (xs.take f.toNat ++ xs.drop t.toNat)) := by
  obtain ⟨i0, hi, hz0, hz1, hz2⟩ := info_parts infoInt
  obtain ⟨A2, hcut, hrd, hle⟩ := print_cut_int (P := Try.prog) (k := .i64) 22 3 Try.underlying22 hi hz1 A c xs t (by omega) h2 hc
  have hcf : ∀ W : World, (Instr.slice 22 (.slice A xs.length c) none (some (.int .i64 f)) none).run Try.prog W = .ok (.slice A f.toNat c) W := by
    intro W
    go_simp
    omega
  obtain ⟨ys, hys⟩ : ∃ ys, ys = xs.drop t.toNat := ⟨_, rfl⟩
  obtain ⟨n2, hn2⟩ : ∃ n2, n2 = ys.length := ⟨_, rfl⟩
  obtain ⟨n1, hn1⟩ : ∃ n1, n1 = f.toNat := ⟨_, rfl⟩
  obtain ⟨c2, hc2⟩ : ∃ c2, c2 = c - t.toNat := ⟨_, rfl⟩
  rw [← hys, ← hn2, ← hc2] at hcut hle
  rw [← hn1] at hcf
  have h2r := hrd w hr
  rw [← hys, ← hn2] at h2r
  have h1r : ReadsInt w .i64 A n1 (xs.take n1) := hr.take_ n1 (by omega)
  have hl : (xs.take n1 ++ ys).length * 8 ≤ 140737488355328 := by
    rw [List.length_append, List.length_take, hys, List.length_drop]
    omega
  have HP := Aside0.mk (show xs.take f.toNat ++ xs.drop t.toNat = xs.take n1 ++ ys by rw [hn1, hys])
  have H1 := Aside0.mk h1r
  have H2 := Aside0.mk h2r
  have HL := Aside0.mk hl
  have HL1 := Aside0.mk (show n1 ≤ c by omega)
  have HL2 := Aside0.mk hle
  clear hr hrd hb hi hz0 hz1 hz2 hys hn2 hn1 hc2 h1r h2r hl hle
  rw [HP.out]
  go_enter Try.func25, Try.ntmps25
  go_wp2_with fail
  go_region_with (go_at_call 29; refine (concat2 (w0 := w) (W := (w.alloc (.cells #[.slice A n1 c, .slice A2 n2 c2] 22)).drew) (g := w.heap.size) (A1 := A) (A2 := A2) (n1 := n1) (n2 := n2) (c1 := c) (c2 := c2) (xs := xs.take n1) (ys := ys) (heap_alloc_new w _) (H1.out.below (below_drew (below_alloc (Below.refl _ _) _))) (H2.out.below (below_drew (below_alloc (Below.refl _ _) _))) HL1.out HL2.out (below_drew (below_alloc (Below.refl _ _) _)) HL.out).mono ?_; rintro e w1 ⟨v, rfl, hown, hbel⟩)
  all_goals
    go_wp2
    go_ret
    exact ⟨_, rfl, hown, hbel⟩

end Go.Proofs.Ytaeamehngbfneaa.Sl
