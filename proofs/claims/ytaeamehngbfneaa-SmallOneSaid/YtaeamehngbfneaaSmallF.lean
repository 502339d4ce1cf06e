/- fact's walk, and the two function values of smallBegun. -/
import Derived.Test.YtaeamehngbfneaaSmallE
import Derived.Laws.EntriesVeiled
namespace Go.Proofs.Ytaeamehngbfneaa.Sl
open Go Go.RowKit Go.Lib Go.Proofs.YtaeamehngbfneaaW.PrintWords Go.Proofs.YtaeamehngbfneaaW.PrintLast Go.Proofs.YtaeamehngbfneaaW.PrintMore Go.Proofs.Ytaeamehngbfneaa.RegionVal Go.Proofs.Ytaeamehngbfneaa.PSmallAll
set_option linter.unusedVariables false
set_option linter.unusedSimpArgs false

theorem enters_of {f : FuncId} {fn : Func} (hf : Try.prog.funcs[f]? = some fn) (hname : (fn.name == "runtime.NumGoroutine") = false) (hb : fn.body.isSome = true) (args : Array Value) (w : World) : (callFunc f args).run Try.prog w = .ok (.enter f args) w := by
  have h1 : fn.name ≠ "runtime.NumGoroutine" := by simpa using hname
  obtain ⟨c, hc⟩ := Option.isSome_iff_exists.1 hb
  simp [callFunc, hf, h1, hc]

/-- a function value is made that answers p -/
def MadeFn (w : World) (p : List Int → Bool) (e : Ending) (w' : World) : Prop :=
  ∃ f cap, e = .returned (.func (.func f) #[] cap) ∧ Holds f cap w' p ∧ Below w.heap.size w w'

def firstOf (need : List Int) : Int := need.getD 0 0

theorem holds_fact {w : World} {g1 g2 g3 : Nat} {which first : Int} {A2 : Option Addr} {c2 : Nat} {need : List Int}
    (h1 : w.cell? ⟨g1, 0, none⟩ = some (.int .i64 which)) (h2 : w.cell? ⟨g2, 0, none⟩ = some (.slice A2 need.length c2)) (h3 : w.cell? ⟨g3, 0, none⟩ = some (.int .i64 first))
    (hr2 : ReadsInt w .i64 A2 need.length need) (hc2 : need.length ≤ c2) (hn2 : need.length ≤ 200) :
    Holds 21 #[.pointer (some ⟨g1, 0, none⟩), .pointer (some ⟨g2, 0, none⟩), .pointer (some ⟨g3, 0, none⟩)] w (factP which first need) where
  eg := enters_of Try.func21 (by kernel_rfl) rfl
  calls := fun w1 A c xs hb hr hc hn => fact1_calls w1 A c xs g1 g2 g3 which first A2 c2 need
    ((hb.cell (World.block_lt_of_cell? w _ h1)).trans h1) ((hb.cell (World.block_lt_of_cell? w _ h2)).trans h2) ((hb.cell (World.block_lt_of_cell? w _ h3)).trans h3) hr hc hn (hr2.below hb) hc2 hn2

theorem cell_top (w : World) (v : Value) (T : TypeId) : (w.alloc (.cells #[v] T)).cell? ⟨w.heap.size, 0, none⟩ = some v := blk_cell (heap_alloc_new w _) 0
theorem three_cells (w : World) (x y z : Value) (T1 T2 T3 : TypeId) :
    let W := ((w.alloc (.cells #[x] T1)).alloc (.cells #[y] T2)).alloc (.cells #[z] T3)
    W.cell? ⟨w.heap.size, 0, none⟩ = some x ∧ W.cell? ⟨w.heap.size + 1, 0, none⟩ = some y ∧ W.cell? ⟨w.heap.size + 1 + 1, 0, none⟩ = some z ∧ Below w.heap.size w W := by
  intro W
  have h1 := cell_top w x T1
  have h2 := cell_top (w.alloc (.cells #[x] T1)) y T2
  have h3 := cell_top ((w.alloc (.cells #[x] T1)).alloc (.cells #[y] T2)) z T3
  have b2 : Below (w.alloc (.cells #[x] T1)).heap.size (w.alloc (.cells #[x] T1)) W := below_alloc (below_alloc (Below.refl _ _) _) _
  have b3 : Below ((w.alloc (.cells #[x] T1)).alloc (.cells #[y] T2)).heap.size ((w.alloc (.cells #[x] T1)).alloc (.cells #[y] T2)) W := below_alloc (Below.refl _ _) _
  refine ⟨(b2.cell (World.block_lt_of_cell? _ _ h1)).trans h1, ?_, ?_, below_alloc (below_alloc (below_alloc (Below.refl _ _) _) _) _⟩
  · rw [World.size_alloc] at h2
    exact (b3.cell (World.block_lt_of_cell? _ _ h2)).trans h2
  · rw [World.size_alloc, World.size_alloc] at h3
    exact h3

set_option maxHeartbeats 8000000 in
set_option maxRecDepth 100000 in
theorem fact_calls (w : World) (which : Int) (A2 : Option Addr) (c2 : Nat) (need : List Int) (hr2 : ReadsInt w .i64 A2 need.length need) (hc2 : need.length ≤ c2) (hn2 : need.length ≤ 200) :
    Calls Try.prog 10 #[.int .i64 which, .slice A2 need.length c2] w (MadeFn w (factP which (firstOf need) need)) := by
  have HR2 := Aside0.mk hr2
  clear hr2
  by_cases h0 : (0 : Int) < (need.length : Int)
  · have d0 := decide_eq_true h0
    have z4 : 0 < need.length := by omega
    obtain ⟨ad, rfl, hcell0⟩ := HR2.out.at_ 0 (by omega) (by omega)
    have hcell0' : w.cell? ad = some (.int .i64 (rd need 0)) := by simpa [Addr.add] using hcell0
    clear hcell0
    have hlt := World.block_lt_of_cell? w _ hcell0'
    have hbel : Below w.heap.size w (((w.alloc (.cells #[.int .i64 which] 3)).alloc (.cells #[.slice (some ad) need.length c2] 22)).alloc (.cells #[.int .i64 0] 3)) := below_alloc (below_alloc (below_alloc (Below.refl _ _) _) _) _
    have hc3 := (hbel.cell hlt).trans hcell0'
    clear hbel hcell0'
    go_enter Try.func10, Try.ntmps10
    go_wp2
    go_ret
    obtain ⟨k1, k2, k3, k4⟩ := three_cells w (.int .i64 which) (.slice (some ad) need.length c2) (.int .i64 (rd need 0)) 3 22 3
    exact ⟨_, _, rfl, holds_fact k1 k2 k3 (HR2.out.below k4) hc2 hn2, k4⟩
  · have d0 := decide_eq_false h0
    obtain rfl : need = [] := by cases need with
      | nil => rfl
      | cons x xs => simp at h0
    clear h0
    go_enter Try.func10, Try.ntmps10
    go_wp2
    go_ret
    obtain ⟨k1, k2, k3, k4⟩ := three_cells w (.int .i64 which) (.slice A2 0 c2) (.int .i64 0) 3 22 3
    exact ⟨_, _, rfl, holds_fact k1 k2 k3 (HR2.out.below k4) hc2 hn2, k4⟩

/-- the first function value of smallBegun: both 1 and 9 -/
def begunP (xs : List Int) : Bool := decide ((1 : Int) ∈ xs) && decide ((9 : Int) ∈ xs)

set_option maxHeartbeats 8000000 in
set_option maxRecDepth 100000 in
theorem begun1_calls (w : World) (A : Option Addr) (c : Nat) (xs : List Int) (hr : ReadsInt w .i64 A xs.length xs) (hc : xs.length ≤ c) (hn : xs.length ≤ 200) :
    Calls Try.prog 19 #[.slice A xs.length c] w fun e w' => e = .returned (.bool (begunP xs)) ∧ Below w.heap.size w w' := by
  have HR := Aside0.mk hr
  clear hr
  obtain ⟨r, hrr⟩ : ∃ r, r = begunP xs := ⟨_, rfl⟩
  have HRR := Aside0.mk hrr
  rw [← hrr]
  clear hrr
  go_enter Try.func19, Try.ntmps19
  go_wp2_with fail
  refine (hasC _ A c xs 1 HR.out hc (by omega)).mono ?_
  rintro e w1 ⟨rfl, hb⟩
  have HB := Aside0.mk hb
  clear hb
  cases h1 : decide ((1 : Int) ∈ xs) with
  | false =>
    have H1 := Aside0.mk h1
    clear h1
    go_wp2
    go_ret
    exact ⟨by rw [HRR.out, begunP, H1.out]; rfl, HB.out⟩
  | true =>
    have H1 := Aside0.mk h1
    clear h1
    go_wp2_with fail
    refine (hasC _ A c xs 9 (HR.out.below HB.out) hc (by omega)).mono ?_
    rintro e w2 ⟨rfl, hb⟩
    have HB2 := Aside0.mk (below_step HB.out hb)
    clear hb
    go_wp2
    go_ret
    exact ⟨by rw [HRR.out, begunP, H1.out]; simp, HB2.out⟩

theorem holds_begun1 (w : World) : Holds 19 #[] w begunP where
  eg := enters_of Try.func19 (by kernel_rfl) rfl
  calls := fun w1 A c xs _ hr hc hn => begun1_calls w1 A c xs hr hc hn

set_option maxHeartbeats 8000000 in
set_option maxRecDepth 100000 in
theorem begun2_calls (w : World) (v : Value) :
    Calls Try.prog 20 #[v] w fun e w' => e = .returned (.bool false) ∧ Below w.heap.size w w' := by
  go_enter Try.func20, Try.ntmps20
  go_wp2
  go_ret
  exact ⟨rfl, Below.refl _ _⟩

theorem holds_begun2 (w : World) : Holds 20 #[] w (fun _ => false) where
  eg := enters_of Try.func20 (by kernel_rfl) rfl
  calls := fun w1 A c xs _ hr hc hn => begun2_calls w1 _
end Go.Proofs.Ytaeamehngbfneaa.Sl
