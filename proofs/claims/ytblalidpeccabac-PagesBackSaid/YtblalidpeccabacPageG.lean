/- pages.there, asked: their walks. pages.page, Get: their walks. pages.Get, Shared: their walks. -/
import Derived.Test.YtblalidpeccabacPageD
namespace Go.Proofs.Ytblalidpeccabac.Pg
open Go Go.RowKit Go.Lib Go.Proofs.YtblalidpeccabacW.PrintWords Go.Proofs.YtblalidpeccabacW.PrintLast Go.Proofs.YtblalidpeccabacW.PrintMore Go.Proofs.Ytblalidpeccabac.PPagesBack Go.Proofs.Ytblalidpeccabac.Bs Go.Proofs.Ytblalidpeccabac.RegionVal
set_option linter.unusedVariables false
set_option linter.unusedSimpArgs false

def okv (s : St) (x : Int) : Bool := decide (0 ≤ x) && (decide (x < (s.rs.length : Int)) && decide ((s.rs.getD x.toNat []).length ≠ 0))
def thereF (s : St) (l : List Int) : Int := if chkF s = 0 then (if l.all (okv s) then 0 else 5) else chkF s
def askF (s : St) (x t : Int) : Int := if chkF s = 0 then (if okv s x then (if 0 ≤ t ∧ t < 64 then 0 else 1) else 5) else chkF s
theorem all_take' {α : Type} {p : α → Bool} {l : List α} {k : Nat} (hk : k < l.length) (h : (l.take k).all p = true) (h1 : p l[k] = true) : (l.take (k + 1)).all p = true := by
  rw [List.take_succ_eq_append_getElem hk, List.all_append, h]
  simp [h1]
theorem all_bad' {α : Type} {p : α → Bool} {l : List α} {k : Nat} (hk : k < l.length) (h1 : p l[k] = false) : ¬ l.all p = true := by
  intro h
  have := List.all_eq_true.1 h l[k] (List.getElem_mem hk)
  rw [h1] at this
  cases this

set_option maxHeartbeats 8000000 in
set_option maxRecDepth 100000 in
theorem there_calls (w : World) (A : Option Addr) (a : Nat) (B : Option Addr) (b : Nat) (C : Option Addr) (c : Nat) (s : St) (hL : Lies w A a B b C c s) (L : Option Addr) (d : Nat) (l : List Int) (hl : Kd.C kI w L l.length l) (hd : l.length ≤ d) :
    Calls Try.prog 31 #[.agg #[.slice A s.ps.length a, .slice B s.us.length b, .slice C s.rs.length c], .slice L l.length d] w fun e w' => e = .returned (.int .i64 (thereF s l)) ∧ Below w.heap.size w w' := by
  have HL := Aside0.mk hL
  have HLL := Aside0.mk hl
  have hll := hl.2.1
  have n1 := heap_alloc_new w (.cells #[.slice A s.ps.length a, .slice B s.us.length b, .slice C s.rs.length c] 26)
  have hbw : Below w.heap.size w (w.alloc (.cells #[.slice A s.ps.length a, .slice B s.us.length b, .slice C s.rs.length c] 26)) := below_alloc (Below.refl _ _) _
  obtain ⟨W1, hW1⟩ : ∃ W1, W1 = w.alloc (.cells #[.slice A s.ps.length a, .slice B s.us.length b, .slice C s.rs.length c] 26) := ⟨_, rfl⟩
  have HW1 := Aside0.mk (show Below w.heap.size w W1 by rw [hW1]; exact hbw)
  have HX1 := Aside0.mk (show W1.heap[w.heap.size]? = some (.cells #[.slice A s.ps.length a, .slice B s.us.length b, .slice C s.rs.length c] 26 (0, 0)) by rw [hW1]; exact n1)
  have HWW := Aside0.mk hW1
  have d0 := blk_cell n1 0
  have d1 := blk_cell n1 1
  have d2 := blk_cell n1 2
  simp only [List.getElem?_toArray, List.getElem?_cons_zero, List.getElem?_cons_succ] at d0 d1 d2
  clear hL hl hW1 hbw n1
  go_enter Try.func31, Try.ntmps31
  go_wp2_with fail
  rw [← HWW.out]
  refine (check_calls W1 A a B b C c s (HL.out.below HW1.out)).mono ?_
  rintro e w2 ⟨rfl, hb⟩
  have HB2 := Aside0.mk (below_then HW1.out HW1.out.size hb)
  have HX2 := Aside0.mk (blk_below HX1.out hb)
  clear d0 d1 d2 hb
  by_cases h0 : chkF s = 0
  · have HE0 := Aside0.mk (show thereF s l = if l.all (okv s) then 0 else 5 by unfold thereF; rw [if_pos h0])
    rw [h0]
    clear h0
    go_wp2_with fail
    go_loopw [15] (fun i wr => ∃ k : Nat, k ≤ l.length ∧ i = .int .i64 (k : Int) ∧ Aside0 ((l.take k).all (okv s) = true) ∧ Aside0 (Below w.heap.size w wr) ∧ Aside0 (Below w2.heap.size w2 wr)) (fun i _ => l.length - (intOf i).toNat)
    case atStart => exact ⟨0, Nat.zero_le _, rfl, ⟨by rw [List.take_zero]; rfl⟩, HB2, ⟨Below.refl _ _⟩⟩
    case round =>
      obtain ⟨k, hkl, rfl, HA, HB, HB2'⟩ := hrel
      by_cases hlt : k < l.length
      · have hk1 : (k : Int) < (l.length : Int) := by omega
        obtain ⟨ad, rfl, e0⟩ := at_I (Kd.C_below HLL.out HB.out) k hlt
        obtain ⟨x, hx⟩ : ∃ x, x = l[k] := ⟨_, rfl⟩
        have HXK := Aside0.mk hx
        rw [← hx] at e0
        clear hx
        have hx2 := blk_cell (blk_below HX2.out HB2'.out) 2
        simp only [List.getElem?_toArray, List.getElem?_cons_zero, List.getElem?_cons_succ] at hx2
        by_cases hneg : x < 0
        · have HE := Aside0.mk (show thereF s l = 5 by
            rw [HE0.out, if_neg (all_bad' hlt (by rw [← HXK.out]; unfold okv; rw [decide_eq_false (by omega), Bool.false_and]))])
          go_wp2
          go_ret
          exact ⟨by rw [HE.out]; rfl, HB.out⟩
        by_cases hge : (s.rs.length : Int) ≤ x
        · have q0 : decide (x < 0) = false := decide_eq_false hneg
          have HE := Aside0.mk (show thereF s l = 5 by
            rw [HE0.out, if_neg (all_bad' hlt (by rw [← HXK.out]; unfold okv; rw [decide_eq_false (show ¬ x < (s.rs.length : Int) by omega), Bool.false_and, Bool.and_false]))])
          clear hneg
          go_wp2
          go_ret
          exact ⟨by rw [HE.out]; rfl, HB.out⟩
        obtain ⟨y, rfl⟩ : ∃ y : Nat, x = (y : Int) := ⟨x.toNat, by omega⟩
        have hy : y < s.rs.length := by omega
        obtain ⟨ar, A1, c1, rfl, e1, hc1, hC1⟩ := at_R (Kd.C_below HL.out.R HB.out) y hy
        have q0 : decide ((y : Int) < 0) = false := decide_eq_false (by omega)
        have q1 : decide ((s.rs.length : Int) ≤ (y : Int)) = false := decide_eq_false (by omega)
        have hy1 : (y : Int) < (s.rs.length : Int) := by omega
        have HOV := Aside0.mk (show okv s (y : Int) = decide (s.rs[y].length ≠ 0) by
          unfold okv
          rw [decide_eq_true (show (0 : Int) ≤ y by omega), decide_eq_true hy1, Int.toNat_natCast, List.getD_eq_getElem?_getD, List.getElem?_eq_getElem hy]
          simp)
        clear hC1 hneg hge
        generalize s.rs[y] = r at e1 hc1 HOV
        by_cases hr : r.length = 0
        · have q2 : ((r.length : Int) == 0) = true := by rw [hr]; rfl
          have HE := Aside0.mk (show thereF s l = 5 by
            rw [HE0.out, if_neg (all_bad' hlt (by rw [← HXK.out, HOV.out, decide_eq_false (by simp [hr])]))])
          clear hr
          go_wp2
          go_ret
          exact ⟨by rw [HE.out]; rfl, HB.out⟩
        · have q2 : ((r.length : Int) == 0) = false := beq_eq_false_iff_ne.mpr (by omega)
          have HOK := Aside0.mk (show okv s l[k] = true by rw [← HXK.out, HOV.out, decide_eq_true hr])
          clear hr
          go_wp2
          go_roundw
          case rel => exact ⟨k + 1, by omega, by go_num, ⟨all_take' hlt HA.out HOK.out⟩, HB, HB2'⟩
          case measure => simp [intOf]; omega
      · obtain rfl : k = l.length := by omega
        have hA := HA.out
        rw [List.take_length] at hA
        have HE := Aside0.mk (show thereF s l = 0 by rw [HE0.out, if_pos hA])
        clear hA
        go_wp2
        go_ret
        exact ⟨by rw [HE.out]; rfl, HB.out⟩
  · have HE := Aside0.mk (show thereF s l = chkF s by unfold thereF; rw [if_neg h0])
    have q0 : (chkF s != 0) = true := bne_iff_ne.mpr h0
    generalize chkF s = r at q0 HE ⊢
    clear h0
    go_wp2
    go_ret
    exact ⟨by rw [HE.out]; rfl, HB2.out⟩

theorem C_lit {w : World} {g : Nat} {e : TypeId} (xs : List Int) (hg : w.heap[g]? = some (.cells (nums .i64 xs).toArray e (0, 0))) (hn : xs.length ≤ 1000) : Kd.C kI w (some ⟨g, 0, none⟩) xs.length xs :=
  C_int ⟨rfl, by omega, fun _ => ⟨_, rfl, fun j hj => by
    rw [add_plain, blk_cell hg]
    simp [nums, List.getD_eq_getElem?_getD, hj]⟩⟩
theorem there_one (s : St) (x : Int) : thereF s [x] = if chkF s = 0 then (if okv s x then 0 else 5) else chkF s := by
  unfold thereF
  simp
set_option maxHeartbeats 8000000 in
set_option maxRecDepth 100000 in
theorem asked_calls (w : World) (A : Option Addr) (a : Nat) (B : Option Addr) (b : Nat) (C : Option Addr) (c : Nat) (s : St) (hL : Lies w A a B b C c s) (x t : Int) :
    Calls Try.prog 25 #[.agg #[.slice A s.ps.length a, .slice B s.us.length b, .slice C s.rs.length c], .int .i64 x, .int .i64 t] w fun e w' => e = .returned (.int .i64 (askF s x t)) ∧ Below w.heap.size w w' := by
  have HL := Aside0.mk hL
  have n1 := heap_alloc_new w (.cells #[.slice A s.ps.length a, .slice B s.us.length b, .slice C s.rs.length c] 26)
  have n2 := heap_alloc_new (w.alloc (.cells #[.slice A s.ps.length a, .slice B s.us.length b, .slice C s.rs.length c] 26)) (.cells #[.int .i64 x] 3)
  have hb2 : Below w.heap.size w ((w.alloc (.cells #[.slice A s.ps.length a, .slice B s.us.length b, .slice C s.rs.length c] 26)).alloc (.cells #[.int .i64 x] 3)) := below_alloc (below_alloc (Below.refl _ _) _) _
  rw [World.size_alloc] at n2
  have hlit := C_lit [x] n2 (by simp)
  have HT := Aside0.mk (there_calls _ A a B b C c s (hL.below hb2) (some ⟨w.heap.size + 1, 0, none⟩) 1 [x] hlit (by simp))
  have HB2 := Aside0.mk hb2
  have d0 := blk_cell n1 0
  have d1 := blk_cell n1 1
  have d2 := blk_cell n1 2
  simp only [List.getElem?_toArray, List.getElem?_cons_zero, List.getElem?_cons_succ] at d0 d1 d2
  clear hL n1 n2 hlit hb2
  go_enter Try.func25, Try.ntmps25
  go_wp2_with fail
  refine HT.out.mono ?_
  rintro e w2 ⟨rfl, hb⟩
  rw [there_one]
  have HB3 := Aside0.mk (below_then HB2.out HB2.out.size hb)
  clear d0 d1 d2 hb HT
  by_cases h0 : chkF s = 0
  · have HE0 := Aside0.mk (show askF s x t = if okv s x then (if 0 ≤ t ∧ t < 64 then 0 else 1) else 5 by unfold askF; rw [if_pos h0])
    rw [if_pos h0]
    clear h0
    by_cases h1 : okv s x = true
    · rw [if_pos h1]
      have HE1 := Aside0.mk (show askF s x t = if 0 ≤ t ∧ t < 64 then 0 else 1 by rw [HE0.out, if_pos h1])
      clear h1
      by_cases h2 : t < 0
      · have HE := Aside0.mk (show askF s x t = 1 by rw [HE1.out, if_neg (by omega)])
        go_wp2
        go_ret
        exact ⟨by rw [HE.out]; rfl, HB3.out⟩
      · have q2 : decide (t < 0) = false := decide_eq_false h2
        by_cases h3 : 64 ≤ t
        · have HE := Aside0.mk (show askF s x t = 1 by rw [HE1.out, if_neg (by omega)])
          clear h2
          go_wp2
          go_ret
          exact ⟨by rw [HE.out]; rfl, HB3.out⟩
        · have q3 : decide (64 ≤ t) = false := decide_eq_false h3
          have HE := Aside0.mk (show askF s x t = 0 by rw [HE1.out, if_pos (by omega)])
          clear h2 h3
          go_wp2
          go_ret
          exact ⟨by rw [HE.out]; rfl, HB3.out⟩
    · rw [if_neg h1]
      have HE := Aside0.mk (show askF s x t = 5 by rw [HE0.out, if_neg h1])
      clear h1
      go_wp2
      go_ret
      exact ⟨by rw [HE.out]; rfl, HB3.out⟩
  · rw [if_neg h0]
    have HE := Aside0.mk (show askF s x t = chkF s by unfold askF; rw [if_neg h0])
    have q0 : (chkF s == 0) = false := beq_eq_false_iff_ne.mpr h0
    generalize chkF s = r at q0 HE ⊢
    clear h0
    go_wp2
    go_ret
    exact ⟨by rw [HE.out]; rfl, HB3.out⟩
end Go.Proofs.Ytblalidpeccabac.Pg
namespace Go.Proofs.Ytblalidpeccabac.Pg
open Go Go.RowKit Go.Lib Go.Proofs.YtblalidpeccabacW.PrintWords Go.Proofs.YtblalidpeccabacW.PrintLast Go.Proofs.YtblalidpeccabacW.PrintMore Go.Proofs.Ytblalidpeccabac.PPagesBack Go.Proofs.Ytblalidpeccabac.Bs Go.Proofs.Ytblalidpeccabac.RegionVal
set_option linter.unusedVariables false
set_option linter.unusedSimpArgs false

/-- the page that a version has at a place -/
def pgF (s : St) (y t : Nat) : List Int := let p := (s.rs.getD y []).getD (t / 4) 0; if 0 ≤ p then s.ps.getD p.toNat [0, 0, 0, 0] else [0, 0, 0, 0]

set_option maxHeartbeats 8000000 in
set_option maxRecDepth 100000 in
theorem page_calls (w : World) (A : Option Addr) (a : Nat) (B : Option Addr) (b : Nat) (C : Option Addr) (c : Nat) (s : St) (hL : Lies w A a B b C c s) (y t : Nat) (hy : y < s.rs.length) (ht : t < 64) (h16 : s.rs[y].length = 16) (hok : ∀ p ∈ s.rs[y], okp s.ps.length p = true) :
    Calls Try.prog 28 #[.agg #[.slice A s.ps.length a, .slice B s.us.length b, .slice C s.rs.length c], .int .i64 (y : Int), .int .i64 (t : Int)] w fun e w' => (∃ p0 p1 p2 p3, pgF s y t = [p0, p1, p2, p3] ∧ e = .returned (.agg #[.int .i64 p0, .int .i64 p1, .int .i64 p2, .int .i64 p3])) ∧ Below w.heap.size w w' := by
  have hq : t / 4 < s.rs[y].length := by omega
  have HPG := Aside0.mk (show pgF s y t = if 0 ≤ s.rs[y][t / 4] then s.ps.getD (s.rs[y][t / 4]).toNat [0, 0, 0, 0] else [0, 0, 0, 0] by
    unfold pgF
    simp only [List.getD_eq_getElem?_getD, List.getElem?_eq_getElem hy, Option.getD_some, List.getElem?_eq_getElem hq])
  have hop := hok _ (List.getElem_mem hq)
  have n1 := heap_alloc_new w (.cells #[.slice A s.ps.length a, .slice B s.us.length b, .slice C s.rs.length c] 26)
  have n2 := heap_alloc_new (w.alloc (.cells #[.slice A s.ps.length a, .slice B s.us.length b, .slice C s.rs.length c] 26)) (.cells #[.int .i64 0, .int .i64 0, .int .i64 0, .int .i64 0] 38)
  have hb2 : Below w.heap.size w ((w.alloc (.cells #[.slice A s.ps.length a, .slice B s.us.length b, .slice C s.rs.length c] 26)).alloc (.cells #[.int .i64 0, .int .i64 0, .int .i64 0, .int .i64 0] 38)) := below_alloc (below_alloc (Below.refl _ _) _) _
  rw [World.size_alloc] at n2
  obtain ⟨g, hg⟩ : ∃ g, g = w.heap.size + 1 := ⟨_, rfl⟩
  rw [← hg] at n2
  obtain ⟨W2, hW2⟩ : ∃ W2, W2 = (w.alloc (.cells #[.slice A s.ps.length a, .slice B s.us.length b, .slice C s.rs.length c] 26)).alloc (.cells #[.int .i64 0, .int .i64 0, .int .i64 0, .int .i64 0] 38) := ⟨_, rfl⟩
  have n1' := blk_alloc n1 (.cells #[.int .i64 0, .int .i64 0, .int .i64 0, .int .i64 0] 38)
  rw [← hW2] at n2 hb2 n1'
  have HWW := Aside0.mk hW2
  have HGG := Aside0.mk hg
  have HB2 := Aside0.mk hb2
  have HN2 := Aside0.mk n2
  have HGE := Aside0.mk (show w.heap.size ≤ g by omega)
  obtain ⟨ar, A1, c1, rfl, e1, hc1, hC1⟩ := at_R (Kd.C_below hL.R hb2) y hy
  obtain ⟨a1, rfl, e2⟩ := at_I hC1 (t / 4) hq
  have HC1 := Aside0.mk (Kd.C_below hL.P hb2)
  obtain ⟨p, hp⟩ : ∃ p, p = s.rs[y][t / 4] := ⟨_, rfl⟩
  rw [← hp] at e2 hop HPG
  rw [h16] at e1 hc1
  have hy1 : (y : Int) < (s.rs.length : Int) := by omega
  have d0 := blk_cell n1' 0
  have d1 := blk_cell n1' 1
  have d2 := blk_cell n1' 2
  simp only [List.getElem?_toArray, List.getElem?_cons_zero, List.getElem?_cons_succ] at d0 d1 d2
  clear hL hq n1 n1' n2 hb2 hok hW2 hg hC1 hp h16
  go_enter Try.func28, Try.ntmps28
  go_upto_region 1 with (fail)
  rw [← HWW.out]
  rw [← HGG.out]
  have z0 := blk_cell HN2.out 0
  have z1 := blk_cell HN2.out 1
  have z2 := blk_cell HN2.out 2
  have z3 := blk_cell HN2.out 3
  simp only [List.getElem?_toArray, List.getElem?_cons_zero, List.getElem?_cons_succ] at z0 z1 z2 z3
  have hfr : ∀ i, W2.frozen? ⟨g, i, none⟩ = false := fun i => blk_frozen HN2.out i
  clear HWW HGG
  by_cases hp0 : 0 ≤ p
  · have hpn : p < (s.ps.length : Int) := by
      unfold okp at hop
      simp only [Bool.or_eq_true, Bool.and_eq_true, decide_eq_true_eq] at hop
      omega
    obtain ⟨k, rfl⟩ : ∃ k : Nat, p = (k : Int) := ⟨p.toNat, by omega⟩
    have hk : k < s.ps.length := by omega
    obtain ⟨ap, p0, p1, p2, p3, rfl, hpp, f0, f1, f2, f3⟩ := at_P HC1.out k hk
    have HE := Aside0.mk (show pgF s y t = [p0, p1, p2, p3] by
      rw [HPG.out, if_pos hp0, Int.toNat_natCast, List.getD_eq_getElem?_getD, List.getElem?_eq_getElem hk, hpp]; rfl)
    have q0 : decide ((0 : Int) ≤ (k : Int)) = true := decide_eq_true hp0
    clear hpp hop hp0
    go_wp2
    have HBY := Aside0.mk (((((HB2.out.setCell (p := ⟨g, 0, none⟩) HGE.out (.int .i64 p0)).setCell (p := ⟨g, 1, none⟩) HGE.out (.int .i64 p1)).setCell (p := ⟨g, 2, none⟩) HGE.out (.int .i64 p2)).setCell (p := ⟨g, 3, none⟩) HGE.out (.int .i64 p3)))
    have hby : ((((W2.setCell ⟨g, 0, none⟩ (.int .i64 p0)).setCell ⟨g, 1, none⟩ (.int .i64 p1)).setCell ⟨g, 2, none⟩ (.int .i64 p2)).setCell ⟨g, 3, none⟩ (.int .i64 p3)).heap[g]? = some (.cells #[.int .i64 p0, .int .i64 p1, .int .i64 p2, .int .i64 p3] 38 (0, 0)) :=
      blk_put (blk_put (blk_put (blk_put HN2.out 0 (.int .i64 p0) rfl) 1 (.int .i64 p1) rfl) 2 (.int .i64 p2) rfl) 3 (.int .i64 p3) rfl
    have y0 := blk_cell hby 0
    have y1 := blk_cell hby 1
    have y2 := blk_cell hby 2
    have y3 := blk_cell hby 3
    simp only [List.getElem?_toArray, List.getElem?_cons_zero, List.getElem?_cons_succ] at y0 y1 y2 y3
    generalize ((((W2.setCell ⟨g, 0, none⟩ (.int .i64 p0)).setCell ⟨g, 1, none⟩ (.int .i64 p1)).setCell ⟨g, 2, none⟩ (.int .i64 p2)).setCell ⟨g, 3, none⟩ (.int .i64 p3)) = Y at HBY y0 y1 y2 y3 ⊢
    exact bodyPost_ret (v := .agg #[.int .i64 p0, .int .i64 p1, .int .i64 p2, .int .i64 p3]) (by simp [results, Try.f28, go_sem, y0, y1, y2, y3]) rfl ⟨⟨p0, p1, p2, p3, HE.out, rfl⟩, HBY.out⟩
  · have HE := Aside0.mk (show pgF s y t = [0, 0, 0, 0] by rw [HPG.out, if_neg hp0])
    have q0 : decide ((0 : Int) ≤ p) = false := decide_eq_false hp0
    clear hop hp0
    go_wp2
    have HBY := Aside0.mk (((((HB2.out.setCell (p := ⟨g, 0, none⟩) HGE.out (.int .i64 0)).setCell (p := ⟨g, 1, none⟩) HGE.out (.int .i64 0)).setCell (p := ⟨g, 2, none⟩) HGE.out (.int .i64 0)).setCell (p := ⟨g, 3, none⟩) HGE.out (.int .i64 0)))
    have hby : ((((W2.setCell ⟨g, 0, none⟩ (.int .i64 0)).setCell ⟨g, 1, none⟩ (.int .i64 0)).setCell ⟨g, 2, none⟩ (.int .i64 0)).setCell ⟨g, 3, none⟩ (.int .i64 0)).heap[g]? = some (.cells #[.int .i64 0, .int .i64 0, .int .i64 0, .int .i64 0] 38 (0, 0)) :=
      blk_put (blk_put (blk_put (blk_put HN2.out 0 (.int .i64 0) rfl) 1 (.int .i64 0) rfl) 2 (.int .i64 0) rfl) 3 (.int .i64 0) rfl
    have y0 := blk_cell hby 0
    have y1 := blk_cell hby 1
    have y2 := blk_cell hby 2
    have y3 := blk_cell hby 3
    simp only [List.getElem?_toArray, List.getElem?_cons_zero, List.getElem?_cons_succ] at y0 y1 y2 y3
    generalize ((((W2.setCell ⟨g, 0, none⟩ (.int .i64 0)).setCell ⟨g, 1, none⟩ (.int .i64 0)).setCell ⟨g, 2, none⟩ (.int .i64 0)).setCell ⟨g, 3, none⟩ (.int .i64 0)) = Y at HBY y0 y1 y2 y3 ⊢
    exact bodyPost_ret (v := .agg #[.int .i64 0, .int .i64 0, .int .i64 0, .int .i64 0]) (by simp [results, Try.f28, go_sem, y0, y1, y2, y3]) rfl ⟨⟨0, 0, 0, 0, HE.out, rfl⟩, HBY.out⟩

/-- what Get answers -/
def getF (s : St) (x t : Int) : Int × Int := if askF s x t = 0 then ((pgF s x.toNat t.toNat).getD (t.toNat % 4) 0, 0) else (0, askF s x t)
/-- where a version may be asked -/
theorem ask_zero {s : St} {x t : Int} (h : askF s x t = 0) : ∃ y u : Nat, x = (y : Int) ∧ t = (u : Int) ∧ u < 64 ∧ ∃ hy : y < s.rs.length, s.rs[y].length = 16 ∧ ∀ p ∈ s.rs[y], okp s.ps.length p = true := by
  unfold askF at h
  by_cases h0 : chkF s = 0
  · rw [if_pos h0] at h
    by_cases h1 : okv s x = true
    · rw [if_pos h1] at h
      by_cases h2 : 0 ≤ t ∧ t < 64
      · unfold okv at h1
        simp only [Bool.and_eq_true, decide_eq_true_eq] at h1
        obtain ⟨h3, h4, h5⟩ := h1
        have hy : x.toNat < s.rs.length := by omega
        rw [List.getD_eq_getElem?_getD, List.getElem?_eq_getElem hy, Option.getD_some] at h5
        have hR : okR s.ps.length s.rs = true := by
          unfold chkF at h0
          split at h0
          · cases h0
          · split at h0
            · rename_i h; exact h.1
            · cases h0
        have hr := List.all_eq_true.1 hR _ (List.getElem_mem hy)
        unfold okr at hr
        simp only [Bool.and_eq_true, Bool.or_eq_true, decide_eq_true_eq, List.all_eq_true] at hr
        exact ⟨x.toNat, t.toNat, by omega, by omega, by omega, hy, by omega, hr.2⟩
      · rw [if_neg h2] at h; cases h
    · rw [if_neg h1] at h; cases h
  · rw [if_neg h0] at h; exact absurd h h0
end Go.Proofs.Ytblalidpeccabac.Pg
namespace Go.Proofs.Ytblalidpeccabac.Pg
open Go Go.RowKit Go.Lib Go.Proofs.YtblalidpeccabacW.PrintWords Go.Proofs.YtblalidpeccabacW.PrintLast Go.Proofs.YtblalidpeccabacW.PrintMore Go.Proofs.Ytblalidpeccabac.PPagesBack Go.Proofs.Ytblalidpeccabac.Bs Go.Proofs.Ytblalidpeccabac.RegionVal
set_option linter.unusedVariables false
set_option linter.unusedSimpArgs false

theorem idx38 (p0 p1 p2 p3 : Int) (j : Int) (m : Nat) (hj : j = (m : Int)) (hm : m < 4) (W : World) :
    Sem.run Try.prog (Instr.index 38 (.agg #[.int .i64 p0, .int .i64 p1, .int .i64 p2, .int .i64 p3]) (.int .i64 j)) W = .ok (.int .i64 ([p0, p1, p2, p3].getD m 0)) W := by
  subst hj
  have h : m = 0 ∨ m = 1 ∨ m = 2 ∨ m = 3 := by omega
  rcases h with rfl | rfl | rfl | rfl <;> (go_simp; rfl)

set_option maxHeartbeats 8000000 in
set_option maxRecDepth 100000 in
theorem get_calls (w : World) (A : Option Addr) (a : Nat) (B : Option Addr) (b : Nat) (C : Option Addr) (c : Nat) (s : St) (hL : Lies w A a B b C c s) (x t : Int) :
    Calls Try.prog 12 #[.agg #[.slice A s.ps.length a, .slice B s.us.length b, .slice C s.rs.length c], .int .i64 x, .int .i64 t] w fun e w' => e = .returned (.tuple #[.int .i64 (getF s x t).1, .int .i64 (getF s x t).2]) ∧ Below w.heap.size w w' := by
  have HL := Aside0.mk hL
  have n1 := heap_alloc_new w (.cells #[.slice A s.ps.length a, .slice B s.us.length b, .slice C s.rs.length c] 26)
  have hbw : Below w.heap.size w (w.alloc (.cells #[.slice A s.ps.length a, .slice B s.us.length b, .slice C s.rs.length c] 26)) := below_alloc (Below.refl _ _) _
  obtain ⟨W1, hW1⟩ : ∃ W1, W1 = w.alloc (.cells #[.slice A s.ps.length a, .slice B s.us.length b, .slice C s.rs.length c] 26) := ⟨_, rfl⟩
  have HW1 := Aside0.mk (show Below w.heap.size w W1 by rw [hW1]; exact hbw)
  have HX1 := Aside0.mk (show W1.heap[w.heap.size]? = some (.cells #[.slice A s.ps.length a, .slice B s.us.length b, .slice C s.rs.length c] 26 (0, 0)) by rw [hW1]; exact n1)
  have HWW := Aside0.mk hW1
  have d0 := blk_cell n1 0
  have d1 := blk_cell n1 1
  have d2 := blk_cell n1 2
  simp only [List.getElem?_toArray, List.getElem?_cons_zero, List.getElem?_cons_succ] at d0 d1 d2
  clear hL hW1 hbw n1
  go_enter Try.func12, Try.ntmps12
  go_wp2_with fail
  rw [← HWW.out]
  refine (asked_calls W1 A a B b C c s (HL.out.below HW1.out) x t).mono ?_
  rintro e w2 ⟨rfl, hb⟩
  have HB2 := Aside0.mk (below_then HW1.out HW1.out.size hb)
  have HX2 := Aside0.mk (blk_below HX1.out hb)
  clear d0 d1 d2 hb
  by_cases h0 : askF s x t = 0
  · have HE0 := Aside0.mk (show getF s x t = ((pgF s x.toNat t.toNat).getD (t.toNat % 4) 0, 0) by unfold getF; rw [if_pos h0])
    obtain ⟨y, u, rfl, rfl, hu, hy, h16, hok⟩ := ask_zero h0
    rw [h0]
    have d0 := blk_cell HX2.out 0
    have d1 := blk_cell HX2.out 1
    have d2 := blk_cell HX2.out 2
    simp only [List.getElem?_toArray, List.getElem?_cons_zero, List.getElem?_cons_succ] at d0 d1 d2
    have HPC := Aside0.mk (page_calls w2 A a B b C c s (HL.out.below HB2.out) y u hy hu h16 hok)
    simp only [Int.toNat_natCast] at HE0
    clear h0 h16 hok
    go_wp2_with fail
    refine HPC.out.mono ?_
    rintro e w3 ⟨⟨p0, p1, p2, p3, hp, rfl⟩, hb⟩
    have HB3 := Aside0.mk (below_then HB2.out HB2.out.size hb)
    have HE := Aside0.mk (show getF s (y : Int) (u : Int) = ([p0, p1, p2, p3].getD (u % 4) 0, 0) by rw [HE0.out, hp])
    clear hp hb HPC d0 d1 d2
    have qi := idx38 p0 p1 p2 p3 ((u : Int) % 4) (u % 4) (by omega) (by omega)
    generalize [p0, p1, p2, p3].getD (u % 4) 0 = r at qi HE
    go_wp2
    exact bodyPost_ret (v := .tuple #[.int .i64 r, .int .i64 0]) (by simp [results, Try.f12, go_sem]) rfl ⟨by rw [HE.out], HB3.out⟩
  · have HE := Aside0.mk (show getF s x t = (0, askF s x t) by unfold getF; rw [if_neg h0])
    have q0 : (askF s x t != 0) = true := bne_iff_ne.mpr h0
    generalize askF s x t = r at q0 HE ⊢
    clear h0
    go_wp2
    exact bodyPost_ret (v := .tuple #[.int .i64 0, .int .i64 r]) (by simp [results, Try.f12, go_sem]) rfl ⟨by rw [HE.out], HB2.out⟩

/-- how many pages two versions share -/
def shareL (l m : List Int) : Int := (((List.range l.length).countP (fun i => decide (0 ≤ l.getD i 0) && decide (l.getD i 0 = m.getD i 0)) : Nat) : Int)
def sharedF (s : St) (x y : Int) : Int × Int := if thereF s [x, y] = 0 then (shareL (s.rs.getD x.toNat []) (s.rs.getD y.toNat []), 0) else (0, thereF s [x, y])
def cntL (l m : List Int) (j : Nat) : Int := (((List.range j).countP (fun i => decide (0 ≤ l.getD i 0) && decide (l.getD i 0 = m.getD i 0)) : Nat) : Int)
theorem cntL_succ (l m : List Int) (j : Nat) : cntL l m (j + 1) = if 0 ≤ l.getD j 0 ∧ l.getD j 0 = m.getD j 0 then cntL l m j + 1 else cntL l m j := by
  unfold cntL
  rw [List.range_succ, List.countP_append]
  split
  · rename_i h
    have : (decide (0 ≤ l.getD j 0) && decide (l.getD j 0 = m.getD j 0)) = true := by
      rw [decide_eq_true h.1, decide_eq_true h.2]; rfl
    rw [List.countP_cons, this]
    simp
  · rename_i h
    have : (decide (0 ≤ l.getD j 0) && decide (l.getD j 0 = m.getD j 0)) = false := by
      rw [← Bool.not_eq_true]
      intro hc
      simp only [Bool.and_eq_true, decide_eq_true_eq] at hc
      exact h hc
    rw [List.countP_cons, this]
    simp
theorem cntL_le (l m : List Int) (j : Nat) : 0 ≤ cntL l m j ∧ cntL l m j ≤ j := by
  unfold cntL
  have := List.countP_le_length (p := fun i => decide (0 ≤ l.getD i 0) && decide (l.getD i 0 = m.getD i 0)) (l := List.range j)
  rw [List.length_range] at this
  omega
theorem there_zero {s : St} {l : List Int} (h : thereF s l = 0) {x : Int} (hx : x ∈ l) : ∃ y : Nat, x = (y : Int) ∧ ∃ hy : y < s.rs.length, s.rs[y].length = 16 ∧ ∀ p ∈ s.rs[y], okp s.ps.length p = true := by
  unfold thereF at h
  by_cases h0 : chkF s = 0
  · rw [if_pos h0] at h
    by_cases h1 : l.all (okv s) = true
    · have h2 : askF s x 0 = 0 := by
        unfold askF
        rw [if_pos h0, if_pos (List.all_eq_true.1 h1 x hx), if_pos (by omega)]
      obtain ⟨y, u, rfl, _, _, hy, h16, hok⟩ := ask_zero h2
      exact ⟨y, rfl, hy, h16, hok⟩
    · rw [if_neg h1] at h; cases h
  · rw [if_neg h0] at h; exact absurd h h0

set_option maxHeartbeats 8000000 in
set_option maxRecDepth 100000 in
theorem shared_calls (w : World) (A : Option Addr) (a : Nat) (B : Option Addr) (b : Nat) (C : Option Addr) (c : Nat) (s : St) (hL : Lies w A a B b C c s) (x y : Int) :
    Calls Try.prog 11 #[.agg #[.slice A s.ps.length a, .slice B s.us.length b, .slice C s.rs.length c], .int .i64 x, .int .i64 y] w fun e w' => e = .returned (.tuple #[.int .i64 (sharedF s x y).1, .int .i64 (sharedF s x y).2]) ∧ Below w.heap.size w w' := by
  have HL := Aside0.mk hL
  have n1 := heap_alloc_new w (.cells #[.slice A s.ps.length a, .slice B s.us.length b, .slice C s.rs.length c] 26)
  have n2 := heap_alloc_new (w.alloc (.cells #[.slice A s.ps.length a, .slice B s.us.length b, .slice C s.rs.length c] 26)) (.cells #[.int .i64 x, .int .i64 y] 3)
  have hb2 : Below w.heap.size w ((w.alloc (.cells #[.slice A s.ps.length a, .slice B s.us.length b, .slice C s.rs.length c] 26)).alloc (.cells #[.int .i64 x, .int .i64 y] 3)) := below_alloc (below_alloc (Below.refl _ _) _) _
  rw [World.size_alloc] at n2
  have hlit := C_lit [x, y] n2 (by simp)
  have HX2 := Aside0.mk (blk_alloc n1 (.cells #[.int .i64 x, .int .i64 y] 3))
  have HT := Aside0.mk (there_calls _ A a B b C c s (hL.below hb2) (some ⟨w.heap.size + 1, 0, none⟩) 2 [x, y] hlit (by simp))
  have HB2 := Aside0.mk hb2
  have d0 := blk_cell n1 0
  have d1 := blk_cell n1 1
  have d2 := blk_cell n1 2
  simp only [List.getElem?_toArray, List.getElem?_cons_zero, List.getElem?_cons_succ] at d0 d1 d2
  clear hL n1 n2 hlit hb2
  go_enter Try.func11, Try.ntmps11
  go_wp2_with fail
  refine HT.out.mono ?_
  rintro e w2 ⟨rfl, hb⟩
  have HB3 := Aside0.mk (below_then HB2.out HB2.out.size hb)
  have HX3 := Aside0.mk (blk_below HX2.out hb)
  clear d0 d1 d2 hb HT
  by_cases h0 : thereF s [x, y] = 0
  · obtain ⟨k, rfl, hk, hk16, hkok⟩ := there_zero h0 (x := x) (by simp)
    obtain ⟨m, rfl, hm, hm16, hmok⟩ := there_zero h0 (x := y) (by simp)
    have HE0 := Aside0.mk (show sharedF s (k : Int) (m : Int) = (shareL s.rs[k] s.rs[m], 0) by
      unfold sharedF
      rw [if_pos h0]
      simp only [Int.toNat_natCast, List.getD_eq_getElem?_getD, List.getElem?_eq_getElem hk, List.getElem?_eq_getElem hm, Option.getD_some])
    rw [h0]
    have d2 := blk_cell HX3.out 2
    simp only [List.getElem?_toArray, List.getElem?_cons_zero, List.getElem?_cons_succ] at d2
    obtain ⟨ar, A1, c1, rfl, e1, hc1, hC1⟩ := at_R (Kd.C_below HL.out.R HB3.out) k hk
    obtain ⟨ar', A2, c2, har, e2, hc2, hC2⟩ := at_R (Kd.C_below HL.out.R HB3.out) m hm
    obtain rfl := Option.some.inj har
    have hk1 : (k : Int) < (s.rs.length : Int) := by omega
    have hm1 : (m : Int) < (s.rs.length : Int) := by omega
    generalize s.rs[k] = l at hk16 hkok HE0 e1 hc1 hC1
    generalize s.rs[m] = l2 at hm16 hmok HE0 e2 hc2 hC2
    rw [hk16] at e1 hc1
    rw [hm16] at e2 hc2
    have HC1 := Aside0.mk hC1
    have HC2 := Aside0.mk hC2
    have H16 := Aside0.mk (show l.length = 16 ∧ l2.length = 16 from ⟨hk16, hm16⟩)
    have E1 := Aside0.mk e1
    have E2 := Aside0.mk e2
    clear h0 hkok hmok har hC1 hC2 hk16 hm16 e2
    go_wp2_with fail
    go_loopw [9, 26] (fun n i wr => ∃ j : Nat, j ≤ 16 ∧ i = .int .i64 (j : Int) ∧ n = .int .i64 (cntL l l2 j) ∧ Aside0 (Below w.heap.size w wr) ∧ Aside0 (Below w2.heap.size w2 wr)) (fun _ i _ => 16 - (intOf i).toNat)
    case atStart => exact ⟨0, Nat.zero_le _, rfl, rfl, HB3, ⟨Below.refl _ _⟩⟩
    case round =>
      obtain ⟨j, hjl, rfl, rfl, HB, HB'⟩ := hrel
      clear d2 e1
      by_cases hlt : j < 16
      · have hj1 : (j : Int) < 16 := by omega
        have hjl1 : j < l.length := by rw [H16.out.1]; exact hlt
        have hjl2 : j < l2.length := by rw [H16.out.2]; exact hlt
        obtain ⟨a1, rfl, f1⟩ := at_I (Kd.C_below HC1.out HB'.out) j hjl1
        obtain ⟨a2, rfl, f2⟩ := at_I (Kd.C_below HC2.out HB'.out) j hjl2
        have g2 := (HB'.out.cell (World.block_lt_of_cell? w2 _ E2.out)).trans E2.out
        have d2 := blk_cell (blk_below HX3.out HB'.out) 2
        simp only [List.getElem?_toArray, List.getElem?_cons_zero, List.getElem?_cons_succ] at d2
        have HST := Aside0.mk (cntL_succ l l2 j)
        have hle := cntL_le l l2 j
        have hg0 : l.getD j 0 = l[j] := by simp [List.getD_eq_getElem?_getD, hjl1]
        have hg2 : l2.getD j 0 = l2[j] := by simp [List.getD_eq_getElem?_getD, hjl2]
        rw [hg0, hg2] at HST
        clear hg0 hg2
        generalize l[j] = u at f1 HST
        generalize l2[j] = v at f2 HST
        have hw := wrap_1 (cntL l l2 j) (by omega) (by omega)
        by_cases hu : 0 ≤ u
        · by_cases huv : u = v
          · have HS := Aside0.mk (show cntL l l2 (j + 1) = cntL l l2 j + 1 by rw [HST.out, if_pos ⟨hu, huv⟩])
            have q0 : decide (0 ≤ u) = true := decide_eq_true hu
            subst huv
            clear hu
            generalize cntL l l2 j = cj at hw hle HS ⊢
            go_wp2
            go_roundw
            case rel => exact ⟨j + 1, by omega, by go_num, by rw [HS.out], HB, HB'⟩
            case measure => simp [intOf]; omega
          · have HS := Aside0.mk (show cntL l l2 (j + 1) = cntL l l2 j by rw [HST.out, if_neg (fun h => huv h.2)])
            have q0 : decide (0 ≤ u) = true := decide_eq_true hu
            have q1 : (u == v) = false := beq_eq_false_iff_ne.mpr huv
            clear hu huv
            generalize cntL l l2 j = cj at hw hle HS ⊢
            go_wp2
            go_roundw
            case rel => exact ⟨j + 1, by omega, by go_num, by rw [HS.out], HB, HB'⟩
            case measure => simp [intOf]; omega
        · have HS := Aside0.mk (show cntL l l2 (j + 1) = cntL l l2 j by rw [HST.out, if_neg (fun h => hu h.1)])
          have q0 : decide (0 ≤ u) = false := decide_eq_false hu
          clear hu
          generalize cntL l l2 j = cj at hw hle HS ⊢
          go_wp2
          go_roundw
          case rel => exact ⟨j + 1, by omega, by go_num, by rw [HS.out], HB, HB'⟩
          case measure => simp [intOf]; omega
      · obtain rfl : j = 16 := by omega
        have HE := Aside0.mk (show sharedF s (k : Int) (m : Int) = (cntL l l2 16, 0) by rw [HE0.out]; unfold shareL cntL; rw [H16.out.1])
        generalize cntL l l2 16 = r at HE ⊢
        go_wp2
        exact bodyPost_ret (v := .tuple #[.int .i64 r, .int .i64 0]) (by simp [results, Try.f11, go_sem]) rfl ⟨by rw [HE.out], HB.out⟩
  · have HE := Aside0.mk (show sharedF s x y = (0, thereF s [x, y]) by unfold sharedF; rw [if_neg h0])
    have q0 : (thereF s [x, y] != 0) = true := bne_iff_ne.mpr h0
    generalize thereF s [x, y] = r at q0 HE ⊢
    clear h0
    go_wp2
    exact bodyPost_ret (v := .tuple #[.int .i64 0, .int .i64 r]) (by simp [results, Try.f11, go_sem]) rfl ⟨by rw [HE.out], HB3.out⟩
end Go.Proofs.Ytblalidpeccabac.Pg
