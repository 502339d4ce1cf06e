/- watch.Whole: its walk. -/
import Derived.Test.YtaeamehngbfneabWatchPure
import Derived.Test.YtaeamehngbfneabBase
import Derived.Test.YtaeamehngbfneabPWatchBackx
namespace Go.Proofs.Ytaeamehngbfneab.Wt
open Go Go.RowKit Go.Lib Go.Proofs.YtaeamehngbfneabW.PrintWords Go.Proofs.YtaeamehngbfneabW.PrintLast Go.Proofs.YtaeamehngbfneabW.PrintMore Go.Proofs.Ytaeamehngbfneab.Bs Go.Proofs.Ytaeamehngbfneab.PWatchBack Go.Proofs.Ytaeamehngbfneab.Mp Go.Proofs.Ytaeamehngbfneab.Wp
set_option linter.unusedVariables false
set_option linter.unusedSimpArgs false

def two (x : Int × Int) : Value := .agg #[.int .i64 x.1, .int .i64 x.2]
theorem two_def (x : Int × Int) : two x = .agg #[.int .i64 x.1, .int .i64 x.2] := rfl
def acc (e : S33) : Bool := e.f0 == 3 || e.f0 == 4
def wr (e : S33) : Bool := e.f0 == 4
def key (e : S33) : Int × Int := (e.f6, e.f7)
def val (e : S33) : Int × Int := (e.f8.f0, e.f8.f1)
def old (e : S33) : Int × Int := (e.f9.f0, e.f9.f1)

theorem eq53 (x y : Int × Int) (w : World) : Sem.run Try.prog (Op.equal 53 (two x) (two y)) w = .ok (decide (x = y)) w := by
  have h := eqA53 9998 w x.1 y.1 x.2 y.2
  have e : decide (x = y) = (x.1 == y.1 && (x.2 == y.2)) := by
    rw [Bool.eq_iff_iff]
    simp [Prod.ext_iff]
  rw [e]
  exact h
theorem key53 : KeyAt Try.prog 53 two where
  eq := eq53
  now d hd x y := by
    rw [Try.underlying53] at hd
    obtain rfl := Option.some.inj hd
    exact .inl rfl
  und := ⟨_, Try.underlying53⟩
  check x b w := by
    have h : Instr.checkKey b 10000 53 (two x) = Instr.checkKey b (9998 + 2) 53 (two x) := rfl
    rw [h]
    generalize (9998 : Nat) = d
    have u3 := Try.underlying3
    have u53 := Try.underlying53
    simp only [Instr.checkKey, two, Sem.run_bind, run_underlying u53, Result.andThen_ok]
    go_simp
  bits x := by
    have h : Instr.sameBits 10000 (two x) (two x) = Instr.sameBits (9998 + 2) (two x) (two x) := rfl
    rw [h]
    generalize (9998 : Nat) = d
    simp [Instr.sameBits, two]
theorem eqA28 (d : Nat) (w : World) (x0 y0 : Int) (x1 y1 : Int) :
    (Op.equalIn (d + 2) 28 (.agg #[.int .i64 x0, .int .i64 x1]) (.agg #[.int .i64 y0, .int .i64 y1])).run Try.prog w = .ok (x0 == y0 && (x1 == y1)) w := by
  refine YtaeamehngbfneabW.PrintWords.eqA_of Try.underlying28 (by kernel_rfl) ?_
  refine eqf_cons (by rfl) (by go_simp; rfl) (by go_simp; rfl) (by go_simp) ?_
  exact eqf_last (by rfl) (by go_simp; rfl) (by go_simp; rfl) (by go_simp)
theorem of_is (e : S33) : watch_of.f e.f0 e.f1 e.f2 e.f3 e.f4 e.f5 e.f6 e.f7 e.f8.f0 e.f8.f1 e.f9.f0 e.f9.f1 = some (e.f6, e.f7, acc e) := by
  unfold watch_of.f acc
  by_cases h : e.f0 = 3
  · rw [if_pos h]; simp [h]
  · rw [if_neg h]; simp [h]
theorem check_ok {l : List S33} {a : Int} (h0 : 0 ≤ a) (h1 : a ≤ l.length) (hl : l.length ≤ 200) : watch_check.f l a = some 0 := by
  unfold watch_check.f
  rw [if_neg (by omega), if_neg (by omega), if_neg (by omega)]
theorem check_bad {l : List S33} {a : Int} (h : ¬ (0 ≤ a ∧ a ≤ l.length ∧ l.length ≤ 200)) : ∃ r, (r = 1 ∨ r = 2) ∧ watch_check.f l a = some r := by
  unfold watch_check.f
  by_cases c1 : (l.length : Int) > 200
  · exact ⟨2, .inr rfl, by rw [if_pos c1]⟩
  · rw [if_neg c1]
    by_cases c2 : a < 0
    · exact ⟨1, .inl rfl, by rw [if_pos c2]⟩
    · rw [if_neg c2]
      exact ⟨1, .inl rfl, by rw [if_pos (by omega)]⟩

theorem cells12 {w wr : World} {A : Option Addr} {l : List S33} (hr : Kd.C k33 w A l.length l) (hb : Below w.heap.size w wr) {k : Nat} (hk : k < l.length) : ∃ ad, A = some ad ∧ wr.cell? (ad.add (k * 12)) = some (.int .i64 l[k].f0) ∧ wr.cell? ⟨(ad.add (k * 12)).block, (ad.add (k * 12)).off + 1, none⟩ = some (.int .i64 l[k].f1) ∧ wr.cell? ⟨(ad.add (k * 12)).block, (ad.add (k * 12)).off + 2, none⟩ = some (.int .i64 l[k].f2) ∧ wr.cell? ⟨(ad.add (k * 12)).block, (ad.add (k * 12)).off + 3, none⟩ = some (.int .i64 l[k].f3) ∧ wr.cell? ⟨(ad.add (k * 12)).block, (ad.add (k * 12)).off + 4, none⟩ = some (.int .i64 l[k].f4) ∧ wr.cell? ⟨(ad.add (k * 12)).block, (ad.add (k * 12)).off + 5, none⟩ = some (.int .i64 l[k].f5) ∧ wr.cell? ⟨(ad.add (k * 12)).block, (ad.add (k * 12)).off + 6, none⟩ = some (.int .i64 l[k].f6) ∧ wr.cell? ⟨(ad.add (k * 12)).block, (ad.add (k * 12)).off + 7, none⟩ = some (.int .i64 l[k].f7) ∧ wr.cell? ⟨(ad.add (k * 12)).block, (ad.add (k * 12)).off + 8, none⟩ = some (.int .i64 l[k].f8.f0) ∧ wr.cell? ⟨(ad.add (k * 12)).block, (ad.add (k * 12)).off + 9, none⟩ = some (.int .i64 l[k].f8.f1) ∧ wr.cell? ⟨(ad.add (k * 12)).block, (ad.add (k * 12)).off + 10, none⟩ = some (.int .i64 l[k].f9.f0) ∧ wr.cell? ⟨(ad.add (k * 12)).block, (ad.add (k * 12)).off + 11, none⟩ = some (.int .i64 l[k].f9.f1) := by
  obtain ⟨ad, e, h0, h1, h2, h3, h4, h5, h6, h7, h8, h9, h10, h11⟩ := at_T33 hr (k : Int) (by omega) (by omega)
  have hx : rd_T33 l (k : Int) = l[k] := by simp [rd_T33, List.getD_eq_getElem?_getD, hk]
  rw [hx] at h0 h1 h2 h3 h4 h5 h6 h7 h8 h9 h10 h11
  rw [Int.toNat_natCast] at h0 h1 h2 h3 h4 h5 h6 h7 h8 h9 h10 h11
  exact ⟨ad, e, (hb.cell (World.block_lt_of_cell? w _ h0)).trans h0, (hb.cell (World.block_lt_of_cell? w _ h1)).trans h1, (hb.cell (World.block_lt_of_cell? w _ h2)).trans h2, (hb.cell (World.block_lt_of_cell? w _ h3)).trans h3, (hb.cell (World.block_lt_of_cell? w _ h4)).trans h4, (hb.cell (World.block_lt_of_cell? w _ h5)).trans h5, (hb.cell (World.block_lt_of_cell? w _ h6)).trans h6, (hb.cell (World.block_lt_of_cell? w _ h7)).trans h7, (hb.cell (World.block_lt_of_cell? w _ h8)).trans h8, (hb.cell (World.block_lt_of_cell? w _ h9)).trans h9, (hb.cell (World.block_lt_of_cell? w _ h10)).trans h10, (hb.cell (World.block_lt_of_cell? w _ h11)).trans h11⟩
theorem zero28 : ∀ (w : World), (zeroValue 28).run Try.prog w = .ok (two (0, 0)) w := Try.zeroValue28
def rOf (r : Option Nat) : Int := ((r.getD 0 : Nat) : Int)
def WholePost (w : World) (r : Option Nat) (e : Ending) (w' : World) : Prop :=
  e = .returned (.tuple #[.int .i64 (rOf r), .bool r.isSome, .int .i64 0]) ∧ Below w.heap.size w w'

set_option maxHeartbeats 8000000 in
set_option maxRecDepth 100000 in
theorem Whole_bad (w : World) (A : Option Addr) (c : Nat) (l : List S33) (hr : Kd.C k33 w A l.length l) (hc : l.length ≤ c) (hl : 200 < l.length) :
    Calls Try.prog 10 #[.slice A l.length c] w fun e w' => e = .returned (.tuple #[.int .i64 0, .bool false, .int .i64 2]) ∧ Below w.heap.size w w' := by
  have HR := Aside0.mk hr
  have HK := Aside0.mk (show watch_check.f l 0 = some 2 by unfold watch_check.f; rw [if_pos (by omega)])
  clear hr
  go_enter Try.func10, Try.ntmps10
  go_wp2_with fail
  refine (watch_check.calls A c l 0 2 _ HR.out hc HK.out).mono ?_
  rintro e w1 ⟨rfl, hb⟩
  have HB := Aside0.mk hb.below
  clear hb
  go_wp2
  go_ret3
  exact ⟨rfl, HB.out⟩

set_option maxHeartbeats 8000000 in
set_option maxRecDepth 100000 in
theorem Whole_calls (w : World) (A : Option Addr) (c : Nat) (l : List S33) (hr : Kd.C k33 w A l.length l) (hc : l.length ≤ c) (hl : l.length ≤ 200) :
    Calls Try.prog 10 #[.slice A l.length c] w (WholePost w (whole acc wr key val old l)) := by
  have HR := Aside0.mk hr
  have HK := Aside0.mk (check_ok (l := l) (a := 0) (by omega) (by omega) hl)
  clear hr
  go_enter Try.func10, Try.ntmps10
  go_wp2_with fail
  refine (watch_check.calls A c l 0 0 _ HR.out hc HK.out).mono ?_
  rintro e w1 ⟨rfl, hb⟩
  have HB := Aside0.mk hb.below
  clear hb
  have hmm := @run_makeMap Try.prog
  go_wp2
  obtain ⟨W0, hW0⟩ : ∃ W0, W0 = w1.alloc (.map #[] 0) := ⟨_, rfl⟩
  obtain ⟨b, hb⟩ : ∃ b, b = w1.heap.size := ⟨_, rfl⟩
  rw [← hW0, ← hb]
  have HM0 := Aside0.mk (show Mp.Holds W0 b two two ([] : List ((Int × Int) × (Int × Int))) by rw [hW0, hb]; exact holds_made w1 two two)
  have HBW := Aside0.mk (show Below w.heap.size w W0 by rw [hW0]; exact below_alloc HB.out _)
  have hbw : w.heap.size ≤ b := by rw [hb]; exact HB.out.size
  have HR0 := Aside0.mk (show Kd.C k33 W0 A l.length l from Kd.C_below HR.out (by exact HBW.out))
  clear hW0 hb hmm HB HR0
  go_loopw [22] (fun i wr => ∃ (k : Nat) (m : List ((Int × Int) × (Int × Int))), k ≤ l.length ∧ i = .int .i64 k ∧ Aside0 (Mp.Holds wr b two two m) ∧ Aside0 (wholeL acc Wt.wr key val old m (l.drop k) k = whole acc Wt.wr key val old l) ∧ Aside0 (Below w.heap.size w wr)) (fun i _ => l.length - (intOf i).toNat)
  case atStart => exact ⟨0, [], Nat.zero_le _, rfl, HM0, ⟨rfl⟩, HBW⟩
  case round =>
    obtain ⟨k, m, hk, rfl, HM, HW, HB⟩ := hrel
    by_cases hlt : k < l.length
    · obtain ⟨ad, rfl, h0, h1, h2, h3, h4, h5, h6, h7, h8, h9, h10, h11⟩ := cells12 HR.out HB.out hlt
      have hstep := HW.out
      rw [List.drop_eq_getElem_cons hlt] at hstep
      simp only [wholeL] at hstep
      have hof := of_is l[k]
      generalize l[k] = x at *
      have HS := Aside0.mk hstep
      have HOF := Aside0.mk hof
      have z1 : (k : Int) < (l.length : Int) := by omega
      clear hstep hof HW
      go_wp2_with fail
      refine (watch_of.calls _ _ _ _ _ _ _ _ _ _ _ _ x.f6 x.f7 (acc x) _ HOF.out).mono ?_
      rintro e w3 ⟨rfl, hb3⟩
      obtain ⟨g, hg⟩ : ∃ g, g = wr.heap.size := ⟨_, rfl⟩
      have hblk : w3.heap[g]? = some (.cells #[.int .i64 x.f0, .int .i64 x.f1, .int .i64 x.f2, .int .i64 x.f3, .int .i64 x.f4, .int .i64 x.f5, .int .i64 x.f6, .int .i64 x.f7, .int .i64 x.f8.f0, .int .i64 x.f8.f1, .int .i64 x.f9.f0, .int .i64 x.f9.f1] 33 (0, 0)) := by
        rw [hg]
        exact (hb3.block wr.heap.size (by simp)).trans (heap_alloc_new wr _)
      have HM3 := Aside0.mk (show Mp.Holds w3 b two two m from HM.out.below (below_then (below_alloc (Below.refl _ _) _) (by simp) hb3))
      have HB3 := Aside0.mk (below_then (below_alloc HB.out _) (below_alloc HB.out _).size hb3)
      rw [← hg]
      have e0 := blk_cell hblk 0
      have e8 := blk_cell hblk 8
      have e9 := blk_cell hblk 9
      have e10 := blk_cell hblk 10
      have e11 := blk_cell hblk 11
      simp only [List.getElem?_toArray, List.getElem?_cons_zero, List.getElem?_cons_succ] at e0 e8 e9 e10 e11
      have hgl : g < w3.heap.size := by have := hb3.size; rw [hg]; simp at this; omega
      have hgl1 : g < w3.heap.size + 1 := by omega
      have hgl2 : g < w3.heap.size + 1 + 1 := by omega
      clear h0 h1 h2 h3 h4 h5 h6 h7 h8 h9 h10 h11 hg hb3 hblk HM HB
      cases hac : acc x with
      | false =>
        have HS' := HS.out
        rw [if_neg (by rw [hac]; simp)] at HS'
        have HS2 := Aside0.mk HS'
        clear HS' HS
        go_wp2
        go_roundw
        case rel => exact ⟨k + 1, m, by omega, by go_num, ⟨HM3.out.below (below_alloc (Below.refl _ _) _)⟩, HS2, ⟨below_alloc HB3.out _⟩⟩
        case measure => simp [intOf]; omega
      | true =>
        have HS' := HS.out
        rw [if_pos hac] at HS'
        have HS2 := Aside0.mk HS'
        clear HS' HS
        have h28 : ∀ (x0 x1 y0 y1 : Int) (w : World), (Op.equalIn 10000 28 (.agg #[.int .i64 x0, .int .i64 x1]) (.agg #[.int .i64 y0, .int .i64 y1])).run Try.prog w = .ok (x0 == y0 && (x1 == y1)) w := fun x0 x1 y0 y1 w => eqA28 9998 w x0 y0 x1 y1
        cases hwr : Wt.wr x with
        | true =>
          have D : (x.f0 == 4) = true := hwr
          have HT := Aside0.mk (show told Wt.wr val old x = (x.f9.f0, x.f9.f1) by unfold told; rw [hwr]; rfl)
          clear hwr hac
          cases hgm : Mp.get m (key x) with
          | none =>
            have HG := Aside0.mk (show Mp.get m (x.f6, x.f7) = none from hgm)
            have HS3 := Aside0.mk (show wholeL acc Wt.wr key val old (put m (x.f6, x.f7) (x.f8.f0, x.f8.f1)) (l.drop (k + 1)) (k + 1) = whole acc Wt.wr key val old l by have := HS2.out; rw [hgm] at this; exact this)
            clear hgm HS2
            go_wp2_with (first | (at_lookup; refine wpList_look rfl _ _ 51 rfl key53 Try.underlying51 zero28 b m (x.f6, x.f7) rfl rfl (HM3.out.below (below_alloc (below_alloc (Below.refl _ _) _) _)) (.agg #[.int .i64 0, .int .i64 0]) false (by rw [HG.out]; rfl) (by rw [HG.out]; rfl) ?_) | (at_mapUpdate; refine wpList_upd rfl _ _ _ 51 rfl key53 Try.underlying51 b m (x.f6, x.f7) (x.f8.f0, x.f8.f1) rfl rfl rfl (HM3.out.below (below_alloc (below_alloc (below_alloc (Below.refl _ _) _) _) _)) ?_; intro w5 hm5 hg5 hs5; have HM5 := Aside0.mk hm5; have HB5 := Aside0.mk (Below.grown (below_alloc (below_alloc (below_alloc HB3.out _) _) _) hg5 (below_alloc (below_alloc (below_alloc HB3.out _) _) _).size (fun j e => by cases e; exact hbw)); clear hm5 hg5 hs5))
            go_roundw
            case rel => exact ⟨k + 1, put m (x.f6, x.f7) (x.f8.f0, x.f8.f1), by omega, by go_num, HM5, HS3, HB5⟩
            case measure => simp [intOf]; omega
          | some v =>
            obtain ⟨v1, v2⟩ := v
            have HG := Aside0.mk (show Mp.get m (x.f6, x.f7) = some (v1, v2) from hgm)
            by_cases hv : (v1, v2) = (x.f9.f0, x.f9.f1)
            · have HS3 := Aside0.mk (show wholeL acc Wt.wr key val old (put m (x.f6, x.f7) (x.f8.f0, x.f8.f1)) (l.drop (k + 1)) (k + 1) = whole acc Wt.wr key val old l by have := HS2.out; rw [hgm] at this; simp only [HT.out, hv, if_true] at this; exact this)
              have D2 : (v1 == x.f9.f0 && (v2 == x.f9.f1)) = true := by simp only [Prod.mk.injEq] at hv; simp [hv.1, hv.2]
              clear hgm HS2 hv
              go_wp2_with (first | (at_lookup; refine wpList_look rfl _ _ 51 rfl key53 Try.underlying51 zero28 b m (x.f6, x.f7) rfl rfl (HM3.out.below (below_alloc (below_alloc (Below.refl _ _) _) _)) (.agg #[.int .i64 v1, .int .i64 v2]) true (by rw [HG.out]; rfl) (by rw [HG.out]; rfl) ?_) | (at_mapUpdate; refine wpList_upd rfl _ _ _ 51 rfl key53 Try.underlying51 b m (x.f6, x.f7) (x.f8.f0, x.f8.f1) rfl rfl rfl (HM3.out.below (below_alloc (below_alloc (below_alloc (Below.refl _ _) _) _) _)) ?_; intro w5 hm5 hg5 hs5; have HM5 := Aside0.mk hm5; have HB5 := Aside0.mk (Below.grown (below_alloc (below_alloc (below_alloc HB3.out _) _) _) hg5 (below_alloc (below_alloc (below_alloc HB3.out _) _) _).size (fun j e => by cases e; exact hbw)); clear hm5 hg5 hs5))
              go_roundw
              case rel => exact ⟨k + 1, put m (x.f6, x.f7) (x.f8.f0, x.f8.f1), by omega, by go_num, HM5, HS3, HB5⟩
              case measure => simp [intOf]; omega
            · have HS3 := Aside0.mk (show whole acc Wt.wr key val old l = some k by have := HS2.out; rw [hgm] at this; simp only [HT.out, hv, if_false] at this; exact this.symm)
              have D2 : (v1 == x.f9.f0 && (v2 == x.f9.f1)) = false := by
                rw [Bool.eq_false_iff]
                intro h
                simp only [Bool.and_eq_true, beq_iff_eq] at h
                exact hv (by rw [h.1, h.2])
              clear hgm HS2 hv
              go_wp2_with (at_lookup; refine wpList_look rfl _ _ 51 rfl key53 Try.underlying51 zero28 b m (x.f6, x.f7) rfl rfl (HM3.out.below (below_alloc (below_alloc (Below.refl _ _) _) _)) (.agg #[.int .i64 v1, .int .i64 v2]) true (by rw [HG.out]; rfl) (by rw [HG.out]; rfl) ?_)
              go_ret3
              rw [HS3.out]
              exact ⟨rfl, below_alloc (below_alloc (below_alloc HB3.out _) _) _⟩
        | false =>
          have D : (x.f0 == 4) = false := hwr
          have HT := Aside0.mk (show told Wt.wr val old x = (x.f8.f0, x.f8.f1) by unfold told; rw [hwr]; rfl)
          clear hwr hac
          cases hgm : Mp.get m (key x) with
          | none =>
            have HG := Aside0.mk (show Mp.get m (x.f6, x.f7) = none from hgm)
            have HS3 := Aside0.mk (show wholeL acc Wt.wr key val old (put m (x.f6, x.f7) (x.f8.f0, x.f8.f1)) (l.drop (k + 1)) (k + 1) = whole acc Wt.wr key val old l by have := HS2.out; rw [hgm] at this; exact this)
            clear hgm HS2
            go_wp2_with (first | (at_lookup; refine wpList_look rfl _ _ 51 rfl key53 Try.underlying51 zero28 b m (x.f6, x.f7) rfl rfl (HM3.out.below (below_alloc (below_alloc (Below.refl _ _) _) _)) (.agg #[.int .i64 0, .int .i64 0]) false (by rw [HG.out]; rfl) (by rw [HG.out]; rfl) ?_) | (at_mapUpdate; refine wpList_upd rfl _ _ _ 51 rfl key53 Try.underlying51 b m (x.f6, x.f7) (x.f8.f0, x.f8.f1) rfl rfl rfl (HM3.out.below (below_alloc (below_alloc (below_alloc (Below.refl _ _) _) _) _)) ?_; intro w5 hm5 hg5 hs5; have HM5 := Aside0.mk hm5; have HB5 := Aside0.mk (Below.grown (below_alloc (below_alloc (below_alloc HB3.out _) _) _) hg5 (below_alloc (below_alloc (below_alloc HB3.out _) _) _).size (fun j e => by cases e; exact hbw)); clear hm5 hg5 hs5))
            go_roundw
            case rel => exact ⟨k + 1, put m (x.f6, x.f7) (x.f8.f0, x.f8.f1), by omega, by go_num, HM5, HS3, HB5⟩
            case measure => simp [intOf]; omega
          | some v =>
            obtain ⟨v1, v2⟩ := v
            have HG := Aside0.mk (show Mp.get m (x.f6, x.f7) = some (v1, v2) from hgm)
            by_cases hv : (v1, v2) = (x.f8.f0, x.f8.f1)
            · have HS3 := Aside0.mk (show wholeL acc Wt.wr key val old (put m (x.f6, x.f7) (x.f8.f0, x.f8.f1)) (l.drop (k + 1)) (k + 1) = whole acc Wt.wr key val old l by have := HS2.out; rw [hgm] at this; simp only [HT.out, hv, if_true] at this; exact this)
              have D2 : (v1 == x.f8.f0 && (v2 == x.f8.f1)) = true := by simp only [Prod.mk.injEq] at hv; simp [hv.1, hv.2]
              clear hgm HS2 hv
              go_wp2_with (first | (at_lookup; refine wpList_look rfl _ _ 51 rfl key53 Try.underlying51 zero28 b m (x.f6, x.f7) rfl rfl (HM3.out.below (below_alloc (below_alloc (Below.refl _ _) _) _)) (.agg #[.int .i64 v1, .int .i64 v2]) true (by rw [HG.out]; rfl) (by rw [HG.out]; rfl) ?_) | (at_mapUpdate; refine wpList_upd rfl _ _ _ 51 rfl key53 Try.underlying51 b m (x.f6, x.f7) (x.f8.f0, x.f8.f1) rfl rfl rfl (HM3.out.below (below_alloc (below_alloc (below_alloc (Below.refl _ _) _) _) _)) ?_; intro w5 hm5 hg5 hs5; have HM5 := Aside0.mk hm5; have HB5 := Aside0.mk (Below.grown (below_alloc (below_alloc (below_alloc HB3.out _) _) _) hg5 (below_alloc (below_alloc (below_alloc HB3.out _) _) _).size (fun j e => by cases e; exact hbw)); clear hm5 hg5 hs5))
              go_roundw
              case rel => exact ⟨k + 1, put m (x.f6, x.f7) (x.f8.f0, x.f8.f1), by omega, by go_num, HM5, HS3, HB5⟩
              case measure => simp [intOf]; omega
            · have HS3 := Aside0.mk (show whole acc Wt.wr key val old l = some k by have := HS2.out; rw [hgm] at this; simp only [HT.out, hv, if_false] at this; exact this.symm)
              have D2 : (v1 == x.f8.f0 && (v2 == x.f8.f1)) = false := by
                rw [Bool.eq_false_iff]
                intro h
                simp only [Bool.and_eq_true, beq_iff_eq] at h
                exact hv (by rw [h.1, h.2])
              clear hgm HS2 hv
              go_wp2_with (at_lookup; refine wpList_look rfl _ _ 51 rfl key53 Try.underlying51 zero28 b m (x.f6, x.f7) rfl rfl (HM3.out.below (below_alloc (below_alloc (Below.refl _ _) _) _)) (.agg #[.int .i64 v1, .int .i64 v2]) true (by rw [HG.out]; rfl) (by rw [HG.out]; rfl) ?_)
              go_ret3
              rw [HS3.out]
              exact ⟨rfl, below_alloc (below_alloc (below_alloc HB3.out _) _) _⟩
    · have hk' : k = l.length := by omega
      subst hk'
      have hres : whole acc Wt.wr key val old l = none := by rw [← HW.out, List.drop_length]; rfl
      have HRES := Aside0.mk hres
      clear hres
      go_wp2
      go_ret3
      rw [HRES.out]
      exact ⟨rfl, HB.out⟩
end Go.Proofs.Ytaeamehngbfneab.Wt
