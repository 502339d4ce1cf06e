/- WatchWrites: the call answers true, whatever comes in. -/
import Derived.Test.YtaeamehngbfneabWatchF
import Derived.Deep.QuietTactic
import Derived.BigQuiet
namespace Go.Proofs.Ytaeamehngbfneab.Wt
open Go Go.RowKit Go.Lib Go.Proofs.YtaeamehngbfneabW.PrintWords Go.Proofs.YtaeamehngbfneabW.PrintLast Go.Proofs.YtaeamehngbfneabW.PrintMore Go.Proofs.Ytaeamehngbfneab.Bs Go.Proofs.Ytaeamehngbfneab.PWatchBack Go.Proofs.Ytaeamehngbfneab.Wp Go.Proofs.Ytaeamehngbfneab.Open
set_option linter.unusedVariables false
set_option linter.unusedSimpArgs false

set_option maxHeartbeats 4000000 in
set_option maxRecDepth 100000 in
theorem isAt_calls (w : World) (e : S33) (k x y : Int) :
    Calls Try.prog 13 #[.agg #[.int .i64 e.f0, .int .i64 e.f1, .int .i64 e.f2, .int .i64 e.f3, .int .i64 e.f4, .int .i64 e.f5, .int .i64 e.f6, .int .i64 e.f7, .int .i64 e.f8.f0, .int .i64 e.f8.f1, .int .i64 e.f9.f0, .int .i64 e.f9.f1], .int .i64 k, .int .i64 x, .int .i64 y] w fun r w' =>
      r = .returned (.bool (e.f0 == k && e.f6 == x && e.f7 == y)) ∧ Below w.heap.size w w' := by
  cases h0 : e.f0 == k <;> cases h1 : e.f6 == x <;> cases h2 : e.f7 == y
  all_goals
    go_enter Try.func13, Try.ntmps13
    go_wp2
    go_ret
    exact ⟨rfl, below_alloc (Below.refl _ _) _⟩

/-- what the next place tells -/
theorem step_tells {l : List S33} (hf : Fits acc wr key val old l) (x y : Int) {m : Nat} (hm : m < l.length) {v u : Option (Int × Int)} (hv : v = value acc wr key val old (x, y) l m) (hu : u = value acc wr key val old (x, y) l (m + 1)) :
    v.isSome = u.isSome ∧ ((l[m].f0 == 4 && l[m].f6 == x && l[m].f7 == y) = false → u = v) := by
  have hs := value_step acc wr key val old hf (x, y) hm
  cases ho : ofSlot acc key (x, y) l[m] with
  | true =>
    have ha := value_after acc wr key val old (x, y) hm ho
    rw [ho, if_pos rfl] at hs
    rw [hv, hu, hs, ha]
    refine ⟨rfl, fun h => ?_⟩
    simp only [ofSlot, Bool.and_eq_true, decide_eq_true_eq, key, Prod.mk.injEq] at ho
    have hw : wr l[m] = false := by
      unfold wr
      cases h4 : l[m].f0 == 4 with
      | false => rfl
      | true => rw [h4, ho.2.1, ho.2.2] at h; simp at h
    unfold told
    rw [hw]
    rfl
  | false =>
    rw [ho, if_neg (by simp)] at hs
    rw [hv, hu, hs]
    exact ⟨rfl, fun _ => rfl⟩
theorem wr_acc (e : S33) (h : wr e = true) : acc e = true := by unfold acc; unfold wr at h; rw [h]; simp

set_option maxHeartbeats 16000000 in
set_option maxRecDepth 100000 in
theorem watchWrites_walk (w : World) (A : Option Addr) (c : Nat) (l : List S33) (lc : l.length ≤ c) (hr : Kd.C k33 w A l.length l) (_B : l.length ≤ 9223372036854775807 ∧ l.length * Try.prog.bytesOf 33 ≤ 140737488351232 ∧ ∀ a ∈ l, True)
    (x : Int) (hwf : (Lit.int .i64 x).wf = true) (y : Int) (hwf2 : (Lit.int .i64 y).wf = true) (a : Int) (hwf3 : (Lit.int .i64 a).wf = true) :
    Calls Try.prog 3 #[.slice A l.length c, .int .i64 x, .int .i64 y, .int .i64 a] w fun e w' => e = .returned (.bool true) ∧ Below w.heap.size w w' := by
  have hl0 := _B.1
  have HR := Aside0.mk hr
  clear hwf hwf2 hwf3 _B hr
  go_enter Try.func3, Try.ntmps3
  go_wp2_with fail
  refine (begunC (Below.refl _ _)).mono ?_
  rintro e w1 ⟨rfl, hb⟩
  have HB1 := Aside0.mk hb; clear hb
  go_wp2_with fail
  by_cases hl : 200 < l.length
  · refine (Whole_bad _ A c l (Kd.C_below HR.out HB1.out) lc hl).mono ?_
    rintro e w2 ⟨rfl, hb⟩
    have HB2 := Aside0.mk (below_then HB1.out HB1.out.size hb); clear hb
    go_wp2_with fail
    refine (Value_bad _ A c l x y a (Kd.C_below HR.out HB2.out) lc (by omega)).mono ?_
    rintro e w3 ⟨⟨r, hr, rfl⟩, hb⟩
    have HB3 := Aside0.mk (below_then HB2.out HB2.out.size hb); clear hb hr
    simp only [two]
    go_wp2_with fail
    refine (Last_bad _ A c l x y a (Kd.C_below HR.out (below_alloc HB3.out _)) lc (by omega)).mono ?_
    rintro e w4 ⟨⟨r2, hr2, rfl⟩, hb⟩
    have HB4 := Aside0.mk (below_then (below_alloc HB3.out _) (below_alloc HB3.out _).size hb); clear hb hr2
    go_wp2_with fail
    refine (begunC HB4.out).mono ?_
    rintro e w5 ⟨rfl, hb⟩
    have HB5 := Aside0.mk hb; clear hb
    go_wp2
    go_ret
    exact ⟨rfl, HB5.out⟩
  · refine (Whole_calls _ A c l (Kd.C_below HR.out HB1.out) lc (by omega)).mono ?_
    rintro e w2 ⟨rfl, hb⟩
    have HB2 := Aside0.mk (below_then HB1.out HB1.out.size hb); clear hb
    obtain ⟨r, hr⟩ : ∃ r, r = whole acc wr key val old l := ⟨_, rfl⟩
    rw [← hr]
    have HRR := Aside0.mk hr
    clear hr
    by_cases ha : 0 ≤ a ∧ a ≤ l.length
    · obtain ⟨m, rfl⟩ : ∃ m : Nat, a = (m : Int) := ⟨a.toNat, by omega⟩
      have hm : m ≤ l.length := by omega
      clear ha
      go_wp2_with fail
      refine (Value_calls _ A c l x y m (Kd.C_below HR.out HB2.out) lc hm (by omega)).mono ?_
      rintro e w3 ⟨rfl, hb⟩
      have HB3 := Aside0.mk (below_then HB2.out HB2.out.size hb); clear hb
      obtain ⟨v, hv⟩ : ∃ v, v = value acc wr key val old (x, y) l m := ⟨_, rfl⟩
      rw [← hv]
      have HV := Aside0.mk hv
      clear hv
      obtain ⟨p, q, hpq⟩ : ∃ p q, v.getD (0, 0) = (p, q) := ⟨_, _, rfl⟩
      have HPQ := Aside0.mk hpq
      rw [hpq]
      simp only [two]
      clear hpq
      go_wp2_with fail
      refine (Last_calls _ A c l x y m (Kd.C_below HR.out (below_alloc HB3.out _)) lc hm (by omega)).mono ?_
      rintro e w4 ⟨rfl, hb⟩
      obtain ⟨g, hg⟩ : ∃ g, g = w3.heap.size := ⟨_, rfl⟩
      have HG := Aside0.mk (show w4.heap[g]? = some (.cells #[.int .i64 p, .int .i64 q] 28 (0, 0)) by rw [hg]; exact (hb.block _ (by simp)).trans (heap_alloc_new w3 _))
      rw [← hg]
      have HB4 := Aside0.mk (below_then (below_alloc HB3.out _) (below_alloc HB3.out _).size hb); clear hb hg
      obtain ⟨b, hb⟩ : ∃ b, b = back (isW x y) l m := ⟨_, rfl⟩
      rw [← hb]
      have HBK := Aside0.mk hb
      clear hb
      cases r with
      | some k =>
        simp only [rOf, Option.getD_some, Option.isSome_some]
        go_wp2_with fail
        refine (begunC HB4.out).mono ?_
        rintro e w5 ⟨rfl, hb⟩
        have HB5 := Aside0.mk hb; clear hb
        go_wp2
        go_ret
        exact ⟨rfl, HB5.out⟩
      | none =>
        have HF := Aside0.mk (fits_of_whole acc wr key val old HRR.out.symm)
        simp only [rOf, Option.getD_none, Option.isSome_none]
        have h28 : ∀ (x0 x1 y0 y1 : Int) (w : World), (Op.equalIn 10000 28 (.agg #[.int .i64 x0, .int .i64 x1]) (.agg #[.int .i64 y0, .int .i64 y1])).run Try.prog w = .ok (x0 == y0 && (x1 == y1)) w := fun x0 x1 y0 y1 w => eqA28 9998 w x0 y0 x1 y1
        cases b with
        | none =>
          simp only [Option.getD_none, Option.isSome_none]
          go_wp2_with fail
          go_quiet (fail)
          have HB5 := Aside0.mk (show Below w.heap.size w (w4.drewN nq) from below_then HB4.out HB4.out.size ⟨rfl, rfl, rfl, Nat.le_refl _, fun _ _ => rfl⟩)
          have HG5 := Aside0.mk (show (w4.drewN nq).heap[g]? = some (.cells #[.int .i64 p, .int .i64 q] 28 (0, 0)) from HG.out)
          generalize w4.drewN nq = W5 at HB5 HG5 ⊢
          by_cases hml : m < l.length
          · have hte := step_tells HF.out x y hml HV.out rfl
            obtain ⟨u, hu⟩ : ∃ u, u = value acc wr key val old (x, y) l (m + 1) := ⟨_, rfl⟩
            rw [← hu] at hte
            obtain ⟨p', q', hpq'⟩ : ∃ p' q', u.getD (0, 0) = (p', q') := ⟨_, _, rfl⟩
            have HU := Aside0.mk hu
            have z1 : ((m + 1 : Nat) : Int) = (m : Int) + 1 := by omega
            have HTE := Aside0.mk (show (l[m].f0 == 4 && l[m].f6 == x && l[m].f7 == y) = false → p' = p ∧ q' = q from fun h => by
              have e := hte.2 h
              rw [e, HPQ.out] at hpq'
              simp only [Prod.mk.injEq] at hpq'
              exact ⟨hpq'.1.symm, hpq'.2.symm⟩)
            have HPQ' := Aside0.mk hpq'
            have HSS := Aside0.mk hte.1
            clear hu hte hpq'
            go_wp2_with fail
            have hcall := Value_calls W5 _ c l x y (m + 1) (Kd.C_below HR.out HB5.out) lc (by omega) (by omega)
            rw [← HU.out, z1] at hcall
            refine hcall.mono ?_
            rintro e w6 ⟨rfl, hb⟩
            obtain ⟨g2, hg2⟩ : ∃ g2, g2 = w6.heap.size := ⟨_, rfl⟩
            have HG6 := Aside0.mk (blk_below HG5.out hb)
            have HB6 := Aside0.mk (below_then HB5.out HB5.out.size hb)
            rw [HPQ'.out]
            simp only [two]
            clear hb z1 hcall
            obtain ⟨ad, rfl, h0, h1, h2, h3, h4, h5, h6, h7, h8, h9, h10, h11⟩ := cells12 HR.out HB6.out hml
            have hadl := World.block_lt_of_cell? w6 _ h0
            have HIA := fun W => isAt_calls W l[m] 4 x y
            generalize l[m] = z at *
            have HIAA := Aside0.mk HIA
            clear HIA
            have gl : g < w6.heap.size := blk_lt HG6.out
            have e0 := blk_cell HG6.out 0
            have e1 := blk_cell HG6.out 1
            simp only [List.getElem?_toArray, List.getElem?_cons_zero, List.getElem?_cons_succ] at e0 e1
            have z2 : (m : Int) < (l.length : Int) := by omega
            have hss : (u.isSome != u.isSome) = false := by cases u.isSome <;> rfl
            rw [HSS.out]
            go_wp2_with fail
            refine (HIAA.out _).mono ?_
            rintro e w7 ⟨rfl, hb7⟩
            have hg7 := blk_below (blk_below HG6.out (below_alloc (Below.refl _ _) _)) hb7
            have hh7 : w7.heap[w6.heap.size]? = some (.cells #[.int .i64 p', .int .i64 q'] 28 (0, 0)) := (hb7.block _ (by simp)).trans (heap_alloc_new w6 _)
            rw [← hg2] at hh7 ⊢
            have HB7 := Aside0.mk (below_then (below_alloc HB6.out _) (below_alloc HB6.out _).size hb7)
            have k0 := blk_cell hg7 0
            have k1 := blk_cell hg7 1
            have k2 := blk_cell hh7 0
            have k3 := blk_cell hh7 1
            simp only [List.getElem?_toArray, List.getElem?_cons_zero, List.getElem?_cons_succ] at k0 k1 k2 k3
            clear h0 h1 h2 h3 h4 h5 h6 h7 h8 h9 h10 h11 hb7 hg7 hh7 e0 e1 hg2
            cases hia : (z.f0 == 4 && z.f6 == x && z.f7 == y) with
            | true =>
              have HX := Aside0.mk hia
              clear hia
              go_wp2_with fail
              refine (begunC HB7.out).mono ?_
              rintro e w8 ⟨rfl, hb⟩
              have HB8 := Aside0.mk hb; clear hb
              go_wp2
              go_ret
              exact ⟨rfl, HB8.out⟩
            | false =>
              obtain ⟨rfl, rfl⟩ := HTE.out hia
              have HX := Aside0.mk hia
              clear hia
              go_wp2_with fail
              refine (begunC HB7.out).mono ?_
              rintro e w8 ⟨rfl, hb⟩
              have HB8 := Aside0.mk hb; clear hb
              go_wp2
              go_ret
              exact ⟨rfl, HB8.out⟩
          · have hd : decide ((m : Int) < (l.length : Int)) = false := decide_eq_false (by omega)
            go_wp2_with fail
            refine (begunC HB5.out).mono ?_
            rintro e w8 ⟨rfl, hb⟩
            have HB8 := Aside0.mk hb; clear hb
            go_wp2
            go_ret
            exact ⟨rfl, HB8.out⟩
        | some k =>
          obtain ⟨hkm, hkl, -⟩ := back_some HBK.out.symm
          have hvw : v = some (val l[k]) := HV.out.trans (value_write acc wr key val old HF.out wr_acc (x, y) hm hkl HBK.out.symm)
          have hpq2 := HPQ.out
          rw [hvw] at hpq2
          simp only [Option.getD_some, val, Prod.mk.injEq] at hpq2
          have HVS := Aside0.mk (show v.isSome = true by rw [hvw]; rfl)
          have HP1 := Aside0.mk (show (l[k].f8.f0 == p && (l[k].f8.f1 == q)) = true by rw [hpq2.1, hpq2.2]; simp)
          clear hvw hpq2
          simp only [Option.getD_some, Option.isSome_some]
          have z5 : (k : Int) < (l.length : Int) := by omega
          obtain ⟨ad, eA, h0, h1, h2, h3, h4, h5, h6, h7, h8, h9, h10, h11⟩ := cells12 HR.out HB4.out hkl
          subst eA
          have e0 := blk_cell HG.out 0
          have e1 := blk_cell HG.out 1
          simp only [List.getElem?_toArray, List.getElem?_cons_zero, List.getElem?_cons_succ] at e0 e1
          have D2 := HP1.out
          rw [HVS.out]
          generalize l[k] = zk at *
          go_wp2_with fail
          go_quiet (fail)
          have HB5 := Aside0.mk (show Below w.heap.size w (w4.drewN nq) from below_then HB4.out HB4.out.size ⟨rfl, rfl, rfl, Nat.le_refl _, fun _ _ => rfl⟩)
          have HG5 := Aside0.mk (show (w4.drewN nq).heap[g]? = some (.cells #[.int .i64 p, .int .i64 q] 28 (0, 0)) from HG.out)
          clear h0 h1 h2 h3 h4 h5 h6 h7 h8 h9 h10 h11 e0 e1 D2
          generalize w4.drewN nq = W5 at HB5 HG5 ⊢
          by_cases hml : m < l.length
          · have hte := step_tells HF.out x y hml HV.out rfl
            obtain ⟨u, hu⟩ : ∃ u, u = value acc wr key val old (x, y) l (m + 1) := ⟨_, rfl⟩
            rw [← hu] at hte
            obtain ⟨p', q', hpq'⟩ : ∃ p' q', u.getD (0, 0) = (p', q') := ⟨_, _, rfl⟩
            have HU := Aside0.mk hu
            have z1 : ((m + 1 : Nat) : Int) = (m : Int) + 1 := by omega
            have HTE := Aside0.mk (show (l[m].f0 == 4 && l[m].f6 == x && l[m].f7 == y) = false → p' = p ∧ q' = q from fun h => by
              have e := hte.2 h
              rw [e, HPQ.out] at hpq'
              simp only [Prod.mk.injEq] at hpq'
              exact ⟨hpq'.1.symm, hpq'.2.symm⟩)
            have HPQ' := Aside0.mk hpq'
            have HSS := Aside0.mk hte.1
            clear hu hte hpq'
            go_wp2_with fail
            have hcall := Value_calls W5 _ c l x y (m + 1) (Kd.C_below HR.out HB5.out) lc (by omega) (by omega)
            rw [← HU.out, z1] at hcall
            refine hcall.mono ?_
            rintro e w6 ⟨rfl, hb⟩
            obtain ⟨g2, hg2⟩ : ∃ g2, g2 = w6.heap.size := ⟨_, rfl⟩
            have HG6 := Aside0.mk (blk_below HG5.out hb)
            have HB6 := Aside0.mk (below_then HB5.out HB5.out.size hb)
            rw [HPQ'.out]
            simp only [two]
            clear hb z1 hcall
            obtain ⟨ad2, eA2, h0, h1, h2, h3, h4, h5, h6, h7, h8, h9, h10, h11⟩ := cells12 HR.out HB6.out hml
            cases eA2
            have hadl := World.block_lt_of_cell? w6 _ h0
            have HIA := fun W => isAt_calls W l[m] 4 x y
            generalize l[m] = z at *
            have HIAA := Aside0.mk HIA
            clear HIA
            have gl : g < w6.heap.size := blk_lt HG6.out
            have e0 := blk_cell HG6.out 0
            have e1 := blk_cell HG6.out 1
            simp only [List.getElem?_toArray, List.getElem?_cons_zero, List.getElem?_cons_succ] at e0 e1
            have z2 : (m : Int) < (l.length : Int) := by omega
            have hss : (u.isSome != u.isSome) = false := by cases u.isSome <;> rfl
            rw [← HSS.out, HVS.out]
            go_wp2_with fail
            refine (HIAA.out _).mono ?_
            rintro e w7 ⟨rfl, hb7⟩
            have hg7 := blk_below (blk_below HG6.out (below_alloc (Below.refl _ _) _)) hb7
            have hh7 : w7.heap[w6.heap.size]? = some (.cells #[.int .i64 p', .int .i64 q'] 28 (0, 0)) := (hb7.block _ (by simp)).trans (heap_alloc_new w6 _)
            rw [← hg2] at hh7 ⊢
            have HB7 := Aside0.mk (below_then (below_alloc HB6.out _) (below_alloc HB6.out _).size hb7)
            have k0 := blk_cell hg7 0
            have k1 := blk_cell hg7 1
            have k2 := blk_cell hh7 0
            have k3 := blk_cell hh7 1
            simp only [List.getElem?_toArray, List.getElem?_cons_zero, List.getElem?_cons_succ] at k0 k1 k2 k3
            clear h0 h1 h2 h3 h4 h5 h6 h7 h8 h9 h10 h11 hb7 hg7 hh7 e0 e1 hg2
            cases hia : (z.f0 == 4 && z.f6 == x && z.f7 == y) with
            | true =>
              have HX := Aside0.mk hia
              clear hia
              go_wp2_with fail
              refine (begunC HB7.out).mono ?_
              rintro e w8 ⟨rfl, hb⟩
              have HB8 := Aside0.mk hb; clear hb
              go_wp2
              go_ret
              exact ⟨rfl, HB8.out⟩
            | false =>
              obtain ⟨rfl, rfl⟩ := HTE.out hia
              have HX := Aside0.mk hia
              clear hia
              go_wp2_with fail
              refine (begunC HB7.out).mono ?_
              rintro e w8 ⟨rfl, hb⟩
              have HB8 := Aside0.mk hb; clear hb
              go_wp2
              go_ret
              exact ⟨rfl, HB8.out⟩
          · have hd : decide ((m : Int) < (l.length : Int)) = false := decide_eq_false (by omega)
            go_wp2_with fail
            refine (begunC HB5.out).mono ?_
            rintro e w8 ⟨rfl, hb⟩
            have HB8 := Aside0.mk hb; clear hb
            go_wp2
            go_ret
            exact ⟨rfl, HB8.out⟩
    · go_wp2_with fail
      refine (Value_bad _ A c l x y a (Kd.C_below HR.out HB2.out) lc (by omega)).mono ?_
      rintro e w3 ⟨⟨r1, hr1, rfl⟩, hb⟩
      have HB3 := Aside0.mk (below_then HB2.out HB2.out.size hb); clear hb
      simp only [two]
      go_wp2_with fail
      refine (Last_bad _ A c l x y a (Kd.C_below HR.out (below_alloc HB3.out _)) lc (by omega)).mono ?_
      rintro e w4 ⟨⟨r2, hr2, rfl⟩, hb⟩
      have HB4 := Aside0.mk (below_then (below_alloc HB3.out _) (below_alloc HB3.out _).size hb); clear hb hr2
      have D : (r1 != 0) = true := by rcases hr1 with rfl | rfl <;> rfl
      cases r with
      | none =>
        simp only [rOf, Option.getD_none, Option.isSome_none]
        go_wp2_with fail
        refine (begunC HB4.out).mono ?_
        rintro e w5 ⟨rfl, hb⟩
        have HB5 := Aside0.mk hb; clear hb
        go_wp2
        go_ret
        exact ⟨rfl, HB5.out⟩
      | some k =>
        simp only [rOf, Option.getD_some, Option.isSome_some]
        go_wp2_with fail
        refine (begunC HB4.out).mono ?_
        rintro e w5 ⟨rfl, hb⟩
        have HB5 := Aside0.mk hb; clear hb
        go_wp2
        go_ret
        exact ⟨rfl, HB5.out⟩
end Go.Proofs.Ytaeamehngbfneab.Wt
