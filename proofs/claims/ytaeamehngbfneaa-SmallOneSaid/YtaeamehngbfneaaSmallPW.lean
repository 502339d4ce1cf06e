/- SmallParts' walk: the call answers true, whatever comes in. -/
import Derived.Test.YtaeamehngbfneaaSmallG
import Derived.Test.YtaeamehngbfneaaSmallAllW
import Derived.Test.YtaeamehngbfneaaCuts
import Derived.Test.YtaeamehngbfneaaRegionEff
namespace Go.Proofs.Ytaeamehngbfneaa.Sl
open Go Go.RowKit Go.Lib Go.Proofs.YtaeamehngbfneaaW.PrintWords Go.Proofs.YtaeamehngbfneaaW.PrintLast Go.Proofs.YtaeamehngbfneaaW.PrintMore Go.Proofs.Ytaeamehngbfneaa.RegionVal Go.Proofs.Ytaeamehngbfneaa.PSmallAll Go.Proofs.Ytaeamehngbfneaa.Open
set_option linter.unusedVariables false
set_option linter.unusedSimpArgs false

/-- Without's answer, and what it leaves -/
def WPost (w : World) (xs : List Int) (f t : Int) (e : Ending) (w' : World) : Prop :=
  (0 ≤ f ∧ f ≤ t ∧ t ≤ xs.length ∧ xs.length ≤ 200 ∧ ∃ A c u, u = xs.take f.toNat ++ xs.drop t.toNat ∧ e = .returned (.tuple #[.slice A u.length c, .int .i64 0]) ∧ u.length ≤ c ∧
    ReadsInt w' .i64 A u.length u ∧ Below w.heap.size w w') ∨
  (¬ (0 ≤ f ∧ f ≤ t ∧ t ≤ xs.length ∧ xs.length ≤ 200) ∧ ∃ q : Int, 1 ≤ q ∧ q ≤ 2 ∧ e = .returned (.tuple #[.slice none 0 0, .int .i64 q]) ∧ w = w')

theorem withoutC (w : World) (A : Option Addr) (c : Nat) (xs : List Int) (f t : Int) (hr : ReadsInt w .i64 A xs.length xs) (hc : xs.length ≤ c) :
    Calls Try.prog 12 #[.slice A xs.length c, .int .i64 f, .int .i64 t] w (WPost w xs f t) := by
  by_cases h : 0 ≤ f ∧ f ≤ t ∧ t ≤ xs.length ∧ xs.length ≤ 200
  · obtain ⟨h0, h1, h2, h3⟩ := h
    refine (Without_ok w A c xs f t hr hc h3 h0 h1 h2).mono ?_
    rintro e w' ⟨v, rfl, ho, hb⟩
    obtain ⟨A', c', rfl, h4, h5⟩ := own_rd ho
    exact .inl ⟨h0, h1, h2, h3, A', c', _, rfl, rfl, h4, h5, hb⟩
  · by_cases hl : xs.length ≤ 200
    · refine (Without_arg w A c xs.length f t hl (fun k => h ⟨k.1, k.2.1, k.2.2, hl⟩)).mono ?_
      rintro e w' ⟨rfl, rfl⟩
      exact .inr ⟨h, 1, by omega, by omega, rfl, rfl⟩
    · refine (Without_large w A c xs.length f t (by omega)).mono ?_
      rintro e w' ⟨rfl, rfl⟩
      exact .inr ⟨h, 2, by omega, by omega, rfl, rfl⟩

/-- two stretches side by side are one -/
theorem parts_two (l : List Int) (a b c : Nat) (h1 : a ≤ b) (h2 : b ≤ c) (h3 : c ≤ l.length) : (l.take a ++ l.drop b).take a ++ (l.take a ++ l.drop b).drop (a + c - b) = l.take a ++ l.drop c := by
  have e1 : (l.take a).length = a := by rw [List.length_take]; omega
  rw [List.take_append_of_le_length (by omega), List.take_take, Nat.min_self, List.drop_append, e1, List.drop_eq_nil_of_le (by omega : (l.take a).length ≤ a + c - b), List.nil_append, List.drop_drop]
  congr 2
  omega
/-- what is left out, put back -/
theorem parts_back (l : List Int) (a b : Nat) (h1 : a ≤ b) (h3 : b ≤ l.length) : ([] ++ (l.take a ++ l.drop b).take a) ++ (l.take b).drop a ++ (l.take a ++ l.drop b).drop a = l := by
  have e1 : (l.take a).length = a := by rw [List.length_take]; omega
  rw [List.nil_append, List.take_append_of_le_length (by omega), List.take_take, Nat.min_self, List.drop_append, e1, List.drop_eq_nil_of_le (by omega : (l.take a).length ≤ a), List.nil_append, Nat.sub_self, List.drop_zero]
  have : l.take a = (l.take b).take a := by rw [List.take_take]; congr 1; omega
  rw [this, List.take_append_drop, List.take_append_drop]

theorem sameCC {w w0 : World} (hb : Below w0.heap.size w0 w) {A A1 : Option Addr} {c c1 : Nat} {l m : List Int} (hr : ReadsInt w .i64 A l.length l) (hc : l.length ≤ c) (hl : l.length ≤ 1000) (hr1 : ReadsInt w .i64 A1 m.length m) (hc1 : m.length ≤ c1) (h : l = m) :
    Calls Try.prog 14 #[.slice A l.length c, .slice A1 m.length c1] w fun e w' => e = .returned (.bool true) ∧ Below w0.heap.size w0 w' := by
  have hd : decide (l = m) = true := decide_eq_true h
  refine (sameC w A c l A1 c1 m hr hc hl hr1 hc1).mono ?_
  rintro e w' ⟨rfl, h1⟩
  rw [hd]
  exact ⟨rfl, below_step hb h1⟩

theorem lit_run (W : World) : Sem.run Try.prog (Instr.buildSlice 22 0 #[]) W = .ok (.slice (some ⟨W.heap.size, 0, none⟩) 0 0) (W.alloc (.cells #[] 3)) := by
  go_simp

set_option maxHeartbeats 4000000 in
set_option maxRecDepth 100000 in
theorem smallParts_walk (w : World) (A : Option Addr) (c : Nat) (l : List Int) (lc : l.length ≤ c) (hr : Kd.C (Kd.int .i64) w A l.length l) (_B : l.length ≤ 9223372036854775807 ∧ l.length * Try.prog.bytesOf 3 ≤ 140737488351232 ∧ ∀ a ∈ l, (Lit.int .i64 a).wf = true)
    (x : Int) (hx : (Lit.int .i64 x).wf = true) (y : Int) (hy : (Lit.int .i64 y).wf = true) (z : Int) (hz : (Lit.int .i64 z).wf = true) :
    Calls Try.prog 5 #[.slice A l.length c, .int .i64 x, .int .i64 y, .int .i64 z] w fun e w' => e = .returned (.bool true) ∧ Below w.heap.size w w' := by
  have hR1 := Kd.reads_of_C (d := (0 : Int)) (h1 := fun _ => rfl) hr
  have HR := Aside0.mk (show ReadsInt w .i64 A l.length l from hR1)
  have HB := Aside0.mk (Below.refl w.heap.size w)
  clear hr hR1 _B hx hy hz
  go_enter Try.func5, Try.ntmps5
  go_wp2_with fail
  refine (begunC HB.out).mono ?_
  rintro e w1 ⟨rfl, hb⟩
  have HB1 := Aside0.mk hb; clear hb
  go_wp2_with fail
  refine (withoutC _ A c l x y (HR.out.below HB1.out) lc).mono ?_
  rintro e w2 (⟨h0, h1, h2, h3, A2, c2, u, hu, rfl, hc2, hr2, hb2⟩ | ⟨hn, q, hq1, hq2, rfl, rfl⟩)
  · have HB2 := Aside0.mk (below_then HB1.out HB1.out.size hb2)
    have HR2 := Aside0.mk hr2
    have HU := Aside0.mk hu
    clear hr2 hb2 hu
    go_wp2_with fail
    refine (withoutC _ A c l x z (HR.out.below HB2.out) lc).mono ?_
    rintro e w3 (⟨-, k1, k2, -, A3, c3, v, hv, rfl, hc3, hr3, hb3⟩ | ⟨hn, q, hq1, hq2, rfl, rfl⟩)
    · have HB3 := Aside0.mk (below_then HB2.out HB2.out.size hb3)
      have HR2' := Aside0.mk (HR2.out.below hb3)
      have HR3 := Aside0.mk hr3
      have HV := Aside0.mk hv
      clear hr3 hb3 hv
      by_cases hyz : z < y
      · go_wp2_with fail
        refine (begunC HB3.out).mono ?_
        rintro e w4 ⟨rfl, hb⟩
        have HB4 := Aside0.mk hb; clear hb
        go_wp2
        go_ret
        exact ⟨rfl, HB4.out⟩
      · obtain ⟨a, rfl⟩ : ∃ a : Nat, x = (a : Int) := ⟨x.toNat, by omega⟩
        obtain ⟨b, rfl⟩ : ∃ b : Nat, y = (b : Int) := ⟨y.toNat, by omega⟩
        obtain ⟨d, rfl⟩ : ∃ d : Nat, z = (d : Int) := ⟨z.toNat, by omega⟩
        have HQ1 := Aside0.mk (parts_two l a b d (by omega) (by omega) (by omega))
        have HQ2 := Aside0.mk (parts_back l a b (by omega) (by omega))
        have hu := HU.out
        have hv := HV.out
        clear HU HV
        simp only [Int.toNat_natCast] at hu hv
        have g1 : u.length = l.length - (b - a) := by rw [hu, List.length_append, List.length_take, List.length_drop]; omega
        rw [← hu, ← hv] at HQ1
        rw [← hu] at HQ2
        have g2 : v.length = l.length - (d - a) := by rw [hv, List.length_append, List.length_take, List.length_drop]; omega
        have HG := Aside0.mk g1
        have HV' := Aside0.mk g2
        clear hu hv g1 g2
        have e1 : a ≤ b := by omega
        have e2 : b ≤ d := by omega
        have e3 : d ≤ l.length := by omega
        clear h0 h1 h2 k1 k2 hyz
        go_wp2_with fail
        have e4 : ((a + d - b : Nat) : Int) = (a : Int) + d - b := by omega
        have g1 := HG.out
        refine (withoutC _ A2 c2 u (a : Int) ((a : Int) + (d : Int) - (b : Int)) HR2'.out hc2).mono ?_
        rintro e w4 (⟨-, k1, k2, -, A4, c4, t, ht, rfl, hc4, hr4, hb4⟩ | ⟨hn, q, hq1, hq2, rfl, rfl⟩)
        · rw [show ((a : Int) + d - b) = ((a + d - b : Nat) : Int) by omega] at ht
          simp only [Int.toNat_natCast] at ht
          rw [HQ1.out] at ht
          subst ht
          have HB4 := Aside0.mk (below_then HB3.out HB3.out.size hb4)
          have HR2 := Aside0.mk (HR2'.out.below hb4)
          have HR3' := Aside0.mk (HR3.out.below hb4)
          have HR4 := Aside0.mk hr4
          clear hr4 hb4 g1 e4
          go_wp2_with fail
          have q1 := cut_h A2 u.length c2 (a : Int) a rfl (by have := HG.out; omega) hc2
          have q2 := cut_lh A l.length c (a : Int) (b : Int) a b rfl rfl e1 (by omega) lc
          have q3 := cut_l A2 u.length c2 (a : Int) a rfl (by have := HG.out; omega) hc2
          have R1 := Aside0.mk (HR2.out.take_ a (by have := HG.out; omega))
          have R2 := Aside0.mk (ReadsInt.stretch (HR.out.below HB4.out) a b e1 (by omega) lc)
          have R3 := Aside0.mk (HR2.out.drop_ (c := c2) a (by have := HG.out; omega) hc2)
          generalize (if c = a then A else A.map (·.add a)) = AA at q2 R2
          generalize (if c2 = a then A2 else A2.map (·.add a)) = AB at q3 R3
          refine wp_eff (S := fun w' => Below w4.heap.size w4 w') [(1, false), (2, false), (3, false), (5, false), (6, false), (7, false), (8, false), (10, false), (11, false), (12, false), (0, true), (4, true), (9, true), (13, true), (14, false)] (by kernel_rfl) (by kernel_rfl) (below_drew (Below.refl _ _)) (fun _ _ d _ _ h => by cases d <;> exact h) ?_
          refine se_move rfl rfl rfl ?_
          refine se_move rfl rfl rfl ?_
          refine se_slice rfl rfl rfl rfl rfl rfl (fun w' _ => q1 w') ?_
          refine se_move rfl rfl rfl ?_
          refine se_move rfl rfl rfl ?_
          refine se_move rfl rfl rfl ?_
          refine se_slice rfl rfl rfl rfl rfl rfl (fun w' _ => q2 w') ?_
          refine se_move rfl rfl rfl ?_
          refine se_move rfl rfl rfl ?_
          refine se_slice rfl rfl rfl rfl rfl rfl (fun w' _ => q3 w') ?_
          refine se_lit (vs := []) rfl rfl rfl (lit_run _) (below_alloc (below_drew (Below.refl _ _)) _) ?_
          obtain ⟨v1, x1, hx1, ho1, hb1, hs1⟩ := app_run (w0 := w4) w4.heap.size _ [] (u.take a) A2 a c2 #[false, false] (World.ownsRow_made w4.drew #[] 0 (Nat.le_refl _) (by decide) rfl) (R1.out.below (below_alloc (below_drew (Below.refl _ _)) _)) (below_alloc (below_drew (Below.refl _ _)) _) (below_alloc (below_drew (Below.refl _ _)) _).size (by have := HG.out; simp; omega)
          refine se_made rfl rfl rfl hx1 hb1 ?_
          obtain ⟨v2, x2, hx2, ho2, hb2, hs2⟩ := app_run (w0 := w4) w4.heap.size _ _ ((l.take b).drop a) _ (b - a) (c - a) #[false, false] ho1 (R2.out.below hb1) hb1 hs1 (by have := HG.out; simp; omega)
          refine se_made rfl rfl rfl hx2 hb2 ?_
          obtain ⟨v3, x3, hx3, ho3, hb3, hs3⟩ := app_run (w0 := w4) w4.heap.size _ _ (u.drop a) _ (u.length - a) (c2 - a) #[false, false] ho2 (R3.out.below hb2) hb2 hs2 (by have := HG.out; simp; omega)
          refine se_made rfl rfl rfl hx3 hb3 ?_
          refine se_assign rfl rfl rfl ?_
          intro _
          simp only [puts, Act.put, List.setIfInBounds_toArray, List.set_cons_zero, List.set_cons_succ]
          obtain ⟨A5, c5, rfl, hc5, hr5⟩ := own_rd ho3
          obtain ⟨bk, hbk⟩ : ∃ bk, bk = (([] ++ u.take a) ++ (l.take b).drop a) ++ u.drop a := ⟨_, rfl⟩
          rw [← hbk] at hc5 hr5 HQ2 ⊢
          have HB5 := Aside0.mk (below_then HB4.out HB4.out.size hb3)
          have HR5 := Aside0.mk hr5
          have HR3 := Aside0.mk (HR3'.out.below hb3)
          have HR4' := Aside0.mk (HR4.out.below hb3)
          clear hr5 hb3 hb2 hb1 hbk q1 q2 q3 R1 R2 R3 hx1 hx2 hx3 ho1 ho2 ho3 hs1 hs2 hs3
          go_wp2_with fail
          refine (begun_calls _).mono ?_
          rintro e w6 ⟨rfl, hb⟩
          have HB6 := Aside0.mk (below_step HB5.out hb)
          have HR3' := Aside0.mk (HR3.out.below hb)
          have HR4 := Aside0.mk (HR4'.out.below hb)
          have HR5' := Aside0.mk (HR5.out.below hb)
          clear hb
          go_wp2_with fail
          refine (sameC _ A4 c4 t A3 c3 t HR4.out hc4 (by have := HV'.out; omega) HR3'.out hc3).mono ?_
          rintro e w7 ⟨rfl, hb⟩
          rw [show decide (t = t) = true from decide_eq_true rfl]
          have HB7 := Aside0.mk (below_step HB6.out hb)
          have HR5 := Aside0.mk (HR5'.out.below hb)
          clear hb
          go_wp2_with fail
          refine (sameC _ A5 c5 bk A c l HR5.out hc5 (by rw [HQ2.out]; omega) (HR.out.below HB7.out) lc).mono ?_
          rintro e w8 ⟨rfl, hb⟩
          rw [show decide (bk = l) = true from decide_eq_true HQ2.out]
          have HB8 := Aside0.mk (below_step HB7.out hb)
          clear hb
          go_wp2
          go_ret
          exact ⟨rfl, HB8.out⟩
        · exfalso
          omega
    · go_wp2_with fail
      refine (begunC HB2.out).mono ?_
      rintro e w4 ⟨rfl, hb⟩
      have HB4 := Aside0.mk hb; clear hb
      go_wp2
      go_ret
      exact ⟨rfl, HB4.out⟩
  · go_wp2_with fail
    refine (withoutC _ A c l x z (HR.out.below HB1.out) lc).mono ?_
    rintro e w3 (⟨k0, k1, k2, -, A3, c3, v, hv, rfl, hc3, hr3, hb3⟩ | ⟨hn2, q2, hq3, hq4, rfl, rfl⟩)
    · have HB3 := Aside0.mk (below_then HB1.out HB1.out.size hb3)
      clear hv
      go_wp2_with fail
      refine (begunC HB3.out).mono ?_
      rintro e w4 ⟨rfl, hb⟩
      have HB4 := Aside0.mk hb; clear hb
      go_wp2
      go_ret
      exact ⟨rfl, HB4.out⟩
    · go_wp2_with fail
      refine (begunC HB1.out).mono ?_
      rintro e w4 ⟨rfl, hb⟩
      have HB4 := Aside0.mk hb; clear hb
      go_wp2
      go_ret
      exact ⟨rfl, HB4.out⟩
end Go.Proofs.Ytaeamehngbfneaa.Sl
