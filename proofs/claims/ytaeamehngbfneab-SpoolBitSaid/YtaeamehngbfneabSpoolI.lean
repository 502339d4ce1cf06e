/- SpoolBit: the call answers true, whatever comes in. -/
import Derived.Test.YtaeamehngbfneabSpoolH
import Derived.StillTailTactics
namespace Go.Proofs.Ytaeamehngbfneab.Sp
open Go Go.RowKit Go.Lib Go.Proofs.YtaeamehngbfneabW.PrintWords Go.Proofs.YtaeamehngbfneabW.PrintLast Go.Proofs.YtaeamehngbfneabW.PrintMore Go.Proofs.Ytaeamehngbfneab.PSpoolBack Go.Proofs.Ytaeamehngbfneab.RegionVal Go.Proofs.Ytaeamehngbfneab.Open
attribute [local go_sem] max2_int min2_int max_two min_two
set_option linter.unusedVariables false
set_option linter.unusedSimpArgs false

/-- one byte turned: the whole is refused -/
theorem turned_f (l : List S28) (hok : Ok l) (hl : l.length ≤ 60) (i : Nat) (hi : i < 13 * l.length) (y z : Int) (hz : (bytes l)[i]? = some z) (hne : y ≠ z) (hy : 0 ≤ y ∧ y < 256) : spool_Read.f 2000 ((bytes l).set i y) = some ([], 0, 11) := by
  obtain ⟨x, t, hx, ht, hset, hget⟩ := bytes_set l i y hi
  have hr := (hok x hx).1
  have hl13 := rec_length x.f0 x.f1
  have hi13 : i % 13 < (rec x.f0 x.f1).length := by omega
  rw [hz, List.getElem?_eq_getElem hi13, Option.some.injEq] at hget
  rw [hset]
  refine read_turned (l.take (i / 13)) _ t (Ok_take hok _) (by rw [List.length_take]; omega) (by simp [hl13]) ?_ (rec_turned hr hi13 hy (by rw [← hget]; exact hne)) (by omega) (by omega)
  intro q hq
  rcases List.mem_or_eq_of_mem_set hq with hq | rfl
  · exact rec_byte hr q hq
  · exact hy

set_option maxHeartbeats 16000000 in
set_option maxRecDepth 100000 in
theorem spoolBit_walk (w : World) (A : Option Addr) (c : Nat) (l : List S28) (lc : l.length ≤ c) (hr : Kd.C k28 w A l.length l) (_B : l.length ≤ 9223372036854775807 ∧ l.length * Try.prog.bytesOf 28 ≤ 140737488351232 ∧ ∀ a ∈ l, In64 a.f1)
    (a : Int) (hwf : (Lit.int .i64 a).wf = true) :
    Calls Try.prog 8 #[.slice A l.length c, .int .i64 a] w fun e w' => e = .returned (.bool true) ∧ Below w.heap.size w w' := by
  have hl0 := _B.1
  have h64 := _B.2.2
  have HWF := Aside0.mk (wf64 hwf)
  obtain ⟨n1, hn1, b1, hm1⟩ := min_cut l.length 60 (by omega) (by omega) hl0
  have hT1 := Kd.C_take hr hn1
  obtain ⟨l', hl'⟩ : ∃ l', l' = l.take n1 := ⟨_, rfl⟩
  have h64' : In64s l' := by rw [hl']; exact fun x hx => h64 x (List.mem_of_mem_take hx)
  rw [← hl'] at hT1
  have e1 : l'.length = n1 := by rw [hl', List.length_take]; omega
  have b3 : n1 ≤ c := by omega
  subst e1
  have HT := Aside0.mk hT1
  have H64 := Aside0.mk h64'
  have HM1 := Aside0.mk hm1
  clear hr _B hl' hT1 hm1 hn1 h64 h64' hwf
  have HB := Aside0.mk (Below.refl w.heap.size w)
  go_enter Try.func8, Try.ntmps8
  go_wp2_with fail
  refine (begunC HB.out).mono ?_
  rintro e w1 ⟨rfl, hb⟩
  have HB1 := Aside0.mk hb; clear hb
  have hm1 := HM1.out
  go_wp2_with fail
  refine (All_calls w1 A c l' (Kd.C_below HT.out HB1.out) b3 (by omega) H64.out).mono ?_
  rintro e w2 ⟨⟨hrt, A2, c2, rfl, hc2, hC2⟩ | ⟨hrt, r, hr0, rfl⟩, hb⟩
  · have HB2 := Aside0.mk (below_then HB1.out HB1.out.size hb)
    have HC2 := Aside0.mk hC2
    have HRT := Aside0.mk hrt
    have hbl := bytes_length l'
    have HBL := Aside0.mk hbl
    clear hb hC2 hrt
    obtain ⟨B, hBy⟩ : ∃ B, B = bytes l' := ⟨_, rfl⟩
    rw [← hBy] at hbl HC2 hc2 HBL ⊢
    have HBy := Aside0.mk hBy
    clear hBy
    have e60 : (B.length : Int) ≤ 780 := by omega
    clear hbl
    by_cases ha0 : a < 0
    · go_wp2_with fail
      refine (begunC HB2.out).mono ?_
      rintro e w3 ⟨rfl, hb⟩
      have HB3 := Aside0.mk hb; clear hb
      go_wp2
      go_ret
      exact ⟨rfl, HB3.out⟩
    · by_cases ha1 : 8 * (B.length : Int) ≤ a
      · go_wp2_with fail
        refine (begunC HB2.out).mono ?_
        rintro e w3 ⟨rfl, hb⟩
        have HB3 := Aside0.mk hb; clear hb
        go_wp2
        go_ret
        exact ⟨rfl, HB3.out⟩
      · obtain ⟨m, rfl⟩ : ∃ m : Nat, a = (m : Int) := ⟨a.toNat, by omega⟩
        go_wp2_with (at_builtin; refine print_append_row (w0 := w2) w2.heap.size rfl _ _ 42 5 .u8 1 rfl Try.underlying42 By.infoInt (by decide) _ [] B A2 B.length c2 rfl rfl (World.ownsRow_made w2 #[] 0 (Nat.le_refl _) (by decide) rfl) (reads_of8 (Kd.C_below HC2.out (below_alloc (Below.refl _ _) _))) (below_alloc (Below.refl _ _) _) (by simp) (by simp; omega) ?_; intro v1 w3 hown hB hg hat; have HO1 := Aside0.mk hown; have HB3 := Aside0.mk hB; clear hown hB hg hat)
        have ho := HO1.out
        rw [List.nil_append] at ho
        obtain ⟨g, cap, rfl, hgb, hgl⟩ := ho.form (by omega)
        obtain ⟨i, hi⟩ : ∃ i, i = m / 8 := ⟨_, rfl⟩
        obtain ⟨r, hr⟩ : ∃ r, r = m % 8 := ⟨_, rfl⟩
        have hiB : i < B.length := by omega
        obtain ⟨z, hz⟩ : ∃ z, z = B[i] := ⟨_, rfl⟩
        have hcell : w3.cell? ⟨g, i, none⟩ = some (.int .u8 z) ∧ w3.frozen? ⟨g, i, none⟩ = false := by
          have := own_at_of (d := (0 : Int)) (enc := Value.int .u8) ho (i : Int) (by omega) (by omega)
          rw [Int.toNat_natCast] at this
          refine ⟨this.1.trans ?_, this.2⟩
          rw [hz]
          simp [rdOf, List.getD_eq_getElem?_getD, hiB]
        have q1 : (m : Int).tdiv 8 = (i : Int) := by rw [Int.tdiv_eq_ediv_of_nonneg (by omega), hi]; omega
        have q2 : (m : Int).tmod 8 = (r : Int) := by rw [Int.tmod_eq_emod_of_nonneg (by omega), hr]; omega
        have q3 : (m : Int) / 8 = (i : Int) := by omega
        have q4 : (m : Int) % 8 = (r : Int) := by omega
        have z1 : (i : Int) < (B.length : Int) := by omega
        have z2 : (r : Int) < 8 := by omega
        have z3 : r < 8 := by omega
        have HZ := Aside0.mk hz
        have HO := Aside0.mk ho
        have HIB := Aside0.mk hiB
        have HMM := Aside0.mk hr
        clear hi hr hz ho HO1
        have c0 := hcell.1
        have f0 := hcell.2
        clear hcell
        go_region
        obtain ⟨x, hx⟩ : ∃ x : Int, x = 2 ^ r % 256 := ⟨_, rfl⟩
        have hx0 : 0 < x ∧ x < 256 := by
          rw [hx]
          have : r = 0 ∨ r = 1 ∨ r = 2 ∨ r = 3 ∨ r = 4 ∨ r = 5 ∨ r = 6 ∨ r = 7 := by omega
          rcases this with rfl | rfl | rfl | rfl | rfl | rfl | rfl | rfl <;> decide
        rw [← hx]
        obtain ⟨y, hy⟩ : ∃ y, y = Go.bits .xor .u8 z x := ⟨_, rfl⟩
        have hzB : (bytes l')[i]? = some z := by rw [← HBy.out, HZ.out]; exact List.getElem?_eq_getElem HIB.out
        have hz0 : 0 ≤ z ∧ z < 256 := bytes_byte HRT.out z (List.mem_of_getElem? hzB)
        have hyz : y ≠ z := by rw [hy]; exact xor8_ne hz0 hx0
        have hy0 : 0 ≤ y ∧ y < 256 := by rw [hy]; exact xor8_range z x
        have HRD := Aside0.mk (show spool_Read.f 2000 (B.set i y) = some ([], 0, 11) by
          rw [HBy.out]
          exact turned_f l' (Ok_of HRT.out H64.out) (by omega) i (by have := HBL.out; have := HIB.out; omega) y z hzB hyz hy0)
        rw [← hy]
        have hst := (own_store_of (enc := Value.int .u8) HO.out (i : Int) y).1
        rw [Int.toNat_natCast] at hst
        have hst' : (w3.setCell ⟨g, i, none⟩ (.int .u8 y)).ownsRow w2.heap.size 5 1 (.slice (some ⟨g, 0, none⟩) B.length cap) (B.set i y).length (nums .u8 (B.set i y)) := by rw [List.length_set]; exact hst
        have hb5 : Below w2.heap.size w2 (w3.setCell ⟨g, i, none⟩ (.int .u8 y)).drew := below_drew1 (HB3.out.setCell (p := ⟨g, i, none⟩) hgb _)
        have HO5 := Aside0.mk (own_drew hst')
        have HB5 := Aside0.mk (below_then HB2.out HB2.out.size hb5)
        clear c0 f0 hst hst' hb5 hx hx0 hy hz0 hyz hy0 hzB HZ HO HB3 q1 q2 q3 q4 z1 z2 z3
        generalize (w3.setCell ⟨g, i, none⟩ (.int .u8 y)).drew = w5 at HO5 HB5 ⊢
        have hrd : Kd.C (Kd.int .u8) w5 (some ⟨g, 0, none⟩) B.length (B.set i y) ∧ B.length ≤ cap := by
          have ho5 := HO5.out
          obtain ⟨A9, c9, e9, hc9, hr9⟩ := own_rdB ho5
          simp only [Value.slice.injEq] at e9
          obtain ⟨rfl, e9, rfl⟩ := e9
          rw [List.length_set] at hr9 hc9
          exact ⟨C_of_reads8 hr9, hc9⟩
        have HRDS := Aside0.mk hrd
        clear hrd
        go_wp2_with fail
        refine (ReadC HB5.out (some ⟨g, 0, none⟩) cap B.length (B.set i y) [] 0 11 (by rw [List.length_set]) HRDS.out.1 HRDS.out.2 HRD.out).mono ?_
        rintro e w6 ⟨A6, c6, rfl, -, -, hb⟩
        have HB6 := Aside0.mk hb
        clear hb
        simp only [List.length_nil]
        go_wp2_with fail
        refine (begunC HB6.out).mono ?_
        rintro e w7 ⟨rfl, hb⟩
        have HB7 := Aside0.mk hb; clear hb
        go_wp2
        go_ret
        exact ⟨rfl, HB7.out⟩
  · have HB2 := Aside0.mk (below_then HB1.out HB1.out.size hb)
    have hr' : (r == 0) = false := beq_eq_false_iff_ne.mpr hr0
    have hr'' : (r != 0) = true := bne_iff_ne.mpr hr0
    clear hb hr0 hrt
    go_wp2_with fail
    refine (begunC HB2.out).mono ?_
    rintro e w3 ⟨rfl, hb⟩
    have HB3 := Aside0.mk hb; clear hb
    go_wp2
    go_ret
    exact ⟨rfl, HB3.out⟩
end Go.Proofs.Ytaeamehngbfneab.Sp
