/- SmallOne's walk: the call answers true, whatever comes in. -/
import Derived.Test.YtaeamehngbfneaaSmallPW
namespace Go.Proofs.Ytaeamehngbfneaa.Sl
open Go Go.RowKit Go.Lib Go.Proofs.YtaeamehngbfneaaW.PrintWords Go.Proofs.YtaeamehngbfneaaW.PrintLast Go.Proofs.YtaeamehngbfneaaW.PrintMore Go.Proofs.Ytaeamehngbfneaa.RegionVal Go.Proofs.Ytaeamehngbfneaa.PSmallAll Go.Proofs.Ytaeamehngbfneaa.Open
attribute [local go_sem] max2_int min2_int max_two min_two
set_option linter.unusedVariables false
set_option linter.unusedSimpArgs false

theorem sub_same {m l : List Int} {k i : Nat} (hk : k < m.length) (hi : i < l.length) (h : List.Sublist (m.drop k) (l.drop i)) (e : l[i] = m[k]) : List.Sublist (m.drop (k + 1)) (l.drop (i + 1)) := by
  rw [List.drop_eq_getElem_cons hk, List.drop_eq_getElem_cons hi, e] at h
  exact List.cons_sublist_cons.1 h
theorem sub_other {m l : List Int} {k i : Nat} (hk : k < m.length) (hi : i < l.length) (h : List.Sublist (m.drop k) (l.drop i)) (e : l[i] ≠ m[k]) : List.Sublist (m.drop k) (l.drop (i + 1)) := by
  rw [List.drop_eq_getElem_cons hi, List.drop_eq_getElem_cons hk, List.sublist_cons_iff] at h
  rcases h with h | ⟨r, hr, _⟩
  · rw [List.drop_eq_getElem_cons hk]; exact h
  · simp only [List.cons.injEq] at hr
    exact absurd hr.1.symm e
theorem sub_end {m l : List Int} {k i : Nat} (hi : l.length ≤ i) (h : List.Sublist (m.drop k) (l.drop i)) : m.length ≤ k := by
  rw [List.drop_eq_nil_of_le hi] at h
  have := h.length_le
  rw [List.length_drop, List.length_nil] at this
  omega

set_option maxHeartbeats 4000000 in
set_option maxRecDepth 100000 in
theorem smallOne_walk (w : World) (A : Option Addr) (c : Nat) (l : List Int) (lc : l.length ≤ c) (hr : Kd.C (Kd.int .i64) w A l.length l) (_B : l.length ≤ 9223372036854775807 ∧ l.length * Try.prog.bytesOf 3 ≤ 140737488351232 ∧ ∀ a ∈ l, (Lit.int .i64 a).wf = true)
    (A2 : Option Addr) (c2 : Nat) (need : List Int) (lc2 : need.length ≤ c2) (hr2 : Kd.C (Kd.int .i64) w A2 need.length need) (_B2 : need.length ≤ 9223372036854775807 ∧ need.length * Try.prog.bytesOf 3 ≤ 140737488351232 ∧ ∀ a ∈ need, (Lit.int .i64 a).wf = true)
    (which : Int) (hwh : (Lit.int .i64 which).wf = true) :
    Calls Try.prog 3 #[.slice A l.length c, .int .i64 which, .slice A2 need.length c2] w fun e w' => e = .returned (.bool true) ∧ Below w.heap.size w w' := by
  have hl0 := _B.1
  have hn0 := _B2.1
  have hR1 := Kd.reads_of_C (d := (0 : Int)) (h1 := fun _ => rfl) hr
  have hR2 := Kd.reads_of_C (d := (0 : Int)) (h1 := fun _ => rfl) hr2
  obtain ⟨n1, hn1, b1, hm1⟩ := min_cut l.length 30 (by omega) (by omega) hl0
  obtain ⟨n2, hn2, b2, hm2⟩ := min_cut need.length 5 (by omega) (by omega) hn0
  have hT1 := ReadsInt.take_ hR1 n1 (by omega)
  have hT2 := ReadsInt.take_ hR2 n2 (by omega)
  obtain ⟨l', hl'⟩ : ∃ l', l' = l.take n1 := ⟨_, rfl⟩
  obtain ⟨need', hneed'⟩ : ∃ n', n' = need.take n2 := ⟨_, rfl⟩
  rw [← hl'] at hT1
  rw [← hneed'] at hT2
  have e1 : l'.length = n1 := hT1.1
  have e2 : need'.length = n2 := hT2.1
  have b3 : n1 ≤ c := by omega
  have b4 : n2 ≤ c2 := by omega
  subst e1
  subst e2
  have HT1 := Aside0.mk hT1
  have HT2 := Aside0.mk hT2
  have HM1 := Aside0.mk hm1
  have HM2 := Aside0.mk hm2
  clear hR1 hR2 hr hr2 _B _B2 hl' hneed' hT1 hT2 hm1 hm2 hn1 hn2 hwh
  have HB := Aside0.mk (Below.refl w.heap.size w)
  go_enter Try.func3, Try.ntmps3
  go_wp2_with fail
  refine (begunC HB.out).mono ?_
  rintro e w1 ⟨rfl, hb⟩
  have HB1 := Aside0.mk hb; clear hb
  go_wp2_with fail
  refine wp_val (S := fun w' => Below w.heap.size w w') (by kernel_rfl) (by kernel_rfl) (below_drew HB1.out) ?_
  have hm1 := HM1.out
  have hm2 := HM2.out
  repeat (first
    | refine st_skip rfl ?_
    | refine st_move rfl rfl ?_
    | refine st_assign rfl rfl ?_
    | refine st_pickT rfl rfl rfl ?_
    | refine st_pickF rfl rfl rfl ?_
    | refine st_bin rfl rfl rfl (fun w' hw => by go_simp; rfl) ?_
    | refine st_indexAddr rfl rfl rfl (fun w' hw => by go_simp; rfl) ?_
    | refine st_un rfl rfl rfl rfl (fun w' hw => by go_simp; rfl) ?_
    | refine st_builtin rfl rfl (fun w' hw => by go_simp; rfl) ?_
    | refine st_slice rfl rfl rfl rfl rfl (fun w' hw => by go_simp; rfl) ?_)
  intro w2 hb2
  simp only [puts, Act.put, List.setIfInBounds_toArray, List.set_cons_zero, List.set_cons_succ]
  have HB2 := Aside0.mk hb2; clear hb2 hm1 hm2
  go_wp2_with fail
  refine (fact_calls _ which A2 c2 need' (HT2.out.below HB2.out) b4 (by omega)).mono ?_
  rintro e w3 ⟨f, cap, rfl, hf, hb⟩
  obtain ⟨p, hpp⟩ : ∃ p, p = factP which (firstOf need') need' := ⟨_, rfl⟩
  rw [← hpp] at hf
  clear hpp
  have HF := Aside0.mk hf
  have eg := hf.eg
  have HB3 := Aside0.mk (below_then HB2.out HB2.out.size hb)
  clear hf hb
  go_wp2_with fail
  cases hp : p l' with
  | false =>
    have HP := Aside0.mk hp
    refine (Min_no f cap _ p HF.out _ A c l' (Below.refl _ _) (HT1.out.below HB3.out) b3 (by omega) hp).mono ?_
    rintro e w4 ⟨rfl, hb⟩
    have HB4 := Aside0.mk hb
    have HB4' := Aside0.mk (below_then HB3.out HB3.out.size hb)
    clear hb hp
    go_wp2_with fail
    refine (HF.out.calls _ A c l' HB4.out (HT1.out.below HB4'.out) b3 (by omega)).mono ?_
    rintro e w5 ⟨rfl, hb⟩
    rw [HP.out]
    have HB5 := Aside0.mk (below_step HB4'.out hb)
    clear hb
    go_wp2_with fail
    refine (begunC HB5.out).mono ?_
    rintro e w6 ⟨rfl, hb⟩
    have HB6 := Aside0.mk hb; clear hb
    go_wp2
    go_ret
    exact ⟨rfl, HB6.out⟩
  | true =>
    obtain ⟨hm, hq⟩ := minF_least _ _ hp
    have HP := Aside0.mk hp
    refine (Min_yes f cap _ p HF.out _ A c l' (Below.refl _ _) (HT1.out.below HB3.out) b3 (by omega) hp).mono ?_
    rintro e w4 ⟨A3, c3, rfl, hc3, hr3, hb⟩
    obtain ⟨m, hmm⟩ : ∃ m, m = (minF p l').1 := ⟨_, rfl⟩
    obtain ⟨q, hqq⟩ : ∃ q, q = (minF p l').2 := ⟨_, rfl⟩
    rw [← hmm] at hm hc3 hr3 ⊢
    rw [← hqq] at hq ⊢
    have hlen := hm.sub.length_le
    have HB4 := Aside0.mk hb
    have HB4' := Aside0.mk (below_then HB3.out HB3.out.size hb)
    have HR3 := Aside0.mk hr3
    have HM := Aside0.mk hm
    have HQ := Aside0.mk hq
    have d1 : l'.length ≤ 30 := by omega
    clear hb hp hm hr3 hmm hqq hq
    go_wp2_with fail
    refine (HF.out.calls _ A c l' HB4.out (HT1.out.below HB4'.out) b3 (by omega)).mono ?_
    rintro e w5 ⟨rfl, hb⟩
    rw [HP.out]
    have HB5 := Aside0.mk (below_step HB4.out hb)
    have HB5' := Aside0.mk (below_step HB4'.out hb)
    have HR3' := Aside0.mk (HR3.out.below hb)
    clear hb
    go_wp2_with fail
    refine (HF.out.calls _ A3 c3 m HB5.out HR3'.out hc3 (by omega)).mono ?_
    rintro e w6 ⟨rfl, hb⟩
    rw [HM.out.holds]
    have HB6 := Aside0.mk (below_step HB5.out hb)
    have HB6' := Aside0.mk (below_step HB5'.out hb)
    have HR3 := Aside0.mk (HR3'.out.below hb)
    clear hb
    have d2 : (l'.length : Int) * (l'.length : Int) ≤ 900 := by
      have : (l'.length : Int) * (l'.length : Int) ≤ 30 * 30 := Int.mul_le_mul (by omega) (by omega) (by omega) (by omega)
      omega
    have d3 : 0 ≤ (l'.length : Int) * (l'.length : Int) := Int.mul_nonneg (by omega) (by omega)
    have d4 : decide ((l'.length : Int) * (l'.length : Int) + 3 * (l'.length : Int) + 2 < (q : Int)) = false := decide_eq_false (by have := HQ.out; have h2 : ((l'.length * l'.length : Nat) : Int) = (l'.length : Int) * (l'.length : Int) := Int.natCast_mul _ _; omega)
    have HT1' := Aside0.mk (HT1.out.below HB6'.out)
    go_wp2
    go_loopw [11, 12] (fun kk ii wr => ∃ k i : Nat, kk = .int .i64 (k : Nat) ∧ ii = .int .i64 (i : Nat) ∧ k ≤ m.length ∧ i ≤ l'.length ∧ Aside0 (List.Sublist (m.drop k) (l'.drop i)) ∧ Aside0 (Below w6.heap.size w6 wr)) (fun _ ii _ => l'.length - (intOf ii).toNat)
    case atStart => exact ⟨0, 0, rfl, rfl, Nat.zero_le _, Nat.zero_le _, ⟨HM.out.sub⟩, ⟨Below.refl _ _⟩⟩
    case round =>
      obtain ⟨k, i, rfl, rfl, hk, hi, HS, HBk⟩ := hrel
      by_cases hli : i < l'.length
      · by_cases hlk : k < m.length
        · obtain ⟨ad, rfl, hcell⟩ := HR3.out.at_ k (by omega) (by omega)
          obtain ⟨ad2, rfl, hcell2⟩ := HT1'.out.at_ i (by omega) (by omega)
          simp only [Int.toNat_natCast] at hcell hcell2
          have hrd : rd m (k : Int) = m[k] := by simp [rd, List.getD_eq_getElem?_getD, hlk]
          have hrd2 : rd l' (i : Int) = l'[i] := by simp [rd, List.getD_eq_getElem?_getD, hli]
          have C := Aside0.mk hcell
          have C2 := Aside0.mk hcell2
          have z1 : (k : Int) < (m.length : Int) := by omega
          have z2 : (i : Int) < (l'.length : Int) := by omega
          have HS1 := Aside0.mk (fun e => sub_same hlk hli HS.out e)
          have HS2 := Aside0.mk (fun e => sub_other hlk hli HS.out e)
          rw [← hrd, ← hrd2] at HS1 HS2
          clear hcell hcell2 hrd hrd2
          by_cases he : rd l' (i : Int) = rd m (k : Int)
          · have D : (rd l' (i : Int) == rd m (k : Int)) = true := beq_iff_eq.2 he
            have HE := Aside0.mk he
            clear he
            go_wp2_with fail
            refine wp_val (S := fun w' => Below w6.heap.size w6 w') (by kernel_rfl) (by kernel_rfl) (below_drew HBk.out) ?_
            repeat (first
              | refine st_skip rfl ?_
              | refine st_move rfl rfl ?_
              | refine st_assign rfl rfl ?_
              | refine st_pickT rfl rfl rfl ?_
              | refine st_pickF rfl rfl rfl ?_
              | refine st_bin rfl rfl rfl (fun w' hw => by go_simp; rfl) ?_
              | refine st_indexAddr rfl rfl rfl (fun w' hw => by go_simp; rfl) ?_
              | refine st_un rfl rfl rfl rfl (fun w' hw => by go_simp; rfl) ?_
              | refine st_builtin rfl rfl (fun w' hw => by go_simp; rfl) ?_
              | refine st_slice rfl rfl rfl rfl rfl (fun w' hw => by go_simp; rfl) ?_
              | refine st_un rfl rfl rfl rfl (fun w' hw => by have x1 := (hw.cell (World.block_lt_of_cell? w6 _ C.out)).trans C.out; go_simp; rfl) ?_
              | refine st_un rfl rfl rfl rfl (fun w' hw => by have x1 := (hw.cell (World.block_lt_of_cell? w6 _ C2.out)).trans C2.out; go_simp; rfl) ?_)
            intro w7 hb7
            simp only [puts, Act.put, List.setIfInBounds_toArray, List.set_cons_zero, List.set_cons_succ]
            have HB7 := Aside0.mk hb7; clear hb7
            go_wp2
            go_roundw
            case rel => exact ⟨k + 1, i + 1, by go_num, by go_num, by omega, by omega, ⟨HS1.out HE.out⟩, HB7⟩
            case measure => simp [intOf]; omega
          · have D : (rd l' (i : Int) == rd m (k : Int)) = false := beq_eq_false_iff_ne.2 he
            have HE := Aside0.mk he
            clear he
            go_wp2_with fail
            refine wp_val (S := fun w' => Below w6.heap.size w6 w') (by kernel_rfl) (by kernel_rfl) (below_drew HBk.out) ?_
            repeat (first
              | refine st_skip rfl ?_
              | refine st_move rfl rfl ?_
              | refine st_assign rfl rfl ?_
              | refine st_pickT rfl rfl rfl ?_
              | refine st_pickF rfl rfl rfl ?_
              | refine st_bin rfl rfl rfl (fun w' hw => by go_simp; rfl) ?_
              | refine st_indexAddr rfl rfl rfl (fun w' hw => by go_simp; rfl) ?_
              | refine st_un rfl rfl rfl rfl (fun w' hw => by go_simp; rfl) ?_
              | refine st_builtin rfl rfl (fun w' hw => by go_simp; rfl) ?_
              | refine st_slice rfl rfl rfl rfl rfl (fun w' hw => by go_simp; rfl) ?_
              | refine st_un rfl rfl rfl rfl (fun w' hw => by have x1 := (hw.cell (World.block_lt_of_cell? w6 _ C.out)).trans C.out; go_simp; rfl) ?_
              | refine st_un rfl rfl rfl rfl (fun w' hw => by have x1 := (hw.cell (World.block_lt_of_cell? w6 _ C2.out)).trans C2.out; go_simp; rfl) ?_)
            intro w7 hb7
            simp only [puts, Act.put, List.setIfInBounds_toArray, List.set_cons_zero, List.set_cons_succ]
            have HB7 := Aside0.mk hb7; clear hb7
            go_wp2
            go_roundw
            case rel => exact ⟨k, i + 1, rfl, by go_num, by omega, by omega, ⟨HS2.out HE.out⟩, HB7⟩
            case measure => simp [intOf]; omega
        · have hkm : m.length ≤ k := by omega
          have d5 : decide ((k : Int) < (m.length : Int)) = false := decide_eq_false (by omega)
          go_wp2
          go_loopw [13] (fun jj wr => ∃ j : Nat, jj = .int .i64 (j : Nat) ∧ j ≤ m.length ∧ Aside0 (Below w6.heap.size w6 wr)) (fun jj _ => m.length - (intOf jj).toNat)
          case atStart => exact ⟨0, rfl, Nat.zero_le _, HBk⟩
          case round =>
            obtain ⟨j, rfl, hj, HBj⟩ := hrel
            by_cases hlt : j < m.length
            · have z5 : (j : Int) < (m.length : Int) := by omega
              go_wp2_with fail
              refine (withoutC _ A3 c3 m (j : Int) ((j : Int) + 1) (HR3.out.below HBj.out) hc3).mono ?_
              rintro e w8 (⟨-, -, -, -, A5, c5, u, hu, rfl, hc5, hr5, hb5⟩ | ⟨hn, -⟩)
              · rw [show ((j : Int) + 1) = ((j + 1 : Nat) : Int) by omega, Int.toNat_natCast, Int.toNat_natCast] at hu
                have hpu : p u = false := by rw [hu]; exact HM.out.least j hlt
                have h6 : (u.length : Int) = (m.length : Int) - 1 := by rw [hu, List.length_append, List.length_take, List.length_drop]; omega
                have HPU := Aside0.mk hpu
                have HB8 := Aside0.mk (below_then HBj.out HBj.out.size hb5)
                have HR5 := Aside0.mk hr5
                clear hu hpu hr5 hb5
                go_wp2_with fail
                refine (HF.out.calls _ A5 c5 u (below_then HB6.out HB6.out.size HB8.out) HR5.out hc5 (by omega)).mono ?_
                rintro e w9 ⟨rfl, hb⟩
                rw [HPU.out]
                have HB9 := Aside0.mk (below_step HB8.out hb)
                clear hb
                go_wp2
                go_roundw
                case rel => exact ⟨j + 1, by go_num, by omega, HB9⟩
                case measure => simp [intOf]; omega
              · exfalso
                omega
            · go_wp2_with fail
              refine (begunC (below_then HB6'.out HB6'.out.size HBj.out)).mono ?_
              rintro e w8 ⟨rfl, hb⟩
              have HB8 := Aside0.mk hb; clear hb
              go_wp2
              go_ret
              exact ⟨rfl, HB8.out⟩
      · have hkm : m.length ≤ k := sub_end (by omega) HS.out
        have hlk : ¬ k < m.length := by omega
        have d5 : decide ((k : Int) < (m.length : Int)) = false := decide_eq_false (by omega)
        go_wp2
        go_loopw [13] (fun jj wr => ∃ j : Nat, jj = .int .i64 (j : Nat) ∧ j ≤ m.length ∧ Aside0 (Below w6.heap.size w6 wr)) (fun jj _ => m.length - (intOf jj).toNat)
        case atStart => exact ⟨0, rfl, Nat.zero_le _, HBk⟩
        case round =>
          obtain ⟨j, rfl, hj, HBj⟩ := hrel
          by_cases hlt : j < m.length
          · have z5 : (j : Int) < (m.length : Int) := by omega
            go_wp2_with fail
            refine (withoutC _ A3 c3 m (j : Int) ((j : Int) + 1) (HR3.out.below HBj.out) hc3).mono ?_
            rintro e w8 (⟨-, -, -, -, A5, c5, u, hu, rfl, hc5, hr5, hb5⟩ | ⟨hn, -⟩)
            · rw [show ((j : Int) + 1) = ((j + 1 : Nat) : Int) by omega, Int.toNat_natCast, Int.toNat_natCast] at hu
              have hpu : p u = false := by rw [hu]; exact HM.out.least j hlt
              have h6 : (u.length : Int) = (m.length : Int) - 1 := by rw [hu, List.length_append, List.length_take, List.length_drop]; omega
              have HPU := Aside0.mk hpu
              have HB8 := Aside0.mk (below_then HBj.out HBj.out.size hb5)
              have HR5 := Aside0.mk hr5
              clear hu hpu hr5 hb5
              go_wp2_with fail
              refine (HF.out.calls _ A5 c5 u (below_then HB6.out HB6.out.size HB8.out) HR5.out hc5 (by omega)).mono ?_
              rintro e w9 ⟨rfl, hb⟩
              rw [HPU.out]
              have HB9 := Aside0.mk (below_step HB8.out hb)
              clear hb
              go_wp2
              go_roundw
              case rel => exact ⟨j + 1, by go_num, by omega, HB9⟩
              case measure => simp [intOf]; omega
            · exfalso
              omega
          · go_wp2_with fail
            refine (begunC (below_then HB6'.out HB6'.out.size HBj.out)).mono ?_
            rintro e w8 ⟨rfl, hb⟩
            have HB8 := Aside0.mk hb; clear hb
            go_wp2
            go_ret
            exact ⟨rfl, HB8.out⟩
end Go.Proofs.Ytaeamehngbfneaa.Sl
