/- LockupSafe: its walk. -/
import Derived.Test.YtlgkcjkicankmaaLockM
import Derived.Test.YtlgkcjkicankmaaLockQ
namespace Go.Proofs.Ytlgkcjkicankmaa.Lk
open Go Go.RowKit Go.Maps Go.Proofs.YtlgkcjkicankmaaW Go.Proofs.YtlgkcjkicankmaaW.PrintWords Go.Proofs.YtlgkcjkicankmaaW.PrintLast Go.Proofs.YtlgkcjkicankmaaW.PrintMore Go.Proofs.Ytlgkcjkicankmaa.PLockupEither Go.Proofs.Ytlgkcjkicankmaa.Bs Go.Proofs.Ytlgkcjkicankmaa.RegionVal
open Go.Lib hiding intOf
set_option linter.unusedVariables false
set_option linter.unusedSimpArgs false

theorem C_one41 {W : World} {g : Nat} (x : Ev) (hb : W.heap[g]? = some (.cells (c41 x).toArray 41 (0, 0))) : Kd.C k41 W (some ⟨g, 0, none⟩) 1 [x] :=
  C_flat k41 c41 (fun _ _ => rfl) (fun _ => rfl) [x] (by simp) (by simpa using hb)
theorem info41z : (Try.prog.info? 41).map (fun i => (i.zero, i.size, i.bytes)) = some (some (v41 ⟨0, 0, 0⟩), 12, 96) := by kernel_rfl
theorem and15 (x : Int) : 0 ≤ bits .and .i64 x 15 ∧ bits .and .i64 x 15 < 16 := by
  have h : (BitVec.ofInt 64 x &&& BitVec.ofInt 64 15).toNat ≤ 15 := by
    rw [BitVec.toNat_and]
    exact Nat.le_trans Nat.and_le_right (by decide)
  show 0 ≤ IntKind.i64.wrap ((BitVec.ofInt 64 x &&& BitVec.ofInt 64 15).toNat : Int) ∧ IntKind.i64.wrap ((BitVec.ofInt 64 x &&& BitVec.ofInt 64 15).toNat : Int) < 16
  rw [IntKind.wrap_i64]
  omega
theorem Rise.snoc {own : List Int} {x : Int} (h : Rise own) (hx : 0 ≤ x ∧ x < 16) (hl : ∀ (hp : 0 < own.length), own[own.length - 1]'(by omega) < x) : Rise (own ++ [x]) := by
  refine ⟨List.pairwise_append.2 ⟨h.1, by simp, fun a ha b hb => ?_⟩, fun y hy => ?_⟩
  · rw [List.mem_singleton.1 hb]
    obtain ⟨i, hi, rfl⟩ := List.getElem_of_mem ha
    have h1 := hl (by omega)
    by_cases hil : i = own.length - 1
    · subst hil; exact h1
    · have h2 := List.pairwise_iff_getElem.1 h.1 i (own.length - 1) hi (by omega) (by omega)
      omega
  · rcases List.mem_append.1 hy with hy | hy
    · exact h.2 y hy
    · rw [List.mem_singleton.1 hy]; exact hx
theorem load32_0 {w : World} {ad : Addr} {n : Nat} {l : List S32} (h : Kd.C k32 w (some ad) n l) {i : Nat} (hi : i < l.length) {x : Int} (hx : x = l[i].f0) : w.cell? (ad.add (i * 2)) = some (.int .i64 x) := by
  obtain ⟨ad', e, k0, _⟩ := at32 h i hi
  injection e with e
  subst e
  rw [hx]; exact k0
theorem load32_1 {w : World} {ad : Addr} {n : Nat} {l : List S32} (h : Kd.C k32 w (some ad) n l) {i : Nat} (hi : i < l.length) {x : Int} (hx : x = l[i].f1) : w.cell? ⟨(ad.add (i * 2)).block, (ad.add (i * 2)).off + 1, none⟩ = some (.int .i64 x) := by
  obtain ⟨ad', e, _, k1⟩ := at32 h i hi
  injection e with e
  subst e
  rw [hx]; exact k1
set_option maxHeartbeats 32000000 in
set_option maxRecDepth 100000 in
theorem lockSafe_walk (w : World) (A1 : Option Addr) (c1 : Nat) (who : List Int) (lc1 : who.length ≤ c1) (h1 : Kd.C kI w A1 who.length who) (A2 : Option Addr) (c2 : Nat) (locks : List Int) (lc2 : locks.length ≤ c2) (h2 : Kd.C kI w A2 locks.length locks) :
    Calls Try.prog 5 #[.slice A1 who.length c1, .slice A2 locks.length c2] w fun e w' => e = .returned (.bool true) ∧ Below w.heap.size w w' := by
  have HW0 := Aside0.mk h1
  have HL0 := Aside0.mk h2
  have hwl := (reads_of h1).2.1
  have hll := (reads_of h2).2.1
  clear h1 h2
  go_enter Try.func5, Try.ntmps5
  go_wp2_with fail
  refine (begun_calls w).mono ?_
  rintro e w1 ⟨rfl, hb1⟩
  have HB1 := Aside0.mk hb1
  have HWR := Aside0.mk (reads_of (Kd.C_below HW0.out hb1))
  have HLR := Aside0.mk (reads_of (Kd.C_below HL0.out hb1))
  clear hb1 HW0 HL0
  go_wp2_with fail
  go_loopw [5, 6] (fun v5 v6 wr => ∃ (i n : Nat) (l : List Ev), v6 = .int .i64 (i : Int) ∧ i ≤ who.length ∧ i ≤ 20 ∧ Aside0 (n ≤ i) ∧ Aside0 (Blks n l) ∧ Aside0 (Kd.R k41 41 wr w1.heap.size (fun _ => True) v5 l) ∧ Aside0 (Below w1.heap.size w1 wr)) (fun _ v6 _ => who.length - (intOf v6).toNat)
  case atStart => exact ⟨0, 0, [], rfl, Nat.zero_le _, Nat.zero_le _, ⟨Nat.le_refl _⟩, ⟨Blks.nil⟩, ⟨Kd.R_nil _ _ _ _ _⟩, ⟨Below.refl _ _⟩⟩
  case round =>
    obtain ⟨i, n, l, rfl, hi, hi20, HN, HBK, HO, HB⟩ := hrel
    by_cases hlt : i < who.length ∧ i < 20
    · obtain ⟨hlt, hlt20⟩ := hlt
      have hlt1 : (i : Int) < (who.length : Int) := by omega
      have hlt2 : (i : Int) < 20 := by omega
      obtain ⟨ad1, rfl, hc8⟩ := (HWR.out.below HB.out).2.2 (by omega)
      have k0 : wr.cell? (ad1.add i) = some (.int .i64 who[i]) := by
        have h := hc8 i hlt
        simpa [List.getD_eq_getElem?_getD, hlt] using h
      generalize who[i] = wi at k0
      clear hc8
      go_wp2_with fail
      obtain ⟨t, ht⟩ : ∃ t, t = bits .and .i64 wi 3 := ⟨_, rfl⟩
      rw [← ht]
      have HLL := Aside0.mk (show l.length ≤ 120 by have := HBK.out.len; have := HN.out; omega)
      clear ht k0
      go_loopw [5, 8, 9] (fun v5 v8 v9 wr => ∃ (k : Nat) (own : List Int), v9 = .int .i64 (k : Int) ∧ i ≤ k ∧ k ≤ i + 3 ∧ own.length + i ≤ k ∧ Aside0 (Rise own) ∧ Aside0 (Kd.R k41 41 wr w1.heap.size (fun _ => True) v5 (l ++ lockE t own)) ∧ Aside0 (Kd.R kI 3 wr w1.heap.size (fun _ => True) v8 own) ∧ Aside0 (Below w1.heap.size w1 wr)) (fun _ _ v9 _ => i + 3 - (intOf v9).toNat)
      case atStart => exact ⟨i, [], rfl, Nat.le_refl _, by omega, by simp, ⟨by simp [Rise]⟩, ⟨by simpa [lockE] using HO.out⟩, ⟨Kd.R_nil _ _ _ _ _⟩, HB⟩
      case round =>
        clear HO HB
        obtain ⟨k, own, rfl, hik, hk3, hown, HRI, HO, HW, HB⟩ := hrel
        by_cases hc : k < locks.length ∧ k < i + 3
        · obtain ⟨hkl, hki⟩ := hc
          have hkl1 : (k : Int) < (locks.length : Int) := by omega
          have hki1 : (k : Int) < (i : Int) + 3 := by omega
          obtain ⟨ad2, rfl, hc8⟩ := (HLR.out.below HB.out).2.2 (by omega)
          have k0 : wr.cell? (ad2.add k) = some (.int .i64 locks[k]) := by
            have h := hc8 k hkl
            simpa [List.getD_eq_getElem?_getD, hkl] using h
          have h15 := and15 locks[k]
          generalize locks[k] = wk at k0 h15
          clear hc8
          go_upto_region 13 with fail
          generalize bits .and .i64 wk 15 = x at h15 ⊢
          have H15 := Aside0.mk h15
          have HSZ := Aside0.mk HB.out.size
          have hol : own.length ≤ 3 := by omega
          have HL16 := Aside0.mk (show (l ++ lockE t own).length + 1 ≤ 1000 by
            have := HLL.out
            rw [List.length_append]
            unfold lockE
            rw [List.length_map]
            omega)
          clear h15 k0
          rcases Nat.eq_zero_or_pos own.length with ho0 | hop
          · obtain rfl : own = [] := List.eq_nil_of_length_eq_zero ho0
            obtain ⟨A8, d8, rfl, hd8, hr8⟩ := own_rd (Kd.own_of_R (enc := Value.int .i64) HW.out)
            have HRS := Aside0.mk (Rise.snoc HRI.out H15.out (fun hp => absurd hp (by simp)))
            clear hr8
            go_wp2_with (first
              | (at_builtin; refine print_append_row (w0 := wr) w1.heap.size rfl _ _ 24 3 .i64 8 rfl Try.underlying24 infoInt (by decide) _ (([] : List Int)) [x] _ 1 1 rfl rfl (Kd.own_of_R (enc := Value.int .i64) (Kd.R_alloc HW.out _)) (reads_lit _ [x] (by simp) _) (Below.alloc (Below.refl w1.heap.size wr) HSZ.out _) (Nat.le_trans HSZ.out (below_alloc (Below.refl _ _) _).size) (by show (([] : List Int).length + 1) * 8 ≤ _; decide) ?_; intro v1 w6 hown6 hB hg hat; have HW6 := Aside0.mk (R_int hown6); have HB6 := Aside0.mk hB; have HO6 := Aside0.mk (Kd.R_over (Kd.R_alloc HO.out _) (Kd.R_alloc HW.out _) (by decide) hg); clear hown6 hB hg hat)
              | (at_builtin; refine Kd.R_append_rows k41 (w0 := w6) w1.heap.size rfl _ _ 37 41 (v41 ⟨0, 0, 0⟩) 96 rfl Try.underlying37 info41z rfl (by decide) (by omega) _ (l ++ lockE t ([] : List Int)) [⟨13, t, x⟩] _ 1 1 (fun _ => True) (fun _ => False) rfl rfl (Kd.R_alloc HO6.out _) (C_one41 ⟨13, t, x⟩ (heap_alloc_new _ _)) (fun x cs h => h) (fun _ h => h.elim) (fun _ _ => trivial) (Below.alloc (Below.refl w1.heap.size w6) (Nat.le_trans HSZ.out HB6.out.size) _) (Nat.le_trans (Nat.le_trans HSZ.out HB6.out.size) (below_alloc (Below.refl _ _) _).size) (by have := HL16.out; omega) ?_; intro v2 w7 hown7 hB hg hat; have HO7 := Aside0.mk hown7; have HB7 := Aside0.mk hB; have HW7 := Aside0.mk (Kd.R_over (Kd.R_alloc HW6.out _) (Kd.R_alloc HO6.out _) (by decide) hg); clear hown7 hB hg hat)
              | fail)
            have HB8 := Aside0.mk (Below.trans HB.out (Below.trans HB6.out HB7.out))
            have HO8 := Aside0.mk (show Kd.R k41 41 w7 w1.heap.size (fun _ => True) v2 (l ++ lockE t (([] : List Int) ++ [x])) by
              have h := HO7.out
              rw [List.append_assoc] at h
              rw [show lockE t (([] : List Int) ++ [x]) = lockE t ([] : List Int) ++ [⟨13, t, x⟩] by simp [lockE]]
              exact h)
            clear HB6 HB7 HO6 HO7 HW6 HO HW HB
            go_roundw
            case rel => exact ⟨k + 1, ([] : List Int) ++ [x], by go_num, by omega, by omega, by rw [List.length_append]; simp; omega, HRS, HO8, HW7, HB8⟩
            case measure => simp [intOf]; omega
          · obtain ⟨q, hq⟩ : ∃ q, own.length = q + 1 := ⟨own.length - 1, by omega⟩
            obtain ⟨A8, d8, hv8, hd8, hr8⟩ := own_rd (Kd.own_of_R (enc := Value.int .i64) HW.out)
            subst hv8
            obtain ⟨ad8, hA8, hc8⟩ := hr8.2.2 hop
            subst hA8
            have hq2 : q < own.length := by omega
            have kq : wr.cell? (ad8.add q) = some (.int .i64 own[q]) := by
              have h := hc8 q hq2
              simpa [List.getD_eq_getElem?_getD, hq2] using h
            obtain ⟨z, hz⟩ : ∃ z, z = own[q] := ⟨_, rfl⟩
            rw [← hz] at kq
            have hz2 : ∀ (hp : 0 < own.length), own[own.length - 1]'(by omega) = z := fun hp => by
              rw [hz]
              congr 1
              omega
            have hwq : IntKind.i64.wrap ((own.length : Int) - 1) = (q : Int) := by rw [IntKind.wrap_i64]; omega
            have hq3 : (q : Int) < (own.length : Int) := by omega
            have hop1 : ((own.length : Int) == 0) = false := beq_eq_false_iff_ne.2 (by omega)
            clear hc8 hr8 hz
            by_cases hzx : z < x
            · have HRS := Aside0.mk (Rise.snoc HRI.out H15.out (fun hp => by rw [hz2 hp]; exact hzx))
              clear hz2 hq
              go_wp2_with (first
                | (at_builtin; refine print_append_row (w0 := wr) w1.heap.size rfl _ _ 24 3 .i64 8 rfl Try.underlying24 infoInt (by decide) _ (own) [x] _ 1 1 rfl rfl (Kd.own_of_R (enc := Value.int .i64) (Kd.R_alloc HW.out _)) (reads_lit _ [x] (by simp) _) (Below.alloc (Below.refl w1.heap.size wr) HSZ.out _) (Nat.le_trans HSZ.out (below_alloc (Below.refl _ _) _).size) (by show (own.length + 1) * 8 ≤ _; omega) ?_; intro v1 w6 hown6 hB hg hat; have HW6 := Aside0.mk (R_int hown6); have HB6 := Aside0.mk hB; have HO6 := Aside0.mk (Kd.R_over (Kd.R_alloc HO.out _) (Kd.R_alloc HW.out _) (by decide) hg); clear hown6 hB hg hat)
                | (at_builtin; refine Kd.R_append_rows k41 (w0 := w6) w1.heap.size rfl _ _ 37 41 (v41 ⟨0, 0, 0⟩) 96 rfl Try.underlying37 info41z rfl (by decide) (by omega) _ (l ++ lockE t own) [⟨13, t, x⟩] _ 1 1 (fun _ => True) (fun _ => False) rfl rfl (Kd.R_alloc HO6.out _) (C_one41 ⟨13, t, x⟩ (heap_alloc_new _ _)) (fun x cs h => h) (fun _ h => h.elim) (fun _ _ => trivial) (Below.alloc (Below.refl w1.heap.size w6) (Nat.le_trans HSZ.out HB6.out.size) _) (Nat.le_trans (Nat.le_trans HSZ.out HB6.out.size) (below_alloc (Below.refl _ _) _).size) (by have := HL16.out; omega) ?_; intro v2 w7 hown7 hB hg hat; have HO7 := Aside0.mk hown7; have HB7 := Aside0.mk hB; have HW7 := Aside0.mk (Kd.R_over (Kd.R_alloc HW6.out _) (Kd.R_alloc HO6.out _) (by decide) hg); clear hown7 hB hg hat)
                | fail)
              have HB8 := Aside0.mk (Below.trans HB.out (Below.trans HB6.out HB7.out))
              have HO8 := Aside0.mk (show Kd.R k41 41 w7 w1.heap.size (fun _ => True) v2 (l ++ lockE t (own ++ [x])) by
                have h := HO7.out
                rw [List.append_assoc] at h
                rw [show lockE t (own ++ [x]) = lockE t own ++ [⟨13, t, x⟩] by simp [lockE]]
                exact h)
              clear HB6 HB7 HO6 HO7 HW6 HO HW HB
              go_roundw
              case rel => exact ⟨k + 1, own ++ [x], by go_num, by omega, by omega, by rw [List.length_append]; simp; omega, HRS, HO8, HW7, HB8⟩
              case measure => simp [intOf]; omega
            · clear hz2 hq
              have hzx2 : x ≤ z := by omega
              go_wp2
              go_roundw
              case rel => exact ⟨k + 1, own, by go_num, by omega, by omega, by omega, HRI, HO, HW, HB⟩
              case measure => simp [intOf]; omega
        · have hol : own.length ≤ 3 := by omega
          obtain ⟨A8, d8, hv8, hd8, hr8⟩ := own_rd (Kd.own_of_R (enc := Value.int .i64) HW.out)
          subst hv8
          have HLE := Aside0.mk (show (l ++ lockE t own).length ≤ 130 by
            have := HLL.out
            rw [List.length_append]
            unfold lockE
            rw [List.length_map]
            omega)
          have HN1 := Aside0.mk (show n + 1 ≤ i + 1 by have := HN.out; omega)
          have HBK1 := Aside0.mk (Blks.snoc t HBK.out HRI.out hol)
          clear hr8
          rcases (show ¬ ((k : Int) < (locks.length : Int)) ∨ ((k : Int) < (locks.length : Int) ∧ ¬ ((k : Int) < (i : Int) + 3)) by omega) with hex | ⟨hex, hex3⟩
          all_goals
            clear hc hik hk3 hown
            go_wp2_with fail
            go_loopw [5, 11] (fun v5 v11 wr => ∃ j : Nat, v11 = .int .i64 (j : Int) ∧ j ≤ own.length ∧ Aside0 (Kd.R k41 41 wr w1.heap.size (fun _ => True) v5 (l ++ lockE t own ++ freeE t (own.take j))) ∧ Aside0 (Kd.R kI 3 wr w1.heap.size (fun _ => True) (.slice A8 own.length d8) own) ∧ Aside0 (Below w1.heap.size w1 wr)) (fun _ v11 _ => own.length - (intOf v11).toNat)
            case atStart => exact ⟨0, rfl, Nat.zero_le _, ⟨by simpa [freeE] using HO.out⟩, HW, HB⟩
            case round =>
              clear HO HW HB
              obtain ⟨j, rfl, hj, HO, HW, HB⟩ := hrel
              by_cases hlj : j < own.length
              · have hlj1 : (j : Int) < (own.length : Int) := by omega
                obtain ⟨A9, d9, hv9, hd9, hr9⟩ := own_rd (Kd.own_of_R (enc := Value.int .i64) HW.out)
                injection hv9 with hA9 hn9 hce
                subst hA9
                subst hce
                clear hn9
                obtain ⟨ad8, hA8, hc8⟩ := hr9.2.2 (by omega)
                subst hA8
                obtain ⟨z, hz⟩ : ∃ z, z = own[j] := ⟨_, rfl⟩
                have kj : wr.cell? (ad8.add j) = some (.int .i64 z) := by
                  have h := hc8 j hlj
                  rw [hz]
                  simpa [List.getD_eq_getElem?_getD, hlj] using h
                have HTK := Aside0.mk (show freeE t (own.take (j + 1)) = freeE t (own.take j) ++ [⟨14, t, z⟩] by
                  rw [List.take_succ_eq_append_getElem hlj, hz]
                  unfold freeE
                  rw [List.map_append]
                  rfl)
                have HL16 := Aside0.mk (show (l ++ lockE t own ++ freeE t (own.take j)).length + 1 ≤ 1000 by
                  have := HLE.out
                  rw [List.length_append]
                  unfold freeE
                  rw [List.length_map, List.length_take]
                  omega)
                have HSZ := Aside0.mk HB.out.size
                clear hr9 hc8 hz
                go_wp2_with (first
                  | (at_builtin; refine Kd.R_append_rows k41 (w0 := wr) w1.heap.size rfl _ _ 37 41 (v41 ⟨0, 0, 0⟩) 96 rfl Try.underlying37 info41z rfl (by decide) (by omega) _ (l ++ lockE t own ++ freeE t (own.take j)) [⟨14, t, z⟩] _ 1 1 (fun _ => True) (fun _ => False) rfl rfl (Kd.R_alloc HO.out _) (C_one41 ⟨14, t, z⟩ (heap_alloc_new _ _)) (fun x cs h => h) (fun _ h => h.elim) (fun _ _ => trivial) (Below.alloc (Below.refl w1.heap.size wr) HSZ.out _) (Nat.le_trans HSZ.out (below_alloc (Below.refl _ _) _).size) (by have := HL16.out; omega) ?_; intro v2 w7 hown7 hB hg hat; have HO7 := Aside0.mk hown7; have HB7 := Aside0.mk hB; have HW7 := Aside0.mk (Kd.R_over (Kd.R_alloc HW.out _) (Kd.R_alloc HO.out _) (by decide) hg); clear hown7 hB hg hat)
                  | fail)
                have HB8 := Aside0.mk (Below.trans HB.out HB7.out)
                have HO8 := Aside0.mk (show Kd.R k41 41 w7 w1.heap.size (fun _ => True) v2 (l ++ lockE t own ++ freeE t (own.take (j + 1))) by
                  have h := HO7.out
                  rw [List.append_assoc] at h
                  rw [HTK.out]
                  exact h)
                clear HB7 HO7 HO HW HB
                go_roundw
                case rel => exact ⟨j + 1, by go_num, hlj, HO8, HW7, HB8⟩
                case measure => simp [intOf]; omega
              · have HO9 := Aside0.mk (show Kd.R k41 41 wr w1.heap.size (fun _ => True) u5 (l ++ lockE t own ++ freeE t own) by
                  have h := HO.out
                  rw [List.take_of_length_le (by omega)] at h
                  exact h)
                clear HO
                go_wp2
                go_roundw
                case rel => exact ⟨i + 1, n + 1, _, by go_num, by omega, by omega, HN1, HBK1, HO9, HB⟩
                case measure => simp [intOf]; omega
    · obtain ⟨A5, c5, hv5, hc5, hC5⟩ := Kd.R_reads HO.out
      subst hv5
      have HLL := Aside0.mk (show l.length ≤ 120 by have := HBK.out.len; have := HN.out; omega)
      have HOF := Aside0.mk (order_full wr A5 c5 l hC5 hc5 (by have := HLL.out; omega))
      have HFO := Aside0.mk HBK.out.fold
      have HN20 := Aside0.mk (show n ≤ 20 by have := HN.out; omega)
      clear hC5 HO
      rcases (show ¬ ((i : Int) < (who.length : Int)) ∨ ((i : Int) < (who.length : Int) ∧ ¬ ((i : Int) < 20)) by omega) with hex | ⟨hex, hex3⟩
      all_goals
        clear hlt hi hi20
        go_wp2_with fail
        refine HOF.out.mono ?_
        rintro e w3 ⟨v6, ys, rfl, hperm, hsrt, hR6, hB6⟩
        have HGP := Aside0.mk (show ∀ p ∈ dd ys, GoodP p from fun p hp => HFO.out.2.1 p (hperm.mem_iff.1 (dd_sub hp)))
        have hlen : (dd ys).length ≤ 120 := by
          have h1 := dd_len ys
          have h2 := hperm.length_eq
          have h3 := HFO.out.2.2
          have h4 := HN20.out
          omega
        obtain ⟨zs, hzs⟩ : ∃ zs, zs = dd ys := ⟨_, rfl⟩
        rw [← hzs] at HGP hlen hR6
        obtain ⟨A6, c6, rfl, hc6, hC6⟩ := Kd.R_reads hR6
        have HC6 := Aside0.mk hC6
        have HB6 := Aside0.mk (Below.trans HB.out (Below.mono hB6 HB.out.size))
        clear hperm hsrt hR6 hB6 hzs hC6 HB HOF HFO
        obtain ⟨r2, ok, hrk, htold⟩ := rank_told zs (by omega)
        obtain ⟨rfl, hr16⟩ := rise_told zs HGP.out htold
        have HRK := Aside0.mk (rank_calls 500 w3 A6 c6 zs r2 true 0 HC6.out hc6 (fun p hp => by
          have := HGP.out p hp
          unfold GoodP at this
          unfold W64
          omega) hrk)
        clear hrk htold
        go_wp2_with fail
        refine HRK.out.mono ?_
        rintro e w5 ⟨v5, rfl, ho5, hb5⟩
        obtain ⟨A7, c7, rfl, hc7, hr7⟩ := own_rd ho5
        have HB5 := Aside0.mk (below_then HB6.out HB6.out.size hb5)
        have HC5 := Aside0.mk (Kd.C_below HC6.out hb5)
        have hr16i : (r2.length : Int) ≤ 16 := by omega
        clear hb5 HRK HC6 HB6 ho5 hr7 hr16
        go_wp2_with fail
        go_loopw [17] (fun v17 wr => ∃ j : Nat, v17 = .int .i64 (j : Int) ∧ j ≤ zs.length ∧ Aside0 (Below w5.heap.size w5 wr)) (fun v17 _ => zs.length - (intOf v17).toNat)
        case atStart => exact ⟨0, rfl, Nat.zero_le _, ⟨Below.refl _ _⟩⟩
        case round =>
          obtain ⟨j, rfl, hj, HB⟩ := hrel
          by_cases hlj : j < zs.length
          · have hlj1 : (j : Int) < (zs.length : Int) := by omega
            obtain ⟨ad, rfl, _⟩ := at32 HC5.out j hlj
            obtain ⟨x, hx⟩ : ∃ x, x = zs[j].f0 := ⟨_, rfl⟩
            obtain ⟨y, hy⟩ : ∃ y, y = zs[j].f1 := ⟨_, rfl⟩
            have k0 := load32_0 (Kd.C_below HC5.out HB.out) hlj hx
            have k1 := load32_1 (Kd.C_below HC5.out HB.out) hlj hy
            have hxy : ¬ (y ≤ x) := by
              have := HGP.out zs[j] (List.getElem_mem hlj)
              unfold GoodP at this
              rw [hx, hy]
              omega
            clear hx hy
            go_wp2_with fail
            go_region
            all_goals
              go_wp2
              go_roundw
              case rel => exact ⟨j + 1, by go_num, hlj, ⟨below_drew HB.out⟩⟩
              case measure => simp [intOf]; omega
          · have hjl : zs.length ≤ j := by omega
            go_wp2_with fail
            refine (begun_calls _).mono ?_
            rintro e w7 ⟨rfl, hb7⟩
            have HB7 := Aside0.mk (below_then (below_then HB1.out HB1.out.size (below_then HB5.out HB5.out.size HB.out)) (below_then HB1.out HB1.out.size (below_then HB5.out HB5.out.size HB.out)).size hb7)
            clear hb7
            go_wp2
            exact bodyPost_ret (v := .bool true) (by simp [results, Try.f5, go_sem]) rfl ⟨rfl, HB7.out⟩
end Go.Proofs.Ytlgkcjkicankmaa.Lk
