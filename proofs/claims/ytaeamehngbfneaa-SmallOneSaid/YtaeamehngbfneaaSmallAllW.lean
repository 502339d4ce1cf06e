/- SmallAll's walk: the call answers true, whatever comes in. -/
import Derived.Test.YtaeamehngbfneaaSmallG
import Derived.Test.YtaeamehngbfneaaSmallP
import Derived.Test.YtaeamehngbfneaaOpen
namespace Go.Proofs.Ytaeamehngbfneaa.Sl
open Go Go.RowKit Go.Lib Go.Proofs.YtaeamehngbfneaaW.PrintWords Go.Proofs.YtaeamehngbfneaaW.PrintLast Go.Proofs.YtaeamehngbfneaaW.PrintMore Go.Proofs.Ytaeamehngbfneaa.RegionVal Go.Proofs.Ytaeamehngbfneaa.PSmallAll Go.Proofs.Ytaeamehngbfneaa.Open
attribute [local go_sem] max2_int min2_int max_two min_two
set_option linter.unusedVariables false
set_option linter.unusedSimpArgs false

theorem begunC {w w0 : World} (hb : Below w0.heap.size w0 w) : Calls Try.prog 9 #[] w fun e w' => e = .returned (.bool true) ∧ Below w0.heap.size w0 w' :=
  (begun_calls w).mono fun _ _ ⟨h1, h2⟩ => ⟨h1, below_step hb h2⟩

theorem hasCC {w w0 : World} (hb : Below w0.heap.size w0 w) {A : Option Addr} {c n : Nat} {l : List Int} (x : Int) (hr : ReadsInt w0 .i64 A n l) (hc : n ≤ c) (hl : n ≤ 1000) {r : Bool} (h : decide (x ∈ l) = r) :
    Calls Try.prog 13 #[.slice A n c, .int .i64 x] w fun e w' => e = .returned (.bool r) ∧ Below w0.heap.size w0 w' := by
  obtain rfl := hr.1
  subst h
  exact (hasC w A c l x (hr.below hb) hc hl).mono fun _ _ ⟨h1, h2⟩ => ⟨h1, below_step hb h2⟩

theorem opens_ints : Opens Try.prog 22 (Kd.slice 3 (Kd.int .i64)) (fun l => l.length ≤ 9223372036854775807 ∧ l.length * Try.prog.bytesOf 3 ≤ 140737488351232 ∧ ∀ a ∈ l, (Lit.int .i64 a).wf = true) :=
  opens_slice Try.underlying22 (by kernel_rfl) (opens_int Try.underlying3)

theorem min_cut (n : Nat) (b : Int) (hb0 : 0 ≤ b) (hb : b ≤ 1000) (hn : n ≤ 9223372036854775807) : ∃ m : Nat, m ≤ n ∧ (m : Int) ≤ b ∧ (if b < (n : Int) then b else (n : Int)) = (m : Int) := by
  refine ⟨min n b.toNat, by omega, by omega, ?_⟩
  split <;> omega

theorem fact_zero (f : Int) (need : List Int) : factP 0 f need = fun xs => need.all (fun n => decide (n ∈ xs)) := by
  funext xs
  unfold factP
  rw [if_pos (by decide)]

set_option maxHeartbeats 16000000 in
set_option maxRecDepth 100000 in
theorem smallAll_walk (w : World) (A : Option Addr) (c : Nat) (l : List Int) (lc : l.length ≤ c) (hr : Kd.C (Kd.int .i64) w A l.length l) (_B : l.length ≤ 9223372036854775807 ∧ l.length * Try.prog.bytesOf 3 ≤ 140737488351232 ∧ ∀ a ∈ l, (Lit.int .i64 a).wf = true)
    (A2 : Option Addr) (c2 : Nat) (need : List Int) (lc2 : need.length ≤ c2) (hr2 : Kd.C (Kd.int .i64) w A2 need.length need) (_B2 : need.length ≤ 9223372036854775807 ∧ need.length * Try.prog.bytesOf 3 ≤ 140737488351232 ∧ ∀ a ∈ need, (Lit.int .i64 a).wf = true) :
    Calls Try.prog 4 #[.slice A l.length c, .slice A2 need.length c2] w fun e w' => e = .returned (.bool true) ∧ Below w.heap.size w w' := by
  have hl0 := _B.1
  have hn0 := _B2.1
  have hR1 := Kd.reads_of_C (d := (0 : Int)) (h1 := fun _ => rfl) hr
  have hR2 := Kd.reads_of_C (d := (0 : Int)) (h1 := fun _ => rfl) hr2
  obtain ⟨n1, hn1, b1, hm1⟩ := min_cut l.length 30 (by omega) (by omega) hl0
  obtain ⟨n2, hn2, b2, hm2⟩ := min_cut need.length 8 (by omega) (by omega) hn0
  have hT1 := ReadsInt.take_ hR1 n1 (by omega)
  have hT2 := ReadsInt.take_ hR2 n2 (by omega)
  obtain ⟨l', hl'⟩ : ∃ l', l' = l.take n1 := ⟨_, rfl⟩
  obtain ⟨need', hneed'⟩ : ∃ n', n' = need.take n2 := ⟨_, rfl⟩
  rw [← hl'] at hT1
  rw [← hneed'] at hT2
  have e1 : l'.length = n1 := hT1.1
  have e2 : need'.length = n2 := hT2.1
  have b3 : n1 ≤ c := by omega
  have b4 : n2 ≤ c2 := by omega
  subst e1
  subst e2
  have HT1 := Aside0.mk hT1
  have HT2 := Aside0.mk hT2
  have HM1 := Aside0.mk hm1
  have HM2 := Aside0.mk hm2
  clear hR1 hR2 hr hr2 _B _B2 hl' hneed' hT1 hT2 hm1 hm2 hn1 hn2
  have HB := Aside0.mk (Below.refl w.heap.size w)
  go_enter Try.func4, Try.ntmps4
  go_wp2_with fail
  refine (begunC HB.out).mono ?_
  rintro e w1 ⟨rfl, hb⟩
  have HB1 := Aside0.mk hb; clear hb
  go_wp2_with fail
  refine wp_val (S := fun w' => Below w.heap.size w w') (by kernel_rfl) (by kernel_rfl) (below_drew HB1.out) ?_
  have hm1 := HM1.out
  have hm2 := HM2.out
  repeat (first
    | refine st_skip rfl ?_
    | refine st_move rfl rfl ?_
    | refine st_assign rfl rfl ?_
    | refine st_pickT rfl rfl rfl ?_
    | refine st_pickF rfl rfl rfl ?_
    | refine st_bin rfl rfl rfl (fun w' hw => by go_simp; rfl) ?_
    | refine st_indexAddr rfl rfl rfl (fun w' hw => by go_simp; rfl) ?_
    | refine st_un rfl rfl rfl rfl (fun w' hw => by go_simp; rfl) ?_
    | refine st_builtin rfl rfl (fun w' hw => by go_simp; rfl) ?_
    | refine st_slice rfl rfl rfl rfl rfl (fun w' hw => by go_simp; rfl) ?_)
  intro w2 hb2
  simp only [puts, Act.put, List.setIfInBounds_toArray, List.set_cons_zero, List.set_cons_succ]
  have HB2 := Aside0.mk hb2; clear hb2 hm1 hm2
  go_wp2_with fail
  refine (fact_calls _ 0 A2 c2 need' (HT2.out.below HB2.out) b4 (by omega)).mono ?_
  rintro e w3 ⟨f, cap, rfl, hf, hb⟩
  have HF := Aside0.mk hf
  have HB3 := Aside0.mk (below_then HB2.out HB2.out.size hb)
  clear hf hb
  go_wp2_with fail
  cases hp : factP 0 (firstOf need') need' l' with
  | false =>
    refine (Min_no f cap _ (factP 0 (firstOf need') need') HF.out _ A c l' (Below.refl _ _) (HT1.out.below HB3.out) b3 (by omega) hp).mono ?_
    rintro e w4 ⟨rfl, hb⟩
    have HB4 := Aside0.mk (below_then HB3.out HB3.out.size hb)
    clear hb hp
    go_wp2_with fail
    refine (begunC HB4.out).mono ?_
    rintro e w5 ⟨rfl, hb⟩
    have HB5 := Aside0.mk hb; clear hb
    go_wp2
    go_ret
    exact ⟨rfl, HB5.out⟩
  | true =>
    obtain ⟨hm, -⟩ := minF_least _ _ hp
    refine (Min_yes f cap _ (factP 0 (firstOf need') need') HF.out _ A c l' (Below.refl _ _) (HT1.out.below HB3.out) b3 (by omega) hp).mono ?_
    rintro e w4 ⟨A3, c3, rfl, hc3, hr3, hb⟩
    rw [fact_zero] at hm hc3 hr3 ⊢
    obtain ⟨m, hmm⟩ : ∃ m, m = (minF (fun xs => need'.all (fun n => decide (n ∈ xs))) l').1 := ⟨_, rfl⟩
    obtain ⟨q, hq⟩ : ∃ q, q = (minF (fun xs => need'.all (fun n => decide (n ∈ xs))) l').2 := ⟨_, rfl⟩
    rw [← hmm] at hm hc3 hr3 ⊢
    rw [← hq]
    obtain ⟨hall, hone⟩ := least_all hm
    have hlen := hm.sub.length_le
    have HB4 := Aside0.mk (below_then HB3.out HB3.out.size hb)
    have HR3 := Aside0.mk hr3
    have HT2' := Aside0.mk (HT2.out.below HB4.out)
    have HALL := Aside0.mk hall
    have HONE := Aside0.mk hone
    clear hb hp hm hr3 hall hone hmm hq
    have hml : m.length ≤ 30 := by omega
    go_wp2
    go_loopw [8] (fun i wr => ∃ k : Nat, k ≤ m.length ∧ i = .int .i64 (k : Nat) ∧ Aside0 (Below w4.heap.size w4 wr)) (fun i _ => m.length - (intOf i).toNat)
    case atStart => exact ⟨0, Nat.zero_le _, rfl, ⟨Below.refl _ _⟩⟩
    case round =>
      obtain ⟨k, hk, rfl, HBk⟩ := hrel
      by_cases hlt : k < m.length
      · obtain ⟨ad, rfl, hcell⟩ := HR3.out.at_ k (by omega) (by omega)
        simp only [Int.toNat_natCast] at hcell
        have hrd : rd m (k : Int) = m[k] := by simp [rd, List.getD_eq_getElem?_getD, hlt]
        obtain ⟨ho1, ho2⟩ := HONE.out k hlt
        have D1 := Aside0.mk (show decide (rd m k ∈ need') = true from decide_eq_true (by rw [hrd]; exact ho1))
        have D2 := Aside0.mk (show decide (rd m k ∈ m.take k) = false from decide_eq_false (by rw [hrd]; exact ho2))
        have C := Aside0.mk hcell
        have RT := Aside0.mk (HR3.out.take_ k (by omega))
        have z1 : (k : Int) < (m.length : Int) := by omega
        have z2 : (k : Int) ≤ (c3 : Int) := by omega
        have z3 : k ≤ c3 := by omega
        clear hcell hrd ho1 ho2
        go_wp2_with fail
        refine wp_val (S := fun w' => Below w4.heap.size w4 w') (by kernel_rfl) (by kernel_rfl) (below_drew HBk.out) ?_
        repeat (first
          | refine st_skip rfl ?_
          | refine st_move rfl rfl ?_
          | refine st_assign rfl rfl ?_
          | refine st_pickT rfl rfl rfl ?_
          | refine st_pickF rfl rfl rfl ?_
          | refine st_call (vs := [.slice A2 need'.length c2, .int .i64 (rd m k)]) rfl Try.func13 rfl rfl (by kernel_rfl) (fun w' hw => hasCC hw _ HT2'.out b4 (by omega) D1.out) ?_
          | refine st_call (vs := [.slice (some ad) k c3, .int .i64 (rd m k)]) rfl Try.func13 rfl rfl (by kernel_rfl) (fun w' hw => hasCC hw _ RT.out (by omega) (by omega) D2.out) ?_
          | refine st_bin rfl rfl rfl (fun w' hw => by go_simp; rfl) ?_
          | refine st_indexAddr rfl rfl rfl (fun w' hw => by go_simp; rfl) ?_
          | refine st_un rfl rfl rfl rfl (fun w' hw => by go_simp; rfl) ?_
          | refine st_builtin rfl rfl (fun w' hw => by go_simp; rfl) ?_
          | refine st_slice rfl rfl rfl rfl rfl (fun w' hw => by go_simp; rfl) ?_
          | refine st_un rfl rfl rfl rfl (fun w' hw => by have x1 := (hw.cell (World.block_lt_of_cell? w4 _ C.out)).trans C.out; go_simp; rfl) ?_)
        intro w6 hb6
        simp only [puts, Act.put, List.setIfInBounds_toArray, List.set_cons_zero, List.set_cons_succ]
        have HB6 := Aside0.mk hb6; clear hb6
        go_wp2
        go_roundw
        case rel => exact ⟨k + 1, by omega, by go_num, HB6⟩
        case measure => simp [intOf]; omega
      · go_wp2
        go_loopw [9] (fun i wr => ∃ k : Nat, k ≤ need'.length ∧ i = .int .i64 (k : Nat) ∧ Aside0 (Below w4.heap.size w4 wr)) (fun i _ => need'.length - (intOf i).toNat)
        case atStart => exact ⟨0, Nat.zero_le _, rfl, HBk⟩
        case round =>
          obtain ⟨j, hj, rfl, HBj⟩ := hrel
          by_cases hlt : j < need'.length
          · obtain ⟨ad, rfl, hcell⟩ := (HT2'.out.below HBj.out).at_ j (by omega) (by omega)
            simp only [Int.toNat_natCast] at hcell
            have hrd : rd need' (j : Int) = need'[j] := by simp [rd, List.getD_eq_getElem?_getD, hlt]
            have D1 := Aside0.mk (show decide (rd need' j ∈ m) = true from decide_eq_true (by rw [hrd]; exact HALL.out _ (List.getElem_mem _)))
            clear hrd
            go_wp2_with fail
            refine (hasCC HBj.out _ HR3.out hc3 (by omega) D1.out).mono ?_
            rintro e w7 ⟨rfl, hb⟩
            have HB7 := Aside0.mk hb; clear hb
            go_wp2
            go_roundw
            case rel => exact ⟨j + 1, by omega, by go_num, HB7⟩
            case measure => simp [intOf]; omega
          · go_wp2_with fail
            refine (begunC (below_then HB4.out HB4.out.size HBj.out)).mono ?_
            rintro e w8 ⟨rfl, hb⟩
            have HB8 := Aside0.mk hb; clear hb
            go_wp2
            go_ret
            exact ⟨rfl, HB8.out⟩
end Go.Proofs.Ytaeamehngbfneaa.Sl
