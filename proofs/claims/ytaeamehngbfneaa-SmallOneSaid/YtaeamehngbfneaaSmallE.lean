/- The facts of SmallOne and SmallAll as function values: fact$1's walk, fact's walk. -/
import Derived.Test.YtaeamehngbfneaaSmallD
import Derived.Test.YtaeamehngbfneaaPSmallAllx1
import Derived.IntWalk
namespace Go.Proofs.Ytaeamehngbfneaa.Sl
open Go Go.RowKit Go.Lib Go.Proofs.YtaeamehngbfneaaW.PrintWords Go.Proofs.YtaeamehngbfneaaW.PrintLast Go.Proofs.YtaeamehngbfneaaW.PrintMore Go.Proofs.Ytaeamehngbfneaa.RegionVal Go.Proofs.Ytaeamehngbfneaa.PSmallAll
set_option linter.unusedVariables false
set_option linter.unusedSimpArgs false

theorem has_loop (l : List Int) (n : Int) (hl : l.length ≤ 1000) : ∀ (d k i : Nat), i + d = l.length → d < k → backstitchref4_HasInt.l0 k l n i = some (decide (n ∈ l.drop i))
  | 0, k, i, h, hk => by
    obtain ⟨k, rfl⟩ : ∃ m, k = m + 1 := ⟨k - 1, by omega⟩
    simp only [backstitchref4_HasInt.l0]
    rw [if_neg (by omega), List.drop_eq_nil_of_le (by omega)]
    simp
  | d + 1, k, i, h, hk => by
    obtain ⟨k, rfl⟩ : ∃ m, k = m + 1 := ⟨k - 1, by omega⟩
    simp only [backstitchref4_HasInt.l0]
    have hi : i < l.length := by omega
    have hr : rd l (i : Int) = l[i] := by simp [rd, List.getD_eq_getElem?_getD, hi]
    rw [if_pos (by omega), if_pos (by omega), hr, List.drop_eq_getElem_cons hi]
    by_cases e : l[i] = n
    · rw [if_pos e]; simp only [List.mem_cons, e, true_or, decide_true]
    · rw [if_neg e, show wrap64 ((i : Int) + 1) = ((i + 1 : Nat) : Int) by unfold wrap64; omega, has_loop l n hl d k (i + 1) (by omega) (by omega)]
      have e' : ¬ n = l[i] := fun h => e h.symm
      simp only [List.mem_cons, e', false_or]

theorem has_f (l : List Int) (n : Int) (hl : l.length ≤ 1000) : backstitchref4_HasInt.f 1001 l n = some (decide (n ∈ l)) := by
  unfold backstitchref4_HasInt.f
  have := has_loop l n hl l.length 1001 0 (by omega) (by omega)
  simpa using this

theorem hasC (w : World) (A : Option Addr) (c : Nat) (l : List Int) (n : Int) (hr : ReadsInt w .i64 A l.length l) (hc : l.length ≤ c) (hl : l.length ≤ 1000) :
    Calls Try.prog 13 #[.slice A l.length c, .int .i64 n] w fun e w' => e = .returned (.bool (decide (n ∈ l))) ∧ Below w.heap.size w w' := by
  refine (backstitchref4_HasInt.calls 1001 A c l n (decide (n ∈ l)) w (Kd.C_of_reads (d := (0 : Int)) (h1 := fun _ => rfl) hr) hc (has_f l n hl)).mono ?_
  rintro e w' ⟨rfl, h⟩
  exact ⟨rfl, h.below⟩

def sumTo (xs : List Int) : Nat → Int
  | 0 => 0
  | k + 1 => wrap64 (sumTo xs k + bits BinOp.and IntKind.i64 (rd xs k) 255)
def evTo (xs : List Int) : Nat → Int
  | 0 => 0
  | k + 1 => wrap64 (evTo xs k + wrap64 (1 - bits BinOp.and IntKind.i64 (rd xs k) 1))

/-- the fact number 'which' of a list -/
def factP (which first : Int) (need xs : List Int) : Bool :=
  if (bits BinOp.and IntKind.i64 which 3 == 0) = true then need.all (fun n => decide (n ∈ xs))
  else if (bits BinOp.and IntKind.i64 which 3 == 1) = true then decide (first ≤ sumTo xs xs.length)
  else if (bits BinOp.and IntKind.i64 which 3 == 2) = true then decide (first ≤ evTo xs xs.length)
  else decide ((1 : Int) < (xs.length : Int)) && decide (rd xs 0 < rd xs ((xs.length : Int) - 1))

set_option maxHeartbeats 8000000 in
set_option maxRecDepth 100000 in
theorem fact1_calls (w : World) (A : Option Addr) (c : Nat) (xs : List Int) (g1 g2 g3 : Nat) (which first : Int) (A2 : Option Addr) (c2 : Nat) (need : List Int)
    (h1 : w.cell? ⟨g1, 0, none⟩ = some (.int .i64 which)) (h2 : w.cell? ⟨g2, 0, none⟩ = some (.slice A2 need.length c2)) (h3 : w.cell? ⟨g3, 0, none⟩ = some (.int .i64 first))
    (hr : ReadsInt w .i64 A xs.length xs) (hc : xs.length ≤ c) (hn : xs.length ≤ 200) (hr2 : ReadsInt w .i64 A2 need.length need) (hc2 : need.length ≤ c2) (hn2 : need.length ≤ 200) :
    Calls Try.prog 21 #[.slice A xs.length c, .pointer (some ⟨g1, 0, none⟩), .pointer (some ⟨g2, 0, none⟩), .pointer (some ⟨g3, 0, none⟩)] w fun e w' => e = .returned (.bool (factP which first need xs)) ∧ Below w.heap.size w w' := by
  have HR := Aside0.mk hr
  have HR2 := Aside0.mk hr2
  obtain ⟨r, hrr⟩ : ∃ r, r = factP which first need xs := ⟨_, rfl⟩
  have HRR := Aside0.mk hrr
  rw [← hrr]
  clear hr hr2 hrr
  have hcase : (bits BinOp.and IntKind.i64 which 3 == 0) = true ∨ (bits BinOp.and IntKind.i64 which 3 == 0) = false ∧ ((bits BinOp.and IntKind.i64 which 3 == 1) = true ∨ (bits BinOp.and IntKind.i64 which 3 == 1) = false ∧ ((bits BinOp.and IntKind.i64 which 3 == 2) = true ∨ (bits BinOp.and IntKind.i64 which 3 == 2) = false)) := by
    cases (bits BinOp.and IntKind.i64 which 3 == 0) <;> cases (bits BinOp.and IntKind.i64 which 3 == 1) <;> cases (bits BinOp.and IntKind.i64 which 3 == 2) <;> simp
  have HCASE := Aside0.mk hcase
  clear hcase
  go_enter Try.func21, Try.ntmps21
  go_wp2
  go_loop [6, 7, 8] (fun s ev i => ∃ (k : Nat), k ≤ xs.length ∧ i = .int .i64 (k : Nat) ∧ s = .int .i64 (sumTo xs k) ∧ ev = .int .i64 (evTo xs k)) (fun _ _ i => xs.length - (intOf i).toNat)
  case atStart => exact ⟨0, Nat.zero_le _, rfl, rfl, rfl⟩
  case round =>
    obtain ⟨k, hk, rfl, rfl, rfl⟩ := hrel
    by_cases hlt : k < xs.length
    · obtain ⟨ad, rfl, hcell⟩ := HR.out.at_ k (by omega) (by omega)
      simp only [Int.toNat_natCast] at hcell
      go_wp2
      go_round
      case rel => exact ⟨k + 1, by omega, by go_num, rfl, rfl⟩
      case measure => simp [intOf]; omega
    · obtain rfl : k = xs.length := by omega
      obtain ⟨sm, hsm⟩ : ∃ sm, sm = sumTo xs xs.length := ⟨_, rfl⟩
      obtain ⟨em, hem⟩ : ∃ em, em = evTo xs xs.length := ⟨_, rfl⟩
      rw [← hsm, ← hem]
      have HSM := Aside0.mk hsm
      have HEM := Aside0.mk hem
      clear hsm hem
      rcases HCASE.out with q0 | ⟨q0, q1 | ⟨q1, q2 | q2⟩⟩
      · have HRV : Aside0 (r = need.all (fun n => decide (n ∈ xs))) := ⟨by rw [HRR.out, factP, if_pos q0]⟩
        go_wp2
        go_loopw [9] (fun i wr => ∃ j : Nat, j ≤ need.length ∧ i = .int .i64 (j : Nat) ∧ Aside0 (∀ t, t < j → need.getD t 0 ∈ xs) ∧ Aside0 (Below w.heap.size w wr)) (fun i _ => need.length - (intOf i).toNat)
        case atStart => exact ⟨0, Nat.zero_le _, rfl, ⟨fun t ht => by omega⟩, ⟨Below.refl _ _⟩⟩
        case round =>
          obtain ⟨j, hj, rfl, HJ, HB⟩ := hrel
          have h2' := (HB.out.cell (World.block_lt_of_cell? w _ h2)).trans h2
          by_cases hjt : j < need.length
          · obtain ⟨ad2, rfl, hcell2⟩ := (HR2.out.below HB.out).at_ j (by omega) (by omega)
            simp only [Int.toNat_natCast] at hcell2
            go_wp2_with fail
            refine (hasC _ A c xs (rd need j) (HR.out.below HB.out) hc (by omega)).mono ?_
            rintro e w1 ⟨rfl, hb⟩
            have HB1 := Aside0.mk (below_then HB.out HB.out.size hb)
            clear hb
            have hrd : rd need (j : Int) = need.getD j 0 := by simp [rd]
            by_cases hmem : rd need j ∈ xs
            · have HM := Aside0.mk hmem
              have HD := Aside0.mk (decide_eq_true hmem)
              rw [HD.out]
              clear hmem hrd
              go_wp2
              go_roundw
              case rel =>
                refine ⟨j + 1, by omega, by go_num, ⟨fun t ht => ?_⟩, HB1⟩
                by_cases htj : t = j
                · subst htj; have := HM.out; simpa [rd] using this
                · exact HJ.out t (by omega)
              case measure => simp [intOf]; omega
            · have HD := Aside0.mk (decide_eq_false hmem)
              have HF : Aside0 (r = false) := ⟨by
                rw [HRV.out, List.all_eq_false]
                refine ⟨rd need j, ?_, by simpa using hmem⟩
                rw [hrd, List.getD_eq_getElem?_getD, List.getElem?_eq_getElem hjt]
                exact List.getElem_mem _⟩
              rw [HD.out]
              clear hmem hrd
              go_wp2
              go_ret
              exact ⟨by rw [HF.out]; rfl, HB1.out⟩
          · obtain rfl : j = need.length := by omega
            have HF : Aside0 (r = true) := ⟨by
              rw [HRV.out, List.all_eq_true]
              intro n hnm
              obtain ⟨t, ht, rfl⟩ := List.mem_iff_getElem.1 hnm
              have := HJ.out t ht
              rw [List.getD_eq_getElem?_getD, List.getElem?_eq_getElem ht] at this
              exact decide_eq_true this⟩
            go_wp2
            go_ret
            exact ⟨by rw [HF.out]; rfl, HB.out⟩
      · have HRV : Aside0 (r = decide (first ≤ sm)) := ⟨by rw [HRR.out, factP, if_neg (by rw [q0]; decide), if_pos q1, HSM.out]⟩
        go_wp2
        go_ret
        exact ⟨by rw [HRV.out]; rfl, Below.refl _ _⟩
      · have HRV : Aside0 (r = decide (first ≤ em)) := ⟨by rw [HRR.out, factP, if_neg (by rw [q0]; decide), if_neg (by rw [q1]; decide), if_pos q2, HEM.out]⟩
        go_wp2
        go_ret
        exact ⟨by rw [HRV.out]; rfl, Below.refl _ _⟩
      · have HRV : Aside0 (r = (decide ((1 : Int) < (xs.length : Int)) && decide (rd xs 0 < rd xs ((xs.length : Int) - 1)))) := ⟨by rw [HRR.out, factP, if_neg (by rw [q0]; decide), if_neg (by rw [q1]; decide), if_neg (by rw [q2]; decide)]⟩
        by_cases h1l : (1 : Int) < (xs.length : Int)
        · have d1 := decide_eq_true h1l
          obtain ⟨ad, rfl, hcell0⟩ := HR.out.at_ 0 (by omega) (by omega)
          obtain ⟨ad', e, hcell1⟩ := HR.out.at_ ((xs.length : Int) - 1) (by omega) (by omega)
          obtain rfl : ad = ad' := Option.some.inj e
          have hcell0' : w.cell? ad = some (.int .i64 (rd xs 0)) := by simpa [Addr.add] using hcell0
          have C0 := Aside0.mk hcell0'
          rw [show ((xs.length : Int) - 1).toNat = xs.length - 1 by omega] at hcell1
          have C1 := Aside0.mk hcell1
          clear hcell0 hcell0' hcell1 e
          have ws : IntKind.i64.wrap ((xs.length : Int) - 1) = (xs.length : Int) - 1 := IntWalk.i64_in _ (by omega)
          have z1 : (0 : Int) ≤ (xs.length : Int) - 1 := by omega
          have z2 : (xs.length : Int) - 1 < (xs.length : Int) := by omega
          have z3 : (0 : Int) < (xs.length : Int) := by omega
          have z4 : 0 < xs.length := by omega
          have z5 : (1 : Int) ≤ (xs.length : Int) := by omega
          have z6 : 1 ≤ xs.length := by omega
          go_wp2_with fail
          refine wp_val (S := fun w' => Below w.heap.size w w') (by kernel_rfl) (by kernel_rfl) (below_drew (Below.refl _ _)) ?_
          repeat (first
            | refine st_skip rfl ?_
            | refine st_move rfl rfl ?_
            | refine st_assign rfl rfl ?_
            | refine st_pickT rfl rfl rfl ?_
            | refine st_pickF rfl rfl rfl ?_
            | refine st_bin rfl rfl rfl (fun w' hw => by go_simp; rfl) ?_
            | refine st_indexAddr rfl rfl rfl (fun w' hw => by go_simp; rfl) ?_
            | refine st_un rfl rfl rfl rfl (fun w' hw => by go_simp; rfl) ?_
            | refine st_un rfl rfl rfl rfl (fun w' hw => by have x1 := (hw.cell (World.block_lt_of_cell? w _ C0.out)).trans C0.out; go_simp; rfl) ?_
            | refine st_un rfl rfl rfl rfl (fun w' hw => by have x1 := (hw.cell (World.block_lt_of_cell? w _ C1.out)).trans C1.out; go_simp; rfl) ?_)
          intro w6 hb6
          simp only [puts, Act.put, List.setIfInBounds_toArray, List.set_cons_zero, List.set_cons_succ]
          have HB6 := Aside0.mk hb6; clear hb6
          go_wp2
          go_ret
          refine ⟨?_, HB6.out⟩
          rw [HRV.out, d1]
          rfl
        · have d1 := decide_eq_false h1l
          go_wp2_with fail
          refine wp_val (S := fun w' => Below w.heap.size w w') (by kernel_rfl) (by kernel_rfl) (below_drew (Below.refl _ _)) ?_
          repeat (first
            | refine st_skip rfl ?_
            | refine st_move rfl rfl ?_
            | refine st_assign rfl rfl ?_
            | refine st_pickT rfl rfl rfl ?_
            | refine st_pickF rfl rfl rfl ?_
            | refine st_bin rfl rfl rfl (fun w' hw => by go_simp; rfl) ?_
            | refine st_indexAddr rfl rfl rfl (fun w' hw => by go_simp; rfl) ?_
            | refine st_un rfl rfl rfl rfl (fun w' hw => by go_simp; rfl) ?_)
          intro w6 hb6
          simp only [puts, Act.put, List.setIfInBounds_toArray, List.set_cons_zero, List.set_cons_succ]
          have HB6 := Aside0.mk hb6; clear hb6
          go_wp2
          go_ret
          refine ⟨?_, HB6.out⟩
          rw [HRV.out, d1]
          rfl
end Go.Proofs.Ytaeamehngbfneaa.Sl
