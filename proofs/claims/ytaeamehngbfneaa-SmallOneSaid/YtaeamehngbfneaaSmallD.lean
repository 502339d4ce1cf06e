/- small.Min: its walk; what it tells of a list that holds is minF. -/
import Derived.Test.YtaeamehngbfneaaSmallC
import Derived.Test.YtaeamehngbfneaaRegionStep
import Derived.WalkLawsBesides
namespace Go.Proofs.Ytaeamehngbfneaa.Sl
open Go Go.RowKit Go.Lib Go.Proofs.YtaeamehngbfneaaW.PrintWords Go.Proofs.YtaeamehngbfneaaW.PrintLast Go.Proofs.YtaeamehngbfneaaW.PrintMore Go.Proofs.Ytaeamehngbfneaa.RegionVal
attribute [local go_sem] max2_int min2_int max_two min_two
set_option linter.unusedVariables false
set_option linter.unusedSimpArgs false

theorem eql_nilFunc (fn : Fn) (a b : Array Value) (w : World) : (binOp .eql 24 (.func fn a b) .nilFunc).run Try.prog w = .ok (.bool false) w := by
  have h : ∀ d : Nat, (Op.equalIn (d + 1) 24 (.func fn a b) .nilFunc).run Try.prog w = .ok false w := fun d => by
    simp [Op.equalIn, run_underlying Try.underlying24]
  simp only [binOp]
  have h9 := h 9999
  simp [Op.equal, Op.maxDepth, h9]

/-- the world with the asker's block -/
theorem asker_new (w : World) (fv : Value) : Asker (w.alloc (.cells #[fv, .int .i64 0] 44)) w.heap.size fv 0 := heap_alloc_new w _
theorem rd_new {w : World} {A : Option Addr} {xs : List Int} (h : ReadsInt w .i64 A xs.length xs) (o : Obj) : Rd (w.alloc o) w.heap.size A xs := fun w' hg => by
  have hb : Below w.heap.size w w' := (below_alloc (Below.refl _ _) o).grown hg (by simp) (fun k hk => by cases hk; exact Nat.le_refl _)
  exact h.below hb

set_option maxHeartbeats 8000000 in
set_option maxRecDepth 100000 in
theorem Min_no (f : FuncId) (cap : Array Value) (w0 : World) (p : List Int → Bool) (hf : Holds f cap w0 p) (w : World) (A : Option Addr) (c : Nat) (xs : List Int)
    (h0 : Below w0.heap.size w0 w) (hr : ReadsInt w .i64 A xs.length xs) (hc : xs.length ≤ c) (hn : xs.length ≤ 200) (hp : p xs = false) :
    Calls Try.prog 11 #[.slice A xs.length c, .func (.func f) #[] cap] w fun e w' => e = .returned (.tuple #[.slice none 0 0, .int .i64 0, .int .i64 8]) ∧ Below w.heap.size w w' := by
  have HR := Aside0.mk hr
  have H0 := Aside0.mk h0
  have HF := Aside0.mk hf
  have HP := Aside0.mk hp
  have d1 : decide ((200 : Int) < xs.length) = false := decide_eq_false (by omega)
  have hq := fun W : World => eql_nilFunc (.func f) #[] cap W
  clear hr h0 hf hp
  go_enter Try.func11, Try.ntmps11
  go_wp2_with fail
  refine (ask_calls f cap w0 p HF.out _ w.heap.size 0 A c xs (below_then H0.out H0.out.size (below_alloc (Below.refl _ _) _)) H0.out.size (asker_new w _) (by omega) (by omega) (rd_new HR.out _) hc hn).mono ?_
  rintro e w1 ⟨rfl, ha, hg⟩
  rw [HP.out]
  have HB : Aside0 (Below w.heap.size w w1) := ⟨(below_alloc (Below.refl _ _) _).grown hg (by simp) (fun k hk => by cases hk; exact Nat.le_refl _)⟩
  clear ha hg
  go_wp2
  go_ret3
  exact ⟨rfl, HB.out⟩

set_option maxHeartbeats 16000000 in
set_option maxRecDepth 100000 in
theorem Min_yes (f : FuncId) (cap : Array Value) (w0 : World) (p : List Int → Bool) (hf : Holds f cap w0 p) (w : World) (A : Option Addr) (c : Nat) (xs : List Int)
    (h0 : Below w0.heap.size w0 w) (hr : ReadsInt w .i64 A xs.length xs) (hc : xs.length ≤ c) (hn : xs.length ≤ 200) (hp : p xs = true) :
    Calls Try.prog 11 #[.slice A xs.length c, .func (.func f) #[] cap] w (MinPost w (minF p xs)) := by
  have HR := Aside0.mk hr
  have H0 := Aside0.mk h0
  have HF := Aside0.mk hf
  have HP := Aside0.mk hp
  have d1 : decide ((200 : Int) < xs.length) = false := decide_eq_false (by omega)
  have hq := fun W : World => eql_nilFunc (.func f) #[] cap W
  clear hr h0 hf hp
  go_enter Try.func11, Try.ntmps11
  go_wp2_with fail
  refine (ask_calls f cap w0 p HF.out _ w.heap.size 0 A c xs (below_then H0.out H0.out.size (below_alloc (Below.refl _ _) _)) H0.out.size (asker_new w _) (by omega) (by omega) (rd_new HR.out _) hc hn).mono ?_
  rintro e w1 ⟨rfl, ha, hg⟩
  rw [HP.out]
  have HB : Aside0 (Below w.heap.size w w1) := ⟨(below_alloc (Below.refl _ _) _).grown hg (by simp) (fun k hk => by cases hk; exact Nat.le_refl _)⟩
  have HA1 := Aside0.mk (show Asker w1 w.heap.size (.func (.func f) #[] cap) 1 from ha)
  have HR1 := Aside0.mk ((rd_new HR.out _).on hg)
  clear ha hg
  go_wp2_with fail
  refine (clone_calls _ A c xs HR1.out.now hc (by omega)).mono ?_
  rintro e w2 ⟨v, rfl, hown, hbel⟩
  obtain ⟨A2, c2, rfl, hc2, hr2⟩ := rd_of_own (g := w.heap.size) hown (blk_lt HA1.out)
  have HR2 := Aside0.mk hr2
  have HA2 : Aside0 (Asker w2 w.heap.size (.func (.func f) #[] cap) 1) := ⟨(hbel.block _ (blk_lt HA1.out)).trans HA1.out⟩
  have HB2 := Aside0.mk (below_then HB.out HB.out.size hbel)
  clear hown hbel hr2
  have hL := halvesF_length p xs.length (xs.length / 2) xs
  have hL2 : xs.length * xs.length ≤ 40000 := Nat.le_trans (Nat.mul_le_mul hn hn) (Nat.le_refl _)
  have hL3 : (halvesF p xs.length (xs.length / 2) xs).2 ≤ 40000 := Nat.le_trans hL.2 hL2
  have HL1 := Aside0.mk hL.1
  have HL3 := Aside0.mk hL3
  clear hL hL2 hL3
  go_wp2
  go_loopw [8, 9] (fun out sz wr => ∃ (ys : List Int) (A1 : Option Addr) (c1 s k : Nat), out = .slice A1 ys.length c1 ∧ ys.length ≤ c1 ∧ ys.length ≤ xs.length ∧ sz = .int .i64 (s : Nat) ∧ s ≤ 200 ∧
      Aside0 (Rd wr w.heap.size A1 ys) ∧ Aside0 (Asker wr w.heap.size (.func (.func f) #[] cap) (1 + (k : Int))) ∧ Aside0 (Below w.heap.size w wr) ∧
      Aside0 (halvesF p xs.length (xs.length / 2) xs = ((halvesF p s s ys).1, (halvesF p s s ys).2 + k))) (fun _ sz _ => (intOf sz).toNat)
  case atStart => exact ⟨xs, A2, c2, xs.length / 2, 0, rfl, hc2, Nat.le_refl _, by first | rfl | go_num | (simp; done), by omega, HR2, ⟨by simpa using HA2.out⟩, HB2, ⟨by rw [halvesF_more p xs.length (xs.length / 2) xs (by omega) (xs.length / 2) (Nat.le_refl _)]; simp⟩⟩
  case round =>
    obtain ⟨ys, A1, c1, s, k, rfl, hc1, hn1, rfl, hs, HRy, HAy, HBy, HPy⟩ := hrel
    have hk : k ≤ 40000 := by have h1 := HPy.out; have h2 := HL3.out; rw [h1] at h2; simp only at h2; omega
    by_cases h1 : 1 < s
    · obtain ⟨r, hr⟩ : ∃ r, r = passF p s ys.length ys.length ys := ⟨_, rfl⟩
      have hrl := passF_length p s ys.length ys.length ys
      rw [← hr] at hrl
      have HRR := Aside0.mk hr
      clear hr
      go_wp2_with fail
      refine (pass_calls f cap w0 p HF.out _ w.heap.size (1 + k) A1 c1 ys s (below_then H0.out H0.out.size HBy.out) H0.out.size HAy.out (by omega) (by omega) HRy.out hc1 (by omega) (by omega) (by omega)).mono ?_
      rintro e w3 ⟨A3, c3, rfl, hc3, hr3, ha3, hg3⟩
      rw [show passF p ((s : Int)).toNat ys.length ys.length ys = r from HRR.out.symm] at hc3 hr3 ha3 ⊢
      have HR3 := Aside0.mk hr3
      have HA3 := Aside0.mk ha3
      have HB3 : Aside0 (Below w.heap.size w w3) := ⟨HBy.out.grown hg3 HBy.out.size (fun b hb => by cases hb; exact Nat.le_refl _)⟩
      clear hr3 ha3 hg3
      go_wp2
      go_roundw
      case rel =>
        refine ⟨r.1, A3, c3, s / 2, k + r.2, rfl, hc3, by omega, by first | rfl | go_num | (simp; done), by omega, HR3, ⟨by have := HA3.out; rwa [show (1 : Int) + (k : Int) + (r.2 : Int) = 1 + ((k + r.2 : Nat) : Int) by omega] at this⟩, HB3, ⟨?_⟩⟩
        rw [HPy.out]
        obtain ⟨s', rfl⟩ : ∃ s', s = s' + 1 := ⟨s - 1, by omega⟩
        simp only [halvesF]
        rw [if_neg (by omega), ← HRR.out, halvesF_more p s' ((s' + 1) / 2) r.1 (by omega) ((s' + 1) / 2) (Nat.le_refl _)]
        simp; omega
      case measure => simp [intOf]; omega
    · have hh : halvesF p s s ys = (ys, 0) := by
        cases s with
        | zero => rfl
        | succ s => simp only [halvesF]; rw [if_pos (by omega)]
      have HPZ : Aside0 (halvesF p xs.length (xs.length / 2) xs = (ys, k)) := ⟨by rw [HPy.out, hh]; simp⟩
      have HO := Aside0.mk (onesF_asks p (ys.length + 1) ys)
      clear hh
      go_wp2
      go_loopw [8] (fun out wr => ∃ (zs : List Int) (A1 : Option Addr) (c1 j : Nat), out = .slice A1 zs.length c1 ∧ zs.length ≤ c1 ∧ zs.length ≤ ys.length ∧
        Aside0 (Rd wr w.heap.size A1 zs) ∧ Aside0 (Asker wr w.heap.size (.func (.func f) #[] cap) (1 + (k : Int) + (j : Int))) ∧ Aside0 (Below w.heap.size w wr) ∧
        Aside0 (onesF p (ys.length + 1) ys = ((onesF p (zs.length + 1) zs).1, (onesF p (zs.length + 1) zs).2 + j))) (fun out _ => match out with | .slice _ n _ => n | _ => 0)
      case atStart => exact ⟨ys, A1, c1, 0, rfl, hc1, Nat.le_refl _, HRy, ⟨by simpa using HAy.out⟩, HBy, ⟨by simp⟩⟩
      case round =>
        obtain ⟨zs, A4, c4, j, rfl, hc4, hn4, HRz, HAz, HBz, HPz⟩ := hrel
        have hj : j ≤ 41000 := by
          have h1 := HPz.out
          have h2 := HO.out
          rw [h1] at h2
          simp only at h2
          have h3 : (ys.length + 1) * ys.length ≤ 201 * 200 := Nat.mul_le_mul (by omega) (by omega)
          omega
        obtain ⟨r, hr⟩ : ∃ r, r = passF p 1 zs.length zs.length zs := ⟨_, rfl⟩
        have hrl := passF_length p 1 zs.length zs.length zs
        rw [← hr] at hrl
        have HRR := Aside0.mk hr
        clear hr
        go_wp2_with fail
        refine (pass_calls f cap w0 p HF.out _ w.heap.size (1 + k + j) A4 c4 zs 1 (below_then H0.out H0.out.size HBz.out) H0.out.size HAz.out (by omega) (by omega) HRz.out hc4 (by omega) (by omega) (by omega)).mono ?_
        rintro e w5 ⟨A5, c5, rfl, hc5, hr5, ha5, hg5⟩
        rw [show passF p (1 : Int).toNat zs.length zs.length zs = r from HRR.out.symm] at hc5 hr5 ha5 ⊢
        have HR5 := Aside0.mk hr5
        have HA5 := Aside0.mk ha5
        have HB5 : Aside0 (Below w.heap.size w w5) := ⟨HBz.out.grown hg5 HBz.out.size (fun b hb => by cases hb; exact Nat.le_refl _)⟩
        clear hr5 ha5 hg5
        by_cases hlen : r.1.length = zs.length
        · have hd : ((r.1.length : Int) == (zs.length : Int)) = true := beq_iff_eq.2 (by omega)
          have HE : Aside0 (minF p xs = (r.1, 1 + k + (r.2 + j))) := ⟨by
            have h1 : onesF p (zs.length + 1) zs = r := by
              simp only [onesF]
              rw [← HRR.out, if_pos hlen]
            have h2 : onesF p (xs.length + 1) ys = onesF p (ys.length + 1) ys := onesF_more p _ ys (by omega) _ (by omega)
            simp only [minF, HPZ.out, h2, HPz.out, h1]⟩
          have HLEN := Aside0.mk hlen
          clear hlen
          go_wp2
          have hc1 := blk_cell HA5.out 1
          simp only [List.getElem?_toArray, List.getElem?_cons_zero, List.getElem?_cons_succ] at hc1
          have HC1 := Aside0.mk hc1
          clear hc1
          refine wp_val (S := fun w' => Below w5.heap.size w5 w') (by kernel_rfl) (by kernel_rfl) (below_drew (Below.refl _ _)) ?_
          repeat (first
            | refine st_skip rfl ?_
            | refine st_move rfl rfl ?_
            | refine st_assign rfl rfl ?_
            | refine st_pickT rfl rfl rfl ?_
            | refine st_pickF rfl rfl rfl ?_
            | refine st_bin rfl rfl rfl (fun w' hw => by go_simp; rfl) ?_
            | refine st_indexAddr rfl rfl rfl (fun w' hw => by go_simp; rfl) ?_
            | refine st_un rfl rfl rfl rfl (fun w' hw => by go_simp; rfl) ?_
            | refine st_un rfl rfl rfl rfl (fun w' hw => by have x1 := (hw.cell (World.block_lt_of_cell? w5 _ HC1.out)).trans HC1.out; go_simp; rfl) ?_)
          intro w6 hb6
          simp only [puts, Act.put, List.setIfInBounds_toArray, List.set_cons_zero, List.set_cons_succ]
          have HB6 := Aside0.mk hb6; clear hb6
          go_wp2
          go_ret3
          refine ⟨A5, c5, ?_, by rw [HE.out]; exact hc5, by rw [HE.out]; exact (HR5.out.now).below HB6.out, below_then HB5.out HB5.out.size HB6.out⟩
          rw [HE.out]
          simp only
          rw [show (1 : Int) + (k : Int) + (j : Int) + (r.2 : Int) = ((1 + k + (r.2 + j) : Nat) : Int) by omega]
          first | rfl | (simp; done)
        · have hd : ((r.1.length : Int) == (zs.length : Int)) = false := beq_eq_false_iff_ne.2 (by omega)
          have HLEN := Aside0.mk hlen
          have hlt : r.1.length < zs.length := by omega
          clear hlen
          go_wp2
          go_roundw
          case rel =>
            refine ⟨r.1, A5, c5, j + r.2, rfl, hc5, by omega, HR5, ⟨by have := HA5.out; rwa [show (1 : Int) + (k : Int) + (j : Int) + (r.2 : Int) = 1 + (k : Int) + ((j + r.2 : Nat) : Int) by omega] at this⟩, HB5, ⟨?_⟩⟩
            rw [HPz.out]
            simp only [onesF]
            rw [← HRR.out, if_neg HLEN.out, onesF_more p zs.length r.1 hlt (r.1.length + 1) (by omega)]
            simp only [onesF]
            simp; omega
          case measure => simp; omega
end Go.Proofs.Ytaeamehngbfneaa.Sl
