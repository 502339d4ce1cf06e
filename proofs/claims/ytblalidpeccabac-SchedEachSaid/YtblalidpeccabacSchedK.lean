/- SchedBack: its walk. -/
import Derived.Test.YtblalidpeccabacSchedP
import Derived.Test.YtblalidpeccabacSchedH
import Derived.Test.YtblalidpeccabacOpen
namespace Go.Proofs.Ytblalidpeccabac.Sd
open Go Go.RowKit Go.Lib Go.Proofs.YtblalidpeccabacW.PrintWords Go.Proofs.YtblalidpeccabacW.PrintLast Go.Proofs.YtblalidpeccabacW.PrintMore Go.Proofs.Ytblalidpeccabac.PSchedBack Go.Proofs.Ytblalidpeccabac.Bs Go.Proofs.Ytblalidpeccabac.RegionVal Go.Proofs.Ytblalidpeccabac.Open
set_option linter.unusedVariables false
set_option linter.unusedSimpArgs false

theorem opens_int3 : Opens Try.prog 3 (Kd.int .i64) (fun n => (Lit.int .i64 n).wf = true) := opens_int Try.underlying3
theorem bytes3 : Try.prog.bytesOf 3 = 8 := by kernel_rfl
theorem opens23 : Opens Try.prog 23 (Kd.slice 3 (Kd.int .i64)) (fun l => l.length ≤ 140737488351232 ∧ ∀ a ∈ l, (Lit.int .i64 a).wf = true) :=
  (opens_slice Try.underlying23 (by kernel_rfl) opens_int3).imp (fun _ h => ⟨by have h2 := h.2.1; rw [bytes3] at h2; omega, h.2.2⟩)
theorem opens57 : Opens Try.prog 57 k57 (fun _ => True) :=
  (opens_iso (fun x : S57 => (x.f0, x.f1)) (fun x => ⟨x.1, x.2⟩) (fun _ => rfl) (opens_struct Try.underlying57 (by kernel_rfl) (opensF_cons opens_int3 (by kernel_rfl) (opensF_one opens_int3 (by kernel_rfl))))).imp (fun _ _ => trivial)
theorem opens52 : Opens Try.prog 52 (Kd.slice 57 k57) (fun _ => True) := (opens_slice Try.underlying52 (by kernel_rfl) opens57).imp (fun _ _ => trivial)

theorem neq57_same (i j : Nat) (a b : Int) (W : World) : Sem.run Try.prog (do eqGuard .neq 57 (.tmp i) (.tmp j) (.agg #[.int .i64 a, .int .i64 b]) (.agg #[.int .i64 a, .int .i64 b]); binOp .neq 57 (.agg #[.int .i64 a, .int .i64 b]) (.agg #[.int .i64 a, .int .i64 b]) : Sem Value) W = .ok (.bool false) W := by
  have hu57 := Try.underlying57
  go_simp
theorem Packs.good {l : List Int} {r : Int} {x : List S57} (h : Packs l r x) (h1 : l.length ≤ 200) (h2 : l.any (fun n => !thr n) = false) : r = 0 ∧ x = packL l := by
  rcases h with ⟨_, _, h⟩ | ⟨_, _, _, h⟩ | ⟨h, _, _, h3⟩
  · omega
  · rw [h2] at h; cases h
  · exact ⟨h, h3⟩

set_option maxHeartbeats 16000000 in
set_option maxRecDepth 100000 in
theorem schedBack_walk (w : World) (A1 : Option Addr) (c1 : Nat) (l : List Int) (lc1 : l.length ≤ c1) (h1 : Kd.C kI w A1 l.length l) (A2 : Option Addr) (c2 : Nat) (r : List S57) (lc2 : r.length ≤ c2) (h2 : Kd.C k57 w A2 r.length r) :
    Calls Try.prog 8 #[.slice A1 l.length c1, .slice A2 r.length c2] w fun e w' => e = .returned (.bool true) ∧ Below w.heap.size w w' := by
  have HL := Aside0.mk h1
  have HR := Aside0.mk h2
  have hn : r.length ≤ 9223372036854775807 := h2.2.1
  clear h1 h2
  go_enter Try.func8, Try.ntmps8
  go_wp2_with fail
  refine (begun_calls w).mono ?_
  rintro e w1 ⟨rfl, hb⟩
  have HB1 := Aside0.mk hb
  clear hb
  go_wp2_with fail
  refine (pack_calls _ A1 c1 l (Kd.C_below HL.out HB1.out) lc1).mono ?_
  rintro e w2 ⟨v5, r6, x5, rfl, hO, hb, hp⟩
  have HB2 := Aside0.mk (below_then HB1.out HB1.out.size hb)
  have HO2 := Aside0.mk hO
  clear hb hO HB1
  by_cases h6 : r6 = 0
  case' pos =>
    subst h6
    obtain ⟨hpl, hpa, hpx⟩ : l.length ≤ 200 ∧ l.any (fun n => !thr n) = false ∧ x5 = packL l := by
      rcases hp with ⟨h, _⟩ | ⟨h, _⟩ | ⟨_, h2, h3, h4⟩
      · exact absurd h (by decide)
      · exact absurd h (by decide)
      · exact ⟨h2, h3, h4⟩
    have HU := Aside0.mk (show upk none [] x5 = (l, 0) by rw [hpx]; exact upk_packL l hpl hpa)
    obtain ⟨A5, d5, rfl, hd5, hC5⟩ := Kd.R_reads HO2.out
    have HC5 := Aside0.mk hC5
    clear hp hpl hpa hpx hC5
    go_wp2_with fail
    refine (unpack_calls _ A5 d5 x5 HC5.out hd5).mono ?_
    rintro e w3 ⟨v7, rfl, hO, hb⟩
    rw [HU.out] at hO ⊢
    have HB3 := Aside0.mk (below_then HB2.out HB2.out.size hb)
    obtain ⟨A7, d7, rfl, hd7, hr7⟩ := own_rd hO
    have HR7 := Aside0.mk hr7
    clear hb hO hr7
    go_wp2_with fail
    refine (same_calls _ A7 d7 l A1 c1 l HR7.out (reads_of (Kd.C_below HL.out HB3.out))).mono ?_
    rintro e wz ⟨rfl, hb⟩
    rw [show decide (l = l) = true from decide_eq_true rfl]
    have HBz := Aside0.mk (below_then HB3.out HB3.out.size hb)
    clear hb HB3 HR7 HC5
    go_wp2_with fail
  case' neg =>
    have HBz := HB2
    clear hp
    go_wp2_with fail
  all_goals
    obtain ⟨R, hR⟩ : ∃ R, R = upk none [] r := ⟨_, rfl⟩
    have HRR := Aside0.mk hR.symm
    clear hR
    refine (unpack_calls _ A2 c2 r (Kd.C_below HR.out HBz.out) lc2).mono ?_
    rw [HRR.out]
    obtain ⟨m, cd⟩ := R
    rintro e w4 ⟨v9, rfl, hO, hb⟩
    have HB4 := Aside0.mk (below_then HBz.out HBz.out.size hb)
    obtain ⟨A9, d9, rfl, hd9, hr9⟩ := own_rd hO
    have HR9 := Aside0.mk hr9
    clear hb hO hr9
    by_cases hcd : cd = 0
    · subst hcd
      obtain ⟨hm1, hm2, hm3⟩ := packL_upk r m HRR.out
      have HM := Aside0.mk (And.intro hm1 (And.intro hm2 hm3))
      clear hm1 hm2 hm3
      go_wp2_with fail
      refine (pack_calls _ A9 d9 m (C_int HR9.out) hd9).mono ?_
      rintro e w5 ⟨v11, r12, x11, rfl, hO, hb, hp⟩
      obtain ⟨rfl, hx⟩ := hp.good HM.out.2.1 HM.out.2.2
      rw [HM.out.1] at hx
      subst hx
      have HB5 := Aside0.mk (below_then HB4.out HB4.out.size hb)
      obtain ⟨A5, d5, rfl, hd5, hC5⟩ := Kd.R_reads hO
      have HC5 := Aside0.mk hC5
      clear hb hO hC5 hp HB4 HR9
      go_wp2_with fail
      go_loopw [13] (fun v13 wq => ∃ i : Nat, v13 = .int .i64 (i : Int) ∧ i ≤ x11.length ∧ Aside0 (Below w5.heap.size w5 wq)) (fun v13 _ => x11.length - (intOf v13).toNat)
      case atStart => exact ⟨0, rfl, Nat.zero_le _, ⟨Below.refl _ _⟩⟩
      case round =>
        obtain ⟨i, rfl, hi, HBq⟩ := hrel
        by_cases hlt : i < x11.length
        · have hlt1 : (i : Int) < (x11.length : Int) := by omega
          have hbq := below_then HB5.out HB5.out.size HBq.out
          obtain ⟨ad5, rfl, a0, a1⟩ := at57 (Kd.C_below HC5.out HBq.out) i hlt
          obtain ⟨ad2, rfl, b0, b1⟩ := at57 (Kd.C_below HR.out hbq) i hlt
          generalize x11[i].f0 = p at a0 b0
          generalize x11[i].f1 = q at a1 b1
          have HA0 := Aside0.mk a0
          have HA1 := Aside0.mk a1
          have HB0 := Aside0.mk b0
          have HB1 := Aside0.mk b1
          clear a0 a1 b0 b1 hbq
          go_wp2_with fail
          refine wp_val (S := fun w' => Below wr.heap.size wr w') (by kernel_rfl) (by kernel_rfl) (below_drew (Below.refl _ _)) ?_
          repeat (first
            | refine st_skip rfl ?_
            | refine st_move rfl rfl ?_
            | refine st_assign rfl rfl ?_
            | refine st_pickT rfl rfl rfl ?_
            | refine st_pickF rfl rfl rfl ?_
            | refine st_bin rfl rfl rfl (fun w' hw => by go_simp; rfl) ?_
            | refine st_indexAddr rfl rfl rfl (fun w' hw => by go_simp; rfl) ?_
            | refine st_un rfl rfl rfl rfl (fun w' hw => by go_simp; rfl) ?_
            | refine st_builtin rfl rfl (fun w' hw => by go_simp; rfl) ?_
            | refine st_slice rfl rfl rfl rfl rfl (fun w' hw => by go_simp; rfl) ?_
            | refine st_un rfl rfl rfl rfl (fun w' hw => by have k0 := (hw.cell (World.block_lt_of_cell? wr _ HA0.out)).trans HA0.out; have k1 := (hw.cell (World.block_lt_of_cell? wr _ HA1.out)).trans HA1.out; go_simp; rfl) ?_
            | refine st_un rfl rfl rfl rfl (fun w' hw => by have k0 := (hw.cell (World.block_lt_of_cell? wr _ HB0.out)).trans HB0.out; have k1 := (hw.cell (World.block_lt_of_cell? wr _ HB1.out)).trans HB1.out; go_simp; rfl) ?_
            | refine st_bin rfl rfl rfl (fun w' hw => neq57_same _ _ p q w') ?_)
          intro w6 hb6
          simp only [puts, Act.put, List.setIfInBounds_toArray, List.set_cons_zero, List.set_cons_succ]
          have HB6 := Aside0.mk (below_then HBq.out HBq.out.size hb6)
          clear hb6 HBq
          go_wp2
          go_roundw
          case rel => exact ⟨i + 1, by go_num, hlt, HB6⟩
          case measure => simp [intOf]; omega
        · have hle : x11.length ≤ i := by omega
          go_wp2_with fail
          refine (begun_calls _).mono ?_
          rintro e w6 ⟨rfl, hb⟩
          have HB6 := Aside0.mk (below_then HB5.out HB5.out.size (below_then HBq.out HBq.out.size hb))
          clear hb
          go_wp2
          exact bodyPost_ret (v := .bool true) (by simp [results, Try.f8, go_sem]) rfl ⟨rfl, HB6.out⟩
    · obtain rfl := upk_code r _ _ m cd HRR.out hcd
      go_wp2_with fail
      refine (begun_calls _).mono ?_
      rintro e w5 ⟨rfl, hb⟩
      have HB5 := Aside0.mk (below_then HB4.out HB4.out.size hb)
      clear hb
      go_wp2
      exact bodyPost_ret (v := .bool true) (by simp [results, Try.f8, go_sem]) rfl ⟨rfl, HB5.out⟩
theorem schedBack_row (w : World) (A1 : Option Addr) (c1 : Nat) (l : List Int) (lc1 : l.length ≤ c1) (h1 : Kd.C kI w A1 l.length l) (b1 : l.length ≤ 140737488351232 ∧ ∀ a ∈ l, (Lit.int .i64 a).wf = true) (A2 : Option Addr) (c2 : Nat) (r : List S57) (lc2 : r.length ≤ c2) (h2 : Kd.C k57 w A2 r.length r) (b2 : True) :
    Calls Try.prog 8 #[.slice A1 l.length c1, .slice A2 r.length c2] w fun e w' => e = .returned (.bool true) ∧ Below w.heap.size w w' :=
  schedBack_walk w A1 c1 l lc1 h1 A2 c2 r lc2 h2
end Go.Proofs.Ytblalidpeccabac.Sd
