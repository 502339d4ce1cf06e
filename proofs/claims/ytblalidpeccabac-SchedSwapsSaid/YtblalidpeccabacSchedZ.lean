/- SchedSwaps: its walk. -/
import Derived.Test.YtblalidpeccabacSchedW
import Derived.Test.YtblalidpeccabacSchedY
import Derived.Test.YtblalidpeccabacSchedH
import Derived.Test.YtblalidpeccabacOpen
import Derived.Test.YtblalidpeccabacRegionTree
namespace Go.Proofs.Ytblalidpeccabac.Sd
open Go Go.RowKit Go.Proofs.YtblalidpeccabacW.PrintWords Go.Proofs.YtblalidpeccabacW.PrintLast Go.Proofs.YtblalidpeccabacW.PrintMore Go.Proofs.Ytblalidpeccabac.PSchedBack Go.Proofs.Ytblalidpeccabac.Bs Go.Proofs.Ytblalidpeccabac.RegionVal Go.Proofs.Ytblalidpeccabac.Open
open Go.Lib hiding intOf
set_option linter.unusedVariables false
set_option linter.unusedSimpArgs false

theorem opens_i3 : Opens Try.prog 3 (Kd.int .i64) (fun n => (Lit.int .i64 n).wf = true) := opens_int Try.underlying3
theorem opens_l23 : Opens Try.prog 23 (Kd.slice 3 (Kd.int .i64)) (fun l => True) := (opens_slice Try.underlying23 (by kernel_rfl) opens_i3).imp (fun _ _ => trivial)
theorem opens_b50 : Opens Try.prog 50 (Kd.slice 4 Kd.bool) (fun _ => True) := (opens_slice Try.underlying50 (by kernel_rfl) (opens_bool Try.underlying4)).imp (fun _ _ => trivial)
theorem opens_d45 : Opens Try.prog 45 (Kd.slice 50 (Kd.slice 4 Kd.bool)) (fun _ => True) := (opens_slice Try.underlying45 (by kernel_rfl) opens_b50).imp (fun _ _ => trivial)

theorem flat_take (a : List (List Int)) (k : Nat) : (a.take k).flatten.length ≤ a.flatten.length := by
  have h := congrArg (fun x => (List.flatten x).length) (List.take_append_drop k a)
  simp only [List.flatten_append, List.length_append] at h
  omega
theorem flat_step {a : List (List Int)} {k : Nat} (hk : k < a.length) : (a.take (k + 1)).flatten = (a.take k).flatten ++ a[k] := by
  rw [List.take_succ_eq_append_getElem hk, List.flatten_append]
  simp
theorem IR.run_store {W : World} {base g n c : Nat} {xs : List Int} (h : IR W base g n c xs) (k : Nat) (hk : k < xs.length) (x : Int) : Sem.run Try.prog (Instr.storeAt 3 (.pointer (some ⟨g, k, none⟩)) (.int .i64 x)) W = .ok () (W.setCell ⟨g, k, none⟩ (.int .i64 x)) := by
  obtain ⟨h1, h2⟩ := h.cell k hk
  go_simp
theorem at_dep {w : World} {A : Option Addr} {n : Nat} {dep : List (List Bool)} (h : Kd.C kB w A n dep) (hq : Sq dep) (a b : Nat) (ha : a < dep.length) (hb : b < dep.length) :
    ∃ ad ar c0, A = some ad ∧ w.cell? (ad.add a) = some (.slice (some ar) dep.length c0) ∧ w.cell? (ar.add b) = some (.bool (dN dep a b)) := by
  obtain ⟨ad, A0, c0, e, h2, h3, h4⟩ := at_L2 h (a : Int) (by omega) (by have := h.1; omega)
  rw [rdL2_nat, Int.toNat_natCast] at h2
  rw [rdL2_nat] at h3 h4
  have hl := hq.len a ha
  obtain ⟨ar, e2, h5⟩ := Kd.at_bool h4 (b : Int) (by omega) (by omega)
  subst e2
  rw [rdOf_nat, Int.toNat_natCast] at h5
  rw [hl] at h2
  exact ⟨ad, ar, c0, e, h2, h5⟩

set_option maxHeartbeats 32000000 in
set_option maxRecDepth 100000 in
theorem schedSwaps_walk (w : World) (A1 : Option Addr) (c1 : Nat) (l : List Int) (lc1 : l.length ≤ c1) (h1 : Kd.C kI w A1 l.length l) (A2 : Option Addr) (c2 : Nat) (dep : List (List Bool)) (lc2 : dep.length ≤ c2) (h2 : Kd.C kB w A2 dep.length dep) (i : Int) :
    Calls Try.prog 7 #[.slice A1 l.length c1, .slice A2 dep.length c2, .int .i64 i] w fun e w' => e = .returned (.bool true) ∧ Below w.heap.size w w' := by
  have HL := Aside0.mk h1
  have HD := Aside0.mk h2
  clear h1 h2
  rcases normF_eq l dep with ⟨e, he, hN⟩ | ⟨hh, hq, hn, u, hlu, hul, hua⟩
  · have HN := Aside0.mk hN
    clear hN
    go_enter Try.func7, Try.ntmps7
    go_wp2_with fail
    refine (begun_calls w).mono ?_
    rintro en w1 ⟨rfl, hb⟩
    have HB1 := Aside0.mk hb
    clear hb
    go_wp2_with fail
    refine (normal_calls 1000 w1 A1 c1 l A2 c2 dep [] e (Kd.C_below HL.out HB1.out) lc1 (Kd.C_below HD.out HB1.out) lc2 HN.out).mono ?_
    rintro en w2 ⟨v7, rfl, hO, hb⟩
    have HB2 := Aside0.mk (below_then HB1.out HB1.out.size hb)
    obtain ⟨A7, d7, rfl, hd7, -⟩ := Kd.S_reads hO
    clear hb hO HB1
    go_wp2_with fail
    refine (begun_calls _).mono ?_
    rintro en w3 ⟨rfl, hb⟩
    have HB3 := Aside0.mk (below_then HB2.out HB2.out.size hb)
    clear hb
    go_wp2
    exact bodyPost_ret (v := .bool true) (by simp [results, Try.f7, go_sem]) rfl ⟨rfl, HB3.out⟩
  · have HQ := Aside0.mk hq
    have HH := Aside0.mk hh
    have HN12 := Aside0.mk hn
    have HLU := Aside0.mk hlu
    have HUL := Aside0.mk hul
    have HUA := Aside0.mk hua
    obtain ⟨a, ha⟩ : ∃ a, a = (nf (dN dep) u).out.map zn := ⟨_, rfl⟩
    have HA := Aside0.mk ha
    have HN := Aside0.mk (show normF 1000 l dep = some (a, 0) by rw [hlu, ha]; exact normF_ok hh hq hn u hul hua)
    have hfl := flat_eq hh hq hn u hul hua
    rw [← ha] at hfl
    have HF1 := Aside0.mk hfl.1
    have HF2 := Aside0.mk (show a.flatten.length = l.length by rw [hfl.2.1, hlu, zn_length])
    have HF3 := Aside0.mk hfl.2.2
    have HL200 := Aside0.mk (show l.length ≤ 200 by rw [hlu, zn_length]; exact hul)
    clear hq hh hn hlu hul hua ha hfl
    go_enter Try.func7, Try.ntmps7
    go_wp2_with fail
    refine (begun_calls w).mono ?_
    rintro en w1 ⟨rfl, hb⟩
    have HB1 := Aside0.mk hb
    clear hb
    go_wp2_with fail
    refine (normal_calls 1000 w1 A1 c1 l A2 c2 dep a 0 (Kd.C_below HL.out HB1.out) lc1 (Kd.C_below HD.out HB1.out) lc2 HN.out).mono ?_
    rintro en w2 ⟨v7, rfl, hO, hb⟩
    have HB2 := Aside0.mk (below_then HB1.out HB1.out.size hb)
    obtain ⟨A7, d7, rfl, hd7, k7⟩ := Kd.S_reads hO
    have H7 := Aside0.mk k7
    have hn7 : a.length ≤ 9223372036854775807 := k7.2.1
    clear hb hO HB1 k7
    go_wp2_with fail
    go_loopw [9, 10] (fun v9 v10 wr => ∃ k : Nat, v10 = .int .i64 (k : Int) ∧ k ≤ a.length ∧ Aside0 (wr.ownsRow w2.heap.size 3 1 v9 (a.take k).flatten.length (nums .i64 (a.take k).flatten)) ∧ Aside0 (Below w2.heap.size w2 wr)) (fun _ v10 _ => a.length - (intOf v10).toNat)
    case atStart => exact ⟨0, rfl, Nat.zero_le _, ⟨World.ownsRow_nil _ _ _ _⟩, ⟨Below.refl _ _⟩⟩
    case round =>
      obtain ⟨k, rfl, hk, HO, HB⟩ := hrel
      by_cases hlt : k < a.length
      · have hlt1 : (k : Int) < (a.length : Int) := by omega
        obtain ⟨ad7, B7, e7, rfl, k1, k2, k3⟩ := at_row (Kd.C_below H7.out HB.out) k hlt
        have HST := Aside0.mk (flat_step hlt)
        have HTL := Aside0.mk (show (a.take k).flatten.length + (a[k]).length ≤ 200 by
          have h1 := flat_take a (k + 1)
          rw [HST.out, List.length_append] at h1
          have := HF2.out
          have := HL200.out
          omega)
        generalize (a.take k).flatten = f at HO HST HTL
        generalize a[k] = r at k1 k2 k3 HST HTL
        have HR := Aside0.mk (reads_of k3)
        clear k2 k3
        go_wp2_with (at_builtin; refine print_append_row (w0 := w2) w2.heap.size rfl _ _ 23 3 .i64 8 rfl Try.underlying23 infoInt (by decide) _ f r _ _ _ rfl rfl HO.out HR.out HB.out HB.out.size (by have := HTL.out; show (f.length + r.length) * 8 ≤ _; omega) ?_; intro v1 w5 hown hB hg hat; have HO5 := Aside0.mk hown; have HB5 := Aside0.mk hB; clear hown hB hg hat)
        go_roundw
        case rel => exact ⟨k + 1, by go_num, hlt, ⟨by rw [HST.out]; exact HO5.out⟩, HB5⟩
        case measure => simp [intOf]; omega
      · have hle : a.length ≤ k := by omega
        have HOF := Aside0.mk (show wr.ownsRow w2.heap.size 3 1 u9 a.flatten.length (nums .i64 a.flatten) by
          have h := HO.out
          rwa [List.take_of_length_le hle] at h)
        obtain ⟨A9, d9, rfl, hd9, hr9⟩ := own_rd HOF.out
        have HR9 := Aside0.mk (C_int hr9)
        have HBw := Aside0.mk (below_then HB2.out HB2.out.size HB.out)
        clear hr9 HOF HO
        obtain ⟨F, hF⟩ : ∃ F, F = a.flatten := ⟨_, rfl⟩
        rw [← hF] at hd9 HR9 HF1 HF2 ⊢
        clear hF
        have hfl : F.length = l.length := HF2.out
        rw [hfl] at hd9 ⊢
        clear hfl
        have HLEN := HF2
        go_wp2_with fail
        have hal := alike_calls 1000 wr A1 c1 l A9 d9 F A2 c2 dep a a (Kd.C_below HL.out HBw.out) lc1 HR9.out (by rw [HLEN.out]; exact hd9) (Kd.C_below HD.out HBw.out) lc2 HN.out HF1.out (fun r hr => by have := HF3.out r hr; omega)
        rw [HLEN.out] at hal
        refine hal.mono ?_
        rintro en w6 ⟨rfl, hb⟩
        rw [show decide (a = a) = true from decide_eq_true rfl]
        have HB6 := Aside0.mk (below_then HBw.out HBw.out.size hb)
        clear hb hal HBw HR9 HB hle hlt
        obtain ⟨L, hL⟩ : ∃ L, L = l.length := ⟨_, rfl⟩
        have HLL := Aside0.mk hL
        rw [← hL] at lc1 ⊢
        have hL2 : L ≤ 200 := by rw [hL]; exact HL200.out
        clear hL
        have hwL : IntKind.i64.wrap ((L : Int) - 1) = (L : Int) - 1 := by rw [IntKind.wrap_i64]; omega
        by_cases hi0 : i < 0
        · have d1 : decide (i < 0) = true := decide_eq_true hi0
          go_wp2_with fail
          refine wp_val (S := fun w' => Below w6.heap.size w6 w') (by kernel_rfl) (by kernel_rfl) (below_drew (Below.refl _ _)) ?_
          repeat (first
            | refine st_skip rfl ?_
            | refine st_move rfl rfl ?_
            | refine st_assign rfl rfl ?_
            | refine st_pickT rfl rfl rfl ?_
            | refine st_pickF rfl rfl rfl ?_
            | refine st_bin rfl rfl rfl (fun w' hw => by go_simp; rfl) ?_
            | refine st_indexAddr rfl rfl rfl (fun w' hw => by go_simp; rfl) ?_
            | refine st_un rfl rfl rfl rfl (fun w' hw => by go_simp; rfl) ?_
            | refine st_builtin rfl rfl (fun w' hw => by go_simp; rfl) ?_
            | refine st_slice rfl rfl rfl rfl rfl (fun w' hw => by go_simp; rfl) ?_)
          intro w7 hb7
          simp only [puts, Act.put, List.setIfInBounds_toArray, List.set_cons_zero, List.set_cons_succ]
          have HB7 := Aside0.mk (below_then HB6.out HB6.out.size hb7)
          clear hb7
          go_wp2_with fail
          refine (begun_calls _).mono ?_
          rintro en w8 ⟨rfl, hb⟩
          have HB8 := Aside0.mk (below_then HB7.out HB7.out.size hb)
          clear hb
          go_wp2
          exact bodyPost_ret (v := .bool true) (by simp [results, Try.f7, go_sem]) rfl ⟨rfl, HB8.out⟩
        · have d1 : decide (i < 0) = false := decide_eq_false hi0
          by_cases hiL : (L : Int) - 1 ≤ i
          · have d2 : decide ((L : Int) - 1 ≤ i) = true := decide_eq_true hiL
            go_wp2_with fail
            refine wp_val (S := fun w' => Below w6.heap.size w6 w') (by kernel_rfl) (by kernel_rfl) (below_drew (Below.refl _ _)) ?_
            repeat (first
              | refine st_skip rfl ?_
              | refine st_move rfl rfl ?_
              | refine st_assign rfl rfl ?_
              | refine st_pickT rfl rfl rfl ?_
              | refine st_pickF rfl rfl rfl ?_
              | refine st_bin rfl rfl rfl (fun w' hw => by go_simp; rfl) ?_
              | refine st_indexAddr rfl rfl rfl (fun w' hw => by go_simp; rfl) ?_
              | refine st_un rfl rfl rfl rfl (fun w' hw => by go_simp; rfl) ?_
              | refine st_builtin rfl rfl (fun w' hw => by go_simp; rfl) ?_
              | refine st_slice rfl rfl rfl rfl rfl (fun w' hw => by go_simp; rfl) ?_)
            intro w7 hb7
            simp only [puts, Act.put, List.setIfInBounds_toArray, List.set_cons_zero, List.set_cons_succ]
            have HB7 := Aside0.mk (below_then HB6.out HB6.out.size hb7)
            clear hb7
            go_wp2_with fail
            refine (begun_calls _).mono ?_
            rintro en w8 ⟨rfl, hb⟩
            have HB8 := Aside0.mk (below_then HB7.out HB7.out.size hb)
            clear hb
            go_wp2
            exact bodyPost_ret (v := .bool true) (by simp [results, Try.f7, go_sem]) rfl ⟨rfl, HB8.out⟩
          · have d2 : decide ((L : Int) - 1 ≤ i) = false := decide_eq_false hiL
            obtain ⟨j, rfl⟩ : ∃ j : Nat, i = (j : Int) := ⟨i.toNat, by omega⟩
            have hj1 : j + 1 < L := by omega
            have hjL : j < L := by omega
            have z1 : ((j + 1 : Nat) : Int) < (L : Int) := by omega
            have z2 : (j : Int) < (L : Int) := by omega
            have z3 : (j : Int) + 1 < (L : Int) := by omega
            have hwj : IntKind.i64.wrap ((j : Int) + 1) = ((j + 1 : Nat) : Int) := by rw [IntKind.wrap_i64]; omega
            have hju : j + 1 < u.length := by have h1 := HLL.out; have h2 := HLU.out; rw [h2, zn_length] at h1; omega
            obtain ⟨xn, hxn⟩ : ∃ xn, xn = u[j] := ⟨_, rfl⟩
            obtain ⟨yn, hyn⟩ : ∃ yn, yn = u[j + 1] := ⟨_, rfl⟩
            have hlx : l[j]'(by rw [← HLL.out]; exact hjL) = ((xn : Nat) : Int) := by
              have h := HLU.out
              subst h
              simp [zn, hxn]
            have hly : l[j + 1]'(by rw [← HLL.out]; exact hj1) = ((yn : Nat) : Int) := by
              have h := HLU.out
              subst h
              simp [zn, hyn]
            obtain ⟨ad, rfl, k0⟩ := C_cell HL.out j (by rw [← HLL.out]; exact hjL)
            obtain ⟨ad', e, k1⟩ := C_cell HL.out (j + 1) (by rw [← HLL.out]; exact hj1)
            obtain rfl := Option.some.inj e
            rw [hlx] at k0
            rw [hly] at k1
            have K0 := Aside0.mk (show ∀ w', Below w.heap.size w w' → w'.cell? (ad.add j) = some (.int .i64 ((xn : Nat) : Int)) from fun w' hb => (hb.cell (World.block_lt_of_cell? w _ k0)).trans k0)
            have e9 : ad.add (j + 1) = ⟨ad.block, ad.off + (j + 1), none⟩ := by simp [Addr.add]
            rw [e9] at k1
            have K1 := Aside0.mk (show ∀ w', Below w.heap.size w w' → w'.cell? ⟨ad.block, ad.off + (j + 1), none⟩ = some (.int .i64 ((yn : Nat) : Int)) from fun w' hb => (hb.cell (World.block_lt_of_cell? w _ k1)).trans k1)
            have HXN := Aside0.mk (And.intro hxn hyn)
            have HLX := Aside0.mk (And.intro hlx hly)
            clear e e9 k0 k1 hxn hyn hi0 hiL hlx hly
            by_cases hxy : xn = yn
            · subst hxy
              go_wp2_with fail
              refine wp_val (S := fun w' => Below w6.heap.size w6 w') (by kernel_rfl) (by kernel_rfl) (below_drew (Below.refl _ _)) ?_
              repeat (first
                | refine st_skip rfl ?_
                | refine st_move rfl rfl ?_
                | refine st_assign rfl rfl ?_
                | refine st_pickT rfl rfl rfl ?_
                | refine st_pickF rfl rfl rfl ?_
                | refine st_bin rfl rfl rfl (fun w' hw => by go_simp; rfl) ?_
                | refine st_indexAddr rfl rfl rfl (fun w' hw => by go_simp; rfl) ?_
                | refine st_un rfl rfl rfl rfl (fun w' hw => by go_simp; rfl) ?_
                | refine st_builtin rfl rfl (fun w' hw => by go_simp; rfl) ?_
                | refine st_slice rfl rfl rfl rfl rfl (fun w' hw => by go_simp; rfl) ?_
                | refine st_un rfl rfl rfl rfl (fun w' hw => by have x1 := (K0.out w' (below_then HB6.out HB6.out.size hw)); go_simp; rfl) ?_
                | refine st_un rfl rfl rfl rfl (fun w' hw => by have x1 := (K1.out w' (below_then HB6.out HB6.out.size hw)); go_simp; rfl) ?_)
              intro w7 hb7
              simp only [puts, Act.put, List.setIfInBounds_toArray, List.set_cons_zero, List.set_cons_succ]
              have HB7 := Aside0.mk (below_then HB6.out HB6.out.size hb7)
              clear hb7
              go_wp2_with fail
              refine (begun_calls _).mono ?_
              rintro en w8 ⟨rfl, hb⟩
              have HB8 := Aside0.mk (below_then HB7.out HB7.out.size hb)
              clear hb
              go_wp2
              exact bodyPost_ret (v := .bool true) (by simp [results, Try.f7, go_sem]) rfl ⟨rfl, HB8.out⟩
            · have d3 : (((xn : Nat) : Int) == ((yn : Nat) : Int)) = false := beq_eq_false_iff_ne.2 (by omega)
              have d4 : (xn == yn) = false := beq_eq_false_iff_ne.2 hxy
              have HNE := Aside0.mk hxy
              clear hxy
              go_wp2_with fail
              refine wp_val (S := fun w' => Below w6.heap.size w6 w') (by kernel_rfl) (by kernel_rfl) (below_drew (Below.refl _ _)) ?_
              repeat (first
                | refine st_skip rfl ?_
                | refine st_move rfl rfl ?_
                | refine st_assign rfl rfl ?_
                | refine st_pickT rfl rfl rfl ?_
                | refine st_pickF rfl rfl rfl ?_
                | refine st_bin rfl rfl rfl (fun w' hw => by go_simp; rfl) ?_
                | refine st_indexAddr rfl rfl rfl (fun w' hw => by go_simp; rfl) ?_
                | refine st_un rfl rfl rfl rfl (fun w' hw => by go_simp; rfl) ?_
                | refine st_builtin rfl rfl (fun w' hw => by go_simp; rfl) ?_
                | refine st_slice rfl rfl rfl rfl rfl (fun w' hw => by go_simp; rfl) ?_
                | refine st_un rfl rfl rfl rfl (fun w' hw => by have x1 := (K0.out w' (below_then HB6.out HB6.out.size hw)); go_simp; rfl) ?_
                | refine st_un rfl rfl rfl rfl (fun w' hw => by have x1 := (K1.out w' (below_then HB6.out HB6.out.size hw)); go_simp; rfl) ?_)
              intro w7 hb7
              simp only [puts, Act.put, List.setIfInBounds_toArray, List.set_cons_zero, List.set_cons_succ]
              have HB7 := Aside0.mk (below_then HB6.out HB6.out.size hb7)
              have HRL := Aside0.mk (reads_of (Kd.C_below HL.out HB7.out))
              have hba := below_alloc (Below.refl w7.heap.size w7) (.cells #[] 3)
              have HRL2 := Aside0.mk (HRL.out.below hba)
              clear hb7 hba d1 d2 d3 d4 HB6 HRL
              go_wp2_with (at_builtin; refine print_append_row (w0 := w7) w7.heap.size rfl _ _ 23 3 .i64 8 rfl Try.underlying23 infoInt (by decide) (.slice (some ⟨w7.heap.size, 0, none⟩) 0 0) [] l (some ad) L c1 rfl rfl (World.ownsRow_made w7 #[] 0 (Nat.le_refl _) (by decide) rfl) (by have h := HRL2.out; rwa [← HLL.out] at h) (below_alloc (Below.refl _ _) _) (below_alloc (Below.refl _ _) _).size (by simp; omega) ?_; intro v1 w8 hown hB hg hat; have HO8 := Aside0.mk hown; have HB8 := Aside0.mk hB; clear hown hB hg hat)
              obtain ⟨g, cc, rfl, hIR⟩ := R_form (R_int (by have := HO8.out; rwa [List.nil_append] at this)) (by rw [← HLL.out]; omega)
              rw [← HLL.out] at hIR ⊢
              have HGB := Aside0.mk hIR.base
              have hlc : L ≤ cc := (Kd.R_reads' hIR).2.1
              have hIR0 := IR.below hIR (below_drew1 (Below.refl _ _))
              have hjl : j < l.length := by rw [← HLL.out]; exact hjL
              have hrun1 := hIR0.run_store j hjl ((yn : Nat) : Int)
              obtain ⟨hP1, hG1⟩ := hIR0.put j ((yn : Nat) : Int)
              have hrun2 := hP1.run_store (j + 1) (by rw [List.length_set, ← HLL.out]; exact hj1) ((xn : Nat) : Int)
              obtain ⟨hP2, hG2⟩ := hP1.put (j + 1) ((xn : Nat) : Int)
              have hS0 : Below w7.heap.size w8 w8.drew := below_drew1 (Below.refl _ _)
              have hS1 : Below w7.heap.size w8 (w8.drew.setCell ⟨g, j, none⟩ (.int .i64 ((yn : Nat) : Int))) := Below.grown hS0 hG1 (Nat.le_trans HB8.out.size hS0.size) (fun k hk => by cases hk; exact HGB.out)
              have hS2 : Below w7.heap.size w8 ((w8.drew.setCell ⟨g, j, none⟩ (.int .i64 ((yn : Nat) : Int))).setCell ⟨g, j + 1, none⟩ (.int .i64 ((xn : Nat) : Int))) := Below.grown hS1 hG2 (Nat.le_trans HB8.out.size hS1.size) (fun k hk => by cases hk; exact HGB.out)
              have HP2 := Aside0.mk hP2
              have HS2 := Aside0.mk hS2
              clear hIR hIR0 hP1 hG1 hP2 hG2 hjl HO8
              go_wp2_with fail
              refine wp_eff (S := fun w' => Below w7.heap.size w8 w') [(0, false), (1, false), (2, false), (3, false), (4, false), (5, false), (6, false), (7, false), (8, false), (9, false), (10, false), (11, false), (12, false), (13, false), (14, false), (15, true), (16, false), (17, true)] (by kernel_rfl) (by kernel_rfl) hS0 (fun _ _ d _ _ h => by cases d <;> exact h) ?_
              refine se_move rfl rfl rfl ?_
              refine se_move rfl rfl rfl ?_
              refine se_move rfl rfl rfl ?_
              refine se_move rfl rfl rfl ?_
              refine se_bin (v := .int .i64 ((j + 1 : Nat) : Int)) rfl rfl rfl rfl (fun w' hw => by go_simp) ?_
              refine se_move rfl rfl rfl ?_
              refine se_move rfl rfl rfl ?_
              refine se_bin (v := .int .i64 ((j + 1 : Nat) : Int)) rfl rfl rfl rfl (fun w' hw => by go_simp) ?_
              refine se_indexAddr (v := .pointer (some ⟨ad.block, ad.off + (j + 1), none⟩)) rfl rfl rfl rfl (fun w' hw => by go_simp; intro hc; exact absurd hc (by omega)) ?_
              refine se_un (v := .int .i64 ((yn : Nat) : Int)) rfl rfl rfl rfl rfl (fun w' hw => by have x1 := K1.out w' (Below.trans (below_then HB7.out HB7.out.size HB8.out) (Below.mono hw HB7.out.size)); go_simp) ?_
              refine se_move rfl rfl rfl ?_
              refine se_move rfl rfl rfl ?_
              refine se_indexAddr (v := .pointer (some (ad.add j))) rfl rfl rfl rfl (fun w' hw => by go_simp) ?_
              refine se_un (v := .int .i64 ((xn : Nat) : Int)) rfl rfl rfl rfl rfl (fun w' hw => by have x1 := K0.out w' (Below.trans (below_then HB7.out HB7.out.size HB8.out) (Below.mono hw HB7.out.size)); go_simp) ?_
              refine se_indexAddr (v := .pointer (some ⟨g, j, none⟩)) rfl rfl rfl rfl (fun w' hw => by go_simp) ?_
              refine se_store rfl rfl rfl rfl hrun1 hS1 ?_
              refine se_indexAddr (v := .pointer (some ⟨g, j + 1, none⟩)) rfl rfl rfl rfl (fun w' hw => by go_simp; intro hc; exact absurd hc (by omega)) ?_
              refine se_store rfl rfl rfl rfl hrun2 hS2 ?_
              intro _
              simp only [SeqE, puts, Act.put, List.setIfInBounds_toArray, List.set_cons_zero, List.set_cons_succ]
              clear hrun1 hrun2 hS0 hS1 hS2
              generalize ((w8.drew.setCell ⟨g, j, none⟩ (.int .i64 ((yn : Nat) : Int))).setCell ⟨g, j + 1, none⟩ (.int .i64 ((xn : Nat) : Int))) = w9 at HP2 HS2 ⊢
              have HB9 := Aside0.mk (Below.trans (below_then HB7.out HB7.out.size HB8.out) (Below.mono HS2.out HB7.out.size))
              have HMC := Aside0.mk (show Kd.C kI w9 (some ⟨g, 0, none⟩) ((l.set j ((yn : Nat) : Int)).set (j + 1) ((xn : Nat) : Int)).length ((l.set j ((yn : Nat) : Int)).set (j + 1) ((xn : Nat) : Int)) from HP2.out.C)
              obtain ⟨b, hb1, hb2⟩ := swap_eq HH.out HQ.out HN12.out u HUL.out HUA.out j hju (by rw [← HXN.out.1, ← HXN.out.2]; exact HNE.out)
              rw [← HXN.out.1, ← HXN.out.2, ← HLU.out] at hb1
              rw [← HXN.out.1, ← HXN.out.2, ← HA.out] at hb2
              have hml : ((l.set j ((yn : Nat) : Int)).set (j + 1) ((xn : Nat) : Int)).length = L := by rw [List.length_set, List.length_set]; exact HLL.out.symm
              have HB2' := Aside0.mk hb2
              have hal := alike_calls 1000 w9 (some ad) c1 l (some ⟨g, 0, none⟩) cc _ A2 c2 dep a b (Kd.C_below HL.out HB9.out) (by rw [← HLL.out]; exact lc1) HMC.out (by rw [hml]; exact hlc) (Kd.C_below HD.out HB9.out) lc2 HN.out hb1 (fun r hr => by have := HF3.out r hr; omega)
              rw [hml, ← HLL.out, hb2] at hal
              have HAL := Aside0.mk hal
              clear hml hal hb1 hb2 HMC HP2
              go_wp2_with fail
              refine HAL.out.mono ?_
              rintro en w10 ⟨rfl, hb⟩
              have HB10 := Aside0.mk (below_then HB9.out HB9.out.size hb)
              have hxd := HUA.out xn (by rw [HXN.out.1]; exact List.getElem_mem _)
              have hyd := HUA.out yn (by rw [HXN.out.2]; exact List.getElem_mem _)
              obtain ⟨dd, dr, dc, rfl, q0, q1⟩ := at_dep HD.out HQ.out xn yn hxd hyd
              have Q0 := Aside0.mk (show ∀ w', Below w.heap.size w w' → w'.cell? (dd.add xn) = some (.slice (some dr) dep.length dc) from fun w' hb => (hb.cell (World.block_lt_of_cell? w _ q0)).trans q0)
              have Q1 := Aside0.mk (show ∀ w', Below w.heap.size w w' → w'.cell? (dr.add yn) = some (.bool (dN dep xn yn)) from fun w' hb => (hb.cell (World.block_lt_of_cell? w _ q1)).trans q1)
              have z4 : ((xn : Nat) : Int) < (dep.length : Int) := by omega
              have z5 : ((yn : Nat) : Int) < (dep.length : Int) := by omega
              clear hb HAL HB9 q0 q1 HB2'
              generalize dN dep xn yn = bb at Q1 ⊢
              go_wp2_with fail
              refine wp_eff (S := fun w' => Below w.heap.size w w') [(0, true), (1, false), (2, false), (3, false), (4, false), (5, false), (6, false), (7, false), (8, false), (9, false), (10, false), (11, false), (12, false), (13, false), (14, false), (15, false), (16, false), (17, false), (18, false), (19, false), (20, false), (21, false), (22, false), (23, false), (24, false)] (by kernel_rfl) (by kernel_rfl) (below_drew1 HB10.out) (fun _ _ d _ _ h => by cases d <;> exact h) ?_
              refine se_call (vs := []) rfl rfl Try.func16 (by kernel_rfl) rfl (by kernel_rfl) ?_
              refine (begun_calls _).mono ?_
              rintro e' w11 ⟨rfl, hb⟩
              have hb11 := below_then (below_drew1 HB10.out) (below_drew1 HB10.out).size hb
              refine ⟨_, rfl, hb11, ?_⟩
              have HB11 := Aside0.mk hb11
              clear hb hb11
              refine se_move rfl rfl rfl ?_
              refine se_move rfl rfl rfl ?_
              refine se_bin (v := .bool true) rfl rfl rfl rfl (fun w' hw => by go_simp) ?_
              refine se_pickT rfl rfl rfl rfl ?_
              refine se_move rfl rfl rfl ?_
              refine se_move rfl rfl rfl ?_
              refine se_move rfl rfl rfl ?_
              refine se_move rfl rfl rfl ?_
              refine se_move rfl rfl rfl ?_
              refine se_indexAddr (v := .pointer (some (ad.add j))) rfl rfl rfl rfl (fun w' hw => by go_simp) ?_
              refine se_un (v := .int .i64 ((xn : Nat) : Int)) rfl rfl rfl rfl rfl (fun w' hw => by have x1 := K0.out w' hw; go_simp) ?_
              refine se_indexAddr (v := .pointer (some (dd.add xn))) rfl rfl rfl rfl (fun w' hw => by go_simp) ?_
              refine se_un (v := .slice (some dr) dep.length dc) rfl rfl rfl rfl rfl (fun w' hw => by have x1 := Q0.out w' hw; go_simp) ?_
              refine se_move rfl rfl rfl ?_
              refine se_move rfl rfl rfl ?_
              refine se_bin (v := .int .i64 ((j + 1 : Nat) : Int)) rfl rfl rfl rfl (fun w' hw => by go_simp) ?_
              refine se_indexAddr (v := .pointer (some ⟨ad.block, ad.off + (j + 1), none⟩)) rfl rfl rfl rfl (fun w' hw => by go_simp; intro hc; exact absurd hc (by omega)) ?_
              refine se_un (v := .int .i64 ((yn : Nat) : Int)) rfl rfl rfl rfl rfl (fun w' hw => by have x1 := K1.out w' hw; go_simp) ?_
              refine se_indexAddr (v := .pointer (some (dr.add yn))) rfl rfl rfl rfl (fun w' hw => by go_simp) ?_
              refine se_un (v := .bool bb) rfl rfl rfl rfl rfl (fun w' hw => by have x1 := Q1.out w' hw; go_simp) ?_
              refine se_un (v := .bool (!bb)) rfl rfl rfl rfl rfl (fun w' hw => by go_simp) ?_
              refine se_bin (v := .bool true) rfl rfl rfl rfl (fun w' hw => by cases bb <;> go_simp) ?_
              refine se_pickT rfl rfl rfl rfl ?_
              refine se_assign rfl rfl rfl ?_
              intro hbz
              simp only [SeqE, puts, Act.put, List.setIfInBounds_toArray, List.set_cons_zero, List.set_cons_succ]
              have HBZ := Aside0.mk hbz
              clear hbz
              go_wp2
              exact bodyPost_ret (v := .bool true) (by simp [results, Try.f7, go_sem]) rfl ⟨rfl, HBZ.out⟩
theorem schedSwaps_row (w : World) (A1 : Option Addr) (c1 : Nat) (l : List Int) (lc1 : l.length ≤ c1) (h1 : Kd.C kI w A1 l.length l) (b1 : True) (A2 : Option Addr) (c2 : Nat) (dep : List (List Bool)) (lc2 : dep.length ≤ c2) (h2 : Kd.C kB w A2 dep.length dep) (b2 : True) (i : Int) (wi : (Lit.int .i64 i).wf = true) :
    Calls Try.prog 7 #[.slice A1 l.length c1, .slice A2 dep.length c2, .int .i64 i] w fun e w' => e = .returned (.bool true) ∧ Below w.heap.size w w' :=
  schedSwaps_walk w A1 c1 l lc1 h1 A2 c2 dep lc2 h2 i
end Go.Proofs.Ytblalidpeccabac.Sd
