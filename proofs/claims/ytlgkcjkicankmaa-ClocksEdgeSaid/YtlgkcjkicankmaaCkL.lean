/- ClocksEdge: its walk, and its row. -/
import Derived.Test.YtlgkcjkicankmaaCkJ
namespace Go.Proofs.Ytlgkcjkicankmaa.Ck
open Go Go.RowKit Go.Maps Go.Proofs.YtlgkcjkicankmaaW Go.Proofs.YtlgkcjkicankmaaW.PrintWords Go.Proofs.YtlgkcjkicankmaaW.PrintLast Go.Proofs.YtlgkcjkicankmaaW.PrintMore Go.Proofs.Ytlgkcjkicankmaa.PLockupEither Go.Proofs.Ytlgkcjkicankmaa.Bs Go.Proofs.Ytlgkcjkicankmaa.RegionVal Go.Proofs.Ytlgkcjkicankmaa.Lk
open Go.Lib hiding intOf
set_option linter.unusedVariables false
set_option linter.unusedSimpArgs false
/-- who leads there is ahead -/
theorem bef_edge {l : List CE} {th : Nat} {E : List S32} (hE : IsE l E) (ht : ∀ x ∈ l, 0 ≤ x.t ∧ x.t < (th : Int)) {i j : Nat} (h : (⟨(i : Int), (j : Int)⟩ : S32) ∈ E) : bef l th E i j = true := by
  have hb := hE.bound _ h
  simp only at hb
  exact bef_true.2 ⟨by omega, (clk_of l th E hE ht).edge h⟩
/-- more events behind change nothing -/
theorem bef_prefix {l m : List CE} {th : Nat} {E F : List S32} (hE : IsE l E) (hF : IsE (l ++ m) F) {i j : Nat} (hi : i < l.length) (hj : j < l.length) : bef l th E i j = bef (l ++ m) th F i j := by
  unfold bef
  rw [cl_prefix hE hF hi, cl_prefix hE hF hj]
  have : thr l i = thr (l ++ m) i := by
    unfold thr
    rw [show (l ++ m).getD i zC = l.getD i zC by simp [List.getD_eq_getElem?_getD, List.getElem?_append_left hi]]
  rw [this]
theorem chk_take {l : List CE} {T : Int} (n : Nat) (h : chkF l T = 0) : chkF (l.take n) T = 0 := by
  obtain ⟨hl, th, hT, hth, ht⟩ := chk_ok h
  unfold chkF
  have h1 : ¬ 200 < (l.take n).length := by rw [List.length_take]; omega
  have h2 : ¬ (T < 0 ∨ 8 < T) := by omega
  have h3 : (l.take n).any (badT T) = false := List.any_eq_false.2 (fun x hx => by
    have := ht x (List.mem_of_mem_take hx)
    unfold badT
    simp
    omega)
  rw [if_neg h1, if_neg h2, h3]
  rfl
section
variable {P : Program} {L : List Oper} {S : World → Prop} {a0 : Act} {K : List (Nat × Value) → Prop} {env : List (Nat × Value)} {rest : List Oper} {d : Nat} {T : TypeId} {pos : String} {after : Array Edge} {g : Option (Nat × Bool)}
/-- a load whose run is told -/
theorem st_load {t : TypeId} {x : Operand} {vx v : Value} (hg : want L a0 env g = some true) (hx : rdo a0 env x = some vx)
    (hr : ∀ w, S w → Sem.run P (Instr.loadAt t vx) w = .ok v w) (h : SeqOk P L.toArray S a0 K rest ((d, v) :: env)) : SeqOk P L.toArray S a0 K (⟨some d, .load t x, T, pos, after, g⟩ :: rest) env :=
  st_gen hg (fun w hw => by
    simp only [execOp, ev_of hx, Sem.run_bind]
    rw [hr w hw]
    rfl) h
end
theorem ck_l0 {w : World} {ad : Addr} {x : Int} (h : w.cell? ad = some (.int .i64 x)) : Sem.run Try.prog (Instr.loadAt 3 (.pointer (some ad))) w = .ok (.int .i64 x) w := by
  go_simp
set_option maxHeartbeats 16000000 in
set_option maxRecDepth 100000 in
theorem clocksEdge_walk (w : World) (A : Option Addr) (c : Nat) (l0 : List CE) (hr : Kd.C kC w A l0.length l0) (hc : l0.length ≤ c) (T i j : Int) :
    Calls Try.prog 8 #[.slice A l0.length c, .int .i64 T, .int .i64 i, .int .i64 j] w fun e w' => e = .returned (.bool true) ∧ Below w.heap.size w w' := by
  have HR := Aside0.mk hr
  clear hr
  go_enter Try.func8, Try.ntmps8
  go_wp2_with fail
  refine (cbegun_calls w).mono ?_
  rintro e w1 ⟨rfl, hb1⟩
  have HB1 := Aside0.mk hb1
  have HR1 := Aside0.mk (Kd.C_below HR.out hb1)
  clear hb1 HR
  go_wp2_with fail
  refine (soon_calls w1 A c l0 HR1.out hc).mono ?_
  rintro e w2 ⟨l, rfl, hlc, hl60, hr2, hb2⟩
  have HB2 := Aside0.mk (below_then HB1.out HB1.out.size hb2)
  have HR2 := Aside0.mk hr2
  clear hb2 hr2 HR1 HB1 hc
  go_wp2_with fail
  refine (Edges_calls w2 A c l T HR2.out hlc).mono ?_
  rintro e w3 ⟨v3, rfl, hok, hno, hb3⟩
  have HB3 := Aside0.mk (below_then HB2.out HB2.out.size hb3)
  have HR3 := Aside0.mk (Kd.C_below HR2.out hb3)
  clear hb3 HR2 HB2
  by_cases hck : chkF l T = 0
  · obtain ⟨E, hE, hRE⟩ := hok hck
    obtain ⟨A5, c5, rfl, hc5, hC5⟩ := Kd.R_reads hRE
    obtain ⟨hl, th, hT, hth, ht⟩ := chk_ok hck
    subst hT
    have HE := Aside0.mk hE
    have HC5 := Aside0.mk hC5
    have HT := Aside0.mk ht
    have HCK := Aside0.mk hck
    rw [hck]
    have hEl := hC5.2.1
    clear hok hno hE hRE hC5 ht hck
    go_wp2_with fail
    go_loopw [11] (fun v11 wr => ∃ n : Nat, v11 = .int .i64 (n : Int) ∧ n ≤ E.length ∧ Aside0 (Below w3.heap.size w3 wr)) (fun v11 _ => E.length - (intOf v11).toNat)
    case atStart => exact ⟨0, rfl, Nat.zero_le _, ⟨Below.refl _ _⟩⟩
    case round =>
      obtain ⟨n, rfl, hn, HB⟩ := hrel
      by_cases hlt : n < E.length
      · have hlt1 : (n : Int) < (E.length : Int) := by omega
        obtain ⟨ad, hA5⟩ : ∃ ad, A5 = some ad := by
          obtain ⟨ad, h, _⟩ := HC5.out.2.2 (show 0 < E.length by omega)
          exact ⟨ad, h⟩
        subst hA5
        have hbd := HE.out.bound E[n] (List.getElem_mem hlt)
        obtain ⟨x, hx⟩ : ∃ x : Nat, (x : Int) = E[n].f0 := ⟨E[n].f0.toNat, by omega⟩
        obtain ⟨y, hy⟩ : ∃ y : Nat, (y : Int) = E[n].f1 := ⟨E[n].f1.toNat, by omega⟩
        have hmem : (⟨(x : Int), (y : Int)⟩ : S32) ∈ E := by
          rw [show (⟨(x : Int), (y : Int)⟩ : S32) = E[n] from s32_ext hx hy]
          exact List.getElem_mem hlt
        have hbt := bef_edge HE.out HT.out hmem
        have HC0 := Aside0.mk (fun (W : World) (hb : Below w3.heap.size w3 W) => ck_load0 (Kd.C_below HC5.out hb) hlt hx)
        have HC1 := Aside0.mk (fun (W : World) (hb : Below w3.heap.size w3 W) => ck_load1 (Kd.C_below HC5.out hb) hlt hy)
        have hp0 : pairF l (th : Int) (x : Int) (y : Int) = 0 := pair_of HCK.out (by omega) (by omega)
        have HBF := Aside0.mk (show ∀ W : World, Below w3.heap.size w3 W → Calls Try.prog 16 #[.slice A l.length c, .int .i64 (th : Int), .int .i64 (x : Int), .int .i64 (y : Int)] W fun e w' => e = .returned (.tuple #[.bool true, .int .i64 0]) ∧ Below W.heap.size W w' from fun W hW => by
          refine (Before_calls W A c l (th : Int) (x : Int) (y : Int) (Kd.C_below HR3.out hW) hlc).mono ?_
          rintro e w' ⟨b, rfl, _, hb, hbel⟩
          obtain ⟨E2, hE2, hb2⟩ := hb hp0
          obtain rfl := hE2.uniq HE.out
          have hb3 : b = bef l th E2 x y := hb2
          rw [hb3, hbt, hp0]
          exact ⟨rfl, hbel⟩)
        have hxy : ¬ ((y : Int) ≤ (x : Int)) := by omega
        have dxy : decide ((y : Int) ≤ (x : Int)) = false := decide_eq_false hxy
        clear hbd hx hy hmem hbt hp0
        go_wp2_with fail
        have hbd := below_drew1 HB.out
        refine wp_eff (S := fun w' => Below w3.heap.size w3 w') [(0, false), (1, false), (2, false), (3, false), (4, false), (5, false), (6, false), (7, false), (8, false), (9, false), (10, false), (11, false), (12, true), (13, false), (14, false), (15, false), (16, false), (17, false)] (by kernel_rfl) (by kernel_rfl) hbd (fun _ _ d _ _ h => by cases d <;> exact h) ?_
        refine se_move rfl rfl rfl ?_
        refine se_move rfl rfl rfl ?_
        refine se_move rfl rfl rfl ?_
        refine se_move rfl rfl rfl ?_
        refine se_indexAddr (v := .pointer (some (ad.add (n * 2)))) rfl rfl rfl rfl (fun w' hw => by go_simp) ?_
        refine se_un (v := .pointer (some (ad.add (n * 2)))) rfl rfl rfl rfl rfl (fun w' hw => by go_simp) ?_
        refine se_load (v := .int .i64 (x : Int)) rfl rfl rfl (fun w' hw => ck_l0 (HC0.out w' hw)) ?_
        refine se_move rfl rfl rfl ?_
        refine se_move rfl rfl rfl ?_
        refine se_indexAddr (v := .pointer (some (ad.add (n * 2)))) rfl rfl rfl rfl (fun w' hw => by go_simp) ?_
        refine se_un (v := .pointer (some ⟨(ad.add (n * 2)).block, (ad.add (n * 2)).off + 1, none⟩)) rfl rfl rfl rfl rfl (fun w' hw => by go_simp) ?_
        refine se_load (v := .int .i64 (y : Int)) rfl rfl rfl (fun w' hw => ck_l0 (HC1.out w' hw)) ?_
        refine se_call (vs := [.slice A l.length c, .int .i64 (th : Int), .int .i64 (x : Int), .int .i64 (y : Int)]) rfl rfl Try.func16 (by kernel_rfl) rfl (by kernel_rfl) ?_
        refine (HBF.out _ hbd).mono ?_
        rintro e w5 ⟨rfl, hb5⟩
        have hb6 := below_then hbd hbd.size hb5
        refine ⟨_, rfl, hb6, ?_⟩
        refine se_move rfl rfl rfl ?_
        refine se_un (v := .bool true) rfl rfl rfl rfl rfl (fun w' hw => by go_simp) ?_
        refine se_un (v := .int .i64 0) rfl rfl rfl rfl rfl (fun w' hw => by go_simp) ?_
        refine se_assign rfl rfl rfl ?_
        refine se_assign rfl rfl rfl ?_
        intro _
        have HB6 := Aside0.mk hb6
        clear hbd hb5 hb6 HB
        simp only [puts, Act.put, List.setIfInBounds_toArray, List.set_cons_zero, List.set_cons_succ]
        go_wp2_with fail
        refine wp_val (S := fun w' => Below w3.heap.size w3 w') (by kernel_rfl) (by kernel_rfl) (below_drew1 HB6.out) ?_
        repeat (first
          | refine st_bin (vx := .int .i64 (x : Int)) (vy := .int .i64 (y : Int)) (v := .bool false) rfl rfl rfl (fun w' hw => by go_simp; omega) ?_
          | refine st_skip rfl ?_
          | refine st_move rfl rfl ?_
          | refine st_assign rfl rfl ?_
          | refine st_pickT rfl rfl rfl ?_
          | refine st_pickF rfl rfl rfl ?_
          | refine st_bin rfl rfl rfl (fun w' hw => by go_simp; rfl) ?_
          | refine st_indexAddr rfl rfl rfl (fun w' hw => by go_simp; rfl) ?_
          | refine st_un rfl rfl rfl rfl (fun w' hw => by go_simp; rfl) ?_
          | refine st_builtin rfl rfl (fun w' hw => by go_simp; rfl) ?_
          | refine st_slice rfl rfl rfl rfl rfl (fun w' hw => by go_simp; rfl) ?_
          | refine st_load (v := .int .i64 (x : Int)) rfl rfl (fun w' hw => ck_l0 (HC0.out w' hw)) ?_
          | refine st_load (v := .int .i64 (y : Int)) rfl rfl (fun w' hw => ck_l0 (HC1.out w' hw)) ?_)
        intro w7 hw7
        have HB7 := Aside0.mk hw7
        clear hw7 HB6
        simp only [puts, Act.put, List.setIfInBounds_toArray, List.set_cons_zero, List.set_cons_succ]
        go_wp2
        go_roundw
        case rel => exact ⟨n + 1, by go_num, hlt, HB7⟩
        case measure => simp [intOf]; omega
      · have HBW := Aside0.mk (below_then HB3.out HB3.out.size HB.out)
        have HRW := Aside0.mk (Kd.C_below HR3.out HB.out)
        have hle : E.length ≤ n := by omega
        clear hn hlt HB HB3 HR3 HC5
        by_cases hv : 0 ≤ i ∧ i ≤ j ∧ j < (l.length : Int)
        · obtain ⟨hv0, hv1, hv2⟩ := hv
          obtain ⟨i', hi'⟩ : ∃ i' : Nat, i = (i' : Int) := ⟨i.toNat, by omega⟩
          obtain ⟨j', hj'⟩ : ∃ j' : Nat, j = (j' : Int) := ⟨j.toNat, by omega⟩
          subst hi' hj'
          have hi2 : i' < l.length := by omega
          have hj2 : j' < l.length := by omega
          have hml : (l.take (j' + 1)).length = j' + 1 := by rw [List.length_take]; omega
          have hp0 : pairF l (th : Int) (i' : Int) (j' : Int) = 0 := pair_of HCK.out (by omega) (by omega)
          have hp1 : pairF (l.take (j' + 1)) (th : Int) (i' : Int) (j' : Int) = 0 := pair_of (chk_take _ HCK.out) (by rw [hml]; omega) (by rw [hml]; omega)
          have hj200 : (j' : Int) < 200 := by omega
          have hjc : (j' : Int) + 1 ≤ (c : Int) := by omega
          have hw1 : IntKind.i64.wrap ((j' : Int) + 1) = (j' : Int) + 1 := by rw [IntKind.wrap_i64]; omega
          have hn1 : ((j' : Int) + 1).toNat = j' + 1 := by omega
          have HP0 := Aside0.mk hp0
          have HP1 := Aside0.mk hp1
          have HML := Aside0.mk hml
          have HBA := Aside0.mk (Before_calls wr A c l (th : Int) (i' : Int) (j' : Int) HRW.out hlc)
          rw [HP0.out] at HBA
          clear hp0 hp1 hml hn1
          go_wp2_with fail
          refine HBA.out.mono ?_
          rintro e w5 ⟨b1, rfl, _, hb1E, hb5⟩
          obtain ⟨E2, hE2, hb1⟩ := hb1E trivial
          obtain rfl := hE2.uniq HE.out
          have HBE1 := Aside0.mk (show b1 = bef l th E2 i' j' from hb1)
          have HB5 := Aside0.mk (below_then HBW.out HBW.out.size hb5)
          have HRT := Aside0.mk (Kd.C_take (Kd.C_below HRW.out hb5) (m := j' + 1) (by omega))
          have HBB := Aside0.mk (Before_calls w5 A c (l.take (j' + 1)) (th : Int) (i' : Int) (j' : Int) HRT.out (by rw [HML.out]; omega))
          rw [HP1.out, HML.out] at HBB
          clear hb1E hE2 hb1 hb5 HBA HRW HBW HRT
          go_wp2_with fail
          refine HBB.out.mono ?_
          rintro e w6 ⟨b2, rfl, _, hb2E, hb6⟩
          obtain ⟨E3, hE3, hb2⟩ := hb2E trivial
          have HBE2 := Aside0.mk (show b2 = bef (l.take (j' + 1)) th E3 i' j' from hb2)
          have HEQ := Aside0.mk (show b1 = b2 by
            have hE4 : IsE (l.take (j' + 1) ++ l.drop (j' + 1)) E2 := by rw [List.take_append_drop]; exact HE.out
            have h := bef_prefix (th := th) hE3 hE4 (i := i') (j := j') (by rw [HML.out]; omega) (by rw [HML.out]; omega)
            rw [List.take_append_drop] at h
            rw [HBE1.out, HBE2.out, h])
          have HB6 := Aside0.mk (below_then HB5.out HB5.out.size hb6)
          have d5 : (b1 == b2) = true := by rw [HEQ.out]; cases b2 <;> rfl
          clear hb2E hE3 hb2 hb6 HBB HB5 HBE1 HBE2
          go_wp2_with fail
          refine (cbegun_calls _).mono ?_
          rintro e w8 ⟨rfl, hb8⟩
          have HB8 := Aside0.mk (below_then HB6.out HB6.out.size hb8)
          clear hb8
          go_wp2
          exact bodyPost_ret (v := .bool true) (by simp [results, Try.f8, go_sem]) rfl ⟨rfl, HB8.out⟩
        · have HX : i < 0 ∨ (0 ≤ i ∧ j < i) ∨ (0 ≤ i ∧ i ≤ j ∧ (l.length : Int) ≤ j) := by omega
          rcases HX with h1 | ⟨h1, h2⟩ | ⟨h1, h2, h3⟩
          all_goals
            clear hv
            go_wp2_with fail
            refine (cbegun_calls _).mono ?_
            rintro e w8 ⟨rfl, hb8⟩
            have HB8 := Aside0.mk (below_then HBW.out HBW.out.size hb8)
            clear hb8
            go_wp2
            exact bodyPost_ret (v := .bool true) (by simp [results, Try.f8, go_sem]) rfl ⟨rfl, HB8.out⟩
  · obtain rfl := hno hck
    generalize chkF l T = q at hck ⊢
    have d1 : (q != 0) = true := bne_iff_ne.2 hck
    clear hok hno hck
    go_wp2_with fail
    refine (cbegun_calls _).mono ?_
    rintro e w8 ⟨rfl, hb8⟩
    have HB8 := Aside0.mk (below_then HB3.out HB3.out.size hb8)
    clear hb8
    go_wp2
    exact bodyPost_ret (v := .bool true) (by simp [results, Try.f8, go_sem]) rfl ⟨rfl, HB8.out⟩
theorem clocksEdge_row (w : World) (A : Option Addr) (c : Nat) (l : List CE) (lc : l.length ≤ c) (h : Kd.C kC w A l.length l) (_b : True) (T : Int) (_wT : (Lit.int .i64 T).wf = true) (i : Int) (_wi : (Lit.int .i64 i).wf = true) (j : Int) (_wj : (Lit.int .i64 j).wf = true) :
    Calls Try.prog 8 #[.slice A l.length c, .int .i64 T, .int .i64 i, .int .i64 j] w fun e w' => e = .returned (.bool true) ∧ Below w.heap.size w w' :=
  clocksEdge_walk w A c l h lc T i j
end Go.Proofs.Ytlgkcjkicankmaa.Ck
