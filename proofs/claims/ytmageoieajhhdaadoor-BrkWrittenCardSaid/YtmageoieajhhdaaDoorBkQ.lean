/- Conditions: write of two operands; Write, walked. -/
import Derived.Test.YtmageoieajhhdaaDoorBkO
namespace Go.Proofs.YtmageoieajhhdaaDoor.Bk
open Go Go.RowKit Go.Proofs.YtmageoieajhhdaaDoorW.PrintWords Go.Proofs.YtmageoieajhhdaaDoorW.PrintLast Go.Proofs.YtmageoieajhhdaaDoorW.PrintMore Go.Proofs.YtmageoieajhhdaaDoor.PBrkWritten Go.Proofs.YtmageoieajhhdaaDoor.RegionVal
open Go.Lib hiding intOf
set_option linter.unusedVariables false
set_option linter.unusedSimpArgs false
theorem run_load5 {w : World} {ad : Addr} {a0 a1 a2 a3 a4 : Value} (e0 : w.cell? ad = some a0) (e1 : w.cell? ⟨ad.block, ad.off + 1, none⟩ = some a1) (e2 : w.cell? ⟨ad.block, ad.off + 2, none⟩ = some a2) (e3 : w.cell? ⟨ad.block, ad.off + 3, none⟩ = some a3) (e4 : w.cell? ⟨ad.block, ad.off + 4, none⟩ = some a4) :
    Sem.run Tryd.prog (Instr.loadAt 52 (.pointer (some ad))) w = .ok (.agg #[a0, a1, a2, a3, a4]) w := by
  go_simp
theorem str_add (x y : Bs) (hx : x.length ≤ 100000) (hy : y.length ≤ 100000) (w : World) : (Op.stringOp .add (bs x) (bs y)).run Tryd.prog w = .ok (.string (bs (x ++ y))) w := by
  rw [run_string_add_sum w _ _ (by rw [bs_size, bs_size]; omega), bs_app]
theorem cell_far {W W1 : World} (hb : Below W.heap.size W W1) {p : Addr} {v : Value} (h : W.cell? p = some v) : W1.cell? p = some v := (hb.cell (World.block_lt_of_cell? W _ h)).trans h
set_option maxHeartbeats 8000000 in
set_option maxRecDepth 100000 in
theorem write_bin (op : UInt8) (a b : Ex) (hop : ∃ k, k ≤ 4 ∧ op ∈ ranksF k) (iha : WrOK a) (ihb : WrOK b) : WrOK (.bin op a b) := by
  intro W vx lv hlv hlen hx ht
  obtain ⟨A, c, rfl, hC⟩ := hx.open
  have HOP := Aside0.mk (isOp2_of hop)
  obtain ⟨r, hr4, hrm⟩ := hop
  have hrk := rank_of hr4 hrm
  have hlen2 : (wr a (if r = 2 then 3 else r)).length + (wr b (if r = 2 then 3 else r + 1)).length + 3 ≤ 1000 := by
    have h1 : (wr (.bin op a b) 6).length = (if r = 2 then wr a 3 ++ op :: wr b 3 else wr a r ++ op :: wr b (r + 1)).length + 2 := by
      show (par (decide (rankF op < 6)) _).length = _
      rw [hrk, par_len, decide_eq_true (by omega)]
      rfl
    rw [h1] at hlen
    split at hlen <;> rename_i hr2
    · rw [if_pos hr2, if_pos hr2]
      simp only [List.length_append, List.length_cons] at hlen
      omega
    · rw [if_neg hr2, if_neg hr2]
      simp only [List.length_append, List.length_cons] at hlen
      omega
  have hla0 := (wr_mono a (if r = 2 then 3 else r) 6 (by split <;> omega)).2
  have hlb0 := (wr_mono b (if r = 2 then 3 else r + 1) 6 (by split <;> omega)).2
  have hla : (wr a 6).length ≤ 1000 := by omega
  have hlb : (wr b 6).length ≤ 1000 := by omega
  have hcl0 : (wr a (if r = 2 then 3 else r)).length ≤ 1000 ∧ (wr b (if r = 2 then 3 else r + 1)).length ≤ 1000 := by omega
  have d1 : ((op.toNat : Int) == 110) = false := by rcases HOP.out with h | h | h | h | h | h | h <;> rw [h] <;> rfl
  have d2 : ((op.toNat : Int) == 118) = false := by rcases HOP.out with h | h | h | h | h | h | h <;> rw [h] <;> rfl
  have d3 : ((op.toNat : Int) == 126) = false := by rcases HOP.out with h | h | h | h | h | h | h <;> rw [h] <;> rfl
  have d4 : ((r : Int) == 5) = false := beq_eq_false_iff_ne.2 (by omega)
  have z1 : (r : Int) ≤ 4 := by omega
  have HT := Aside0.mk ht
  have HC := Aside0.mk hC
  have IHA := Aside0.mk iha
  have IHB := Aside0.mk ihb
  have HRK := Aside0.mk hrk
  clear ht hC iha ihb hx hlen hlen2 hla0 hlb0 hrm
  obtain ⟨res, hres⟩ : ∃ res, wr (.bin op a b) lv = res := ⟨_, rfl⟩
  rw [hres]
  have HRES := Aside0.mk (show par (decide (r < lv)) (if r = 2 then wr a 3 ++ op :: wr b 3 else wr a r ++ op :: wr b (r + 1)) = res from by rw [← hres]; show _ = par (decide (rankF op < lv)) (if rankF op = 2 then _ else wr a (rankF op) ++ op :: wr b (rankF op + 1)); rw [hrk])
  clear hres hrk
  go_enter Tryd.func21, Tryd.ntmps21
  simp only [toS]
  go_upto_region 4 with (first
    | ((with_reducible refine gate_ (.box 52 (.tmp 0)) rfl ?_); refine box_event ?hg (N := 2) ?hd (cs := #[.int .u8 (op.toNat : Int), .int .i64 0, .string (⟨#[]⟩ : ByteArray), .slice A 2 c, .int .i64 (Ex.deep (.bin op a b))]) (t := 52) ?hr ?_; (case hd => rfl); (case hg => rfl); (case hr => first | (go_simp; done) | (go_simp; rfl)); intro b2 hb2 W1 hbx hbl; have k0 := blk_cell hbx 0; simp only [List.getElem?_toArray, List.getElem?_cons_zero, List.getElem?_cons_succ] at k0; replace hb2 := Aside0.mk hb2; replace hbx := Aside0.mk hbx; replace hbl := Aside0.mk hbl)
    | (go_at_call 31; refine (rank_calls op _).mono ?_; rintro e W2 ⟨rfl, hb2'⟩; rw [HRK.out]; replace hb2' := Aside0.mk hb2')
    | fail)
  have HB2 := Aside0.mk (below_step hbl.out hb2'.out)
  have k0 : ∀ w', Below W2.heap.size W2 w' → w'.cell? ⟨b2, 0, none⟩ = some (.int .u8 (op.toNat : Int)) := fun w' hw => cell_far hw ((blk_cell (blk_below hbx.out hb2'.out) 0).trans rfl)
  have k3 : ∀ w', Below W2.heap.size W2 w' → w'.cell? ⟨b2, 3, none⟩ = some (.slice A 2 c) := fun w' hw => cell_far hw ((blk_cell (blk_below hbx.out hb2'.out) 3).trans rfl)
  have k00 := k0 W2 (Below.refl _ _)
  have HK0 := Aside0.mk k0
  have HK3 := Aside0.mk k3
  clear k0 k3
  obtain ⟨ad, A3, c3, rfl, e0, e1, e2, e3, e4, hka⟩ := kid0 (Kd.C_below HC.out HB2.out) a rfl
  obtain ⟨ad', A5, c5, he, f0, f1, f2, f3, f4, hkb⟩ := kid_at (Kd.C_below HC.out HB2.out) b 1 rfl
  cases he
  obtain ⟨va, hva⟩ : ∃ va, (.agg #[.int .u8 (toS a).f0, .int .i64 (toS a).f1, .string (toS a).f2, .slice A3 (toS a).f3.length c3, .int .i64 (toS a).f4] : Value) = va := ⟨_, rfl⟩
  obtain ⟨vb, hvb⟩ : ∃ vb, (.agg #[.int .u8 (toS b).f0, .int .i64 (toS b).f1, .string (toS b).f2, .slice A5 (toS b).f3.length c5, .int .i64 (toS b).f4] : Value) = vb := ⟨_, rfl⟩
  have la : ∀ w', Below W2.heap.size W2 w' → Sem.run Tryd.prog (Instr.loadAt 52 (.pointer (some ad))) w' = .ok va w' := fun w' hw => by rw [← hva]; exact run_load5 (cell_far hw e0) (cell_far hw e1) (cell_far hw e2) (cell_far hw e3) (cell_far hw e4)
  have lb : ∀ w', Below W2.heap.size W2 w' → Sem.run Tryd.prog (Instr.loadAt 52 (.pointer (some (ad.add 5)))) w' = .ok vb w' := fun w' hw => by rw [← hvb]; exact run_load5 (cell_far hw f0) (cell_far hw f1) (cell_far hw f2) (cell_far hw f3) (cell_far hw f4)
  rw [hva] at hka
  rw [hvb] at hkb
  have HKA := Aside0.mk hka
  have HKB := Aside0.mk hkb
  have HLA := Aside0.mk la
  have HLB := Aside0.mk lb
  clear e0 e1 e2 e3 e4 f0 f1 f2 f3 f4 hka hkb hva hvb la lb hbx hbl hb2 hb2'
  by_cases hr2 : r = 2
  · subst hr2
    go_upto_region 13 with (fail)
    have k0 := HK0.out
    have k3 := HK3.out
    have la := HLA.out
    have lb := HLB.out
    have hadd1 := str_add (wr a 3) [op] (by have := hcl0.1; rw [if_pos rfl] at this; omega) (by simp)
    have hadd2 := str_add (wr a 3 ++ [op]) (wr b 3) (by have := hcl0.1; rw [if_pos rfl] at this; rw [List.length_append, List.length_singleton]; omega) (by have := hcl0.2; rw [if_pos rfl] at this; omega)
    rw [List.append_assoc] at hadd2
    refine wp_eff (S := fun w' => Below W2.heap.size W2 w') [(0, false), (1, false), (2, false), (3, false), (5, false), (6, false), (7, false), (8, false), (10, false), (11, false), (12, false), (13, false), (4, true), (9, false), (14, true), (15, false), (16, false)] (by kernel_rfl) (by kernel_rfl) (below_drew1 (Below.refl _ _)) (fun _ _ d _ _ h => by cases d <;> exact h) ?_
    refine se_un (v := .pointer (some ⟨b2, 3, none⟩)) rfl rfl rfl rfl rfl (fun w' hw => by go_simp) ?_
    refine se_load (v := .slice (some ad) 2 c) rfl rfl rfl (fun w' hw => by have h5 := k3 w' hw; go_simp) ?_
    refine se_indexAddr (v := .pointer (some ad)) rfl rfl rfl rfl (fun w' hw => by go_simp) ?_
    refine se_load (v := va) rfl rfl rfl (fun w' hw => la w' hw) ?_
    refine se_un (v := .pointer (some ⟨b2, 0, none⟩)) rfl rfl rfl rfl rfl (fun w' hw => by go_simp) ?_
    refine se_load (v := .int .u8 (op.toNat : Int)) rfl rfl rfl (fun w' hw => by have h5 := k0 w' hw; go_simp) ?_
    refine se_un (v := .int .i32 (op.toNat : Int)) rfl rfl rfl rfl rfl (fun w' hw => by rcases HOP.out with h | h | h | h | h | h | h <;> subst h <;> (go_simp <;> rfl)) ?_
    refine se_un (v := .string (bs [op])) rfl rfl rfl rfl rfl (fun w' hw => by rcases HOP.out with h | h | h | h | h | h | h <;> subst h <;> (go_simp <;> rfl)) ?_
    refine se_un (v := .pointer (some ⟨b2, 3, none⟩)) rfl rfl rfl rfl rfl (fun w' hw => by go_simp) ?_
    refine se_load (v := .slice (some ad) 2 c) rfl rfl rfl (fun w' hw => by have h5 := k3 w' hw; go_simp) ?_
    refine se_indexAddr (v := .pointer (some (ad.add 5))) rfl rfl rfl rfl (fun w' hw => by go_simp) ?_
    refine se_load (v := vb) rfl rfl rfl (fun w' hw => lb w' hw) ?_
    refine se_call (vs := [va, .int .i64 ((3 : Nat) : Int)]) rfl rfl Tryd.func21 (by kernel_rfl) rfl (by kernel_rfl) ?_
    refine (IHA.out _ va (3 : Nat) (by omega) hla (KX.below HKA.out (below_drew1 (Below.refl _ _))) (Tab.below (Tab.below HT.out HB2.out) (below_drew1 (Below.refl _ _)))).mono ?_
    rintro e W4 ⟨rfl, hb4⟩
    have hb24 := below_step (below_drew1 (Below.refl W2.heap.size W2)) hb4
    refine ⟨_, rfl, hb24, ?_⟩
    refine se_bin (v := .string (bs (wr a (3 : Nat) ++ [op]))) rfl rfl rfl rfl (fun w' hw => by have h5 := hadd1; go_simp) ?_
    refine se_call (vs := [vb, .int .i64 ((3 : Nat) : Int)]) rfl rfl Tryd.func21 (by kernel_rfl) rfl (by kernel_rfl) ?_
    refine (IHB.out _ vb (3 : Nat) (by omega) hlb (KX.below HKB.out hb24) (Tab.below (Tab.below HT.out HB2.out) hb24)).mono ?_
    rintro e W5 ⟨rfl, hb5⟩
    have hb25 := below_step hb24 hb5
    refine ⟨_, rfl, hb25, ?_⟩
    refine se_bin (v := .string (bs (wr a (3 : Nat) ++ op :: wr b (3 : Nat)))) rfl rfl rfl rfl (fun w' hw => by have h5 := hadd2; go_simp) ?_
    refine se_assign rfl rfl rfl ?_
    intro _
    have HB5 := Aside0.mk (below_step HB2.out hb25)
    clear hb4 hb5 hb24 hb25
    simp only [puts, Act.put, List.setIfInBounds_toArray, List.set_cons_zero, List.set_cons_succ]
    clear k0 k3 la lb hadd1 hadd2
    have hcl0' : (wr a 3 ++ op :: wr b 3).length ≤ 5000 := by rw [List.length_append, List.length_cons]; have := hcl0.1; have := hcl0.2; simp only [if_true] at *; omega
    have hrs : par (decide (2 < lv)) (wr a 3 ++ op :: wr b 3) = res := HRES.out
    clear HRES
    generalize wr a 3 ++ op :: wr b 3 = cr at hcl0' hrs ⊢
    have HRES := Aside0.mk hrs
    clear hrs
    have hcl : (cr).length ≤ 5000 := hcl0'
    by_cases hlr : 2 < lv
    · have z2 : ((2 : Nat) : Int) < (lv : Int) := by omega
      go_wp2
      have h2 : par (decide ((2 : Nat) < lv)) (cr) = res := HRES.out
      rw [decide_eq_true hlr] at h2
      subst h2
      have he : ((⟨#[40]⟩ : ByteArray) ++ bs (cr)) ++ (⟨#[41]⟩ : ByteArray) = bs (par true (cr)) := by
        rw [show (⟨#[40]⟩ : ByteArray) = bs [40] from rfl, show (⟨#[41]⟩ : ByteArray) = bs [41] from rfl, bs_app, bs_app]
        rfl
      exact bodyPost_ret (v := .string (((⟨#[40]⟩ : ByteArray) ++ bs (cr)) ++ (⟨#[41]⟩ : ByteArray))) (by simp [results, Tryd.f21, go_sem]) rfl ⟨by rw [he], HB5.out⟩
    · have z2 : ¬ ((2 : Nat) : Int) < (lv : Int) := by omega
      go_wp2
      have h2 : par (decide ((2 : Nat) < lv)) (cr) = res := HRES.out
      rw [decide_eq_false hlr] at h2
      subst h2
      exact bodyPost_ret (v := .string (bs (cr))) (by simp [results, Tryd.f21, go_sem]) rfl ⟨rfl, HB5.out⟩
  · have d5 : ((r : Int) == 2) = false := beq_eq_false_iff_ne.2 (by omega)
    go_upto_region 3 with (fail)
    have k0 := HK0.out
    have k3 := HK3.out
    have la := HLA.out
    have lb := HLB.out
    have hadd1 := str_add (wr a r) [op] (by have := hcl0.1; rw [if_neg hr2] at this; omega) (by simp)
    have hadd2 := str_add (wr a r ++ [op]) (wr b (r + 1)) (by have := hcl0.1; rw [if_neg hr2] at this; rw [List.length_append, List.length_singleton]; omega) (by have := hcl0.2; rw [if_neg hr2] at this; omega)
    rw [List.append_assoc] at hadd2
    refine wp_eff (S := fun w' => Below W2.heap.size W2 w') [(0, false), (1, false), (2, false), (3, false), (4, false), (6, false), (7, false), (8, false), (9, false), (11, false), (12, false), (13, false), (14, false), (15, false), (16, false), (5, true), (10, false), (17, true), (18, false), (19, false)] (by kernel_rfl) (by kernel_rfl) (below_drew1 (Below.refl _ _)) (fun _ _ d _ _ h => by cases d <;> exact h) ?_
    refine se_un (v := .pointer (some ⟨b2, 3, none⟩)) rfl rfl rfl rfl rfl (fun w' hw => by go_simp) ?_
    refine se_load (v := .slice (some ad) 2 c) rfl rfl rfl (fun w' hw => by have h5 := k3 w' hw; go_simp) ?_
    refine se_indexAddr (v := .pointer (some ad)) rfl rfl rfl rfl (fun w' hw => by go_simp) ?_
    refine se_load (v := va) rfl rfl rfl (fun w' hw => la w' hw) ?_
    refine se_move rfl rfl rfl ?_
    refine se_un (v := .pointer (some ⟨b2, 0, none⟩)) rfl rfl rfl rfl rfl (fun w' hw => by go_simp) ?_
    refine se_load (v := .int .u8 (op.toNat : Int)) rfl rfl rfl (fun w' hw => by have h5 := k0 w' hw; go_simp) ?_
    refine se_un (v := .int .i32 (op.toNat : Int)) rfl rfl rfl rfl rfl (fun w' hw => by rcases HOP.out with h | h | h | h | h | h | h <;> subst h <;> (go_simp <;> rfl)) ?_
    refine se_un (v := .string (bs [op])) rfl rfl rfl rfl rfl (fun w' hw => by rcases HOP.out with h | h | h | h | h | h | h <;> subst h <;> (go_simp <;> rfl)) ?_
    refine se_un (v := .pointer (some ⟨b2, 3, none⟩)) rfl rfl rfl rfl rfl (fun w' hw => by go_simp) ?_
    refine se_load (v := .slice (some ad) 2 c) rfl rfl rfl (fun w' hw => by have h5 := k3 w' hw; go_simp) ?_
    refine se_indexAddr (v := .pointer (some (ad.add 5))) rfl rfl rfl rfl (fun w' hw => by go_simp) ?_
    refine se_load (v := vb) rfl rfl rfl (fun w' hw => lb w' hw) ?_
    refine se_move rfl rfl rfl ?_
    refine se_bin (v := .int .i64 ((r + 1 : Nat) : Int)) rfl rfl rfl rfl (fun w' hw => by go_simp; rw [IntKind.wrap_i64]; omega) ?_
    refine se_call (vs := [va, .int .i64 (r : Int)]) rfl rfl Tryd.func21 (by kernel_rfl) rfl (by kernel_rfl) ?_
    refine (IHA.out _ va r (by omega) hla (KX.below HKA.out (below_drew1 (Below.refl _ _))) (Tab.below (Tab.below HT.out HB2.out) (below_drew1 (Below.refl _ _)))).mono ?_
    rintro e W4 ⟨rfl, hb4⟩
    have hb24 := below_step (below_drew1 (Below.refl W2.heap.size W2)) hb4
    refine ⟨_, rfl, hb24, ?_⟩
    refine se_bin (v := .string (bs (wr a r ++ [op]))) rfl rfl rfl rfl (fun w' hw => by have h5 := hadd1; go_simp) ?_
    refine se_call (vs := [vb, .int .i64 ((r + 1 : Nat) : Int)]) rfl rfl Tryd.func21 (by kernel_rfl) rfl (by kernel_rfl) ?_
    refine (IHB.out _ vb (r + 1 : Nat) (by omega) hlb (KX.below HKB.out hb24) (Tab.below (Tab.below HT.out HB2.out) hb24)).mono ?_
    rintro e W5 ⟨rfl, hb5⟩
    have hb25 := below_step hb24 hb5
    refine ⟨_, rfl, hb25, ?_⟩
    refine se_bin (v := .string (bs (wr a r ++ op :: wr b (r + 1 : Nat)))) rfl rfl rfl rfl (fun w' hw => by have h5 := hadd2; go_simp) ?_
    refine se_assign rfl rfl rfl ?_
    intro _
    have HB5 := Aside0.mk (below_step HB2.out hb25)
    clear hb4 hb5 hb24 hb25
    simp only [puts, Act.put, List.setIfInBounds_toArray, List.set_cons_zero, List.set_cons_succ]
    clear k0 k3 la lb hadd1 hadd2
    have hcl0' : (wr a r ++ op :: wr b (r + 1)).length ≤ 5000 := by rw [List.length_append, List.length_cons]; have h1 := hcl0.1; have h2 := hcl0.2; rw [if_neg hr2] at h1 h2; omega
    have hrs : par (decide (r < lv)) (wr a r ++ op :: wr b (r + 1)) = res := by have := HRES.out; rwa [if_neg hr2] at this
    clear HRES
    generalize wr a r ++ op :: wr b (r + 1) = cr at hcl0' hrs ⊢
    have HRES := Aside0.mk hrs
    clear hrs
    have hcl : (cr).length ≤ 5000 := hcl0'
    by_cases hlr : r < lv
    · have z2 : (r : Int) < (lv : Int) := by omega
      go_wp2
      have h2 : par (decide (r < lv)) (cr) = res := HRES.out
      rw [decide_eq_true hlr] at h2
      subst h2
      have he : ((⟨#[40]⟩ : ByteArray) ++ bs (cr)) ++ (⟨#[41]⟩ : ByteArray) = bs (par true (cr)) := by
        rw [show (⟨#[40]⟩ : ByteArray) = bs [40] from rfl, show (⟨#[41]⟩ : ByteArray) = bs [41] from rfl, bs_app, bs_app]
        rfl
      exact bodyPost_ret (v := .string (((⟨#[40]⟩ : ByteArray) ++ bs (cr)) ++ (⟨#[41]⟩ : ByteArray))) (by simp [results, Tryd.f21, go_sem]) rfl ⟨by rw [he], HB5.out⟩
    · have z2 : ¬ (r : Int) < (lv : Int) := by omega
      go_wp2
      have h2 : par (decide (r < lv)) (cr) = res := HRES.out
      rw [decide_eq_false hlr] at h2
      subst h2
      exact bodyPost_ret (v := .string (bs (cr))) (by simp [results, Tryd.f21, go_sem]) rfl ⟨rfl, HB5.out⟩
theorem write_all : ∀ x : Ex, x.wf → WrOK x
  | .nil, h => h.elim
  | .num n, h => write_num n h
  | .var s, _ => write_var s
  | .un op a, h => write_un op a h.1 (write_all a h.2)
  | .bin op a b, h => write_bin op a b h.1 (write_all a h.2.1) (write_all b h.2.2)
theorem Is.short {t : Bs} {x : Ex} (h : Is t x) : (wr x 0).length ≤ t.length := by
  obtain ⟨_, _, s, hg, _⟩ := h
  have h1 : (wr x 0).length + s.length ≤ t.length := hg.len
  omega
set_option maxHeartbeats 8000000 in
set_option maxRecDepth 100000 in
theorem Write_calls (t : Bs) (W : World) (hT : Tab W) : Calls Tryd.prog 10 #[.string (bs t)] W fun e W' => e = .returned (.tuple #[.string (bs (writeF t).1), .int .i64 (writeF t).2]) ∧ Below W.heap.size W W' := by
  have HT := Aside0.mk hT
  clear hT
  obtain ⟨x, er, hp⟩ : ∃ x er, parseF t = (x, er) := ⟨_, _, rfl⟩
  obtain ⟨v1, v2, hv⟩ : ∃ v1 v2, writeF t = (v1, v2) := ⟨_, _, rfl⟩
  rw [hv]
  have HP := Aside0.mk hp
  have HV := Aside0.mk hv
  clear hp hv
  go_enter Tryd.func10, Tryd.ntmps10
  go_upto_region 2 with (first
    | (go_at_call 20; refine (parse_calls t _).mono ?_; rintro e W1 ⟨v, rfl, hx1, hb1⟩; rw [HP.out] at hx1 ⊢; have KX1 := Aside0.mk hx1.kx; obtain ⟨v1, rfl, hv1⟩ := hx1; obtain ⟨A1, c1, rfl⟩ := Kd.V_slice hv1; replace hv1 := Aside0.mk hv1; replace hb1 := Aside0.mk hb1)
    | ((with_reducible refine gate_ (.alloc 52) rfl ?_); refine box_event ?hg (N := 4) ?hd (cs := #[.int .u8 0, .int .i64 0, .string (⟨#[]⟩ : ByteArray), .slice none 0 0, .int .i64 0]) (t := 52) ?hr ?_; (case hd => rfl); (case hg => rfl); (case hr => first | (go_simp; done) | (go_simp; rfl)); intro b6 hb6 W2 hbx hbl; replace hb6 := Aside0.mk hb6; replace hbx := Aside0.mk hbx; replace hbl := Aside0.mk hbl)
    | ((with_reducible refine gate_ (.store 52 (.tmp 4) (.tmp 9)) rfl ?_); refine put_event (g := b6) (seg := cell5 (toS x) (.slice A1 (toS x).f3.length c1)) rfl rfl rfl rfl rfl hbx.out size52 rfl (cell5_one _ ⟨_, _, _, rfl⟩) ?_; intro W3 hW3 hg3 hs3; replace hW3 := Aside0.mk hW3; replace hg3 := Aside0.mk hg3; replace hs3 := Aside0.mk hs3)
    | fail)
  have HB3 := Aside0.mk ((below_step hb1.out hbl.out).grown hg3.out (below_step hb1.out hbl.out).size (fun k e => by cases e; have := hb6.out; have := hb1.out.size; omega))
  have KX3 := Aside0.mk (KX.below KX1.out (hbl.out.grown hg3.out hbl.out.size (fun k e => by cases e; have := hb6.out; omega)))
  clear hb1 hbl hbx hb6 hg3 hs3 KX1 hv1
  by_cases he : er = 0
  · subst he
    have HIS := Aside0.mk (parse_ok.1 HP.out)
    have HWF := Aside0.mk HIS.out.wf
    have HSH := Aside0.mk (show (wr x 6).length ≤ 1000 from by
      have h1 := HIS.out.short
      have h2 := HIS.out.1
      have h3 := (wr_mono x 0 6 (by omega)).2
      omega)
    go_wp2_with (first
      | ((with_reducible refine gate_ (.load 52 (.tmp 4)) rfl ?_); refine load_event rfl rfl rfl hW3.out Tryd.underlying52 rfl (by kernel_rfl) ?_)
      | (go_at_call 21; refine (write_all x HWF.out _ _ 0 (by omega) HSH.out KX3.out (Tab.below HT.out HB3.out)).mono ?_; rintro e W4 ⟨rfl, hb4⟩; replace hb4 := Aside0.mk hb4)
      | fail)
    have hv : writeF t = (wr x 0, 0) := by unfold writeF; rw [HP.out, if_neg (by simp)]
    have h2 := HV.out
    rw [hv] at h2
    cases h2
    exact bodyPost_ret (v := .tuple #[.string (bs (wr x 0)), .int .i64 0]) (by simp [results, Tryd.f10, go_sem]) rfl ⟨rfl, below_step HB3.out hb4.out⟩
  · have d1 : (er != 0) = true := bne_iff_ne.2 he
    go_wp2
    have hv : writeF t = ([], er) := by unfold writeF; rw [HP.out, if_pos he]
    have h2 := HV.out
    rw [hv] at h2
    cases h2
    exact bodyPost_ret (v := .tuple #[.string (bs []), .int .i64 er]) (by simp [results, Tryd.f10, go_sem]) rfl ⟨rfl, HB3.out⟩
end Go.Proofs.YtmageoieajhhdaaDoor.Bk
