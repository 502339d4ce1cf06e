/- Conditions: rank and write, walked. -/
import Derived.Test.YtmageoieajhhdaaDoorBkN
import Derived.Lib.AppendIntMem
import Derived.Shelf.Unicode.PredsPay
namespace Go.Proofs.YtmageoieajhhdaaDoor.Bk
open Go Go.RowKit Go.Proofs.YtmageoieajhhdaaDoorW.PrintWords Go.Proofs.YtmageoieajhhdaaDoorW.PrintLast Go.Proofs.YtmageoieajhhdaaDoorW.PrintMore Go.Proofs.YtmageoieajhhdaaDoor.PBrkWritten Go.Proofs.YtmageoieajhhdaaDoor.RegionVal
open Go.Lib hiding intOf
set_option linter.unusedVariables false
set_option linter.unusedSimpArgs false
theorem rankF_none {op : UInt8} (h : ∀ k, k ≤ 4 → op ∉ ranksF k) : rankF op = if op = 33 ∨ op = 126 then 5 else 6 := by
  have h0 := h 0 (by omega)
  have h1 := h 1 (by omega)
  have h2 := h 2 (by omega)
  have h3 := h 3 (by omega)
  have h4 := h 4 (by omega)
  simp only [ranksF, List.mem_cons, List.not_mem_nil, or_false, not_or] at h0 h1 h2 h3 h4
  unfold rankF
  rw [if_neg h0, if_neg h1, if_neg (by simp [h2.1, h2.2]), if_neg (by simp [h3.1, h3.2]), if_neg h4]
set_option maxHeartbeats 8000000 in
set_option maxRecDepth 100000 in
theorem rank_calls (op : UInt8) (W : World) : Calls Tryd.prog 31 #[.int .u8 (op.toNat : Int)] W fun e W' => e = .returned (.int .i64 (rankF op : Int)) ∧ Below W.heap.size W W' := by
  obtain ⟨r, hr⟩ : ∃ r, rankF op = r := ⟨_, rfl⟩
  rw [hr]
  have HR := Aside0.mk hr
  clear hr
  go_enter Tryd.func31, Tryd.ntmps31
  go_wp2
  go_loopw [4] (fun v4 wr => ∃ k : Nat, v4 = .int .i64 (k : Int) ∧ k ≤ 5 ∧ Aside0 (∀ j, j < k → op ∉ ranksF j) ∧ Aside0 (Below W.heap.size W wr)) (fun v4 _ => 5 - (intOf v4).toNat)
  case atStart => exact ⟨0, rfl, by omega, ⟨fun j hj => by omega⟩, ⟨Below.refl _ _⟩⟩
  case round =>
    obtain ⟨k, rfl, hk, HN, HB⟩ := hrel
    by_cases hk5 : k < 5
    · have z1 : (k : Int) < 5 := by omega
      have HRK := Aside0.mk (ranks_f (show k ≤ 4 by omega))
      by_cases hm : op ∈ ranksF k
      · have d1 : ¬ (Lib.indexByte (ranksF k) op < 0) := fun h => (idx_mem _ op).1 h hm
        have d2 : decide (0 ≤ Lib.indexByte (ranksF k) op) = true := decide_eq_true (by omega)
        have HM := Aside0.mk hm
        clear d1 hm
        go_wp2_with (first
          | (go_at_call 43; refine (brk_ranks.calls (k : Int) _ _ HRK.out).mono ?_; rintro e W2 ⟨rfl, hb2⟩; replace hb2 := Aside0.mk hb2)
          | (go_at_call 52; refine (idx_calls (ranksF k) op _).mono ?_; rintro e W3 ⟨rfl, rfl⟩)
          | fail)
        have h2 := HR.out
        rw [rank_of (by omega) HM.out] at h2
        subst h2
        exact bodyPost_ret (v := .int .i64 (k : Int)) (by simp [results, Tryd.f31, go_sem]) rfl ⟨rfl, below_step HB.out hb2.out⟩
      · have d1 : Lib.indexByte (ranksF k) op < 0 := (idx_mem _ op).2 hm
        have d2 : decide (0 ≤ Lib.indexByte (ranksF k) op) = false := decide_eq_false (by omega)
        have HN2 := Aside0.mk (show ∀ j, j < k + 1 → op ∉ ranksF j from fun j hj => by
          rcases Nat.lt_or_ge j k with h | h
          · exact HN.out j h
          · obtain rfl : j = k := by omega
            exact hm)
        clear d1 hm
        go_wp2_with (first
          | (go_at_call 43; refine (brk_ranks.calls (k : Int) _ _ HRK.out).mono ?_; rintro e W2 ⟨rfl, hb2⟩; replace hb2 := Aside0.mk hb2)
          | (go_at_call 52; refine (idx_calls (ranksF k) op _).mono ?_; rintro e W3 ⟨rfl, rfl⟩)
          | fail)
        go_roundw
        case rel => exact ⟨k + 1, by go_num, by omega, HN2, ⟨below_step HB.out hb2.out⟩⟩
        case measure => simp [intOf]; omega
    · obtain rfl : k = 5 := by omega
      have h2 := HR.out
      rw [rankF_none (fun k hk => HN.out k (by omega))] at h2
      by_cases h33 : op = 33
      · rw [if_pos (.inl h33)] at h2
        subst h2
        have d1 : ((op.toNat : Int) == 33) = true := by rw [h33]; rfl
        clear h33
        go_wp2
        exact bodyPost_ret (v := .int .i64 5) (by simp [results, Tryd.f31, go_sem]) rfl ⟨rfl, HB.out⟩
      · have d1 : ((op.toNat : Int) == 33) = false := beq_eq_false_iff_ne.2 (fun e => h33 (UInt8.toNat_inj.1 (by have e2 : (op.toNat : Int) = 33 := e; show op.toNat = 33; omega)))
        by_cases h126 : op = 126
        · rw [if_pos (.inr h126)] at h2
          subst h2
          have d2 : ((op.toNat : Int) == 126) = true := by rw [h126]; rfl
          clear h33 h126
          go_wp2
          exact bodyPost_ret (v := .int .i64 5) (by simp [results, Tryd.f31, go_sem]) rfl ⟨rfl, HB.out⟩
        · rw [if_neg (by simp [h33, h126])] at h2
          subst h2
          have d2 : ((op.toNat : Int) == 126) = false := beq_eq_false_iff_ne.2 (fun e => h126 (UInt8.toNat_inj.1 (by have e2 : (op.toNat : Int) = 126 := e; show op.toNat = 126; omega)))
          clear h33 h126
          go_wp2
          exact bodyPost_ret (v := .int .i64 6) (by simp [results, Tryd.f31, go_sem]) rfl ⟨rfl, HB.out⟩
/-- the table that numerals are written by -/
abbrev Tab (W : World) : Prop := Lib.TabIs Tryd.prog W "internal/strconv.uint64pow10" .u64 Lib.pow10Tab
theorem Tab.below {W W1 : World} (h : Tab W) (hb : Below W.heap.size W W1) : Tab W1 := Go.Proofs.TabIs_below (g := 5) (by kernel_rfl) h hb
def WrOK (x : Ex) : Prop := ∀ (W : World) (vx : Value) (lv : Nat), lv ≤ 6 → (wr x 6).length ≤ 1000 → KX W vx x → Tab W → Calls Tryd.prog 21 #[vx, .int .i64 (lv : Int)] W fun e W' => e = .returned (.string (bs (wr x lv))) ∧ Below W.heap.size W W'
set_option maxHeartbeats 8000000 in
set_option maxRecDepth 100000 in
theorem write_num (n : Int) (h0 : 0 ≤ n ∧ n < 1000000000) : WrOK (.num n) := by
  intro W vx lv hlv hlen hx ht
  obtain ⟨A, c, rfl, _⟩ := hx.open
  have hw : wr (.num n) lv = itoa n := by show par (decide (6 < lv)) (itoa n) = _; rw [decide_eq_false (by omega)]; rfl
  rw [hw]
  have HT := Aside0.mk ht
  have z1 : (lv : Int) ≤ 6 := by omega
  clear hw ht hx
  go_enter Tryd.func21, Tryd.ntmps21
  simp only [toS]
  go_wp2_with (first
    | ((with_reducible refine gate_ (.box 52 (.tmp 0)) rfl ?_); refine box_event ?hg (N := 2) ?hd (cs := #[.int .u8 110, .int .i64 n, .string (⟨#[]⟩ : ByteArray), .slice A 0 c, .int .i64 1]) (t := 52) ?hr ?_; (case hd => rfl); (case hg => rfl); (case hr => first | (go_simp; done) | (go_simp; rfl)); intro b2 hb2 W1 hbx hbl; have k0 := blk_cell hbx 0; simp only [List.getElem?_toArray, List.getElem?_cons_zero, List.getElem?_cons_succ] at k0; replace hb2 := Aside0.mk hb2; replace hbx := Aside0.mk hbx; replace hbl := Aside0.mk hbl)
    | (go_at_call 31; refine (rank_calls 110 _).mono ?_; rintro e W2 ⟨rfl, hb2'⟩; have k0 := blk_cell (blk_below hbx.out hb2') 0; have k1 := blk_cell (blk_below hbx.out hb2') 1; simp only [List.getElem?_toArray, List.getElem?_cons_zero, List.getElem?_cons_succ] at k0 k1; replace hb2' := Aside0.mk hb2'; rw [show rankF 110 = 6 from rfl])
    | (go_at_call 32; refine (Tryd.strconv_Itoa n (by omega) (by omega) _ (Tab.below (Tab.below HT.out hbl.out) hb2'.out)).mono ?_; rintro e W3 ⟨rfl, ⟨kk, os, rfl⟩⟩)
    | fail)
  exact bodyPost_ret (v := .string (bs (itoa n))) (by simp [results, Tryd.f21, go_sem]) rfl ⟨rfl, below_step (below_step hbl.out hb2'.out) (Lib.below_grow _ W2 (Nat.le_refl _) kk os)⟩
set_option maxHeartbeats 8000000 in
set_option maxRecDepth 100000 in
theorem write_var (v : Bs) : WrOK (.var v) := by
  intro W vx lv hlv hlen hx ht
  obtain ⟨A, c, rfl, _⟩ := hx.open
  have hw : wr (.var v) lv = v := by show par (decide (6 < lv)) v = _; rw [decide_eq_false (by omega)]; rfl
  rw [hw]
  have z1 : (lv : Int) ≤ 6 := by omega
  clear hw ht hx
  go_enter Tryd.func21, Tryd.ntmps21
  simp only [toS]
  go_wp2_with (first
    | ((with_reducible refine gate_ (.box 52 (.tmp 0)) rfl ?_); refine box_event ?hg (N := 2) ?hd (cs := #[.int .u8 118, .int .i64 0, .string (bs v), .slice A 0 c, .int .i64 1]) (t := 52) ?hr ?_; (case hd => rfl); (case hg => rfl); (case hr => first | (go_simp; done) | (go_simp; rfl)); intro b2 hb2 W1 hbx hbl; have k0 := blk_cell hbx 0; simp only [List.getElem?_toArray, List.getElem?_cons_zero, List.getElem?_cons_succ] at k0; replace hb2 := Aside0.mk hb2; replace hbx := Aside0.mk hbx; replace hbl := Aside0.mk hbl)
    | (go_at_call 31; refine (rank_calls 118 _).mono ?_; rintro e W2 ⟨rfl, hb2'⟩; have k0 := blk_cell (blk_below hbx.out hb2') 0; have k1 := blk_cell (blk_below hbx.out hb2') 2; simp only [List.getElem?_toArray, List.getElem?_cons_zero, List.getElem?_cons_succ] at k0 k1; replace hb2' := Aside0.mk hb2'; rw [show rankF 118 = 6 from rfl])
    | fail)
  exact bodyPost_ret (v := .string (bs v)) (by simp [results, Tryd.f21, go_sem]) rfl ⟨rfl, below_step hbl.out hb2'.out⟩
theorem kid0 {W : World} {A : Option Addr} {n : Nat} {xs : List S52} (h : k52.C W A n xs) (x : Ex) (hx : xs[0]? = some (toS x)) : ∃ ad A3 c3, A = some ad ∧ W.cell? ad = some (.int .u8 (toS x).f0) ∧ W.cell? ⟨ad.block, ad.off + 1, none⟩ = some (.int .i64 (toS x).f1) ∧ W.cell? ⟨ad.block, ad.off + 2, none⟩ = some (.string (toS x).f2) ∧
    W.cell? ⟨ad.block, ad.off + 3, none⟩ = some (.slice A3 (toS x).f3.length c3) ∧ W.cell? ⟨ad.block, ad.off + 4, none⟩ = some (.int .i64 (toS x).f4) ∧ KX W (.agg #[.int .u8 (toS x).f0, .int .i64 (toS x).f1, .string (toS x).f2, .slice A3 (toS x).f3.length c3, .int .i64 (toS x).f4]) x := by
  obtain ⟨ad, A3, c3, e, h0, h1, h2, h3, h4, hk⟩ := kid_at h x 0 hx
  have hz : ad.add (0 * 5) = ad := by simp [Addr.add]
  rw [hz] at h0 h1 h2 h3 h4
  exact ⟨ad, A3, c3, e, h0, h1, h2, h3, h4, hk⟩
set_option maxHeartbeats 8000000 in
set_option maxRecDepth 100000 in
theorem write_un (op : UInt8) (a : Ex) (hop : isOp1 op) (ih : WrOK a) : WrOK (.un op a) := by
  intro W vx lv hlv hlen hx ht
  obtain ⟨A, c, rfl, hC⟩ := hx.open
  have hrk : rankF op = 5 := by rcases hop with rfl | rfl <;> rfl
  have hla : (wr a 6).length ≤ 1000 := by
    have h1 : (wr (.un op a) 6).length = (((if op = 126 then 45 else 33) :: wr a 5) : Bs).length + 2 := by
      show (par (decide (rankF op < 6)) _).length = _
      rw [hrk, par_len]
      rfl
    have h2 := (wr_mono a 5 6 (by omega)).2
    rw [h1, List.length_cons] at hlen
    omega
  have hl5 := (wr_mono a 5 6 (by omega)).1
  have HT := Aside0.mk ht
  have HC := Aside0.mk hC
  have IH := Aside0.mk ih
  have z1 : (lv : Int) ≤ 6 := by omega
  clear ht hx ih hC hlen
  obtain ⟨res, hres⟩ : ∃ res, wr (.un op a) lv = res := ⟨_, rfl⟩
  rw [hres]
  have HRES := Aside0.mk (show par (decide (5 < lv)) ((if op = 126 then 45 else 33) :: wr a 5) = res from by rw [← hres]; show _ = par (decide (rankF op < lv)) _; rw [hrk])
  clear hres
  obtain ⟨w5, hw5⟩ : ∃ w5, wr a 5 = w5 := ⟨_, rfl⟩
  rw [hw5] at HRES hl5
  have HW5 := Aside0.mk hw5
  have hw5l : w5.length ≤ 1000 := by omega
  clear hw5 hl5
  rcases hop with rfl | rfl
  · go_enter Tryd.func21, Tryd.ntmps21
    simp only [toS]
    go_upto_region 14 with (first
      | ((with_reducible refine gate_ (.box 52 (.tmp 0)) rfl ?_); refine box_event ?hg (N := 2) ?hd (cs := #[.int .u8 33, .int .i64 0, .string (⟨#[]⟩ : ByteArray), .slice A 1 c, .int .i64 (Ex.deep (.un 33 a))]) (t := 52) ?hr ?_; (case hd => rfl); (case hg => rfl); (case hr => first | (go_simp; done) | (go_simp; rfl)); intro b2 hb2 W1 hbx hbl; have k0 := blk_cell hbx 0; simp only [List.getElem?_toArray, List.getElem?_cons_zero, List.getElem?_cons_succ] at k0; replace hb2 := Aside0.mk hb2; replace hbx := Aside0.mk hbx; replace hbl := Aside0.mk hbl)
      | (go_at_call 31; refine (rank_calls 33 _).mono ?_; rintro e W2 ⟨rfl, hb2'⟩; have k0 := blk_cell (blk_below hbx.out hb2') 0; have k1 := blk_cell (blk_below hbx.out hb2') 3; simp only [List.getElem?_toArray, List.getElem?_cons_zero, List.getElem?_cons_succ] at k0 k1; have HB2 := Aside0.mk (below_step hbl.out hb2'); obtain ⟨ad, A3, c3, rfl, e0, e1, e2, e3, e4, hkx⟩ := kid0 (Kd.C_below HC.out HB2.out) a rfl; replace hkx := Aside0.mk hkx; replace hb2' := Aside0.mk hb2'; rw [show rankF 33 = 5 from rfl])
      | (go_at_call 21; refine (IH.out _ _ 5 (by omega) hla hkx.out (Tab.below HT.out HB2.out)).mono ?_; rintro e W3 ⟨rfl, hb3⟩; rw [HW5.out]; replace hb3 := Aside0.mk hb3)
      | fail)
    rw [show (⟨#[33]⟩ : ByteArray) ++ bs w5 = bs (33 :: w5) from bs_app [33] w5]
    clear k0 k1 e0 e1 e2 e3 e4
    have hcl : (33 :: w5).length ≤ 5000 := by rw [List.length_cons]; omega
    by_cases hlr : 5 < lv
    · have z2 : (5 : Int) < (lv : Int) := by omega
      go_wp2
      have h2 : par (decide (5 < lv)) (33 :: w5) = res := HRES.out
      rw [decide_eq_true hlr] at h2
      subst h2
      have he : ((⟨#[40]⟩ : ByteArray) ++ bs (33 :: w5)) ++ (⟨#[41]⟩ : ByteArray) = bs (par true (33 :: w5)) := by
        rw [show (⟨#[40]⟩ : ByteArray) = bs [40] from rfl, show (⟨#[41]⟩ : ByteArray) = bs [41] from rfl, bs_app, bs_app]
        rfl
      exact bodyPost_ret (v := .string (((⟨#[40]⟩ : ByteArray) ++ bs (33 :: w5)) ++ (⟨#[41]⟩ : ByteArray))) (by simp [results, Tryd.f21, go_sem]) rfl ⟨by rw [he], below_step HB2.out hb3.out⟩
    · have z2 : ¬ (5 : Int) < (lv : Int) := by omega
      go_wp2
      have h2 : par (decide (5 < lv)) (33 :: w5) = res := HRES.out
      rw [decide_eq_false hlr] at h2
      subst h2
      exact bodyPost_ret (v := .string (bs (33 :: w5))) (by simp [results, Tryd.f21, go_sem]) rfl ⟨rfl, below_step HB2.out hb3.out⟩
  · go_enter Tryd.func21, Tryd.ntmps21
    simp only [toS]
    go_upto_region 14 with (first
      | ((with_reducible refine gate_ (.box 52 (.tmp 0)) rfl ?_); refine box_event ?hg (N := 2) ?hd (cs := #[.int .u8 126, .int .i64 0, .string (⟨#[]⟩ : ByteArray), .slice A 1 c, .int .i64 (Ex.deep (.un 126 a))]) (t := 52) ?hr ?_; (case hd => rfl); (case hg => rfl); (case hr => first | (go_simp; done) | (go_simp; rfl)); intro b2 hb2 W1 hbx hbl; have k0 := blk_cell hbx 0; simp only [List.getElem?_toArray, List.getElem?_cons_zero, List.getElem?_cons_succ] at k0; replace hb2 := Aside0.mk hb2; replace hbx := Aside0.mk hbx; replace hbl := Aside0.mk hbl)
      | (go_at_call 31; refine (rank_calls 126 _).mono ?_; rintro e W2 ⟨rfl, hb2'⟩; have k0 := blk_cell (blk_below hbx.out hb2') 0; have k1 := blk_cell (blk_below hbx.out hb2') 3; simp only [List.getElem?_toArray, List.getElem?_cons_zero, List.getElem?_cons_succ] at k0 k1; have HB2 := Aside0.mk (below_step hbl.out hb2'); obtain ⟨ad, A3, c3, rfl, e0, e1, e2, e3, e4, hkx⟩ := kid0 (Kd.C_below HC.out HB2.out) a rfl; replace hkx := Aside0.mk hkx; replace hb2' := Aside0.mk hb2'; rw [show rankF 126 = 5 from rfl])
      | (go_at_call 21; refine (IH.out _ _ 5 (by omega) hla hkx.out (Tab.below HT.out HB2.out)).mono ?_; rintro e W3 ⟨rfl, hb3⟩; rw [HW5.out]; replace hb3 := Aside0.mk hb3)
      | fail)
    rw [show (⟨#[45]⟩ : ByteArray) ++ bs w5 = bs (45 :: w5) from bs_app [45] w5]
    clear k0 k1 e0 e1 e2 e3 e4
    have hcl : (45 :: w5).length ≤ 5000 := by rw [List.length_cons]; omega
    by_cases hlr : 5 < lv
    · have z2 : (5 : Int) < (lv : Int) := by omega
      go_wp2
      have h2 : par (decide (5 < lv)) (45 :: w5) = res := HRES.out
      rw [decide_eq_true hlr] at h2
      subst h2
      have he : ((⟨#[40]⟩ : ByteArray) ++ bs (45 :: w5)) ++ (⟨#[41]⟩ : ByteArray) = bs (par true (45 :: w5)) := by
        rw [show (⟨#[40]⟩ : ByteArray) = bs [40] from rfl, show (⟨#[41]⟩ : ByteArray) = bs [41] from rfl, bs_app, bs_app]
        rfl
      exact bodyPost_ret (v := .string (((⟨#[40]⟩ : ByteArray) ++ bs (45 :: w5)) ++ (⟨#[41]⟩ : ByteArray))) (by simp [results, Tryd.f21, go_sem]) rfl ⟨by rw [he], below_step HB2.out hb3.out⟩
    · have z2 : ¬ (5 : Int) < (lv : Int) := by omega
      go_wp2
      have h2 : par (decide (5 < lv)) (45 :: w5) = res := HRES.out
      rw [decide_eq_false hlr] at h2
      subst h2
      exact bodyPost_ret (v := .string (bs (45 :: w5))) (by simp [results, Tryd.f21, go_sem]) rfl ⟨rfl, below_step HB2.out hb3.out⟩
end Go.Proofs.YtmageoieajhhdaaDoor.Bk
