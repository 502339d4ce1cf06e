/- BrkWritten: the call answers true, whatever comes in. -/
import Derived.Test.YtmageoieajhhdaaDoorBkS
import Derived.Test.YtmageoieajhhdaaDoorBkT
namespace Go.Proofs.YtmageoieajhhdaaDoor.Bk
open Go Go.RowKit Go.Proofs.YtmageoieajhhdaaDoorW.PrintWords Go.Proofs.YtmageoieajhhdaaDoorW.PrintLast Go.Proofs.YtmageoieajhhdaaDoorW.PrintMore Go.Proofs.YtmageoieajhhdaaDoor.PBrkWritten Go.Proofs.YtmageoieajhhdaaDoor.RegionVal
open Go.Lib hiding intOf
set_option linter.unusedVariables false
set_option linter.unusedSimpArgs false
theorem infoIntX : (Tryd.prog.info? 3).map (fun i => (i.zero, i.size, i.bytes)) = some (some (.int .i64 0), 1, 8) := by kernel_rfl
theorem own_rdX {w : World} {B : Nat} {v : Value} {xs : List Int} (h : w.ownsRow B 3 1 v xs.length (nums .i64 xs)) : ∃ A c, v = .slice A xs.length c ∧ xs.length ≤ c ∧ ReadsInt w .i64 A xs.length xs := by
  obtain ⟨A, c, rfl, hr⟩ := own_reads h
  refine ⟨A, c, rfl, ?_, hr⟩
  rcases h.2 with ⟨e, hn⟩ | ⟨g, cap, cur, e, _, _, hl, _⟩
  · rw [hn]; exact Nat.zero_le _
  · simp only [Value.slice.injEq] at e
    obtain ⟨_, _, rfl⟩ := e
    exact hl
theorem reads_litX (w : World) (xs : List Int) (hn : xs.length ≤ 1000) (T : TypeId) : ReadsInt (w.alloc (.cells (nums .i64 xs).toArray T)) .i64 (some ⟨w.heap.size, 0, none⟩) xs.length xs := by
  refine ⟨rfl, by omega, fun _ => ⟨_, rfl, fun j hj => ?_⟩⟩
  rw [Go.Proofs.YtmageoieajhhdaaDoorW.PrintWords.add_plain]
  rw [blk_cell (heap_alloc_new w _) j]
  simp [nums, List.getD_eq_getElem?_getD, hj]
theorem own_takeX {w : World} {B m c : Nat} {A : Option Addr} {xs : List Int} (h : w.ownsRow B 3 1 (.slice A xs.length c) xs.length (nums .i64 xs)) (hm : m ≤ xs.length) : w.ownsRow B 3 1 (.slice A (xs.take m).length c) (xs.take m).length (nums .i64 (xs.take m)) := by
  have h1 := own_take h hm
  rw [Nat.mul_one] at h1
  have e : (xs.take m).length = m := by rw [List.length_take, Nat.min_eq_left hm]
  rw [e]
  have e2 : nums .i64 (xs.take m) = (nums .i64 xs).take m := by simp [nums, List.map_take]
  rw [e2]
  exact h1
/-- strings cut -/
theorem cut_to (s : Bs) (k : Nat) (hk : k ≤ s.length) (w : World) : Sem.run Tryd.prog (Instr.sliceAt 9 (.string (bs s)) none (some (.int .i64 (k : Int))) none) w = .ok (.string (bs (s.take k))) w := by
  rw [run_sliceAt_string _ _ _ _ _ _ Tryd.underlying9, run_slice_string_h w 9 (bs s) Tryd.underlying9 .i64 (k : Int) (by omega) (by rw [bs_size]; omega), Int.toNat_natCast, bs_extract]
  simp
theorem cut_from (s : Bs) (k : Nat) (hk : k ≤ s.length) (w : World) : Sem.run Tryd.prog (Instr.sliceAt 9 (.string (bs s)) (some (.int .i64 (k : Int))) none none) w = .ok (.string (bs (s.drop k))) w := by
  rw [run_sliceAt_string _ _ _ _ _ _ Tryd.underlying9, run_slice_string_l w 9 (bs s) Tryd.underlying9 .i64 (k : Int) (by omega) (by rw [bs_size]; omega), Int.toNat_natCast, bs_extract, bs_size]
  rw [List.take_of_length_le (by rw [List.length_drop]; omega)]
theorem cut_mid (s : Bs) (a b : Nat) (hab : a ≤ b) (hb : b ≤ s.length) (w : World) : Sem.run Tryd.prog (Instr.sliceAt 9 (.string (bs s)) (some (.int .i64 (a : Int))) (some (.int .i64 (b : Int))) none) w = .ok (.string (bs ((s.drop a).take (b - a)))) w := by
  rw [run_sliceAt_string _ _ _ _ _ _ Tryd.underlying9, run_slice_string_if w 9 (bs s) .i64 .i64 (a : Int) (b : Int) Tryd.underlying9, if_pos (by rw [bs_size]; omega), if_pos (by omega), Int.toNat_natCast, Int.toNat_natCast, bs_extract]
/-- the text without the brackets at k and i -/
def cutF (s : Bs) (k i : Nat) : Bs := s.take k ++ (s.drop (k + 1)).take (i - (k + 1)) ++ s.drop (i + 1)
theorem cut_len {s : Bs} {k i : Nat} (h1 : k < i) (h2 : i < s.length) : (cutF s k i).length < s.length := by
  unfold cutF
  simp only [List.length_append, List.length_take, List.length_drop]
  omega
def ints (l : List Nat) : List Int := l.map Int.ofNat
theorem ints_len (l : List Nat) : (ints l).length = l.length := by simp [ints]
theorem ints_app (a b : List Nat) : ints (a ++ b) = ints a ++ ints b := by simp [ints]
theorem ints_take (a : List Nat) (k : Nat) : ints (a.take k) = (ints a).take k := by simp [ints, List.map_take]
set_option maxHeartbeats 8000000 in
set_option maxRecDepth 100000 in
theorem brkWritten_walk (W : World) (t : Bs) (l : Vs) (A : Option Addr) (c : Nat) (h : Kd.C kV W A l.length l) (hT : Tab W) :
    Calls Tryd.prog 3 #[.string (bs t), .slice A l.length c] W fun e W' => e = .returned (.bool true) ∧ Below W.heap.size W W' := by
  have HC := Aside0.mk h
  have HT := Aside0.mk hT
  clear h hT
  rcases parse_split t with ⟨x, hx, _⟩ | ⟨h1, _⟩
  · have hw : writeF t = (wr x 0, 0) := write_is hx
    have hv : valueF (wr x 0) l = valueF t l := value_same hx l
    have hw2 : writeF (wr x 0) = (wr x 0, 0) := write_is (written hx)
    have hsl : (wr x 0).length ≤ t.length := hx.short
    have htl : t.length ≤ 200 := hx.1
    have hz : Zb (wr x 0) := wr_bal x hx.wf 0
    clear hx
    generalize wr x 0 = s at hw hv hw2 hsl hz
    obtain ⟨v1, v2, hv1⟩ : ∃ v1 v2, valueF t l = (v1, v2) := ⟨_, _, rfl⟩
    rw [hv1] at hv
    have HW1 := Aside0.mk hw
    have HW2 := Aside0.mk hw2
    have HV1 := Aside0.mk hv1
    have HV2 := Aside0.mk hv
    have HZ := Aside0.mk hz
    have z1 : ¬ ((t.length : Int) < (s.length : Int)) := by omega
    clear hw hw2 hv1 hv hz
    go_enter Tryd.func3, Tryd.ntmps3
    go_upto_region 3 with (first
      | (go_at_call 9; refine (bbegun_calls _ HT.out).mono ?_; rintro e W0 ⟨rfl, hb0⟩; have HB0 := Aside0.mk hb0; clear hb0)
      | fail)
    go_upto_region 6 with (first
      | (go_at_call 10; refine (Write_calls t _ (Tab.below HT.out HB0.out)).mono ?_; rintro e W1 ⟨rfl, hb1⟩; rw [HW1.out]; have HB1 := Aside0.mk (below_step HB0.out hb1); clear hb1)
      | fail)
    go_upto_region 7 with (first
      | (go_at_call 11; refine (Value_calls t l _ A c (Kd.C_below HC.out HB1.out)).mono ?_; rintro e W2 ⟨rfl, hb2⟩; rw [HV1.out]; have HB2 := Aside0.mk (below_step HB1.out hb2); clear hb2)
      | fail)
    go_upto_region 8 with (first
      | (go_at_call 11; refine (Value_calls s l _ A c (Kd.C_below HC.out HB2.out)).mono ?_; rintro e W3 ⟨rfl, hb3⟩; rw [HV2.out]; have HB3 := Aside0.mk (below_step HB2.out hb3); clear hb3)
      | fail)
    go_upto_region 9 with (first
      | (go_at_call 10; refine (Write_calls s _ (Tab.below HT.out HB3.out)).mono ?_; rintro e W4 ⟨rfl, hb4⟩; rw [HW2.out]; have HB4 := Aside0.mk (below_step HB3.out hb4); clear hb4)
      | fail)
    go_wp2_with (fail)
    rw [show decide (t.length < s.length) = false from decide_eq_false (by omega)]
    go_loopw [13, 14] (fun v13 v14 wr => ∃ i : Nat, v14 = .int .i64 (i : Int) ∧ i ≤ s.length ∧ Aside0 (wr.ownsRow W.heap.size 3 1 v13 (ints (stkF (s.take i))).length (nums .i64 (ints (stkF (s.take i))))) ∧ Aside0 (Below W.heap.size W wr)) (fun _ v14 _ => s.length - (intOf v14).toNat)
    case atStart => exact ⟨0, rfl, Nat.zero_le _, ⟨own_nil _ _ _ _⟩, HB4⟩
    case round =>
      clear HB0 HB1 HB2 HB3 HB4 HW1 HW2 HV1 HV2
      obtain ⟨i, rfl, hi, HO, HB⟩ := hrel
      by_cases hlt : i < s.length
      · have zz : (i : Int) < (s.length : Int) := by omega
        obtain ⟨ch, hch⟩ : ∃ ch, s[i] = ch := ⟨_, rfl⟩
        have hidx : ∀ h, (bs s)[i]'h = ch := fun _ => hch
        have hs := stk_succ s i hlt
        rw [hch] at hs
        have HSC := Aside0.mk hs
        have HSL := Aside0.mk (stk_lt s i hi)
        have HSO := Aside0.mk (fun h41 : ch = 41 => stk_open HZ.out hlt (hch.trans h41))
        have HSN := Aside0.mk (show (stkF (s.take i)).length ≤ 200 by
          have := stk_count s HZ.out.1 i hi
          have h2 : (s.take i).count 40 ≤ (s.take i).length := List.count_le_length
          rw [List.length_take] at h2
          omega)
        clear hs hch hi
        by_cases h40 : ch = 40
        · subst h40
          have HS2 := Aside0.mk (show ints (stkF (s.take (i + 1))) = ints (stkF (s.take i)) ++ [(i : Int)] by
            have := HSC.out
            rw [if_pos rfl] at this
            rw [this, ints_app]
            rfl)
          have HLN := Aside0.mk (show (ints (stkF (s.take i))).length ≤ 200 by rw [ints_len]; exact HSN.out)
          clear HSC HSL HSO HSN
          generalize ints (stkF (s.take i)) = ss at HO HS2 HLN
          go_upto_region 17 with (at_builtin; refine print_append_row (w0 := W) W.heap.size rfl _ _ 29 3 .i64 8 rfl Tryd.underlying29 infoIntX (by decide) _ ss [(i : Int)] _ 1 1 rfl rfl (HO.out.alloc _) (reads_litX _ [(i : Int)] (by simp) _) (below_alloc HB.out _) (below_alloc HB.out _).size (by have := HLN.out; omega) ?_; intro v6 w6 hown hB hg hat; have HO6 := Aside0.mk hown; have HB6 := Aside0.mk hB; clear hown hB hg hat)
          go_wp2
          go_roundw
          case rel => exact ⟨i + 1, by go_num, by omega, ⟨by rw [HS2.out]; exact HO6.out⟩, HB6⟩
          case measure => simp [intOf]; omega
        · by_cases h41 : ch = 41
          · subst h41
            obtain ⟨q, hq⟩ : ∃ q, (stkF (s.take i)).length = q + 1 := ⟨(stkF (s.take i)).length - 1, by have := HSO.out rfl; omega⟩
            have hq2 : q < (stkF (s.take i)).length := by omega
            obtain ⟨k, hk⟩ : ∃ k, (stkF (s.take i))[q] = k := ⟨_, rfl⟩
            have hki : k < i := by rw [← hk]; exact HSL.out _ (List.getElem_mem _)
            have HS2 := Aside0.mk (show ints (stkF (s.take (i + 1))) = (ints (stkF (s.take i))).take q by
              have := HSC.out
              rw [if_neg (by decide), if_pos rfl] at this
              rw [this, List.dropLast_eq_take, ints_take, hq]
              rfl)
            have hgk : (ints (stkF (s.take i))).getD q 0 = (k : Int) := by
              rw [← hk]
              simp [ints, List.getD_eq_getElem?_getD, hq2]
            have hln : (ints (stkF (s.take i))).length = q + 1 := by rw [ints_len]; exact hq
            have hq200 : q ≤ 200 := by have := HSN.out; omega
            clear HSC HSL HSO HSN hq hk hq2
            generalize ints (stkF (s.take i)) = ss at HO HS2 hgk hln
            obtain ⟨A8, d8, rfl, hd8, hr8⟩ := own_rdX HO.out
            obtain ⟨ad8, rfl, hc8⟩ := hr8.2.2 (by omega)
            have kq : wr.cell? (ad8.add q) = some (.int .i64 (k : Int)) := by
              have h := hc8 q (by omega)
              rwa [hgk] at h
            have HT8 := Aside0.mk (own_takeX (m := q) HO.out (by omega))
            rw [show (ss.take q).length = q by rw [List.length_take]; omega] at HT8
            have HLS := Aside0.mk hln
            rw [hln] at hd8 ⊢
            clear hc8 hr8 hgk HO hln
            have hwq : IntKind.i64.wrap (((q + 1 : Nat) : Int) - 1) = (q : Int) := by rw [IntKind.wrap_i64]; omega
            have hq3 : (q : Int) < ((q + 1 : Nat) : Int) := by omega
            go_upto_region 20 with fail
            obtain ⟨r, er, hr⟩ : ∃ r er, writeF (cutF s k i) = (r, er) := ⟨_, _, rfl⟩
            have HR := Aside0.mk hr
            clear hr
            have hk1 : IntKind.i64.wrap ((k : Int) + 1) = ((k + 1 : Nat) : Int) := by rw [IntKind.wrap_i64]; omega
            have hi1 : IntKind.i64.wrap ((i : Int) + 1) = ((i + 1 : Nat) : Int) := by rw [IntKind.wrap_i64]; omega
            have hadd1 := str_add (s.take k) ((s.drop (k + 1)).take (i - (k + 1))) (by rw [List.length_take]; omega) (by rw [List.length_take, List.length_drop]; omega)
            have hadd2 := str_add (s.take k ++ (s.drop (k + 1)).take (i - (k + 1))) (s.drop (i + 1)) (by rw [List.length_append, List.length_take, List.length_take, List.length_drop]; omega) (by rw [List.length_drop]; omega)
            refine wp_eff (S := fun w' => Below wr.heap.size wr w') [(0, false), (1, false), (2, false), (3, false), (4, false), (5, false), (6, false), (7, false), (8, false), (9, false), (10, false), (11, false), (12, false), (13, false), (14, true), (15, false), (16, false), (17, false), (18, false), (19, false)] (by kernel_rfl) (by kernel_rfl) (below_drew1 (Below.refl _ _)) (fun _ _ d _ _ h => by cases d <;> exact h) ?_
            refine se_move (v := .string (bs s)) rfl rfl rfl ?_
            refine se_move (v := .int .i64 (k : Int)) rfl rfl rfl ?_
            refine se_slice (v := .string (bs (s.take k))) rfl rfl rfl rfl rfl rfl (fun w' _ => cut_to s k (by omega) w') ?_
            refine se_move (v := .string (bs s)) rfl rfl rfl ?_
            refine se_move (v := .int .i64 (k : Int)) rfl rfl rfl ?_
            refine se_bin (v := .int .i64 ((k + 1 : Nat) : Int)) rfl rfl rfl rfl (fun w' hw => by have h5 := hk1; go_simp) ?_
            refine se_move (v := .int .i64 (i : Int)) rfl rfl rfl ?_
            refine se_slice (v := .string (bs ((s.drop (k + 1)).take (i - (k + 1))))) rfl rfl rfl rfl rfl rfl (fun w' _ => cut_mid s (k + 1) i (by omega) (by omega) w') ?_
            refine se_bin (v := .string (bs (s.take k ++ (s.drop (k + 1)).take (i - (k + 1))))) rfl rfl rfl rfl (fun w' hw => by have h5 := hadd1; go_simp) ?_
            refine se_move (v := .string (bs s)) rfl rfl rfl ?_
            refine se_move (v := .int .i64 (i : Int)) rfl rfl rfl ?_
            refine se_bin (v := .int .i64 ((i + 1 : Nat) : Int)) rfl rfl rfl rfl (fun w' hw => by have h5 := hi1; go_simp) ?_
            refine se_slice (v := .string (bs (s.drop (i + 1)))) rfl rfl rfl rfl rfl rfl (fun w' _ => cut_from s (i + 1) (by omega) w') ?_
            refine se_bin (v := .string (bs (cutF s k i))) rfl rfl rfl rfl (fun w' hw => by have h5 := hadd2; rw [List.append_assoc] at h5; go_simp; unfold cutF; rw [List.append_assoc]) ?_
            refine se_call (vs := [.string (bs (cutF s k i))]) rfl rfl Tryd.func10 (by kernel_rfl) rfl (by kernel_rfl) ?_
            refine (Write_calls (cutF s k i) _ (Tab.below (Tab.below HT.out HB.out) (below_drew1 (Below.refl _ _)))).mono ?_
            rintro e W5 ⟨rfl, hb5⟩
            rw [HR.out]
            have hb6 := below_step (below_drew1 (Below.refl wr.heap.size wr)) hb5
            refine ⟨_, rfl, hb6, ?_⟩
            refine se_move (v := .tuple #[.string (bs r), .int .i64 er]) rfl rfl rfl ?_
            refine se_un (v := .string (bs r)) rfl rfl rfl rfl rfl (fun w' hw => by go_simp) ?_
            refine se_un (v := .int .i64 er) rfl rfl rfl rfl rfl (fun w' hw => by go_simp) ?_
            refine se_assign (v := .string (bs r)) rfl rfl rfl ?_
            refine se_assign (v := .int .i64 er) rfl rfl rfl ?_
            intro _
            have HO5 := Aside0.mk (own_move HT8.out (fun b hb => hb6.block b (own_lt HT8.out b hb)))
            have HB5 := Aside0.mk (below_step HB.out hb6)
            have HNE := Aside0.mk (show er = 0 → ((bs r).toList == (bs s).toList) = false ∧ (r == s) = false ∧ ¬ r = s from fun e0 => by
              subst e0
              have h1 := write_short HR.out
              have h2 := cut_len hki hlt
              have h0 : ¬ r = s := fun e => by rw [e] at h1; omega
              refine ⟨str_ne (fun e => ?_), beq_eq_false_iff_ne.2 h0, h0⟩
              have h3 := congrArg ByteArray.size e
              rw [bs_size, bs_size] at h3
              omega)
            clear hb5 hb6 hk1 hi1 hadd1 hadd2 HT8 HR HB hwq hq3 kq
            simp only [puts, Act.put, List.setIfInBounds_toArray, List.set_cons_zero, List.set_cons_succ]
            have HTL := Aside0.mk (show (ss.take q).length = q by rw [List.length_take]; have := HLS.out; omega)
            by_cases ze : er = 0
            · subst ze
              have hne := (HNE.out rfl).1
              have hne2 := (HNE.out rfl).2.1
              have hne3 := (HNE.out rfl).2.2
              clear HNE
              go_wp2
              go_roundw
              case rel => exact ⟨i + 1, by go_num, by omega, ⟨by rw [HS2.out, HTL.out]; exact HO5.out⟩, HB5⟩
              case measure => simp [intOf]; omega
            · have n1 : (er == (0 : Int)) = false := by simpa using ze
              clear HNE
              go_wp2
              go_roundw
              case rel => exact ⟨i + 1, by go_num, by omega, ⟨by rw [HS2.out, HTL.out]; exact HO5.out⟩, HB5⟩
              case measure => simp [intOf]; omega
          · have c40 : ((ch.toNat : Int) == 40) = false := by
              rw [beq_eq_false_iff_ne]
              intro e
              exact h40 (UInt8.toNat_inj.1 (by have : ch.toNat = 40 := by omega
                                               rw [this]; rfl))
            have c41 : ((ch.toNat : Int) == 41) = false := by
              rw [beq_eq_false_iff_ne]
              intro e
              exact h41 (UInt8.toNat_inj.1 (by have : ch.toNat = 41 := by omega
                                               rw [this]; rfl))
            have HS2 := Aside0.mk (show stkF (s.take (i + 1)) = stkF (s.take i) by
              have := HSC.out
              rwa [if_neg h40, if_neg h41] at this)
            clear HSC HSL HSO HSN h40 h41
            go_wp2
            go_roundw
            case rel => exact ⟨i + 1, by go_num, by omega, ⟨by rw [HS2.out]; exact HO.out⟩, HB⟩
            case measure => simp [intOf]; omega
      · obtain rfl : i = s.length := by omega
        clear hlt hi
        go_wp2_with (first
          | (go_at_call 9; refine (bbegun_calls _ (Tab.below HT.out HB.out)).mono ?_; rintro e W8 ⟨rfl, hb8⟩; have HB8 := Aside0.mk (below_step HB.out hb8); clear hb8)
          | fail)
        exact bodyPost_ret (v := .bool true) (by simp [results, Tryd.f3, go_sem]) rfl ⟨rfl, HB8.out⟩
  · obtain ⟨er, her⟩ : ∃ er, (parseF t).2 = er := ⟨_, rfl⟩
    rw [her] at h1
    have HW1 := Aside0.mk (show writeF t = ([], er) by unfold writeF; rw [her, if_pos h1])
    have n1 : (er == (0 : Int)) = false := by simpa using h1
    clear her
    go_enter Tryd.func3, Tryd.ntmps3
    go_upto_region 3 with (first
      | (go_at_call 9; refine (bbegun_calls _ HT.out).mono ?_; rintro e W0 ⟨rfl, hb0⟩; have HB0 := Aside0.mk hb0; clear hb0)
      | fail)
    go_upto_region 5 with (first
      | (go_at_call 10; refine (Write_calls t _ (Tab.below HT.out HB0.out)).mono ?_; rintro e W1 ⟨rfl, hb1⟩; rw [HW1.out]; have HB1 := Aside0.mk (below_step HB0.out hb1); clear hb1)
      | fail)
    go_wp2_with (first
      | (go_at_call 9; refine (bbegun_calls _ (Tab.below HT.out HB1.out)).mono ?_; rintro e W8 ⟨rfl, hb8⟩; have HB8 := Aside0.mk (below_step HB1.out hb8); clear hb8)
      | fail)
    exact bodyPost_ret (v := .bool true) (by simp [results, Tryd.f3, go_sem]) rfl ⟨rfl, HB8.out⟩
end Go.Proofs.YtmageoieajhhdaaDoor.Bk
