/- RowsMerged: its walk. -/
import Derived.Test.YtblalidpeccababRowsY
namespace Go.Proofs.Ytblalidpeccabab.Rw
open Go Go.RowKit Go.Lib Go.Proofs.YtblalidpeccababW.PrintWords Go.Proofs.YtblalidpeccababW.PrintLast Go.Proofs.YtblalidpeccababW.PrintMore Go.Proofs.Ytblalidpeccabab.PRowsThree Go.Proofs.Ytblalidpeccabab.Bs Go.Proofs.Ytblalidpeccabab.RegionVal Go.Proofs.Ytblalidpeccabab.Open
set_option linter.unusedVariables false
set_option linter.unusedSimpArgs false

set_option maxRecDepth 100000 in
theorem eq53_same (x : S53) (W : World) : Sem.run Try.prog (binOp .eql 53 (v53 x) (v53 x)) W = .ok (.bool true) W := by
  have hu53 := Try.underlying53
  unfold v53 c53
  go_simp
set_option maxRecDepth 100000 in
theorem eq53_ne (x y : S53) (h : ky x ≠ ky y) (W : World) : Sem.run Try.prog (binOp .eql 53 (v53 x) (v53 y)) W = .ok (.bool false) W := by
  have hu53 := Try.underlying53
  have h1 : x.f1 ≠ y.f1 := h
  unfold v53 c53
  go_simp
set_option maxRecDepth 100000 in
theorem eqG_same (i j : Nat) (x : S53) (W : World) : Sem.run Try.prog (do eqGuard .eql 53 (.tmp i) (.tmp j) (v53 x) (v53 x); binOp .eql 53 (v53 x) (v53 x) : Sem Value) W = .ok (.bool true) W := by
  have hu53 := Try.underlying53
  unfold v53 c53
  go_simp
set_option maxRecDepth 100000 in
theorem eqG_ne (i j : Nat) (x y : S53) (hk : ky x ≠ ky y) (W : World) : Sem.run Try.prog (do eqGuard .eql 53 (.tmp i) (.tmp j) (v53 x) (v53 y); binOp .eql 53 (v53 x) (v53 y) : Sem Value) W = .ok (.bool false) W := by
  have hu53 := Try.underlying53
  have h1 : x.f1 ≠ y.f1 := hk
  unfold v53 c53
  go_simp
theorem merged_nil_r {a x : List S53} {r : Int} (h : Merged a [] r x) (hs : Srt ky a) (hl : a.length ≤ 200) : r = 0 ∧ x = a := by
  rcases h with ⟨_, _, h⟩ | ⟨_, _, _, h⟩ | ⟨h1, _, _, _, h2⟩
  · simp at h; omega
  · exact absurd ⟨hs, Srt.nil⟩ h
  · exact ⟨h1, h2.trans (mrg_nil_right a)⟩
theorem merged_nil_l {a x : List S53} {r : Int} (h : Merged [] a r x) (hs : Srt ky a) (hl : a.length ≤ 200) : r = 0 ∧ x = a := by
  rcases h with ⟨_, _, h⟩ | ⟨_, _, _, h⟩ | ⟨h1, _, _, _, h2⟩
  · simp at h; omega
  · exact absurd ⟨Srt.nil, hs⟩ h
  · exact ⟨h1, h2.trans (mrg_nil_left a)⟩
/-- the merge's next one is the left list's -/
theorem mrg_left {a l m : List S53} {n i k : Nat} (h : a.drop n = mrg ky (l.drop i) (m.drop k)) (hi : i < l.length) (hk : (hk : k < m.length) → ¬ ky m[k] < ky l[i]) :
    ∃ hn : n < a.length, a[n] = l[i] ∧ a.drop (n + 1) = mrg ky (l.drop (i + 1)) (m.drop k) := by
  have e : mrg ky (l.drop i) (m.drop k) = l[i] :: mrg ky (l.drop (i + 1)) (m.drop k) := by
    rw [List.drop_eq_getElem_cons hi]
    by_cases h2 : k < m.length
    · rw [List.drop_eq_getElem_cons h2, mrg_cons, if_neg (hk h2)]
    · rw [List.drop_eq_nil_of_le (show m.length ≤ k by omega), mrg_nil_right, mrg_nil_right]
  rw [e] at h
  have hn : n < a.length := by
    rcases Nat.lt_or_ge n a.length with h3 | h3
    · exact h3
    · rw [List.drop_eq_nil_of_le h3] at h; cases h
  rw [List.drop_eq_getElem_cons hn] at h
  exact ⟨hn, (List.cons.inj h).1, (List.cons.inj h).2⟩
theorem mrg_right {a l m : List S53} {n i k : Nat} (h : a.drop n = mrg ky (l.drop i) (m.drop k)) (hk : k < m.length) (hi : (hi : i < l.length) → ky m[k] < ky l[i]) :
    ∃ hn : n < a.length, a[n] = m[k] ∧ a.drop (n + 1) = mrg ky (l.drop i) (m.drop (k + 1)) := by
  have e : mrg ky (l.drop i) (m.drop k) = m[k] :: mrg ky (l.drop i) (m.drop (k + 1)) := by
    rw [List.drop_eq_getElem_cons hk]
    by_cases h2 : i < l.length
    · rw [List.drop_eq_getElem_cons h2, mrg_cons, if_pos (hi h2)]
    · rw [List.drop_eq_nil_of_le (show l.length ≤ i by omega), mrg_nil_left, mrg_nil_left]
  rw [e] at h
  have hn : n < a.length := by
    rcases Nat.lt_or_ge n a.length with h3 | h3
    · exact h3
    · rw [List.drop_eq_nil_of_le h3] at h; cases h
  rw [List.drop_eq_getElem_cons hn] at h
  exact ⟨hn, (List.cons.inj h).1, (List.cons.inj h).2⟩
/-- three lists that lie as they lay -/
structure St (w : World) (Aa A1 A2 : Option Addr) (a l m : List S53) (W : World) : Prop where mk ::
  b : Below w.heap.size w W
  a : Kd.C k53 W Aa a.length a
  l : Kd.C k53 W A1 l.length l
  m : Kd.C k53 W A2 m.length m
theorem St.below {w : World} {Aa A1 A2 : Option Addr} {a l m : List S53} {W W' : World} (h : St w Aa A1 A2 a l m W) (hb : Below W.heap.size W W') : St w Aa A1 A2 a l m W' :=
  ⟨below_then h.b h.b.size hb, Kd.C_below h.a hb, Kd.C_below h.l hb, Kd.C_below h.m hb⟩
/-- an event's step, read -/
theorem C_step {W : World} {ad : Addr} {n : Nat} {xs : List S53} (h : Kd.C k53 W (some ad) n xs) (i : Nat) (hi : i < xs.length) : Sem.run Try.prog (Instr.loadAt 3 (.pointer (some ⟨(ad.add (i * 12)).block, (ad.add (i * 12)).off + 1, none⟩))) W = .ok (.int .i64 (ky xs[i])) W := by
  obtain ⟨ad', e, h0, h1, _⟩ := at_T53 h (i : Int) (by omega) (by have := h.1; omega)
  obtain rfl := Option.some.inj e
  rw [Int.toNat_natCast, show rd_T53 xs (i : Int) = xs[i] by simp [rd_T53, List.getD_eq_getElem?_getD, hi]] at h1
  show _ = Result.ok (Value.int .i64 xs[i].f1) W
  clear h0
  go_simp

set_option maxHeartbeats 16000000 in
set_option maxRecDepth 100000 in
theorem rowsMerged_row (w : World) (A1 : Option Addr) (c1 : Nat) (l : List S53) (lc1 : l.length ≤ c1) (h1 : Kd.C k53 w A1 l.length l) (b1 : l.length ≤ 140737488351232 ∧ ∀ a ∈ l, Ev64 a) (A2 : Option Addr) (c2 : Nat) (m : List S53) (lc2 : m.length ≤ c2) (h2 : Kd.C k53 w A2 m.length m) (b2 : m.length ≤ 140737488351232 ∧ ∀ a ∈ m, Ev64 a) :
    Calls Try.prog 7 #[.slice A1 l.length c1, .slice A2 m.length c2] w fun e w' => e = .returned (.bool true) ∧ Below w.heap.size w w' := by
  have H1 := Aside0.mk h1
  have H2 := Aside0.mk h2
  have hl := b1.1
  have hm := b2.1
  clear h1 h2 b1 b2
  go_enter Try.func7, Try.ntmps7
  go_wp2_with fail
  refine (begun_calls _).mono ?_
  rintro e w1 ⟨rfl, hb⟩
  have HB1 := Aside0.mk hb
  clear hb
  go_wp2_with fail
  refine (merge_calls _ A1 A2 c1 c2 l m (Kd.C_below H1.out HB1.out) (Kd.C_below H2.out HB1.out) lc1 lc2 hl hm).mono ?_
  rintro e w2 ⟨va, r1, a, rfl, hO, hb, hM⟩
  have HB2 := Aside0.mk (below_then HB1.out HB1.out.size hb)
  have HM1 := Aside0.mk hM
  obtain ⟨Aa, ca, rfl, hca, hCa⟩ := Kd.R_reads hO
  have HCa := Aside0.mk hCa
  clear hb hM hO hCa HB1
  by_cases hr : r1 = 0
  · subst hr
    have hal := merged_len HM1.out
    obtain ⟨s1, s2, s3, s4⟩ := merged_ok HM1.out
    have HS := Aside0.mk (show Srt ky a by rw [s3]; exact mrg_srt _ _ s1 s2)
    have HALL := Aside0.mk (show a.length = l.length + m.length by rw [s3]; exact mrg_len l m)
    have HST := Aside0.mk (St.mk HB2.out HCa.out (Kd.C_below H1.out HB2.out) (Kd.C_below H2.out HB2.out))
    have hl2 : l.length ≤ 200 := by omega
    have hm2 : m.length ≤ 200 := by omega
    have H0 := Aside0.mk (show a.drop 0 = mrg ky (l.drop 0) (m.drop 0) from s3)
    clear s1 s2 s3 s4 HM1 HCa HB2 H1 H2
    go_wp2_with fail
    go_loopw [7, 8, 9] (fun vi vk vn wr => ∃ (i k n : Nat), vi = .int .i64 (i : Int) ∧ vk = .int .i64 (k : Int) ∧ vn = .int .i64 (n : Int) ∧ i ≤ l.length ∧ k ≤ m.length ∧ n ≤ a.length ∧ Aside0 (a.drop n = mrg ky (l.drop i) (m.drop k)) ∧ Aside0 (St w Aa A1 A2 a l m wr)) (fun _ _ vn _ => a.length - (intOf vn).toNat)
    case atStart => exact ⟨0, 0, 0, rfl, rfl, rfl, Nat.zero_le _, Nat.zero_le _, Nat.zero_le _, H0, HST⟩
    case round =>
      clear HST H0
      obtain ⟨i, k, n, rfl, rfl, rfl, hi, hk, hn, HD, HST⟩ := hrel
      by_cases hlt : n < a.length
      · have hn1 : (n : Int) < (a.length : Int) := by omega
        obtain ⟨ada, rfl⟩ := C_addr HST.out.a (show 0 < a.length by omega)
        obtain ⟨z, hz⟩ : ∃ z, z = a[n] := ⟨_, rfl⟩
        have HZ := Aside0.mk (show ∀ w', St w (some ada) A1 A2 a l m w' → Sem.run Try.prog (Instr.loadAt 53 (.pointer (some (ada.add (n * 12))))) w' = .ok (v53 z) w' from fun w' hb => by rw [hz]; exact C_load hb.a n hlt)
        have HZ3 := Aside0.mk (show ∀ w', St w (some ada) A1 A2 a l m w' → Sem.run Try.prog (Instr.loadAt 3 (.pointer (some ⟨(ada.add (n * 12)).block, (ada.add (n * 12)).off + 1, none⟩))) w' = .ok (.int .i64 (ky z)) w' from fun w' hb => by rw [hz]; exact C_step hb.a n hlt)
        have HZA := Aside0.mk (show z = a[n] from hz)
        clear hz
        by_cases hn0 : n = 0
        case' pos =>
          have hn0b : (n : Int) ≤ 0 := by omega
          have hn0c : n ≤ 0 := by omega
          clear hn0
          go_wp2_with fail
          refine wp_eff (S := fun w' => St w (some ada) A1 A2 a l m w') [(0, false), (1, false), (2, false), (3, false), (4, false), (5, false), (6, false), (7, false), (8, false), (9, false), (10, false), (11, false), (12, false), (13, false), (14, false), (15, false)] (by kernel_rfl) (by kernel_rfl) (HST.out.below (below_drew1 (Below.refl _ _))) (fun _ _ d _ _ h => by cases d <;> exact h) ?_
          refine se_move rfl rfl rfl ?_
          refine se_bin (v := .bool false) rfl rfl rfl rfl (fun w' hw => by go_simp) ?_
          refine se_move rfl rfl rfl ?_
          refine se_skip rfl rfl ?_
          refine se_skip rfl rfl ?_
          refine se_skip rfl rfl ?_
          refine se_skip rfl rfl ?_
          refine se_skip rfl rfl ?_
          refine se_skip rfl rfl ?_
          refine se_skip rfl rfl ?_
          refine se_skip rfl rfl ?_
          refine se_skip rfl rfl ?_
          refine se_skip rfl rfl ?_
          refine se_skip rfl rfl ?_
          refine se_skip rfl rfl ?_
          refine se_pickF rfl rfl rfl rfl ?_
          intro hR_
          have HST2 := Aside0.mk hR_
          clear hR_ HST
          have HST := HST2
          clear HST2
          simp only [SeqE, puts, Act.put, List.setIfInBounds_toArray, List.set_cons_zero, List.set_cons_succ]
        case' neg =>
          obtain ⟨q, hq⟩ : ∃ q, n = q + 1 := ⟨n - 1, by omega⟩
          have hqa : q < a.length := by omega
          obtain ⟨y, hy⟩ : ∃ y, y = a[q] := ⟨_, rfl⟩
          have HY3 := Aside0.mk (show ∀ w', St w (some ada) A1 A2 a l m w' → Sem.run Try.prog (Instr.loadAt 3 (.pointer (some ⟨(ada.add (q * 12)).block, (ada.add (q * 12)).off + 1, none⟩))) w' = .ok (.int .i64 (ky y)) w' from fun w' hb => by rw [hy]; exact C_step hb.a q hqa)
          have hzy : ¬ ky z < ky y := by
            subst hq
            rw [HZA.out, hy]
            exact srt_atJ hlt HS.out
          have hn0b : (0 : Int) < (n : Int) := by omega
          have hn0c : 0 < n := by omega
          have hwq : IntKind.i64.wrap ((n : Int) - 1) = (q : Int) := by rw [IntKind.wrap_i64]; omega
          have hqa1 : (q : Int) < (a.length : Int) := by omega
          clear hq hy hn0
          go_wp2_with fail
          refine wp_eff (S := fun w' => St w (some ada) A1 A2 a l m w') [(0, false), (1, false), (2, false), (3, false), (4, false), (5, false), (6, false), (7, false), (8, false), (9, false), (10, false), (11, false), (12, false), (13, false), (14, false), (15, false)] (by kernel_rfl) (by kernel_rfl) (HST.out.below (below_drew1 (Below.refl _ _))) (fun _ _ d _ _ h => by cases d <;> exact h) ?_
          refine se_move rfl rfl rfl ?_
          refine se_bin (v := .bool true) rfl rfl rfl rfl (fun w' hw => by go_simp) ?_
          refine se_move rfl rfl rfl ?_
          refine se_move rfl rfl rfl ?_
          refine se_move rfl rfl rfl ?_
          refine se_indexAddr (v := .pointer (some (ada.add (n * 12)))) rfl rfl rfl rfl (fun w' hw => by go_simp) ?_
          refine se_un (v := .pointer (some ⟨(ada.add (n * 12)).block, (ada.add (n * 12)).off + 1, none⟩)) rfl rfl rfl rfl rfl (fun w' hw => by go_simp) ?_
          refine se_load (v := (.int .i64 (ky z))) rfl rfl rfl (fun w' hw => HZ3.out w' hw) ?_
          refine se_move rfl rfl rfl ?_
          refine se_move rfl rfl rfl ?_
          refine se_bin (v := .int .i64 ((q : Nat) : Int)) rfl rfl rfl rfl (fun w' hw => by go_simp) ?_
          refine se_indexAddr (v := .pointer (some (ada.add (q * 12)))) rfl rfl rfl rfl (fun w' hw => by go_simp) ?_
          refine se_un (v := .pointer (some ⟨(ada.add (q * 12)).block, (ada.add (q * 12)).off + 1, none⟩)) rfl rfl rfl rfl rfl (fun w' hw => by go_simp) ?_
          refine se_load (v := (.int .i64 (ky y))) rfl rfl rfl (fun w' hw => HY3.out w' hw) ?_
          refine se_bin (v := .bool false) rfl rfl rfl rfl (fun w' hw => by go_simp) ?_
          refine se_pickT rfl rfl rfl rfl ?_
          intro hR_
          have HST2 := Aside0.mk hR_
          clear hR_ HST
          have HST := HST2
          clear HST2
          simp only [SeqE, puts, Act.put, List.setIfInBounds_toArray, List.set_cons_zero, List.set_cons_succ]
        all_goals
          by_cases hil : i < l.length
          case' pos =>
            obtain ⟨adl, rfl⟩ := C_addr HST.out.l (show 0 < l.length by omega)
            obtain ⟨x, hx⟩ : ∃ x, x = l[i] := ⟨_, rfl⟩
            have HX := Aside0.mk (show ∀ w', St w (some ada) (some adl) A2 a l m w' → Sem.run Try.prog (Instr.loadAt 53 (.pointer (some (adl.add (i * 12))))) w' = .ok (v53 x) w' from fun w' hb => by rw [hx]; exact C_load hb.l i hil)
            have HXL := Aside0.mk hx
            have hil1 : (i : Int) < (l.length : Int) := by omega
            clear hx
            by_cases hQ : ∃ h : k < m.length, ky m[k] < ky l[i]
            case' pos =>
              obtain ⟨hkm, hlt2⟩ := hQ
              obtain ⟨hn', hzm, hdm⟩ := mrg_right HD.out hkm (fun _ => hlt2)
              have HZM := Aside0.mk (show z = m[k] from HZA.out.trans hzm)
              have HD2 := Aside0.mk hdm
              obtain ⟨adm, rfl⟩ := C_addr HST.out.m (show 0 < m.length by omega)
              have HZk := Aside0.mk (show ∀ w', St w (some ada) (some adl) (some adm) a l m w' → Sem.run Try.prog (Instr.loadAt 53 (.pointer (some (adm.add (k * 12))))) w' = .ok (v53 z) w' from fun w' hb => by rw [HZM.out]; exact C_load hb.m k hkm)
              have hkm1 : (k : Int) < (m.length : Int) := by omega
              have HZX := Aside0.mk (show ky z ≠ ky x by rw [HZM.out, HXL.out]; omega)
              clear hlt2 hzm hdm
              go_wp2_with fail
              refine wp_eff (S := fun w' => St w (some ada) (some adl) (some adm) a l m w') [(0, false), (1, false), (2, false), (3, false), (4, false), (5, false), (6, false), (7, false), (8, false), (9, false), (10, false), (11, false), (12, false), (13, false), (14, false)] (by kernel_rfl) (by kernel_rfl) (HST.out.below (below_drew1 (Below.refl _ _))) (fun _ _ d _ _ h => by cases d <;> exact h) ?_
              refine se_move rfl rfl rfl ?_
              refine se_move rfl rfl rfl ?_
              refine se_builtin (v := .int .i64 ((l.length : Nat) : Int)) rfl rfl rfl (fun w' hw => by go_simp) ?_
              refine se_bin (v := .bool true) rfl rfl rfl rfl (fun w' hw => by go_simp) ?_
              refine se_move rfl rfl rfl ?_
              refine se_move rfl rfl rfl ?_
              refine se_move rfl rfl rfl ?_
              refine se_indexAddr (v := .pointer (some (ada.add (n * 12)))) rfl rfl rfl rfl (fun w' hw => by go_simp) ?_
              refine se_load (v := (v53 z)) rfl rfl rfl (fun w' hw => HZ.out w' hw) ?_
              refine se_move rfl rfl rfl ?_
              refine se_move rfl rfl rfl ?_
              refine se_indexAddr (v := .pointer (some (adl.add (i * 12)))) rfl rfl rfl rfl (fun w' hw => by go_simp) ?_
              refine se_load (v := (v53 x)) rfl rfl rfl (fun w' hw => (fun w' hb => HX.out w' hb) w' hw) ?_
              refine se_bin (v := .bool false) rfl rfl rfl rfl (fun w' hw => (eqG_ne _ _ z x HZX.out) w') ?_
              refine se_pickT rfl rfl rfl rfl ?_
              intro hR_
              have HST2 := Aside0.mk hR_
              clear hR_ HST
              have HST := HST2
              clear HST2
              simp only [SeqE, puts, Act.put, List.setIfInBounds_toArray, List.set_cons_zero, List.set_cons_succ]
              go_wp2_with fail
              refine wp_eff (S := fun w' => St w (some ada) (some adl) (some adm) a l m w') [(0, false), (1, false), (2, false), (3, false), (4, false), (5, false), (6, false), (7, false), (8, false), (9, false), (10, false), (11, false), (12, false), (13, false), (14, false)] (by kernel_rfl) (by kernel_rfl) (HST.out.below (below_drew1 (Below.refl _ _))) (fun _ _ d _ _ h => by cases d <;> exact h) ?_
              refine se_move rfl rfl rfl ?_
              refine se_move rfl rfl rfl ?_
              refine se_builtin (v := .int .i64 ((m.length : Nat) : Int)) rfl rfl rfl (fun w' hw => by go_simp) ?_
              refine se_bin (v := .bool true) rfl rfl rfl rfl (fun w' hw => by go_simp) ?_
              refine se_move rfl rfl rfl ?_
              refine se_move rfl rfl rfl ?_
              refine se_move rfl rfl rfl ?_
              refine se_indexAddr (v := .pointer (some (ada.add (n * 12)))) rfl rfl rfl rfl (fun w' hw => by go_simp) ?_
              refine se_load (v := (v53 z)) rfl rfl rfl (fun w' hw => HZ.out w' hw) ?_
              refine se_move rfl rfl rfl ?_
              refine se_move rfl rfl rfl ?_
              refine se_indexAddr (v := .pointer (some (adm.add (k * 12)))) rfl rfl rfl rfl (fun w' hw => by go_simp) ?_
              refine se_load (v := (v53 z)) rfl rfl rfl (fun w' hw => HZk.out w' hw) ?_
              refine se_bin (v := .bool true) rfl rfl rfl rfl (fun w' hw => (eqG_same _ _ z) w') ?_
              refine se_pickT rfl rfl rfl rfl ?_
              intro hR_
              have HST2 := Aside0.mk hR_
              clear hR_ HST
              have HST := HST2
              clear HST2
              simp only [SeqE, puts, Act.put, List.setIfInBounds_toArray, List.set_cons_zero, List.set_cons_succ]
              have HDD := HD2
              go_wp2
              go_roundw
              case rel => exact ⟨i, k + 1, n + 1, rfl, by go_num, by go_num, hi, hkm, hlt, HDD, HST⟩
              case measure => simp [intOf]; omega
            case' neg =>
              obtain ⟨hn', hzl, hdl⟩ := mrg_left HD.out hil (fun h h2 => hQ ⟨h, h2⟩)
              have HZL := Aside0.mk (show x = z from HXL.out.trans (HZA.out.trans hzl).symm)
              have HX2 := Aside0.mk (show ∀ w', St w (some ada) (some adl) A2 a l m w' → Sem.run Try.prog (Instr.loadAt 53 (.pointer (some (adl.add (i * 12))))) w' = .ok (v53 z) w' from fun w' hb => by rw [← HZL.out]; exact HX.out w' hb)
              have HD2 := Aside0.mk hdl
              clear hQ hzl hdl
              go_wp2_with fail
              refine wp_eff (S := fun w' => St w (some ada) (some adl) A2 a l m w') [(0, false), (1, false), (2, false), (3, false), (4, false), (5, false), (6, false), (7, false), (8, false), (9, false), (10, false), (11, false), (12, false), (13, false), (14, false)] (by kernel_rfl) (by kernel_rfl) (HST.out.below (below_drew1 (Below.refl _ _))) (fun _ _ d _ _ h => by cases d <;> exact h) ?_
              refine se_move rfl rfl rfl ?_
              refine se_move rfl rfl rfl ?_
              refine se_builtin (v := .int .i64 ((l.length : Nat) : Int)) rfl rfl rfl (fun w' hw => by go_simp) ?_
              refine se_bin (v := .bool true) rfl rfl rfl rfl (fun w' hw => by go_simp) ?_
              refine se_move rfl rfl rfl ?_
              refine se_move rfl rfl rfl ?_
              refine se_move rfl rfl rfl ?_
              refine se_indexAddr (v := .pointer (some (ada.add (n * 12)))) rfl rfl rfl rfl (fun w' hw => by go_simp) ?_
              refine se_load (v := (v53 z)) rfl rfl rfl (fun w' hw => HZ.out w' hw) ?_
              refine se_move rfl rfl rfl ?_
              refine se_move rfl rfl rfl ?_
              refine se_indexAddr (v := .pointer (some (adl.add (i * 12)))) rfl rfl rfl rfl (fun w' hw => by go_simp) ?_
              refine se_load (v := (v53 z)) rfl rfl rfl (fun w' hw => HX2.out w' hw) ?_
              refine se_bin (v := .bool true) rfl rfl rfl rfl (fun w' hw => (eqG_same _ _ z) w') ?_
              refine se_pickT rfl rfl rfl rfl ?_
              intro hR_
              have HST2 := Aside0.mk hR_
              clear hR_ HST
              have HST := HST2
              clear HST2
              simp only [SeqE, puts, Act.put, List.setIfInBounds_toArray, List.set_cons_zero, List.set_cons_succ]
              have HDD := HD2
              go_wp2
              go_roundw
              case rel => exact ⟨i + 1, k, n + 1, by go_num, rfl, by go_num, hil, hk, hlt, HDD, HST⟩
              case measure => simp [intOf]; omega
          case' neg =>
            have hle1 : l.length ≤ i := by omega
            have hle2 : (l.length : Int) ≤ (i : Int) := by omega
            have hkm : k < m.length := by
              rcases Nat.lt_or_ge k m.length with h | h
              · exact h
              · have h2 := HD.out
                rw [List.drop_eq_nil_of_le (show l.length ≤ i from hle1), List.drop_eq_nil_of_le (show m.length ≤ k from h), mrg_nil_left] at h2
                have h3 := congrArg List.length h2
                rw [List.length_drop, List.length_nil] at h3
                omega
            obtain ⟨hn', hzm, hdm⟩ := mrg_right HD.out hkm (fun h => absurd h hil)
            have HZM := Aside0.mk (show z = m[k] from HZA.out.trans hzm)
            have HD2 := Aside0.mk hdm
            obtain ⟨adm, rfl⟩ := C_addr HST.out.m (show 0 < m.length by omega)
            have HZk := Aside0.mk (show ∀ w', St w (some ada) A1 (some adm) a l m w' → Sem.run Try.prog (Instr.loadAt 53 (.pointer (some (adm.add (k * 12))))) w' = .ok (v53 z) w' from fun w' hb => by rw [HZM.out]; exact C_load hb.m k hkm)
            have hkm1 : (k : Int) < (m.length : Int) := by omega
            clear hil hzm hdm
            go_wp2_with fail
            refine wp_eff (S := fun w' => St w (some ada) A1 (some adm) a l m w') [(0, false), (1, false), (2, false), (3, false), (4, false), (5, false), (6, false), (7, false), (8, false), (9, false), (10, false), (11, false), (12, false), (13, false), (14, false)] (by kernel_rfl) (by kernel_rfl) (HST.out.below (below_drew1 (Below.refl _ _))) (fun _ _ d _ _ h => by cases d <;> exact h) ?_
            refine se_move rfl rfl rfl ?_
            refine se_move rfl rfl rfl ?_
            refine se_builtin (v := .int .i64 ((l.length : Nat) : Int)) rfl rfl rfl (fun w' hw => by go_simp) ?_
            refine se_bin (v := .bool false) rfl rfl rfl rfl (fun w' hw => by go_simp) ?_
            refine se_move rfl rfl rfl ?_
            refine se_skip rfl rfl ?_
            refine se_skip rfl rfl ?_
            refine se_skip rfl rfl ?_
            refine se_skip rfl rfl ?_
            refine se_skip rfl rfl ?_
            refine se_skip rfl rfl ?_
            refine se_skip rfl rfl ?_
            refine se_skip rfl rfl ?_
            refine se_skip rfl rfl ?_
            refine se_pickF rfl rfl rfl rfl ?_
            intro hR_
            have HST2 := Aside0.mk hR_
            clear hR_ HST
            have HST := HST2
            clear HST2
            simp only [SeqE, puts, Act.put, List.setIfInBounds_toArray, List.set_cons_zero, List.set_cons_succ]
            go_wp2_with fail
            refine wp_eff (S := fun w' => St w (some ada) A1 (some adm) a l m w') [(0, false), (1, false), (2, false), (3, false), (4, false), (5, false), (6, false), (7, false), (8, false), (9, false), (10, false), (11, false), (12, false), (13, false), (14, false)] (by kernel_rfl) (by kernel_rfl) (HST.out.below (below_drew1 (Below.refl _ _))) (fun _ _ d _ _ h => by cases d <;> exact h) ?_
            refine se_move rfl rfl rfl ?_
            refine se_move rfl rfl rfl ?_
            refine se_builtin (v := .int .i64 ((m.length : Nat) : Int)) rfl rfl rfl (fun w' hw => by go_simp) ?_
            refine se_bin (v := .bool true) rfl rfl rfl rfl (fun w' hw => by go_simp) ?_
            refine se_move rfl rfl rfl ?_
            refine se_move rfl rfl rfl ?_
            refine se_move rfl rfl rfl ?_
            refine se_indexAddr (v := .pointer (some (ada.add (n * 12)))) rfl rfl rfl rfl (fun w' hw => by go_simp) ?_
            refine se_load (v := (v53 z)) rfl rfl rfl (fun w' hw => HZ.out w' hw) ?_
            refine se_move rfl rfl rfl ?_
            refine se_move rfl rfl rfl ?_
            refine se_indexAddr (v := .pointer (some (adm.add (k * 12)))) rfl rfl rfl rfl (fun w' hw => by go_simp) ?_
            refine se_load (v := (v53 z)) rfl rfl rfl (fun w' hw => HZk.out w' hw) ?_
            refine se_bin (v := .bool true) rfl rfl rfl rfl (fun w' hw => (eqG_same _ _ z) w') ?_
            refine se_pickT rfl rfl rfl rfl ?_
            intro hR_
            have HST2 := Aside0.mk hR_
            clear hR_ HST
            have HST := HST2
            clear HST2
            simp only [SeqE, puts, Act.put, List.setIfInBounds_toArray, List.set_cons_zero, List.set_cons_succ]
            have HDD := HD2
            go_wp2
            go_roundw
            case rel => exact ⟨i, k + 1, n + 1, rfl, by go_num, by go_num, hi, hkm, hlt, HDD, HST⟩
            case measure => simp [intOf]; omega
      · have HE := Aside0.mk (show i = l.length ∧ k = m.length by
          have h2 := HD.out
          rw [List.drop_eq_nil_of_le (show a.length ≤ n by omega)] at h2
          have h3 := congrArg List.length h2
          rw [mrg_len, List.length_drop, List.length_drop, List.length_nil] at h3
          omega)
        have hna : a.length ≤ n := by omega
        obtain ⟨rfl, rfl⟩ := HE.out
        clear hi hk hn hlt HE HD
        go_wp2_with fail
        refine (merge_calls _ Aa none ca 0 a [] HST.out.a (Kd.C_nil _ _) hca (Nat.le_refl _) (by omega) (by decide)).mono ?_
        rintro e w3 ⟨vb, r2, x2, rfl, hO, hb, hM⟩
        obtain ⟨rfl, rfl⟩ := merged_nil_r hM HS.out hal
        have HST3 := Aside0.mk (HST.out.below hb)
        obtain ⟨Ab, cb, rfl, hcb, hCb⟩ := Kd.R_reads hO
        have HCb := Aside0.mk hCb
        clear hb hM hO hCb HST
        go_wp2_with fail
        refine (merge_calls _ none Aa 0 ca [] _ (Kd.C_nil _ _) HST3.out.a (Nat.le_refl _) hca (by decide) (by omega)).mono ?_
        rintro e w4 ⟨vc, r3, x3, rfl, hO, hb, hM⟩
        obtain ⟨rfl, rfl⟩ := merged_nil_l hM HS.out hal
        have HST4 := Aside0.mk (HST3.out.below hb)
        have HCb4 := Aside0.mk (Kd.C_below HCb.out hb)
        obtain ⟨Ac, cc, rfl, hcc, hCc⟩ := Kd.R_reads hO
        have HCc := Aside0.mk hCc
        clear hb hM hO hCc HST3 HCb
        go_wp2_with fail
        refine (begun_calls _).mono ?_
        rintro e w5 ⟨rfl, hb⟩
        have HST5 := Aside0.mk (HST4.out.below hb)
        have HCb5 := Aside0.mk (Kd.C_below HCb4.out hb)
        have HCc5 := Aside0.mk (Kd.C_below HCc.out hb)
        clear hb HST4 HCb4 HCc
        go_wp2_with fail
        refine (sameEv_calls _ Aa Ab ca cb _ HST5.out.a hca HCb5.out hcb hal).mono ?_
        rintro e w6 ⟨rfl, hb⟩
        have HST6 := Aside0.mk (HST5.out.below hb)
        have HCc6 := Aside0.mk (Kd.C_below HCc5.out hb)
        clear hb HST5 HCb5 HCc5
        go_wp2_with fail
        refine (sameEv_calls _ Aa Ac ca cc _ HST6.out.a hca HCc6.out hcc hal).mono ?_
        rintro e w7 ⟨rfl, hb⟩
        have HST7 := Aside0.mk (HST6.out.below hb)
        clear hb HST6 HCc6
        go_wp2
        exact bodyPost_ret (v := .bool true) (by simp [results, Try.f7, go_sem]) rfl ⟨rfl, HST7.out.b⟩
  · have HA0 := Aside0.mk (show a = [] by
      rcases HM1.out with ⟨_, h, _⟩ | ⟨_, h, _⟩ | ⟨h, _⟩
      · exact h
      · exact h
      · exact absurd h hr)
    have ha0 := HA0.out
    subst ha0
    clear HM1
    go_wp2_with fail
    refine (begun_calls _).mono ?_
    rintro e w6 ⟨rfl, hb⟩
    have HB6 := Aside0.mk (below_then HB2.out HB2.out.size hb)
    clear hb HB2
    go_wp2
    exact bodyPost_ret (v := .bool true) (by simp [results, Try.f7, go_sem]) rfl ⟨rfl, HB6.out⟩
end Go.Proofs.Ytblalidpeccabab.Rw
