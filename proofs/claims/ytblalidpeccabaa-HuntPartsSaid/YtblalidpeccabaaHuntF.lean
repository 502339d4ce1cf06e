/- hunt.Pick, hunt.Hunt. -/
import Derived.Test.YtblalidpeccabaaHuntE
namespace Go.Proofs.Ytblalidpeccabaa.Hn
open Go Go.RowKit Go.Lib Go.Proofs.YtblalidpeccabaaW.PrintWords Go.Proofs.YtblalidpeccabaaW.PrintLast Go.Proofs.YtblalidpeccabaaW.PrintMore Go.Proofs.Ytblalidpeccabaa.PHuntParts Go.Proofs.Ytblalidpeccabaa.Sc Go.Proofs.Ytblalidpeccabaa.Bs Go.Proofs.Ytblalidpeccabaa.RegionVal Go.Proofs.Ytblalidpeccabaa.Sm Go.Proofs.Ytblalidpeccabaa.Hp
attribute [local go_sem] max2_int min2_int max_two min_two
set_option linter.unusedVariables false
set_option linter.unusedSimpArgs false

theorem susp_in {l : List S35} {b : Nat} {gs : List Int} : ∀ n ∈ susp (us l) b gs, 0 ≤ n ∧ n < (l.length : Int) := by
  intro n hn
  obtain ⟨k, rfl, hk⟩ := bk_nat (mem_susp.1 hn).1
  rw [us_length] at hk
  omega
theorem susp_le (l : List S35) (b : Nat) (gs : List Int) : (susp (us l) b gs).length ≤ l.length := by
  have h1 : (susp (us l) b gs).length ≤ (bk (us l) b).length := List.length_filter_le _ _
  have h2 := bk_length (us l) b
  rw [us_length] at h2
  omega
/-- what Pick tells -/
def Picked (w : World) (r : Int) (n : Int) (e : Ending) (w' : World) : Prop :=
  ((r ≠ 0 ∧ e = .returned (.tuple #[.int .i64 0, .bool false, .int .i64 r])) ∨ (r = 0 ∧ n < 0 ∧ e = .returned (.tuple #[.int .i64 0, .bool false, .int .i64 0])) ∨ (r = 0 ∧ 0 ≤ n ∧ e = .returned (.tuple #[.int .i64 n, .bool true, .int .i64 0]))) ∧ Below w.heap.size w w'
theorem acode_more {l : List S35} {bad : Int} {good : List Int} (h : acode (us l) bad good = 0) : l.length ≤ 200 ∧ Sc.Form (us l) ∧ (∃ b : Nat, bad = (b : Int) ∧ b < l.length ∧ (b : Int) ∈ susp (us l) b good) ∧ ∀ g ∈ good, 0 ≤ g ∧ g < (l.length : Int) := by
  obtain ⟨h1, h2⟩ := acode_zero.1 h
  obtain ⟨h3, h4⟩ := hcode_zero.1 h1
  obtain ⟨h5, h6, h7⟩ := chk_zero.1 h3
  have h7 := h7 bad (by simp)
  rw [us_length] at h4 h5 h7
  obtain ⟨b, rfl⟩ : ∃ b : Nat, bad = (b : Int) := ⟨bad.toNat, by omega⟩
  exact ⟨h5, h6, ⟨b, rfl, by omega, h2⟩, h4⟩

set_option maxHeartbeats 8000000 in
set_option maxRecDepth 100000 in
theorem Pick_calls (w : World) (A : Option Addr) (c : Nat) (l : List S35) (bad : Int) (G : Option Addr) (d : Nat) (good : List Int) (hr : Kd.C k35 w A l.length l) (hc : l.length ≤ c) (hg : Kd.C (Kd.int .i64) w G good.length good) (hd : good.length ≤ d) :
    Calls Try.prog 22 #[.slice A l.length c, .int .i64 bad, .slice G good.length d] w (Picked w (acode (us l) bad good) (pickF (us l) (susp (us l) bad.toNat good) bad)) := by
  have HA := Aside0.mk (asked_calls w A c l bad G d good hr hc hg hd)
  clear hr hg
  obtain ⟨S, hS⟩ : ∃ S, S = susp (us l) bad.toNat good := ⟨_, rfl⟩
  obtain ⟨n, hn⟩ : ∃ n, n = pickF (us l) S bad := ⟨_, rfl⟩
  have HN := Aside0.mk hn
  have HSS := Aside0.mk hS
  clear hS hn
  go_enter Try.func22, Try.ntmps22
  go_wp2_with fail
  refine HA.out.mono ?_
  rintro e w1 ⟨⟨h0, rfl⟩ | ⟨h0, hb, A2, c2, rfl, hc2, hC2, hH⟩, hb1⟩
  · have HB1 := Aside0.mk hb1
    have H0 := Aside0.mk h0
    obtain ⟨r, hr⟩ : ∃ r, r = acode (us l) bad good := ⟨_, rfl⟩
    rw [← hr] at h0 ⊢
    have HRR := Aside0.mk hr
    have q0 : (r == 0) = false := beq_eq_false_iff_ne.mpr h0
    have q1 : (r != 0) = true := bne_iff_ne.mpr h0
    clear h0 hb1 hr
    go_wp2
    exact bodyPost_ret (v := .tuple #[.int .i64 0, .bool false, .int .i64 r]) (by simp [results, Try.f22, go_sem]) rfl ⟨.inl ⟨H0.out, by rw [HRR.out]⟩, HB1.out⟩
  · have HB1 := Aside0.mk hb1
    have H0 := Aside0.mk h0
    have hl := (acode_more h0).1
    have hin : ∀ n ∈ S, 0 ≤ n ∧ n < (l.length : Int) := by rw [HSS.out]; exact susp_in
    have hsl : S.length ≤ 200 := by have := susp_le l bad.toNat good; rw [← HSS.out] at this; omega
    rw [← HSS.out] at hc2 hC2 ⊢
    have HPK := Aside0.mk (pick_calls w1 hb l A2 c2 S bad hH hl hC2 hc2 hin hsl)
    clear h0 hb1 hC2 hH hin
    go_wp2_with fail
    refine HPK.out.mono ?_
    rintro e w2 ⟨rfl, hb2⟩
    have HB2 := Aside0.mk (below_then HB1.out HB1.out.size hb2)
    rw [← HN.out]
    clear hb2 HPK
    by_cases hn0 : n < 0
    · go_wp2
      exact bodyPost_ret (v := .tuple #[.int .i64 0, .bool false, .int .i64 0]) (by simp [results, Try.f22, go_sem] <;> omega) rfl ⟨.inr (.inl ⟨H0.out, by rw [← HSS.out, ← HN.out]; exact hn0, rfl⟩), HB2.out⟩
    · have hn1 : 0 ≤ n := by omega
      go_wp2
      exact bodyPost_ret (v := .tuple #[.int .i64 n, .bool true, .int .i64 0]) (by simp [results, Try.f22, go_sem] <;> omega) rfl ⟨.inr (.inr ⟨H0.out, by rw [← HSS.out, ← HN.out]; exact hn1, by rw [HN.out, HSS.out]⟩), HB2.out⟩

/-- one ask -/
theorem hunt_step {l : List S35} (hf : Sc.Form (us l)) {b : Nat} {gs : List Int} (hb : b < l.length) (hbs : (b : Int) ∈ susp (us l) b gs) (hp : ¬ pickF (us l) (susp (us l) b gs) b < 0) :
    ∃ n : Nat, pickF (us l) (susp (us l) b gs) b = (n : Int) ∧ n < l.length ∧ (susp (us l) n gs).length < (susp (us l) b gs).length ∧ (n : Int) ∈ susp (us l) n gs ∧
      (susp (us l) b (gs ++ [(n : Int)])).length < (susp (us l) b gs).length ∧ (b : Int) ∈ susp (us l) b (gs ++ [(n : Int)]) := by
  obtain ⟨n, h0, h1, h2, _⟩ := pickF_some hp
  have hul := us_length l
  have hnl : n < (us l).length := by
    obtain ⟨k, hk, hkl⟩ := bk_nat (mem_susp.1 h1).1
    omega
  have hbl : b < (us l).length := by omega
  have hbad := bad_not hf hbl h1 h2
  have hy := ask_yes hf hbl h1
  have hno := ask_no (xss := us l) (bad := b) (n := n) (good := gs)
  refine ⟨n, h0, by omega, ?_, ?_, ?_, ?_⟩
  · rw [hy]; exact Hp.filter_lt hbs (by rw [← Bool.not_eq_true, List.contains_iff_mem]; exact hbad)
  · rw [hy, List.mem_filter, List.contains_iff_mem]; exact ⟨h1, self_in hf hnl⟩
  · rw [hno]; exact Hp.filter_lt h1 (by rw [Bool.not_eq_false', List.contains_iff_mem]; exact self_in hf hnl)
  · rw [hno, List.mem_filter, Bool.not_eq_true', ← Bool.not_eq_true, List.contains_iff_mem]; exact ⟨hbs, hbad⟩
def places (n : Nat) : List Int := (List.range n).map (fun k : Nat => (k : Int))
theorem mem_places {n k : Nat} (h : k < n) : (k : Int) ∈ places n := List.mem_map.2 ⟨k, List.mem_range.2 h, rfl⟩
def sliceLen : Value → Nat
  | .slice _ n _ => n
  | _ => 0
theorem eql_nilFunc (fn : Fn) (a b : Array Value) (w : World) : (binOp .eql 41 (.func fn a b) .nilFunc).run Try.prog w = .ok (.bool false) w := by
  have h : ∀ d : Nat, (Op.equalIn (d + 1) 41 (.func fn a b) .nilFunc).run Try.prog w = .ok false w := fun d => by
    simp [Op.equalIn, run_underlying Try.underlying41]
  simp only [binOp]
  have h9 := h 9999
  simp [Op.equal, Op.maxDepth, h9]
/-- what Hunt tells -/
def Hunted (w : World) (l : List S35) (p : Int → Bool) (bad : Int) (good : List Int) (e : Ending) (w' : World) : Prop :=
  ((acode (us l) bad good ≠ 0 ∧ e = .returned (.tuple #[.int .i64 0, .int .i64 0, .int .i64 (acode (us l) bad good)])) ∨
   (acode (us l) bad good = 0 ∧ ∃ r : Int × Int, huntF (us l) p (susp (us l) bad.toNat good).length bad.toNat good 0 = r ∧ e = .returned (.tuple #[.int .i64 r.1, .int .i64 r.2, .int .i64 0]))) ∧ Below w.heap.size w w'

set_option maxHeartbeats 8000000 in
set_option maxRecDepth 100000 in
theorem Hunt_calls (w : World) (A : Option Addr) (c : Nat) (l : List S35) (bad : Int) (G : Option Addr) (d : Nat) (good : List Int) (f : FuncId) (cap : Array Value) (p : Int → Bool) (hr : Kd.C k35 w A l.length l) (hc : l.length ≤ c) (hg : Kd.C (Kd.int .i64) w G good.length good) (hd : good.length ≤ d) (hgl : good.length ≤ 1000)
    (ha : Sm.Asks f cap w (Value.int .i64) (places l.length) p) :
    Calls Try.prog 19 #[.slice A l.length c, .int .i64 bad, .slice G good.length d, .func (.func f) #[] cap] w (Hunted w l p bad good) := by
  have HA := Aside0.mk (asked_calls w A c l bad G d good hr hc hg hd)
  have HG := Aside0.mk hg
  have HF := Aside0.mk ha
  have eg := ha.eg
  clear hr hg ha
  go_enter Try.func19, Try.ntmps19
  go_wp2_with fail
  refine HA.out.mono ?_
  rintro e w1 ⟨⟨h0, rfl⟩ | ⟨h0, hb, A2, c2, rfl, hc2, hC2, hH⟩, hb1⟩
  · have HB1 := Aside0.mk hb1
    have H0 := Aside0.mk h0
    obtain ⟨r, hr⟩ : ∃ r, r = acode (us l) bad good := ⟨_, rfl⟩
    rw [← hr] at h0 ⊢
    have HRR := Aside0.mk hr
    have q0 : (r == 0) = false := beq_eq_false_iff_ne.mpr h0
    have q1 : (r != 0) = true := bne_iff_ne.mpr h0
    clear h0 hb1 hr
    go_wp2
    exact bodyPost_ret (v := .tuple #[.int .i64 0, .int .i64 0, .int .i64 r]) (by simp [results, Try.f19, go_sem]) rfl ⟨.inl ⟨H0.out, by rw [HRR.out]⟩, HB1.out⟩
  · obtain ⟨hl, hf, ⟨b0, rfl, hbl, hbs⟩, hgi⟩ := acode_more h0
    rw [Int.toNat_natCast] at hc2 hC2 ⊢
    have HB1 := Aside0.mk hb1
    have H0 := Aside0.mk h0
    have HH := Aside0.mk hH
    have HFO := Aside0.mk hf
    have HCL := Aside0.mk (clone_calls w1 G d good (Kd.C_below HG.out hb1) hd (by omega))
    have HBS := Aside0.mk hbs
    have HGI := Aside0.mk hgi
    have HC2 := Aside0.mk hC2
    have hnf := fun W : World => eql_nilFunc (.func f) #[] cap W
    clear h0 hb1 hC2 hH hf hbs hgi
    go_wp2_with fail
    refine HCL.out.mono ?_
    rintro e w2 ⟨v2, rfl, ho2, hb2⟩
    have HB2 := Aside0.mk hb2
    have HO2 := Aside0.mk ho2
    have HH2 := Aside0.mk (HH.out.below hb2)
    have HC2' := Aside0.mk (Kd.C_below HC2.out hb2)
    have HSL := Aside0.mk (susp_le l b0 good)
    have hin : ∀ n ∈ susp (us l) b0 good, 0 ≤ n ∧ n < (l.length : Int) := susp_in
    have HPK := Aside0.mk (pick_calls w2 hb l A2 c2 (susp (us l) b0 good) (b0 : Int) HH2.out hl HC2'.out hc2 hin (by have := HSL.out; omega))
    clear ho2 hb2 HCL hin
    go_wp2_with fail
    refine HPK.out.mono ?_
    rintro e w3 ⟨rfl, hb3⟩
    have HB3 := Aside0.mk (below_then HB2.out HB2.out.size hb3)
    have HO3 := Aside0.mk (own_keep HO2.out hb3)
    have HC3 := Aside0.mk (Kd.C_below HC2'.out hb3)
    clear hb3 HPK HO2 HC2' HB2
    go_wp2_with fail
    go_loopw [1, 2, 12, 14, 15] (fun x1 x2 x12 x14 x15 wr => ∃ (b : Nat) (gs : List Int) (m fu : Nat) (A4 : Option Addr) (c4 : Nat), x1 = .int .i64 (b : Int) ∧ x12 = .slice A4 (susp (us l) b gs).length c4 ∧ (susp (us l) b gs).length ≤ c4 ∧ x14 = .int .i64 (m : Int) ∧ x15 = .int .i64 (pickF (us l) (susp (us l) b gs) (b : Int)) ∧
      b < l.length ∧ m + (susp (us l) b gs).length ≤ 400 ∧ gs.length ≤ 1000 + m ∧ Aside0 ((b : Int) ∈ susp (us l) b gs) ∧ Aside0 (∀ g ∈ gs, 0 ≤ g ∧ g < (l.length : Int)) ∧ Aside0 (wr.ownsRow w1.heap.size 3 1 x2 gs.length (nums .i64 gs)) ∧ Aside0 (Kd.C (Kd.int .i64) wr A4 (susp (us l) b gs).length (susp (us l) b gs)) ∧
      Aside0 ((susp (us l) b gs).length ≤ fu ∧ huntF (us l) p fu b gs (m : Int) = huntF (us l) p (susp (us l) b0 good).length b0 good 0) ∧ Aside0 (Below w1.heap.size w1 wr)) (fun _ _ x12 _ _ _ => sliceLen x12)
    case atStart => exact ⟨b0, good, 0, _, A2, c2, rfl, rfl, hc2, rfl, rfl, hbl, by have := HSL.out; omega, by omega, HBS, HGI, HO3, HC3, ⟨Nat.le_refl _, rfl⟩, HB3⟩
    case round =>
      obtain ⟨b, gs, m, fu, A4, c4, rfl, rfl, hc4, rfl, rfl, hbl4, hm4, hg4, HBS4, HG4, HO4, HC4, HFU, HB4⟩ := hrel
      obtain ⟨S, hS⟩ : ∃ S, S = susp (us l) b gs := ⟨_, rfl⟩
      rw [← hS] at hc4 hm4 HBS4 HC4 HFU ⊢
      obtain ⟨q, hq⟩ : ∃ q, q = pickF (us l) S (b : Int) := ⟨_, rfl⟩
      rw [← hq] at ⊢
      clear HC3 HO3 HB3
      have hsp := HFU.out.1
      have hpos := List.length_pos_of_mem HBS4.out
      obtain ⟨fv, rfl⟩ : ∃ fv, fu = fv + 1 := ⟨fu - 1, by omega⟩
      have HHF := Aside0.mk (show huntF (us l) p (fv + 1) b gs (m : Int) = if q < 0 then ((b : Int), (m : Int)) else if p q = true then huntF (us l) p fv q.toNat gs ((m : Int) + 1) else huntF (us l) p fv b (gs ++ [q]) ((m : Int) + 1) by
        rw [huntF, ← hS, ← hq])
      by_cases hq0 : q < 0
      · have HR := Aside0.mk (show huntF (us l) p (susp (us l) b0 good).length b0 good 0 = ((b : Int), (m : Int)) by rw [← HFU.out.2, HHF.out, if_pos hq0])
        clear hS hq hsp
        go_wp2
        exact bodyPost_ret (v := .tuple #[.int .i64 (b : Int), .int .i64 (m : Int), .int .i64 0]) (by simp [results, Try.f19, go_sem]) rfl ⟨.inr ⟨H0.out, ((b : Int), (m : Int)), by rw [Int.toNat_natCast]; exact HR.out, rfl⟩, below_then HB1.out HB1.out.size HB4.out⟩
      · obtain ⟨n, hn, hnl, y1, y2, n1, n2⟩ := hunt_step HFO.out hbl4 (by rw [← hS]; exact HBS4.out) (by rw [← hS, ← hq]; exact hq0)
        rw [← hS, ← hq] at hn
        subst hn
        rw [← hS] at y1 n1
        have HIS := Aside0.mk (HF.out.calls (n : Int) (mem_places hnl) wr (below_then HB1.out HB1.out.size HB4.out))
        have Y := Aside0.mk (And.intro y1 y2)
        have N := Aside0.mk (And.intro n1 n2)
        have HHU := Aside0.mk (HH.out.below HB4.out)
        clear hq hS y1 y2 n1 n2 hsp
        go_wp2_with fail
        refine HIS.out.mono ?_
        rintro e w5 ⟨rfl, hb5⟩
        have HB5 := Aside0.mk (below_then HB4.out HB4.out.size hb5)
        have HO5 := Aside0.mk (own_keep HO4.out hb5)
        have HHU5 := Aside0.mk (HHU.out.below hb5)
        clear hb5 HIS HO4
        cases hp : p (n : Int) with
        | true =>
          obtain ⟨A6, c6, hv6, hc6, hr6⟩ := own_rd HO5.out
          subst hv6
          have HSU := Aside0.mk (susp_calls w5 hb l n A6 c6 gs HHU5.out HFO.out hl hnl HG4.out (C_int hr6) hc6)
          have HFW := Aside0.mk (show huntF (us l) p fv n gs (((m + 1 : Nat)) : Int) = huntF (us l) p (susp (us l) b0 good).length b0 good 0 by
            rw [← HFU.out.2, HHF.out, if_neg (by omega), if_pos hp, Int.toNat_natCast]; rfl)
          clear hp hr6
          go_wp2_with fail
          refine HSU.out.mono ?_
          rintro e w7 ⟨A7, c7, rfl, hc7, hC7, hb7⟩
          have HB7 := Aside0.mk (below_then HB5.out HB5.out.size hb7)
          have HO7 := Aside0.mk (own_keep HO5.out hb7)
          have hsl7 := susp_le l n gs
          have HPK := Aside0.mk (pick_calls w7 hb l A7 c7 (susp (us l) n gs) (n : Int) (HHU5.out.below hb7) hl hC7 hc7 susp_in (by omega))
          have HC7 := Aside0.mk hC7
          clear hC7 hb7 HSU
          go_wp2_with fail
          refine HPK.out.mono ?_
          rintro e w8 ⟨rfl, hb8⟩
          have HB8 := Aside0.mk (below_then HB7.out HB7.out.size hb8)
          have HO8 := Aside0.mk (own_keep HO7.out hb8)
          have HC8 := Aside0.mk (Kd.C_below HC7.out hb8)
          clear hb8 HPK
          have hy := Y.out.1
          go_wp2_with fail
          go_roundw
          case rel => exact ⟨n, gs, m + 1, fv, A7, c7, rfl, rfl, hc7, by go_num, rfl, hnl, by omega, by omega, ⟨Y.out.2⟩, HG4, HO8, HC8, ⟨by have := HFU.out.1; omega, HFW.out⟩, HB8⟩
          case measure => simp [sliceLen]; omega
        | false =>
          have HGL := Aside0.mk hg4
          have HFW := Aside0.mk (show huntF (us l) p fv b (gs ++ [(n : Int)]) (((m + 1 : Nat)) : Int) = huntF (us l) p (susp (us l) b0 good).length b0 good 0 by
            rw [← HFU.out.2, HHF.out, if_neg (by omega), if_neg (by rw [hp]; decide)]; rfl)
          have HGN := Aside0.mk (show ∀ g ∈ gs ++ [(n : Int)], 0 ≤ g ∧ g < (l.length : Int) from fun g hg => by
            rcases List.mem_append.1 hg with h | h
            · exact HG4.out g h
            · obtain rfl : g = (n : Int) := by simpa using h
              omega)
          clear hp
          go_wp2_with (at_builtin; refine print_append_row (w0 := w1) w1.heap.size rfl _ _ 31 3 .i64 8 rfl Try.underlying31 infoInt (by decide) _ gs [(n : Int)] _ 1 1 rfl rfl (own_keep HO5.out (below_alloc (Below.refl _ _) _)) (reads_lit _ [(n : Int)] (by simp) _) (below_alloc HB5.out _) (below_alloc HB5.out _).size (by have := HGL.out; omega) ?_; intro v6 w6 hown hB hg hat; obtain ⟨A6, c6, rfl, hc6, hr6⟩ := own_rd hown; have HO6 := Aside0.mk hown; have HB6 := Aside0.mk hB; have HR6 := Aside0.mk hr6; have HC6 := Aside0.mk hc6; clear hown hB hg hat hr6 hc6)
          have hsu := susp_calls w6 hb l b A6 c6 (gs ++ [(n : Int)]) (HH.out.below HB6.out) HFO.out hl hbl4 HGN.out (C_int HR6.out) HC6.out
          have hel : (gs ++ [(n : Int)]).length = gs.length + 1 := by rw [List.length_append, List.length_singleton]
          rw [hel] at hsu
          have HSU := Aside0.mk hsu
          have HO6' := Aside0.mk (show w6.ownsRow w1.heap.size 3 1 (.slice A6 (gs.length + 1) c6) (gs ++ [(n : Int)]).length (nums .i64 (gs ++ [(n : Int)])) by
            have := HO6.out
            rwa [show (Value.slice A6 (gs ++ [(n : Int)]).length c6) = Value.slice A6 (gs.length + 1) c6 from by rw [hel]] at this)
          have HEL := Aside0.mk hel
          clear hsu HO6 hel
          refine HSU.out.mono ?_
          rintro e w7 ⟨A7, c7, rfl, hc7, hC7, hb7⟩
          have HB7 := Aside0.mk (HB6.out.trans (hb7.mono HB6.out.size))
          have HO7 := Aside0.mk (own_keep HO6'.out hb7)
          have hsl7 := susp_le l b (gs ++ [(n : Int)])
          have HPK := Aside0.mk (pick_calls w7 hb l A7 c7 (susp (us l) b (gs ++ [(n : Int)])) (b : Int) (HH.out.below HB7.out) hl hC7 hc7 susp_in (by omega))
          have HC7 := Aside0.mk hC7
          clear hC7 hb7 HSU
          go_wp2_with fail
          refine HPK.out.mono ?_
          rintro e w8 ⟨rfl, hb8⟩
          have HB8 := Aside0.mk (below_then HB7.out HB7.out.size hb8)
          have HO8 := Aside0.mk (own_keep HO7.out hb8)
          have HC8 := Aside0.mk (Kd.C_below HC7.out hb8)
          clear hb8 HPK
          have hy := N.out.1
          go_wp2_with fail
          go_roundw
          case rel => exact ⟨b, gs ++ [(n : Int)], m + 1, fv, A7, c7, rfl, rfl, hc7, by go_num, rfl, hbl4, by omega, by rw [HEL.out]; have := HGL.out; omega, ⟨N.out.2⟩, HGN, HO8, HC8, ⟨by have := HFU.out.1; omega, HFW.out⟩, HB8⟩
          case measure => simp [sliceLen]; omega
end Go.Proofs.Ytblalidpeccabaa.Hn
