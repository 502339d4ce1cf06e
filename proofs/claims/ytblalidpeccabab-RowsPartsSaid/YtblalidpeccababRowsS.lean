/- RowsParts: what Count and Threads come to, in plain words; its walk. -/
import Derived.Test.YtblalidpeccababRowsY
namespace Go.Proofs.Ytblalidpeccabab.Rw
open Go Go.RowKit Go.Lib Go.Proofs.YtblalidpeccababW.PrintWords Go.Proofs.YtblalidpeccababW.PrintLast Go.Proofs.YtblalidpeccababW.PrintMore Go.Proofs.Ytblalidpeccabab.PRowsThree Go.Proofs.Ytblalidpeccabab.Bs Go.Proofs.Ytblalidpeccabab.RegionVal Go.Proofs.Ytblalidpeccabab.Open
set_option linter.unusedVariables false
set_option linter.unusedSimpArgs false

def sumI : List Int → Int
  | [] => 0
  | x :: l => x + sumI l
theorem sumI_app : ∀ (a b : List Int), sumI (a ++ b) = sumI a + sumI b
  | [], b => by simp [sumI]
  | x :: a, b => by
    have := sumI_app a b
    rw [List.cons_append]
    simp only [sumI]
    omega
theorem sumI_set : ∀ (x : List Int) (j : Nat) (v : Int), j < x.length → sumI (x.set j v) = sumI x - x.getD j 0 + v
  | [], j, v, h => by simp at h
  | y :: x, 0, v, h => by simp [sumI]; omega
  | y :: x, j + 1, v, h => by
    have := sumI_set x j v (by simpa using h)
    simp only [List.set_cons_succ, sumI, this, List.getD_cons_succ]
    omega
theorem sumI_nonneg : ∀ {x : List Int}, (∀ y ∈ x, 0 ≤ y) → 0 ≤ sumI x
  | [], _ => Int.le_refl _
  | y :: x, h => by
    have h1 := h y List.mem_cons_self
    have h2 := sumI_nonneg (x := x) (fun z hz => h z (List.mem_cons_of_mem _ hz))
    simp only [sumI]
    omega
theorem sumI_mem : ∀ {x : List Int}, (∀ y ∈ x, 0 ≤ y) → ∀ y ∈ x, y ≤ sumI x
  | [], _, y, hy => by cases hy
  | z :: x, h, y, hy => by
    have h1 := h z List.mem_cons_self
    have h0 : ∀ y ∈ x, 0 ≤ y := fun z hz => h z (List.mem_cons_of_mem _ hz)
    have h2 := sumI_nonneg h0
    simp only [sumI]
    rcases List.mem_cons.1 hy with e | e
    · rw [e]; omega
    · have := sumI_mem h0 y e; omega
theorem sumI_take {x : List Int} (h : ∀ y ∈ x, 0 ≤ y) (i : Nat) : sumI (x.take i) ≤ sumI x ∧ 0 ≤ sumI (x.take i) := by
  have h1 : sumI x = sumI (x.take i) + sumI (x.drop i) := by rw [← sumI_app, List.take_append_drop]
  have h2 := sumI_nonneg (x := x.drop i) (fun y hy => h y (List.mem_of_mem_drop hy))
  have h3 := sumI_nonneg (x := x.take i) (fun y hy => h y (List.mem_of_mem_take hy))
  omega
theorem sumI_succ {x : List Int} {i : Nat} (h : i < x.length) : sumI (x.take (i + 1)) = sumI (x.take i) + x[i] := by
  rw [List.take_succ_eq_append_getElem h, sumI_app]
  simp [sumI]
/-- one more at a place -/
theorem bump {x : List Int} {i j : Nat} (hj : j < x.length) (h0 : ∀ y ∈ x, 0 ≤ y) (hs : sumI x = i) (hi : i ≤ 200) :
    wrap64 (x.getD j 0 + 1) = x.getD j 0 + 1 ∧ (∀ y ∈ x.set j (x.getD j 0 + 1), 0 ≤ y) ∧ sumI (x.set j (x.getD j 0 + 1)) = ((i + 1 : Nat) : Int) := by
  have hm : x.getD j 0 ∈ x := by
    rw [List.getD_eq_getElem?_getD, List.getElem?_eq_getElem hj]
    exact List.getElem_mem hj
  have h1 := h0 _ hm
  have h2 := sumI_mem h0 _ hm
  refine ⟨by unfold wrap64; omega, fun y hy => ?_, by rw [sumI_set _ _ _ hj]; omega⟩
  rcases List.mem_or_eq_of_mem_set hy with e | e
  · exact h0 y e
  · rw [e]; omega
theorem count_l0 (l : List S53) (hl : l.length ≤ 200) : ∀ (k i : Nat) (x : List Int), l.length < k + i → i ≤ l.length → x.length = 18 → (∀ y ∈ x, 0 ≤ y) → sumI x = i → ∃ c, rows_Count.l0 k x l (l.length : Int) (i : Int) = some (c, 0) ∧ c.length = 18 ∧ (∀ y ∈ c, 0 ≤ y) ∧ sumI c = l.length
  | 0, i, x, h, h2, _, _, _ => by omega
  | k + 1, i, x, h, h2, hx, h0, hs => by
    unfold rows_Count.l0
    by_cases hi : (i : Int) < (l.length : Int)
    · have hw : wrap64 ((i : Int) + 1) = ((i + 1 : Nat) : Int) := by unfold wrap64; omega
      rw [if_pos hi, if_pos (show (0 : Int) ≤ (i : Int) by omega), if_pos hi, hw]
      have go : ∀ j : Nat, j < 18 → ∃ c, rows_Count.l0 k (x.set j (wrap64 (x.getD j 0 + 1))) l (l.length : Int) ((i + 1 : Nat) : Int) = some (c, 0) ∧ c.length = 18 ∧ (∀ y ∈ c, 0 ≤ y) ∧ sumI c = l.length := fun j hj => by
        obtain ⟨b1, b2, b3⟩ := bump (show j < x.length by omega) h0 hs (by omega)
        rw [b1]
        exact count_l0 l hl k (i + 1) _ (by omega) (by omega) (by rw [List.length_set]; exact hx) b2 b3
      generalize (rd_T53 l (i : Int)).f0 = q
      by_cases hq : q < 0
      · rw [if_pos hq, if_pos (show (0 : Int) < (x.length : Int) by omega)]
        exact go 0 (by omega)
      · rw [if_neg hq]
        by_cases hq2 : q > 17
        · rw [if_pos hq2, if_pos (show (0 : Int) < (x.length : Int) by omega)]
          exact go 0 (by omega)
        · rw [if_neg hq2, if_pos (show (0 : Int) ≤ q by omega), if_pos (show q < (x.length : Int) by omega)]
          exact go q.toNat (by omega)
    · rw [if_neg hi]
      have hil : i = l.length := by omega
      exact ⟨x, rfl, hx, h0, by rw [hs, hil]⟩
theorem count_f (l : List S53) (hl : l.length ≤ 200) : ∃ c, rows_Count.f 300 l = some (c, 0) ∧ c.length = 18 ∧ (∀ y ∈ c, 0 ≤ y) ∧ sumI c = l.length := by
  unfold rows_Count.f
  rw [if_neg (by omega), if_pos (by omega)]
  exact count_l0 l hl 300 0 (List.replicate 18 0) (by omega) (by omega) (by simp) (fun y hy => by rw [(List.mem_replicate.1 hy).2]; exact Int.le_refl _) (by decide)
/-- in one of the threads -/
def inT (x : S53) : Bool := decide (0 ≤ x.f2) && decide (x.f2 < 8)
def lens (t : List (List Int)) : List Int := t.map (fun r => (r.length : Int))
theorem lens_nonneg (t : List (List Int)) : ∀ y ∈ lens t, 0 ≤ y := fun y hy => by
  obtain ⟨r, _, rfl⟩ := List.mem_map.1 hy
  omega
theorem lens_at {t : List (List Int)} {j : Nat} (hj : j < t.length) : (lens t).getD j 0 = (((t.getD j []).length : Nat) : Int) := by
  unfold lens
  simp [List.getD_eq_getElem?_getD, hj]
theorem countP_take {p : S53 → Bool} {l : List S53} {i : Nat} (hi : i < l.length) : (l.take (i + 1)).countP p = (l.take i).countP p + if p l[i] then 1 else 0 := by
  rw [List.take_succ_eq_append_getElem hi, List.countP_append]
  by_cases h : p l[i] = true
  · rw [List.countP_cons_of_pos h, List.countP_nil, if_pos h]
  · rw [List.countP_cons_of_neg h, List.countP_nil, if_neg h]
theorem thr_l0 (l : List S53) (hl : l.length ≤ 200) : ∀ (k i : Nat) (t : List (List Int)), l.length < k + i → i ≤ l.length → t.length = 8 → sumI (lens t) = (((l.take i).countP inT : Nat) : Int) → ∃ c, rows_Threads.l0 k 8 t l (l.length : Int) (i : Int) = some (c, 0) ∧ c.length = 8 ∧ sumI (lens c) = ((l.countP inT : Nat) : Int)
  | 0, i, x, h, h2, _, _ => by omega
  | k + 1, i, t, h, h2, ht, hs => by
    unfold rows_Threads.l0
    by_cases hi : (i : Int) < (l.length : Int)
    · have hw : wrap64 ((i : Int) + 1) = ((i + 1 : Nat) : Int) := by unfold wrap64; omega
      have hil : i < l.length := by omega
      rw [if_pos hi, if_pos (show (0 : Int) ≤ (i : Int) by omega), if_pos hi, hw]
      have hc := countP_take (p := inT) hil
      have hx : rd_T53 l (i : Int) = l[i] := by simp [rd_T53, List.getD_eq_getElem?_getD, hil]
      rw [hx]
      have hin : inT l[i] = (decide (0 ≤ l[i].f2) && decide (l[i].f2 < 8)) := rfl
      have hcl : (l.take i).countP inT ≤ 200 := Nat.le_trans List.countP_le_length (by rw [List.length_take]; omega)
      generalize l[i].f2 = q at hin ⊢
      by_cases hq : q ≥ 0
      · rw [if_pos hq]
        by_cases hq2 : q < 8
        · rw [if_pos hq2, if_pos (show (0 : Int) ≤ q by omega), if_pos (show q < (t.length : Int) by omega)]
          have hj : q.toNat < t.length := by omega
          have hjl : q.toNat < (lens t).length := by unfold lens; rw [List.length_map]; exact hj
          have hm : (lens t).getD q.toNat 0 ∈ lens t := by
            rw [List.getD_eq_getElem?_getD, List.getElem?_eq_getElem hjl]
            exact List.getElem_mem hjl
          have hle := sumI_mem (lens_nonneg t) _ hm
          rw [lens_at hj, hs] at hle
          have hrd : rd_L3 t q = t.getD q.toNat [] := rfl
          rw [if_pos (show (rd_L3 t q).length < 17592186044416 by rw [hrd]; omega)]
          refine thr_l0 l hl k (i + 1) _ (by omega) (by omega) (by rw [List.length_set]; exact ht) ?_
          have hset : lens (t.set q.toNat (rd_L3 t q ++ [(i : Int)])) = (lens t).set q.toNat (((t.getD q.toNat []).length : Int) + 1) := by
            unfold lens
            rw [List.map_set, hrd, List.length_append]
            simp
          rw [hset, sumI_set _ _ _ hjl, lens_at hj, hs, hc, hin, if_pos (by simp [hq2]; omega)]
          omega
        · rw [if_neg hq2]
          refine thr_l0 l hl k (i + 1) _ (by omega) (by omega) ht ?_
          rw [hs, hc, hin, if_neg (by simp [hq2])]
          rfl
      · rw [if_neg hq]
        refine thr_l0 l hl k (i + 1) _ (by omega) (by omega) ht ?_
        rw [hs, hc, hin, if_neg (by simp; omega)]
        rfl
    · rw [if_neg hi]
      have hil : i = l.length := by omega
      exact ⟨t, rfl, ht, by rw [hs, hil, List.take_length]⟩
theorem thr_f (l : List S53) (hl : l.length ≤ 200) : ∃ c, rows_Threads.f 300 l 8 = some (c, 0) ∧ c.length = 8 ∧ sumI (lens c) = ((l.countP inT : Nat) : Int) := by
  unfold rows_Threads.f
  rw [if_neg (by omega), if_neg (by omega), if_neg (by omega), if_pos (by omega), if_pos (by decide)]
  exact thr_l0 l hl 300 0 _ (by omega) (by omega) (by simp) (by simp; decide)
/-- at the very last step -/
def isM (x : S53) : Bool := decide (x.f1 = 9223372036854775807)
theorem parts_len (at_ : Int) (h : at_ ≤ 9223372036854775807) : ∀ (l : List S53), (∀ a ∈ l, Ev64 a) → l.countP (fun x => decide (-9223372036854775808 ≤ x.f1) && decide (x.f1 < at_)) + l.countP (fun x => decide (at_ ≤ x.f1) && decide (x.f1 < 9223372036854775807)) + l.countP isM = l.length
  | [], _ => rfl
  | x :: l, hl => by
    have ih := parts_len at_ h l (fun a ha => hl a (List.mem_cons_of_mem _ ha))
    have hx := (hl x List.mem_cons_self).2.1
    rw [List.countP_cons, List.countP_cons, List.countP_cons, List.length_cons, ← ih]
    have e : isM x = decide (x.f1 = 9223372036854775807) := rfl
    rw [e]
    by_cases h1 : x.f1 < at_
    · have h2 : ¬ at_ ≤ x.f1 := by omega
      have h3 : ¬ x.f1 = 9223372036854775807 := by omega
      simp [h1, h2, h3, hx.1]
      omega
    · have h2 : at_ ≤ x.f1 := by omega
      by_cases h3 : x.f1 = 9223372036854775807
      · have h4 : ¬ x.f1 < 9223372036854775807 := by omega
        have h5 : ¬ (9223372036854775807 < at_) := by omega
        simp [h1, h2, h3, h5]
        omega
      · have h4 : x.f1 < 9223372036854775807 := by omega
        simp [h1, h2, h3, h4]
        omega
theorem placed_big {p : S53 → Bool} {l : List S53} {r : Int} {x : List Int} (h : Placed p l r x) (hl : 200 < l.length) : r = 2 ∧ x = [] := by
  rcases h with ⟨h1, h2, _⟩ | ⟨_, h, _⟩
  · exact ⟨h1, h2⟩
  · omega
theorem placed_small {p : S53 → Bool} {l : List S53} {r : Int} {x : List Int} (h : Placed p l r x) (hl : l.length ≤ 200) : r = 0 ∧ x.length = l.countP p := by
  rcases h with ⟨_, _, h⟩ | ⟨h1, _, h⟩
  · omega
  · exact ⟨h1, by rw [h, plc_len _ _ _ (Nat.le_refl _), List.take_length]⟩

set_option maxHeartbeats 16000000 in
set_option maxRecDepth 100000 in
theorem rowsParts_row (w : World) (A1 : Option Addr) (c1 : Nat) (l : List S53) (lc1 : l.length ≤ c1) (h1 : Kd.C k53 w A1 l.length l) (b1 : l.length ≤ 140737488351232 ∧ ∀ a ∈ l, Ev64 a) (at_ : Int) (ha : (Lit.int .i64 at_).wf = true) :
    Calls Try.prog 6 #[.slice A1 l.length c1, .int .i64 at_] w fun e w' => e = .returned (.bool true) ∧ Below w.heap.size w w' := by
  have H1 := Aside0.mk h1
  have HEV := Aside0.mk (And.intro b1.2 (wf64 ha).2)
  clear h1 b1 ha
  by_cases hbig : 200 < l.length
  · have hbigI : (l.length : Int) > 200 := by omega
    have HF := Aside0.mk (show rows_Count.f 300 l = some ([], 2) by unfold rows_Count.f; rw [if_pos hbigI])
    have HT := Aside0.mk (show rows_Threads.f 300 l 8 = some ([], 2) by unfold rows_Threads.f; rw [if_pos hbigI])
    clear hbigI
    go_enter Try.func6, Try.ntmps6
    go_wp2_with fail
    refine (begun_calls _).mono ?_
    rintro e w1 ⟨rfl, hb⟩
    have HB1 := Aside0.mk hb
    clear hb
    go_wp2_with fail
    refine (rows_Count.calls 300 A1 c1 l [] 2 _ (Kd.C_below H1.out HB1.out) lc1 HF.out).mono ?_
    rintro e w2 ⟨v2, rfl, -, hb⟩
    have HB2 := Aside0.mk (below_then HB1.out HB1.out.size hb)
    clear hb HB1
    go_wp2_with fail
    refine (rows_Threads.calls 300 A1 c1 l 8 [] 2 _ (Kd.C_below H1.out HB2.out) lc1 HT.out).mono ?_
    rintro e w3 ⟨v3, rfl, -, hb⟩
    have HB3 := Aside0.mk (below_then HB2.out HB2.out.size hb)
    clear hb HB2
    go_wp2_with fail
    refine (between_calls _ A1 c1 l (-9223372036854775808) at_ (Kd.C_below H1.out HB3.out) lc1).mono ?_
    rintro e w4 ⟨v4, r4, x4, rfl, -, hb, hp⟩
    obtain ⟨rfl, rfl⟩ := placed_big hp hbig
    have HB4 := Aside0.mk (below_then HB3.out HB3.out.size hb)
    clear hb HB3 hp
    go_wp2_with fail
    refine (between_calls _ A1 c1 l at_ 9223372036854775807 (Kd.C_below H1.out HB4.out) lc1).mono ?_
    rintro e w5 ⟨v5, r5, x5, rfl, -, hb, hp⟩
    obtain ⟨rfl, rfl⟩ := placed_big hp hbig
    have HB5 := Aside0.mk (below_then HB4.out HB4.out.size hb)
    clear hb HB4 hp
    go_wp2_with fail
    refine (begun_calls _).mono ?_
    rintro e w6 ⟨rfl, hb⟩
    have HB6 := Aside0.mk (below_then HB5.out HB5.out.size hb)
    clear hb HB5
    go_wp2
    exact bodyPost_ret (v := .bool true) (by simp [results, Try.f6, go_sem]) rfl ⟨rfl, HB6.out⟩
  · have hl : l.length ≤ 200 := by omega
    obtain ⟨cs, hcf, hcl, hc0, hcs⟩ := count_f l hl
    obtain ⟨ts, htf, htl, hts⟩ := thr_f l hl
    have HF := Aside0.mk hcf
    have HT := Aside0.mk htf
    have HCS := Aside0.mk (And.intro hcl (And.intro hc0 hcs))
    have HTS := Aside0.mk (And.intro htl hts)
    clear hcf hcl hc0 hcs htf htl hts hbig
    go_enter Try.func6, Try.ntmps6
    go_wp2_with fail
    refine (begun_calls _).mono ?_
    rintro e w1 ⟨rfl, hb⟩
    have HB1 := Aside0.mk hb
    clear hb
    go_wp2_with fail
    refine (rows_Count.calls 300 A1 c1 l cs 0 _ (Kd.C_below H1.out HB1.out) lc1 HF.out).mono ?_
    rintro e w2 ⟨v2, rfl, hO, hb⟩
    have HB2 := Aside0.mk (below_then HB1.out HB1.out.size hb)
    obtain ⟨Ac, cc, rfl, hcc, hCc⟩ := Kd.R_reads hO
    have HCc := Aside0.mk hCc
    clear hb hO hCc HB1
    go_wp2_with fail
    refine (rows_Threads.calls 300 A1 c1 l 8 ts 0 _ (Kd.C_below H1.out HB2.out) lc1 HT.out).mono ?_
    rintro e w3 ⟨v3, rfl, hO, hb⟩
    have HB3 := Aside0.mk (below_then HB2.out HB2.out.size hb)
    have HCc3 := Aside0.mk (Kd.C_below HCc.out hb)
    obtain ⟨At, ct, rfl, hct, hCt⟩ := Kd.R_reads (Kd.S_R hO)
    have HCt := Aside0.mk hCt
    clear hb hO hCt HB2 HCc
    go_wp2_with fail
    refine (between_calls _ A1 c1 l (-9223372036854775808) at_ (Kd.C_below H1.out HB3.out) lc1).mono ?_
    rintro e w4 ⟨v4, r4, xa, rfl, hO, hb, hp⟩
    obtain ⟨rfl, hxa⟩ := placed_small hp hl
    have HXA := Aside0.mk hxa
    have HB4 := Aside0.mk (below_then HB3.out HB3.out.size hb)
    have HCc4 := Aside0.mk (Kd.C_below HCc3.out hb)
    have HCt4 := Aside0.mk (Kd.C_below HCt.out hb)
    obtain ⟨Aa, ca, rfl, hca, -⟩ := own_rd hO
    clear hb hO hp hxa HB3 HCc3 HCt
    go_wp2_with fail
    refine (between_calls _ A1 c1 l at_ 9223372036854775807 (Kd.C_below H1.out HB4.out) lc1).mono ?_
    rintro e w5 ⟨v5, r5, xb, rfl, hO, hb, hp⟩
    obtain ⟨rfl, hxb⟩ := placed_small hp hl
    have HXB := Aside0.mk hxb
    have HB5 := Aside0.mk (below_then HB4.out HB4.out.size hb)
    have HCc5 := Aside0.mk (Kd.C_below HCc4.out hb)
    have HCt5 := Aside0.mk (Kd.C_below HCt4.out hb)
    obtain ⟨Ab, cb, rfl, hcb, -⟩ := own_rd hO
    clear hb hO hp hxb HB4 HCc4 HCt4
    have hcsl : (cs.length : Int) ≤ 18 ∧ cs.length ≤ 18 := by have := HCS.out.1; omega
    go_wp2_with fail
    go_loopw [13, 16] (fun v13 v16 wr => ∃ (s : Int) (i : Nat), v13 = .int .i64 s ∧ v16 = .int .i64 (i : Int) ∧ i ≤ cs.length ∧ 0 ≤ s ∧ s ≤ 200 ∧ Aside0 (s = sumI (cs.take i)) ∧ Aside0 (Below w5.heap.size w5 wr)) (fun _ v16 _ => cs.length - (intOf v16).toNat)
    case atStart => exact ⟨0, 0, rfl, rfl, Nat.zero_le _, Int.le_refl _, by omega, ⟨rfl⟩, ⟨Below.refl _ _⟩⟩
    case round =>
      obtain ⟨s, i, rfl, rfl, hi, hs0, hs2, HS, HB⟩ := hrel
      by_cases hlt : i < cs.length
      · have hlt1 : (i : Int) < (cs.length : Int) := by omega
        obtain ⟨ad, rfl, h0⟩ := Kd.at_int (Kd.C_below HCc5.out HB.out) (i : Int) (by omega) (by omega)
        have hrd : rd cs (i : Int) = cs[i] := by simp [rd, List.getD_eq_getElem?_getD, hlt]
        rw [hrd, Int.toNat_natCast] at h0
        have hstep := sumI_succ hlt
        have htk := sumI_take HCS.out.2.1 (i + 1)
        have HN := Aside0.mk (show s + cs[i] = sumI (cs.take (i + 1)) by rw [hstep, HS.out])
        have hle : 0 ≤ s + cs[i] ∧ s + cs[i] ≤ 200 := by rw [HN.out]; have := HCS.out.2.2; omega
        clear hrd hstep htk
        generalize cs[i] = y at h0 HN hle
        have hw1 : IntKind.i64.wrap (s + y) = s + y := by rw [IntKind.wrap_i64]; omega
        obtain ⟨hle1, hle2⟩ := hle
        go_wp2
        go_roundw
        case rel => exact ⟨s + y, i + 1, rfl, by go_num, hlt, hle1, hle2, HN, HB⟩
        case measure => simp [intOf]; omega
      · have hs : s = (l.length : Int) := by rw [HS.out, List.take_of_length_le (by omega)]; exact HCS.out.2.2
        subst hs
        have hle1 : cs.length ≤ i := by omega
        have HB6 := HB
        clear HB HS
        have htsl : (ts.length : Int) ≤ 8 ∧ ts.length ≤ 8 := by have := HTS.out.1; omega
        have HTC := Aside0.mk (show l.countP inT ≤ 200 from Nat.le_trans List.countP_le_length hl)
        go_wp2_with fail
        go_loopw [14, 17] (fun v14 v17 wr => ∃ (s : Int) (i : Nat), v14 = .int .i64 s ∧ v17 = .int .i64 (i : Int) ∧ i ≤ ts.length ∧ 0 ≤ s ∧ s ≤ 200 ∧ Aside0 (s = sumI ((lens ts).take i)) ∧ Aside0 (Below w5.heap.size w5 wr)) (fun _ v17 _ => ts.length - (intOf v17).toNat)
        case atStart => exact ⟨0, 0, rfl, rfl, Nat.zero_le _, Int.le_refl _, by omega, ⟨rfl⟩, HB6⟩
        case round =>
          obtain ⟨s, i, rfl, rfl, hi, hs0, hs2, HS, HB⟩ := hrel
          by_cases hlt : i < ts.length
          · have hlt1 : (i : Int) < (ts.length : Int) := by omega
            obtain ⟨ad, A0, c0, rfl, h0, hl0, -⟩ := at_L3 (Kd.C_below HCt5.out HB.out) (i : Int) (by omega) (by omega)
            have hrd : rd_L3 ts (i : Int) = ts[i] := by simp [rd_L3, List.getD_eq_getElem?_getD, hlt]
            rw [hrd, Int.toNat_natCast] at h0
            rw [hrd] at hl0
            have hlt2 : i < (lens ts).length := by unfold lens; rw [List.length_map]; exact hlt
            have hstep := sumI_succ hlt2
            have htk := sumI_take (lens_nonneg ts) (i + 1)
            have hle_ : (lens ts)[i] = ((ts[i].length : Nat) : Int) := by simp [lens]
            rw [hle_] at hstep
            have HN := Aside0.mk (show s + ((ts[i].length : Nat) : Int) = sumI ((lens ts).take (i + 1)) by rw [hstep, HS.out])
            have hle : 0 ≤ s + ((ts[i].length : Nat) : Int) ∧ s + ((ts[i].length : Nat) : Int) ≤ 200 := by rw [HN.out]; have := HTS.out.2; have := HTC.out; omega
            clear hrd hstep htk hle_
            generalize ts[i].length = y at h0 HN hle hl0
            have hw1 : IntKind.i64.wrap (s + (y : Int)) = s + (y : Int) := by rw [IntKind.wrap_i64]; omega
            obtain ⟨hle1, hle2⟩ := hle
            go_wp2
            go_roundw
            case rel => exact ⟨s + (y : Int), i + 1, rfl, by go_num, hlt, hle1, hle2, HN, HB⟩
            case measure => simp [intOf]; omega
          · have hs : s = ((l.countP inT : Nat) : Int) := by rw [HS.out, List.take_of_length_le (show (lens ts).length ≤ i by unfold lens; rw [List.length_map]; omega)]; exact HTS.out.2
            subst hs
            have hle2 : ts.length ≤ i := by omega
            have HB7 := HB
            clear HB HS HB6
            obtain ⟨T, hT⟩ : ∃ T, T = l.countP inT := ⟨_, rfl⟩
            have HTT := Aside0.mk hT
            have hT2 : T ≤ 200 := by rw [hT]; exact HTC.out
            rw [← hT]
            rw [← hT] at hs0 hs2
            clear hT
            go_wp2_with fail
            go_loopw [14, 15, 18] (fun v14 v15 v18 wr => ∃ (o z i : Nat), v14 = .int .i64 (o : Int) ∧ v15 = .int .i64 (z : Int) ∧ v18 = .int .i64 (i : Int) ∧ i ≤ l.length ∧ o ≤ 200 ∧ z ≤ 200 ∧ Aside0 (o + (l.take i).countP inT = l.countP inT) ∧ Aside0 (z = (l.take i).countP isM) ∧ Aside0 (Below w5.heap.size w5 wr)) (fun _ _ v18 _ => l.length - (intOf v18).toNat)
            case atStart => exact ⟨T, 0, 0, rfl, rfl, rfl, Nat.zero_le _, hT2, by omega, ⟨by have := HTT.out; simp; exact this⟩, ⟨by simp⟩, HB7⟩
            case round =>
              obtain ⟨o, z, i, rfl, rfl, rfl, hi, ho, hz, HO, HZ, HB⟩ := hrel
              by_cases hlt : i < l.length
              · have hlt1 : (i : Int) < (l.length : Int) := by omega
                have HCl := Kd.C_below (Kd.C_below H1.out HB5.out) (Below.mono HB.out (Nat.le_refl _))
                obtain ⟨ad, rfl, -, g1, g2, -⟩ := at_T53 HCl (i : Int) (by omega) (by omega)
                have hrd : rd_T53 l (i : Int) = l[i] := by simp [rd_T53, List.getD_eq_getElem?_getD, hlt]
                rw [hrd, Int.toNat_natCast] at g1 g2
                have HIT := Aside0.mk (show (l.take (i + 1)).countP inT = (l.take i).countP inT + if (decide (0 ≤ l[i].f2) && decide (l[i].f2 < 8)) then 1 else 0 from countP_take hlt)
                have HIM := Aside0.mk (show (l.take (i + 1)).countP isM = (l.take i).countP isM + if decide (l[i].f1 = 9223372036854775807) then 1 else 0 from countP_take hlt)
                have HOI := Aside0.mk (show (l.take (i + 1)).countP inT ≤ l.countP inT from by
                  have h := List.countP_append (p := inT) (l₁ := l.take (i + 1)) (l₂ := l.drop (i + 1))
                  rw [List.take_append_drop] at h
                  omega)
                clear hrd HCl
                generalize l[i].f1 = y1 at g1 HIM
                generalize l[i].f2 = y2 at g2 HIT
                by_cases hm : y1 = 9223372036854775807
                · subst hm
                  by_cases ht0 : 0 ≤ y2
                  · by_cases ht8 : y2 < 8
                    · have ht9 : y2 < (ts.length : Int) := by have := HTS.out.1; omega
                      have HM2 := Aside0.mk (show z + 1 = (l.take (i + 1)).countP isM by rw [HIM.out, ← HZ.out, if_pos (by simp)])
                      have HO2 := Aside0.mk (show o - 1 + (l.take (i + 1)).countP inT = l.countP inT by have h := HIT.out; rw [if_pos (by simp; omega)] at h; have := HO.out; have h3 := HOI.out; omega)
                      have ho1 : 1 ≤ o := by have h := HIT.out; rw [if_pos (by simp; omega)] at h; have := HO.out; have h3 := HOI.out; omega
                      have hwo : IntKind.i64.wrap ((o : Int) - 1) = ((o - 1 : Nat) : Int) := by rw [IntKind.wrap_i64]; omega
                      go_wp2
                      go_roundw
                      case rel => exact ⟨o - 1, z + 1, i + 1, by first | rfl | go_num, by go_num, by go_num, hlt, by omega, by have h := HM2.out; have h2 : (l.take (i + 1)).countP isM ≤ (l.take (i + 1)).length := List.countP_le_length; rw [List.length_take] at h2; omega, HO2, HM2, HB⟩
                      case measure => simp [intOf]; omega
                    · have ht9 : (ts.length : Int) ≤ y2 := by have := HTS.out.1; omega
                      have HM2 := Aside0.mk (show z + 1 = (l.take (i + 1)).countP isM by rw [HIM.out, ← HZ.out, if_pos (by simp)])
                      have HO2 := Aside0.mk (show o + (l.take (i + 1)).countP inT = l.countP inT by have h := HIT.out; rw [if_neg (by simp; omega)] at h; have := HO.out; have h3 := HOI.out; omega)
                      go_wp2
                      go_roundw
                      case rel => exact ⟨o, z + 1, i + 1, rfl, by go_num, by go_num, hlt, by omega, by have h := HM2.out; have h2 : (l.take (i + 1)).countP isM ≤ (l.take (i + 1)).length := List.countP_le_length; rw [List.length_take] at h2; omega, HO2, HM2, HB⟩
                      case measure => simp [intOf]; omega
                  · have ht1 : y2 < 0 := by omega
                    have HM2 := Aside0.mk (show z + 1 = (l.take (i + 1)).countP isM by rw [HIM.out, ← HZ.out, if_pos (by simp)])
                    have HO2 := Aside0.mk (show o + (l.take (i + 1)).countP inT = l.countP inT by have h := HIT.out; rw [if_neg (by simp; omega)] at h; have := HO.out; have h3 := HOI.out; omega)
                    go_wp2
                    go_roundw
                    case rel => exact ⟨o, z + 1, i + 1, rfl, by go_num, by go_num, hlt, by omega, by have h := HM2.out; have h2 : (l.take (i + 1)).countP isM ≤ (l.take (i + 1)).length := List.countP_le_length; rw [List.length_take] at h2; omega, HO2, HM2, HB⟩
                    case measure => simp [intOf]; omega
                · skip
                  by_cases ht0 : 0 ≤ y2
                  · by_cases ht8 : y2 < 8
                    · have ht9 : y2 < (ts.length : Int) := by have := HTS.out.1; omega
                      have HM2 := Aside0.mk (show z = (l.take (i + 1)).countP isM by rw [HIM.out, ← HZ.out, if_neg (by simp [hm]), Nat.add_zero])
                      have HO2 := Aside0.mk (show o - 1 + (l.take (i + 1)).countP inT = l.countP inT by have h := HIT.out; rw [if_pos (by simp; omega)] at h; have := HO.out; have h3 := HOI.out; omega)
                      have ho1 : 1 ≤ o := by have h := HIT.out; rw [if_pos (by simp; omega)] at h; have := HO.out; have h3 := HOI.out; omega
                      have hwo : IntKind.i64.wrap ((o : Int) - 1) = ((o - 1 : Nat) : Int) := by rw [IntKind.wrap_i64]; omega
                      go_wp2
                      go_roundw
                      case rel => exact ⟨o - 1, z, i + 1, by first | rfl | go_num, rfl, by go_num, hlt, by omega, by have h := HM2.out; have h2 : (l.take (i + 1)).countP isM ≤ (l.take (i + 1)).length := List.countP_le_length; rw [List.length_take] at h2; omega, HO2, HM2, HB⟩
                      case measure => simp [intOf]; omega
                    · have ht9 : (ts.length : Int) ≤ y2 := by have := HTS.out.1; omega
                      have HM2 := Aside0.mk (show z = (l.take (i + 1)).countP isM by rw [HIM.out, ← HZ.out, if_neg (by simp [hm]), Nat.add_zero])
                      have HO2 := Aside0.mk (show o + (l.take (i + 1)).countP inT = l.countP inT by have h := HIT.out; rw [if_neg (by simp; omega)] at h; have := HO.out; have h3 := HOI.out; omega)
                      go_wp2
                      go_roundw
                      case rel => exact ⟨o, z, i + 1, rfl, rfl, by go_num, hlt, by omega, by have h := HM2.out; have h2 : (l.take (i + 1)).countP isM ≤ (l.take (i + 1)).length := List.countP_le_length; rw [List.length_take] at h2; omega, HO2, HM2, HB⟩
                      case measure => simp [intOf]; omega
                  · have ht1 : y2 < 0 := by omega
                    have HM2 := Aside0.mk (show z = (l.take (i + 1)).countP isM by rw [HIM.out, ← HZ.out, if_neg (by simp [hm]), Nat.add_zero])
                    have HO2 := Aside0.mk (show o + (l.take (i + 1)).countP inT = l.countP inT by have h := HIT.out; rw [if_neg (by simp; omega)] at h; have := HO.out; have h3 := HOI.out; omega)
                    go_wp2
                    go_roundw
                    case rel => exact ⟨o, z, i + 1, rfl, rfl, by go_num, hlt, by omega, by have h := HM2.out; have h2 : (l.take (i + 1)).countP isM ≤ (l.take (i + 1)).length := List.countP_le_length; rw [List.length_take] at h2; omega, HO2, HM2, HB⟩
                    case measure => simp [intOf]; omega
              · have HO2 := Aside0.mk (show o = 0 by have h := HO.out; rw [List.take_of_length_le (show l.length ≤ i by omega)] at h; omega)
                have ho0 := HO2.out
                subst ho0
                have HZ2 := Aside0.mk (show xa.length + xb.length + z = l.length by
                  rw [HXA.out, HXB.out, HZ.out, List.take_of_length_le (show l.length ≤ i by omega)]
                  exact parts_len at_ HEV.out.2 l HEV.out.1)
                have hle3 : l.length ≤ i := by omega
                have HB8 := Aside0.mk (below_then HB5.out HB5.out.size HB.out)
                clear HB HZ HO
                go_wp2_with fail
                refine (begun_calls _).mono ?_
                rintro e w9 ⟨rfl, hb⟩
                have HB9 := Aside0.mk (below_then HB8.out HB8.out.size hb)
                clear hb HB8
                obtain ⟨n, hn⟩ : ∃ n, n = l.length := ⟨_, rfl⟩
                have hsum : ((xa.length : Int) + (xb.length : Int) + (z : Int)) = (l.length : Int) := by have := HZ2.out; omega
                have hw1 : IntKind.i64.wrap ((xa.length : Int) + (xb.length : Int)) = (xa.length : Int) + (xb.length : Int) := by rw [IntKind.wrap_i64]; omega
                have hw2 : IntKind.i64.wrap ((xa.length : Int) + (xb.length : Int) + (z : Int)) = (l.length : Int) := by rw [IntKind.wrap_i64]; omega
                clear hn hsum
                go_wp2
                exact bodyPost_ret (v := .bool true) (by simp [results, Try.f6, go_sem]) rfl ⟨rfl, HB9.out⟩
end Go.Proofs.Ytblalidpeccabab.Rw
