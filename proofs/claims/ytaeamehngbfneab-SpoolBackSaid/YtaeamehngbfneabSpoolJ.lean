/- SpoolBack: the call answers true, whatever comes in. -/
import Derived.Test.YtaeamehngbfneabSpoolH
namespace Go.Proofs.Ytaeamehngbfneab.Sp
open Go Go.RowKit Go.Lib Go.Proofs.YtaeamehngbfneabW.PrintWords Go.Proofs.YtaeamehngbfneabW.PrintLast Go.Proofs.YtaeamehngbfneabW.PrintMore Go.Proofs.Ytaeamehngbfneab.PSpoolBack Go.Proofs.Ytaeamehngbfneab.RegionVal Go.Proofs.Ytaeamehngbfneab.Open
attribute [local go_sem] max2_int min2_int max_two min_two
set_option linter.unusedVariables false
set_option linter.unusedSimpArgs false

/-- an operation of a plain region under a guard, by its step -/
theorem wpList_of_step {P : Program} {ops : Array Oper} {Q : Exit → Act → World → Prop} {rest : List Oper} {o : Oper} {a : Act} {w : World}
    (h : if Region.wanted o (yielded ops a.tmps) = true then Oper.wp P o a w (wpList P ops Q rest) Q else wpList P ops Q rest (a.put o.dst undef) w) : wpList P ops Q (o :: rest) a w := by
  unfold wpList
  by_cases hw : Region.wanted o (yielded ops a.tmps) = true
  · rw [if_pos hw] at h ⊢
    exact .inl h
  · rw [if_neg hw] at h ⊢
    exact h
theorem R_empty (W : World) (base : Nat) (hb : base ≤ W.heap.size) : k28.R 28 (W.alloc (.cells #[] 28)) base (fun _ => True) (.slice (some ⟨W.heap.size, 0, none⟩) 0 0) [] :=
  ⟨fun _ _ => trivial, [], World.ownsRow_made W #[] 0 hb (by decide) rfl, Reps.none _ _⟩
theorem k28_KM (w : World) (base : Nat) (ok : Nat → Prop) (x : S28) (cs : List Value) (h : k28.K w x cs) : k28.M w base ok x cs := by
  rw [k28_open h]
  exact k28_mkM w base ok x

set_option maxHeartbeats 16000000 in
set_option maxRecDepth 100000 in
theorem spoolBack_walk (w : World) (A : Option Addr) (c : Nat) (l : List S28) (lc : l.length ≤ c) (hr : Kd.C k28 w A l.length l) (_B : l.length ≤ 9223372036854775807 ∧ l.length * Try.prog.bytesOf 28 ≤ 140737488351232 ∧ ∀ a ∈ l, In64 a.f1)
    (A2 : Option Addr) (c2 : Nat) (m : List S28) (mc : m.length ≤ c2) (hr2 : Kd.C k28 w A2 m.length m) (_B2 : m.length ≤ 9223372036854775807 ∧ m.length * Try.prog.bytesOf 28 ≤ 140737488351232 ∧ ∀ a ∈ m, In64 a.f1) :
    Calls Try.prog 6 #[.slice A l.length c, .slice A2 m.length c2] w fun e w' => e = .returned (.bool true) ∧ Below w.heap.size w w' := by
  have hl0 := _B.1
  have hm0 := _B2.1
  have h64 := _B.2.2
  have h64m := _B2.2.2
  obtain ⟨n1, hn1, b1, hm1⟩ := min_cut l.length 60 (by omega) (by omega) hl0
  obtain ⟨n2, hn2, b2, hm2⟩ := min_cut m.length 60 (by omega) (by omega) hm0
  have hT1 := Kd.C_take hr hn1
  have hT2 := Kd.C_take hr2 hn2
  obtain ⟨l', hl'⟩ : ∃ l', l' = l.take n1 := ⟨_, rfl⟩
  obtain ⟨m', hm'⟩ : ∃ l', l' = m.take n2 := ⟨_, rfl⟩
  have h64' : In64s l' := by rw [hl']; exact fun x hx => h64 x (List.mem_of_mem_take hx)
  have h64m' : In64s m' := by rw [hm']; exact fun x hx => h64m x (List.mem_of_mem_take hx)
  rw [← hl'] at hT1
  rw [← hm'] at hT2
  have e1 : l'.length = n1 := by rw [hl', List.length_take]; omega
  have e2 : m'.length = n2 := by rw [hm', List.length_take]; omega
  have b3 : n1 ≤ c := by omega
  have b4 : n2 ≤ c2 := by omega
  subst e1
  subst e2
  have HT1 := Aside0.mk hT1
  have HT2 := Aside0.mk hT2
  have H64 := Aside0.mk h64'
  have H64M := Aside0.mk h64m'
  have HM1 := Aside0.mk hm1
  have HM2 := Aside0.mk hm2
  clear hr hr2 _B _B2 hl' hm' hT1 hT2 hm1 hm2 hn1 hn2 h64 h64' h64m h64m'
  have HB := Aside0.mk (Below.refl w.heap.size w)
  go_enter Try.func6, Try.ntmps6
  go_wp2_with fail
  refine (begunC HB.out).mono ?_
  rintro e w1 ⟨rfl, hb⟩
  have HB1 := Aside0.mk hb; clear hb
  have hm1 := HM1.out
  have hm2 := HM2.out
  go_wp2_with fail
  refine wp_val (S := fun w' => Below w.heap.size w w') (by kernel_rfl) (by kernel_rfl) (below_drew HB1.out) ?_
  repeat (first
    | refine st_skip rfl ?_
    | refine st_move rfl rfl ?_
    | refine st_assign rfl rfl ?_
    | refine st_pickT rfl rfl rfl ?_
    | refine st_pickF rfl rfl rfl ?_
    | refine st_bin rfl rfl rfl (fun w' hw => by go_simp; rfl) ?_
    | refine st_indexAddr rfl rfl rfl (fun w' hw => by go_simp; rfl) ?_
    | refine st_un rfl rfl rfl rfl (fun w' hw => by go_simp; rfl) ?_
    | refine st_builtin rfl rfl (fun w' hw => by go_simp; rfl) ?_
    | refine st_slice rfl rfl rfl rfl rfl (fun w' hw => by go_simp; rfl) ?_)
  intro w2 hb2
  simp only [puts, Act.put, List.setIfInBounds_toArray, List.set_cons_zero, List.set_cons_succ]
  have HB2 := Aside0.mk hb2; clear hb2 hm1 hm2
  go_wp2_with fail
  refine (All_calls w2 A c l' (Kd.C_below HT1.out HB2.out) b3 (by omega) H64.out).mono ?_
  rintro e w3 ⟨⟨hrt, A3, c3, rfl, hc3, hC3⟩ | ⟨-, r, hr0, rfl⟩, hb⟩
  · have HB3 := Aside0.mk (below_then HB2.out HB2.out.size hb)
    have HC3 := Aside0.mk hC3
    have HRT := Aside0.mk hrt
    clear hb hC3 hrt
    obtain ⟨B, hBy⟩ : ∃ B, B = bytes l' := ⟨_, rfl⟩
    have hbl := bytes_length l'
    rw [← hBy] at HC3 hc3 hbl ⊢
    have HBy := Aside0.mk hBy
    have HBL := Aside0.mk hbl
    have e60 : (B.length : Int) ≤ 780 := by omega
    clear hBy hbl
    go_wp2_with fail
    refine (All_calls w3 A2 c2 m' (Kd.C_below HT2.out HB3.out) b4 (by omega) H64M.out).mono ?_
    rintro e w4 ⟨⟨hrtm, A4, c4, rfl, hc4, hC4⟩ | ⟨-, r, hr0, rfl⟩, hb⟩
    · have HB4 := Aside0.mk (below_then HB3.out HB3.out.size hb)
      have HC3' := Aside0.mk (Kd.C_below HC3.out hb)
      have HC4 := Aside0.mk hC4
      have HRTM := Aside0.mk hrtm
      clear hb hC4 hrtm HC3
      obtain ⟨D, hDy⟩ : ∃ D, D = bytes m' := ⟨_, rfl⟩
      have hdl := bytes_length m'
      rw [← hDy] at HC4 hc4 hdl ⊢
      have HDY := Aside0.mk hDy
      have HDL := Aside0.mk hdl
      have d60 : (D.length : Int) ≤ 780 := by omega
      clear hDy hdl
      have HRD := Aside0.mk (show spool_Read.f 2000 (B ++ D) = some (l' ++ m', (B.length : Int) + (D.length : Int), 0) by
        have hok : Ok (l' ++ m') := fun x hx => (List.mem_append.1 hx).elim (fun h => Ok_of HRT.out H64.out x h) (fun h => Ok_of HRTM.out H64M.out x h)
        have h := read_whole (l' ++ m') [] hok (by rw [List.length_append]; omega) (by simp) (k := 2000) (by omega)
        rw [List.append_nil, bytes_append, ← HBy.out, ← HDY.out] at h
        rw [h, List.length_append]
        have := HBL.out
        have := HDL.out
        congr 2
        simp only [Prod.mk.injEq, and_true]
        omega)
      go_wp2_with (first
        | (at_builtin; refine print_append_row (w0 := w4) w4.heap.size rfl _ _ 42 5 .u8 1 rfl Try.underlying42 By.infoInt (by decide) _ [] B A3 B.length c3 rfl rfl (World.ownsRow_made w4 #[] 0 (Nat.le_refl _) (by decide) rfl) (reads_of8 (Kd.C_below HC3'.out (below_alloc (Below.refl _ _) _))) (below_alloc (Below.refl _ _) _) (by simp) (by simp; omega) ?_; intro v1 w5 hown hB hg hat; have HO1 := Aside0.mk hown; have HB5 := Aside0.mk hB; clear hown hB hg hat)
        | (at_builtin; refine print_append_row (w0 := w4) w4.heap.size rfl _ _ 42 5 .u8 1 rfl Try.underlying42 By.infoInt (by decide) _ ([] ++ B) D A4 D.length c4 rfl rfl HO1.out (reads_of8 (Kd.C_below HC4.out HB5.out)) HB5.out HB5.out.size (by simp; omega) ?_; intro v2 w6 hown hB hg hat; have HO2 := Aside0.mk hown; have HB6 := Aside0.mk hB; clear hown hB hg hat))
      have ho2 := HO2.out
      rw [List.nil_append] at ho2
      obtain ⟨A6, c6, rfl, hc6, hr6⟩ := own_rdB ho2
      have HR6 := Aside0.mk (C_of_reads8 hr6)
      have HB6' := Aside0.mk (below_then HB4.out HB4.out.size HB6.out)
      clear ho2 hr6 HO1 HO2
      refine (ReadC HB6'.out A6 c6 (B ++ D).length (B ++ D) (l' ++ m') ((B.length : Int) + (D.length : Int)) 0 rfl HR6.out hc6 HRD.out).mono ?_
      rintro e w7 ⟨A7, c7, rfl, hc7, hC7, hb⟩
      have HB7 := Aside0.mk hb
      have HC7 := Aside0.mk hC7
      clear hb hC7
      go_wp2_with fail
      refine (begunC (Below.refl w7.heap.size w7)).mono ?_
      rintro e w8 ⟨rfl, hb⟩
      have HC8 := Aside0.mk (Kd.C_below HC7.out hb)
      have HB8 := Aside0.mk (below_then HB7.out HB7.out.size hb)
      clear hb HC7
      go_wp2_with (first
        | (at_builtin; refine wpList_of_step (Kd.R_append_rows_step k28 (Rr := k28.K w8) (w0 := w8) w8.heap.size rfl (.tmp 85) (.tmp 86) 41 28 (.agg #[.int .i64 0, .int .i64 0]) 16 rfl Try.underlying41 info28 rfl (by decide) (by decide) _ [] l' A l'.length c (fun _ => True) (fun _ => False) rfl rfl (R_empty w8 w8.heap.size (Nat.le_refl _)) (Kd.C_below HT1.out (below_alloc HB8.out _)) (fun x cs h => k28_KM _ _ _ x cs h) (fun _ h => h.elim) (fun _ _ => trivial) (below_alloc (Below.refl _ _) _) (by simp) (by simp; omega) ?_); intro v1 w9 hR hB hg hat; have HR9 := Aside0.mk hR; have HB9 := Aside0.mk hB; clear hR hB hg hat)
        | (at_builtin; refine wpList_of_step (Kd.R_append_rows_step k28 (Rr := k28.K w9) (w0 := w8) w8.heap.size rfl (.tmp 87) (.tmp 88) 41 28 (.agg #[.int .i64 0, .int .i64 0]) 16 rfl Try.underlying41 info28 rfl (by decide) (by decide) _ ([] ++ l') m' A2 m'.length c2 (fun _ => True) (fun _ => False) rfl rfl HR9.out (Kd.C_below HT2.out (below_then HB8.out HB8.out.size HB9.out)) (fun x cs h => k28_KM _ _ _ x cs h) (fun _ h => h.elim) (fun _ _ => trivial) HB9.out HB9.out.size (by simp; omega) ?_); intro v2 w10 hR hB hg hat; have HR10 := Aside0.mk hR; have HB10 := Aside0.mk hB; clear hR hB hg hat))
      have hR := HR10.out
      rw [List.nil_append] at hR
      obtain ⟨A10, c10, rfl, hc10, hC10⟩ := Kd.R_reads hR
      have hB10 := below_then HB8.out HB8.out.size HB10.out
      have hC8 := Kd.C_below HC8.out HB10.out
      rw [List.length_append] at hC8 hc7 hC10 hc10
      rw [List.length_append]
      refine (sameC hB10 A7 A10 c7 c10 (l'.length + m'.length) (l'.length + m'.length) (l' ++ m') List.length_append List.length_append (by rw [List.length_append]; omega) hC8 hc7 hC10 hc10).mono ?_
      rintro e w11 ⟨rfl, hb⟩
      have HB11 := Aside0.mk hb
      clear hb hR hB10 hC8 hC10 HR9 HR10
      go_wp2
      go_ret
      exact ⟨rfl, HB11.out⟩
    · have HB4 := Aside0.mk (below_then HB3.out HB3.out.size hb)
      have hr' : (r == 0) = false := beq_eq_false_iff_ne.mpr hr0
      have hr'' : (r != 0) = true := bne_iff_ne.mpr hr0
      clear hb hr0
      go_wp2_with fail
      refine (begunC HB4.out).mono ?_
      rintro e w5 ⟨rfl, hb⟩
      have HB5 := Aside0.mk hb; clear hb
      go_wp2
      go_ret
      exact ⟨rfl, HB5.out⟩
  · have HB3 := Aside0.mk (below_then HB2.out HB2.out.size hb)
    have hr' : (r == 0) = false := beq_eq_false_iff_ne.mpr hr0
    have hr'' : (r != 0) = true := bne_iff_ne.mpr hr0
    clear hb hr0
    go_wp2_with fail
    refine (All_calls w3 A2 c2 m' (Kd.C_below HT2.out HB3.out) b4 (by omega) H64M.out).mono ?_
    rintro e w4 ⟨⟨hrtm, A4, c4, rfl, hc4, hC4⟩ | ⟨-, q, hq0, rfl⟩, hb⟩
    · have HB4 := Aside0.mk (below_then HB3.out HB3.out.size hb)
      clear hb hC4 hrtm
      generalize bytes m' = D at hc4 ⊢
      go_wp2_with fail
      refine (begunC HB4.out).mono ?_
      rintro e w5 ⟨rfl, hb⟩
      have HB5 := Aside0.mk hb; clear hb
      go_wp2
      go_ret
      exact ⟨rfl, HB5.out⟩
    · have HB4 := Aside0.mk (below_then HB3.out HB3.out.size hb)
      have hq' : (q == 0) = false := beq_eq_false_iff_ne.mpr hq0
      have hq'' : (q != 0) = true := bne_iff_ne.mpr hq0
      clear hb hq0
      go_wp2_with fail
      refine (begunC HB4.out).mono ?_
      rintro e w5 ⟨rfl, hb⟩
      have HB5 := Aside0.mk hb; clear hb
      go_wp2
      go_ret
      exact ⟨rfl, HB5.out⟩
end Go.Proofs.Ytaeamehngbfneab.Sp
