/- sched.Unpack: its walk. -/
import Derived.Test.YtblalidpeccabacSchedI
import Derived.Test.YtblalidpeccabacSchedD
namespace Go.Proofs.Ytblalidpeccabac.Sd
open Go Go.RowKit Go.Lib Go.Proofs.YtblalidpeccabacW.PrintWords Go.Proofs.YtblalidpeccabacW.PrintLast Go.Proofs.YtblalidpeccabacW.PrintMore Go.Proofs.Ytblalidpeccabac.PSchedBack Go.Proofs.Ytblalidpeccabac.Bs Go.Proofs.Ytblalidpeccabac.RegionVal
set_option linter.unusedVariables false
set_option linter.unusedSimpArgs false

/-- what Unpack tells, from a place on: the thread of the run ahead, what there is so far -/
def upk : Option Int → List Int → List S57 → List Int × Int
  | _, out, [] => (out, 0)
  | p, out, r :: rs => if thr r.f0 = false then ([], 1) else if r.f1 < 1 ∨ p = some r.f0 then ([], 3) else if 200 - (out.length : Int) < r.f1 then ([], 2) else upk (some r.f0) (out ++ List.replicate r.f1.toNat r.f0) rs
/-- the thread of the run ahead of place i -/
def prv (l : List S57) (i : Nat) : Option Int := if i = 0 then none else some (l.getD (i - 1) z57).f0
theorem prv_succ (l : List S57) (i : Nat) (x : S57) (h : l[i]? = some x) : prv l (i + 1) = some x.f0 := by
  unfold prv
  rw [if_neg (by omega), show i + 1 - 1 = i by omega, List.getD_eq_getElem?_getD, h]
  rfl
theorem reads_block {W : World} {g : Nat} {xs : List Int} {t : TypeId} (hb : W.heap[g]? = some (.cells (nums .i64 xs).toArray t (0, 0))) (hl : xs.length ≤ 9223372036854775807) : ReadsInt W .i64 (some ⟨g, 0, none⟩) xs.length xs := by
  refine ⟨rfl, hl, fun _ => ⟨_, rfl, fun j hj => ?_⟩⟩
  rw [Addr.add_mid, Nat.zero_add, blk_cell hb]
  simp [nums, hj]
theorem at57 {w : World} {A : Option Addr} {n : Nat} {xs : List S57} (h : Kd.C k57 w A n xs) (i : Nat) (hi : i < xs.length) : ∃ ad, A = some ad ∧ w.cell? (ad.add (i * 2)) = some (.int .i64 xs[i].f0) ∧ w.cell? ⟨(ad.add (i * 2)).block, (ad.add (i * 2)).off + 1, none⟩ = some (.int .i64 xs[i].f1) := by
  obtain ⟨ad, e, h0, h1⟩ := at_T57 h (i : Int) (by omega) (by have := h.1; omega)
  have hrd : rd_T57 xs (i : Int) = xs[i] := by unfold rd_T57; simp [List.getD_eq_getElem?_getD, hi]
  rw [hrd, Int.toNat_natCast] at h0 h1
  exact ⟨ad, e, h0, h1⟩

set_option maxHeartbeats 8000000 in
set_option maxRecDepth 100000 in
theorem unpack_calls (w : World) (A : Option Addr) (c : Nat) (l : List S57) (hr : Kd.C k57 w A l.length l) (hc : l.length ≤ c) :
    Calls Try.prog 23 #[.slice A l.length c] w fun e w' => ∃ v, e = .returned (.tuple #[v, .int .i64 (upk none [] l).2]) ∧ w'.ownsRow w.heap.size 3 1 v (upk none [] l).1.length (nums .i64 (upk none [] l).1) ∧ Below w.heap.size w w' := by
  have hn : l.length ≤ 9223372036854775807 := hr.2.1
  have HR := Aside0.mk hr
  clear hr
  obtain ⟨R, hR⟩ : ∃ R, R = upk none [] l := ⟨_, rfl⟩
  rw [← hR]
  have HR0 := Aside0.mk (show upk (prv l 0) [] (l.drop 0) = R from hR.symm)
  clear hR
  go_enter Try.func23, Try.ntmps23
  go_wp2_with fail
  go_loopw [4, 9] (fun v4 v9 wr => ∃ (i : Nat) (out : List Int), v9 = .int .i64 (i : Int) ∧ i ≤ l.length ∧ Aside0 (out.length ≤ 200) ∧ Aside0 (upk (prv l i) out (l.drop i) = R) ∧ Aside0 (wr.ownsRow w.heap.size 3 1 v4 out.length (nums .i64 out)) ∧ Aside0 (Below w.heap.size w wr)) (fun _ v9 _ => l.length - (intOf v9).toNat)
  case atStart => exact ⟨0, [], rfl, Nat.zero_le _, ⟨by simp⟩, HR0, ⟨World.ownsRow_nil _ _ _ _⟩, ⟨Below.refl _ _⟩⟩
  case round =>
    clear HR0
    obtain ⟨i, out, rfl, hi, HOL, HU, HO, HB⟩ := hrel
    obtain ⟨A4, d4, rfl, hd4, -⟩ := own_rd HO.out
    by_cases hlt : i < l.length
    · have hlt1 : (i : Int) < (l.length : Int) := by omega
      obtain ⟨ad, rfl, h0, h1⟩ := at57 (Kd.C_below HR.out HB.out) i hlt
      obtain ⟨x, hx⟩ : ∃ x, x = l[i] := ⟨_, rfl⟩
      rw [← hx] at h0 h1
      have HX := Aside0.mk (show l[i]? = some x by rw [List.getElem?_eq_getElem hlt, hx])
      have H := HU.out
      rw [List.drop_eq_getElem_cons hlt, ← hx] at H
      simp only [upk] at H
      obtain ⟨I, hI⟩ : ∃ I, I = i + 1 := ⟨_, rfl⟩
      rw [← hI] at H
      have HPX := Aside0.mk (show prv l I = some x.f0 by rw [hI]; exact prv_succ l _ x HX.out)
      have HI := Aside0.mk hI
      have HH := Aside0.mk H
      clear hx H HU hI HX
      go_upto_region 5 with (fail)
      have hba := below_alloc (Below.refl wr.heap.size wr) (.cells #[Value.int .i64 x.f0, Value.int .i64 x.f1] 57)
      have n1 := heap_alloc_new wr (.cells #[Value.int .i64 x.f0, Value.int .i64 x.f1] 57)
      have HB1 := Aside0.mk (below_then HB.out HB.out.size hba)
      have HO1 := Aside0.mk (own_keep HO.out hba)
      obtain ⟨g, hg⟩ : ∃ g, g = wr.heap.size := ⟨_, rfl⟩
      rw [← hg] at n1 ⊢
      have k0 := blk_cell n1 0
      simp only [List.getElem?_toArray, List.getElem?_cons_zero, List.getElem?_cons_succ] at k0
      generalize (wr.alloc (.cells #[Value.int .i64 x.f0, Value.int .i64 x.f1] 57)) = W1 at n1 k0 HB1 HO1 ⊢
      have HK := Aside0.mk n1
      clear h0 h1 hba n1 hg HO HB
      go_wp2_with fail
      refine (thread_calls _ x.f0).mono ?_
      rintro e w2 ⟨rfl, hb⟩
      have hk2 := blk_below HK.out hb
      have HK2 := Aside0.mk hk2
      have HB2 := Aside0.mk (below_then HB1.out HB1.out.size hb)
      have HO2 := Aside0.mk (own_keep HO1.out hb)
      clear hb k0 HK HB1 HO1
      have k0 := blk_cell hk2 0
      have k1 := blk_cell hk2 1
      simp only [List.getElem?_toArray, List.getElem?_cons_zero, List.getElem?_cons_succ] at k0 k1
      clear hk2
      cases ht : thr x.f0 with
      | false =>
        have HE := Aside0.mk (show R = ([], 1) by rw [← HH.out, if_pos ht])
        clear ht HH k0 k1
        go_wp2
        exact bodyPost_ret (v := .tuple #[.slice none 0 0, .int .i64 1]) (by simp [results, Try.f23, go_sem]) rfl ⟨_, by rw [HE.out], by rw [HE.out]; exact World.ownsRow_nil _ _ _ _, HB2.out⟩
      | true =>
        have HH2 := Aside0.mk (show (if x.f1 < 1 ∨ prv l i = some x.f0 then ([], 3) else if 200 - (out.length : Int) < x.f1 then ([], 2) else upk (some x.f0) (out ++ List.replicate x.f1.toNat x.f0) (List.drop I l)) = R by have h := HH.out; rwa [if_neg (by rw [ht]; decide)] at h)
        have hwd : IntKind.i64.wrap (200 - (out.length : Int)) = 200 - (out.length : Int) := by have := HOL.out; rw [IntKind.wrap_i64]; omega
        clear ht HH
        by_cases hl1 : x.f1 < 1
        · have HE := Aside0.mk (show R = ([], 3) by rw [← HH2.out, if_pos (.inl hl1)])
          have d1 := decide_eq_true hl1
          clear HH2 hwd
          go_wp2_with fail
          refine wp_val (S := fun w' => Below w2.heap.size w2 w') (by kernel_rfl) (by kernel_rfl) (below_drew (Below.refl _ _)) ?_
          repeat (first
            | refine st_skip rfl ?_
            | refine st_move rfl rfl ?_
            | refine st_assign rfl rfl ?_
            | refine st_pickT rfl rfl rfl ?_
            | refine st_pickF rfl rfl rfl ?_
            | refine st_bin rfl rfl rfl (fun w' hw => by go_simp; rfl) ?_
            | refine st_indexAddr rfl rfl rfl (fun w' hw => by go_simp; rfl) ?_
            | refine st_un rfl rfl rfl rfl (fun w' hw => by go_simp; rfl) ?_
            | refine st_builtin rfl rfl (fun w' hw => by go_simp; rfl) ?_
            | refine st_slice rfl rfl rfl rfl rfl (fun w' hw => by go_simp; rfl) ?_
            | refine st_un rfl rfl rfl rfl (fun w' hw => by have x1 := (blk_cell (blk_below HK2.out hw) 0); go_simp; rfl) ?_
            | refine st_un rfl rfl rfl rfl (fun w' hw => by have x1 := (blk_cell (blk_below HK2.out hw) 1); go_simp; rfl) ?_)
          intro w6 hb6
          simp only [puts, Act.put, List.setIfInBounds_toArray, List.set_cons_zero, List.set_cons_succ]
          have HB6 := Aside0.mk (below_then HB2.out HB2.out.size hb6)
          clear hb6 k0 k1
          go_wp2
          exact bodyPost_ret (v := .tuple #[.slice none 0 0, .int .i64 3]) (by simp [results, Try.f23, go_sem]) rfl ⟨_, by rw [HE.out], by rw [HE.out]; exact World.ownsRow_nil _ _ _ _, HB6.out⟩
        · have hl1' : 1 ≤ x.f1 := by omega
          have d1 := decide_eq_false hl1
          by_cases hi0 : i = 0
          case' neg =>
            obtain ⟨j, hj⟩ : ∃ j, j = i - 1 := ⟨_, rfl⟩
            have hwi : IntKind.i64.wrap ((i : Int) - 1) = (j : Int) := by rw [IntKind.wrap_i64]; omega
            have hjl : j < l.length := by omega
            have hjl1 : (j : Int) < (l.length : Int) := by omega
            have hi1 : (0 : Int) < (i : Int) := by omega
            have hi2 : 0 < i := by omega
            obtain ⟨ad', e, y0, y1⟩ := at57 (Kd.C_below HR.out HB2.out) j hjl
            obtain rfl := Option.some.inj e
            have HPV := Aside0.mk (show prv l i = some l[j].f0 by
              unfold prv
              rw [if_neg hi0, ← hj, List.getD_eq_getElem?_getD, List.getElem?_eq_getElem hjl]
              rfl)
            generalize l[j].f0 = y at y0 HPV
            have HY0 := Aside0.mk y0
            have HJ := Aside0.mk hj
            clear y0 y1 e hj hi0
            by_cases hyx : y = x.f0
            · have HE := Aside0.mk (show R = ([], 3) by rw [← HH2.out, if_pos (.inr (by rw [HPV.out, hyx]))])
              have d2 : (y == x.f0) = true := by simpa using hyx
              clear HH2 hwd hyx
              go_wp2_with fail
              refine wp_val (S := fun w' => Below w2.heap.size w2 w') (by kernel_rfl) (by kernel_rfl) (below_drew (Below.refl _ _)) ?_
              repeat (first
                | refine st_skip rfl ?_
                | refine st_move rfl rfl ?_
                | refine st_assign rfl rfl ?_
                | refine st_pickT rfl rfl rfl ?_
                | refine st_pickF rfl rfl rfl ?_
                | refine st_bin rfl rfl rfl (fun w' hw => by go_simp; rfl) ?_
                | refine st_indexAddr rfl rfl rfl (fun w' hw => by go_simp; rfl) ?_
                | refine st_un rfl rfl rfl rfl (fun w' hw => by go_simp; rfl) ?_
                | refine st_builtin rfl rfl (fun w' hw => by go_simp; rfl) ?_
                | refine st_slice rfl rfl rfl rfl rfl (fun w' hw => by go_simp; rfl) ?_
                | refine st_un rfl rfl rfl rfl (fun w' hw => by have x1 := (blk_cell (blk_below HK2.out hw) 0); go_simp; rfl) ?_
                | refine st_un rfl rfl rfl rfl (fun w' hw => by have x1 := (blk_cell (blk_below HK2.out hw) 1); go_simp; rfl) ?_
                | refine st_un rfl rfl rfl rfl (fun w' hw => by have x1 := (hw.cell (World.block_lt_of_cell? w2 _ HY0.out)).trans HY0.out; go_simp; rfl) ?_)
              intro w6 hb6
              simp only [puts, Act.put, List.setIfInBounds_toArray, List.set_cons_zero, List.set_cons_succ]
              have HB6 := Aside0.mk (below_then HB2.out HB2.out.size hb6)
              clear hb6 k0 k1
              go_wp2
              exact bodyPost_ret (v := .tuple #[.slice none 0 0, .int .i64 3]) (by simp [results, Try.f23, go_sem]) rfl ⟨_, by rw [HE.out], by rw [HE.out]; exact World.ownsRow_nil _ _ _ _, HB6.out⟩
            have HH3 := Aside0.mk (show (if 200 - (out.length : Int) < x.f1 then ([], 2) else upk (some x.f0) (out ++ List.replicate x.f1.toNat x.f0) (List.drop I l)) = R by
              have h := HH2.out
              rwa [if_neg (by
                rintro (h | h)
                · omega
                · rw [HPV.out] at h
                  exact hyx (Option.some.inj h))] at h)
            have d2 : (y == x.f0) = false := by simpa using hyx
            clear hyx HH2
            go_wp2_with fail
            refine wp_val (S := fun w' => Below w2.heap.size w2 w') (by kernel_rfl) (by kernel_rfl) (below_drew (Below.refl _ _)) ?_
            repeat (first
              | refine st_skip rfl ?_
              | refine st_move rfl rfl ?_
              | refine st_assign rfl rfl ?_
              | refine st_pickT rfl rfl rfl ?_
              | refine st_pickF rfl rfl rfl ?_
              | refine st_bin rfl rfl rfl (fun w' hw => by go_simp; rfl) ?_
              | refine st_indexAddr rfl rfl rfl (fun w' hw => by go_simp; rfl) ?_
              | refine st_un rfl rfl rfl rfl (fun w' hw => by go_simp; rfl) ?_
              | refine st_builtin rfl rfl (fun w' hw => by go_simp; rfl) ?_
              | refine st_slice rfl rfl rfl rfl rfl (fun w' hw => by go_simp; rfl) ?_
              | refine st_un rfl rfl rfl rfl (fun w' hw => by have x1 := (blk_cell (blk_below HK2.out hw) 0); go_simp; rfl) ?_
              | refine st_un rfl rfl rfl rfl (fun w' hw => by have x1 := (blk_cell (blk_below HK2.out hw) 1); go_simp; rfl) ?_
              | refine st_un rfl rfl rfl rfl (fun w' hw => by have x1 := (hw.cell (World.block_lt_of_cell? w2 _ HY0.out)).trans HY0.out; go_simp; rfl) ?_)
            intro w6 hb6
            simp only [puts, Act.put, List.setIfInBounds_toArray, List.set_cons_zero, List.set_cons_succ]
            clear hwi hi1 hi2 hjl hjl1 d2 HPV HY0 HJ
          case' pos =>
            have HH3 := Aside0.mk (show (if 200 - (out.length : Int) < x.f1 then ([], 2) else upk (some x.f0) (out ++ List.replicate x.f1.toNat x.f0) (List.drop I l)) = R by
              have h := HH2.out
              rwa [if_neg (by
                rintro (h | h)
                · omega
                · unfold prv at h
                  rw [if_pos hi0] at h
                  cases h)] at h)
            subst hi0
            clear HH2
            go_wp2_with fail
            refine wp_val (S := fun w' => Below w2.heap.size w2 w') (by kernel_rfl) (by kernel_rfl) (below_drew (Below.refl _ _)) ?_
            repeat (first
              | refine st_skip rfl ?_
              | refine st_move rfl rfl ?_
              | refine st_assign rfl rfl ?_
              | refine st_pickT rfl rfl rfl ?_
              | refine st_pickF rfl rfl rfl ?_
              | refine st_bin rfl rfl rfl (fun w' hw => by go_simp; rfl) ?_
              | refine st_indexAddr rfl rfl rfl (fun w' hw => by go_simp; rfl) ?_
              | refine st_un rfl rfl rfl rfl (fun w' hw => by go_simp; rfl) ?_
              | refine st_builtin rfl rfl (fun w' hw => by go_simp; rfl) ?_
              | refine st_slice rfl rfl rfl rfl rfl (fun w' hw => by go_simp; rfl) ?_
              | refine st_un rfl rfl rfl rfl (fun w' hw => by have x1 := (blk_cell (blk_below HK2.out hw) 0); go_simp; rfl) ?_
              | refine st_un rfl rfl rfl rfl (fun w' hw => by have x1 := (blk_cell (blk_below HK2.out hw) 1); go_simp; rfl) ?_)
            intro w6 hb6
            simp only [puts, Act.put, List.setIfInBounds_toArray, List.set_cons_zero, List.set_cons_succ]
          all_goals
            have HB6 := Aside0.mk (below_then HB2.out HB2.out.size hb6)
            have HO6 := Aside0.mk (own_keep HO2.out hb6)
            have hk6 := blk_below HK2.out hb6
            clear hb6 k0 k1 HB2 HO2 HK2 d1
            have k0 := blk_cell hk6 0
            have k1 := blk_cell hk6 1
            simp only [List.getElem?_toArray, List.getElem?_cons_zero, List.getElem?_cons_succ] at k0 k1
            have HK6 := Aside0.mk hk6
            clear hk6
            generalize x.f0 = t at k0 HPX HH3
            generalize x.f1 = m at k1 HH3 hl1 hl1'
            by_cases hbig : 200 - (out.length : Int) < m
            · have HE := Aside0.mk (show R = ([], 2) by rw [← HH3.out, if_pos hbig])
              clear HH3
              go_wp2
              exact bodyPost_ret (v := .tuple #[.slice none 0 0, .int .i64 2]) (by simp [results, Try.f23, go_sem]) rfl ⟨_, by rw [HE.out], by rw [HE.out]; exact World.ownsRow_nil _ _ _ _, HB6.out⟩
            · have HH4 := Aside0.mk (show upk (some t) (out ++ List.replicate m.toNat t) (List.drop I l) = R by have h := HH3.out; rwa [if_neg hbig] at h)
              obtain ⟨N, hN⟩ : ∃ N : Nat, m = (N : Int) := ⟨m.toNat, by omega⟩
              subst hN
              have HN := Aside0.mk (show 1 ≤ N ∧ out.length + N ≤ 200 by omega)
              have hbig2 : (N : Int) ≤ 200 - (out.length : Int) := by omega
              clear HH3 hbig hl1 hl1'
              have hba := below_alloc (Below.refl w6.heap.size w6) (.cells #[Value.int .i64 t] 3)
              have k2 := (hba.cell (World.block_lt_of_cell? w6 _ k1)).trans k1
              have HBA := Aside0.mk hba
              clear hba HK6
              go_wp2_with fail
              refine (repeat_calls _ w6.heap.size t N HN.out.1 (by have := HN.out.2; omega) (heap_alloc_new w6 _)).mono ?_
              rintro e w7 ⟨g7, rfl, hg7, hk7, hb⟩
              have HR7 := Aside0.mk (reads_block hk7 (by have := HN.out.2; simp; omega))
              have hb7 := below_then HBA.out HBA.out.size hb
              have HB7 := Aside0.mk (below_then HB6.out HB6.out.size hb7)
              have HO7 := Aside0.mk (own_keep HO6.out hb7)
              clear hg7 hk7 hb hb7 HBA HB6 HO6 k2
              go_wp2_with (at_builtin; refine print_append_row (w0 := w) w.heap.size rfl _ _ 23 3 .i64 8 rfl Try.underlying23 infoInt (by decide) _ out (List.replicate N t) _ N N rfl rfl HO7.out (by have := HR7.out; rwa [List.length_replicate] at this) HB7.out HB7.out.size (by have := HN.out.2; show (out.length + N) * 8 ≤ _; omega) ?_; intro v1 w8 hown hB hg hat; have HO8 := Aside0.mk hown; have HB8 := Aside0.mk hB; clear hown hB hg hat)
              go_roundw
              case rel => exact ⟨I, out ++ List.replicate N t, by rw [HI.out]; go_num, by rw [HI.out]; exact hlt, ⟨by have := HN.out.2; simp; omega⟩, ⟨by rw [HPX.out]; exact HH4.out⟩, HO8, HB8⟩
              case measure => simp [intOf]; omega
    · have HE := Aside0.mk (show R = (out, 0) by
        rw [← HU.out, List.drop_eq_nil_of_le (by omega)]
        cases prv l i <;> rfl)
      go_wp2
      exact bodyPost_ret (v := .tuple #[.slice A4 out.length d4, .int .i64 0]) (by simp [results, Try.f23, go_sem]) rfl ⟨_, by rw [HE.out], by rw [HE.out]; exact HO.out, HB.out⟩
end Go.Proofs.Ytblalidpeccabac.Sd
