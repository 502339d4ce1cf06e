/- race.Prove: its walk. race.Holds: its walk. raceBegun: its walk. -/
import Derived.Test.YtginlhengebgaaaRcF
namespace Go.Proofs.Ytginlhengebgaaa.Ck
open Go Go.RowKit Go.Maps Go.Proofs.YtginlhengebgaaaW Go.Proofs.YtginlhengebgaaaW.PrintWords Go.Proofs.YtginlhengebgaaaW.PrintLast Go.Proofs.YtginlhengebgaaaW.PrintMore Go.Proofs.Ytginlhengebgaaa.PLockupEither Go.Proofs.Ytginlhengebgaaa.Bs Go.Proofs.Ytginlhengebgaaa.RegionVal Go.Proofs.Ytginlhengebgaaa.Lk
open Go.Lib hiding intOf
set_option linter.unusedVariables false
set_option linter.unusedSimpArgs false
theorem IsE.len {l : List CE} {E : List S32} (h : IsE l E) (hl : l.length ≤ 200) : E.length ≤ 40000 := by
  have h1 := rise_count (E.map (fun p => p.f1 * 200 + p.f0)) 0 40000 (by
    rw [List.pairwise_map]
    refine List.Pairwise.imp_of_mem (fun {p q} hp hq hpq => ?_) h.1
    have b1 := h.bound p hp
    have b2 := h.bound q hq
    unfold pq at hpq
    omega) (fun x hx => by
      obtain ⟨p, hp, rfl⟩ := List.mem_map.1 hx
      have b1 := h.bound p hp
      omega)
  rw [List.length_map] at h1
  exact h1
theorem intoF_pos (E : List S32) (k : Int) : 0 < (intoF E k).length := by
  unfold intoF
  rw [List.length_mergeSort]
  exact List.length_pos_of_mem (intoS_grow E [k] k (by simp))
theorem into_at (w : World) (A : Option Addr) (c : Nat) (l : List S32) (k : Int) (hr : Kd.C k32 w A l.length l) (hl : l.length ≤ 99000) :
    Calls Try.prog 44 #[.slice A l.length c, .int .i64 k] w fun e w' => ∃ g d, e = .returned (.slice (some ⟨g, 0, none⟩) (intoF l k).length d) ∧ w'.ownsRow w.heap.size 3 1 (.slice (some ⟨g, 0, none⟩) (intoF l k).length d) (intoF l k).length (nums .i64 (intoF l k)) ∧ Below w.heap.size w w' := by
  refine (into_calls w A c l k hr hl).mono ?_
  rintro e w' ⟨v, rfl, hO, hb⟩
  obtain ⟨g, d, rfl, _⟩ := At.of_own hO (intoF_pos l k)
  exact ⟨g, d, rfl, hO, hb⟩
/-- do two race? -/
def prvB (l : List CE) (th : Nat) (E : List S32) (i j : Nat) : Bool := (decide (i ≠ j) && !bef l th E i j && !bef l th E j i) && meetF (l.getD i zC) (l.getD j zC)
def noProof : Value := .agg #[.slice none 0 0, .slice none 0 0]
/-- a proof as it lies -/
def PrfV (w : World) (B : Nat) (I J : List Int) (v : Value) : Prop := ∃ g1 c1 g2 c2, v = .agg #[.slice (some ⟨g1, 0, none⟩) I.length c1, .slice (some ⟨g2, 0, none⟩) J.length c2] ∧
  w.ownsRow B 3 1 (.slice (some ⟨g1, 0, none⟩) I.length c1) I.length (nums .i64 I) ∧ w.ownsRow B 3 1 (.slice (some ⟨g2, 0, none⟩) J.length c2) J.length (nums .i64 J)
theorem info55 : (Try.prog.info? 55).map (·.size) = some 2 := by kernel_rfl
theorem C_loadB {w : World} {ad : Addr} {n : Nat} {xs : List CE} (h : Kd.C kC w (some ad) n xs) (i : Nat) (hi : i < xs.length) : ∃ cs, (xs[i]).In cs ∧ ∀ w', Below w.heap.size w w' → Sem.run Try.prog (Instr.loadAt 41 (.pointer (some (ad.add (i * 12))))) w' = .ok (.agg cs.toArray) w' := by
  obtain ⟨ad', c, e, hl, hK, hc⟩ := Kd.C_get h zC (i : Int) (by omega) (by have := h.1; omega)
  obtain rfl := Option.some.inj e
  rw [show xs.getD (Int.toNat (i : Int)) zC = xs[i] by simp [List.getD_eq_getElem?_getD, hi]] at hK
  have hK2 : (xs[i]).In c := hK
  refine ⟨c, hK2, fun w' hb => ?_⟩
  have hcells : (loadCells (ad.add (i * 12)) c.length).run Try.prog w' = .ok c.toArray w' :=
    run_loadCells_list (P := Try.prog) w' (ad.add (i * 12)) c (fun j v hv => by
      rw [ad_add]
      have := hc j v hv
      rw [Int.toNat_natCast] at this
      exact (hb.cell (World.block_lt_of_cell? w _ this)).trans this)
  have hs : (sizeOf 41).run Try.prog w' = .ok c.length w' := by
    cases hq : Try.prog.info? 41 with
    | none => have := info41; simp [hq] at this
    | some q => have h2 : q.size = 12 := by have := info41; simpa [hq] using this
                simp [sizeOf, typeInfo, hq, h2, hK2.1]
  simp [Instr.loadAt, Instr.sureAddr, loadVar, Sem.run_bind, Try.isAgg41, hs]
  rw [hK2.1] at hcells
  rw [hcells]
  rfl
theorem two_put {W : World} {g : Nat} {a b : Value} (h : W.heap[g]? = some (.cells #[a, b] 55 (0, 0))) (v1 v2 : Value) : ((W.setCell ⟨g, 0, none⟩ v1).setCell ⟨g, 1, none⟩ v2).heap[g]? = some (.cells #[v1, v2] 55 (0, 0)) :=
  blk_put (blk_put h 0 v1 (cs' := #[v1, b]) rfl) 1 v2 rfl
theorem two_below {w W : World} (h : Below w.heap.size w W) (v1 v2 : Value) : Below w.heap.size w ((W.setCell ⟨w.heap.size, 0, none⟩ v1).setCell ⟨w.heap.size, 1, none⟩ v2) :=
  (h.setCell (p := ⟨w.heap.size, 0, none⟩) (Nat.le_refl _) _).setCell (p := ⟨w.heap.size, 1, none⟩) (Nat.le_refl _) _
set_option maxHeartbeats 16000000 in
set_option maxRecDepth 100000 in
theorem Prove_bad (w : World) (A : Option Addr) (c : Nat) (l : List CE) (T i j : Int) (hr : Kd.C kC w A l.length l) (hc : l.length ≤ c) (hq : pairF l T i j ≠ 0) :
    Calls Try.prog 26 #[.slice A l.length c, .int .i64 T, .int .i64 i, .int .i64 j] w fun e w' => e = .returned (.tuple #[noProof, .int .i64 (pairF l T i j)]) ∧ Below w.heap.size w w' := by
  have HP := Aside0.mk (Apart_calls (w.alloc (.cells #[.slice none 0 0, .slice none 0 0] 55)) A c l T i j (Kd.C_below hr (below_alloc (Below.refl _ _) _)) hc)
  obtain ⟨q, hqq⟩ : ∃ q, q = pairF l T i j := ⟨_, rfl⟩
  rw [← hqq] at HP hq ⊢
  have d1 : (q != 0) = true := bne_iff_ne.2 hq
  have d2 : (q == 0) = false := beq_eq_false_iff_ne.2 hq
  have HB0 := Aside0.mk (below_alloc (Below.refl w.heap.size w) (.cells #[.slice none 0 0, .slice none 0 0] 55))
  have HX0 := Aside0.mk (heap_alloc_new w (.cells #[.slice none 0 0, .slice none 0 0] 55))
  clear hqq hq hr
  go_enter Try.func26, Try.ntmps26
  go_wp2_with fail
  refine HP.out.mono ?_
  rintro e w1 ⟨b, rfl, _, hb1⟩
  have HB1 := Aside0.mk (below_then HB0.out HB0.out.size hb1)
  have hx1 := blk_below HX0.out hb1
  have HX1 := Aside0.mk hx1
  clear HP hb1 HB0 HX0 hx1
  have hS0 : Below w1.heap.size w1 w1.drew := below_drew1 (Below.refl _ _)
  go_wp2_with fail
  refine wp_val (S := fun w' => Below w1.heap.size w1 w') (by kernel_rfl) (by kernel_rfl) hS0 ?_
  repeat (first
    | refine st_skip rfl ?_
    | refine st_move rfl rfl ?_
    | refine st_assign rfl rfl ?_
    | refine st_pickT rfl rfl rfl ?_
    | refine st_pickF rfl rfl rfl ?_
    | refine st_bin rfl rfl rfl (fun w' hw => by go_simp; rfl) ?_
    | refine st_indexAddr rfl rfl rfl (fun w' hw => by go_simp; rfl) ?_
    | refine st_un rfl rfl rfl rfl (fun w' hw => by go_simp; rfl) ?_
    | refine st_builtin rfl rfl (fun w' hw => by go_simp; rfl) ?_
    | refine st_slice rfl rfl rfl rfl rfl (fun w' hw => by go_simp; rfl) ?_)
  intro w2 hw2
  have HB2 := Aside0.mk (below_then HB1.out HB1.out.size hw2)
  have hx2 := blk_below HX1.out hw2
  have HX2 := Aside0.mk hx2
  have k0 : w2.cell? ⟨w.heap.size, 0, none⟩ = some (.slice none 0 0) := by rw [blk_cell hx2]; rfl
  have k1 : w2.cell? ⟨w.heap.size, 1, none⟩ = some (.slice none 0 0) := by rw [blk_cell hx2]; rfl
  have f0 : w2.frozen? ⟨w.heap.size, 0, none⟩ = false := blk_frozen hx2 0
  have f1 : w2.frozen? ⟨w.heap.size, 1, none⟩ = false := blk_frozen hx2 1
  clear hw2 hS0 hx2
  simp only [puts, Act.put, List.setIfInBounds_toArray, List.set_cons_zero, List.set_cons_succ]
  go_wp2
  have hx3 := two_put HX2.out (.slice none 0 0) (.slice none 0 0)
  have p0 := blk_cell hx3 0
  have p1 := blk_cell hx3 1
  simp only [List.getElem?_toArray, List.getElem?_cons_zero, List.getElem?_cons_succ] at p0 p1
  exact bodyPost_ret (v := .tuple #[noProof, .int .i64 q]) (by simp [results, Try.f26, go_sem, p0, p1, noProof]) rfl ⟨rfl, two_below HB2.out _ _⟩
theorem ownsRow_ne55 {W : World} {g B n : Nat} {v : Value} {cs : Array Value} {xs : List Value} (h : W.heap[g]? = some (.cells cs 55 (0, 0))) (ho : W.ownsRow B 3 1 v n xs) : v.ownBlock ≠ some g := by
  intro e
  obtain ⟨c1, k1⟩ := own_type ho g e
  rw [k1] at h
  injection h with h
  injection h with _ h
  exact absurd h (by decide)
theorem gb_set (g i : Nat) (W : World) (v : Value) : W.grownBy (W.setCell ⟨g, i, none⟩ v) (some g) :=
  ⟨rfl, rfl, rfl, (KeepsWalks.setCell W _ v).size, fun k _ hk => Below.heap_setCell _ _ _ k (fun e => hk (by rw [e]))⟩
set_option maxHeartbeats 16000000 in
set_option maxRecDepth 100000 in
theorem Prove_ok (w : World) (A : Option Addr) (c : Nat) (l : List CE) (th i j : Nat) (hr : Kd.C kC w A l.length l) (hc : l.length ≤ c) (hq : pairF l (th : Int) (i : Int) (j : Int) = 0) :
    Calls Try.prog 26 #[.slice A l.length c, .int .i64 (th : Int), .int .i64 (i : Int), .int .i64 (j : Int)] w fun e w' => ∃ E v r, IsE l E ∧ e = .returned (.tuple #[v, .int .i64 r]) ∧ Below w.heap.size w w' ∧
      ((r = 5 ∧ v = noProof ∧ prvB l th E i j = false) ∨ (r = 0 ∧ prvB l th E i j = true ∧ PrfV w' w.heap.size (intoF E (i : Int)) (intoF E (j : Int)) v)) := by
  obtain ⟨hck, hi0, hi1, hj0, hj1⟩ := pair_ok hq
  obtain ⟨hl, th', hT, hth, ht⟩ := chk_ok hck
  have HCK := Aside0.mk hck
  have hi2 : i < l.length := by omega
  have hj2 : j < l.length := by omega
  obtain ⟨ad, hA⟩ : ∃ ad, A = some ad := by
    obtain ⟨ad, h, _⟩ := hr.2.2 (show 0 < l.length by omega)
    exact ⟨ad, h⟩
  subst hA
  have HP := Aside0.mk (Apart_calls (w.alloc (.cells #[.slice none 0 0, .slice none 0 0] 55)) (some ad) c l th i j (Kd.C_below hr (below_alloc (Below.refl _ _) _)) hc)
  rw [hq] at HP
  simp only [Int.toNat_natCast] at HP
  have HB0 := Aside0.mk (below_alloc (Below.refl w.heap.size w) (.cells #[.slice none 0 0, .slice none 0 0] 55))
  have HX0 := Aside0.mk (heap_alloc_new w (.cells #[.slice none 0 0, .slice none 0 0] 55))
  have HR := Aside0.mk hr
  clear hq hr hck hT ht hi0 hj0
  go_enter Try.func26, Try.ntmps26
  go_wp2_with fail
  refine HP.out.mono ?_
  rintro e w1 ⟨b, rfl, hE, hb1⟩
  obtain ⟨E, hE, hbb⟩ := hE trivial
  have HE := Aside0.mk hE
  have HB1 := Aside0.mk (below_then HB0.out HB0.out.size hb1)
  have HR1 := Aside0.mk (Kd.C_below HR.out HB1.out)
  have hx1 := blk_below HX0.out hb1
  have HX1 := Aside0.mk hx1
  have HPB := Aside0.mk (show prvB l th E i j = (b && meetF (l.getD i zC) (l.getD j zC)) by rw [hbb]; rfl)
  obtain ⟨x, hx⟩ : ∃ x, x = l[i] := ⟨_, rfl⟩
  obtain ⟨y, hy⟩ : ∃ y, y = l[j] := ⟨_, rfl⟩
  obtain ⟨cs, hcs, hlc⟩ := C_loadB HR1.out i hi2
  obtain ⟨ds, hds, hld⟩ := C_loadB HR1.out j hj2
  rw [← hx] at hcs
  rw [← hy] at hds
  rw [show l.getD i zC = x by rw [hx]; simp [List.getD_eq_getElem?_getD, hi2], show l.getD j zC = y by rw [hy]; simp [List.getD_eq_getElem?_getD, hj2]] at HPB
  have HLC := Aside0.mk hlc
  have HLD := Aside0.mk hld
  obtain ⟨m, hm⟩ : ∃ m, m = meetF x y := ⟨_, rfl⟩
  have HMC := Aside0.mk (show ∀ w', Below w1.heap.size w1 w' → Calls Try.prog 42 #[.agg cs.toArray, .agg ds.toArray] w' fun e w'' => e = .returned (.bool m) ∧ Below w1.heap.size w1 w'' from fun w' hw => by
    refine (meet_calls w' x y cs ds hcs hds).mono ?_
    rintro e w'' ⟨rfl, hbb⟩
    exact ⟨by rw [hm], below_then hw hw.size hbb⟩)
  rw [← hm] at HPB
  clear HP hb1 HB0 HX0 hx1 hbb hE hx hy hcs hds hlc hld hm
  have hS0 : Below w1.heap.size w1 w1.drew := below_drew1 (Below.refl _ _)
  go_wp2_with fail
  cases b with
  | false =>
    have HPV := Aside0.mk (show prvB l th E i j = false by rw [HPB.out]; rfl)
    refine wp_val (S := fun w' => Below w1.heap.size w1 w') (by kernel_rfl) (by kernel_rfl) hS0 ?_
    repeat (first
      | refine st_skip rfl ?_
      | refine st_move rfl rfl ?_
      | refine st_assign rfl rfl ?_
      | refine st_pickT rfl rfl rfl ?_
      | refine st_pickF rfl rfl rfl ?_
      | refine st_bin rfl rfl rfl (fun w' hw => by go_simp; rfl) ?_
      | refine st_indexAddr rfl rfl rfl (fun w' hw => by go_simp; rfl) ?_
      | refine st_un rfl rfl rfl rfl (fun w' hw => by go_simp; rfl) ?_
      | refine st_builtin rfl rfl (fun w' hw => by go_simp; rfl) ?_
      | refine st_slice rfl rfl rfl rfl rfl (fun w' hw => by go_simp; rfl) ?_)
    intro w2 hw2
    have HB2 := Aside0.mk (below_then HB1.out HB1.out.size hw2)
    have hx2 := blk_below HX1.out hw2
    have HX2 := Aside0.mk hx2
    have k0 : w2.cell? ⟨w.heap.size, 0, none⟩ = some (.slice none 0 0) := by rw [blk_cell hx2]; rfl
    have k1 : w2.cell? ⟨w.heap.size, 1, none⟩ = some (.slice none 0 0) := by rw [blk_cell hx2]; rfl
    have f0 : w2.frozen? ⟨w.heap.size, 0, none⟩ = false := blk_frozen hx2 0
    have f1 : w2.frozen? ⟨w.heap.size, 1, none⟩ = false := blk_frozen hx2 1
    clear hw2 hS0 hx2
    simp only [puts, Act.put, List.setIfInBounds_toArray, List.set_cons_zero, List.set_cons_succ]
    go_wp2
    have hx3 := two_put HX2.out (.slice none 0 0) (.slice none 0 0)
    have p0 := blk_cell hx3 0
    have p1 := blk_cell hx3 1
    simp only [List.getElem?_toArray, List.getElem?_cons_zero, List.getElem?_cons_succ] at p0 p1
    exact bodyPost_ret (v := .tuple #[noProof, .int .i64 5]) (by simp [results, Try.f26, go_sem, p0, p1, noProof]) rfl ⟨E, _, 5, HE.out, rfl, two_below HB2.out _ _, .inl ⟨rfl, rfl, HPV.out⟩⟩
  | true =>
    rw [Bool.true_and] at HPB
    cases m with
    | false =>
      have HPV := Aside0.mk (show prvB l th E i j = false by rw [HPB.out])
      refine wp_val (S := fun w' => Below w1.heap.size w1 w') (by kernel_rfl) (by kernel_rfl) hS0 ?_
      repeat (first
        | refine st_skip rfl ?_
        | refine st_move rfl rfl ?_
        | refine st_assign rfl rfl ?_
        | refine st_pickT rfl rfl rfl ?_
        | refine st_pickF rfl rfl rfl ?_
        | refine st_call (vs := [.agg cs.toArray, .agg ds.toArray]) rfl Try.func42 rfl rfl (by kernel_rfl) (fun w' hw => HMC.out w' hw) ?_
        | refine st_bin rfl rfl rfl (fun w' hw => by go_simp; rfl) ?_
        | refine st_indexAddr rfl rfl rfl (fun w' hw => by go_simp; rfl) ?_
        | refine st_un rfl rfl rfl rfl (fun w' hw => by go_simp; rfl) ?_
        | refine st_builtin rfl rfl (fun w' hw => by go_simp; rfl) ?_
        | refine st_slice rfl rfl rfl rfl rfl (fun w' hw => by go_simp; rfl) ?_
        | refine st_load (v := .agg cs.toArray) rfl rfl (fun w' hw => HLC.out w' hw) ?_
        | refine st_load (v := .agg ds.toArray) rfl rfl (fun w' hw => HLD.out w' hw) ?_)
      intro w2 hw2
      have HB2 := Aside0.mk (below_then HB1.out HB1.out.size hw2)
      have hx2 := blk_below HX1.out hw2
      have HX2 := Aside0.mk hx2
      have k0 : w2.cell? ⟨w.heap.size, 0, none⟩ = some (.slice none 0 0) := by rw [blk_cell hx2]; rfl
      have k1 : w2.cell? ⟨w.heap.size, 1, none⟩ = some (.slice none 0 0) := by rw [blk_cell hx2]; rfl
      have f0 : w2.frozen? ⟨w.heap.size, 0, none⟩ = false := blk_frozen hx2 0
      have f1 : w2.frozen? ⟨w.heap.size, 1, none⟩ = false := blk_frozen hx2 1
      clear hw2 hS0 hx2
      simp only [puts, Act.put, List.setIfInBounds_toArray, List.set_cons_zero, List.set_cons_succ]
      go_wp2
      have hx3 := two_put HX2.out (.slice none 0 0) (.slice none 0 0)
      have p0 := blk_cell hx3 0
      have p1 := blk_cell hx3 1
      simp only [List.getElem?_toArray, List.getElem?_cons_zero, List.getElem?_cons_succ] at p0 p1
      exact bodyPost_ret (v := .tuple #[noProof, .int .i64 5]) (by simp [results, Try.f26, go_sem, p0, p1, noProof]) rfl ⟨E, _, 5, HE.out, rfl, two_below HB2.out _ _, .inl ⟨rfl, rfl, HPV.out⟩⟩
    | true =>
      have HPV := Aside0.mk (show prvB l th E i j = true by rw [HPB.out])
      refine wp_val (S := fun w' => Below w1.heap.size w1 w') (by kernel_rfl) (by kernel_rfl) hS0 ?_
      repeat (first
        | refine st_skip rfl ?_
        | refine st_move rfl rfl ?_
        | refine st_assign rfl rfl ?_
        | refine st_pickT rfl rfl rfl ?_
        | refine st_pickF rfl rfl rfl ?_
        | refine st_call (vs := [.agg cs.toArray, .agg ds.toArray]) rfl Try.func42 rfl rfl (by kernel_rfl) (fun w' hw => HMC.out w' hw) ?_
        | refine st_bin rfl rfl rfl (fun w' hw => by go_simp; rfl) ?_
        | refine st_indexAddr rfl rfl rfl (fun w' hw => by go_simp; rfl) ?_
        | refine st_un rfl rfl rfl rfl (fun w' hw => by go_simp; rfl) ?_
        | refine st_builtin rfl rfl (fun w' hw => by go_simp; rfl) ?_
        | refine st_slice rfl rfl rfl rfl rfl (fun w' hw => by go_simp; rfl) ?_
        | refine st_load (v := .agg cs.toArray) rfl rfl (fun w' hw => HLC.out w' hw) ?_
        | refine st_load (v := .agg ds.toArray) rfl rfl (fun w' hw => HLD.out w' hw) ?_)
      intro w2 hw2
      have HB2 := Aside0.mk (below_then HB1.out HB1.out.size hw2)
      have hx2 := blk_below HX1.out hw2
      have HX2 := Aside0.mk hx2
      have k0 : w2.cell? ⟨w.heap.size, 0, none⟩ = some (.slice none 0 0) := by rw [blk_cell hx2]; rfl
      have k1 : w2.cell? ⟨w.heap.size, 1, none⟩ = some (.slice none 0 0) := by rw [blk_cell hx2]; rfl
      have f0 : w2.frozen? ⟨w.heap.size, 0, none⟩ = false := blk_frozen hx2 0
      have f1 : w2.frozen? ⟨w.heap.size, 1, none⟩ = false := blk_frozen hx2 1
      have HED := Aside0.mk (Edges_calls w2 (some ad) c l th (Kd.C_below HR1.out hw2) hc)
      rw [HCK.out] at HED
      clear hw2 hS0 hx2 k0 k1 f0 f1
      simp only [puts, Act.put, List.setIfInBounds_toArray, List.set_cons_zero, List.set_cons_succ]
      go_wp2_with fail
      refine HED.out.mono ?_
      rintro e w3 ⟨v, rfl, hv, _, hb3⟩
      obtain ⟨E2, hE2, hRE⟩ := hv trivial
      obtain rfl := hE2.uniq HE.out
      obtain ⟨B, d, rfl, hd, hRC⟩ := Kd.R_reads hRE
      have hEl : E2.length ≤ 99000 := Nat.le_trans (hE2.len hl) (by decide)
      have HB3 := Aside0.mk (below_then HB2.out HB2.out.size hb3)
      have HX3 := Aside0.mk (blk_below HX2.out hb3)
      have HRC := Aside0.mk hRC
      have HI := Aside0.mk (into_at w3 B d E2 (i : Int) hRC hEl)
      clear hv hE2 hRE hb3 hRC HED
      go_wp2_with fail
      refine HI.out.mono ?_
      rintro e w4 ⟨g1, d1, rfl, hO1, hb4⟩
      have HB4 := Aside0.mk (below_then HB3.out HB3.out.size hb4)
      have HX4 := Aside0.mk (blk_below HX3.out hb4)
      have HO1 := Aside0.mk hO1
      have HJ := Aside0.mk (into_at w4 B d E2 (j : Int) (Kd.C_below HRC.out hb4) hEl)
      clear hb4 hO1 HI
      go_wp2_with fail
      refine HJ.out.mono ?_
      rintro e w5 ⟨g2, d2, rfl, hO2, hb5⟩
      have HB5 := Aside0.mk (below_then HB4.out HB4.out.size hb5)
      have hx5 := blk_below HX4.out hb5
      have HX5 := Aside0.mk hx5
      have HO2 := Aside0.mk hO2
      have HO1' := Aside0.mk (HO1.out.kept (gb_below none hb5) (.inr (by simp [Value.ownBlock])))
      have k0 : w5.cell? ⟨w.heap.size, 0, none⟩ = some (.slice none 0 0) := by rw [blk_cell hx5]; rfl
      have k1 : w5.cell? ⟨w.heap.size, 1, none⟩ = some (.slice none 0 0) := by rw [blk_cell hx5]; rfl
      have f0 : w5.frozen? ⟨w.heap.size, 0, none⟩ = false := blk_frozen hx5 0
      have f1 : w5.frozen? ⟨w.heap.size, 1, none⟩ = false := blk_frozen hx5 1
      clear hb5 hO2 hx5 HJ HO1
      go_wp2
      have hx6 := two_put HX5.out (.slice (some ⟨g1, 0, none⟩) (intoF E2 (i : Int)).length d1) (.slice (some ⟨g2, 0, none⟩) (intoF E2 (j : Int)).length d2)
      have p0 := blk_cell hx6 0
      have p1 := blk_cell hx6 1
      simp only [List.getElem?_toArray, List.getElem?_cons_zero, List.getElem?_cons_succ] at p0 p1
      have hn1 := ownsRow_ne55 HX5.out HO1'.out
      have hn2 := ownsRow_ne55 HX5.out HO2.out
      have hs1 := HB3.out.size
      have hs2 := HB4.out.size
      refine bodyPost_ret (v := .tuple #[.agg #[.slice (some ⟨g1, 0, none⟩) (intoF E2 (i : Int)).length d1, .slice (some ⟨g2, 0, none⟩) (intoF E2 (j : Int)).length d2], .int .i64 0]) (by simp [results, Try.f26, go_sem, p0, p1]) rfl
        ⟨E2, _, 0, HE.out, rfl, two_below HB5.out _ _, .inr ⟨rfl, HPV.out, g1, d1, g2, d2, rfl, ?_, ?_⟩⟩
      · exact (Lk.own_lower HO1'.out hs1).kept (gb_trans (gb_set w.heap.size 0 _ _) (gb_set w.heap.size 1 _ _)) (.inr hn1)
      · exact (Lk.own_lower HO2.out hs2).kept (gb_trans (gb_set w.heap.size 0 _ _) (gb_set w.heap.size 1 _ _)) (.inr hn2)
end Go.Proofs.Ytginlhengebgaaa.Ck
namespace Go.Proofs.Ytginlhengebgaaa.Ck
open Go Go.RowKit Go.Maps Go.Proofs.YtginlhengebgaaaW Go.Proofs.YtginlhengebgaaaW.PrintWords Go.Proofs.YtginlhengebgaaaW.PrintLast Go.Proofs.YtginlhengebgaaaW.PrintMore Go.Proofs.Ytginlhengebgaaa.PLockupEither Go.Proofs.Ytginlhengebgaaa.Bs Go.Proofs.Ytginlhengebgaaa.RegionVal Go.Proofs.Ytginlhengebgaaa.Lk
open Go.Lib hiding intOf
set_option linter.unusedVariables false
set_option linter.unusedSimpArgs false
theorem ldV {w : World} {g j : Nat} {v : Value} (h : w.cell? ⟨g, j, none⟩ = some v) : Sem.run Try.prog (Instr.loadAt 24 (.pointer (some ⟨g, j, none⟩))) w = .ok v w := by
  obtain ⟨i0, hi, hz⟩ : ∃ i0, Try.prog.info? 24 = some i0 ∧ i0.size = 1 := by
    cases hq : Try.prog.info? 24 with
    | none => have := info24; simp [hq] at this
    | some q => exact ⟨q, rfl, by have := info24; simpa [hq] using this⟩
  simp [Instr.loadAt, Instr.sureAddr, loadVar, Sem.run_bind, sizeOf, typeInfo, hi, hz, h, go_sem]
/-- a proof that is given -/
def PrfG (w : World) (I J : List Int) (v : Value) : Prop := ∃ A1 c1 A2 c2, v = .agg #[.slice A1 I.length c1, .slice A2 J.length c2] ∧ I.length ≤ c1 ∧ J.length ≤ c2 ∧ Kd.C kI w A1 I.length I ∧ Kd.C kI w A2 J.length J
noncomputable def holdB (l : List CE) (E : List S32) (i j : Nat) (I J : List Int) : Bool := meetF (l.getD i zC) (l.getD j zC) && closedB I E (i : Int) (j : Int) (l.length : Int) && closedB J E (j : Int) (i : Int) (l.length : Int)
set_option maxHeartbeats 16000000 in
set_option maxRecDepth 100000 in
theorem Holds_bad (w : World) (A : Option Addr) (c : Nat) (l : List CE) (T i j : Int) (I J : List Int) (v : Value) (hv : PrfG w I J v) (hr : Kd.C kC w A l.length l) (hc : l.length ≤ c) (hq : pairF l T i j ≠ 0) :
    Calls Try.prog 25 #[.slice A l.length c, .int .i64 T, .int .i64 i, .int .i64 j, v] w fun e w' => e = .returned (.tuple #[.bool false, .int .i64 (pairF l T i j)]) ∧ Below w.heap.size w w' := by
  obtain ⟨A1, c1, A2, c2, rfl, _, _, _, _⟩ := hv
  have HP := Aside0.mk (Before_calls (w.alloc (.cells #[.slice A1 I.length c1, .slice A2 J.length c2] 55)) A c l T i j (Kd.C_below hr (below_alloc (Below.refl _ _) _)) hc)
  obtain ⟨q, hqq⟩ : ∃ q, q = pairF l T i j := ⟨_, rfl⟩
  rw [← hqq] at HP hq ⊢
  have d1 : (q != 0) = true := bne_iff_ne.2 hq
  have d2 : (q == 0) = false := beq_eq_false_iff_ne.2 hq
  have HB0 := Aside0.mk (below_alloc (Below.refl w.heap.size w) (.cells #[.slice A1 I.length c1, .slice A2 J.length c2] 55))
  clear hqq hq hr
  go_enter Try.func25, Try.ntmps25
  go_wp2_with fail
  refine HP.out.mono ?_
  rintro e w1 ⟨b, rfl, _, _, hb1⟩
  have HB1 := Aside0.mk (below_then HB0.out HB0.out.size hb1)
  clear HP hb1 HB0
  go_wp2
  exact bodyPost_ret (v := .tuple #[.bool false, .int .i64 q]) (by simp [results, Try.f25, go_sem]) rfl ⟨rfl, HB1.out⟩
set_option maxHeartbeats 32000000 in
set_option maxRecDepth 100000 in
theorem Holds_ok (w : World) (A : Option Addr) (c : Nat) (l : List CE) (th i j : Nat) (I J : List Int) (v : Value) (hv : PrfG w I J v) (hr : Kd.C kC w A l.length l) (hc : l.length ≤ c) (hq : pairF l (th : Int) (i : Int) (j : Int) = 0) :
    Calls Try.prog 25 #[.slice A l.length c, .int .i64 (th : Int), .int .i64 (i : Int), .int .i64 (j : Int), v] w fun e w' => ∃ E, IsE l E ∧ e = .returned (.tuple #[.bool (holdB l E i j I J), .int .i64 0]) ∧ Below w.heap.size w w' := by
  obtain ⟨A1, c1, A2, c2, rfl, hc1, hc2, hI, hJ⟩ := hv
  obtain ⟨hck, hi0, hi1, hj0, hj1⟩ := pair_ok hq
  obtain ⟨hl, th', hT, hth, ht⟩ := chk_ok hck
  have HCK := Aside0.mk hck
  have hi2 : i < l.length := by omega
  have hj2 : j < l.length := by omega
  obtain ⟨ad, hA⟩ : ∃ ad, A = some ad := by
    obtain ⟨ad, h, _⟩ := hr.2.2 (show 0 < l.length by omega)
    exact ⟨ad, h⟩
  subst hA
  have HP := Aside0.mk (Before_calls (w.alloc (.cells #[.slice A1 I.length c1, .slice A2 J.length c2] 55)) (some ad) c l th i j (Kd.C_below hr (below_alloc (Below.refl _ _) _)) hc)
  rw [hq] at HP
  have HB0 := Aside0.mk (below_alloc (Below.refl w.heap.size w) (.cells #[.slice A1 I.length c1, .slice A2 J.length c2] 55))
  have HX0 := Aside0.mk (heap_alloc_new w (.cells #[.slice A1 I.length c1, .slice A2 J.length c2] 55))
  have HR := Aside0.mk hr
  have HI := Aside0.mk hI
  have HJ := Aside0.mk hJ
  clear hq hr hck hT ht hi0 hj0 hI hJ
  go_enter Try.func25, Try.ntmps25
  go_wp2_with fail
  refine HP.out.mono ?_
  rintro e w1 ⟨b, rfl, _, _, hb1⟩
  have HB1 := Aside0.mk (below_then HB0.out HB0.out.size hb1)
  have HX1 := Aside0.mk (blk_below HX0.out hb1)
  have HED := Aside0.mk (Edges_calls w1 (some ad) c l th (Kd.C_below HR.out HB1.out) hc)
  rw [HCK.out] at HED
  clear HP hb1 HB0 HX0
  go_wp2_with fail
  refine HED.out.mono ?_
  rintro e w3 ⟨v, rfl, hv, _, hb3⟩
  obtain ⟨E, hE, hRE⟩ := hv trivial
  obtain ⟨B, d, rfl, hd, hRC⟩ := Kd.R_reads hRE
  have HE := Aside0.mk hE
  have HB3 := Aside0.mk (below_then HB1.out HB1.out.size hb3)
  have HX3 := Aside0.mk (blk_below HX1.out hb3)
  have HR3 := Aside0.mk (Kd.C_below HR.out HB3.out)
  obtain ⟨x, hx⟩ : ∃ x, x = l[i] := ⟨_, rfl⟩
  obtain ⟨y, hy⟩ : ∃ y, y = l[j] := ⟨_, rfl⟩
  obtain ⟨cs, hcs, hlc⟩ := C_loadB HR3.out i hi2
  obtain ⟨ds, hds, hld⟩ := C_loadB HR3.out j hj2
  rw [← hx] at hcs
  rw [← hy] at hds
  have HLC := Aside0.mk hlc
  have HLD := Aside0.mk hld
  obtain ⟨m, hm⟩ : ∃ m, m = meetF x y := ⟨_, rfl⟩
  obtain ⟨b1, hb1⟩ : ∃ b1, b1 = closedB I E (i : Int) (j : Int) (l.length : Int) := ⟨_, rfl⟩
  obtain ⟨b2, hb2⟩ : ∃ b2, b2 = closedB J E (j : Int) (i : Int) (l.length : Int) := ⟨_, rfl⟩
  have HPB := Aside0.mk (show holdB l E i j I J = (m && b1 && b2) by
    unfold holdB
    rw [hb1, hb2, hm, show l.getD i zC = x by rw [hx]; simp [List.getD_eq_getElem?_getD, hi2], show l.getD j zC = y by rw [hy]; simp [List.getD_eq_getElem?_getD, hj2]])
  have HMC := Aside0.mk (show ∀ w', Below w3.heap.size w3 w' → Calls Try.prog 42 #[.agg cs.toArray, .agg ds.toArray] w' fun e w'' => e = .returned (.bool m) ∧ Below w3.heap.size w3 w'' from fun w' hw => by
    refine (meet_calls w' x y cs ds hcs hds).mono ?_
    rintro e w'' ⟨rfl, hbb⟩
    exact ⟨by rw [hm], below_then hw hw.size hbb⟩)
  have HC1 := Aside0.mk (show ∀ w', Below w3.heap.size w3 w' → Calls Try.prog 43 #[.slice A1 I.length c1, .slice B E.length d, .int .i64 (i : Int), .int .i64 (j : Int), .int .i64 (l.length : Int)] w' fun e w'' => e = .returned (.bool b1) ∧ Below w3.heap.size w3 w'' from fun w' hw => by
    refine (closed_calls w' A1 c1 I B d E i j l.length (Kd.C_below HI.out (below_then HB3.out HB3.out.size hw)) hc1 (Kd.C_below hRC hw) hd (by omega)).mono ?_
    rintro e w'' ⟨rfl, hbb⟩
    exact ⟨by rw [hb1], below_then hw hw.size hbb⟩)
  have HC2 := Aside0.mk (show ∀ w', Below w3.heap.size w3 w' → Calls Try.prog 43 #[.slice A2 J.length c2, .slice B E.length d, .int .i64 (j : Int), .int .i64 (i : Int), .int .i64 (l.length : Int)] w' fun e w'' => e = .returned (.bool b2) ∧ Below w3.heap.size w3 w'' from fun w' hw => by
    refine (closed_calls w' A2 c2 J B d E j i l.length (Kd.C_below HJ.out (below_then HB3.out HB3.out.size hw)) hc2 (Kd.C_below hRC hw) hd (by omega)).mono ?_
    rintro e w'' ⟨rfl, hbb⟩
    exact ⟨by rw [hb2], below_then hw hw.size hbb⟩)
  clear hb3 hE hx hy hcs hds hlc hld hm hb1 hb2 hv hRE hRC HED
  have hS0 : Below w3.heap.size w3 w3.drew := below_drew1 (Below.refl _ _)
  go_wp2_with fail
  cases m with
  | false =>
    have HHB := Aside0.mk (show holdB l E i j I J = false by rw [HPB.out]; rfl)
    refine wp_val (S := fun w' => Below w3.heap.size w3 w') (by kernel_rfl) (by kernel_rfl) hS0 ?_
    repeat (first
      | refine st_skip rfl ?_
      | refine st_move rfl rfl ?_
      | refine st_assign rfl rfl ?_
      | refine st_pickT rfl rfl rfl ?_
      | refine st_pickF rfl rfl rfl ?_
      | refine st_call (vs := [.agg cs.toArray, .agg ds.toArray]) rfl Try.func42 rfl rfl (by kernel_rfl) (fun w' hw => HMC.out w' hw) ?_
      | refine st_call (vs := [.slice A1 I.length c1, .slice B E.length d, .int .i64 (i : Int), .int .i64 (j : Int), .int .i64 (l.length : Int)]) rfl Try.func43 rfl rfl (by kernel_rfl) (fun w' hw => HC1.out w' hw) ?_
      | refine st_call (vs := [.slice A2 J.length c2, .slice B E.length d, .int .i64 (j : Int), .int .i64 (i : Int), .int .i64 (l.length : Int)]) rfl Try.func43 rfl rfl (by kernel_rfl) (fun w' hw => HC2.out w' hw) ?_
      | refine st_bin rfl rfl rfl (fun w' hw => by go_simp; rfl) ?_
      | refine st_indexAddr rfl rfl rfl (fun w' hw => by go_simp; rfl) ?_
      | refine st_un rfl rfl rfl rfl (fun w' hw => by go_simp; rfl) ?_
      | refine st_builtin rfl rfl (fun w' hw => by go_simp; rfl) ?_
      | refine st_slice rfl rfl rfl rfl rfl (fun w' hw => by go_simp; rfl) ?_
      | refine st_load (v := .agg cs.toArray) rfl rfl (fun w' hw => HLC.out w' hw) ?_
      | refine st_load (v := .agg ds.toArray) rfl rfl (fun w' hw => HLD.out w' hw) ?_
      | refine st_load (v := .slice A1 I.length c1) rfl rfl (fun w' hw => ldV (by rw [blk_cell (blk_below HX3.out hw)]; rfl)) ?_
      | refine st_load (v := .slice A2 J.length c2) rfl rfl (fun w' hw => ldV (by rw [blk_cell (blk_below HX3.out hw)]; rfl)) ?_)
    intro w4 hw4
    have HB4 := Aside0.mk (below_then HB3.out HB3.out.size hw4)
    clear hw4 hS0
    simp only [puts, Act.put, List.setIfInBounds_toArray, List.set_cons_zero, List.set_cons_succ]
    go_wp2
    exact bodyPost_ret (v := .tuple #[.bool false, .int .i64 0]) (by simp [results, Try.f25, go_sem]) rfl ⟨E, HE.out, by rw [HHB.out], HB4.out⟩
  | true =>
    rw [Bool.true_and] at HPB
    cases b1 with
    | false =>
      have HHB := Aside0.mk (show holdB l E i j I J = false by rw [HPB.out]; rfl)
      refine wp_val (S := fun w' => Below w3.heap.size w3 w') (by kernel_rfl) (by kernel_rfl) hS0 ?_
      repeat (first
        | refine st_skip rfl ?_
        | refine st_move rfl rfl ?_
        | refine st_assign rfl rfl ?_
        | refine st_pickT rfl rfl rfl ?_
        | refine st_pickF rfl rfl rfl ?_
        | refine st_call (vs := [.agg cs.toArray, .agg ds.toArray]) rfl Try.func42 rfl rfl (by kernel_rfl) (fun w' hw => HMC.out w' hw) ?_
        | refine st_call (vs := [.slice A1 I.length c1, .slice B E.length d, .int .i64 (i : Int), .int .i64 (j : Int), .int .i64 (l.length : Int)]) rfl Try.func43 rfl rfl (by kernel_rfl) (fun w' hw => HC1.out w' hw) ?_
        | refine st_call (vs := [.slice A2 J.length c2, .slice B E.length d, .int .i64 (j : Int), .int .i64 (i : Int), .int .i64 (l.length : Int)]) rfl Try.func43 rfl rfl (by kernel_rfl) (fun w' hw => HC2.out w' hw) ?_
        | refine st_bin rfl rfl rfl (fun w' hw => by go_simp; rfl) ?_
        | refine st_indexAddr rfl rfl rfl (fun w' hw => by go_simp; rfl) ?_
        | refine st_un rfl rfl rfl rfl (fun w' hw => by go_simp; rfl) ?_
        | refine st_builtin rfl rfl (fun w' hw => by go_simp; rfl) ?_
        | refine st_slice rfl rfl rfl rfl rfl (fun w' hw => by go_simp; rfl) ?_
        | refine st_load (v := .agg cs.toArray) rfl rfl (fun w' hw => HLC.out w' hw) ?_
        | refine st_load (v := .agg ds.toArray) rfl rfl (fun w' hw => HLD.out w' hw) ?_
        | refine st_load (v := .slice A1 I.length c1) rfl rfl (fun w' hw => ldV (by rw [blk_cell (blk_below HX3.out hw)]; rfl)) ?_
        | refine st_load (v := .slice A2 J.length c2) rfl rfl (fun w' hw => ldV (by rw [blk_cell (blk_below HX3.out hw)]; rfl)) ?_)
      intro w4 hw4
      have HB4 := Aside0.mk (below_then HB3.out HB3.out.size hw4)
      clear hw4 hS0
      simp only [puts, Act.put, List.setIfInBounds_toArray, List.set_cons_zero, List.set_cons_succ]
      go_wp2
      exact bodyPost_ret (v := .tuple #[.bool false, .int .i64 0]) (by simp [results, Try.f25, go_sem]) rfl ⟨E, HE.out, by rw [HHB.out], HB4.out⟩
    | true =>
      rw [Bool.true_and] at HPB
      have HHB := Aside0.mk (show holdB l E i j I J = b2 by rw [HPB.out])
      refine wp_val (S := fun w' => Below w3.heap.size w3 w') (by kernel_rfl) (by kernel_rfl) hS0 ?_
      repeat (first
        | refine st_skip rfl ?_
        | refine st_move rfl rfl ?_
        | refine st_assign rfl rfl ?_
        | refine st_pickT rfl rfl rfl ?_
        | refine st_pickF rfl rfl rfl ?_
        | refine st_call (vs := [.agg cs.toArray, .agg ds.toArray]) rfl Try.func42 rfl rfl (by kernel_rfl) (fun w' hw => HMC.out w' hw) ?_
        | refine st_call (vs := [.slice A1 I.length c1, .slice B E.length d, .int .i64 (i : Int), .int .i64 (j : Int), .int .i64 (l.length : Int)]) rfl Try.func43 rfl rfl (by kernel_rfl) (fun w' hw => HC1.out w' hw) ?_
        | refine st_call (vs := [.slice A2 J.length c2, .slice B E.length d, .int .i64 (j : Int), .int .i64 (i : Int), .int .i64 (l.length : Int)]) rfl Try.func43 rfl rfl (by kernel_rfl) (fun w' hw => HC2.out w' hw) ?_
        | refine st_bin rfl rfl rfl (fun w' hw => by go_simp; rfl) ?_
        | refine st_indexAddr rfl rfl rfl (fun w' hw => by go_simp; rfl) ?_
        | refine st_un rfl rfl rfl rfl (fun w' hw => by go_simp; rfl) ?_
        | refine st_builtin rfl rfl (fun w' hw => by go_simp; rfl) ?_
        | refine st_slice rfl rfl rfl rfl rfl (fun w' hw => by go_simp; rfl) ?_
        | refine st_load (v := .agg cs.toArray) rfl rfl (fun w' hw => HLC.out w' hw) ?_
        | refine st_load (v := .agg ds.toArray) rfl rfl (fun w' hw => HLD.out w' hw) ?_
        | refine st_load (v := .slice A1 I.length c1) rfl rfl (fun w' hw => ldV (by rw [blk_cell (blk_below HX3.out hw)]; rfl)) ?_
        | refine st_load (v := .slice A2 J.length c2) rfl rfl (fun w' hw => ldV (by rw [blk_cell (blk_below HX3.out hw)]; rfl)) ?_)
      intro w4 hw4
      have HB4 := Aside0.mk (below_then HB3.out HB3.out.size hw4)
      clear hw4 hS0
      simp only [puts, Act.put, List.setIfInBounds_toArray, List.set_cons_zero, List.set_cons_succ]
      go_wp2
      exact bodyPost_ret (v := .tuple #[.bool b2, .int .i64 0]) (by simp [results, Try.f25, go_sem]) rfl ⟨E, HE.out, by rw [HHB.out], HB4.out⟩
end Go.Proofs.Ytginlhengebgaaa.Ck
namespace Go.Proofs.Ytginlhengebgaaa.Ck
open Go Go.RowKit Go.Maps Go.Proofs.YtginlhengebgaaaW Go.Proofs.YtginlhengebgaaaW.PrintWords Go.Proofs.YtginlhengebgaaaW.PrintLast Go.Proofs.YtginlhengebgaaaW.PrintMore Go.Proofs.Ytginlhengebgaaa.PLockupEither Go.Proofs.Ytginlhengebgaaa.Bs Go.Proofs.Ytginlhengebgaaa.RegionVal Go.Proofs.Ytginlhengebgaaa.Lk
open Go.Lib hiding intOf
set_option linter.unusedVariables false
set_option linter.unusedSimpArgs false
theorem rise_uniq : ∀ (a b : List Int), a.Pairwise (· < ·) → b.Pairwise (· < ·) → (∀ x, x ∈ a ↔ x ∈ b) → a = b
  | [], [], _, _, _ => rfl
  | [], y :: b, _, _, h => absurd ((h y).2 List.mem_cons_self) (by simp)
  | x :: a, [], _, _, h => absurd ((h x).1 List.mem_cons_self) (by simp)
  | x :: a, y :: b, ha, hb, h => by
    have ha' := List.pairwise_cons.1 ha
    have hb' := List.pairwise_cons.1 hb
    have hxy : x = y := by
      rcases List.mem_cons.1 ((h x).1 List.mem_cons_self) with e | e
      · exact e
      · rcases List.mem_cons.1 ((h y).2 List.mem_cons_self) with e' | e'
        · exact e'.symm
        · have h1 := hb'.1 x e
          have h2 := ha'.1 y e'
          omega
    subst hxy
    rw [rise_uniq a b ha'.2 hb'.2 (fun z => ⟨fun hz => by
      rcases List.mem_cons.1 ((h z).1 (List.mem_cons_of_mem _ hz)) with e | e
      · have := ha'.1 z hz; omega
      · exact e, fun hz => by
      rcases List.mem_cons.1 ((h z).2 (List.mem_cons_of_mem _ hz)) with e | e
      · have := hb'.1 z hz; omega
      · exact e⟩)]
theorem own_rdA {w : World} {B n : Nat} {A : Option Addr} {c : Nat} {xs : List Int} (h : w.ownsRow B 3 1 (.slice A n c) xs.length (nums .i64 xs)) : ReadsInt w .i64 A xs.length xs := by
  obtain ⟨A', c', e, _, hr⟩ := own_rd h
  cases e
  exact hr
theorem races6 : racesF l6 2 E6 = [⟨2, 3⟩] := by kernel_rfl
theorem prv6 : prvB l6 2 E6 2 3 = true := by kernel_rfl
theorem into6a : intoF E6 2 = [0, 1, 2] := by
  refine rise_uniq _ _ (intoF_rise _ _) (by decide) (fun x => ?_)
  unfold intoF
  rw [List.mem_mergeSort, show intoS E6 [2] = [2, 1, 0] by kernel_rfl]
  simp only [List.mem_cons, List.not_mem_nil, or_false]
  omega
theorem into6b : intoF E6 3 = [0, 1, 3] := by
  refine rise_uniq _ _ (intoF_rise _ _) (by decide) (fun x => ?_)
  unfold intoF
  rw [List.mem_mergeSort, show intoS E6 [3] = [3, 1, 0] by kernel_rfl]
  simp only [List.mem_cons, List.not_mem_nil, or_false]
  omega
theorem hold6 : holdB l6 E6 3 2 [0, 1, 3] [0, 1, 2] = true := by
  unfold holdB
  rw [show meetF (l6.getD 3 zC) (l6.getD 2 zC) = true by kernel_rfl, Bool.true_and, Bool.and_eq_true]
  exact ⟨closedB_true.2 ⟨⟨by decide, by decide⟩, by decide, by decide, by decide⟩, closedB_true.2 ⟨⟨by decide, by decide⟩, by decide, by decide, by decide⟩⟩
theorem pair6b : pairF l6 2 3 2 = 0 := by kernel_rfl
set_option maxHeartbeats 16000000 in
set_option maxRecDepth 100000 in
theorem rbegun_calls (w : World) : Calls Try.prog 23 #[] w fun e w' => e = .returned (.bool true) ∧ Below w.heap.size w w' := by
  go_enter Try.func23, Try.ntmps23
  go_wp2_with fail
  refine (spawned_calls w).mono ?_
  rintro e w1 ⟨g1, rfl, hC1, hb1⟩
  have HB1 := Aside0.mk hb1
  have HP1 := Aside0.mk (All_calls w1 (some ⟨g1, 0, none⟩) 6 l6 2 hC1 (by decide))
  rw [chk6] at HP1
  clear hC1 hb1
  go_wp2_with fail
  refine HP1.out.mono ?_
  rintro e w2 ⟨v2, rfl, h2, _, hb2⟩
  obtain ⟨E, hE, hR2⟩ := h2 trivial
  obtain rfl := hE.uniq isE6
  rw [show racesF l6 (2 : Int).toNat E6 = [⟨2, 3⟩] from races6] at hR2
  obtain ⟨gE, cE, rfl⟩ := RE.form hR2 1 rfl (by omega)
  have HB2 := Aside0.mk (below_then HB1.out HB1.out.size hb2)
  have HR2 := Aside0.mk (show RE w2 w1.heap.size gE 1 cE [⟨2, 3⟩] from hR2)
  clear h2 hE hR2 hb2 HP1 HB1
  go_wp2_with fail
  refine (spawned_calls w2).mono ?_
  rintro e w3 ⟨g3, rfl, hC3, hb3⟩
  have HB3 := Aside0.mk (below_then HB2.out HB2.out.size hb3)
  have HR3 := Aside0.mk (HR2.out.below hb3)
  have HP3 := Aside0.mk (Prove_ok w3 (some ⟨g3, 0, none⟩) 6 l6 2 2 3 hC3 (by decide) pair6)
  clear hC3 hb3 HR2 HB2
  go_wp2_with fail
  refine HP3.out.mono ?_
  rintro e w4 ⟨E, v4, r4, hE, rfl, hb4, h4⟩
  obtain rfl := hE.uniq isE6
  rcases h4 with ⟨_, _, h4⟩ | ⟨rfl, _, g5, c5, g6, c6, rfl, hO1, hO2⟩
  · rw [prv6] at h4
    cases h4
  rw [show intoF E6 ((2 : Nat) : Int) = [0, 1, 2] from into6a] at hO1 ⊢
  rw [show intoF E6 ((3 : Nat) : Int) = [0, 1, 3] from into6b] at hO2 ⊢
  have HB4 := Aside0.mk (below_then HB3.out HB3.out.size hb4)
  have HR4 := Aside0.mk (HR3.out.below hb4)
  have HO1 := Aside0.mk hO1
  have HO2 := Aside0.mk hO2
  clear hE hb4 HP3 HB3 HR3 hO1 hO2
  have HBp := Aside0.mk (below_then HB4.out HB4.out.size (below_alloc (Below.refl w4.heap.size w4) (.cells #[.slice (some ⟨g5, 0, none⟩) 3 c5, .slice (some ⟨g6, 0, none⟩) 3 c6] 55)))
  have HRp := Aside0.mk (HR4.out.below (below_alloc (Below.refl w4.heap.size w4) (.cells #[.slice (some ⟨g5, 0, none⟩) 3 c5, .slice (some ⟨g6, 0, none⟩) 3 c6] 55)))
  have HXp := Aside0.mk (heap_alloc_new w4 (.cells #[.slice (some ⟨g5, 0, none⟩) 3 c5, .slice (some ⟨g6, 0, none⟩) 3 c6] 55))
  have HO1p := Aside0.mk (World.ownsRow.alloc HO1.out (.cells #[.slice (some ⟨g5, 0, none⟩) 3 c5, .slice (some ⟨g6, 0, none⟩) 3 c6] 55))
  have HO2p := Aside0.mk (World.ownsRow.alloc HO2.out (.cells #[.slice (some ⟨g5, 0, none⟩) 3 c5, .slice (some ⟨g6, 0, none⟩) 3 c6] 55))
  clear HB4 HR4 HO1 HO2
  go_wp2_with fail
  refine (spawned_calls _).mono ?_
  rintro e w5 ⟨g7, rfl, hC5, hb5⟩
  have HB5 := Aside0.mk (below_then HBp.out HBp.out.size hb5)
  have HR5 := Aside0.mk (HRp.out.below hb5)
  have HX5 := Aside0.mk (blk_below HXp.out hb5)
  have HO15 := Aside0.mk (HO1p.out.kept (gb_below none hb5) (.inr (by simp [Value.ownBlock])))
  have HO25 := Aside0.mk (HO2p.out.kept (gb_below none hb5) (.inr (by simp [Value.ownBlock])))
  obtain ⟨gp, hgp⟩ : ∃ gp, gp = w4.heap.size := ⟨_, rfl⟩
  rw [← hgp] at HX5 ⊢
  have HC5 := Aside0.mk hC5
  clear hC5 hb5 HBp HRp HXp HO1p HO2p hgp
  have hba := below_alloc (Below.refl w5.heap.size w5) (.cells (nums .i64 [0, 1, 3]).toArray 3)
  have hbb := below_alloc hba (.cells (nums .i64 [0, 1, 2]).toArray 3)
  have HBq := Aside0.mk hbb
  have HRa := Aside0.mk (C_int (reads_lit w5 [0, 1, 3] (by decide) 3))
  have HRb := Aside0.mk (C_int (reads_lit (w5.alloc (.cells (nums .i64 [0, 1, 3]).toArray 3)) [0, 1, 2] (by decide) 3))
  have HH := Aside0.mk (Holds_ok ((w5.alloc (.cells (nums .i64 [0, 1, 3]).toArray 3)).alloc (.cells (nums .i64 [0, 1, 2]).toArray 3)) (some ⟨g7, 0, none⟩) 6 l6 2 3 2 [0, 1, 3] [0, 1, 2]
    (.agg #[.slice (some ⟨w5.heap.size, 0, none⟩) 3 3, .slice (some ⟨w5.heap.size + 1, 0, none⟩) 3 3])
    ⟨_, 3, _, 3, rfl, by decide, by decide, Kd.C_below HRa.out (below_alloc (Below.refl _ _) _), by have := HRb.out; simpa using this⟩ (Kd.C_below HC5.out hbb) (by decide) pair6b)
  clear hba hbb
  go_wp2_with fail
  refine HH.out.mono ?_
  rintro e w6 ⟨E, hE, rfl, hb6⟩
  obtain rfl := hE.uniq isE6
  rw [hold6]
  have hb6' := below_then HBq.out HBq.out.size hb6
  have HB6 := Aside0.mk (below_then HB5.out HB5.out.size hb6')
  have HR6 := Aside0.mk (HR5.out.below hb6')
  have HX6 := Aside0.mk (blk_below HX5.out hb6')
  have HO16 := Aside0.mk (HO15.out.kept (gb_below none hb6') (.inr (by simp [Value.ownBlock])))
  have HO26 := Aside0.mk (HO25.out.kept (gb_below none hb6') (.inr (by simp [Value.ownBlock])))
  clear hE hb6 hb6' HH HBq HRa HRb HB5 HR5 HX5 HO15 HO25
  have k0 := HR6.out.cells 0 (by decide) 0 (.int .i64 2) rfl
  have k1 := HR6.out.cells 0 (by decide) 1 (.int .i64 3) rfl
  simp only [Nat.reduceMul, Nat.reduceAdd, Nat.add_zero, Nat.add_assoc] at k0 k1
  have k2 := blk_cell HX6.out 0
  simp only [List.getElem?_toArray, List.getElem?_cons_zero, List.getElem?_cons_succ] at k2
  have hu32 := Try.underlying32
  have hr6 := below_alloc (Below.refl w6.heap.size w6) (.cells (nums .i64 [0, 1, 2]).toArray 3)
  have HL6 := Aside0.mk (reads_lit w6 [0, 1, 2] (by decide) 3)
  have HBr := Aside0.mk (below_then HB6.out HB6.out.size hr6)
  have HXr := Aside0.mk (blk_below HX6.out hr6)
  have HO1r := Aside0.mk (HO16.out.kept (gb_below none hr6) (.inr (by simp [Value.ownBlock])))
  have HO2r := Aside0.mk (HO26.out.kept (gb_below none hr6) (.inr (by simp [Value.ownBlock])))
  clear hr6
  go_wp2_with fail
  refine (same_calls _ (some ⟨g5, 0, none⟩) c5 [0, 1, 2] (some ⟨w6.heap.size, 0, none⟩) 3 [0, 1, 2] (own_rdA HO1r.out) HL6.out).mono ?_
  rintro e w7 ⟨rfl, hb7⟩
  have HB7 := Aside0.mk (below_then HBr.out HBr.out.size hb7)
  have HX7 := Aside0.mk (blk_below HXr.out hb7)
  have HO27 := Aside0.mk (HO2r.out.kept (gb_below none hb7) (.inr (by simp [Value.ownBlock])))
  have hdec1 : decide (([0, 1, 2] : List Int) = [0, 1, 2]) = true := by decide
  rw [hdec1]
  clear hdec1 hb7 HL6 HBr HXr HO1r HO2r k0 k1 k2 HR6 HX6 HO16 HO26 HB6
  have k3 := blk_cell HX7.out 1
  simp only [List.getElem?_toArray, List.getElem?_cons_zero, List.getElem?_cons_succ] at k3
  have hr7 := below_alloc (Below.refl w7.heap.size w7) (.cells (nums .i64 [0, 1, 3]).toArray 3)
  have HL7 := Aside0.mk (reads_lit w7 [0, 1, 3] (by decide) 3)
  have HBs := Aside0.mk (below_then HB7.out HB7.out.size hr7)
  have HO2s := Aside0.mk (HO27.out.kept (gb_below none hr7) (.inr (by simp [Value.ownBlock])))
  clear hr7
  go_wp2_with fail
  refine (same_calls _ (some ⟨g6, 0, none⟩) c6 [0, 1, 3] (some ⟨w7.heap.size, 0, none⟩) 3 [0, 1, 3] (own_rdA HO2s.out) HL7.out).mono ?_
  rintro e w8 ⟨rfl, hb8⟩
  have HB8 := Aside0.mk (below_then HBs.out HBs.out.size hb8)
  have hdec1 : decide (([0, 1, 3] : List Int) = [0, 1, 3]) = true := by decide
  rw [hdec1]
  clear hdec1 hb8 HL7 HBs HO2s k3
  go_wp2
  exact bodyPost_ret (v := .bool true) (by simp [results, Try.f23, go_sem]) rfl ⟨rfl, HB8.out⟩
end Go.Proofs.Ytginlhengebgaaa.Ck
