/- The order of edges: the comparing function, slices.SortFunc by it, and what both with Compact leave. edges: its walk. -/
import Derived.Test.YtginlhengebgaaaLockI
import Derived.Test.YtginlhengebgaaaCkQ
import Derived.Test.YtginlhengebgaaaCkC
namespace Go.Proofs.Ytginlhengebgaaa.Ck
open Go Go.RowKit Go.Maps Go.Proofs.YtginlhengebgaaaW Go.Proofs.YtginlhengebgaaaW.PrintWords Go.Proofs.YtginlhengebgaaaW.PrintLast Go.Proofs.YtginlhengebgaaaW.PrintMore Go.Proofs.Ytginlhengebgaaa.PLockupEither Go.Proofs.Ytginlhengebgaaa.Bs Go.Proofs.Ytginlhengebgaaa.RegionVal Go.Proofs.Ytginlhengebgaaa.Lk
open Go.Lib hiding intOf
set_option linter.unusedVariables false
set_option linter.unusedSimpArgs false
def cmpQ (x y : S32) : Int := if cmpI x.f1 y.f1 = 0 then cmpI x.f0 y.f0 else cmpI x.f1 y.f1
set_option maxHeartbeats 8000000 in
set_option maxRecDepth 100000 in
theorem byEdge_calls (w : World) (x y : S32) : Calls Try.prog 52 #[.agg #[.int .i64 x.f0, .int .i64 x.f1], .agg #[.int .i64 y.f0, .int .i64 y.f1]] w fun e w' => e = .returned (.int .i64 (cmpQ x y)) ∧ Gr w w' := by
  obtain ⟨p, q⟩ := x
  obtain ⟨r, s⟩ := y
  have HE := Aside0.mk (show cmpQ ⟨p, q⟩ ⟨r, s⟩ = if cmpI q s = 0 then cmpI p r else cmpI q s from rfl)
  go_enter Try.func52, Try.ntmps52
  go_wp2_with fail
  have n1 := blk_alloc (heap_alloc_new w (.cells #[.int .i64 p, .int .i64 q] 32)) (.cells #[.int .i64 r, .int .i64 s] 32)
  have n2 := heap_alloc_new (w.alloc (.cells #[.int .i64 p, .int .i64 q] 32)) (.cells #[.int .i64 r, .int .i64 s] 32)
  rw [show (w.alloc (.cells #[.int .i64 p, .int .i64 q] 32)).heap.size = w.heap.size + 1 from Array.size_push _] at n2
  have G0 := (Gr.alloc w (.cells #[.int .i64 p, .int .i64 q] 32)).trans (Gr.alloc (w.alloc (.cells #[.int .i64 p, .int .i64 q] 32)) (.cells #[.int .i64 r, .int .i64 s] 32))
  obtain ⟨ga, hga⟩ : ∃ ga, ga = w.heap.size := ⟨_, rfl⟩
  obtain ⟨gb, hgb⟩ : ∃ gb, gb = w.heap.size + 1 := ⟨_, rfl⟩
  rw [← hga] at n1
  rw [← hgb] at n2
  rw [← hgb, ← hga]
  generalize ((w.alloc (.cells #[.int .i64 p, .int .i64 q] 32)).alloc (.cells #[.int .i64 r, .int .i64 s] 32)) = W at n1 n2 G0 ⊢
  clear hga hgb
  have step : ∀ {a b : World}, (a.heap[ga]? = some (.cells #[.int .i64 p, .int .i64 q] 32 (0, 0)) ∧ a.heap[gb]? = some (.cells #[.int .i64 r, .int .i64 s] 32 (0, 0)) ∧ Gr w a) → Gr a b → (b.heap[ga]? = some (.cells #[.int .i64 p, .int .i64 q] 32 (0, 0)) ∧ b.heap[gb]? = some (.cells #[.int .i64 r, .int .i64 s] 32 (0, 0)) ∧ Gr w b) := fun h g => ⟨blk_below h.1 g.below, blk_below h.2.1 g.below, h.2.2.trans g⟩
  have hS0 := step ⟨n1, n2, G0⟩ (Gr.drew W)
  clear n1 n2 G0
  refine wp_eff (S := fun w' => w'.heap[ga]? = some (.cells #[.int .i64 p, .int .i64 q] 32 (0, 0)) ∧ w'.heap[gb]? = some (.cells #[.int .i64 r, .int .i64 s] 32 (0, 0)) ∧ Gr w w') [(0, false), (1, false), (2, false), (3, false), (5, false), (6, false), (7, false), (8, false), (4, true), (9, true), (10, true), (11, true), (12, false)] (by kernel_rfl) (by kernel_rfl) hS0 (fun _ _ d _ _ h => by cases d <;> exact h) ?_
  refine se_un (v := .pointer (some ⟨ga, 1, none⟩)) rfl rfl rfl rfl rfl (fun w' hw => by go_simp) ?_
  refine se_un (v := .int .i64 q) rfl rfl rfl rfl rfl (fun w' hw => by have x1 := blk_cell hw.1 1; simp only [List.getElem?_toArray, List.getElem?_cons_zero, List.getElem?_cons_succ] at x1; go_simp) ?_
  refine se_un (v := .pointer (some ⟨gb, 1, none⟩)) rfl rfl rfl rfl rfl (fun w' hw => by go_simp) ?_
  refine se_un (v := .int .i64 s) rfl rfl rfl rfl rfl (fun w' hw => by have x1 := blk_cell hw.2.1 1; simp only [List.getElem?_toArray, List.getElem?_cons_zero, List.getElem?_cons_succ] at x1; go_simp) ?_
  refine se_un (v := .pointer (some ⟨ga, 0, none⟩)) rfl rfl rfl rfl rfl (fun w' hw => by go_simp) ?_
  refine se_un (v := .int .i64 p) rfl rfl rfl rfl rfl (fun w' hw => by have x1 := blk_cell hw.1 0; simp only [List.getElem?_toArray, List.getElem?_cons_zero] at x1; go_simp) ?_
  refine se_un (v := .pointer (some ⟨gb, 0, none⟩)) rfl rfl rfl rfl rfl (fun w' hw => by go_simp) ?_
  refine se_un (v := .int .i64 r) rfl rfl rfl rfl rfl (fun w' hw => by have x1 := blk_cell hw.2.1 0; simp only [List.getElem?_toArray, List.getElem?_cons_zero] at x1; go_simp) ?_
  refine se_call (vs := [.int .i64 q, .int .i64 s]) rfl rfl Try.func48 (by kernel_rfl) rfl (by kernel_rfl) ?_
  refine (cmp_Compare_int.calls q s _ _ (cmpI_f q s)).mono ?_
  rintro e1 w1 ⟨rfl, hd1⟩
  have hS1 := step hS0 (Gr.drawn0 hd1)
  refine ⟨_, rfl, hS1, ?_⟩
  clear hd1 hS0
  refine se_call (vs := [.int .i64 p, .int .i64 r]) rfl rfl Try.func48 (by kernel_rfl) rfl (by kernel_rfl) ?_
  refine (cmp_Compare_int.calls p r _ _ (cmpI_f p r)).mono ?_
  rintro e2 w2 ⟨rfl, hd2⟩
  have hS2 := step hS1 (Gr.drawn0 hd2)
  refine ⟨_, rfl, hS2, ?_⟩
  clear hd2 hS1
  have hlit := reads_lit w2 [cmpI q s, cmpI p r] (by simp) 3
  have hS3 := step hS2 (Gr.alloc w2 (.cells #[.int .i64 (cmpI q s), .int .i64 (cmpI p r)] 3))
  have hbs : Sem.run Try.prog (Instr.buildSlice 24 2 #[(0, .int .i64 (cmpI q s)), (1, .int .i64 (cmpI p r))]) w2 = .ok (.slice (some ⟨w2.heap.size, 0, none⟩) 2 2) (w2.alloc (.cells #[.int .i64 (cmpI q s), .int .i64 (cmpI p r)] 3)) := by go_simp
  refine se_lit (vs := [(0, .int .i64 (cmpI q s)), (1, .int .i64 (cmpI p r))]) rfl rfl rfl hbs hS3 ?_
  refine se_call (vs := [.slice (some ⟨w2.heap.size, 0, none⟩) 2 2]) rfl rfl Try.func47 (by kernel_rfl) rfl (by kernel_rfl) ?_
  refine (cmp_Or_int.calls 10 (some ⟨w2.heap.size, 0, none⟩) 2 [cmpI q s, cmpI p r] _ _ (C_int hlit) (by simp) (or_f _ _)).mono ?_
  rintro e3 w3 ⟨rfl, hd3⟩
  have hS4 := step hS3 (Gr.drawn0 hd3)
  refine ⟨_, rfl, hS4, ?_⟩
  clear hd3 hS3 hS2 hlit hbs
  refine se_assign rfl rfl rfl ?_
  intro _
  have HS := Aside0.mk hS4.2.2
  clear hS4 step
  rw [← HE.out]
  simp only [SeqE, puts, Act.put, List.setIfInBounds_toArray, List.set_cons_zero, List.set_cons_succ]
  go_wp2
  exact bodyPost_ret (v := .int .i64 (cmpQ ⟨p, q⟩ ⟨r, s⟩)) (by simp [results, Try.f52, go_sem]) rfl ⟨rfl, HS.out⟩

theorem ltq_pq (x y : S32) : Go.Proofs.ltOf cmpQ x y = true ↔ pq x y := by
  unfold Go.Proofs.ltOf cmpQ cmpI pq
  rw [decide_eq_true_iff]
  by_cases h1 : x.f1 < y.f1
  · simp [h1]
  · by_cases h2 : y.f1 < x.f1
    · simp [h1, h2]; omega
    · have e : x.f1 = y.f1 := by omega
      simp [h1, h2, e]
      by_cases h3 : x.f0 < y.f0
      · simp [h3]
      · by_cases h4 : y.f0 < x.f0 <;> simp [h3, h4]
theorem ltq_npq (x y : S32) : Go.Proofs.ltOf cmpQ x y = false ↔ ¬ pq x y := by
  rw [← ltq_pq]
  cases Go.Proofs.ltOf cmpQ x y <;> simp
theorem swoQ : Go.Sort.SWO (Go.Proofs.ltOf cmpQ) where
  irrefl x := by rw [ltq_npq]; unfold pq; omega
  trans x y z h1 h2 := by rw [ltq_pq] at *; unfold pq at *; omega
  ntrans x y z h1 h2 := by rw [ltq_npq] at *; unfold pq at *; omega
def SrtQ (ys : List S32) : Prop := ∀ i j (hi : i < j) (hj : j < ys.length), ¬ pq ys[j] (ys[i]'(by omega))
theorem isAgg32q (w : World) : (isAgg 32).run Try.prog w = .ok true w := Try.isAgg32 w
theorem sortE_calls (w : World) (bo : Nat) (v : Value) (xs : List S32) (h : Kd.R k32 32 w bo (fun _ => True) v xs) (hp : 0 < xs.length) (hl : xs.length ≤ 100000) :
    Calls Try.prog 33 #[v, .func (.func 52) #[] #[]] w fun e w' => e = .returned (.tuple #[]) ∧ ∃ ys, ys.Perm xs ∧ SrtQ ys ∧ Kd.R k32 32 w' bo (fun _ => True) v ys ∧ w.grownBy w' v.ownBlock := by
  obtain ⟨h0, inner, ho, hre⟩ := h
  obtain rfl := flat_of hre
  rcases ho.2 with ⟨hv, hn⟩ | ⟨g, cap, cur, rfl, hbg, hh, hnc, hcm, hcs, htk⟩
  · omega
  have hs2 : k32.sz = 2 := rfl
  rw [hs2] at hcs htk
  have hglt : g < w.heap.size := (Array.getElem?_eq_some_iff.1 hh).1
  have hH : Go.Sort.HoldsK c32 2 w g 0 xs.toArray := fun j hj => by
    rw [flatK_size] at hj
    refine ⟨?_, blk_frozen hh _⟩
    show _ = some ((Go.Sort.flatK c32 2 xs.toArray)[j]!)
    rw [Nat.zero_add, blk_cell hh, ← Array.getElem?_toList]
    have h1 : (cur.toList.take (xs.length * 2))[j]? = (flat xs)[j]? := by rw [htk]
    rw [List.getElem?_take, if_pos hj, ← flatK_flat] at h1
    rw [h1, Array.getElem?_toList]
    have hj2 : j < (Go.Sort.flatK c32 2 xs.toArray).size := by rw [flatK_size]; exact hj
    rw [Array.getElem?_eq_getElem hj2, getElem!_pos _ j hj2]
  have hcmp : Go.Proofs.CmpLays Try.prog 52 #[] c32 2 cmpQ g 0 xs.toArray.size w := fun m os dk hdk x y => by
    refine (byEdge_calls _ x y).mono ?_
    rintro e w' ⟨rfl, hg⟩
    exact ⟨rfl, hg.is⟩
  have hmain := Go.Proofs.AnyQ.slices_SortFunc sortLays 2 isAgg32q (fun w => Try.sizeOf32 w) c32 (fun _ => rfl) (fun x v hv => by
    simp only [c32, List.mem_cons, List.not_mem_nil, or_false] at hv
    rcases hv with rfl | rfl <;> rfl) cmpQ swoQ 52 #[] g 0 cap xs.toArray w (fun args w => enters_ Try.func52 (by kernel_rfl) rfl args w) hcmp hH hglt (by rw [List.size_toArray]; omega)
  rw [List.size_toArray] at hmain
  refine hmain.mono ?_
  rintro e w' ⟨rfl, d', n, os, hperm, hsrt, rfl⟩
  have hds : d'.size = xs.length := by rw [hperm.1, List.size_toArray]
  have hdp : d'.toList.Perm xs := by
    have h1 := hperm.2.2
    have h2 : (List.take xs.length d'.toList).Perm xs := by simpa [hds] using h1
    rwa [List.take_of_length_le (by rw [Array.length_toList, hds]; exact Nat.le_refl _)] at h2
  refine ⟨rfl, d'.toList, hdp, fun i j hij hj => ?_, ?_, grown_put _⟩
  · have hj' : j < d'.size := by simpa using hj
    have h1 := hsrt i j (Nat.zero_le _) hij (by omega)
    rw [ltq_npq] at h1
    have e1 : d'[j]! = d'.toList[j] := by simp [hj']
    have e2 : d'[i]! = d'.toList[i]'(by omega) := by simp [show i < d'.size by omega]
    rwa [e1, e2] at h1
  · have hsz : (Go.Sort.flatK c32 2 d').size = xs.length * 2 := by rw [Go.Sort.size_flatK, hds]
    have hdl : d'.toList.length = xs.length := by rw [Array.length_toList, hds]
    refine ⟨fun k hk => trivial, flat d'.toList, ⟨by rw [flat_len]; rfl, .inr ⟨g, cap, _, by rw [hdl], hbg, heap_put _ hh, by rw [hdl]; exact hnc, hcm, by rw [hs2]; simp [Go.Sort.putCells, hcs], ?_⟩⟩, reps_flat _ _ _ _⟩
    have h1 := take_put cur (Go.Sort.flatK c32 2 d') (by
      rw [hsz]
      have h2 : (cur.toList.take (xs.length * 2)).length = (flat xs).length := by rw [htk]
      rw [List.length_take, flat_len, Array.length_toList] at h2
      omega)
    rw [hsz, flatK_flat' ] at h1
    rw [hdl]
    exact h1
theorem sortE_all (w : World) (bo : Nat) (v : Value) (xs : List S32) (h : Kd.R k32 32 w bo (fun _ => True) v xs) (hl : xs.length ≤ 100000) :
    Calls Try.prog 33 #[v, .func (.func 52) #[] #[]] w fun e w' => e = .returned (.tuple #[]) ∧ ∃ ys, ys.Perm xs ∧ SrtQ ys ∧ Kd.R k32 32 w' bo (fun _ => True) v ys ∧ w.grownBy w' v.ownBlock := by
  by_cases hp : 0 < xs.length
  · exact sortE_calls w bo v xs h hp hl
  · obtain rfl : xs = [] := List.eq_nil_of_length_eq_zero (by omega)
    obtain ⟨A, c, rfl, _, _⟩ := Kd.R_reads h
    refine (Go.Proofs.AnyF.slices_SortFunc_none sortLays A c _ w).mono ?_
    rintro e w' ⟨rfl, rfl⟩
    exact ⟨rfl, [], List.Perm.refl _, fun i j _ hj => absurd hj (by simp), h, World.grownBy.refl _ _⟩
theorem dd2_pq : ∀ (l : List S32) (p : S32), (p :: l).Pairwise (fun x y => ¬ pq y x) → (∀ y ∈ dd2 p l, pq p y) ∧ (dd2 p l).Pairwise pq ∧ ∀ y, (y = p ∨ y ∈ dd2 p l) ↔ (y = p ∨ y ∈ l)
  | [], p, _ => ⟨fun y hy => (by cases hy), List.Pairwise.nil, fun y => Iff.rfl⟩
  | y :: l, p, h => by
    rw [List.pairwise_cons] at h
    have hpy := h.1 y List.mem_cons_self
    simp only [dd2]
    obtain ⟨h1, h2, h3⟩ := dd2_pq l y h.2
    by_cases he : p.f0 = y.f0 ∧ p.f1 = y.f1
    · rw [if_pos he]
      have hpe : p = y := s32_ext he.1 he.2
      subst hpe
      refine ⟨h1, h2, fun z => (h3 z).trans ?_⟩
      rw [List.mem_cons]
      constructor
      · rintro (k | k)
        · exact .inl k
        · exact .inr (.inr k)
      · rintro (k | k | k)
        · exact .inl k
        · exact .inl k
        · exact .inr k
    · rw [if_neg he]
      have hlt : pq p y := by
        unfold pq at hpy ⊢
        omega
      refine ⟨fun z hz => ?_, List.pairwise_cons.2 ⟨h1, h2⟩, fun z => ?_⟩
      · rcases List.mem_cons.1 hz with rfl | hz
        · exact hlt
        · have := h1 z hz
          unfold pq at this hlt ⊢
          omega
      · rw [List.mem_cons, List.mem_cons, h3 z]
theorem dd_isE {l : List CE} {ys : List S32} (hp : ys.Perm (raw l)) (hs : SrtQ ys) : IsE l (dd ys) := by
  have hpw : ys.Pairwise (fun x y => ¬ pq y x) := List.pairwise_iff_getElem.2 (fun i j hi hj hij => hs i j hij hj)
  cases ys with
  | nil => exact ⟨List.Pairwise.nil, fun p => hp.mem_iff⟩
  | cons y ys =>
    obtain ⟨h1, h2, h3⟩ := dd2_pq ys y hpw
    refine ⟨List.pairwise_cons.2 ⟨h1, h2⟩, fun p => ?_⟩
    rw [← hp.mem_iff]
    show p ∈ y :: dd2 y ys ↔ _
    rw [List.mem_cons, List.mem_cons, h3 p]
end Go.Proofs.Ytginlhengebgaaa.Ck
namespace Go.Proofs.Ytginlhengebgaaa.Ck
open Go Go.RowKit Go.Maps Go.Proofs.YtginlhengebgaaaW Go.Proofs.YtginlhengebgaaaW.PrintWords Go.Proofs.YtginlhengebgaaaW.PrintLast Go.Proofs.YtginlhengebgaaaW.PrintMore Go.Proofs.Ytginlhengebgaaa.PLockupEither Go.Proofs.Ytginlhengebgaaa.Bs Go.Proofs.Ytginlhengebgaaa.RegionVal Go.Proofs.Ytginlhengebgaaa.Lk
open Go.Lib hiding intOf
set_option linter.unusedVariables false
set_option linter.unusedSimpArgs false
/-- an event, loaded -/
theorem C_loadC {w : World} {ad : Addr} {n : Nat} {xs : List CE} (h : Kd.C kC w (some ad) n xs) (i : Nat) (hi : i < xs.length) : ∃ cs, (xs[i]).In cs ∧ Sem.run Try.prog (Instr.loadAt 41 (.pointer (some (ad.add (i * 12))))) w = .ok (.agg cs.toArray) w := by
  obtain ⟨ad', c, e, hl, hK, hc⟩ := Kd.C_get h zC (i : Int) (by omega) (by have := h.1; omega)
  obtain rfl := Option.some.inj e
  rw [show xs.getD (Int.toNat (i : Int)) zC = xs[i] by simp [List.getD_eq_getElem?_getD, hi]] at hK
  have hK2 : (xs[i]).In c := hK
  refine ⟨c, hK2, ?_⟩
  have hcells : (loadCells (ad.add (i * 12)) c.length).run Try.prog w = .ok c.toArray w :=
    run_loadCells_list (P := Try.prog) w (ad.add (i * 12)) c (fun j v hv => by
      rw [ad_add]
      have := hc j v hv
      rwa [Int.toNat_natCast] at this)
  have hs : (sizeOf 41).run Try.prog w = .ok c.length w := by
    cases hq : Try.prog.info? 41 with
    | none => have := info41; simp [hq] at this
    | some q => have h2 : q.size = 12 := by have := info41; simpa [hq] using this
                simp [sizeOf, typeInfo, hq, h2, hK2.1]
  simp [Instr.loadAt, Instr.sureAddr, loadVar, Sem.run_bind, Try.isAgg41, hs]
  rw [hK2.1] at hcells
  rw [hcells]
  rfl
theorem C_oneC {W : World} {g : Nat} {cs : List Value} {x : CE} (hx : x.In cs) (hb : W.heap[g]? = some (.cells cs.toArray 41 (0, 0))) : Kd.C kC W (some ⟨g, 0, none⟩) 1 [x] := by
  refine ⟨rfl, by omega, fun _ => ⟨_, rfl, fun j p hj => ?_⟩⟩
  match j, hj with
  | 0, hj =>
    obtain rfl := Option.some.inj hj
    refine ⟨cs, hx.1, hx, fun i u hu => ?_⟩
    rw [Addr.add_mid, blk_cell hb]
    simpa using hu
theorem fresh_storeC {W : World} {g : Nat} {zs : Array Value} (hb : W.heap[g]? = some (.cells zs 41 (0, 0))) (hs : zs.size = 12) {cs : List Value} {x : CE} (hx : x.In cs) :
    ∃ W', Sem.run Try.prog (Instr.storeAt 41 (.pointer (some ⟨g, 0, none⟩)) (.agg cs.toArray)) W = .ok () W' ∧ W'.heap[g]? = some (.cells cs.toArray 41 (0, 0)) ∧ ∀ (B : Nat) (a : World), B ≤ g → Below B a W → Below B a W' := by
  have hrun := run_store_run (P := Try.prog) 41 (.agg cs.toArray) cs (o := 0) hb rfl (by rw [hx.1]; exact info41) (by rw [hs, hx.1]; exact Nat.le_refl _) hx.2.1
  obtain ⟨cs', h1, h2, h3⟩ := setCells_row cs 0 W zs hb (by rw [hs, hx.1]; exact Nat.le_refl _)
  refine ⟨_, hrun, ?_, fun B a hB hba => below_setCells hB _ _ _ hba⟩
  rw [h1]
  have h4 : cs' = cs.toArray := by
    apply Array.toList_inj.1
    rw [h3, List.take_zero, List.nil_append, List.drop_eq_nil_of_le (by rw [Array.length_toList, hs, hx.1]; exact Nat.le_refl _), List.append_nil]
  rw [h4]
/-- the weaver, made -/
theorem WV.made (w : World) : WV (((((w.alloc (.map #[] 0)).alloc (.map #[] 0)).alloc (.map #[] 0)).alloc (.map #[] 0)).alloc (.cells (wCells w.heap.size (.slice none 0 0)) 91)) w.heap.size m0 w0 := by
  have hs1 : (w.alloc (.map #[] 0)).heap.size = w.heap.size + 1 := Array.size_push _
  have hs2 : ((w.alloc (.map #[] 0)).alloc (.map #[] 0)).heap.size = w.heap.size + 2 := by rw [World.size_alloc, hs1]
  have hs3 : (((w.alloc (.map #[] 0)).alloc (.map #[] 0)).alloc (.map #[] 0)).heap.size = w.heap.size + 3 := by rw [World.size_alloc, hs2]
  have hs4 : ((((w.alloc (.map #[] 0)).alloc (.map #[] 0)).alloc (.map #[] 0)).alloc (.map #[] 0)).heap.size = w.heap.size + 4 := by rw [World.size_alloc, hs3]
  have b1 := fun (a : World) (o : Obj) => below_alloc (Below.refl a.heap.size a) o
  have c := heap_alloc_new ((((w.alloc (.map #[] 0)).alloc (.map #[] 0)).alloc (.map #[] 0)).alloc (.map #[] 0)) (.cells (wCells w.heap.size (.slice none 0 0)) 91)
  rw [hs4] at c
  have hO0 : Mp.Holds (((((w.alloc (.map #[] 0)).alloc (.map #[] 0)).alloc (.map #[] 0)).alloc (.map #[] 0)).alloc (.cells (wCells w.heap.size (.slice none 0 0)) 91)) w.heap.size (Value.int .i64) (Value.int .i64) ([] : List (Int × Int)) :=
    ((((Mp.holds_made w _ _).below (b1 _ _)).below (b1 _ _)).below (b1 _ _)).below (b1 _ _)
  have hR0 : Mp.Holds (((((w.alloc (.map #[] 0)).alloc (.map #[] 0)).alloc (.map #[] 0)).alloc (.map #[] 0)).alloc (.cells (wCells w.heap.size (.slice none 0 0)) 91)) (w.heap.size + 1) (Value.int .i64) id ([] : List (Int × Value)) := by
    have h := (((Mp.holds_made (w.alloc (.map #[] 0)) (Value.int .i64) (id : Value → Value)).below (b1 _ (.map #[] 0))).below (b1 _ (.map #[] 0))).below (b1 _ (.cells (wCells w.heap.size (.slice none 0 0)) 91))
    rwa [hs1] at h
  have hO1 : Mp.Holds (((((w.alloc (.map #[] 0)).alloc (.map #[] 0)).alloc (.map #[] 0)).alloc (.map #[] 0)).alloc (.cells (wCells w.heap.size (.slice none 0 0)) 91)) (w.heap.size + 2) (Value.int .i64) (Value.int .i64) ([] : List (Int × Int)) := by
    have h := ((Mp.holds_made ((w.alloc (.map #[] 0)).alloc (.map #[] 0)) (Value.int .i64) (Value.int .i64)).below (b1 _ (.map #[] 0))).below (b1 _ (.cells (wCells w.heap.size (.slice none 0 0)) 91))
    rwa [hs2] at h
  have hR1 : Mp.Holds (((((w.alloc (.map #[] 0)).alloc (.map #[] 0)).alloc (.map #[] 0)).alloc (.map #[] 0)).alloc (.cells (wCells w.heap.size (.slice none 0 0)) 91)) (w.heap.size + 3) (Value.int .i64) id ([] : List (Int × Value)) := by
    have h := (Mp.holds_made (((w.alloc (.map #[] 0)).alloc (.map #[] 0)).alloc (.map #[] 0)) (Value.int .i64) (id : Value → Value)).below (b1 _ (.cells (wCells w.heap.size (.slice none 0 0)) 91))
    rwa [hs3] at h
  refine ⟨c, fun q => ?_, fun q => ?_, fun q => List.Pairwise.nil, fun q x => rfl, fun q x => World.ownsRow_nil _ _ _ _, fun q x p y _ => .inl rfl, Kd.R_nil _ _ _ _ _⟩
  · cases q
    · exact hO0
    · exact hO1
  · cases q
    · exact hR0
    · exact hR1
set_option maxHeartbeats 16000000 in
set_option maxRecDepth 100000 in
theorem edges_calls (w : World) (A : Option Addr) (c : Nat) (l : List CE) (hr : Kd.C kC w A l.length l) (hc : l.length ≤ c) (hl : l.length ≤ 200) :
    Calls Try.prog 41 #[.slice A l.length c] w fun e w' => ∃ v E, e = .returned v ∧ IsE l E ∧ Kd.R k32 32 w' w.heap.size (fun _ => True) v E ∧ Below w.heap.size w w' := by
  have HR := Aside0.mk hr
  have HWM := Aside0.mk (WV.made w)
  have HBM := Aside0.mk (show Below w.heap.size w (((((w.alloc (.map #[] 0)).alloc (.map #[] 0)).alloc (.map #[] 0)).alloc (.map #[] 0)).alloc (.cells (wCells w.heap.size (.slice none 0 0)) 91)) from
    below_alloc (Below.mono (below_alloc (Below.mono (below_alloc (Below.mono (below_alloc (below_alloc (Below.refl _ _) _) _) (Nat.le_refl _)) _) (Nat.le_refl _)) _) (Nat.le_refl _)) _)
  clear hr
  have hmm := @run_makeMap Try.prog
  go_enter Try.func41, Try.ntmps41
  go_upto_region 2 with (fail)
  clear hmm
  have HSZ0 := Aside0.mk HWM.out.size
  have HNB0 := Aside0.mk (Nat.le_refl w.heap.size)
  generalize hW0 : (((((w.alloc (Obj.map #[] 0)).alloc (Obj.map #[] 0)).alloc (Obj.map #[] 0)).alloc (Obj.map #[] 0)).alloc (Obj.cells #[Value.map (some w.heap.size), Value.map (some (w.heap.size + 1)), Value.map (some (w.heap.size + 1 + 1)), Value.map (some (w.heap.size + 1 + 1 + 1)), Value.slice none 0 0] 91)) = W0
  have HW0 := Aside0.mk (show WV W0 w.heap.size m0 w0 by rw [← hW0]; exact HWM.out)
  have HB0 := Aside0.mk (show Below w.heap.size w W0 by rw [← hW0]; exact HBM.out)
  clear hW0 HWM HBM HSZ0
  rw [show w.heap.size + 1 + 1 + 1 + 1 = w.heap.size + 4 from rfl]
  obtain ⟨nb, hnb⟩ : ∃ nb, nb = w.heap.size := ⟨_, rfl⟩
  have HNB := Aside0.mk hnb
  rw [← hnb] at HW0 HB0 ⊢
  clear hnb HNB0
  go_wp2_with fail
  go_loopw [14] (fun v14 wr => ∃ (i : Nat) (m : WM) (s : Wv), v14 = .int .i64 (i : Int) ∧ i ≤ l.length ∧ Aside0 (s = wFold (l.take i) 0 w0) ∧ Aside0 (WV wr nb m s) ∧ Aside0 (Below nb w wr)) (fun v14 _ => l.length - (intOf v14).toNat)
  case atStart => exact ⟨0, m0, w0, rfl, Nat.zero_le _, ⟨rfl⟩, HW0, HB0⟩
  case round =>
    clear HW0 HB0
    obtain ⟨i, m, s, rfl, hi, HS, HW, HB⟩ := hrel
    have HFL := Aside0.mk (fold_law (l.take i))
    by_cases hlt : i < l.length
    · have hlt1 : (i : Int) < (l.length : Int) := by omega
      have hi200 : i < 200 := by omega
      have htl : (l.take i).length = i := by rw [List.length_take]; omega
      obtain ⟨ad, hA⟩ : ∃ ad, A = some ad := by
        obtain ⟨ad, h, _⟩ := HR.out.2.2 (show 0 < l.length by omega)
        exact ⟨ad, h⟩
      subst hA
      obtain ⟨x, hx⟩ : ∃ x, x = l[i] := ⟨_, rfl⟩
      obtain ⟨cs, hcs, hld⟩ := C_loadC (Kd.C_below HR.out (show Below w.heap.size w wr by rw [← HNB.out]; exact HB.out)) i hlt
      rw [← hx] at hcs
      have HCS := Aside0.mk hcs
      have HL := Aside0.mk hld
      have HA := Aside0.mk (show Ahead s i by
        have h := HFL.out.1
        rw [htl, ← HS.out] at h
        exact h)
      have HLO := Aside0.mk (show s.out.length ≤ 500000 by
        have h := HFL.out.2.1
        unfold raw at h
        rw [← HS.out, htl] at h
        have h2 : i * (2 * i + 2) ≤ 200 * 402 := Nat.mul_le_mul (by omega) (by omega)
        omega)
      have HS1 := Aside0.mk (show wStep s (i : Int) x = wFold (l.take (i + 1)) 0 w0 by
        rw [List.take_succ_eq_append_getElem hlt, raw_snoc, htl, ← HS.out, hx])
      clear hx hcs hld htl HFL
      go_wp2_with (first
        | ((with_reducible refine gate_dst (N := 18) rfl ?_); refine wpl_load (v := .agg cs.toArray) rfl rfl rfl HL.out ?_)
        | ((with_reducible refine gate_dst (N := 5) rfl ?_); refine box_event ?hg (N := 5) ?hd (cs := zc41) (t := 41) ?hr ?_; (case hd => rfl); (case hg => rfl); (case hr => go_simp; rfl); intro gx hgx w1 hbox hb; have HGX := Aside0.mk hgx; have HBX := Aside0.mk hbox; have HBW := Aside0.mk hb; clear hbox hb hgx)
        | ((with_reducible refine gate_store (t := 41) (p := 5) rfl ?_); obtain ⟨w2, hrun, hk2, hbel⟩ := fresh_storeC HBX.out rfl HCS.out; refine wpl_store rfl rfl rfl rfl rfl hrun ?_; have HK2 := Aside0.mk hk2; have HBW2 := Aside0.mk (hbel wr.heap.size wr (by rw [HGX.out]; exact Nat.le_refl _) HBW.out); clear hrun hk2 hbel)
        | ((with_reducible refine gate_dst (N := 21) rfl ?_); obtain ⟨c2, hc2, hl2⟩ := C_loadC (C_oneC HCS.out HK2.out) 0 (by simp); refine wpl_load (v := .agg c2.toArray) rfl rfl rfl hl2 ?_; have HC2 := Aside0.mk hc2; clear hc2 hl2)
        | fail)
      have HW2 := Aside0.mk (HW.out.below HBW2.out)
      have HB2 := Aside0.mk (below_then HB.out (show nb ≤ wr.heap.size by have := HW.out.size; omega) HBW2.out)
      clear HW HB HBW HBW2 HBX HGX HK2 HL
      refine (event_calls w2 nb m s i x c2 HC2.out HW2.out (by omega) HA.out HLO.out).mono ?_
      rintro e w3 ⟨rfl, m3, hW3, hB3⟩
      rw [HS1.out] at hW3
      have HW3 := Aside0.mk hW3
      have HB3 := Aside0.mk (Below.trans HB2.out hB3)
      clear hW3 hB3 HW2 HB2 HA HLO HS HS1
      go_wp2
      go_roundw
      case rel => exact ⟨i + 1, m3, _, by go_num, hlt, ⟨rfl⟩, HW3, HB3⟩
      case measure => simp [intOf]; omega
    · have HWE := Aside0.mk (show WV wr nb m (wFold l 0 w0) by
        have h := HW.out
        rw [HS.out, List.take_of_length_le (by omega)] at h
        exact h)
      obtain ⟨A4, c4, hv4, hc4, _⟩ := Kd.R_reads HWE.out.outr
      have k4 : wr.cell? ⟨nb + 4, 4, none⟩ = some m.v := by rw [blk_cell HWE.out.cell]; rfl
      rw [hv4] at k4
      have HRW := Aside0.mk (show Kd.R k32 32 wr (nb + 5) (fun _ => True) (.slice A4 (raw l).length c4) (raw l) by
        have h := HWE.out.outr
        rw [hv4] at h
        exact h)
      have HRL := Aside0.mk (show (raw l).length ≤ 100000 by
        have h := (fold_law l).2.1
        have h2 : l.length * (2 * l.length + 2) ≤ 200 * 402 := Nat.mul_le_mul (by omega) (by omega)
        omega)
      have HC4 := Aside0.mk HWE.out.cell
      have HSZ := Aside0.mk HWE.out.size
      have k4' : wr.cell? ⟨nb + 4, 4, none⟩ = some (.slice A4 (raw l).length c4) := k4
      clear hv4 HWE HW HS HFL k4
      go_wp2_with fail
      refine (sortE_all wr (nb + 5) _ (raw l) HRW.out HRL.out).mono ?_
      rintro e w5 ⟨rfl, ys, hperm, hsrt, hR5, hg5⟩
      have hb5 : ∀ k, (Value.slice A4 (raw l).length c4).ownBlock = some k → nb + 5 ≤ k := fun k hk => by obtain ⟨inner, ho⟩ := Kd.R_own HRW.out; exact Lk.own_base ho k hk
      have HE := Aside0.mk (dd_isE hperm hsrt)
      have HYL := Aside0.mk (show ys.length ≤ 100000 by have := hperm.length_eq; have := HRL.out; omega)
      have HR5 := Aside0.mk hR5
      have HB5 := Aside0.mk (Below.grown HB.out hg5 (by have := HSZ.out; omega) (fun k hk => by have := hb5 k hk; have := HNB.out; omega))
      have k5 : w5.cell? ⟨nb + 4, 4, none⟩ = some (.slice A4 (raw l).length c4) := by
        have h := hg5.block (nb + 4) (by have := HSZ.out; omega) (fun e => by have := hb5 (nb + 4) e.symm; omega)
        rw [← k4']
        unfold World.cell?
        simp only
        rw [h]
      have HG5 := Aside0.mk hg5.size
      clear hperm hsrt hR5 hg5 hb5 HRW HRL k4'
      go_wp2_with fail
      refine (compact_calls w5 (nb + 5) _ ys HR5.out HYL.out).mono ?_
      rintro e w6 ⟨v1, zs, rfl, rfl, hR6, hg6⟩
      have HR6 := Aside0.mk hR6
      have HB6 := Aside0.mk (Below.grown HB5.out hg6 (by have := HG5.out; have := HSZ.out; omega) (fun k hk => by obtain ⟨inner, ho⟩ := Kd.R_own HR5.out; have := Lk.own_base ho k hk; have := HNB.out; omega))
      clear hR6 hg6
      go_wp2
      exact bodyPost_ret (v := v1) (by simp [results, Try.f41, go_sem]) rfl ⟨v1, _, rfl, HE.out, Kd.R_lower HR6.out (by have := HNB.out; omega), by have h := HB6.out; rw [HNB.out] at h; exact h⟩
end Go.Proofs.Ytginlhengebgaaa.Ck
