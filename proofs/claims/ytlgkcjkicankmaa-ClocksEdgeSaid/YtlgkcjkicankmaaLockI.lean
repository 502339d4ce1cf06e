/- lockup.Order with sorting and compacting done; lockupBegun. -/
import Derived.Test.YtlgkcjkicankmaaLockH
import Derived.Test.YtlgkcjkicankmaaSame
import Derived.Shelf.SlSortCmp.NoneTotal
namespace Go.Proofs.Ytlgkcjkicankmaa.Lk
open Go Go.RowKit Go.Maps Go.Proofs.YtlgkcjkicankmaaW Go.Proofs.YtlgkcjkicankmaaW.PrintWords Go.Proofs.YtlgkcjkicankmaaW.PrintLast Go.Proofs.YtlgkcjkicankmaaW.PrintMore Go.Proofs.Ytlgkcjkicankmaa.PLockupEither Go.Proofs.Ytlgkcjkicankmaa.Bs Go.Proofs.Ytlgkcjkicankmaa.RegionVal
open Go.Lib hiding intOf
set_option linter.unusedVariables false
set_option linter.unusedSimpArgs false

theorem sort_all (w : World) (bo : Nat) (v : Value) (xs : List S32) (h : Kd.R k32 32 w bo (fun _ => True) v xs) (hl : xs.length ≤ 100000) :
    Calls Try.prog 25 #[v, .func (.func 26) #[] #[]] w fun e w' => e = .returned (.tuple #[]) ∧ ∃ ys, ys.Perm xs ∧ SrtP ys ∧ Kd.R k32 32 w' bo (fun _ => True) v ys ∧ w.grownBy w' v.ownBlock := by
  by_cases hp : 0 < xs.length
  · exact sort_calls w bo v xs h hp hl
  · obtain rfl : xs = [] := List.eq_nil_of_length_eq_zero (by omega)
    obtain ⟨A, c, rfl, _, _⟩ := Kd.R_reads h
    refine (Go.Proofs.AnyF.slices_SortFunc_none sortLays A c _ w).mono ?_
    rintro e w' ⟨rfl, rfl⟩
    exact ⟨rfl, [], List.Perm.refl _, fun i j _ hj => absurd hj (by simp), h, World.grownBy.refl _ _⟩
theorem evFold_len : ∀ (l : List Ev) (g : Int → List Int) (out : List S32) (i : Nat), (∀ t, (g t).length ≤ i) → i + l.length ≤ 200 → (evFold l g out).2.length ≤ out.length + 200 * l.length
  | [], g, out, i, _, _ => by simp [evFold]
  | x :: l, g, out, i, hg, hi => by
    rw [List.length_cons] at hi
    obtain ⟨h1, h2⟩ := evStep_len g out x i hg
    have := evFold_len l (evStep g out x).1 (evStep g out x).2 (i + 1) h1 (by omega)
    simp only [evFold, List.length_cons]
    omega
theorem order_full (w : World) (A : Option Addr) (c : Nat) (l : List Ev) (hr : Kd.C k41 w A l.length l) (hc : l.length ≤ c) (hl : l.length ≤ 200) :
    Calls Try.prog 13 #[.slice A l.length c] w fun e w' => ∃ v ys, e = .returned (.tuple #[v, .int .i64 0]) ∧ ys.Perm (evFold l (fun _ => []) []).2 ∧ SrtP ys ∧ Kd.R k32 32 w' w.heap.size (fun _ => True) v (dd ys) ∧ Below w.heap.size w w' := by
  have hlen := evFold_len l (fun _ => []) [] 0 (fun _ => Nat.le_refl _) (by omega)
  rw [List.length_nil] at hlen
  refine order_calls w A c l _ hr hc hl rfl (fun W v h => sort_all W _ v _ h (by omega)) (fun W v ys hp _ h => compact_calls W _ v ys h (by rw [hp.length_eq]; omega))
theorem flatMap_get {α : Type} (ce : α → List Value) (sz : Nat) (hl : ∀ x, (ce x).length = sz) : ∀ (xs : List α) (j i : Nat) (hj : j < xs.length), i < sz → (xs.flatMap ce)[j * sz + i]? = (ce xs[j])[i]?
  | x :: xs, 0, i, hj, hi => by
    rw [List.flatMap_cons, Nat.zero_mul, Nat.zero_add, List.getElem?_append_left (by rw [hl]; exact hi)]
    rfl
  | x :: xs, j + 1, i, hj, hi => by
    rw [List.flatMap_cons, Nat.add_mul, Nat.one_mul, List.getElem?_append_right (by rw [hl]; omega), hl, show j * sz + sz + i - sz = j * sz + i by omega]
    exact flatMap_get ce sz hl xs j i (by simpa using hj) hi
/-- a literal row -/
theorem C_flat {α : Type} (d : Kd α) (ce : α → List Value) (hk : ∀ w x, d.K w x (ce x)) (hl : ∀ x, (ce x).length = d.sz) (xs : List α) (hx : xs.length ≤ 1000) {W : World} {g : Nat} {t : TypeId} (hb : W.heap[g]? = some (.cells (xs.flatMap ce).toArray t (0, 0))) : Kd.C d W (some ⟨g, 0, none⟩) xs.length xs := by
  refine ⟨rfl, by omega, fun _ => ⟨_, rfl, fun j p hj => ?_⟩⟩
  obtain ⟨hj1, rfl⟩ := List.getElem?_eq_some_iff.1 hj
  refine ⟨ce xs[j], hl _, hk _ _, fun i u hu => ?_⟩
  have hi : i < d.sz := by
    have := (List.getElem?_eq_some_iff.1 hu).1
    rw [hl] at this
    exact this
  rw [Addr.add_mid, blk_cell hb, List.getElem?_toArray, Nat.zero_add, flatMap_get ce d.sz hl xs j i hj1 hi]
  exact hu
def c30 (x : S30) : List Value := [.int .i64 x.f0, .int .i64 x.f1, .int .i64 x.f2]
theorem k30_mk (w : World) (x : S30) : k30.K w x (c30 x) := ⟨[.int .i64 x.f0], [.int .i64 x.f1, .int .i64 x.f2], rfl, rfl, [.int .i64 x.f1], [.int .i64 x.f2], rfl, rfl, rfl⟩
def lWaits : List S30 := [⟨3, 1, 0⟩, ⟨1, 2, 0⟩, ⟨2, 1, 0⟩]
def lEvs : List Ev := [⟨13, 0, 8⟩, ⟨13, 0, 4⟩, ⟨14, 0, 8⟩, ⟨13, 0, 6⟩]
def lPrs : List S32 := [⟨5, 2⟩, ⟨5, 1⟩, ⟨2, 1⟩]
theorem w_lP : ∀ p ∈ lPrs, W64 p.f0 ∧ W64 p.f1 := by unfold lPrs W64; intro p hp; simp at hp; rcases hp with rfl | rfl | rfl <;> simp
theorem w_l1 : ∀ p ∈ [(⟨1, 1⟩ : S32)], W64 p.f0 ∧ W64 p.f1 := by unfold W64; intro p hp; simp at hp; subst hp; simp
theorem ring_lW : ringF 20 lWaits = some ([1, 2], true, 0) := by kernel_rfl
theorem rank_lP : rankF 20 lPrs = some ([5, 2, 1], true, 0) := by kernel_rfl
theorem rank_l1 : rankF 20 [⟨1, 1⟩] = some ([], false, 0) := by kernel_rfl
theorem fold_lE : (evFold lEvs (fun _ => []) []).2 = [⟨8, 4⟩, ⟨4, 6⟩] := by kernel_rfl
theorem ord_lE {ys : List S32} (hp : ys.Perm [⟨8, 4⟩, ⟨4, 6⟩]) (hs : SrtP ys) : dd ys = [⟨4, 6⟩, ⟨8, 4⟩] := by
  have hlen := hp.length_eq
  match ys, hlen with
  | [a, b], _ =>
    have ha := hp.mem_iff (a := a)
    have hb := hp.mem_iff (a := b)
    simp at ha hb
    have h1 := hs 0 1 (by omega) (by simp)
    simp only [List.getElem_cons_zero, List.getElem_cons_succ] at h1
    rcases ha with rfl | rfl
    · rcases hb with rfl | rfl
      · exfalso
        have h2 := hp.mem_iff (a := ⟨4, 6⟩)
        simp at h2
      · exact absurd (Or.inl (by decide)) h1
    · rcases hb with rfl | rfl
      · simp [dd, dd2]
      · exfalso
        have h2 := hp.mem_iff (a := ⟨8, 4⟩)
        simp at h2
/-- a row of the call's own, whose cells lie at the head of a block -/
theorem RE.form {w : World} {base : Nat} {v : Value} {xs : List S32} (h : Kd.R k32 32 w base (fun _ => True) v xs) (n : Nat) (hn : xs.length = n) (hp : 0 < n) : ∃ g c, v = .slice (some ⟨g, 0, none⟩) n c := by
  subst hn
  obtain ⟨g, c, rfl, _⟩ := Kd.R_form h hp
  exact ⟨g, c, rfl⟩
set_option maxHeartbeats 16000000 in
set_option maxRecDepth 100000 in
theorem begun_calls (w : World) : Calls Try.prog 9 #[] w fun e w' => e = .returned (.bool true) ∧ Below w.heap.size w w' := by
  have HC0 := Aside0.mk (C_flat k30 c30 k30_mk (fun _ => rfl) lWaits (by decide) (heap_alloc_new w (.cells (lWaits.flatMap c30).toArray 30)))
  have HB0 := Aside0.mk (below_alloc (Below.refl w.heap.size w) (.cells (lWaits.flatMap c30).toArray 30))
  go_enter Try.func9, Try.ntmps9
  go_wp2_with fail
  refine (ring_calls 20 _ (some ⟨w.heap.size, 0, none⟩) 3 lWaits [1, 2] true 0 HC0.out (by decide) ring_lW).mono ?_
  rintro e w1 ⟨v1, rfl, ho1, hb1⟩
  have HB1 := Aside0.mk (below_then HB0.out HB0.out.size hb1)
  have HO1 := Aside0.mk (own_lower ho1 HB0.out.size)
  clear ho1 hb1 HC0 HB0
  have hba := below_alloc (Below.refl w1.heap.size w1) (.cells (lEvs.flatMap c41).toArray 41)
  have HC1 := Aside0.mk (C_flat k41 c41 (fun _ _ => rfl) (fun _ => rfl) lEvs (by decide) (heap_alloc_new w1 (.cells (lEvs.flatMap c41).toArray 41)))
  have HB1a := Aside0.mk (below_then HB1.out HB1.out.size hba)
  have HO1a := Aside0.mk (own_keep HO1.out hba)
  clear hba HB1 HO1
  go_wp2_with fail
  refine (order_full _ (some ⟨w1.heap.size, 0, none⟩) 4 lEvs HC1.out (by decide) (by decide)).mono ?_
  rintro e w2 ⟨v2, ys, rfl, hperm, hsrt, hR2, hb2⟩
  rw [fold_lE] at hperm
  rw [ord_lE hperm hsrt] at hR2
  have HB2 := Aside0.mk (below_then HB1a.out HB1a.out.size hb2)
  have HO2 := Aside0.mk (own_keep HO1a.out hb2)
  have HR2 := Aside0.mk (Kd.R_lower hR2 HB1a.out.size)
  clear hR2 hb2 hperm hsrt HC1 HB1a HO1a
  have hba := below_alloc (Below.refl w2.heap.size w2) (.cells (lPrs.flatMap c32).toArray 32)
  have HC2 := Aside0.mk (C_flat k32 c32 (fun w x => k32_mk w x) (fun _ => rfl) lPrs (by decide) (heap_alloc_new w2 (.cells (lPrs.flatMap c32).toArray 32)))
  have HB2a := Aside0.mk (below_then HB2.out HB2.out.size hba)
  have HO2a := Aside0.mk (own_keep HO2.out hba)
  have HR2a := Aside0.mk (Kd.R_below HR2.out hba)
  clear hba HB2 HO2 HR2
  go_wp2_with fail
  refine (rank_calls 20 _ (some ⟨w2.heap.size, 0, none⟩) 3 lPrs [5, 2, 1] true 0 HC2.out (by decide) w_lP rank_lP).mono ?_
  rintro e w3 ⟨v3, rfl, ho3, hb3⟩
  have HB3 := Aside0.mk (below_then HB2a.out HB2a.out.size hb3)
  have HO3 := Aside0.mk (own_keep HO2a.out hb3)
  have HR3 := Aside0.mk (Kd.R_below HR2a.out hb3)
  have HP3 := Aside0.mk (own_lower ho3 HB2a.out.size)
  clear ho3 hb3 HC2 HB2a HO2a HR2a
  have hba := below_alloc (Below.refl w3.heap.size w3) (.cells ([(⟨1, 1⟩ : S32)].flatMap c32).toArray 32)
  have HC3 := Aside0.mk (C_flat k32 c32 (fun w x => k32_mk w x) (fun _ => rfl) [(⟨1, 1⟩ : S32)] (by decide) (heap_alloc_new w3 (.cells ([(⟨1, 1⟩ : S32)].flatMap c32).toArray 32)))
  have HB3a := Aside0.mk (below_then HB3.out HB3.out.size hba)
  have HO3a := Aside0.mk (own_keep HO3.out hba)
  have HR3a := Aside0.mk (Kd.R_below HR3.out hba)
  have HP3a := Aside0.mk (own_keep HP3.out hba)
  clear hba HB3 HO3 HR3 HP3
  go_wp2_with fail
  refine (rank_calls 20 _ (some ⟨w3.heap.size, 0, none⟩) 1 [⟨1, 1⟩] [] false 0 HC3.out (by decide) w_l1 rank_l1).mono ?_
  rintro e w4 ⟨v4, rfl, ho4, hb4⟩
  have HB4 := Aside0.mk (below_then HB3a.out HB3a.out.size hb4)
  have HO4 := Aside0.mk (own_keep HO3a.out hb4)
  have HR4 := Aside0.mk (Kd.R_below HR3a.out hb4)
  have HP4 := Aside0.mk (own_keep HP3a.out hb4)
  clear ho4 hb4 HC3 HB3a HO3a HR3a HP3a
  have hba := below_alloc (Below.refl w4.heap.size w4) (.cells (nums .i64 [1, 2]).toArray 3)
  have HL := Aside0.mk (reads_lit w4 [1, 2] (by decide) 3)
  have HB4a := Aside0.mk (below_then HB4.out HB4.out.size hba)
  have HO4a := Aside0.mk (own_keep HO4.out hba)
  have HR4a := Aside0.mk (Kd.R_below HR4.out hba)
  have HP4a := Aside0.mk (own_keep HP4.out hba)
  clear hba HB4 HO4 HR4 HP4
  obtain ⟨A1, c1, rfl, hc1, hr1⟩ := own_rd HO4a.out
  have HQ1 := Aside0.mk hr1
  obtain ⟨A3, c3, rfl, hc3, hr3⟩ := own_rd HP4a.out
  clear hr1 hr3
  obtain ⟨g, c2, rfl⟩ := RE.form HR4a.out 2 rfl (by omega)
  go_wp2_with fail
  refine (same_calls _ A1 c1 [1, 2] (some ⟨w4.heap.size, 0, none⟩) 2 [1, 2] HQ1.out HL.out).mono ?_
  rintro e w5 ⟨rfl, hb5⟩
  have HB5 := Aside0.mk (below_then HB4a.out HB4a.out.size hb5)
  have HR5 := Aside0.mk (show RE w5 w.heap.size g 2 c2 [⟨4, 6⟩, ⟨8, 4⟩] from Kd.R_below HR4a.out hb5)
  have HP5 := Aside0.mk (own_keep HP4a.out hb5)
  clear hb5 HL HB4a HO4a HR4a HP4a HQ1
  have k0 := HR5.out.cells 0 (by decide) 0 (.int .i64 4) rfl
  have k1 := HR5.out.cells 0 (by decide) 1 (.int .i64 6) rfl
  have k2 := HR5.out.cells 1 (by decide) 0 (.int .i64 8) rfl
  have k3 := HR5.out.cells 1 (by decide) 1 (.int .i64 4) rfl
  simp only [Nat.zero_mul, Nat.zero_add, Nat.one_mul, Nat.add_zero] at k0 k1 k2 k3
  have HP5a := Aside0.mk (own_keep HP5.out (below_alloc (Below.refl w5.heap.size w5) (.cells (nums .i64 [5, 2, 1]).toArray 3)))
  have HL5 := Aside0.mk (reads_lit w5 [5, 2, 1] (by decide) 3)
  have HB5a := Aside0.mk (below_then HB5.out HB5.out.size (below_alloc (Below.refl w5.heap.size w5) (.cells (nums .i64 [5, 2, 1]).toArray 3)))
  have hdec1 : decide (([1, 2] : List Int) = [1, 2]) = true := by decide
  rw [hdec1]
  clear hdec1
  have hu32 := Try.underlying32
  go_wp2_with fail
  obtain ⟨A6, c6, e6, hc6, hr6⟩ := own_rd HP5a.out
  injection e6 with e6 _ e6c
  subst e6 e6c
  refine (same_calls _ A3 c3 [5, 2, 1] (some ⟨w5.heap.size, 0, none⟩) 3 [5, 2, 1] hr6 HL5.out).mono ?_
  rintro e w6 ⟨rfl, hb6⟩
  have HB6 := Aside0.mk (below_then HB5a.out HB5a.out.size hb6)
  have hdec2 : decide (([5, 2, 1] : List Int) = [5, 2, 1]) = true := by decide
  rw [hdec2]
  clear hdec2 hb6 hr6 HL5 HB5a HP5a k0 k1 k2 k3
  go_wp2
  exact bodyPost_ret (v := .bool true) (by simp [results, Try.f9, go_sem]) rfl ⟨rfl, HB6.out⟩
end Go.Proofs.Ytlgkcjkicankmaa.Lk
