/- pages: what lies in memory; uses. pages.uses: its walk. -/
import Derived.Test.YtblalidpeccabacPPagesBackx1
import Derived.Test.YtblalidpeccabacBase
import Derived.Test.YtblalidpeccabacSame
import Derived.Laws.MakeOwn
namespace Go.Proofs.Ytblalidpeccabac.Pg
open Go Go.RowKit Go.Lib Go.Proofs.YtblalidpeccabacW.PrintWords Go.Proofs.YtblalidpeccabacW.PrintLast Go.Proofs.YtblalidpeccabacW.PrintMore Go.Proofs.Ytblalidpeccabac.PPagesBack Go.Proofs.Ytblalidpeccabac.Bs
set_option linter.unusedVariables false
set_option linter.unusedSimpArgs false

abbrev kI : Kd Int := Kd.int .i64
abbrev kP : Kd (List Int) := Kd.arr 4 (Kd.int .i64) (by decide)
abbrev kR : Kd (List Int) := Kd.slice 3 (Kd.int .i64)
structure St where
  ps : List (List Int)
  us : List Int
  rs : List (List Int)
theorem reads_of {w : World} {A : Option Addr} {n : Nat} {xs : List Int} (h : Kd.C kI w A n xs) : ReadsInt w .i64 A n xs := Kd.reads_of_C (d := (0 : Int)) (h1 := fun _ => rfl) h
theorem C_int {w : World} {A : Option Addr} {n : Nat} {xs : List Int} (h : ReadsInt w .i64 A n xs) : Kd.C kI w A n xs := Kd.C_of_reads (d := (0 : Int)) (h1 := fun _ => rfl) h
theorem at_R {w : World} {C : Option Addr} {rs : List (List Int)} (h : Kd.C kR w C rs.length rs) (k : Nat) (hk : k < rs.length) :
    ∃ ad A1 c1, C = some ad ∧ w.cell? (ad.add k) = some (.slice A1 rs[k].length c1) ∧ rs[k].length ≤ c1 ∧ Kd.C kI w A1 rs[k].length rs[k] := by
  obtain ⟨ad, c, e, hl, hK, hc⟩ := Kd.C_get h [] (k : Int) (by omega) (by omega)
  rw [show rs.getD (Int.toNat (k : Int)) [] = rs[k] by simp [List.getD_eq_getElem?_getD, hk]] at hK
  obtain ⟨A1, c1, rfl, h1, h2⟩ := hK
  have := hc 0 _ rfl
  rw [show (Int.toNat (k : Int)) * (kR).sz + 0 = k by show (Int.toNat (k : Int)) * 1 + 0 = k; omega] at this
  exact ⟨ad, A1, c1, e, this, h1, h2⟩
theorem at_I {w : World} {A : Option Addr} {xs : List Int} (h : Kd.C kI w A xs.length xs) (k : Nat) (hk : k < xs.length) : ∃ ad, A = some ad ∧ w.cell? (ad.add k) = some (.int .i64 xs[k]) := by
  obtain ⟨ad, e, hc⟩ := (reads_of h).2.2 (by omega)
  refine ⟨ad, e, (hc k hk).trans ?_⟩
  simp [List.getD_eq_getElem?_getD, hk]
theorem makeI (n : Nat) (hn : n ≤ 100000) (W : World) : Sem.run Try.prog (Instr.makeSlice 23 (.int .i64 (n : Int)) (.int .i64 (n : Int))) W = .ok (.slice (some ⟨W.heap.size, 0, none⟩) n n) (W.alloc (.cells (nums .i64 (List.replicate n 0)).toArray 3)) := by
  obtain ⟨i0, hi, hz0, hz1, hz2⟩ := info_parts infoInt
  have h := run_make W 23 3 i0 (.int .i64 0) Try.underlying23 hi hz0 .i64 .i64 (n : Int) (n : Int) (by omega) (by omega) (by rw [hz2]; omega) (by omega)
  rw [hz1] at h
  simp only [Int.toNat_natCast, Nat.mul_one] at h
  rw [show madeCells (Value.int IntKind.i64 0).cells n = (nums .i64 (List.replicate n 0)).toArray by
    apply Array.ext
    · simp [madeCells, nums]
    · intro i h1 h2
      simp only [madeCells, nums, Value.cells, Array.getElem_map, Array.getElem_range, List.getElem_toArray, List.getElem_map, List.getElem_replicate]
      rw [show (#[Value.int IntKind.i64 0] : Array Value).size = 1 from rfl, Nat.mod_one]
      rfl] at h
  exact h
theorem nums_set (ys : List Int) (j : Nat) (v : Int) : (nums .i64 ys).toArray.setIfInBounds j (.int .i64 v) = (nums .i64 (ys.set j v)).toArray := by
  rw [List.setIfInBounds_toArray]; unfold nums; rw [List.map_set]

/-! the plain side -/
def okp (n : Nat) (p : Int) : Bool := decide (p = -1) || (decide (0 ≤ p) && decide (p < (n : Int)))
def okr (n : Nat) (r : List Int) : Bool := (decide (r.length = 0) || decide (r.length = 16)) && r.all (okp n)
def okR (n : Nat) (rs : List (List Int)) : Bool := rs.all (okr n)
def usesL (n : Nat) (rs : List (List Int)) : List Int := (List.range n).map fun i : Nat => ((rs.flatten.count (i : Int) : Nat) : Int)
theorem usesL_length (n : Nat) (rs : List (List Int)) : (usesL n rs).length = n := by simp [usesL]
theorem usesL_nil (n : Nat) : usesL n [] = List.replicate n 0 := by
  apply List.ext_getElem?
  intro j
  by_cases h : j < n <;> simp [usesL, h]
theorem usesL_get {n : Nat} {rs : List (List Int)} {j : Nat} (h : j < n) : (usesL n rs)[j]? = some ((rs.flatten.count (j : Int) : Nat) : Int) := by simp [usesL, h]
theorem usesL_add (n : Nat) (X : List (List Int)) (r : List Int) (j : Nat) (hj : j < r.length) (p : Nat) (hp : p < n) (e : r[j] = (p : Int)) :
    usesL n (X ++ [r.take (j + 1)]) = (usesL n (X ++ [r.take j])).set p ((usesL n (X ++ [r.take j])).getD p 0 + 1) := by
  apply List.ext_getElem?
  intro i
  by_cases hi : i < n
  · rw [usesL_get hi, List.getElem?_set]
    have hcnt : (X ++ [r.take (j + 1)]).flatten.count (i : Int) = (X ++ [r.take j]).flatten.count (i : Int) + (if i = p then 1 else 0) := by
      rw [List.take_succ_eq_append_getElem hj, e]
      simp only [List.flatten_append, List.flatten_cons, List.flatten_nil, List.append_nil, List.count_append, List.count_singleton]
      by_cases h : i = p
      · subst h; simp; omega
      · have : ((p : Int) == (i : Int)) = false := by rw [beq_eq_false_iff_ne]; omega
        simp [this, h]
    by_cases h : i = p
    · subst h
      rw [if_pos rfl, if_pos (by rw [usesL_length]; exact hi), hcnt, if_pos rfl, List.getD_eq_getElem?_getD, usesL_get hi]
      simp
    · rw [if_neg (fun e => h e.symm), usesL_get hi, hcnt, if_neg h, Nat.add_zero]
  · rw [List.getElem?_eq_none (by rw [usesL_length]; omega), List.getElem?_eq_none (by rw [List.length_set, usesL_length]; omega)]
theorem usesL_skip (n : Nat) (X : List (List Int)) (r : List Int) (j : Nat) (hj : j < r.length) (e : r[j] = -1) : usesL n (X ++ [r.take (j + 1)]) = usesL n (X ++ [r.take j]) := by
  unfold usesL
  apply List.map_congr_left
  intro i hi
  congr 1
  rw [List.take_succ_eq_append_getElem hj, e]
  simp only [List.flatten_append, List.flatten_cons, List.flatten_nil, List.append_nil, List.count_append, List.count_singleton]
  have : ((-1 : Int) == (i : Int)) = false := by rw [beq_eq_false_iff_ne]; omega
  simp [this]
theorem usesL_open (n : Nat) (X : List (List Int)) : usesL n (X ++ [[]]) = usesL n X := by simp [usesL]
theorem flat_le : ∀ (X : List (List Int)), (∀ r ∈ X, r.length ≤ 16) → X.flatten.length ≤ 16 * X.length
  | [], _ => by simp
  | r :: X, h => by
    have := flat_le X (fun q hq => h q (List.mem_cons_of_mem _ hq))
    have h1 := h r List.mem_cons_self
    rw [List.flatten_cons, List.length_append, List.length_cons]
    omega
theorem usesL_le {n : Nat} {X : List (List Int)} {r : List Int} {j : Nat} (hX : okR n X = true) (hr : r.length ≤ 16) (hk : X.length ≤ 40) (p : Nat) : 0 ≤ (usesL n (X ++ [r.take j])).getD p 0 ∧ (usesL n (X ++ [r.take j])).getD p 0 ≤ 656 := by
  by_cases hp : p < n
  · rw [List.getD_eq_getElem?_getD, usesL_get hp]
    have h1 : (X ++ [r.take j]).flatten.count (p : Int) ≤ (X ++ [r.take j]).flatten.length := List.count_le_length
    have h2 := flat_le (X ++ [r.take j]) (fun q hq => by
      rcases List.mem_append.1 hq with h | h
      · have := List.all_eq_true.1 hX q h
        unfold okr at this
        simp only [Bool.and_eq_true, Bool.or_eq_true, decide_eq_true_eq] at this
        omega
      · obtain rfl := List.mem_singleton.1 h
        have := (List.take_sublist j r).length_le
        omega)
    have h3 : (X ++ [r.take j]).length = X.length + 1 := by simp
    simp only [Option.getD_some]
    omega
  · rw [List.getD_eq_getElem?_getD, List.getElem?_eq_none (by rw [usesL_length]; omega)]
    simp
theorem okR_take {n : Nat} {rs : List (List Int)} {k : Nat} (hk : k < rs.length) (h : okR n (rs.take k) = true) (h1 : okr n rs[k] = true) : okR n (rs.take (k + 1)) = true := by
  unfold okR at *
  rw [List.take_succ_eq_append_getElem hk, List.all_append, h]
  simp [h1]
theorem okR_bad {n : Nat} {rs : List (List Int)} {k : Nat} (hk : k < rs.length) (h1 : okr n rs[k] = false) : okR n rs = false := by
  unfold okR
  rw [← Bool.not_eq_true]
  intro h
  have := List.all_eq_true.1 h rs[k] (List.getElem_mem hk)
  rw [h1] at this
  cases this
end Go.Proofs.Ytblalidpeccabac.Pg
namespace Go.Proofs.Ytblalidpeccabac.Pg
open Go Go.RowKit Go.Lib Go.Proofs.YtblalidpeccabacW.PrintWords Go.Proofs.YtblalidpeccabacW.PrintLast Go.Proofs.YtblalidpeccabacW.PrintMore Go.Proofs.Ytblalidpeccabac.PPagesBack Go.Proofs.Ytblalidpeccabac.Bs
set_option linter.unusedVariables false
set_option linter.unusedSimpArgs false

theorem okr_take {n : Nat} {r : List Int} {j : Nat} (hj : j < r.length) (h : (r.take j).all (okp n) = true) (h1 : okp n r[j] = true) : (r.take (j + 1)).all (okp n) = true := by
  rw [List.take_succ_eq_append_getElem hj, List.all_append, h]
  simp [h1]
theorem okr_bad {n : Nat} {r : List Int} {j : Nat} (hj : j < r.length) (h1 : okp n r[j] = false) : okr n r = false := by
  unfold okr
  have : r.all (okp n) = false := by
    rw [← Bool.not_eq_true]
    intro h
    have := List.all_eq_true.1 h r[j] (List.getElem_mem hj)
    rw [h1] at this
    cases this
  rw [this, Bool.and_false]
theorem wrap_1 (x : Int) (h0 : 0 ≤ x) (h1 : x ≤ 1000) : IntKind.i64.wrap (x + 1) = x + 1 := by
  rw [IntKind.wrap_i64]
  omega
theorem own_of_nums {w : World} {base g n : Nat} {xs : List Int} (hk : w.heap[g]? = some (.cells (nums .i64 xs).toArray 3 (0, 0))) (hg : base ≤ g) (hl : xs.length = n) (hn : n ≤ 100000) : w.ownsRow base 3 1 (.slice (some ⟨g, 0, none⟩) n n) n (nums .i64 xs) :=
  ⟨by simp [nums, hl], .inr ⟨g, n, _, rfl, hg, hk, Nat.le_refl _, by unfold maxLen; omega, by simp [nums, hl], by
    rw [Nat.mul_one, ← hl, show xs.length = (nums .i64 xs).length by simp [nums], List.take_length]⟩⟩
def UsesOut (w : World) (n : Nat) (rs : List (List Int)) (e : Ending) (w' : World) : Prop :=
  (okR n rs = true ∧ ∃ v, e = .returned (.tuple #[v, .bool true]) ∧ w'.ownsRow w.heap.size 3 1 v n (nums .i64 (usesL n rs)) ∧ Below w.heap.size w w') ∨
  (okR n rs = false ∧ e = .returned (.tuple #[.slice none 0 0, .bool false]) ∧ Below w.heap.size w w')

set_option maxHeartbeats 8000000 in
set_option maxRecDepth 100000 in
theorem uses_calls (w : World) (A : Option Addr) (n a : Nat) (B : Option Addr) (m b : Nat) (C : Option Addr) (c : Nat) (rs : List (List Int)) (hR : Kd.C kR w C rs.length rs) (hc : rs.length ≤ c) (hn : n ≤ 400) (hk : rs.length ≤ 40) :
    Calls Try.prog 32 #[.agg #[.slice A n a, .slice B m b, .slice C rs.length c]] w (UsesOut w n rs) := by
  have HR := Aside0.mk hR
  have hmk := makeI n (by omega)
  have n1 := heap_alloc_new w (.cells #[.slice A n a, .slice B m b, .slice C rs.length c] 26)
  have n2 := heap_alloc_new (w.alloc (.cells #[.slice A n a, .slice B m b, .slice C rs.length c] 26)) (.cells (nums .i64 (List.replicate n 0)).toArray 3)
  rw [World.size_alloc] at n2
  obtain ⟨g, hg⟩ : ∃ g, g = w.heap.size + 1 := ⟨_, rfl⟩
  obtain ⟨W2, hW2⟩ : ∃ W2, W2 = (w.alloc (.cells #[.slice A n a, .slice B m b, .slice C rs.length c] 26)).alloc (.cells (nums .i64 (List.replicate n 0)).toArray 3) := ⟨_, rfl⟩
  have HB2 := Aside0.mk (show Below w.heap.size w W2 by rw [hW2]; exact below_alloc (below_alloc (Below.refl _ _) _) _)
  have HK2 := Aside0.mk (show W2.heap[g]? = some (.cells (nums .i64 (usesL n (rs.take 0))).toArray 3 (0, 0)) by rw [hW2, hg, List.take_zero, usesL_nil]; exact n2)
  have HX2 := Aside0.mk (show W2.heap[w.heap.size]? = some (.cells #[.slice A n a, .slice B m b, .slice C rs.length c] 26 (0, 0)) by rw [hW2]; exact blk_alloc n1 _)
  have HG := Aside0.mk (show w.heap.size < g by omega)
  have HGG := Aside0.mk hg
  have HWW := Aside0.mk hW2
  have c0 := blk_cell n1 0
  have d0 := blk_cell HX2.out 2
  simp only [List.getElem?_toArray, List.getElem?_cons_zero, List.getElem?_cons_succ] at c0 d0
  clear hR hg hW2 n1 n2
  go_enter Try.func32, Try.ntmps32
  go_upto_region 2 with (fail)
  rw [← HWW.out, ← HGG.out]
  clear hmk c0 HWW HGG
  go_wp2_with fail
  go_loopw [16] (fun i wr => ∃ k : Nat, k ≤ rs.length ∧ i = .int .i64 (k : Int) ∧ Aside0 (okR n (rs.take k) = true) ∧ Aside0 (wr.heap[g]? = some (.cells (nums .i64 (usesL n (rs.take k))).toArray 3 (0, 0))) ∧ Aside0 (Below w.heap.size w wr)) (fun i _ => rs.length - (intOf i).toNat)
  case atStart => exact ⟨0, Nat.zero_le _, rfl, ⟨by rw [List.take_zero]; rfl⟩, HK2, HB2⟩
  case round =>
    obtain ⟨k, hkl, rfl, HOK, HK, HB⟩ := hrel
    clear HK2 HB2 d0 HX2
    by_cases hlt : k < rs.length
    · have hk1 : (k : Int) < (rs.length : Int) := by omega
      obtain ⟨ad, A1, c1, rfl, e0w, hc1, hC1⟩ := at_R HR.out k hlt
      have e0 := (HB.out.cell (World.block_lt_of_cell? w _ e0w)).trans e0w
      clear e0w
      have HC1 := Aside0.mk hC1
      obtain ⟨r, hr⟩ : ∃ r, r = rs[k] := ⟨_, rfl⟩
      have HRK := Aside0.mk hr
      rw [← hr] at e0 hc1 HC1
      clear hr hC1
      by_cases hd : r.length = 0 ∨ r.length = 16
      · have hr16 : r.length ≤ 16 := by omega
        have HL16 := Aside0.mk (show (decide (r.length = 0) || decide (r.length = 16)) = true by rcases hd with h | h <;> simp [h])
        rcases hd with hd | hd
        · have q0 : ((r.length : Int) != 0) = false := by rw [hd]; rfl
          clear hd
          go_wp2_with fail
          go_loopw [30] (fun i wq => ∃ j : Nat, j ≤ r.length ∧ i = .int .i64 (j : Int) ∧ Aside0 ((r.take j).all (okp n) = true) ∧ Aside0 (wq.heap[g]? = some (.cells (nums .i64 (usesL n (rs.take k ++ [r.take j]))).toArray 3 (0, 0))) ∧ Aside0 (Below w.heap.size w wq)) (fun i _ => r.length - (intOf i).toNat)
          case atStart => exact ⟨0, Nat.zero_le _, rfl, ⟨by rw [List.take_zero]; rfl⟩, ⟨by rw [List.take_zero, usesL_open]; exact HK.out⟩, HB⟩
          case round =>
            obtain ⟨j, hjl, rfl, HA, HKj, HBj⟩ := hrel
            have hC1 := Kd.C_below HC1.out HBj.out
            clear e0
            by_cases hjt : j < r.length
            · have hj1 : (j : Int) < (r.length : Int) := by omega
              obtain ⟨ad1, rfl, e1⟩ := at_I hC1 j hjt
              obtain ⟨p, hp⟩ : ∃ p, p = r[j] := ⟨_, rfl⟩
              have HPJ := Aside0.mk hp
              rw [← hp] at e1
              clear hp hC1
              by_cases hm : p = -1
              · subst hm
                go_wp2
                go_roundw
                case rel => exact ⟨j + 1, by omega, by go_num, ⟨okr_take hjt HA.out (by rw [← HPJ.out]; rfl)⟩, ⟨by rw [usesL_skip n _ r j hjt HPJ.out.symm]; exact HKj.out⟩, HBj⟩
                case measure => simp [intOf]; omega
              · have qa : (p == -1) = false := beq_eq_false_iff_ne.mpr hm
                by_cases hin : 0 ≤ p ∧ p < (n : Int)
                · obtain ⟨q, rfl⟩ : ∃ q : Nat, p = (q : Int) := ⟨p.toNat, by omega⟩
                  have hq : q < n := by omega
                  have qb : decide ((q : Int) < 0) = false := decide_eq_false (by omega)
                  have qc : decide ((n : Int) ≤ (q : Int)) = false := decide_eq_false (by omega)
                  have qd : (q : Int) < (n : Int) := by omega
                  have hold := usesL_le (n := n) (r := r) (j := j) HOK.out hr16 (by rw [List.length_take]; omega) q
                  have hcell := blk_cell HKj.out q
                  rw [show (nums .i64 (usesL n (rs.take k ++ [r.take j]))).toArray[q]? = some (.int .i64 ((usesL n (rs.take k ++ [r.take j])).getD q 0)) by simp [nums, List.getD_eq_getElem?_getD, usesL_length, hq]] at hcell
                  have hfro := blk_frozen HKj.out q
                  have HADD := Aside0.mk (usesL_add n (rs.take k) r j hjt q hq HPJ.out.symm)
                  obtain ⟨L, hL⟩ : ∃ L, L = usesL n (rs.take k ++ [r.take j]) := ⟨_, rfl⟩
                  have HLL := Aside0.mk hL
                  rw [← hL] at hold hcell HADD
                  generalize L.getD q 0 = old at hold hcell HADD
                  have hw := wrap_1 old hold.1 (by omega)
                  have HOKP := Aside0.mk (show okp n (q : Int) = true by unfold okp; rw [decide_eq_true (show (0 : Int) ≤ q by omega), decide_eq_true qd]; simp)
                  clear hin hold hq hL
                  go_wp2
                  go_roundw
                  case rel => exact ⟨j + 1, by omega, by go_num, ⟨okr_take hjt HA.out (by rw [← HPJ.out]; exact HOKP.out)⟩, ⟨by have h0 := HKj.out; rw [← HLL.out] at h0; rw [HADD.out]; exact blk_put h0 q (.int .i64 (old + 1)) (by rw [nums_set])⟩, ⟨HBj.out.setCell (p := ⟨g, q, none⟩) (Nat.le_of_lt HG.out) _⟩⟩
                  case measure => simp [intOf]; omega
                · have HBAD := Aside0.mk (show okR n rs = false from okR_bad hlt (by
                    rw [← HRK.out]
                    refine okr_bad hjt ?_
                    rw [← HPJ.out]
                    unfold okp
                    rw [decide_eq_false hm, Bool.false_or, Bool.and_eq_false_iff]
                    rcases Int.lt_or_le p 0 with h | h
                    · exact .inl (decide_eq_false (by omega))
                    · exact .inr (decide_eq_false (fun h2 => hin ⟨h, h2⟩))))
                  clear hm
                  by_cases hneg : p < 0
                  · clear hin
                    go_wp2
                    exact bodyPost_ret (v := .tuple #[.slice none 0 0, .bool false]) (by simp [results, Try.f32, go_sem]) rfl (.inr ⟨HBAD.out, rfl, HBj.out⟩)
                  · have hge : (n : Int) ≤ p := by omega
                    clear hin
                    go_wp2
                    exact bodyPost_ret (v := .tuple #[.slice none 0 0, .bool false]) (by simp [results, Try.f32, go_sem]) rfl (.inr ⟨HBAD.out, rfl, HBj.out⟩)
            · obtain rfl : j = r.length := by omega
              have hKj := HKj.out
              have hA := HA.out
              rw [List.take_length] at hKj hA
              have HKK := Aside0.mk (show wr.heap[g]? = some (.cells (nums .i64 (usesL n (rs.take (k + 1)))).toArray 3 (0, 0)) by rw [List.take_succ_eq_append_getElem hlt, ← HRK.out]; exact hKj)
              have HOO := Aside0.mk (okR_take hlt HOK.out (by rw [← HRK.out]; unfold okr; rw [HL16.out, hA]; rfl))
              clear hKj hA hC1
              go_wp2
              go_roundw
              case rel => exact ⟨k + 1, by omega, by go_num, HOO, HKK, HBj⟩
              case measure => simp [intOf]; omega
        · have q0 : ((r.length : Int) != 0) = true := by rw [hd]; rfl
          have q1 : ((r.length : Int) != 16) = false := by rw [hd]; rfl
          clear hd
          go_wp2_with fail
          go_loopw [30] (fun i wq => ∃ j : Nat, j ≤ r.length ∧ i = .int .i64 (j : Int) ∧ Aside0 ((r.take j).all (okp n) = true) ∧ Aside0 (wq.heap[g]? = some (.cells (nums .i64 (usesL n (rs.take k ++ [r.take j]))).toArray 3 (0, 0))) ∧ Aside0 (Below w.heap.size w wq)) (fun i _ => r.length - (intOf i).toNat)
          case atStart => exact ⟨0, Nat.zero_le _, rfl, ⟨by rw [List.take_zero]; rfl⟩, ⟨by rw [List.take_zero, usesL_open]; exact HK.out⟩, HB⟩
          case round =>
            obtain ⟨j, hjl, rfl, HA, HKj, HBj⟩ := hrel
            have hC1 := Kd.C_below HC1.out HBj.out
            clear e0
            by_cases hjt : j < r.length
            · have hj1 : (j : Int) < (r.length : Int) := by omega
              obtain ⟨ad1, rfl, e1⟩ := at_I hC1 j hjt
              obtain ⟨p, hp⟩ : ∃ p, p = r[j] := ⟨_, rfl⟩
              have HPJ := Aside0.mk hp
              rw [← hp] at e1
              clear hp hC1
              by_cases hm : p = -1
              · subst hm
                go_wp2
                go_roundw
                case rel => exact ⟨j + 1, by omega, by go_num, ⟨okr_take hjt HA.out (by rw [← HPJ.out]; rfl)⟩, ⟨by rw [usesL_skip n _ r j hjt HPJ.out.symm]; exact HKj.out⟩, HBj⟩
                case measure => simp [intOf]; omega
              · have qa : (p == -1) = false := beq_eq_false_iff_ne.mpr hm
                by_cases hin : 0 ≤ p ∧ p < (n : Int)
                · obtain ⟨q, rfl⟩ : ∃ q : Nat, p = (q : Int) := ⟨p.toNat, by omega⟩
                  have hq : q < n := by omega
                  have qb : decide ((q : Int) < 0) = false := decide_eq_false (by omega)
                  have qc : decide ((n : Int) ≤ (q : Int)) = false := decide_eq_false (by omega)
                  have qd : (q : Int) < (n : Int) := by omega
                  have hold := usesL_le (n := n) (r := r) (j := j) HOK.out hr16 (by rw [List.length_take]; omega) q
                  have hcell := blk_cell HKj.out q
                  rw [show (nums .i64 (usesL n (rs.take k ++ [r.take j]))).toArray[q]? = some (.int .i64 ((usesL n (rs.take k ++ [r.take j])).getD q 0)) by simp [nums, List.getD_eq_getElem?_getD, usesL_length, hq]] at hcell
                  have hfro := blk_frozen HKj.out q
                  have HADD := Aside0.mk (usesL_add n (rs.take k) r j hjt q hq HPJ.out.symm)
                  obtain ⟨L, hL⟩ : ∃ L, L = usesL n (rs.take k ++ [r.take j]) := ⟨_, rfl⟩
                  have HLL := Aside0.mk hL
                  rw [← hL] at hold hcell HADD
                  generalize L.getD q 0 = old at hold hcell HADD
                  have hw := wrap_1 old hold.1 (by omega)
                  have HOKP := Aside0.mk (show okp n (q : Int) = true by unfold okp; rw [decide_eq_true (show (0 : Int) ≤ q by omega), decide_eq_true qd]; simp)
                  clear hin hold hq hL
                  go_wp2
                  go_roundw
                  case rel => exact ⟨j + 1, by omega, by go_num, ⟨okr_take hjt HA.out (by rw [← HPJ.out]; exact HOKP.out)⟩, ⟨by have h0 := HKj.out; rw [← HLL.out] at h0; rw [HADD.out]; exact blk_put h0 q (.int .i64 (old + 1)) (by rw [nums_set])⟩, ⟨HBj.out.setCell (p := ⟨g, q, none⟩) (Nat.le_of_lt HG.out) _⟩⟩
                  case measure => simp [intOf]; omega
                · have HBAD := Aside0.mk (show okR n rs = false from okR_bad hlt (by
                    rw [← HRK.out]
                    refine okr_bad hjt ?_
                    rw [← HPJ.out]
                    unfold okp
                    rw [decide_eq_false hm, Bool.false_or, Bool.and_eq_false_iff]
                    rcases Int.lt_or_le p 0 with h | h
                    · exact .inl (decide_eq_false (by omega))
                    · exact .inr (decide_eq_false (fun h2 => hin ⟨h, h2⟩))))
                  clear hm
                  by_cases hneg : p < 0
                  · clear hin
                    go_wp2
                    exact bodyPost_ret (v := .tuple #[.slice none 0 0, .bool false]) (by simp [results, Try.f32, go_sem]) rfl (.inr ⟨HBAD.out, rfl, HBj.out⟩)
                  · have hge : (n : Int) ≤ p := by omega
                    clear hin
                    go_wp2
                    exact bodyPost_ret (v := .tuple #[.slice none 0 0, .bool false]) (by simp [results, Try.f32, go_sem]) rfl (.inr ⟨HBAD.out, rfl, HBj.out⟩)
            · obtain rfl : j = r.length := by omega
              have hKj := HKj.out
              have hA := HA.out
              rw [List.take_length] at hKj hA
              have HKK := Aside0.mk (show wr.heap[g]? = some (.cells (nums .i64 (usesL n (rs.take (k + 1)))).toArray 3 (0, 0)) by rw [List.take_succ_eq_append_getElem hlt, ← HRK.out]; exact hKj)
              have HOO := Aside0.mk (okR_take hlt HOK.out (by rw [← HRK.out]; unfold okr; rw [HL16.out, hA]; rfl))
              clear hKj hA hC1
              go_wp2
              go_roundw
              case rel => exact ⟨k + 1, by omega, by go_num, HOO, HKK, HBj⟩
              case measure => simp [intOf]; omega
      · have q0 : ((r.length : Int) != 0) = true := bne_iff_ne.mpr (by omega)
        have q1 : ((r.length : Int) != 16) = true := bne_iff_ne.mpr (by omega)
        have hbad : okR n rs = false := okR_bad hlt (by
          rw [← HRK.out]
          unfold okr
          rw [decide_eq_false (show ¬ r.length = 0 by omega), decide_eq_false (show ¬ r.length = 16 by omega)]
          rfl)
        have HBAD := Aside0.mk hbad
        clear hd hbad
        go_wp2
        exact bodyPost_ret (v := .tuple #[.slice none 0 0, .bool false]) (by simp [results, Try.f32, go_sem]) rfl (.inr ⟨HBAD.out, rfl, HB.out⟩)
    · obtain rfl : k = rs.length := by omega
      have hK := HK.out
      have hO := HOK.out
      rw [List.take_length] at hK hO
      have HO := Aside0.mk (show wr.ownsRow w.heap.size 3 1 (.slice (some ⟨g, 0, none⟩) n n) n (nums .i64 (usesL n rs)) from own_of_nums hK (Nat.le_of_lt HG.out) (usesL_length n rs) (by omega))
      have HO2 := Aside0.mk hO
      clear hK hO
      go_wp2
      exact bodyPost_ret (v := .tuple #[.slice (some ⟨g, 0, none⟩) n n, .bool true]) (by simp [results, Try.f32, go_sem]) rfl (.inl ⟨HO2.out, _, rfl, HO.out, HB.out⟩)
end Go.Proofs.Ytblalidpeccabac.Pg
