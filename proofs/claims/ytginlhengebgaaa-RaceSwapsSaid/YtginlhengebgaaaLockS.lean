/- byPair, slices.SortFunc of pairs: what they leave. -/
import Derived.Test.YtginlhengebgaaaLockD
import Derived.Test.YtginlhengebgaaaLockSo
import Derived.Test.YtginlhengebgaaaRegionDirty
namespace Go.Proofs.Ytginlhengebgaaa.Lk
open Go Go.RowKit Go.Maps Go.Proofs.YtginlhengebgaaaW Go.Proofs.YtginlhengebgaaaW.PrintWords Go.Proofs.YtginlhengebgaaaW.PrintLast Go.Proofs.YtginlhengebgaaaW.PrintMore Go.Proofs.Ytginlhengebgaaa.PLockupEither Go.Proofs.Ytginlhengebgaaa.Bs Go.Proofs.Ytginlhengebgaaa.RegionVal
open Go.Lib hiding intOf
set_option linter.unusedVariables false
set_option linter.unusedSimpArgs false

/-- nothing that was there has turned; draws, and new blocks alone -/
structure Gr (w w' : World) : Prop where
  os : w'.os = w.os
  tape : w'.tape = w.tape
  output : w'.output = w.output
  drawn : w.drawn ≤ w'.drawn
  size : w.heap.size ≤ w'.heap.size
  block : ∀ k, k < w.heap.size → w'.heap[k]? = w.heap[k]?
theorem Gr.refl (w : World) : Gr w w := ⟨rfl, rfl, rfl, Nat.le_refl _, Nat.le_refl _, fun _ _ => rfl⟩
theorem Gr.trans {a b c : World} (h : Gr a b) (k : Gr b c) : Gr a c :=
  ⟨k.os.trans h.os, k.tape.trans h.tape, k.output.trans h.output, Nat.le_trans h.drawn k.drawn, Nat.le_trans h.size k.size, fun i hi => (k.block i (Nat.lt_of_lt_of_le hi h.size)).trans (h.block i hi)⟩
theorem Gr.below {w w' : World} (h : Gr w w') : Below w.heap.size w w' := ⟨h.os, h.tape, h.output, h.size, h.block⟩
theorem Gr.drawn0 {w w' : World} (h : Drawn0 w w') : Gr w w' := by
  obtain ⟨n, rfl⟩ := h
  exact ⟨rfl, rfl, rfl, Nat.le_add_right _ _, Nat.le_refl _, fun _ _ => rfl⟩
theorem Gr.drew (w : World) : Gr w w.drew := ⟨rfl, rfl, rfl, Nat.le_add_right _ _, Nat.le_refl _, fun _ _ => rfl⟩
theorem Gr.alloc (w : World) (o : Obj) : Gr w (w.alloc o) :=
  ⟨rfl, rfl, rfl, Nat.le_refl _, by rw [World.size_alloc]; omega, (below_alloc (Below.refl w.heap.size w) o).block⟩
theorem Gr.is {w w' : World} (h : Gr w w') : ∃ q os, w' = Go.Sort.grow (w.drewN q) os := by
  refine ⟨w'.drawn - w.drawn, (w'.heap.toList.drop w.heap.size).toArray, ?_⟩
  obtain ⟨heap, tape, drawn, os, output⟩ := w
  obtain ⟨heap', tape', drawn', os', output'⟩ := w'
  obtain ⟨h1, h2, h3, h4, h5, h6⟩ := h
  simp only at h1 h2 h3 h4 h5 h6
  subst h1 h2 h3
  have e1 : heap' = heap ++ (heap'.toList.drop heap.size).toArray := by
    apply Array.toList_inj.1
    rw [Array.toList_append]
    have e2 : heap'.toList.take heap.size = heap.toList := by
      apply List.ext_getElem?
      intro j
      rw [List.getElem?_take]
      by_cases hj : j < heap.size
      · rw [if_pos hj, Array.getElem?_toList, Array.getElem?_toList, h6 j hj]
      · rw [if_neg hj, List.getElem?_eq_none (by rw [Array.length_toList]; omega)]
    conv => lhs; rw [← List.take_append_drop heap.size heap'.toList, e2]
  unfold Go.Sort.grow World.drewN
  simp only
  rw [← e1, show drawn + (drawn' - drawn) = drawn' by omega]

def cmpI (a b : Int) : Int := if a < b then -1 else if b < a then 1 else 0
def cmpP (x y : S32) : Int := if cmpI x.f0 y.f0 = 0 then cmpI x.f1 y.f1 else cmpI x.f0 y.f0
theorem cmpI_f (a b : Int) : cmp_Compare_int.f a b = some (cmpI a b) := by
  unfold cmp_Compare_int.f cmp_isNaN_int.f cmpI
  simp only [bne_self_eq_false]
  dsimp only [Option.bind]
  rw [if_neg (by decide), if_neg (by decide)]
  by_cases h1 : a < b
  · rw [if_pos h1, if_pos h1]
  · rw [if_neg h1, if_neg h1]
    by_cases h2 : b < a
    · rw [if_pos (show a > b from h2), if_pos h2]
    · rw [if_neg (show ¬ a > b from h2), if_neg h2]
theorem or_f (a b : Int) : cmp_Or_int.f 10 [a, b] = some (if a = 0 then b else a) := by
  have e0 : rd [a, b] (0 : Int) = a := rfl
  have e1 : rd [a, b] (1 : Int) = b := rfl
  unfold cmp_Or_int.f
  show cmp_Or_int.l0 10 0 [a, b] 2 0 = _
  rw [cmp_Or_int.l0, if_pos (by decide), if_pos (by decide), if_pos (by simp), e0]
  by_cases ha : a = 0
  · rw [if_pos ha, if_pos ha, show wrap64 ((0 : Int) + 1) = 1 by unfold wrap64; omega, cmp_Or_int.l0, if_pos (by decide), if_pos (by decide), if_pos (by simp), e1]
    by_cases hb : b = 0
    · rw [if_pos hb, show wrap64 ((1 : Int) + 1) = 2 by unfold wrap64; omega, cmp_Or_int.l0, if_neg (by decide), hb]
    · rw [if_neg hb]
  · rw [if_neg ha, if_neg ha]
set_option maxHeartbeats 8000000 in
set_option maxRecDepth 100000 in
theorem byPair_calls (w : World) (x y : S32) : Calls Try.prog 34 #[.agg #[.int .i64 x.f0, .int .i64 x.f1], .agg #[.int .i64 y.f0, .int .i64 y.f1]] w fun e w' => e = .returned (.int .i64 (cmpP x y)) ∧ Gr w w' := by
  obtain ⟨p, q⟩ := x
  obtain ⟨r, s⟩ := y
  have HE := Aside0.mk (show cmpP ⟨p, q⟩ ⟨r, s⟩ = if cmpI p r = 0 then cmpI q s else cmpI p r from rfl)
  go_enter Try.func34, Try.ntmps34
  go_wp2_with fail
  have n1 := blk_alloc (heap_alloc_new w (.cells #[.int .i64 p, .int .i64 q] 32)) (.cells #[.int .i64 r, .int .i64 s] 32)
  have n2 := heap_alloc_new (w.alloc (.cells #[.int .i64 p, .int .i64 q] 32)) (.cells #[.int .i64 r, .int .i64 s] 32)
  rw [show (w.alloc (.cells #[.int .i64 p, .int .i64 q] 32)).heap.size = w.heap.size + 1 from Array.size_push _] at n2
  have G0 := (Gr.alloc w (.cells #[.int .i64 p, .int .i64 q] 32)).trans (Gr.alloc (w.alloc (.cells #[.int .i64 p, .int .i64 q] 32)) (.cells #[.int .i64 r, .int .i64 s] 32))
  obtain ⟨ga, hga⟩ : ∃ ga, ga = w.heap.size := ⟨_, rfl⟩
  obtain ⟨gb, hgb⟩ : ∃ gb, gb = w.heap.size + 1 := ⟨_, rfl⟩
  rw [← hga] at n1
  rw [← hgb] at n2
  rw [← hgb, ← hga]
  generalize ((w.alloc (.cells #[.int .i64 p, .int .i64 q] 32)).alloc (.cells #[.int .i64 r, .int .i64 s] 32)) = W at n1 n2 G0 ⊢
  clear hga hgb
  have step : ∀ {a b : World}, (a.heap[ga]? = some (.cells #[.int .i64 p, .int .i64 q] 32 (0, 0)) ∧ a.heap[gb]? = some (.cells #[.int .i64 r, .int .i64 s] 32 (0, 0)) ∧ Gr w a) → Gr a b → (b.heap[ga]? = some (.cells #[.int .i64 p, .int .i64 q] 32 (0, 0)) ∧ b.heap[gb]? = some (.cells #[.int .i64 r, .int .i64 s] 32 (0, 0)) ∧ Gr w b) := fun h g => ⟨blk_below h.1 g.below, blk_below h.2.1 g.below, h.2.2.trans g⟩
  have hS0 := step ⟨n1, n2, G0⟩ (Gr.drew W)
  clear n1 n2 G0
  refine wp_eff (S := fun w' => w'.heap[ga]? = some (.cells #[.int .i64 p, .int .i64 q] 32 (0, 0)) ∧ w'.heap[gb]? = some (.cells #[.int .i64 r, .int .i64 s] 32 (0, 0)) ∧ Gr w w') [(0, false), (1, false), (2, false), (3, false), (5, false), (6, false), (7, false), (8, false), (4, true), (9, true), (10, true), (11, true), (12, false)] (by kernel_rfl) (by kernel_rfl) hS0 (fun _ _ d _ _ h => by cases d <;> exact h) ?_
  refine se_un (v := .pointer (some ⟨ga, 0, none⟩)) rfl rfl rfl rfl rfl (fun w' hw => by go_simp) ?_
  refine se_un (v := .int .i64 p) rfl rfl rfl rfl rfl (fun w' hw => by have x1 := blk_cell hw.1 0; simp only [List.getElem?_toArray, List.getElem?_cons_zero] at x1; go_simp) ?_
  refine se_un (v := .pointer (some ⟨gb, 0, none⟩)) rfl rfl rfl rfl rfl (fun w' hw => by go_simp) ?_
  refine se_un (v := .int .i64 r) rfl rfl rfl rfl rfl (fun w' hw => by have x1 := blk_cell hw.2.1 0; simp only [List.getElem?_toArray, List.getElem?_cons_zero] at x1; go_simp) ?_
  refine se_un (v := .pointer (some ⟨ga, 1, none⟩)) rfl rfl rfl rfl rfl (fun w' hw => by go_simp) ?_
  refine se_un (v := .int .i64 q) rfl rfl rfl rfl rfl (fun w' hw => by have x1 := blk_cell hw.1 1; simp only [List.getElem?_toArray, List.getElem?_cons_zero, List.getElem?_cons_succ] at x1; go_simp) ?_
  refine se_un (v := .pointer (some ⟨gb, 1, none⟩)) rfl rfl rfl rfl rfl (fun w' hw => by go_simp) ?_
  refine se_un (v := .int .i64 s) rfl rfl rfl rfl rfl (fun w' hw => by have x1 := blk_cell hw.2.1 1; simp only [List.getElem?_toArray, List.getElem?_cons_zero, List.getElem?_cons_succ] at x1; go_simp) ?_
  refine se_call (vs := [.int .i64 p, .int .i64 r]) rfl rfl Try.func48 (by kernel_rfl) rfl (by kernel_rfl) ?_
  refine (cmp_Compare_int.calls p r _ _ (cmpI_f p r)).mono ?_
  rintro e1 w1 ⟨rfl, hd1⟩
  have hS1 := step hS0 (Gr.drawn0 hd1)
  refine ⟨_, rfl, hS1, ?_⟩
  clear hd1 hS0
  refine se_call (vs := [.int .i64 q, .int .i64 s]) rfl rfl Try.func48 (by kernel_rfl) rfl (by kernel_rfl) ?_
  refine (cmp_Compare_int.calls q s _ _ (cmpI_f q s)).mono ?_
  rintro e2 w2 ⟨rfl, hd2⟩
  have hS2 := step hS1 (Gr.drawn0 hd2)
  refine ⟨_, rfl, hS2, ?_⟩
  clear hd2 hS1
  have hlit := reads_lit w2 [cmpI p r, cmpI q s] (by simp) 3
  have hS3 := step hS2 (Gr.alloc w2 (.cells #[.int .i64 (cmpI p r), .int .i64 (cmpI q s)] 3))
  have hbs : Sem.run Try.prog (Instr.buildSlice 24 2 #[(0, .int .i64 (cmpI p r)), (1, .int .i64 (cmpI q s))]) w2 = .ok (.slice (some ⟨w2.heap.size, 0, none⟩) 2 2) (w2.alloc (.cells #[.int .i64 (cmpI p r), .int .i64 (cmpI q s)] 3)) := by go_simp
  refine se_lit (vs := [(0, .int .i64 (cmpI p r)), (1, .int .i64 (cmpI q s))]) rfl rfl rfl hbs hS3 ?_
  refine se_call (vs := [.slice (some ⟨w2.heap.size, 0, none⟩) 2 2]) rfl rfl Try.func47 (by kernel_rfl) rfl (by kernel_rfl) ?_
  refine (cmp_Or_int.calls 10 (some ⟨w2.heap.size, 0, none⟩) 2 [cmpI p r, cmpI q s] _ _ (C_int hlit) (by simp) (or_f _ _)).mono ?_
  rintro e3 w3 ⟨rfl, hd3⟩
  have hS4 := step hS3 (Gr.drawn0 hd3)
  refine ⟨_, rfl, hS4, ?_⟩
  clear hd3 hS3 hS2 hlit hbs
  refine se_assign rfl rfl rfl ?_
  intro _
  have HS := Aside0.mk hS4.2.2
  clear hS4 step
  rw [← HE.out]
  simp only [SeqE, puts, Act.put, List.setIfInBounds_toArray, List.set_cons_zero, List.set_cons_succ]
  go_wp2
  exact bodyPost_ret (v := .int .i64 (cmpP ⟨p, q⟩ ⟨r, s⟩)) (by simp [results, Try.f34, go_sem]) rfl ⟨rfl, HS.out⟩

/-! the row of pairs, sorted -/
def c32 (x : S32) : List Value := [.int .i64 x.f0, .int .i64 x.f1]
def flat (xs : List S32) : List Value := xs.flatMap c32
theorem flat_cons (x : S32) (xs : List S32) : flat (x :: xs) = .int .i64 x.f0 :: .int .i64 x.f1 :: flat xs := rfl
theorem flat_len : ∀ xs, (flat xs).length = xs.length * 2
  | [] => rfl
  | x :: xs => by rw [flat_cons, List.length_cons, List.length_cons, flat_len xs, List.length_cons]; omega
theorem flat_get : ∀ (xs : List S32) (i b : Nat) (hi : i < xs.length), b < 2 → (flat xs)[i * 2 + b]? = (c32 xs[i])[b]?
  | x :: xs, 0, b, hi, hb => by
    rw [flat_cons]
    match b, hb with
    | 0, _ => rfl
    | 1, _ => rfl
  | x :: xs, i + 1, b, hi, hb => by
    rw [flat_cons, show (i + 1) * 2 + b = (i * 2 + b) + 1 + 1 by omega, List.getElem?_cons_succ, List.getElem?_cons_succ, flat_get xs i b (by simpa using hi) hb]
    rfl
theorem reps_flat (W : World) (bo : Nat) (ok : Nat → Prop) : ∀ xs, Reps (k32.M W bo ok) 2 xs (flat xs)
  | [] => Reps.none _ _
  | x :: xs => Reps.c2 (k32_mkM _ _ _ x) (reps_flat W bo ok xs)
theorem flat_of {W : World} {bo : Nat} {ok : Nat → Prop} : ∀ {xs : List S32} {cs : List Value}, Reps (k32.M W bo ok) 2 xs cs → cs = flat xs
  | [], cs, h => List.eq_nil_of_length_eq_zero (by simpa using h.1)
  | x :: xs, cs, h => by
    have hl := h.1
    rw [List.length_cons] at hl
    match cs, hl with
    | a :: b :: r, hl =>
      have h0 := h.2 0 x rfl
      have e0 : [a, b] = [.int .i64 x.f0, .int .i64 x.f1] := k32_openM h0
      have hr : Reps (k32.M W bo ok) 2 xs r := ⟨by simp only [List.length_cons] at hl; omega, fun j p hj => by
        have h1 := h.2 (j + 1) p hj
        rw [show (j + 1) * 2 = j * 2 + 1 + 1 by omega] at h1
        exact h1⟩
      rw [flat_of hr, flat_cons]
      simp only [List.cons.injEq] at e0
      rw [e0.1, e0.2.1]
    | [], hl => simp at hl
    | [a], hl => simp at hl; omega
instance : Inhabited S32 := ⟨z32⟩
theorem flatK_flat (xs : List S32) : (Go.Sort.flatK c32 2 xs.toArray).toList = flat xs := by
  apply List.ext_getElem?
  intro t
  rw [Array.getElem?_toList]
  by_cases ht : t < xs.length * 2
  · have hi : t / 2 < xs.length := by omega
    have h1 := flat_get xs (t / 2) (t % 2) hi (by omega)
    rw [show t / 2 * 2 + t % 2 = t by omega] at h1
    rw [h1]
    simp only [Go.Sort.flatK, Array.getElem?_map, List.size_toArray]
    rw [Array.getElem?_range, if_pos ht]
    simp only [Option.map_some, List.getElem!_toArray]
    rw [show xs[t / 2]! = xs[t / 2] by simp [hi]]
    have hb : t % 2 < 2 := by omega
    generalize t % 2 = b at hb
    match b, hb with
    | 0, _ => rfl
    | 1, _ => rfl
  · rw [List.getElem?_eq_none (by rw [flat_len]; omega)]
    simp only [Go.Sort.flatK, Array.getElem?_map, List.size_toArray]
    rw [Array.getElem?_range, if_neg ht]
    rfl
theorem flatK_flat' {d : Array S32} : (Go.Sort.flatK c32 2 d).toList = flat d.toList := by have h := flatK_flat d.toList; rwa [Array.toArray_toList] at h
theorem flatK_size (xs : List S32) : (Go.Sort.flatK c32 2 xs.toArray).size = xs.length * 2 := by rw [Go.Sort.size_flatK, List.size_toArray]
theorem take_put (cur F : Array Value) (h : F.size ≤ cur.size) : (Go.Sort.putCells id 0 F cur).toList.take F.size = F.toList := by
  apply List.ext_getElem?
  intro j
  by_cases hj : j < F.size
  · rw [List.getElem?_take_of_lt hj, Array.getElem?_toList, Array.getElem?_toList]
    simp [Go.Sort.putCells, hj, show j < cur.size by omega]
  · rw [List.getElem?_take_eq_none (by omega), List.getElem?_eq_none (by rw [Array.length_toList]; omega)]
theorem heap_put {w : World} {g n : Nat} {os : Array Obj} {cur : Array Value} {e : TypeId} {fr : Nat × Nat} (F : Array Value) (hb : w.heap[g]? = some (.cells cur e fr)) :
    (Go.Sort.grow (Go.Sort.putRow id (Go.Sort.ahead w n) g 0 F) os).heap[g]? = some (.cells (Go.Sort.putCells id 0 F cur) e fr) := by
  have hg : g < w.heap.size := (Array.getElem?_eq_some_iff.1 hb).1
  rw [Go.Sort.heap_grow_old _ _ (by simpa using hg)]
  simp [Go.Sort.putRow, Go.Sort.mapBlock, Go.Sort.ahead, Array.getElem?_modify, hb, Go.Sort.onCells]
theorem grown_put {w : World} {g n : Nat} {os : Array Obj} (F : Array Value) : w.grownBy (Go.Sort.grow (Go.Sort.putRow id (Go.Sort.ahead w n) g 0 F) os) (some g) := by
  refine ⟨rfl, rfl, rfl, by simp, fun k hk hne => ?_⟩
  rw [Go.Sort.heap_grow_old _ _ (by simpa using hk)]
  have : g ≠ k := fun e => hne (by rw [e])
  simp [Go.Sort.putRow, Go.Sort.mapBlock, Go.Sort.ahead, Array.getElem?_modify, this]
/-- one pair ahead of another one -/
def pl (x y : S32) : Prop := x.f0 < y.f0 ∨ (x.f0 = y.f0 ∧ x.f1 < y.f1)
theorem lt_pl (x y : S32) : Go.Proofs.ltOf cmpP x y = true ↔ pl x y := by
  unfold Go.Proofs.ltOf cmpP cmpI pl
  rw [decide_eq_true_iff]
  by_cases h1 : x.f0 < y.f0
  · simp [h1]
  · by_cases h2 : y.f0 < x.f0
    · simp [h1, h2]; omega
    · have e : x.f0 = y.f0 := by omega
      simp [h1, h2, e]
      by_cases h3 : x.f1 < y.f1
      · simp [h3]
      · by_cases h4 : y.f1 < x.f1 <;> simp [h3, h4]
theorem lt_npl (x y : S32) : Go.Proofs.ltOf cmpP x y = false ↔ ¬ pl x y := by
  rw [← lt_pl]
  cases Go.Proofs.ltOf cmpP x y <;> simp
theorem swo : Go.Sort.SWO (Go.Proofs.ltOf cmpP) where
  irrefl x := by rw [lt_npl]; unfold pl; omega
  trans x y z h1 h2 := by rw [lt_pl] at *; unfold pl at *; omega
  ntrans x y z h1 h2 := by rw [lt_npl] at *; unfold pl at *; omega
/-- in the order of pairs -/
def SrtP (ys : List S32) : Prop := ∀ i j (hi : i < j) (hj : j < ys.length), ¬ pl ys[j] (ys[i]'(by omega))
theorem isAgg32' (w : World) : (isAgg 32).run Try.prog w = .ok true w := Try.isAgg32 w
theorem sort_calls (w : World) (bo : Nat) (v : Value) (xs : List S32) (h : Kd.R k32 32 w bo (fun _ => True) v xs) (hp : 0 < xs.length) (hl : xs.length ≤ 100000) :
    Calls Try.prog 33 #[v, .func (.func 34) #[] #[]] w fun e w' => e = .returned (.tuple #[]) ∧ ∃ ys, ys.Perm xs ∧ SrtP ys ∧ Kd.R k32 32 w' bo (fun _ => True) v ys ∧ w.grownBy w' v.ownBlock := by
  obtain ⟨h0, inner, ho, hre⟩ := h
  obtain rfl := flat_of hre
  rcases ho.2 with ⟨hv, hn⟩ | ⟨g, cap, cur, rfl, hbg, hh, hnc, hcm, hcs, htk⟩
  · omega
  have hs2 : k32.sz = 2 := rfl
  rw [hs2] at hcs htk
  have hglt : g < w.heap.size := (Array.getElem?_eq_some_iff.1 hh).1
  have hH : Go.Sort.HoldsK c32 2 w g 0 xs.toArray := fun j hj => by
    rw [flatK_size] at hj
    refine ⟨?_, blk_frozen hh _⟩
    show _ = some ((Go.Sort.flatK c32 2 xs.toArray)[j]!)
    rw [Nat.zero_add, blk_cell hh, ← Array.getElem?_toList]
    have h1 : (cur.toList.take (xs.length * 2))[j]? = (flat xs)[j]? := by rw [htk]
    rw [List.getElem?_take, if_pos hj, ← flatK_flat] at h1
    rw [h1, Array.getElem?_toList]
    have hj2 : j < (Go.Sort.flatK c32 2 xs.toArray).size := by rw [flatK_size]; exact hj
    rw [Array.getElem?_eq_getElem hj2, getElem!_pos _ j hj2]
  have hcmp : Go.Proofs.CmpLays Try.prog 34 #[] c32 2 cmpP g 0 xs.toArray.size w := fun m os dk hdk x y => by
    refine (byPair_calls _ x y).mono ?_
    rintro e w' ⟨rfl, hg⟩
    exact ⟨rfl, hg.is⟩
  have hmain := Go.Proofs.AnyQ.slices_SortFunc sortLays 2 isAgg32' (fun w => Try.sizeOf32 w) c32 (fun _ => rfl) (fun x v hv => by
    simp only [c32, List.mem_cons, List.not_mem_nil, or_false] at hv
    rcases hv with rfl | rfl <;> rfl) cmpP swo 34 #[] g 0 cap xs.toArray w (fun args w => enters_ Try.func34 (by kernel_rfl) rfl args w) hcmp hH hglt (by rw [List.size_toArray]; omega)
  rw [List.size_toArray] at hmain
  refine hmain.mono ?_
  rintro e w' ⟨rfl, d', n, os, hperm, hsrt, rfl⟩
  have hds : d'.size = xs.length := by rw [hperm.1, List.size_toArray]
  have hdp : d'.toList.Perm xs := by
    have h1 := hperm.2.2
    have h2 : (List.take xs.length d'.toList).Perm xs := by simpa [hds] using h1
    rwa [List.take_of_length_le (by rw [Array.length_toList, hds]; exact Nat.le_refl _)] at h2
  refine ⟨rfl, d'.toList, hdp, fun i j hij hj => ?_, ?_, grown_put _⟩
  · have hj' : j < d'.size := by simpa using hj
    have h1 := hsrt i j (Nat.zero_le _) hij (by omega)
    rw [lt_npl] at h1
    have e1 : d'[j]! = d'.toList[j] := by simp [hj']
    have e2 : d'[i]! = d'.toList[i]'(by omega) := by simp [show i < d'.size by omega]
    rwa [e1, e2] at h1
  · have hsz : (Go.Sort.flatK c32 2 d').size = xs.length * 2 := by rw [Go.Sort.size_flatK, hds]
    have hdl : d'.toList.length = xs.length := by rw [Array.length_toList, hds]
    refine ⟨fun k hk => trivial, flat d'.toList, ⟨by rw [flat_len]; rfl, .inr ⟨g, cap, _, by rw [hdl], hbg, heap_put _ hh, by rw [hdl]; exact hnc, hcm, by rw [hs2]; simp [Go.Sort.putCells, hcs], ?_⟩⟩, reps_flat _ _ _ _⟩
    have h1 := take_put cur (Go.Sort.flatK c32 2 d') (by
      rw [hsz]
      have h2 : (cur.toList.take (xs.length * 2)).length = (flat xs).length := by rw [htk]
      rw [List.length_take, flat_len, Array.length_toList] at h2
      omega)
    rw [hsz, flatK_flat' ] at h1
    rw [hdl]
    exact h1
end Go.Proofs.Ytginlhengebgaaa.Lk
