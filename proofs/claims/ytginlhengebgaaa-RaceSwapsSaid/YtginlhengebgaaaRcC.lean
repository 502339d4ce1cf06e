/- Races: what is ahead is what leads there; what a proof of a race tells. Plain Lean. race.slot, race.meet; the closures of race.closed: their walks. race.All: its walk. race.closed: its walk. -/
import Derived.Test.YtginlhengebgaaaCkQ
import Derived.Test.YtginlhengebgaaaCkJ
import Derived.Test.YtginlhengebgaaaShelf
namespace Go.Proofs.Ytginlhengebgaaa.Ck
open Go Go.RowKit Go.Proofs.Ytginlhengebgaaa.PLockupEither
set_option linter.unusedVariables false
set_option linter.unusedSimpArgs false
section
variable {n th : Nat} {T : Nat → Nat} {Ed : Nat → Nat → Prop} {c : Nat → Nat → Int}
/-- one leads to the other one -/
inductive Reach (Ed : Nat → Nat → Prop) : Nat → Nat → Prop where
  | refl (j : Nat) : Reach Ed j j
  | head {i j k : Nat} : Ed i j → Reach Ed j k → Reach Ed i k
theorem Reach.trans {i j k : Nat} (h : Reach Ed i j) (h' : Reach Ed j k) : Reach Ed i k := by
  induction h with
  | refl j => exact h'
  | head he _ ih => exact .head he (ih h')
theorem Reach.one {i j : Nat} (h : Ed i j) : Reach Ed i j := .head h (.refl j)
theorem Clk.reach_le (h : Clk n th T Ed c) {i j : Nat} (hr : Reach Ed i j) (hj : j < n) : i ≤ j ∧ ∀ t, t < th → c i t ≤ c j t := by
  induction hr with
  | refl j => exact ⟨Nat.le_refl _, fun _ _ => Int.le_refl _⟩
  | @head i k j he _ ih =>
    obtain ⟨h1, h2⟩ := ih hj
    have h3 := h.lt i k he
    refine ⟨by omega, fun t ht => ?_⟩
    have h4 := h.up i k t he ht
    have h5 := h2 t ht
    split at h4 <;> omega
theorem Clk.back (h : Clk n th T Ed c) : ∀ j, j < n → ∀ e, e ≤ j → T e = T j → Reach Ed e j := by
  intro j
  induction j using Nat.strongRecOn with
  | _ j ih =>
    intro hj e he ht
    rcases Nat.lt_or_ge e j with h1 | h1
    · obtain ⟨i, hi, hit, hed⟩ := h.prog j e hj h1 ht
      have h2 := h.lt i j hed
      exact (ih i h2.1 (by omega) e hi (ht.trans hit.symm)).trans (.one hed)
    · obtain rfl : e = j := by omega
      exact .refl e
theorem Clk.srcR (h : Clk n th T Ed c) : ∀ j, j < n → ∀ t, t < th → 1 ≤ c j t → ∃ e, Reach Ed e j ∧ T e = t ∧ c e t = c j t := by
  intro j
  induction j using Nat.strongRecOn with
  | _ j ih =>
    intro hj t ht h1
    by_cases hc : t = T j
    · subst hc
      exact ⟨j, .refl j, rfl, rfl⟩
    · rcases h.is j t hj ht with h2 | ⟨i, hi, h2⟩
      · rw [if_neg hc] at h2; omega
      · rw [if_neg hc, Int.add_zero] at h2
        have h3 := h.lt i j hi
        obtain ⟨e, h4, h5, h6⟩ := ih i h3.1 (by omega) t ht (by omega)
        exact ⟨e, h4.trans (.one hi), h5, by omega⟩
/-- ahead by clocks: ahead by paths -/
theorem Clk.reach (h : Clk n th T Ed c) {i j : Nat} (hi : i < n) (hj : j < n) : c i (T i) ≤ c j (T i) ↔ Reach Ed i j := by
  constructor
  · intro hc
    have gi := h.good i hi
    have h1 : 1 ≤ c i (T i) := by
      rw [gi.own]
      have := cnt_nonneg T (T i) i
      show 1 ≤ cnt T (T i) i + _
      rw [if_pos rfl]; omega
    obtain ⟨e, e1, e2, e3⟩ := h.srcR j hj (T i) (h.thr i hi) (by omega)
    have he := (h.reach_le e1 hj).1
    have hie : i ≤ e := by
      rcases Nat.lt_or_ge e i with hlt | hge
      · exfalso
        have h2 := (h.good e (by omega)).own
        rw [e2] at h2
        have h3 := cnt_mono T (T i) (show e + 1 ≤ i by omega)
        have h4 := gi.own
        have h5 : cnt T (T i) (i + 1) = cnt T (T i) i + 1 := by
          show cnt T (T i) i + _ = _
          rw [if_pos rfl]
        omega
      · exact hge
    exact (h.back e (by omega) i hie e2.symm).trans e1
  · intro hr
    exact (h.reach_le hr hj).2 (T i) (h.thr i hi)
end
/-! all that lead to one -/
def intoS (E : List S32) (out : List Int) : List Int := E.foldr (fun e out => if e.f1 ∈ out ∧ e.f0 ∉ out then out ++ [e.f0] else out) out
theorem intoS_grow : ∀ (E : List S32) (out : List Int) (x : Int), x ∈ out → x ∈ intoS E out
  | [], out, x, h => h
  | e :: E, out, x, h => by
    have h1 := intoS_grow E out x h
    show x ∈ (if e.f1 ∈ intoS E out ∧ e.f0 ∉ intoS E out then intoS E out ++ [e.f0] else intoS E out)
    split
    · exact List.mem_append.2 (.inl h1)
    · exact h1
theorem intoS_app : ∀ (A B : List S32) (out : List Int), intoS (A ++ B) out = intoS A (intoS B out) := fun A B out => List.foldr_append
theorem intoS_nodup : ∀ (E : List S32) (out : List Int), out.Nodup → (intoS E out).Nodup
  | [], out, h => h
  | e :: E, out, h => by
    have h1 := intoS_nodup E out h
    show (if e.f1 ∈ intoS E out ∧ e.f0 ∉ intoS E out then intoS E out ++ [e.f0] else intoS E out).Nodup
    split
    · rename_i hc
      refine List.nodup_append.2 ⟨h1, by simp, fun a ha b hb => ?_⟩
      rw [List.mem_singleton.1 hb]
      rintro rfl
      exact hc.2 ha
    · exact h1
theorem intoS_len : ∀ (E : List S32) (out : List Int), (intoS E out).length ≤ out.length + E.length
  | [], out => Nat.le_refl _
  | e :: E, out => by
    have h1 := intoS_len E out
    show (if e.f1 ∈ intoS E out ∧ e.f0 ∉ intoS E out then intoS E out ++ [e.f0] else intoS E out).length ≤ _
    rw [List.length_cons]
    split
    · rw [List.length_append]; show _ + 1 ≤ _; omega
    · omega
/-- E's pairs as pairs of places -/
def natE (E : List S32) : Prop := ∀ p ∈ E, 0 ≤ p.f0 ∧ p.f0 < p.f1
theorem intoS_sound {E : List S32} (hE : natE E) {k : Nat} : ∀ (S : List S32), (∀ p ∈ S, p ∈ E) → ∀ x ∈ intoS S [(k : Int)], ∃ i : Nat, x = (i : Int) ∧ Reach (EdN E) i k
  | [], _, x, hx => ⟨k, List.mem_singleton.1 hx, .refl k⟩
  | e :: S, hS, x, hx => by
    have ih := intoS_sound hE (k := k) S (fun p hp => hS p (List.mem_cons_of_mem _ hp))
    have hx' : x ∈ (if e.f1 ∈ intoS S [(k : Int)] ∧ e.f0 ∉ intoS S [(k : Int)] then intoS S [(k : Int)] ++ [e.f0] else intoS S [(k : Int)]) := hx
    split at hx'
    · rename_i hc
      rcases List.mem_append.1 hx' with h | h
      · exact ih x h
      · obtain rfl := List.mem_singleton.1 h
        have h0 := hE e (hS e List.mem_cons_self)
        obtain ⟨j, hj, hr⟩ := ih e.f1 hc.1
        refine ⟨e.f0.toNat, by omega, .head ?_ hr⟩
        unfold EdN
        rw [show (⟨((e.f0.toNat : Nat) : Int), (j : Int)⟩ : S32) = e from s32_ext (by simp only; omega) (by simp only; omega)]
        exact hS e List.mem_cons_self
    · exact ih x hx'
theorem intoS_full {E : List S32} (hE : natE E) (hs : E.Pairwise pq) {k i : Nat} (hr : Reach (EdN E) i k) : ∀ (pre suf : List S32), E = pre ++ suf → (∀ e ∈ pre, e.f1 ≤ (i : Int)) → (i : Int) ∈ intoS suf [(k : Int)] := by
  induction hr with
  | refl j => exact fun pre suf _ _ => intoS_grow suf _ _ (by simp)
  | @head i y k he hr ih =>
    intro pre suf hEq hpre
    have hm : (⟨(i : Int), (y : Int)⟩ : S32) ∈ E := he
    have hlt := (hE _ hm).2
    simp only at hlt
    rw [hEq] at hm
    rcases List.mem_append.1 hm with h | h
    · have := hpre _ h
      simp only at this
      omega
    · obtain ⟨s1, s2, rfl⟩ := List.append_of_mem h
      have hy := ih (pre ++ s1 ++ [⟨(i : Int), (y : Int)⟩]) s2 (by rw [hEq]; simp) (fun e hm => by
        rcases List.mem_append.1 hm with hm | hm
        · rw [hEq, ← List.append_assoc] at hs
          have h2 := (List.pairwise_append.1 hs).2.2 e hm ⟨(i : Int), (y : Int)⟩ List.mem_cons_self
          unfold pq at h2
          simp only at h2
          omega
        · rw [List.mem_singleton.1 hm]
          exact Int.le_refl _)
      rw [intoS_app]
      refine intoS_grow s1 _ _ ?_
      show (i : Int) ∈ (if (y : Int) ∈ intoS s2 [(k : Int)] ∧ (i : Int) ∉ intoS s2 [(k : Int)] then intoS s2 [(k : Int)] ++ [(i : Int)] else intoS s2 [(k : Int)])
      by_cases hin : (i : Int) ∈ intoS s2 [(k : Int)]
      · rw [if_neg (fun h => h.2 hin)]; exact hin
      · rw [if_pos ⟨hy, hin⟩]; simp
def leI (x y : Int) : Bool := decide (x ≤ y)
/-- into, sorted -/
def intoF (E : List S32) (k : Int) : List Int := (intoS E [k]).mergeSort leI
theorem leI_tr : ∀ a b c : Int, leI a b = true → leI b c = true → leI a c = true := fun a b c h1 h2 => by unfold leI at *; simp at *; omega
theorem leI_tot : ∀ a b : Int, (leI a b || leI b a) = true := fun a b => by unfold leI; simp; omega
theorem intoF_mem {E : List S32} (hE : natE E) (hs : E.Pairwise pq) {k : Nat} (x : Int) : x ∈ intoF E (k : Int) ↔ ∃ i : Nat, x = (i : Int) ∧ Reach (EdN E) i k := by
  unfold intoF
  rw [(List.mergeSort_perm _ _).mem_iff]
  constructor
  · exact intoS_sound hE E (fun p hp => hp) x
  · rintro ⟨i, rfl, hr⟩
    exact intoS_full hE hs hr [] E rfl (fun e h => by cases h)
/-- it rises -/
theorem intoF_rise (E : List S32) (k : Int) : (intoF E k).Pairwise (· < ·) := by
  have h1 := List.pairwise_mergeSort leI_tr leI_tot (intoS E [k])
  have h2 : (intoF E k).Nodup := (List.mergeSort_perm _ _).nodup_iff.2 (intoS_nodup E [k] (by simp))
  unfold intoF at *
  exact (h1.and h2).imp (fun {a b} h => by
    have h3 := h.1
    have h4 := h.2
    unfold leI at h3
    simp at h3
    omega)
theorem intoF_len (E : List S32) (k : Int) : (intoF E k).length ≤ E.length + 1 := by
  have h1 := intoS_len E [k]
  unfold intoF
  rw [List.length_mergeSort]
  simp at h1
  omega
/-! races -/
def meetF (x y : CE) : Bool := (decide (x.k = 3) || decide (x.k = 4)) && (decide (y.k = 3) || decide (y.k = 4)) && decide (x.a = y.a) && decide (x.b = y.b) && (decide (x.k = 4) || decide (y.k = 4)) && decide (x.t ≠ y.t)
theorem meet_comm (x y : CE) : meetF x y = meetF y x := by
  unfold meetF
  rw [Bool.eq_iff_iff]
  simp only [Bool.and_eq_true, Bool.or_eq_true, decide_eq_true_iff]
  constructor
  · rintro ⟨⟨⟨⟨⟨h1, h2⟩, h3⟩, h4⟩, h5⟩, h6⟩
    exact ⟨⟨⟨⟨⟨h2, h1⟩, h3.symm⟩, h4.symm⟩, h5.symm⟩, fun e => h6 e.symm⟩
  · rintro ⟨⟨⟨⟨⟨h1, h2⟩, h3⟩, h4⟩, h5⟩, h6⟩
    exact ⟨⟨⟨⟨⟨h2, h1⟩, h3.symm⟩, h4.symm⟩, h5.symm⟩, fun e => h6 e.symm⟩
/-- of two, the one that stands ahead does not lead to the other one -/
def rcB (l : List CE) (th : Nat) (E : List S32) (i j : Nat) : Bool := meetF (l.getD i zC) (l.getD j zC) && decide (cl l th E j (thr l i) < cl l th E i (thr l i))
def rcRow (l : List CE) (th : Nat) (E : List S32) (j i : Nat) : List S32 := ((List.range i).filter (fun i => rcB l th E i j)).map (fun (i : Nat) => (⟨(i : Int), (j : Int)⟩ : S32))
def rcUp (l : List CE) (th : Nat) (E : List S32) (j : Nat) : List S32 := (List.range j).flatMap (fun j => rcRow l th E j j)
theorem rcRow_succ (l : List CE) (th : Nat) (E : List S32) (j i : Nat) : rcRow l th E j (i + 1) = rcRow l th E j i ++ (if rcB l th E i j = true then [⟨(i : Int), (j : Int)⟩] else []) := by
  unfold rcRow
  rw [List.range_succ, List.filter_append, List.map_append]
  congr 1
  by_cases h : rcB l th E i j = true
  · rw [if_pos h]; simp [h]
  · rw [if_neg h]; simp [h]
theorem rcUp_succ (l : List CE) (th : Nat) (E : List S32) (j : Nat) : rcUp l th E (j + 1) = rcUp l th E j ++ rcRow l th E j j := by
  unfold rcUp
  rw [List.range_succ, List.flatMap_append]
  simp
theorem rcRow_len (l : List CE) (th : Nat) (E : List S32) (j i : Nat) : (rcRow l th E j i).length ≤ i := by
  unfold rcRow
  rw [List.length_map]
  exact Nat.le_trans (List.length_filter_le _ _) (by simp)
theorem rcUp_len (l : List CE) (th : Nat) (E : List S32) : ∀ j, (rcUp l th E j).length ≤ j * j
  | 0 => by simp [rcUp]
  | j + 1 => by
    rw [rcUp_succ, List.length_append]
    have h1 := rcUp_len l th E j
    have h2 := rcRow_len l th E j j
    have h3 : (j + 1) * (j + 1) = j * j + j + (j + 1) := by rw [Nat.mul_add, Nat.add_mul]; omega
    omega
/-- the races of a list -/
def racesF (l : List CE) (th : Nat) (E : List S32) : List S32 := rcUp l th E l.length
theorem mem_races {l : List CE} {th : Nat} {E : List S32} {p : S32} : p ∈ racesF l th E ↔ ∃ i j : Nat, p = ⟨(i : Int), (j : Int)⟩ ∧ i < j ∧ j < l.length ∧ rcB l th E i j = true := by
  unfold racesF rcUp rcRow
  simp only [List.mem_flatMap, List.mem_range, List.mem_map, List.mem_filter]
  constructor
  · rintro ⟨j, hj, i, ⟨hi, hb⟩, rfl⟩
    exact ⟨i, j, rfl, hi, hj, hb⟩
  · rintro ⟨i, j, rfl, hi, hj, hb⟩
    exact ⟨j, hj, i, ⟨hi, hb⟩, rfl⟩
end Go.Proofs.Ytginlhengebgaaa.Ck
namespace Go.Proofs.Ytginlhengebgaaa.Ck
open Go Go.RowKit Go.Maps Go.Proofs.YtginlhengebgaaaW Go.Proofs.YtginlhengebgaaaW.PrintWords Go.Proofs.YtginlhengebgaaaW.PrintLast Go.Proofs.YtginlhengebgaaaW.PrintMore Go.Proofs.Ytginlhengebgaaa.PLockupEither Go.Proofs.Ytginlhengebgaaa.Bs Go.Proofs.Ytginlhengebgaaa.RegionVal Go.Proofs.Ytginlhengebgaaa.Lk
open Go.Lib hiding intOf
set_option linter.unusedVariables false
set_option linter.unusedSimpArgs false
section
variable {P : Program} {ops : Array Oper} {rest : List Oper} {o : Oper} {a : Act} {Q : Exit → Act → World → Prop} {W W' : World} {t : TypeId} {x y : Operand} {vx vy v : Value}
/-- a load whose run is told, in a plain region, under a guard that holds -/
theorem wpl_loadg (hw : Region.wanted o (yielded ops a.tmps) = true) (ho : o.op = .load t x) (hx : a.eval x = vx) (hr : Sem.run P (Instr.loadAt t vx) W = .ok v W) (h : wpList P ops Q rest (a.put o.dst v) W) : wpList P ops Q (o :: rest) a W := by
  have hrun : (execOp a.eval o).run P W = .ok (.value v) W := by
    obtain ⟨d, op, ty, ps, af, g⟩ := o
    simp only at ho
    subst ho
    simp only [execOp, hx, Sem.run_bind]
    rw [hr]
    rfl
  unfold wpList
  rw [if_pos hw]
  refine .inl ?_
  unfold Oper.wp
  rw [hrun]
  exact h
end
theorem EvC.load {g : Nat} {x : CE} {w : World} (h : EvC g x w) : ∃ cs, x.In cs ∧ Sem.run Try.prog (Instr.loadAt 41 (.pointer (some ⟨g, 0, none⟩))) w = .ok (.agg cs.toArray) w := by
  obtain ⟨cs, h1, h2⟩ := h
  have h3 : w.heap[g]? = some (.cells cs.toList.toArray 41 (0, 0)) := by rw [Array.toArray_toList]; exact h1
  exact C_loadC (C_oneC h2 h3) 0 (by simp)
def slotF (x : CE) : Bool := decide (x.k = 3) || decide (x.k = 4)
set_option maxHeartbeats 8000000 in
set_option maxRecDepth 100000 in
theorem slot_calls (W : World) (x : CE) (cs : List Value) (hx : x.In cs) : Calls Try.prog 53 #[.agg cs.toArray] W fun e w' => e = .returned (.bool (slotF x)) ∧ Below W.heap.size W w' := by
  have hev : EvC W.heap.size x (W.alloc (.cells cs.toArray 41)) := ⟨cs.toArray, heap_alloc_new W _, by simpa using hx⟩
  have k0 := hev.cell.1
  have HB := Aside0.mk (below_alloc (Below.refl W.heap.size W) (.cells cs.toArray 41))
  clear hev hx
  unfold slotF
  obtain ⟨t, ht⟩ : ∃ t, t = x.k := ⟨_, rfl⟩
  rw [← ht] at k0 ⊢
  clear ht
  go_enter Try.func53, Try.ntmps53
  by_cases h0 : t = 3
  · have d1 : (t == 3) = true := beq_iff_eq.2 h0
    have HX := Aside0.mk (show (decide (t = 3) || decide (t = 4)) = true by rw [decide_eq_true h0]; rfl)
    clear h0
    go_wp2
    go_ret
    exact ⟨by rw [HX.out]; rfl, HB.out⟩
  · have d1 : (t == 3) = false := beq_eq_false_iff_ne.2 h0
    by_cases h1 : t = 4
    · have d2 : (t == 4) = true := beq_iff_eq.2 h1
      have HX := Aside0.mk (show (decide (t = 3) || decide (t = 4)) = true by rw [decide_eq_true h1, Bool.or_true])
      clear h0 h1
      go_wp2
      go_ret
      exact ⟨by rw [HX.out]; rfl, HB.out⟩
    · have d2 : (t == 4) = false := beq_eq_false_iff_ne.2 h1
      have HX := Aside0.mk (show (decide (t = 3) || decide (t = 4)) = false by rw [decide_eq_false h0, decide_eq_false h1]; rfl)
      clear h0 h1
      go_wp2
      go_ret
      exact ⟨by rw [HX.out]; rfl, HB.out⟩
theorem meetF_eq (x y : CE) : meetF x y = (slotF x && slotF y && decide (x.a = y.a) && decide (x.b = y.b) && (decide (x.k = 4) || decide (y.k = 4)) && decide (x.t ≠ y.t)) := rfl
set_option maxHeartbeats 16000000 in
set_option maxRecDepth 100000 in
theorem meet_calls (W : World) (x y : CE) (cs ds : List Value) (hx : x.In cs) (hy : y.In ds) : Calls Try.prog 42 #[.agg cs.toArray, .agg ds.toArray] W fun e w' => e = .returned (.bool (meetF x y)) ∧ Below W.heap.size W w' := by
  have e1 : EvC W.heap.size x (W.alloc (.cells cs.toArray 41)) := ⟨cs.toArray, heap_alloc_new W _, by simpa using hx⟩
  have e2 : EvC (W.heap.size + 1) y ((W.alloc (.cells cs.toArray 41)).alloc (.cells ds.toArray 41)) := by
    have h := heap_alloc_new (W.alloc (.cells cs.toArray 41)) (.cells ds.toArray 41)
    rw [World.size_alloc] at h
    exact ⟨ds.toArray, h, by simpa using hy⟩
  have HA := Aside0.mk (e1.below (below_alloc (Below.refl _ _) (.cells ds.toArray 41)))
  have HE := Aside0.mk e2
  have HB := Aside0.mk (below_alloc (below_alloc (Below.refl W.heap.size W) (.cells cs.toArray 41)) (.cells ds.toArray 41))
  have HMF := Aside0.mk (meetF_eq x y)
  clear e1 e2 hx hy
  go_enter Try.func42, Try.ntmps42
  go_upto_region 1 with (fail)
  obtain ⟨ga, hga⟩ : ∃ ga, ga = W.heap.size := ⟨_, rfl⟩
  obtain ⟨gb, hgb⟩ : ∃ gb, gb = W.heap.size + 1 := ⟨_, rfl⟩
  rw [← hga] at HA
  rw [← hgb] at HE
  rw [← hgb, ← hga]
  generalize ((W.alloc (.cells cs.toArray 41)).alloc (.cells ds.toArray 41)) = W2 at HA HE HB ⊢
  clear hga hgb
  obtain ⟨c1, hc1, hl1⟩ := HA.out.load
  have HC1 := Aside0.mk hc1
  have HL1 := Aside0.mk hl1
  clear hc1 hl1
  go_wp2_with (first
    | ((with_reducible refine gate_dst (N := 5) rfl ?_); refine wpl_load (v := .agg c1.toArray) rfl rfl rfl HL1.out ?_)
    | fail)
  refine (slot_calls _ x c1 HC1.out).mono ?_
  rintro e w3 ⟨rfl, hb3⟩
  have HA3 := Aside0.mk (HA.out.below hb3)
  have HE3 := Aside0.mk (HE.out.below hb3)
  have HB3 := Aside0.mk (below_then HB.out HB.out.size hb3)
  clear hb3 HA HE HB HL1 HC1
  cases hsx : slotF x with
  | false =>
    have HX := Aside0.mk (show meetF x y = false by rw [HMF.out, hsx]; rfl)
    clear hsx
    go_wp2
    go_ret
    exact ⟨by rw [HX.out]; rfl, HB3.out⟩
  | true =>
    obtain ⟨c2, hc2, hl2⟩ := HE3.out.load
    have HC2 := Aside0.mk hc2
    have HL2 := Aside0.mk hl2
    have HSX := Aside0.mk hsx
    clear hc2 hl2 hsx
    go_wp2_with (first
      | ((with_reducible refine gate_dst (N := 8) rfl ?_); refine wpl_loadg (v := .agg c2.toArray) rfl rfl rfl HL2.out ?_)
      | fail)
    refine (slot_calls _ y c2 HC2.out).mono ?_
    rintro e w4 ⟨rfl, hb4⟩
    have HA4 := Aside0.mk (HA3.out.below hb4)
    have HE4 := Aside0.mk (HE3.out.below hb4)
    have HB4 := Aside0.mk (below_then HB3.out HB3.out.size hb4)
    clear hb4 HA3 HE3 HB3 HL2 HC2
    cases hsy : slotF y with
    | false =>
      have HX := Aside0.mk (show meetF x y = false by rw [HMF.out, hsy, HSX.out]; rfl)
      clear hsy
      go_wp2
      go_ret
      exact ⟨by rw [HX.out]; rfl, HB4.out⟩
    | true =>
      have HMG := Aside0.mk (show meetF x y = (decide (x.a = y.a) && decide (x.b = y.b) && (decide (x.k = 4) || decide (y.k = 4)) && decide (x.t ≠ y.t)) by rw [HMF.out, hsy, HSX.out]; rfl)
      clear hsy HMF HSX
      obtain ⟨x0, x2, x6, x7⟩ := HA4.out.cell
      obtain ⟨y0, y2, y6, y7⟩ := HE4.out.cell
      obtain ⟨xk, xt, xa, xb⟩ := x
      obtain ⟨yk, yt, ya, yb⟩ := y
      simp only at HMG x0 x2 x6 x7 y0 y2 y6 y7
      have hfin : ∀ b : Bool, meetF ⟨xk, xt, xa, xb⟩ ⟨yk, yt, ya, yb⟩ = b → Ending.returned (Value.bool b) = Ending.returned (Value.bool (meetF ⟨xk, xt, xa, xb⟩ ⟨yk, yt, ya, yb⟩)) := fun b h => by rw [h]
      have HFIN := Aside0.mk hfin
      clear hfin
      by_cases h1 : xa = ya
      · have d1 : (xa == ya) = true := beq_iff_eq.2 h1
        by_cases h2 : xb = yb
        · have d2 : (xb == yb) = true := beq_iff_eq.2 h2
          by_cases h3 : xt = yt
          · have d3 : (xt != yt) = false := by rw [h3]; simp
            have HX := Aside0.mk (show meetF ⟨xk, xt, xa, xb⟩ ⟨yk, yt, ya, yb⟩ = false by rw [HMG.out, decide_eq_false (show ¬ (xt ≠ yt) from fun h => h h3), Bool.and_false])
            clear h1 h2 h3 HMG
            by_cases h4 : xk = 4
            · have d4 : (xk == 4) = true := beq_iff_eq.2 h4
              clear h4
              go_wp2
              go_ret
              exact ⟨by rw [HX.out]; rfl, HB4.out⟩
            · have d4 : (xk == 4) = false := beq_eq_false_iff_ne.2 h4
              clear h4
              by_cases h5 : yk = 4
              · have d5 : (yk == 4) = true := beq_iff_eq.2 h5
                clear h5
                go_wp2
                go_ret
                exact ⟨by rw [HX.out]; rfl, HB4.out⟩
              · have d5 : (yk == 4) = false := beq_eq_false_iff_ne.2 h5
                clear h5
                go_wp2
                go_ret
                exact ⟨by rw [HX.out]; rfl, HB4.out⟩
          · have d3 : (xt != yt) = true := bne_iff_ne.2 h3
            by_cases h4 : xk = 4
            · have d4 : (xk == 4) = true := beq_iff_eq.2 h4
              have HX := Aside0.mk (show meetF ⟨xk, xt, xa, xb⟩ ⟨yk, yt, ya, yb⟩ = true by rw [HMG.out, decide_eq_true h1, decide_eq_true h2, decide_eq_true h4, decide_eq_true (show xt ≠ yt from h3)]; rfl)
              clear h1 h2 h3 h4 HMG
              go_wp2
              go_ret
              exact ⟨by rw [HX.out]; rfl, HB4.out⟩
            · have d4 : (xk == 4) = false := beq_eq_false_iff_ne.2 h4
              by_cases h5 : yk = 4
              · have d5 : (yk == 4) = true := beq_iff_eq.2 h5
                have HX := Aside0.mk (show meetF ⟨xk, xt, xa, xb⟩ ⟨yk, yt, ya, yb⟩ = true by rw [HMG.out, decide_eq_true h1, decide_eq_true h2, decide_eq_true h5, decide_eq_true (show xt ≠ yt from h3), Bool.or_true]; rfl)
                clear h1 h2 h3 h4 h5 HMG
                go_wp2
                go_ret
                exact ⟨by rw [HX.out]; rfl, HB4.out⟩
              · have d5 : (yk == 4) = false := beq_eq_false_iff_ne.2 h5
                have HX := Aside0.mk (show meetF ⟨xk, xt, xa, xb⟩ ⟨yk, yt, ya, yb⟩ = false by rw [HMG.out, decide_eq_false h4, decide_eq_false h5, Bool.or_self, Bool.and_false, Bool.false_and])
                clear h1 h2 h3 h4 h5 HMG
                go_wp2
                go_ret
                exact ⟨by rw [HX.out]; rfl, HB4.out⟩
        · have d2 : (xb == yb) = false := beq_eq_false_iff_ne.2 h2
          have HX := Aside0.mk (show meetF ⟨xk, xt, xa, xb⟩ ⟨yk, yt, ya, yb⟩ = false by rw [HMG.out, decide_eq_false h2, Bool.and_false]; rfl)
          clear h1 h2 HMG
          go_wp2
          go_ret
          exact ⟨by rw [HX.out]; rfl, HB4.out⟩
      · have d1 : (xa == ya) = false := beq_eq_false_iff_ne.2 h1
        have HX := Aside0.mk (show meetF ⟨xk, xt, xa, xb⟩ ⟨yk, yt, ya, yb⟩ = false by rw [HMG.out, decide_eq_false h1]; rfl)
        clear h1 HMG
        go_wp2
        go_ret
        exact ⟨by rw [HX.out]; rfl, HB4.out⟩
/-! the closures of closed -/
theorem spot_none {w : World} {A : Option Addr} {l : List Int} (h : Kd.C kI w A l.length l) (hl : 0 < l.length) : ∃ b off, A = some ⟨b, off, none⟩ ∧ ∀ j, j < l.length → w.cell? ⟨b, off + j, none⟩ = some (.int .i64 (l.getD j 0)) := by
  obtain ⟨ad, rfl, hc⟩ := (reads_of h).2.2 hl
  have h0 := hc 0 hl
  have e0 : ad.add 0 = ad := rfl
  rw [e0] at h0
  obtain ⟨b, off, sp⟩ := ad
  have hs : sp = none := by
    cases sp with
    | none => rfl
    | some q =>
      exfalso
      unfold World.cell? at h0
      simp only [Option.isSome_some, if_true] at h0
      split at h0 <;> cases h0
  subst hs
  exact ⟨b, off, rfl, fun j hj => by have := hc j hj; rwa [Addr.add_mid] at this⟩
set_option maxHeartbeats 8000000 in
set_option maxRecDepth 100000 in
theorem in_calls (W : World) (g : Nat) (A : Option Addr) (c : Nat) (l : List Int) (x : Int) (hb : W.heap[g]? = some (.cells #[.slice A l.length c] 24 (0, 0))) (hl : Kd.C kI W A l.length l) (hs : l.Pairwise (· < ·)) (hbig : l.length < 4611686018427387904) :
    Calls Try.prog 54 #[.int .i64 x, .pointer (some ⟨g, 0, none⟩)] W fun e w' => e = .returned (.bool (decide (x ∈ l))) ∧ Below W.heap.size W w' := by
  have k0 : W.cell? ⟨g, 0, none⟩ = some (.slice A l.length c) := by rw [blk_cell hb]; rfl
  have hn := (reads_of hl).2.1
  have HBS := Aside0.mk (show Calls Try.prog 55 #[.slice A l.length c, .int .i64 x] W fun e w' => ∃ m : Nat, e = .returned (.tuple #[.int .i64 (m : Int), .bool (decide (x ∈ l))]) ∧ Below W.heap.size W w' by
    rcases Nat.eq_zero_or_pos l.length with h0 | h0
    · obtain rfl : l = [] := List.eq_nil_of_length_eq_zero h0
      refine (Try.slices_BinarySearch_int_empty A c x W).mono ?_
      rintro e w' ⟨rfl, rfl⟩
      exact ⟨0, by simp, Below.refl _ _⟩
    · obtain ⟨b, off, rfl, hc⟩ := spot_none hl h0
      refine (Try.slices_BinarySearch_int b off l.length c l x W (Nat.le_refl _) hbig hc (by rw [List.take_length]; exact hs.imp (fun {a b} h => by omega))).mono ?_
      rintro e w' ⟨rfl, n, rfl⟩
      have hcx : l.contains x = decide (x ∈ l) := by
        rw [Bool.eq_iff_iff]
        simp
      exact ⟨l.countP (fun z => decide (z < x)), by rw [List.take_length, hcx], pw_below_drewN (Below.refl _ _) n⟩)
  clear hb hl hs
  go_enter Try.func54, Try.ntmps54
  go_wp2_with fail
  refine HBS.out.mono ?_
  rintro e w1 ⟨m, rfl, hb1⟩
  have HB1 := Aside0.mk hb1
  clear hb1 HBS
  go_wp2
  go_ret
  exact ⟨rfl, HB1.out⟩
end Go.Proofs.Ytginlhengebgaaa.Ck
namespace Go.Proofs.Ytginlhengebgaaa.Ck
open Go Go.RowKit Go.Maps Go.Proofs.YtginlhengebgaaaW Go.Proofs.YtginlhengebgaaaW.PrintWords Go.Proofs.YtginlhengebgaaaW.PrintLast Go.Proofs.YtginlhengebgaaaW.PrintMore Go.Proofs.Ytginlhengebgaaa.PLockupEither Go.Proofs.Ytginlhengebgaaa.Bs Go.Proofs.Ytginlhengebgaaa.RegionVal Go.Proofs.Ytginlhengebgaaa.Lk
open Go.Lib hiding intOf
set_option linter.unusedVariables false
set_option linter.unusedSimpArgs false
section
variable {P : Program} {L : List Oper} {S : World → Prop} {a0 : Act} {K : List (Nat × Value) → Prop} {env : List (Nat × Value)} {rest : List Oper} {d : Nat} {T : TypeId} {pos : String} {after : Array Edge} {g : Option (Nat × Bool)}
/-- a load whose run is told -/
theorem st_load {t : TypeId} {x : Operand} {vx v : Value} (hg : want L a0 env g = some true) (hx : rdo a0 env x = some vx)
    (hr : ∀ w, S w → Sem.run P (Instr.loadAt t vx) w = .ok v w) (h : SeqOk P L.toArray S a0 K rest ((d, v) :: env)) : SeqOk P L.toArray S a0 K (⟨some d, .load t x, T, pos, after, g⟩ :: rest) env :=
  st_gen hg (fun w hw => by
    simp only [execOp, ev_of hx, Sem.run_bind]
    rw [hr w hw]
    rfl) h
end
theorem ldE {w : World} {g : Nat} {cs : List Value} {x : CE} (hx : x.In cs) (hb : w.heap[g]? = some (.cells cs.toArray 41 (0, 0))) : Sem.run Try.prog (Instr.loadAt 41 (.pointer (some ⟨g, 0, none⟩))) w = .ok (.agg cs.toArray) w := by
  have hcells : (loadCells (⟨g, 0, none⟩ : Addr) cs.length).run Try.prog w = .ok cs.toArray w :=
    run_loadCells_list (P := Try.prog) w ⟨g, 0, none⟩ cs (fun j v hv => by
      rw [Addr.add_mid, blk_cell hb]
      simpa using hv)
  have hs : (sizeOf 41).run Try.prog w = .ok cs.length w := by
    cases hq : Try.prog.info? 41 with
    | none => have := info41; simp [hq] at this
    | some q => have h2 : q.size = 12 := by have := info41; simpa [hq] using this
                simp [sizeOf, typeInfo, hq, h2, hx.1]
  simp [Instr.loadAt, Instr.sureAddr, loadVar, Sem.run_bind, Try.isAgg41, hs]
  rw [hx.1] at hcells
  rw [hcells]
  rfl
theorem ev_t {w : World} {g : Nat} {cs : List Value} {x : CE} (hx : x.In cs) (hb : w.heap[g]? = some (.cells cs.toArray 41 (0, 0))) : Sem.run Try.prog (Instr.loadAt 3 (.pointer (some ⟨g, 2, none⟩))) w = .ok (.int .i64 x.t) w :=
  evl2 ⟨cs.toArray, hb, by simpa using hx⟩
set_option maxHeartbeats 16000000 in
set_option maxRecDepth 100000 in
theorem All_calls (w : World) (A : Option Addr) (c : Nat) (l : List CE) (T : Int) (hr : Kd.C kC w A l.length l) (hc : l.length ≤ c) :
    Calls Try.prog 24 #[.slice A l.length c, .int .i64 T] w fun e w' => ∃ v, e = .returned (.tuple #[v, .int .i64 (chkF l T)]) ∧ (chkF l T = 0 → ∃ E, IsE l E ∧ Kd.R k32 32 w' w.heap.size (fun _ => True) v (racesF l T.toNat E)) ∧ (chkF l T ≠ 0 → v = .slice none 0 0) ∧ Below w.heap.size w w' := by
  have HR := Aside0.mk hr
  clear hr
  by_cases hq : chkF l T = 0
  · obtain ⟨hl, th, hT, hth, ht⟩ := chk_ok hq
    subst hT
    have HQ := Aside0.mk hq
    have HP := Aside0.mk (Of_calls w A c l (th : Int) HR.out hc)
    rw [HQ.out] at HP
    have HT := Aside0.mk ht
    clear hq ht
    go_enter Try.func24, Try.ntmps24
    go_wp2_with fail
    refine HP.out.mono ?_
    rintro e w4 ⟨v, rfl, hv, hb4⟩
    obtain ⟨g0, E, rfl, hE, hCK⟩ := hv trivial
    have HE := Aside0.mk hE
    have HCK := Aside0.mk (show CK w4 g0 th (rowsF l th E l.length) from hCK)
    have HB4 := Aside0.mk hb4
    have HR4 := Aside0.mk (Kd.C_below HR.out hb4)
    have HRL := Aside0.mk (rowsF_len l th E l.length)
    clear hv hE hCK hb4 HP HR
    go_wp2_with fail
    go_loopw [8, 24] (fun v8 v24 wr => ∃ j : Nat, v24 = .int .i64 (j : Int) ∧ j ≤ l.length ∧ Aside0 (Kd.R k32 32 wr w4.heap.size (fun _ => True) v8 (rcUp l th E j)) ∧ Aside0 (Below w4.heap.size w4 wr)) (fun _ v24 _ => l.length - (intOf v24).toNat)
    case atStart => exact ⟨0, rfl, Nat.zero_le _, ⟨Kd.R_nil _ _ _ _ _⟩, ⟨Below.refl _ _⟩⟩
    case round =>
      obtain ⟨j, rfl, hj, HO, HB⟩ := hrel
      by_cases hlj : j < l.length
      · have hlj1 : (j : Int) < (l.length : Int) := by omega
        have hj200 : j < 200 := by omega
        have hjc : (j : Int) ≤ (c : Int) := by omega
        obtain ⟨ad, hA⟩ : ∃ ad, A = some ad := by
          obtain ⟨ad, h, _⟩ := HR4.out.2.2 (show 0 < l.length by omega)
          exact ⟨ad, h⟩
        subst hA
        obtain ⟨y, hy⟩ : ∃ y, y = l[j] := ⟨_, rfl⟩
        obtain ⟨ds, hds, hld⟩ := C_loadC (Kd.C_below HR4.out HB.out) j hlj
        rw [← hy] at hds
        have HDS := Aside0.mk hds
        have HL := Aside0.mk hld
        have HYT := Aside0.mk (show 0 ≤ y.t ∧ y.t < (th : Int) from HT.out y (by rw [hy]; exact List.getElem_mem hlj))
        have HYJ := Aside0.mk (show l.getD j zC = y by rw [hy]; simp [List.getD_eq_getElem?_getD, hlj])
        clear hy hds hld
        go_wp2_with (first
          | ((with_reducible refine gate_dst (N := 28) rfl ?_); refine wpl_load (v := .agg ds.toArray) rfl rfl rfl HL.out ?_)
          | ((with_reducible refine gate_dst (N := 10) rfl ?_); refine box_event ?hg (N := 10) ?hd (cs := zc41) (t := 41) ?hr ?_; (case hd => rfl); (case hg => rfl); (case hr => go_simp; rfl); intro gb hgx w1 hbox hb; have HGX := Aside0.mk hgx; have HBX := Aside0.mk hbox; have HBW := Aside0.mk hb; clear hbox hb hgx)
          | ((with_reducible refine gate_store (t := 41) (p := 10) rfl ?_); obtain ⟨w2, hrun, hk2, hbel⟩ := fresh_storeC HBX.out rfl HDS.out; refine wpl_store rfl rfl rfl rfl rfl hrun ?_; have HK2 := Aside0.mk hk2; have HBW2 := Aside0.mk (hbel wr.heap.size wr (by rw [HGX.out]; exact Nat.le_refl _) HBW.out); clear hrun hk2 hbel)
          | fail)
        have HO2 := Aside0.mk (Kd.R_below HO.out HBW2.out)
        have HB2 := Aside0.mk (below_then HB.out HB.out.size HBW2.out)
        have HG4 := Aside0.mk (show w4.heap.size ≤ gb by have h1 := HGX.out; have h2 := HB.out.size; omega)
        have HAP := Aside0.mk (show u8.ownBlock ≠ some gb from by obtain ⟨inner, ho⟩ := Kd.R_own HO.out; exact Lk.own_blk (k := gb) ho (by rw [HGX.out]; exact Nat.le_refl _))
        clear HO HB HBW HBW2 HBX HGX HL
        go_loopw [8, 33] (fun v8 v33 wr => ∃ i : Nat, v33 = .int .i64 (i : Int) ∧ i ≤ j ∧ Aside0 (Kd.R k32 32 wr w4.heap.size (fun _ => True) v8 (rcUp l th E j ++ rcRow l th E j i)) ∧ Aside0 (wr.heap[gb]? = some (.cells ds.toArray 41 (0, 0))) ∧ Aside0 (Below w4.heap.size w4 wr)) (fun _ v33 _ => j - (intOf v33).toNat)
        case atStart => exact ⟨0, rfl, Nat.zero_le _, ⟨by simpa [rcRow] using HO2.out⟩, HK2, HB2⟩
        case round =>
          clear HO2 HK2 HB2 HAP
          obtain ⟨i, rfl, hi, HO, HKB, HB⟩ := hrel
          by_cases hlt : i < j
          · have hlt1 : (i : Int) < (j : Int) := by omega
            have hi200 : i < 200 := by omega
            have hil : i < l.length := by omega
            obtain ⟨x, hx⟩ : ∃ x, x = l[i] := ⟨_, rfl⟩
            obtain ⟨cs, hcs, hld⟩ := C_loadC (Kd.C_below HR4.out HB.out) i hil
            rw [← hx] at hcs
            have HCS := Aside0.mk hcs
            have HL := Aside0.mk hld
            have hxt : 0 ≤ x.t ∧ x.t < (th : Int) := HT.out x (by rw [hx]; exact List.getElem_mem hil)
            have HXJ := Aside0.mk (show l.getD i zC = x by rw [hx]; simp [List.getD_eq_getElem?_getD, hil])
            obtain ⟨tn, htn⟩ : ∃ tn : Nat, (tn : Int) = x.t := ⟨x.t.toNat, by omega⟩
            have htn2 : tn < th := by omega
            have htn3 : (tn : Int) < (th : Int) := by omega
            have HTN := Aside0.mk htn
            have hi1 : (i : Int) < (l.length : Int) := by omega
            obtain ⟨a, ha⟩ : ∃ a, a = cl l th E i tn := ⟨_, rfl⟩
            obtain ⟨b, hb⟩ : ∃ b, b = cl l th E j tn := ⟨_, rfl⟩
            have HRB := Aside0.mk (show rcB l th E i j = (meetF x y && decide (b < a)) by
              unfold rcB thr
              rw [HXJ.out, HYJ.out, ← HTN.out, Int.toNat_natCast, ha, hb])
            have HCA := Aside0.mk (show ∀ w', Below w4.heap.size w4 w' → w'.cell? ⟨g0, i, none⟩ = some (slot g0 th i) ∧ w'.cell? ⟨g0, j, none⟩ = some (slot g0 th j) ∧ w'.cell? ⟨g0 + 1 + i, tn, none⟩ = some (.int .i64 a) ∧ w'.cell? ⟨g0 + 1 + j, tn, none⟩ = some (.int .i64 b) from fun w' hw => by
              have h := HCK.out.below hw
              refine ⟨h.cellT (by rw [HRL.out]; exact hil), h.cellT (by rw [HRL.out]; exact hlj), ?_, ?_⟩
              · rw [ha, ← cl_of hil]; exact h.get (by rw [HRL.out]; exact hil) htn2
              · rw [hb, ← cl_of hlj]; exact h.get (by rw [HRL.out]; exact hlj) htn2)
            clear hx hcs hld hxt htn ha hb
            go_wp2_with (first
              | ((with_reducible refine gate_dst (N := 37) rfl ?_); refine wpl_load (v := .agg cs.toArray) rfl rfl rfl HL.out ?_)
              | ((with_reducible refine gate_dst (N := 12) rfl ?_); refine box_event ?hg (N := 12) ?hd (cs := zc41) (t := 41) ?hr ?_; (case hd => rfl); (case hg => rfl); (case hr => go_simp; rfl); intro ga hgx w1 hbox hb; have HGX := Aside0.mk hgx; have HBX := Aside0.mk hbox; have HBW := Aside0.mk hb; clear hbox hb hgx)
              | ((with_reducible refine gate_store (t := 41) (p := 12) rfl ?_); obtain ⟨w2, hrun, hk2, hbel⟩ := fresh_storeC HBX.out rfl HCS.out; refine wpl_store rfl rfl rfl rfl rfl hrun ?_; have HK2 := Aside0.mk hk2; have HBW2 := Aside0.mk (hbel wr.heap.size wr (by rw [HGX.out]; exact Nat.le_refl _) HBW.out); clear hrun hk2 hbel)
              | fail)
            have HO2 := Aside0.mk (Kd.R_below HO.out HBW2.out)
            have HB2 := Aside0.mk (below_then HB.out HB.out.size HBW2.out)
            have HKB2 := Aside0.mk (blk_below HKB.out HBW2.out)
            clear HO HB HKB HBW HBW2 HBX HL
            obtain ⟨m, hm⟩ : ∃ m, m = meetF x y := ⟨_, rfl⟩
            have HM := Aside0.mk hm
            have HMC := Aside0.mk (show ∀ w', (Below w2.heap.size w2 w' ∧ w'.heap[ga]? = some (.cells cs.toArray 41 (0, 0)) ∧ w'.heap[gb]? = some (.cells ds.toArray 41 (0, 0))) → Calls Try.prog 42 #[.agg cs.toArray, .agg ds.toArray] w' fun e w'' => e = .returned (.bool m) ∧ (Below w2.heap.size w2 w'' ∧ w''.heap[ga]? = some (.cells cs.toArray 41 (0, 0)) ∧ w''.heap[gb]? = some (.cells ds.toArray 41 (0, 0))) from fun w' hw => by
              refine (meet_calls w' x y cs ds HCS.out HDS.out).mono ?_
              rintro e w'' ⟨rfl, hbb⟩
              exact ⟨by rw [HM.out], below_then hw.1 hw.1.size hbb, blk_below hw.2.1 hbb, blk_below hw.2.2 hbb⟩)
            rw [← hm] at HRB
            clear hm
            have hS0 : Below w2.heap.size w2 w2.drew ∧ w2.drew.heap[ga]? = some (.cells cs.toArray 41 (0, 0)) ∧ w2.drew.heap[gb]? = some (.cells ds.toArray 41 (0, 0)) := ⟨below_drew1 (Below.refl _ _), HK2.out, HKB2.out⟩
            have HBT := Aside0.mk (show ∀ w', Below w2.heap.size w2 w' → Below w4.heap.size w4 w' from fun w' h => below_then HB2.out HB2.out.size h)
            go_wp2_with fail
            cases m with
            | false =>
              have HRW := Aside0.mk (show rcRow l th E j (i + 1) = rcRow l th E j i by rw [rcRow_succ, HRB.out]; simp)
              refine wp_val (S := fun w' => Below w2.heap.size w2 w' ∧ w'.heap[ga]? = some (.cells cs.toArray 41 (0, 0)) ∧ w'.heap[gb]? = some (.cells ds.toArray 41 (0, 0))) (by kernel_rfl) (by kernel_rfl) hS0 ?_
              repeat (first
                | refine st_skip rfl ?_
                | refine st_move rfl rfl ?_
                | refine st_assign rfl rfl ?_
                | refine st_pickT rfl rfl rfl ?_
                | refine st_pickF rfl rfl rfl ?_
                | refine st_call (vs := [.agg cs.toArray, .agg ds.toArray]) rfl Try.func42 rfl rfl (by kernel_rfl) (fun w' hw => HMC.out w' hw) ?_
                | refine st_bin rfl rfl rfl (fun w' hw => by go_simp; rfl) ?_
                | refine st_indexAddr rfl rfl rfl (fun w' hw => by go_simp; rfl) ?_
                | refine st_un rfl rfl rfl rfl (fun w' hw => by go_simp; rfl) ?_
                | refine st_builtin rfl rfl (fun w' hw => by go_simp; rfl) ?_
                | refine st_slice rfl rfl rfl rfl rfl (fun w' hw => by go_simp; rfl) ?_
                | refine st_load (v := .agg cs.toArray) rfl rfl (fun w' hw => ldE HCS.out hw.2.1) ?_
                | refine st_load (v := .agg ds.toArray) rfl rfl (fun w' hw => ldE HDS.out hw.2.2) ?_)
              intro w6 hw6
              have HO6 := Aside0.mk (show Kd.R k32 32 w6 w4.heap.size (fun _ => True) u8 (rcUp l th E j ++ rcRow l th E j (i + 1)) by rw [HRW.out]; exact Kd.R_below HO2.out hw6.1)
              have HKB6 := Aside0.mk hw6.2.2
              have HB6 := Aside0.mk (HBT.out w6 hw6.1)
              clear hw6 hS0
              simp only [puts, Act.put, List.setIfInBounds_toArray, List.set_cons_zero, List.set_cons_succ]
              go_wp2
              go_roundw
              case rel => exact ⟨i + 1, by go_num, hlt, HO6, HKB6, HB6⟩
              case measure => simp [intOf]; omega
            | true =>
              rw [Bool.true_and] at HRB
              refine wp_val (S := fun w' => Below w2.heap.size w2 w' ∧ w'.heap[ga]? = some (.cells cs.toArray 41 (0, 0)) ∧ w'.heap[gb]? = some (.cells ds.toArray 41 (0, 0))) (by kernel_rfl) (by kernel_rfl) hS0 ?_
              repeat (first
                | refine st_indexAddr (vx := .slice (some ⟨g0, 0, none⟩) l.length l.length) (vy := .int .i64 (i : Int)) (v := .pointer (some ⟨g0, i, none⟩)) rfl rfl rfl (fun w' hw => by go_simp) ?_
                | refine st_indexAddr (vx := .slice (some ⟨g0, 0, none⟩) l.length l.length) (vy := .int .i64 (j : Int)) (v := .pointer (some ⟨g0, j, none⟩)) rfl rfl rfl (fun w' hw => by go_simp) ?_
                | refine st_indexAddr (vx := .slice (some ⟨g0 + 1 + i, 0, none⟩) th th) (v := .pointer (some ⟨g0 + 1 + i, tn, none⟩)) rfl rfl rfl (fun w' hw => by go_simp) ?_
                | refine st_indexAddr (vx := .slice (some ⟨g0 + 1 + j, 0, none⟩) th th) (v := .pointer (some ⟨g0 + 1 + j, tn, none⟩)) rfl rfl rfl (fun w' hw => by go_simp) ?_
                | refine st_skip rfl ?_
                | refine st_move rfl rfl ?_
                | refine st_assign rfl rfl ?_
                | refine st_pickT rfl rfl rfl ?_
                | refine st_pickF rfl rfl rfl ?_
                | refine st_call (vs := [.agg cs.toArray, .agg ds.toArray]) rfl Try.func42 rfl rfl (by kernel_rfl) (fun w' hw => HMC.out w' hw) ?_
                | refine st_bin rfl rfl rfl (fun w' hw => by go_simp; rfl) ?_
                | refine st_indexAddr rfl rfl rfl (fun w' hw => by go_simp; rfl) ?_
                | refine st_un rfl rfl rfl rfl (fun w' hw => by go_simp; rfl) ?_
                | refine st_builtin rfl rfl (fun w' hw => by go_simp; rfl) ?_
                | refine st_slice rfl rfl rfl rfl rfl (fun w' hw => by go_simp; rfl) ?_
                | refine st_load (v := .agg cs.toArray) rfl rfl (fun w' hw => ldE HCS.out hw.2.1) ?_
                | refine st_load (v := .agg ds.toArray) rfl rfl (fun w' hw => ldE HDS.out hw.2.2) ?_
                | refine st_load (v := .slice (some ⟨g0 + 1 + i, 0, none⟩) th th) rfl rfl (fun w' hw => ldT (HCA.out w' (HBT.out w' hw.1)).1) ?_
                | refine st_load (v := .slice (some ⟨g0 + 1 + j, 0, none⟩) th th) rfl rfl (fun w' hw => ldT (HCA.out w' (HBT.out w' hw.1)).2.1) ?_
                | refine st_load (v := .int .i64 a) rfl rfl (fun w' hw => ldR (HCA.out w' (HBT.out w' hw.1)).2.2.1) ?_
                | refine st_load (v := .int .i64 b) rfl rfl (fun w' hw => ldR (HCA.out w' (HBT.out w' hw.1)).2.2.2) ?_
                | refine st_load (v := .int .i64 (tn : Int)) rfl rfl (fun w' hw => by rw [HTN.out]; exact ev_t HCS.out hw.2.1) ?_)
              intro w6 hw6
              have HO6 := Aside0.mk (Kd.R_below HO2.out hw6.1)
              have HKB6 := Aside0.mk hw6.2.2
              have HB6 := Aside0.mk (HBT.out w6 hw6.1)
              clear hw6 hS0
              simp only [puts, Act.put, List.setIfInBounds_toArray, List.set_cons_zero, List.set_cons_succ]
              cases hba : decide (b < a) with
              | false =>
                have HRW := Aside0.mk (show rcRow l th E j (i + 1) = rcRow l th E j i by rw [rcRow_succ, HRB.out, hba]; simp)
                have HO7 := Aside0.mk (show Kd.R k32 32 w6 w4.heap.size (fun _ => True) u8 (rcUp l th E j ++ rcRow l th E j (i + 1)) by rw [HRW.out]; exact HO6.out)
                have hba2 : ¬ (b < a) := of_decide_eq_false hba
                have hba3 : a ≤ b := by omega
                go_wp2
                go_roundw
                case rel => exact ⟨i + 1, by go_num, hlt, HO7, HKB6, HB6⟩
                case measure => simp [intOf]; omega
              | true =>
                have HRW := Aside0.mk (show rcUp l th E j ++ rcRow l th E j (i + 1) = (rcUp l th E j ++ rcRow l th E j i) ++ [⟨(i : Int), (j : Int)⟩] by rw [rcRow_succ, HRB.out, hba, if_pos rfl, List.append_assoc])
                have hba2 : b < a := of_decide_eq_true hba
                have HL16 := Aside0.mk (show ((rcUp l th E j ++ rcRow l th E j i).length + 1) * 16 ≤ 140737488355328 by
                  have h1 := rcUp_len l th E j
                  have h2 := rcRow_len l th E j i
                  have h3 : j * j ≤ 200 * 200 := Nat.mul_le_mul (by omega) (by omega)
                  rw [List.length_append]
                  omega)
                have HSZ := Aside0.mk HB6.out.size
                go_wp2_with (first
                  | (at_builtin; refine Kd.R_append_rows k32 (w0 := w6) w4.heap.size rfl _ _ 28 32 (.agg #[.int .i64 0, .int .i64 0]) 16 rfl Try.underlying28 info32z rfl (by decide) (by omega) _ (rcUp l th E j ++ rcRow l th E j i) [⟨(i : Int), (j : Int)⟩] _ 1 1 (fun _ => True) (fun _ => False) rfl rfl (Kd.R_alloc HO6.out _) (C_one32 (heap_alloc_new _ _)) (fun x cs h => by obtain rfl := k32_open h; exact k32_mkM _ _ _ x) (fun _ h => h.elim) (fun _ _ => trivial) (Below.alloc (Below.refl w4.heap.size w6) HSZ.out _) (Nat.le_trans HSZ.out (below_alloc (Below.refl _ _) _).size) HL16.out ?_; intro v1 w7 hown hB hg hat; have HO7 := Aside0.mk hown; have HB7 := Aside0.mk hB; have HG7 := Aside0.mk hg; clear hown hB hg hat)
                  | fail)
                have HO8 := Aside0.mk (show Kd.R k32 32 w7 w4.heap.size (fun _ => True) v1 (rcUp l th E j ++ rcRow l th E j (i + 1)) by rw [HRW.out]; exact HO7.out)
                have HKB8 := Aside0.mk (show w7.heap[gb]? = some (.cells ds.toArray 41 (0, 0)) by
                  have h1 := blk_alloc HKB6.out (.cells #[.int .i64 (i : Int), .int .i64 (j : Int)] 32)
                  refine (HG7.out.block gb (Array.getElem?_eq_some_iff.1 h1).1 (fun e => ?_)).trans h1
                  obtain ⟨inner, ho⟩ := Kd.R_own (Kd.R_alloc HO6.out (.cells #[.int .i64 (i : Int), .int .i64 (j : Int)] 32))
                  obtain ⟨c1, k1⟩ := own_type ho gb e.symm
                  rw [k1] at h1
                  injection h1 with h1
                  injection h1 with _ h1
                  exact absurd h1 (by decide))
                have HB8 := Aside0.mk (Below.trans HB6.out HB7.out)
                clear HO6 HO7 HKB6 HB6 HB7 HG7 hba hba2
                go_roundw
                case rel => exact ⟨i + 1, by go_num, hlt, HO8, HKB8, HB8⟩
                case measure => simp [intOf]; omega
          · have HO9 := Aside0.mk (show Kd.R k32 32 wr w4.heap.size (fun _ => True) u8 (rcUp l th E (j + 1)) by
              have h := HO.out
              rw [show i = j by omega] at h
              rw [rcUp_succ]
              exact h)
            clear HO
            go_wp2
            go_roundw
            case rel => exact ⟨j + 1, by go_num, hlj, HO9, HB⟩
            case measure => simp [intOf]; omega
      · have HO9 := Aside0.mk (show Kd.R k32 32 wr w.heap.size (fun _ => True) u8 (racesF l th E) by
          have h := HO.out
          rw [show j = l.length by omega] at h
          exact Kd.R_lower h HB4.out.size)
        clear HO
        go_wp2
        exact bodyPost_ret (v := .tuple #[u8, .int .i64 0]) (by simp [results, Try.f24, go_sem]) rfl ⟨u8, by rw [HQ.out], fun _ => ⟨E, HE.out, HO9.out⟩, fun h => absurd HQ.out h, below_then HB4.out HB4.out.size HB.out⟩
  · have HQ := Aside0.mk hq
    have HP := Aside0.mk (Of_calls w A c l T HR.out hc)
    obtain ⟨q, hqq⟩ : ∃ q, q = chkF l T := ⟨_, rfl⟩
    have HQQ := Aside0.mk hqq
    rw [← hqq] at HP hq ⊢
    have d1 : (q != 0) = true := bne_iff_ne.2 hq
    have d2 : (q == 0) = false := beq_eq_false_iff_ne.2 hq
    clear hqq hq
    go_enter Try.func24, Try.ntmps24
    go_wp2_with fail
    refine HP.out.mono ?_
    rintro e w1 ⟨v, rfl, _, hb1⟩
    have HB1 := Aside0.mk hb1
    clear hb1 HP
    go_wp2
    exact bodyPost_ret (v := .tuple #[.slice none 0 0, .int .i64 q]) (by simp [results, Try.f24, go_sem]) rfl ⟨_, rfl, fun h => absurd (HQQ.out.symm.trans h) HQ.out, fun _ => rfl, HB1.out⟩
end Go.Proofs.Ytginlhengebgaaa.Ck
namespace Go.Proofs.Ytginlhengebgaaa.Ck
open Go Go.RowKit Go.Maps Go.Proofs.YtginlhengebgaaaW Go.Proofs.YtginlhengebgaaaW.PrintWords Go.Proofs.YtginlhengebgaaaW.PrintLast Go.Proofs.YtginlhengebgaaaW.PrintMore Go.Proofs.Ytginlhengebgaaa.PLockupEither Go.Proofs.Ytginlhengebgaaa.Bs Go.Proofs.Ytginlhengebgaaa.RegionVal Go.Proofs.Ytginlhengebgaaa.Lk
open Go.Lib hiding intOf
set_option linter.unusedVariables false
set_option linter.unusedSimpArgs false
/-- what the closures of closed hold: the list in gb, the asking function in gf -/
structure ClW (w : World) (gb gf : Nat) (A : Option Addr) (c : Nat) (l : List Int) : Prop where
  box : w.heap[gb]? = some (.cells #[.slice A l.length c] 24 (0, 0))
  fn : w.heap[gf]? = some (.cells #[.func (.func 54) #[] #[.pointer (some ⟨gb, 0, none⟩)]] 65 (0, 0))
  rd : Kd.C kI w A l.length l
theorem ClW.below {w w' : World} {gb gf : Nat} {A : Option Addr} {c : Nat} {l : List Int} (h : ClW w gb gf A c l) (hb : Below w.heap.size w w') : ClW w' gb gf A c l :=
  ⟨blk_below h.box hb, blk_below h.fn hb, Kd.C_below h.rd hb⟩
def outB (l : List Int) (p : S32) : Bool := decide (p.f1 ∈ l) && !decide (p.f0 ∈ l)
set_option maxHeartbeats 8000000 in
set_option maxRecDepth 100000 in
theorem out_calls (W : World) (gb gf : Nat) (A : Option Addr) (c : Nat) (l : List Int) (p : S32) (h : ClW W gb gf A c l) (hs : l.Pairwise (· < ·)) (hbig : l.length < 4611686018427387904) :
    Calls Try.prog 57 #[.agg #[.int .i64 p.f0, .int .i64 p.f1], .pointer (some ⟨gf, 0, none⟩)] W fun e w' => e = .returned (.bool (outB l p)) ∧ Below W.heap.size W w' := by
  obtain ⟨x, y⟩ := p
  have eg : ∀ args w, (callFunc 54 args).run Try.prog w = .ok (.enter 54 args) w := fun args w => enters_ Try.func54 (by kernel_rfl) rfl args w
  have HS := Aside0.mk hs
  have hg := heap_alloc_new W (.cells #[.int .i64 x, .int .i64 y] 32)
  have HC := Aside0.mk (h.below (below_alloc (Below.refl _ _) (.cells #[.int .i64 x, .int .i64 y] 32)))
  have HB := Aside0.mk (below_alloc (Below.refl W.heap.size W) (.cells #[.int .i64 x, .int .i64 y] 32))
  have HOB := Aside0.mk (show outB l ⟨x, y⟩ = (decide (y ∈ l) && !decide (x ∈ l)) from rfl)
  clear h hs
  go_enter Try.func57, Try.ntmps57
  go_upto_region 1 with (fail)
  obtain ⟨gp, hgp⟩ : ∃ gp, gp = W.heap.size := ⟨_, rfl⟩
  rw [← hgp] at hg ⊢
  generalize W.alloc (.cells #[.int .i64 x, .int .i64 y] 32) = W1 at hg HC HB ⊢
  clear hgp
  have HG := Aside0.mk hg
  have p0 : W1.cell? ⟨gp, 0, none⟩ = some (.int .i64 x) := by rw [blk_cell hg]; rfl
  have p1 : W1.cell? ⟨gp, 1, none⟩ = some (.int .i64 y) := by rw [blk_cell hg]; rfl
  have kf : W1.cell? ⟨gf, 0, none⟩ = some (.func (.func 54) #[] #[.pointer (some ⟨gb, 0, none⟩)]) := by rw [blk_cell HC.out.fn]; rfl
  clear hg
  go_wp2_with fail
  refine (in_calls W1 gb A c l y HC.out.box HC.out.rd HS.out hbig).mono ?_
  rintro e w2 ⟨rfl, hb2⟩
  have HC2 := Aside0.mk (HC.out.below hb2)
  have HG2 := Aside0.mk (blk_below HG.out hb2)
  have HB2 := Aside0.mk (below_then HB.out HB.out.size hb2)
  clear hb2 HC HG HB p0 p1 kf
  cases hy : decide (y ∈ l) with
  | false =>
    have HX := Aside0.mk (show outB l ⟨x, y⟩ = false by rw [HOB.out, hy]; rfl)
    clear hy
    go_wp2
    go_ret
    exact ⟨by rw [HX.out]; rfl, HB2.out⟩
  | true =>
    have HX := Aside0.mk (show outB l ⟨x, y⟩ = !decide (x ∈ l) by rw [HOB.out, hy]; rfl)
    have p0 : w2.cell? ⟨gp, 0, none⟩ = some (.int .i64 x) := by rw [blk_cell HG2.out]; rfl
    have kf : w2.cell? ⟨gf, 0, none⟩ = some (.func (.func 54) #[] #[.pointer (some ⟨gb, 0, none⟩)]) := by rw [blk_cell HC2.out.fn]; rfl
    clear hy
    go_wp2_with fail
    refine (in_calls w2 gb A c l x HC2.out.box HC2.out.rd HS.out hbig).mono ?_
    rintro e w3 ⟨rfl, hb3⟩
    have HB3 := Aside0.mk (below_then HB2.out HB2.out.size hb3)
    clear hb3
    generalize decide (x ∈ l) = q at HX ⊢
    go_wp2
    go_ret
    exact ⟨by rw [HX.out]; rfl, HB3.out⟩
def idxP (p : S32 → Bool) (xs : List S32) : Int := match xs.findIdx? p with
  | some k => (k : Int)
  | none => -1
theorem idxP_any (p : S32 → Bool) (xs : List S32) : decide (0 ≤ idxP p xs) = xs.any p := by
  unfold idxP
  cases h : xs.findIdx? p with
  | some k =>
    obtain ⟨hk, h1, _⟩ := List.findIdx?_eq_some_iff_getElem.1 h
    have : xs.any p = true := List.any_eq_true.2 ⟨_, List.getElem_mem hk, h1⟩
    rw [this]
    simp
  | none =>
    have h1 := List.findIdx?_eq_none_iff.1 h
    have : xs.any p = false := List.any_eq_false.2 (fun x hx => by simp [h1 x hx])
    rw [this]
    rfl
theorem idxP_at {p : S32 → Bool} {xs : List S32} {k : Nat} (hk : k < xs.length) (h1 : p xs[k] = true) (h0 : ∀ j (hj : j < k), p (xs[j]'(by omega)) = false) : idxP p xs = (k : Int) := by
  unfold idxP
  rw [List.findIdx?_eq_some_iff_getElem.2 ⟨hk, h1, fun j hj => by simp [h0 j hj]⟩]
theorem idxP_none {p : S32 → Bool} {xs : List S32} (h0 : ∀ j (hj : j < xs.length), p xs[j] = false) : idxP p xs = -1 := by
  unfold idxP
  rw [List.findIdx?_eq_none_iff.2 (fun x hx => by
    obtain ⟨j, hj, rfl⟩ := List.getElem_of_mem hx
    exact h0 j hj)]
set_option maxHeartbeats 8000000 in
set_option maxRecDepth 100000 in
theorem indexP_calls (w : World) (B : Option Addr) (d : Nat) (xs : List S32) (gb gf : Nat) (A : Option Addr) (c : Nat) (l : List Int) (hr : Kd.C k32 w B xs.length xs) (hd : xs.length ≤ d) (h : ClW w gb gf A c l) (hs : l.Pairwise (· < ·)) (hbig : l.length < 4611686018427387904) :
    Calls Try.prog 76 #[.slice B xs.length d, .func (.func 57) #[] #[.pointer (some ⟨gf, 0, none⟩)]] w fun e w' => e = .returned (.int .i64 (idxP (outB l) xs)) ∧ Below w.heap.size w w' := by
  have hn : xs.length ≤ 9223372036854775807 := hr.2.1
  have HR := Aside0.mk hr
  have HC := Aside0.mk h
  have HS := Aside0.mk hs
  have eg : ∀ args w, (callFunc 57 args).run Try.prog w = .ok (.enter 57 args) w := fun args w => enters_ Try.func57 (by kernel_rfl) rfl args w
  clear hr h hs
  go_enter Try.func76, Try.ntmps76
  go_wp2_with fail
  go_loopw [8] (fun i wr => ∃ k : Nat, k ≤ xs.length ∧ i = .int .i64 (k : Int) ∧ Aside0 (∀ j (hj : j < k) (hj' : j < xs.length), outB l xs[j] = false) ∧ Aside0 (Below w.heap.size w wr)) (fun i _ => xs.length - (intOf i).toNat)
  case atStart => exact ⟨0, Nat.zero_le _, rfl, ⟨fun j hj => absurd hj (by omega)⟩, ⟨Below.refl _ _⟩⟩
  case round =>
    obtain ⟨k, hk, rfl, HP, HB⟩ := hrel
    by_cases hlt : k < xs.length
    · have hk1 : (k : Int) < (xs.length : Int) := by omega
      obtain ⟨ad, rfl, k0, k1⟩ := at32 (Kd.C_below HR.out HB.out) k hlt
      have HO := Aside0.mk (out_calls wr gb gf A c l xs[k] (HC.out.below HB.out) HS.out hbig)
      obtain ⟨z, hz⟩ : ∃ z, z = xs[k] := ⟨_, rfl⟩
      rw [← hz] at HO k0 k1
      have HZ := Aside0.mk hz
      obtain ⟨x, y⟩ := z
      simp only at k0 k1 HO
      clear hz
      go_wp2_with fail
      refine HO.out.mono ?_
      rintro e w2 ⟨rfl, hb⟩
      have HB2 := Aside0.mk (below_then HB.out HB.out.size hb)
      clear hb
      cases hp : outB l ⟨x, y⟩ with
      | true =>
        have HX := Aside0.mk (show idxP (outB l) xs = (k : Int) from idxP_at hlt (by rw [← HZ.out]; exact hp) (fun j hj => HP.out j hj (by omega)))
        clear hp
        go_wp2
        go_ret
        exact ⟨by rw [HX.out]; rfl, HB2.out⟩
      | false =>
        have HX := Aside0.mk hp
        clear hp
        go_wp2
        go_roundw
        case rel => exact ⟨k + 1, by omega, by go_num, ⟨fun j hj hj' => by
          by_cases e : j = k
          · subst e; rw [← HZ.out]; exact HX.out
          · exact HP.out j (by omega) hj'⟩, HB2⟩
        case measure => simp [intOf]; omega
    · have hk' : k = xs.length := by omega
      subst hk'
      have HX := Aside0.mk (show idxP (outB l) xs = -1 from idxP_none (fun j hj => HP.out j hj hj))
      go_wp2
      go_ret
      exact ⟨by rw [HX.out]; rfl, HB.out⟩
set_option maxHeartbeats 8000000 in
set_option maxRecDepth 100000 in
theorem containsP_calls (w : World) (B : Option Addr) (d : Nat) (xs : List S32) (gb gf : Nat) (A : Option Addr) (c : Nat) (l : List Int) (hr : Kd.C k32 w B xs.length xs) (hd : xs.length ≤ d) (h : ClW w gb gf A c l) (hs : l.Pairwise (· < ·)) (hbig : l.length < 4611686018427387904) :
    Calls Try.prog 56 #[.slice B xs.length d, .func (.func 57) #[] #[.pointer (some ⟨gf, 0, none⟩)]] w fun e w' => e = .returned (.bool (xs.any (outB l))) ∧ Below w.heap.size w w' := by
  have HI := Aside0.mk (indexP_calls w B d xs gb gf A c l hr hd h hs hbig)
  clear hr h hs
  go_enter Try.func56, Try.ntmps56
  go_wp2_with fail
  refine HI.out.mono ?_
  rintro e w1 ⟨rfl, hb⟩
  have HB := Aside0.mk hb
  have HA := Aside0.mk (idxP_any (outB l) xs)
  clear hb HI
  generalize idxP (outB l) xs = q at HA ⊢
  go_wp2
  go_ret
  exact ⟨by rw [← HA.out]; rfl, HB.out⟩
/-- it rises, and is of places -/
def RiseM (l : List Int) (most : Int) : Prop := l.Pairwise (· < ·) ∧ ∀ x ∈ l, 0 ≤ x ∧ x < most
theorem RiseM.snoc {l : List Int} {k : Nat} {most : Int} (hk : k < l.length) (h : RiseM (l.take k) most) (h0 : 0 ≤ l[k]) (h1 : l[k] < most) (hp : ∀ (h : 0 < k), l[k - 1]'(by omega) < l[k]) : RiseM (l.take (k + 1)) most := by
  rw [List.take_succ_eq_append_getElem hk]
  refine ⟨List.pairwise_append.2 ⟨h.1, by simp, fun a ha b hb => ?_⟩, fun y hy => ?_⟩
  · rw [List.mem_singleton.1 hb]
    obtain ⟨i, hi, rfl⟩ := List.getElem_of_mem ha
    rw [List.length_take] at hi
    rw [List.getElem_take]
    have h2 := hp (by omega)
    by_cases e : i = k - 1
    · subst e; exact h2
    · have h3 := List.pairwise_iff_getElem.1 h.1 i (k - 1) (by rw [List.length_take]; omega) (by rw [List.length_take]; omega) (by omega)
      rw [List.getElem_take, List.getElem_take] at h3
      omega
  · rcases List.mem_append.1 hy with hy | hy
    · exact h.2 y hy
    · rw [List.mem_singleton.1 hy]; exact ⟨h0, h1⟩
theorem RiseM.bad {l : List Int} {k : Nat} {most : Int} (hk : k < l.length) (h : RiseM l most) : 0 ≤ l[k] ∧ l[k] < most ∧ ∀ (h : 0 < k), l[k - 1]'(by omega) < l[k] :=
  ⟨(h.2 _ (List.getElem_mem hk)).1, (h.2 _ (List.getElem_mem hk)).2, fun hp => List.pairwise_iff_getElem.1 h.1 (k - 1) k (by omega) hk (by omega)⟩
/-- what closed says -/
def ClP (l : List Int) (E : List S32) (has no most : Int) : Prop := RiseM l most ∧ has ∈ l ∧ no ∉ l ∧ E.any (outB l) = false
noncomputable def closedB (l : List Int) (E : List S32) (has no most : Int) : Bool := @decide (ClP l E has no most) (Classical.propDecidable _)
theorem closedB_true {l : List Int} {E : List S32} {has no most : Int} : closedB l E has no most = true ↔ ClP l E has no most := by
  unfold closedB
  exact @decide_eq_true_iff _ (Classical.propDecidable _)
theorem closedB_false {l : List Int} {E : List S32} {has no most : Int} (h : ¬ ClP l E has no most) : closedB l E has no most = false := by
  cases hb : closedB l E has no most with
  | false => rfl
  | true => exact absurd (closedB_true.1 hb) h
theorem rise_count : ∀ (l : List Int) (a b : Int), l.Pairwise (· < ·) → (∀ x ∈ l, a ≤ x ∧ x < b) → l.length ≤ (b - a).toNat
  | [], a, b, _, _ => Nat.zero_le _
  | x :: xs, a, b, h, hb => by
    have h1 := List.pairwise_cons.1 h
    have h2 := hb x List.mem_cons_self
    have h3 := rise_count xs (x + 1) b h1.2 (fun y hy => ⟨by have := h1.1 y hy; omega, (hb y (List.mem_cons_of_mem _ hy)).2⟩)
    rw [List.length_cons]
    omega
theorem info65 : (Try.prog.info? 65).map (·.size) = some 1 := by kernel_rfl
theorem run_storeF (w : World) (g : Nat) (f : FuncId) (cap : Array Value) (hk : w.heap[g]? = some (.cells #[.nilFunc] 65 (0, 0))) : Sem.run Try.prog (Instr.storeAt 65 (.pointer (some ⟨g, 0, none⟩)) (.func (.func f) #[] cap)) w = .ok () (w.setCell ⟨g, 0, none⟩ (.func (.func f) #[] cap)) :=
  run_store_run (P := Try.prog) 65 (.func (.func f) #[] cap) [.func (.func f) #[] cap] hk rfl info65 (by simp) (by intro q hq; obtain rfl := List.mem_singleton.1 hq; rfl)
set_option maxHeartbeats 16000000 in
set_option maxRecDepth 100000 in
theorem closed_calls (w : World) (A : Option Addr) (c : Nat) (l : List Int) (B : Option Addr) (d : Nat) (E : List S32) (has no most : Int) (hl : Kd.C kI w A l.length l) (hc : l.length ≤ c) (hE : Kd.C k32 w B E.length E) (hd : E.length ≤ d) (hmb : most < 4611686018427387904) :
    Calls Try.prog 43 #[.slice A l.length c, .slice B E.length d, .int .i64 has, .int .i64 no, .int .i64 most] w fun e w' => e = .returned (.bool (closedB l E has no most)) ∧ Below w.heap.size w w' := by
  have HBX := Aside0.mk (heap_alloc_new w (.cells #[.slice A l.length c] 24))
  have HLR := Aside0.mk (Kd.C_below hl (below_alloc (Below.refl w.heap.size w) (.cells #[.slice A l.length c] 24)))
  have HER := Aside0.mk (Kd.C_below hE (below_alloc (Below.refl w.heap.size w) (.cells #[.slice A l.length c] 24)))
  have HB := Aside0.mk (below_alloc (Below.refl w.heap.size w) (.cells #[.slice A l.length c] 24))
  clear hl hE
  go_enter Try.func43, Try.ntmps43
  go_upto_region 1 with (fail)
  obtain ⟨gb, hgb⟩ : ∃ gb, gb = w.heap.size := ⟨_, rfl⟩
  rw [← hgb] at HBX ⊢
  generalize w.alloc (.cells #[.slice A l.length c] 24) = W1 at HBX HLR HER HB ⊢
  clear hgb
  have kb : W1.cell? ⟨gb, 0, none⟩ = some (.slice A l.length c) := by rw [blk_cell HBX.out]; rfl
  go_wp2_with fail
  have hn := (reads_of HLR.out).2.1
  go_loopw [16] (fun v16 wr => ∃ k : Nat, v16 = .int .i64 (k : Int) ∧ k ≤ l.length ∧ Aside0 (RiseM (l.take k) most) ∧ Aside0 (Below W1.heap.size W1 wr)) (fun v16 _ => l.length - (intOf v16).toNat)
  case atStart => exact ⟨0, rfl, Nat.zero_le _, ⟨⟨List.Pairwise.nil, fun x hx => (by cases hx)⟩⟩, ⟨Below.refl _ _⟩⟩
  case round =>
    clear kb
    obtain ⟨k, rfl, hk, HRI, HBW⟩ := hrel
    have HB2 := Aside0.mk (below_then HB.out HB.out.size HBW.out)
    have HBX2 := Aside0.mk (blk_below HBX.out HBW.out)
    have kb : wr.cell? ⟨gb, 0, none⟩ = some (.slice A l.length c) := by rw [blk_cell HBX2.out]; rfl
    by_cases hlt : k < l.length
    · have hlt1 : (k : Int) < (l.length : Int) := by omega
      obtain ⟨ad, hA, hcl⟩ := (reads_of (Kd.C_below HLR.out HBW.out)).2.2 (by omega)
      subst hA
      obtain ⟨z, hz⟩ : ∃ z, z = l[k] := ⟨_, rfl⟩
      have kz : wr.cell? (ad.add k) = some (.int .i64 z) := by
        have h := hcl k hlt
        rw [hz]
        simpa [List.getD_eq_getElem?_getD, hlt] using h
      have HNO := Aside0.mk (fun (h : ClP l E has no most) => RiseM.bad hlt h.1)
      rw [← hz] at HNO
      by_cases h0 : z < 0
      · have HBAD := Aside0.mk (show ¬ ClP l E has no most from fun h => by have := (HNO.out h).1; omega)
        clear hcl hz
        go_wp2
        exact bodyPost_ret (v := .bool false) (by simp [results, Try.f43, go_sem]) rfl ⟨by rw [closedB_false HBAD.out], HB2.out⟩
      · by_cases h1 : most ≤ z
        · have HBAD := Aside0.mk (show ¬ ClP l E has no most from fun h => by have := (HNO.out h).2.1; omega)
          clear hcl hz
          go_wp2
          exact bodyPost_ret (v := .bool false) (by simp [results, Try.f43, go_sem]) rfl ⟨by rw [closedB_false HBAD.out], HB2.out⟩
        · have h1' : z < most := by omega
          rcases Nat.eq_zero_or_pos k with hk0 | hk0
          · have HR1 := Aside0.mk (RiseM.snoc hlt HRI.out (by rw [← hz]; omega) (by rw [← hz]; exact h1') (fun h => by omega))
            have hk00 : ¬ (0 : Int) < (k : Int) := by omega
            clear hcl hz HNO hk0
            go_wp2
            go_roundw
            case rel => exact ⟨k + 1, by go_num, hlt, HR1, HBW⟩
            case measure => simp [intOf]; omega
          · obtain ⟨q, hq⟩ : ∃ q, k = q + 1 := ⟨k - 1, by omega⟩
            have hq1 : q < l.length := by omega
            obtain ⟨u, hu⟩ : ∃ u, u = l[q] := ⟨_, rfl⟩
            have hu2 : ∀ (h : 0 < k), l[k - 1]'(by omega) = u := fun h => by
              rw [hu]
              congr 1
              omega
            have kq : wr.cell? (ad.add q) = some (.int .i64 u) := by
              have h := hcl q hq1
              rw [hu]
              simpa [List.getD_eq_getElem?_getD, hq1] using h
            have hk01 : (0 : Int) < (k : Int) := by omega
            have hwq : IntKind.i64.wrap ((k : Int) - 1) = (q : Int) := by rw [IntKind.wrap_i64]; omega
            have hq2 : (q : Int) < (l.length : Int) := by omega
            by_cases h2 : z ≤ u
            · have HBAD := Aside0.mk (show ¬ ClP l E has no most from fun h => by
                have h3 := (HNO.out h).2.2 hk0
                rw [hu2 hk0] at h3
                omega)
              clear hcl hz hu hu2 hq HNO
              go_wp2
              exact bodyPost_ret (v := .bool false) (by simp [results, Try.f43, go_sem]) rfl ⟨by rw [closedB_false HBAD.out], HB2.out⟩
            · have HR1 := Aside0.mk (RiseM.snoc hlt HRI.out (by rw [← hz]; omega) (by rw [← hz]; exact h1') (fun h => by rw [hu2 h, ← hz]; omega))
              have h2' : u < z := by omega
              clear hcl hz hu hu2 hq HNO
              go_wp2
              go_roundw
              case rel => exact ⟨k + 1, by go_num, hlt, HR1, HBW⟩
              case measure => simp [intOf]; omega
    · have HRA := Aside0.mk (show RiseM l most by
        have h := HRI.out
        rw [List.take_of_length_le (by omega)] at h
        exact h)
      have hbig : l.length < 4611686018427387904 := by
        have h1 := rise_count l 0 most HRA.out.1 HRA.out.2
        omega
      have HLW := Aside0.mk (Kd.C_below HLR.out HBW.out)
      have HEW := Aside0.mk (Kd.C_below HER.out HBW.out)
      have HCP := Aside0.mk (show ClP l E has no most ↔ (decide (has ∈ l) && !decide (no ∈ l) && !E.any (outB l)) = true by
        unfold ClP
        rw [Bool.and_eq_true, Bool.and_eq_true, decide_eq_true_iff, Bool.not_eq_true', decide_eq_false_iff_not, Bool.not_eq_true']
        exact ⟨fun h => ⟨⟨h.2.1, h.2.2.1⟩, h.2.2.2⟩, fun h => ⟨HRA.out, h.1.1, h.1.2, h.2⟩⟩)
      have eg : ∀ args w, (callFunc 54 args).run Try.prog w = .ok (.enter 54 args) w := fun args w => enters_ Try.func54 (by kernel_rfl) rfl args w
      clear HRI kb HB HBX
      have HNF := Aside0.mk (heap_alloc_new wr (.cells #[.nilFunc] 65))
      go_wp2_with (first
        | ((with_reducible refine gate_store (t := 65) (p := 13) rfl ?_); refine wpl_store rfl rfl rfl rfl rfl (run_storeF _ _ 54 _ HNF.out) ?_)
        | fail)
      have HCW := Aside0.mk (show ClW (wr.alloc (.cells #[.func (.func 54) #[] #[.pointer (some ⟨gb, 0, none⟩)]] 65)) gb wr.heap.size A c l from ⟨blk_alloc HBX2.out _, heap_alloc_new wr _, Kd.C_below HLW.out (below_alloc (Below.refl _ _) _)⟩)
      have HEW5 := Aside0.mk (Kd.C_below HEW.out (below_alloc (Below.refl wr.heap.size wr) (.cells #[.func (.func 54) #[] #[.pointer (some ⟨gb, 0, none⟩)]] 65)))
      have HB5 := Aside0.mk (below_then HB2.out HB2.out.size (below_alloc (Below.refl wr.heap.size wr) (.cells #[.func (.func 54) #[] #[.pointer (some ⟨gb, 0, none⟩)]] 65)))
      obtain ⟨gf, hgf⟩ : ∃ gf, gf = wr.heap.size := ⟨_, rfl⟩
      rw [← hgf] at HCW ⊢
      generalize wr.alloc (.cells #[.func (.func 54) #[] #[.pointer (some ⟨gb, 0, none⟩)]] 65) = W5 at HCW HEW5 HB5 ⊢
      clear hgf HNF HBX2 HLW HEW HB2 HBW
      refine (in_calls W5 gb A c l has HCW.out.box HCW.out.rd HRA.out.1 hbig).mono ?_
      rintro e w6 ⟨rfl, hb6⟩
      have HCW6 := Aside0.mk (HCW.out.below hb6)
      have HEW6 := Aside0.mk (Kd.C_below HEW5.out hb6)
      have HB6 := Aside0.mk (below_then HB5.out HB5.out.size hb6)
      clear hb6 HCW HEW5 HB5
      have kf : w6.cell? ⟨gf, 0, none⟩ = some (.func (.func 54) #[] #[.pointer (some ⟨gb, 0, none⟩)]) := by rw [blk_cell HCW6.out.fn]; rfl
      cases hh : decide (has ∈ l) with
      | false =>
        have HX := Aside0.mk (show closedB l E has no most = false from closedB_false (fun h => by rw [HCP.out, hh] at h; cases h))
        clear hh
        go_wp2
        exact bodyPost_ret (v := .bool false) (by simp [results, Try.f43, go_sem]) rfl ⟨by rw [HX.out], HB6.out⟩
      | true =>
        have HCQ := Aside0.mk (show ClP l E has no most ↔ (!decide (no ∈ l) && !E.any (outB l)) = true by rw [HCP.out, hh, Bool.true_and])
        clear hh HCP
        go_wp2_with fail
        refine (in_calls w6 gb A c l no HCW6.out.box HCW6.out.rd HRA.out.1 hbig).mono ?_
        rintro e w7 ⟨rfl, hb7⟩
        have HCW7 := Aside0.mk (HCW6.out.below hb7)
        have HEW7 := Aside0.mk (Kd.C_below HEW6.out hb7)
        have HB7 := Aside0.mk (below_then HB6.out HB6.out.size hb7)
        clear hb7 HCW6 HEW6 HB6 kf
        cases hh : decide (no ∈ l) with
        | true =>
          have HX := Aside0.mk (show closedB l E has no most = false from closedB_false (fun h => by rw [HCQ.out, hh] at h; cases h))
          clear hh
          go_wp2
          exact bodyPost_ret (v := .bool false) (by simp [results, Try.f43, go_sem]) rfl ⟨by rw [HX.out], HB7.out⟩
        | false =>
          have HCR := Aside0.mk (show ClP l E has no most ↔ (!E.any (outB l)) = true by rw [HCQ.out, hh]; rfl)
          clear hh HCQ
          go_wp2_with fail
          refine (containsP_calls w7 B d E gb gf A c l HEW7.out hd HCW7.out HRA.out.1 hbig).mono ?_
          rintro e w8 ⟨rfl, hb8⟩
          have HB8 := Aside0.mk (below_then HB7.out HB7.out.size hb8)
          clear hb8
          have HX := Aside0.mk (show closedB l E has no most = !E.any (outB l) by
            cases hh : !E.any (outB l) with
            | true => exact closedB_true.2 (HCR.out.2 hh)
            | false => exact closedB_false (fun h => by rw [HCR.out, hh] at h; cases h))
          generalize E.any (outB l) = q at HX ⊢
          go_wp2
          exact bodyPost_ret (v := .bool (!q)) (by simp [results, Try.f43, go_sem]) rfl ⟨by rw [HX.out], HB8.out⟩
end Go.Proofs.Ytginlhengebgaaa.Ck
