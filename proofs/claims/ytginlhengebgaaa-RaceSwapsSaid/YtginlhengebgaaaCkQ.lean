/- What was ahead of what: the edges of events, clocks by edges, and what they tell; plain Lean. Clocks: by edges, over any numbers; then the clocks that the rows hold. Plain Lean. -/
import Derived.Test.YtginlhengebgaaaLockPr
namespace Go.Proofs.Ytginlhengebgaaa.Ck
open Go Go.RowKit Go.Proofs.Ytginlhengebgaaa.PLockupEither
set_option linter.unusedVariables false
set_option linter.unusedSimpArgs false

/-- an event: of which kind, of which thread, with which A and B -/
structure CE where
  k : Int
  t : Int
  a : Int
  b : Int
def zC : CE := ⟨0, 0, 0, 0⟩
/-- what the weaver has: of a thread its last event (false), its end (true); spawns of a thread (false), frees of a lock (true); pairs -/
structure Wv where
  o : Bool → Int → Option Int
  g : Bool → Int → List Int
  out : List S32
def w0 : Wv := ⟨fun _ _ => none, fun _ _ => [], []⟩
def Wv.setO (s : Wv) (q : Bool) (x j : Int) : Wv := { s with o := fun p y => if p = q ∧ y = x then some j else s.o p y }
def Wv.setG (s : Wv) (q : Bool) (x : Int) (l : List Int) : Wv := { s with g := fun p y => if p = q ∧ y = x then l else s.g p y }
def Wv.one (s : Wv) (i j : Int) : Wv := { s with out := s.out ++ [⟨i, j⟩] }
def Wv.may (s : Wv) (q : Bool) (x j : Int) : Wv := match s.o q x with
  | some i => s.one i j
  | none => s
def Wv.all (s : Wv) (l : List Int) (j : Int) : Wv := { s with out := s.out ++ l.map (fun i => ⟨i, j⟩) }
/-- ahead of what the event's own kind does -/
def wHead (s : Wv) (j : Int) (x : CE) : Wv := (((s.may false x.t j).all (s.g false x.t) j).setG false x.t []).setO false x.t j
def wStep (s : Wv) (j : Int) (x : CE) : Wv :=
  let s1 := wHead s j x
  if x.k = 11 then s1.setG false x.a (s1.g false x.a ++ [j])
  else if x.k = 17 then s1.setO true x.t j
  else if x.k = 12 then s1.may true x.a j
  else if x.k = 14 then s1.setG true x.a (s1.g true x.a ++ [j])
  else if x.k = 13 then (s1.all (s1.g true x.a) j).setG true x.a []
  else s1
def wFold : List CE → Nat → Wv → Wv
  | [], _, s => s
  | x :: l, j, s => wFold l (j + 1) (wStep s (j : Int) x)
theorem wFold_append : ∀ (l m : List CE) (j : Nat) (s : Wv), wFold (l ++ m) j s = wFold m (j + l.length) (wFold l j s)
  | [], m, j, s => rfl
  | x :: l, m, j, s => by
    rw [List.cons_append]
    simp only [wFold]
    rw [wFold_append l m (j + 1) _, List.length_cons]
    congr 1
    omega
/-- the pairs that one event adds -/
structure Step (s s' : Wv) (j : Nat) (x : CE) : Prop where
  out : ∃ e, s'.out = s.out ++ e ∧ (∀ p ∈ e, 0 ≤ p.f0 ∧ p.f0 < (j : Int) ∧ p.f1 = (j : Int)) ∧ (∀ i, s.o false x.t = some i → (⟨i, (j : Int)⟩ : S32) ∈ e) ∧ e.length ≤ 2 * j + 2
  last : ∀ y, s'.o false y = if y = x.t then some (j : Int) else s.o false y
/-- what is told holds of events ahead of j alone -/
structure Ahead (s : Wv) (j : Nat) : Prop where
  o : ∀ q y i, s.o q y = some i → 0 ≤ i ∧ i < (j : Int)
  g : ∀ q y i, i ∈ s.g q y → 0 ≤ i ∧ i < (j : Int)
  len : ∀ q y, (s.g q y).length ≤ j
theorem ahead_head {s : Wv} {j : Nat} {x : CE} (h : Ahead s j) : Ahead (wHead s j x) (j + 1) := by
  have ho : (wHead s j x).o = fun p y => if p = false ∧ y = x.t then some (j : Int) else s.o p y := by
    unfold wHead Wv.setO Wv.setG Wv.all Wv.may
    cases s.o false x.t <;> rfl
  have hg : (wHead s j x).g = fun p y => if p = false ∧ y = x.t then [] else s.g p y := by
    unfold wHead Wv.setO Wv.setG Wv.all Wv.may
    cases s.o false x.t <;> rfl
  refine ⟨fun q y i hi => ?_, fun q y i hi => ?_, fun q y => ?_⟩
  · rw [ho] at hi
    simp only at hi
    split at hi
    · injection hi with hi; omega
    · have := h.o q y i hi; omega
  · rw [hg] at hi
    simp only at hi
    split at hi
    · cases hi
    · have := h.g q y i hi; omega
  · rw [hg]
    simp only
    split
    · simp
    · have := h.len q y; omega
theorem ahead_setO {s : Wv} {j : Nat} {q : Bool} {x : Int} (h : Ahead s (j + 1)) : Ahead (s.setO q x j) (j + 1) := by
  refine ⟨fun p y i hi => ?_, h.g, h.len⟩
  unfold Wv.setO at hi
  simp only at hi
  split at hi
  · injection hi with hi; omega
  · exact h.o p y i hi
theorem ahead_one {s : Wv} {j : Nat} {i : Int} (h : Ahead s (j + 1)) : Ahead (s.one i j) (j + 1) := ⟨h.o, h.g, h.len⟩
theorem ahead_may {s : Wv} {j : Nat} {q : Bool} {x : Int} (h : Ahead s (j + 1)) : Ahead (s.may q x j) (j + 1) := by
  unfold Wv.may
  split
  · exact ahead_one h
  · exact h
theorem ahead_all {s : Wv} {j : Nat} {l : List Int} (h : Ahead s (j + 1)) : Ahead (s.all l j) (j + 1) := ⟨h.o, h.g, h.len⟩
theorem ahead_setG {s : Wv} {j : Nat} {q : Bool} {x : Int} {l : List Int} (h : Ahead s (j + 1)) (hl : ∀ i ∈ l, 0 ≤ i ∧ i < ((j + 1 : Nat) : Int)) (hn : l.length ≤ j + 1) : Ahead (s.setG q x l) (j + 1) := by
  refine ⟨h.o, fun p y i hi => ?_, fun p y => ?_⟩
  · unfold Wv.setG at hi
    simp only at hi
    split at hi
    · exact hl i hi
    · exact h.g p y i hi
  · unfold Wv.setG
    simp only
    split
    · exact hn
    · exact h.len p y
theorem head_g {s : Wv} {j : Nat} {x : CE} (h : Ahead s j) (q : Bool) (y : Int) : (∀ i ∈ (wHead s j x).g q y, 0 ≤ i ∧ i < (j : Int)) ∧ ((wHead s j x).g q y).length ≤ j ∧ (∀ (p : Bool) z i, (wHead s j x).o true z = some i → 0 ≤ i ∧ i < (j : Int)) := by
  have ho : (wHead s j x).o = fun p y => if p = false ∧ y = x.t then some (j : Int) else s.o p y := by
    unfold wHead Wv.setO Wv.setG Wv.all Wv.may
    cases s.o false x.t <;> rfl
  have hg : (wHead s j x).g = fun p y => if p = false ∧ y = x.t then [] else s.g p y := by
    unfold wHead Wv.setO Wv.setG Wv.all Wv.may
    cases s.o false x.t <;> rfl
  refine ⟨fun i hi => ?_, ?_, fun p z i hi => ?_⟩
  · rw [hg] at hi
    simp only at hi
    split at hi
    · cases hi
    · exact h.g q y i hi
  · rw [hg]
    simp only
    split
    · simp
    · exact h.len q y
  · rw [ho] at hi
    simp only at hi
    split at hi
    · rename_i hc; exact absurd hc.1 (by decide)
    · exact h.o true z i hi
theorem head_step {s : Wv} {j : Nat} {x : CE} (h : Ahead s j) : ∃ e, (wHead s j x).out = s.out ++ e ∧ (∀ p ∈ e, 0 ≤ p.f0 ∧ p.f0 < (j : Int) ∧ p.f1 = (j : Int)) ∧ (∀ i, s.o false x.t = some i → (⟨i, (j : Int)⟩ : S32) ∈ e) ∧ e.length ≤ j + 1 := by
  have hl : ∀ p ∈ (s.g false x.t).map (fun i => (⟨i, (j : Int)⟩ : S32)), 0 ≤ p.f0 ∧ p.f0 < (j : Int) ∧ p.f1 = (j : Int) := fun p hp => by
    obtain ⟨i, hi, rfl⟩ := List.mem_map.1 hp
    have := h.g false x.t i hi
    exact ⟨this.1, this.2, rfl⟩
  cases ho : s.o false x.t with
  | none =>
    refine ⟨(s.g false x.t).map (fun i => ⟨i, (j : Int)⟩), ?_, hl, fun i hi => (by cases hi), by rw [List.length_map]; have := h.len false x.t; omega⟩
    unfold wHead Wv.setO Wv.setG Wv.all Wv.may
    rw [ho]
  | some i =>
    refine ⟨⟨i, (j : Int)⟩ :: (s.g false x.t).map (fun i => ⟨i, (j : Int)⟩), ?_, fun p hp => ?_, fun i' hi' => ?_, by rw [List.length_cons, List.length_map]; have := h.len false x.t; omega⟩
    · unfold wHead Wv.setO Wv.setG Wv.all Wv.may
      rw [ho]
      simp [Wv.one]
    · rcases List.mem_cons.1 hp with rfl | hp
      · have := h.o false x.t i ho
        exact ⟨this.1, this.2, rfl⟩
      · exact hl p hp
    · injection hi' with hi'
      subst hi'
      exact List.mem_cons_self
theorem step_law {s : Wv} {j : Nat} (x : CE) (h : Ahead s j) : Step s (wStep s j x) j x ∧ Ahead (wStep s j x) (j + 1) := by
  have ha := ahead_head (x := x) h
  obtain ⟨e, he, hp, hm, hn⟩ := head_step (x := x) h
  have hL : ∀ y, (wHead s j x).o false y = if y = x.t then some (j : Int) else s.o false y := fun y => by
    unfold wHead Wv.setO Wv.setG Wv.all Wv.may
    cases s.o false x.t <;> simp [Wv.one]
  have hG := fun q y => head_g (x := x) h q y
  have hE : ∀ s', s'.out = (wHead s j x).out → (∀ y, s'.o false y = (wHead s j x).o false y) → Step s s' j x := fun s' h1 h2 => ⟨⟨e, h1.trans he, hp, hm, by omega⟩, fun y => (h2 y).trans (hL y)⟩
  have hE2 : ∀ s' e', s'.out = (wHead s j x).out ++ e' → (∀ p ∈ e', 0 ≤ p.f0 ∧ p.f0 < (j : Int) ∧ p.f1 = (j : Int)) → e'.length ≤ j + 1 → (∀ y, s'.o false y = (wHead s j x).o false y) → Step s s' j x := fun s' e' h1 h2 h3 h4 =>
    ⟨⟨e ++ e', by rw [h1, he, List.append_assoc], fun p hq => (List.mem_append.1 hq).elim (hp p) (h2 p), fun i hi => List.mem_append.2 (.inl (hm i hi)), by rw [List.length_append]; omega⟩, fun y => (h4 y).trans (hL y)⟩
  unfold wStep
  simp only
  split
  · refine ⟨hE _ rfl (fun _ => rfl), ahead_setG ha (fun i hi => ?_) ?_⟩
    · rcases List.mem_append.1 hi with hi | hi
      · have := (hG false x.a).1 i hi; omega
      · rw [List.mem_singleton.1 hi]; omega
    · rw [List.length_append]
      have := (hG false x.a).2.1
      show _ + 1 ≤ _
      omega
  · split
    · refine ⟨hE _ rfl (fun y => ?_), ahead_setO ha⟩
      unfold Wv.setO
      simp
    · split
      · refine ⟨?_, ahead_may ha⟩
        unfold Wv.may
        cases ho : (wHead s j x).o true x.a with
        | none => exact hE _ rfl (fun _ => rfl)
        | some i =>
          refine hE2 _ [⟨i, (j : Int)⟩] rfl (fun p hq => ?_) (by simp) (fun _ => rfl)
          rw [List.mem_singleton.1 hq]
          have := (hG true x.a).2.2 true x.a i ho
          exact ⟨this.1, this.2, rfl⟩
      · split
        · refine ⟨hE _ rfl (fun _ => rfl), ahead_setG ha (fun i hi => ?_) ?_⟩
          · rcases List.mem_append.1 hi with hi | hi
            · have := (hG true x.a).1 i hi; omega
            · rw [List.mem_singleton.1 hi]; omega
          · rw [List.length_append]
            have := (hG true x.a).2.1
            show _ + 1 ≤ _
            omega
        · split
          · refine ⟨hE2 _ _ rfl (fun p hq => ?_) ?_ (fun _ => rfl), ahead_setG (ahead_all ha) (fun i hi => (by cases hi)) (by simp)⟩
            · obtain ⟨i, hi, rfl⟩ := List.mem_map.1 hq
              have := (hG true x.a).1 i hi
              exact ⟨this.1, this.2, rfl⟩
            · rw [List.length_map]
              have := (hG true x.a).2.1
              omega
          · exact ⟨hE _ rfl (fun _ => rfl), ha⟩
theorem snoc_ind {α : Type} {P : List α → Prop} (h0 : P []) (hs : ∀ l x, P l → P (l ++ [x])) (l : List α) : P l := by
  have h : ∀ m : List α, P m.reverse := by
    intro m
    induction m with
    | nil => exact h0
    | cons x m ih => rw [List.reverse_cons]; exact hs _ _ ih
  have h1 := h l.reverse
  rwa [List.reverse_reverse] at h1
/-- all pairs, as they come -/
def raw (l : List CE) : List S32 := (wFold l 0 w0).out
theorem raw_snoc (l : List CE) (x : CE) : wFold (l ++ [x]) 0 w0 = wStep (wFold l 0 w0) (l.length : Int) x := by
  rw [wFold_append, Nat.zero_add]
  rfl
/-- the last event of that thread, ahead of all -/
def lastOf (l : List CE) (t : Int) : Option Int := (wFold l 0 w0).o false t
theorem fold_law (l : List CE) : Ahead (wFold l 0 w0) l.length ∧ (raw l).length ≤ l.length * (2 * l.length + 2) ∧ (∀ p ∈ raw l, 0 ≤ p.f0 ∧ p.f0 < p.f1 ∧ p.f1 < (l.length : Int)) := by
  refine snoc_ind (P := fun l => Ahead (wFold l 0 w0) l.length ∧ (raw l).length ≤ l.length * (2 * l.length + 2) ∧ (∀ p ∈ raw l, 0 ≤ p.f0 ∧ p.f0 < p.f1 ∧ p.f1 < (l.length : Int))) ?_ ?_ l
  · exact ⟨⟨fun q y i h => (by cases h), fun q y i h => (by cases h), fun q y => by simp [wFold, w0]⟩, by simp [raw, wFold, w0], fun p hp => (by cases hp)⟩
  · intro l x ih
    obtain ⟨h1, h2, h3⟩ := ih
    obtain ⟨hs, ha⟩ := step_law x h1
    obtain ⟨e, he, hp, _, hn⟩ := hs.out
    rw [raw_snoc]
    have hr : raw (l ++ [x]) = raw l ++ e := by unfold raw; rw [raw_snoc]; exact he
    refine ⟨by rw [List.length_append]; exact ha, ?_, fun p hq => ?_⟩
    · rw [hr, List.length_append, List.length_append]
      have h4 : l.length * (2 * l.length + 2) + (2 * l.length + 2) ≤ (l.length + [x].length) * (2 * (l.length + [x].length) + 2) := by
        show _ ≤ (l.length + 1) * (2 * (l.length + 1) + 2)
        rw [← Nat.succ_mul]
        exact Nat.mul_le_mul_left _ (by omega)
      omega
    · rw [hr] at hq
      rw [List.length_append]
      rcases List.mem_append.1 hq with hq | hq
      · have := h3 p hq
        refine ⟨this.1, this.2.1, ?_⟩
        show _ < ((l.length + 1 : Nat) : Int)
        omega
      · have := hp p hq
        refine ⟨this.1, ?_, ?_⟩
        · omega
        · show _ < ((l.length + 1 : Nat) : Int)
          omega
/-- what the last event of a thread is -/
theorem last_law (l : List CE) (t : Int) : (∀ i, (wFold l 0 w0).o false t = some i → ∃ e : Nat, i = (e : Int) ∧ e < l.length ∧ (l.getD e zC).t = t ∧ ∀ d, d < l.length → (l.getD d zC).t = t → d ≤ e) ∧ ((wFold l 0 w0).o false t = none → ∀ d, d < l.length → (l.getD d zC).t ≠ t) := by
  refine snoc_ind (P := fun l => (∀ i, (wFold l 0 w0).o false t = some i → ∃ e : Nat, i = (e : Int) ∧ e < l.length ∧ (l.getD e zC).t = t ∧ ∀ d, d < l.length → (l.getD d zC).t = t → d ≤ e) ∧ ((wFold l 0 w0).o false t = none → ∀ d, d < l.length → (l.getD d zC).t ≠ t)) ?_ ?_ l
  · exact ⟨fun i h => (by cases h), fun _ d hd => absurd hd (by simp)⟩
  · intro l x ih
    obtain ⟨h1, h2⟩ := ih
    have hl := (step_law x (fold_law l).1).1.last t
    rw [raw_snoc, hl]
    have hlen : (l ++ [x]).length = l.length + 1 := by simp
    have g1 : ∀ d, d < l.length → (l ++ [x]).getD d zC = l.getD d zC := fun d hd => by simp [List.getD_eq_getElem?_getD, List.getElem?_append_left hd]
    have g2 : (l ++ [x]).getD l.length zC = x := by simp [List.getD_eq_getElem?_getD]
    rw [hlen]
    by_cases hx : t = x.t
    · rw [if_pos hx]
      refine ⟨fun i hi => ?_, fun h => (by cases h)⟩
      injection hi with hi
      exact ⟨l.length, hi.symm, by omega, by rw [g2]; exact hx.symm, fun d hd _ => by omega⟩
    · rw [if_neg hx]
      refine ⟨fun i hi => ?_, fun hn d hd => ?_⟩
      · obtain ⟨e, he, hel, het, hem⟩ := h1 i hi
        refine ⟨e, he, by omega, by rw [g1 e hel]; exact het, fun d hd hdt => ?_⟩
        rcases Nat.lt_or_ge d l.length with h | h
        · exact hem d h (by rwa [g1 d h] at hdt)
        · obtain rfl : d = l.length := by omega
          rw [g2] at hdt
          exact absurd hdt.symm hx
      · rcases Nat.lt_or_ge d l.length with h | h
        · rw [g1 d h]; exact h2 hn d h
        · obtain rfl : d = l.length := by omega
          rw [g2]
          exact fun e => hx e.symm
theorem raw_prefix (l m : List CE) : ∃ e, raw (l ++ m) = raw l ++ e ∧ ∀ p ∈ e, (l.length : Int) ≤ p.f1 := by
  refine snoc_ind (P := fun m => ∃ e, raw (l ++ m) = raw l ++ e ∧ ∀ p ∈ e, (l.length : Int) ≤ p.f1) ⟨[], by simp, fun p hp => (by cases hp)⟩ ?_ m
  intro m x ⟨e, h1, h2⟩
  obtain ⟨e', k1, k2, _⟩ := (step_law x (fold_law (l ++ m)).1).1.out
  refine ⟨e ++ e', ?_, fun p hp => ?_⟩
  · rw [← List.append_assoc l m [x], ← List.append_assoc, ← h1]
    unfold raw
    rw [raw_snoc]
    exact k1
  · rcases List.mem_append.1 hp with hp | hp
    · exact h2 p hp
    · rw [(k2 p hp).2.2, List.length_append]
      omega
/-- from the last one of the same thread a pair leads here -/
theorem raw_prog (l : List CE) (j e : Nat) (hj : j < l.length) (he : e < j) (ht : (l.getD e zC).t = (l.getD j zC).t) : ∃ i : Nat, e ≤ i ∧ i < j ∧ (l.getD i zC).t = (l.getD j zC).t ∧ (⟨(i : Int), (j : Int)⟩ : S32) ∈ raw l := by
  have hs : l = l.take j ++ [l[j]] ++ l.drop (j + 1) := by
    rw [← List.take_succ_eq_append_getElem hj, List.take_append_drop]
  have hx : l.getD j zC = l[j] := by simp [List.getD_eq_getElem?_getD, hj]
  have htl : (l.take j).length = j := by rw [List.length_take]; omega
  have hg : ∀ d, d < j → (l.take j).getD d zC = l.getD d zC := fun d hd => by simp [List.getD_eq_getElem?_getD, List.getElem?_take, hd]
  obtain ⟨k1, k2⟩ := last_law (l.take j) (l[j]).t
  have hst := (step_law (l[j]) (fold_law (l.take j)).1).1.out
  rw [htl] at hst k1 k2
  obtain ⟨ex, m1, m2, m3, _⟩ := hst
  cases ho : (wFold (l.take j) 0 w0).o false (l[j]).t with
  | none => exact absurd (by rw [hg e he, ht, hx]) (k2 ho e he)
  | some i =>
    obtain ⟨d, rfl, hd, hdt, hdm⟩ := k1 i ho
    rw [hg d hd] at hdt
    refine ⟨d, hdm e he (by rw [hg e he, ht, hx]), hd, by rw [hdt, hx], ?_⟩
    obtain ⟨e2, n1, _⟩ := raw_prefix (l.take j ++ [l[j]]) (l.drop (j + 1))
    rw [← hs] at n1
    rw [n1]
    refine List.mem_append.2 (.inl ?_)
    unfold raw
    rw [raw_snoc, htl, m1]
    exact List.mem_append.2 (.inr (m3 _ ho))
end Go.Proofs.Ytginlhengebgaaa.Ck
namespace Go.Proofs.Ytginlhengebgaaa.Ck
open Go Go.RowKit Go.Proofs.Ytginlhengebgaaa.PLockupEither
set_option linter.unusedVariables false
set_option linter.unusedSimpArgs false

/-- clocks by edges -/
structure Clk (n th : Nat) (T : Nat → Nat) (Ed : Nat → Nat → Prop) (c : Nat → Nat → Int) : Prop where
  thr : ∀ j, j < n → T j < th
  lt : ∀ i j, Ed i j → i < j ∧ j < n
  prog : ∀ j e, j < n → e < j → T e = T j → ∃ i, e ≤ i ∧ T i = T j ∧ Ed i j
  up : ∀ i j t, Ed i j → t < th → c i t + (if t = T j then 1 else 0) ≤ c j t
  is : ∀ j t, j < n → t < th → c j t = (if t = T j then 1 else 0) ∨ ∃ i, Ed i j ∧ c j t = c i t + (if t = T j then 1 else 0)
/-- how many of that thread there are ahead of m -/
def cnt (T : Nat → Nat) (t : Nat) : Nat → Int
  | 0 => 0
  | m + 1 => cnt T t m + (if T m = t then 1 else 0)
theorem cnt_mono (T : Nat → Nat) (t : Nat) {a b : Nat} (h : a ≤ b) : cnt T t a ≤ cnt T t b := by
  induction b with
  | zero => obtain rfl : a = 0 := by omega
            exact Int.le_refl _
  | succ b ih =>
    rcases Nat.lt_or_ge b a with h1 | h1
    · obtain rfl : a = b + 1 := by omega
      exact Int.le_refl _
    · have := ih h1
      show _ ≤ cnt T t b + _
      split <;> omega
theorem cnt_nonneg (T : Nat → Nat) (t a : Nat) : 0 ≤ cnt T t a := cnt_mono T t (Nat.zero_le a)
theorem cnt_gap (T : Nat → Nat) (t : Nat) : ∀ {a b : Nat}, a ≤ b → (∀ d, a ≤ d → d < b → T d ≠ t) → cnt T t b = cnt T t a
  | a, 0, h, _ => by obtain rfl : a = 0 := by omega
                     rfl
  | a, b + 1, h, hd => by
    rcases Nat.lt_or_ge b a with h1 | h1
    · obtain rfl : a = b + 1 := by omega
      rfl
    · show cnt T t b + _ = _
      rw [if_neg (hd b h1 (by omega)), cnt_gap T t h1 (fun d h2 h3 => hd d h2 (by omega))]
      omega
variable {n th : Nat} {T : Nat → Nat} {Ed : Nat → Nat → Prop} {c : Nat → Nat → Int}
structure Good (th : Nat) (T : Nat → Nat) (c : Nat → Nat → Int) (j : Nat) : Prop where
  lo : ∀ t, t < th → 0 ≤ c j t ∧ c j t ≤ cnt T t (j + 1)
  own : c j (T j) = cnt T (T j) (j + 1)
  back : ∀ e, e ≤ j → T e = T j → ∀ t, t < th → c e t ≤ c j t
  src : ∀ t, t < th → 1 ≤ c j t → ∃ e, e ≤ j ∧ T e = t ∧ c e t = c j t ∧ ∀ u, u < th → c e u ≤ c j u
theorem Clk.good (h : Clk n th T Ed c) : ∀ j, j < n → Good th T c j := by
  intro j
  induction j using Nat.strongRecOn with
  | _ j ih =>
    intro hj
    have hup : ∀ i t, Ed i j → t < th → c i t ≤ c j t := fun i t hi ht => by
      have := h.up i j t hi ht
      split at this <;> omega
    have hg : ∀ i, Ed i j → Good th T c i := fun i hi => ih i (h.lt i j hi).1 (by have := h.lt i j hi; omega)
    have hlo : ∀ t, t < th → 0 ≤ c j t ∧ c j t ≤ cnt T t (j + 1) := fun t ht => by
      have hs : cnt T t (j + 1) = cnt T t j + (if T j = t then 1 else 0) := rfl
      have hn := cnt_nonneg T t j
      rcases h.is j t hj ht with h1 | ⟨i, hi, h1⟩
      · rw [h1, hs]
        by_cases hc : t = T j
        · rw [if_pos hc, if_pos hc.symm]; omega
        · rw [if_neg hc, if_neg (fun e => hc e.symm)]; omega
      · have h2 := (hg i hi).lo t ht
        have h3 := cnt_mono T t (show i + 1 ≤ j by have := (h.lt i j hi).1; omega)
        rw [h1, hs]
        by_cases hc : t = T j
        · rw [if_pos hc, if_pos hc.symm]; omega
        · rw [if_neg hc, if_neg (fun e => hc e.symm)]; omega
    have hown : c j (T j) = cnt T (T j) (j + 1) := by
      have hle := (hlo (T j) (h.thr j hj)).2
      refine Int.le_antisymm hle ?_
      have hs : cnt T (T j) (j + 1) = cnt T (T j) j + 1 := by
        show cnt T (T j) j + _ = _
        rw [if_pos rfl]
      rw [hs]
      by_cases hp : ∃ e, e < j ∧ T e = T j
      · -- the last one of the same thread
        have hlast : ∃ e, e < j ∧ T e = T j ∧ ∀ d, e < d → d < j → T d ≠ T j := by
          have aux : ∀ k e, j - e ≤ k → e < j → T e = T j → ∃ e, e < j ∧ T e = T j ∧ ∀ d, e < d → d < j → T d ≠ T j := by
            intro k
            induction k with
            | zero => intro e h1 h2; omega
            | succ k ihk =>
              intro e h1 h2 h3
              by_cases hd : ∃ d, e < d ∧ d < j ∧ T d = T j
              · obtain ⟨d, d1, d2, d3⟩ := hd
                exact ihk d (by omega) d2 d3
              · exact ⟨e, h2, h3, fun d d1 d2 d3 => hd ⟨d, d1, d2, d3⟩⟩
          obtain ⟨e, h1, h2⟩ := hp
          exact aux j e (by omega) h1 h2
        obtain ⟨e, he, het, hd⟩ := hlast
        obtain ⟨i, hei, hit, hed⟩ := h.prog j e hj he het
        have hij := (h.lt i j hed).1
        have hie : i = e := by
          rcases Nat.lt_or_ge e i with hlt | hge
          · exact absurd hit (hd i hlt hij)
          · omega
        subst hie
        have h1 := h.up i j (T j) hed (h.thr j hj)
        rw [if_pos rfl] at h1
        have h2 := (hg i hed).own
        rw [hit] at h2
        have h3 : cnt T (T j) j = cnt T (T j) (i + 1) := cnt_gap T (T j) (by omega) (fun d h4 h5 => hd d (by omega) h5)
        omega
      · have h0 : cnt T (T j) j = 0 := by
          rw [cnt_gap T (T j) (Nat.zero_le j) (fun d _ h5 h6 => hp ⟨d, h5, h6⟩)]
          rfl
        rw [h0]
        rcases h.is j (T j) hj (h.thr j hj) with h1 | ⟨i, hi, h1⟩
        · rw [h1, if_pos rfl]; omega
        · rw [h1, if_pos rfl]
          have := ((hg i hi).lo (T j) (h.thr j hj)).1
          omega
    refine ⟨hlo, hown, fun e he het t ht => ?_, fun t ht h1 => ?_⟩
    · rcases Nat.lt_or_ge e j with hlt | hge
      · obtain ⟨i, hei, hit, hed⟩ := h.prog j e hj hlt het
        have := (hg i hed).back e hei (het.trans hit.symm) t ht
        have := hup i t hed ht
        omega
      · obtain rfl : e = j := by omega
        exact Int.le_refl _
    · by_cases hc : t = T j
      · subst hc
        exact ⟨j, Nat.le_refl _, rfl, rfl, fun _ _ => Int.le_refl _⟩
      · rcases h.is j t hj ht with h2 | ⟨i, hi, h2⟩
        · rw [if_neg hc] at h2; omega
        · rw [if_neg hc, Int.add_zero] at h2
          obtain ⟨e, h3, h4, h5, h6⟩ := (hg i hi).src t ht (by omega)
          refine ⟨e, by have := (h.lt i j hi).1; omega, h4, by omega, fun u hu => ?_⟩
          have := h6 u hu
          have := hup i u hi hu
          omega
theorem Clk.src (h : Clk n th T Ed c) {i j : Nat} (hi : i < n) (hj : j < n) (hc : c i (T i) ≤ c j (T i)) : ∃ e, i ≤ e ∧ e ≤ j ∧ T e = T i ∧ ∀ u, u < th → c e u ≤ c j u := by
  have gi := h.good i hi
  have gj := h.good j hj
  have h1 : 1 ≤ c i (T i) := by
    rw [gi.own]
    have := cnt_nonneg T (T i) i
    show 1 ≤ cnt T (T i) i + _
    rw [if_pos rfl]; omega
  obtain ⟨e, e1, e2, e3, e4⟩ := gj.src (T i) (h.thr i hi) (by omega)
  refine ⟨e, ?_, e1, e2, e4⟩
  rcases Nat.lt_or_ge e i with hlt | hge
  · exfalso
    have h2 := (h.good e (by omega)).own
    rw [e2] at h2
    have h3 := cnt_mono T (T i) (show e + 1 ≤ i by omega)
    have h4 := gi.own
    have h5 : cnt T (T i) (i + 1) = cnt T (T i) i + 1 := by
      show cnt T (T i) i + _ = _
      rw [if_pos rfl]
    omega
  · exact hge
/-- by clocks as by one place of them -/
theorem Clk.paths (h : Clk n th T Ed c) {i j : Nat} (hi : i < n) (hj : j < n) : c i (T i) ≤ c j (T i) ↔ ∀ t, t < th → c i t ≤ c j t := by
  refine ⟨fun hc t ht => ?_, fun hc => hc (T i) (h.thr i hi)⟩
  obtain ⟨e, e1, e2, e3, e4⟩ := h.src hi hj hc
  have h1 := (h.good e (by omega)).back i e1 e3.symm t ht
  have h2 := e4 t ht
  omega
theorem Clk.fwd (h : Clk n th T Ed c) {i j : Nat} (hi : i < n) (hj : j < n) (hc : c i (T i) ≤ c j (T i)) : i ≤ j := by
  obtain ⟨e, e1, e2, _⟩ := h.src hi hj hc
  omega
theorem Clk.trans (h : Clk n th T Ed c) {i j k : Nat} (hi : i < n) (hj : j < n) (hk : k < n) (h1 : c i (T i) ≤ c j (T i)) (h2 : c j (T j) ≤ c k (T j)) : c i (T i) ≤ c k (T i) := by
  have h3 := (h.paths hj hk).1 h2 (T i) (h.thr i hi)
  omega
theorem Clk.edge (h : Clk n th T Ed c) {i j : Nat} (he : Ed i j) : c i (T i) ≤ c j (T i) := by
  have h1 := h.lt i j he
  have h2 := h.up i j (T i) he (h.thr i (by omega))
  split at h2 <;> omega
/-! the edges, in their order -/
def pq (x y : S32) : Prop := x.f1 < y.f1 ∨ (x.f1 = y.f1 ∧ x.f0 < y.f0)
theorem s32_ext {x y : S32} (h0 : x.f0 = y.f0) (h1 : x.f1 = y.f1) : x = y := by
  cases x; cases y; simp only at h0 h1; subst h0 h1; rfl
/-- E: the pairs of l, each once, in their order -/
def IsE (l : List CE) (E : List S32) : Prop := E.Pairwise pq ∧ ∀ p, p ∈ E ↔ p ∈ raw l
theorem uniq_pq : ∀ (a b : List S32), a.Pairwise pq → b.Pairwise pq → (∀ p, p ∈ a ↔ p ∈ b) → a = b
  | [], [], _, _, _ => rfl
  | [], y :: b, _, _, h => by have := (h y).2 List.mem_cons_self; cases this
  | x :: a, [], _, _, h => by have := (h x).1 List.mem_cons_self; cases this
  | x :: a, y :: b, ha, hb, h => by
    rw [List.pairwise_cons] at ha hb
    have hxy : x = y := by
      have h1 : y = x ∨ pq x y := by
        rcases List.mem_cons.1 ((h y).2 List.mem_cons_self) with e | e
        · exact .inl e
        · exact .inr (ha.1 y e)
      have h2 : x = y ∨ pq y x := by
        rcases List.mem_cons.1 ((h x).1 List.mem_cons_self) with e | e
        · exact .inl e
        · exact .inr (hb.1 x e)
      rcases h1 with h1 | h1
      · exact h1.symm
      · rcases h2 with h2 | h2
        · exact h2
        · exfalso
          unfold pq at h1 h2
          omega
    subst hxy
    rw [uniq_pq a b ha.2 hb.2 (fun p => ?_)]
    have hpx : ∀ {l : List S32}, (∀ q ∈ l, pq x q) → x ∉ l := fun hl hx => by
      have := hl x hx
      unfold pq at this
      omega
    constructor
    · intro hp
      rcases List.mem_cons.1 ((h p).1 (List.mem_cons_of_mem _ hp)) with rfl | e
      · exact absurd hp (hpx ha.1)
      · exact e
    · intro hp
      rcases List.mem_cons.1 ((h p).2 (List.mem_cons_of_mem _ hp)) with rfl | e
      · exact absurd hp (hpx hb.1)
      · exact e
theorem IsE.uniq {l : List CE} {a b : List S32} (ha : IsE l a) (hb : IsE l b) : a = b := uniq_pq a b ha.1 hb.1 (fun p => (ha.2 p).trans (hb.2 p).symm)
theorem IsE.bound {l : List CE} {E : List S32} (h : IsE l E) : ∀ p ∈ E, 0 ≤ p.f0 ∧ p.f0 < p.f1 ∧ p.f1 < (l.length : Int) := fun p hp => (fold_law l).2.2 p ((h.2 p).1 hp)
/-! the rows of clocks -/
def rowAt (R : List (List Int)) (i : Int) : List Int := R.getD i.toNat []
def mx (R : List (List Int)) (r : List Int) (es : List S32) : List Int := es.foldl (fun r p => List.zipWith max r (rowAt R p.f0)) r
def bump (r : List Int) (t : Nat) : List Int := r.set t (r.getD t 0 + 1)
def z0 (th : Nat) : List Int := List.replicate th 0
def at1 (E : List S32) (j : Nat) : List S32 := E.filter (fun p => decide (p.f1 = (j : Int)))
def rowsF (l : List CE) (th : Nat) (E : List S32) : Nat → List (List Int)
  | 0 => []
  | n + 1 => rowsF l th E n ++ [bump (mx (rowsF l th E n) (z0 th) (at1 E n)) (l.getD n zC).t.toNat]
theorem rowsF_len (l : List CE) (th : Nat) (E : List S32) : ∀ n, (rowsF l th E n).length = n
  | 0 => rfl
  | n + 1 => by
    show (rowsF l th E n ++ [_]).length = n + 1
    rw [List.length_append, rowsF_len l th E n]
    rfl
theorem rowsF_get (l : List CE) (th : Nat) (E : List S32) {j : Nat} : ∀ {n : Nat}, j < n → (rowsF l th E n).getD j [] = (rowsF l th E (j + 1)).getD j []
  | 0, h => absurd h (Nat.not_lt_zero _)
  | n + 1, h => by
    rcases Nat.lt_or_ge j n with h1 | h1
    · rw [← rowsF_get l th E h1]
      show (rowsF l th E n ++ [_]).getD j [] = _
      rw [List.getD_eq_getElem?_getD, List.getElem?_append_left (by rw [rowsF_len]; exact h1), ← List.getD_eq_getElem?_getD]
    · obtain rfl : j = n := by omega
      rfl
theorem rowsF_last (l : List CE) (th : Nat) (E : List S32) (j : Nat) : (rowsF l th E (j + 1)).getD j [] = bump (mx (rowsF l th E j) (z0 th) (at1 E j)) (l.getD j zC).t.toNat := by
  show (rowsF l th E j ++ [_]).getD j [] = _
  rw [List.getD_eq_getElem?_getD, List.getElem?_append_right (by rw [rowsF_len]; exact Nat.le_refl _), rowsF_len, Nat.sub_self]
  rfl
theorem mx_snoc (R : List (List Int)) (r : List Int) (es : List S32) (p : S32) : mx R r (es ++ [p]) = List.zipWith max (mx R r es) (rowAt R p.f0) := by
  unfold mx
  rw [List.foldl_append]
  rfl
/-- what each row keeps: as long as there are threads; none below 0, none above b -/
def RowB (th : Nat) (b : Int) (r : List Int) : Prop := r.length = th ∧ ∀ t, t < th → 0 ≤ r.getD t 0 ∧ r.getD t 0 ≤ b
theorem zip_get {th : Nat} {r s : List Int} (hr : r.length = th) (hs : s.length = th) (t : Nat) (ht : t < th) : (List.zipWith max r s).getD t 0 = max (r.getD t 0) (s.getD t 0) := by
  have h1 : t < r.length := by omega
  have h2 : t < s.length := by omega
  simp [List.getD_eq_getElem?_getD, List.getElem?_zipWith, h1, h2]
theorem zip_B {th : Nat} {b : Int} {r s : List Int} (hr : RowB th b r) (hs : RowB th b s) : RowB th b (List.zipWith max r s) := by
  refine ⟨by rw [List.length_zipWith, hr.1, hs.1, Nat.min_self], fun t ht => ?_⟩
  rw [zip_get hr.1 hs.1 t ht]
  have h1 := hr.2 t ht
  have h2 := hs.2 t ht
  omega
theorem z0_B (th : Nat) (b : Int) (hb : 0 ≤ b) : RowB th b (z0 th) := ⟨by simp [z0], fun t ht => by simp [z0, List.getD_eq_getElem?_getD, ht, hb]⟩
theorem mx_B {th : Nat} {b : Int} (R : List (List Int)) : ∀ (es : List S32) (r : List Int), RowB th b r → (∀ p ∈ es, RowB th b (rowAt R p.f0)) → RowB th b (mx R r es)
  | [], r, h, _ => h
  | p :: es, r, h, hp => mx_B R es _ (zip_B h (hp p List.mem_cons_self)) (fun q hq => hp q (List.mem_cons_of_mem _ hq))
theorem mx_get {th : Nat} {b : Int} (R : List (List Int)) (t : Nat) (ht : t < th) : ∀ (es : List S32) (r : List Int), RowB th b r → (∀ p ∈ es, RowB th b (rowAt R p.f0)) →
    r.getD t 0 ≤ (mx R r es).getD t 0 ∧ (∀ p ∈ es, (rowAt R p.f0).getD t 0 ≤ (mx R r es).getD t 0) ∧ ((mx R r es).getD t 0 = r.getD t 0 ∨ ∃ p ∈ es, (mx R r es).getD t 0 = (rowAt R p.f0).getD t 0)
  | [], r, h, _ => ⟨Int.le_refl _, fun p hp => (by cases hp), .inl rfl⟩
  | p :: es, r, h, hp => by
    have hq := hp p List.mem_cons_self
    obtain ⟨h1, h2, h3⟩ := mx_get R t ht es (List.zipWith max r (rowAt R p.f0)) (zip_B h hq) (fun q hq => hp q (List.mem_cons_of_mem _ hq))
    rw [zip_get h.1 hq.1 t ht] at h1 h3
    have he : mx R r (p :: es) = mx R (List.zipWith max r (rowAt R p.f0)) es := rfl
    rw [he]
    refine ⟨by omega, fun q hq => ?_, ?_⟩
    · rcases List.mem_cons.1 hq with rfl | hq
      · omega
      · exact h2 q hq
    · rcases h3 with h3 | ⟨q, hq, h3⟩
      · rcases (show max (r.getD t 0) ((rowAt R p.f0).getD t 0) = r.getD t 0 ∨ max (r.getD t 0) ((rowAt R p.f0).getD t 0) = (rowAt R p.f0).getD t 0 by omega) with h4 | h4
        · exact .inl (h3.trans h4)
        · exact .inr ⟨p, List.mem_cons_self, h3.trans h4⟩
      · exact .inr ⟨q, List.mem_cons_of_mem _ hq, h3⟩
theorem bump_get {th : Nat} {r : List Int} (hr : r.length = th) (k t : Nat) (ht : t < th) : (bump r k).getD t 0 = r.getD t 0 + (if t = k then 1 else 0) := by
  unfold bump
  by_cases h : t = k
  · subst h
    rw [if_pos rfl, List.getD_eq_getElem?_getD, List.getElem?_set_self (by omega)]
    rfl
  · rw [if_neg h, List.getD_eq_getElem?_getD, List.getElem?_set_ne (fun e => h e.symm), ← List.getD_eq_getElem?_getD]
    omega
theorem RowB.mono {th : Nat} {b b' : Int} {r : List Int} (h : RowB th b r) (hb : b ≤ b') : RowB th b' r := ⟨h.1, fun t ht => by have := h.2 t ht; omega⟩
/-- pairs that lead to the event n come from ahead of it -/
theorem at1_mem {E : List S32} {n : Nat} {p : S32} : p ∈ at1 E n ↔ p ∈ E ∧ p.f1 = (n : Int) := by
  unfold at1
  rw [List.mem_filter, decide_eq_true_iff]
theorem rowsF_B (l : List CE) (th : Nat) (E : List S32) (hE : ∀ p ∈ E, 0 ≤ p.f0 ∧ p.f0 < p.f1) : ∀ (n : Nat) (j : Nat), j < n → RowB th (n : Int) ((rowsF l th E n).getD j [])
  | 0, j, h => absurd h (Nat.not_lt_zero _)
  | n + 1, j, h => by
    have ih := rowsF_B l th E hE n
    rcases Nat.lt_or_ge j n with h1 | h1
    · rw [rowsF_get l th E h, ← rowsF_get l th E h1]
      exact (ih j h1).mono (by omega)
    · obtain rfl : j = n := by omega
      rw [rowsF_last]
      have hm : RowB th (j : Int) (mx (rowsF l th E j) (z0 th) (at1 E j)) := mx_B _ _ _ (z0_B th _ (by omega)) (fun p hp => by
        obtain ⟨h2, h3⟩ := at1_mem.1 hp
        have := hE p h2
        exact ih p.f0.toNat (by omega))
      refine ⟨by unfold bump; rw [List.length_set]; exact hm.1, fun t ht => ?_⟩
      rw [bump_get hm.1 _ t ht]
      have := hm.2 t ht
      split <;> omega
/-- the number in row j at t -/
def cl (l : List CE) (th : Nat) (E : List S32) (j t : Nat) : Int := ((rowsF l th E (j + 1)).getD j []).getD t 0
theorem cl_of {l : List CE} {th : Nat} {E : List S32} {n j t : Nat} (h : j < n) : ((rowsF l th E n).getD j []).getD t 0 = cl l th E j t := by rw [rowsF_get l th E h]; rfl
def thr (l : List CE) (j : Nat) : Nat := (l.getD j zC).t.toNat
def EdN (E : List S32) (i j : Nat) : Prop := (⟨(i : Int), (j : Int)⟩ : S32) ∈ E
theorem clk_of (l : List CE) (th : Nat) (E : List S32) (hE : IsE l E) (hl : ∀ x ∈ l, 0 ≤ x.t ∧ x.t < (th : Int)) : Clk l.length th (thr l) (EdN E) (cl l th E) := by
  have hb := hE.bound
  have ht : ∀ j, j < l.length → 0 ≤ (l.getD j zC).t ∧ (l.getD j zC).t < (th : Int) := fun j hj => by
    have h1 : l.getD j zC = l[j] := by simp [List.getD_eq_getElem?_getD, hj]
    rw [h1]
    exact hl _ (List.getElem_mem hj)
  have hB := rowsF_B l th E (fun p hp => ⟨(hb p hp).1, (hb p hp).2.1⟩)
  have hcl : ∀ j t, t < th → cl l th E j t = (mx (rowsF l th E j) (z0 th) (at1 E j)).getD t 0 + (if t = thr l j then 1 else 0) := fun j t hth => by
    unfold cl
    rw [rowsF_last]
    refine bump_get (th := th) ?_ _ t hth
    have := hB (j + 1) j (Nat.lt_succ_self _)
    rw [rowsF_last] at this
    have h2 := this.1
    unfold bump at h2
    rwa [List.length_set] at h2
  have hes : ∀ j, ∀ p ∈ at1 E j, RowB th (j : Int) (rowAt (rowsF l th E j) p.f0) := fun j p hp => by
    obtain ⟨h2, h3⟩ := at1_mem.1 hp
    have := hb p h2
    exact hB j p.f0.toNat (by omega)
  have hrow : ∀ j, ∀ p ∈ at1 E j, ∀ t, (rowAt (rowsF l th E j) p.f0).getD t 0 = cl l th E p.f0.toNat t := fun j p hp t => by
    obtain ⟨h2, h3⟩ := at1_mem.1 hp
    have := hb p h2
    exact cl_of (show p.f0.toNat < j by omega)
  refine ⟨fun j hj => ?_, fun i j h => ?_, fun j e hj he het => ?_, fun i j t h hth => ?_, fun j t hj hth => ?_⟩
  · have := ht j hj
    unfold thr
    omega
  · have := hb _ h
    simp only at this
    omega
  · have h1 := ht j hj
    have h2 := ht e (by omega)
    obtain ⟨i, k1, k2, k3, k4⟩ := raw_prog l j e hj he (by unfold thr at het; omega)
    exact ⟨i, k1, by unfold thr; rw [k3], (hE.2 _).2 k4⟩
  · rw [hcl j t hth]
    have hp : (⟨(i : Int), (j : Int)⟩ : S32) ∈ at1 E j := at1_mem.2 ⟨h, rfl⟩
    have h1 := (mx_get (b := (j : Int)) (rowsF l th E j) t hth (at1 E j) (z0 th) (z0_B th _ (by omega)) (hes j)).2.1 _ hp
    rw [hrow j _ hp t] at h1
    have h2 : cl l th E (i : Int).toNat t = cl l th E i t := by rw [Int.toNat_natCast]
    simp only at h1
    rw [h2] at h1
    split <;> omega
  · rw [hcl j t hth]
    rcases (mx_get (b := (j : Int)) (rowsF l th E j) t hth (at1 E j) (z0 th) (z0_B th _ (by omega)) (hes j)).2.2 with h1 | ⟨p, hp, h1⟩
    · left
      rw [h1]
      simp [z0, List.getD_eq_getElem?_getD, hth]
    · right
      obtain ⟨h2, h3⟩ := at1_mem.1 hp
      have h4 := hb p h2
      refine ⟨p.f0.toNat, ?_, ?_⟩
      · unfold EdN
        rw [show (⟨((p.f0.toNat : Nat) : Int), (j : Int)⟩ : S32) = p from s32_ext (by simp only; omega) (by simp only; omega)]
        exact h2
      · rw [h1, hrow j p hp t]
/-- more events behind change no clocks -/
theorem at1_prefix {l m : List CE} {E F : List S32} (hE : IsE l E) (hF : IsE (l ++ m) F) {j : Nat} (hj : j < l.length) : at1 E j = at1 F j := by
  obtain ⟨e, h1, h2⟩ := raw_prefix l m
  refine uniq_pq _ _ (hE.1.filter _) (hF.1.filter _) (fun p => ?_)
  rw [at1_mem, at1_mem, hE.2, hF.2, h1, List.mem_append]
  constructor
  · rintro ⟨k1, k2⟩; exact ⟨.inl k1, k2⟩
  · rintro ⟨k1 | k1, k2⟩
    · exact ⟨k1, k2⟩
    · have := h2 p k1
      omega
theorem rowsF_prefix {l m : List CE} {th : Nat} {E F : List S32} (hE : IsE l E) (hF : IsE (l ++ m) F) : ∀ n, n ≤ l.length → rowsF l th E n = rowsF (l ++ m) th F n
  | 0, _ => rfl
  | n + 1, h => by
    show rowsF l th E n ++ [_] = rowsF (l ++ m) th F n ++ [_]
    rw [rowsF_prefix hE hF n (by omega), at1_prefix hE hF (show n < l.length by omega)]
    rw [show (l ++ m).getD n zC = l.getD n zC by simp [List.getD_eq_getElem?_getD, List.getElem?_append_left (show n < l.length by omega)]]
theorem cl_prefix {l m : List CE} {th : Nat} {E F : List S32} (hE : IsE l E) (hF : IsE (l ++ m) F) {j : Nat} (hj : j < l.length) (t : Nat) : cl l th E j t = cl (l ++ m) th F j t := by
  unfold cl
  rw [rowsF_prefix hE hF (j + 1) hj]
end Go.Proofs.Ytginlhengebgaaa.Ck
