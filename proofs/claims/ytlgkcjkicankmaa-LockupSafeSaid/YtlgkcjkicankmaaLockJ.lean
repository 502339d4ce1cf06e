/- What Rank tells, in plain words. -/
import Derived.Test.YtlgkcjkicankmaaLockC
namespace Go.Proofs.Ytlgkcjkicankmaa.Lk
open Go Go.RowKit Go.Proofs.Ytlgkcjkicankmaa.PLockupEither
set_option linter.unusedVariables false
set_option linter.unusedSimpArgs false

theorem nodup_le {α : Type} [DecidableEq α] : ∀ (l m : List α), l.Nodup → (∀ x ∈ l, x ∈ m) → l.length ≤ m.length
  | [], m, _, _ => Nat.zero_le _
  | x :: l, m, hd, hs => by
    have hx : x ∈ m := hs x List.mem_cons_self
    have h := nodup_le l (m.erase x) (List.nodup_cons.1 hd).2 (fun y hy => (List.mem_erase_of_ne (fun e => (List.nodup_cons.1 hd).1 (by subst e; exact hy))).2 (hs y (List.mem_cons_of_mem _ hy)))
    rw [List.length_erase_of_mem hx] at h
    have := List.length_pos_of_mem hx
    rw [List.length_cons]
    omega
/-- all that stand in pairs -/
def allP (l : List S32) : List Int := l.flatMap fun p => [p.f0, p.f1]
theorem mem_allP {l : List S32} {x : Int} : x ∈ allP l ↔ ∃ p ∈ l, x = p.f0 ∨ x = p.f1 := by
  unfold allP
  simp [List.mem_flatMap]
theorem allP_len : ∀ l : List S32, (allP l).length = 2 * l.length
  | [] => rfl
  | p :: l => by
    have h := allP_len l
    unfold allP at h ⊢
    rw [List.flatMap_cons, List.length_append, h, List.length_cons]
    simp
    omega
def cntJ (l : List S32) (y : Int) : Int := ((l.countP fun p => decide (p.f1 = y) : Nat) : Int)
def cntM (l : List S32) (m y : Int) : Int := ((l.countP fun p => decide (p.f0 = m) && decide (p.f1 = y) : Nat) : Int)
/-- how many pairs each still waits for -/
def cntO (l : List S32) (out : List Int) (y : Int) : Int := ((l.countP fun p => decide (p.f1 = y) && decide (p.f0 ∉ out) : Nat) : Int)
theorem cntJ_cons (p : S32) (l : List S32) (y : Int) : cntJ (p :: l) y = cntJ l y + (if p.f1 = y then 1 else 0) := by
  unfold cntJ
  rw [List.countP_cons]
  by_cases h : p.f1 = y
  · simp [h]
  · simp [h]
theorem cntM_cons (p : S32) (l : List S32) (m y : Int) : cntM (p :: l) m y = cntM l m y + (if p.f0 = m ∧ p.f1 = y then 1 else 0) := by
  unfold cntM
  rw [List.countP_cons]
  by_cases h : p.f0 = m ∧ p.f1 = y
  · simp [h.1, h.2]
  · rw [if_neg h, if_neg (by simpa using h)]; simp
theorem cntO_cons (p : S32) (l : List S32) (out : List Int) (y : Int) : cntO (p :: l) out y = cntO l out y + (if p.f1 = y ∧ p.f0 ∉ out then 1 else 0) := by
  unfold cntO
  rw [List.countP_cons]
  by_cases h : p.f1 = y ∧ p.f0 ∉ out
  · rw [if_pos h, if_pos (by simp [h.1, h.2])]; simp
  · rw [if_neg h, if_neg (by simpa using h)]; simp
theorem cntO_le (l : List S32) (out : List Int) (y : Int) : 0 ≤ cntO l out y ∧ cntO l out y ≤ l.length := by
  unfold cntO
  have := List.countP_le_length (p := fun p : S32 => decide (p.f1 = y) && decide (p.f0 ∉ out)) (l := l)
  omega
theorem cntO_snoc (out : List Int) (m y : Int) (hm : m ∉ out) : ∀ l : List S32, cntO l (out ++ [m]) y = cntO l out y - cntM l m y
  | [] => rfl
  | p :: l => by
    rw [cntO_cons, cntO_cons, cntM_cons, cntO_snoc out m y hm l]
    by_cases h1 : p.f1 = y
    · by_cases h0 : p.f0 = m
      · have h2 : p.f0 ∉ out := by rw [h0]; exact hm
        rw [if_neg (by simp [h0]), if_pos ⟨h1, h2⟩, if_pos ⟨h0, h1⟩]
        omega
      · by_cases h2 : p.f0 ∈ out
        · rw [if_neg (by simp [h2]), if_neg (by simp [h2]), if_neg (by simp [h0])]
          omega
        · rw [if_pos ⟨h1, by simp [h2, h0]⟩, if_pos ⟨h1, h2⟩, if_neg (by simp [h0])]
          omega
    · rw [if_neg (by simp [h1]), if_neg (by simp [h1]), if_neg (by simp [h1])]
      omega
theorem cntO_nil : ∀ (l : List S32) (y : Int), cntO l [] y = cntJ l y
  | [], y => rfl
  | p :: l, y => by
    rw [cntO_cons, cntJ_cons, cntO_nil l y]
    simp
theorem wI_small {x : Int} (h : -1000000 ≤ x ∧ x ≤ 1000000) : wI x = x := by
  unfold wI wrap64
  omega
theorem mem_addK {ks : List Int} {x y : Int} : y ∈ addK ks x ↔ y ∈ ks ∨ y = x := by
  unfold addK
  split
  · rename_i h
    exact ⟨.inl, fun h1 => h1.elim id (fun e => e ▸ h)⟩
  · simp
theorem fillP_law : ∀ (l : List S32) (ks : List Int) (f : Int → Int), ks.Nodup → (∀ y, 0 ≤ f y ∧ f y + l.length ≤ 1000000) → (fillP l ks f).1.Nodup ∧ (∀ x, x ∈ (fillP l ks f).1 ↔ x ∈ ks ∨ x ∈ allP l) ∧ ∀ y, (fillP l ks f).2 y = f y + cntJ l y
  | [], ks, f, hd, hf => ⟨hd, fun x => ⟨.inl, fun h => h.elim id (fun h => by cases h)⟩, fun y => by unfold cntJ; simp [fillP]⟩
  | p :: l, ks, f, hd, hf => by
    have hw : wI (f p.f1 + 1) = f p.f1 + 1 := wI_small (by have := hf p.f1; rw [List.length_cons] at this; omega)
    simp only [fillP]
    rw [hw]
    obtain ⟨h1, h2, h3⟩ := fillP_law l (addK (addK ks p.f0) p.f1) (upd f p.f1 (f p.f1 + 1)) (addK_nodup (addK_nodup hd _) _) (fun y => by
      have := hf y
      rw [List.length_cons] at this
      unfold upd
      split
      · rename_i e; subst e; omega
      · omega)
    refine ⟨h1, fun x => ?_, fun y => ?_⟩
    · rw [h2, mem_addK, mem_addK, mem_allP, mem_allP]
      constructor
      · rintro (((h | h) | h) | ⟨q, hq, h⟩)
        · exact .inl h
        · exact .inr ⟨p, List.mem_cons_self, .inl h⟩
        · exact .inr ⟨p, List.mem_cons_self, .inr h⟩
        · exact .inr ⟨q, List.mem_cons_of_mem _ hq, h⟩
      · rintro (h | ⟨q, hq, h⟩)
        · exact .inl (.inl (.inl h))
        · rcases List.mem_cons.1 hq with e | hq
          · subst e
            rcases h with h | h
            · exact .inl (.inl (.inr h))
            · exact .inl (.inr h)
          · exact .inr ⟨q, hq, h⟩
    · rw [h3, cntJ_cons]
      unfold upd
      by_cases h : y = p.f1
      · rw [if_pos h, if_pos h.symm, h]; omega
      · rw [if_neg h, if_neg (fun e => h e.symm)]; omega
theorem decP_law (m : Int) : ∀ (l : List S32) (ks : List Int) (f : Int → Int), (∀ p ∈ l, p.f0 = m → p.f1 ∈ ks) → (∀ y ∈ ks, -1000000 + l.length ≤ f y ∧ f y ≤ 1000000) → (decP l m ks f).1 = ks ∧ ∀ y ∈ ks, (decP l m ks f).2 y = f y - cntM l m y
  | [], ks, f, _, _ => ⟨rfl, fun y _ => by unfold cntM; simp [decP]⟩
  | p :: l, ks, f, hk, hf => by
    simp only [decP]
    by_cases h : p.f0 = m
    · have hp : p.f1 ∈ ks := hk p List.mem_cons_self h
      have ha : addK ks p.f1 = ks := by unfold addK; rw [if_pos hp]
      have hw : wI (f p.f1 - 1) = f p.f1 - 1 := wI_small (by have := hf p.f1 hp; rw [List.length_cons] at this; omega)
      rw [if_pos h, ha, hw]
      obtain ⟨h1, h2⟩ := decP_law m l ks (upd f p.f1 (f p.f1 - 1)) (fun q hq => hk q (List.mem_cons_of_mem _ hq)) (fun y hy => by
        have := hf y hy
        rw [List.length_cons] at this
        unfold upd
        split
        · rename_i e; subst e; omega
        · omega)
      refine ⟨h1, fun y hy => ?_⟩
      rw [h2 y hy, cntM_cons]
      unfold upd
      by_cases hy2 : y = p.f1
      · rw [if_pos hy2, if_pos ⟨h, hy2.symm⟩, hy2]; omega
      · rw [if_neg hy2, if_neg (fun e => hy2 e.2.symm)]; omega
    · rw [if_neg h]
      obtain ⟨h1, h2⟩ := decP_law m l ks f (fun q hq => hk q (List.mem_cons_of_mem _ hq)) (fun y hy => by have := hf y hy; rw [List.length_cons] at this; omega)
      refine ⟨h1, fun y hy => ?_⟩
      rw [h2 y hy, cntM_cons, if_neg (fun e => h e.1)]
      omega
/-- a stands ahead of b -/
def Bf (r : List Int) (a b : Int) : Prop := ∃ i j : Nat, i < j ∧ r[i]? = some a ∧ r[j]? = some b
theorem Bf.snoc {r : List Int} {a b : Int} (h : Bf r a b) (m : Int) : Bf (r ++ [m]) a b := by
  obtain ⟨i, j, h1, h2, h3⟩ := h
  have hj := (List.getElem?_eq_some_iff.1 h3).1
  exact ⟨i, j, h1, by rw [List.getElem?_append_left (by omega)]; exact h2, by rw [List.getElem?_append_left hj]; exact h3⟩
theorem Bf.last {r : List Int} {a : Int} (h : a ∈ r) (m : Int) : Bf (r ++ [m]) a m := by
  obtain ⟨i, hi, e⟩ := List.getElem_of_mem h
  refine ⟨i, r.length, hi, ?_, ?_⟩
  · rw [List.getElem?_append_left hi, List.getElem?_eq_getElem hi, e]
  · rw [List.getElem?_append_right (Nat.le_refl _)]; simp
theorem Bf.anti {r : List Int} {a b : Int} (hd : r.Nodup) (h : Bf r a b) (h' : Bf r b a) : False := by
  obtain ⟨i, j, h1, h2, h3⟩ := h
  obtain ⟨i', j', h1', h2', h3'⟩ := h'
  obtain ⟨hi, e1⟩ := List.getElem?_eq_some_iff.1 h2
  obtain ⟨hj, e2⟩ := List.getElem?_eq_some_iff.1 h3
  obtain ⟨hi', e3⟩ := List.getElem?_eq_some_iff.1 h2'
  obtain ⟨hj', e4⟩ := List.getElem?_eq_some_iff.1 h3'
  have ha : i = j' := (List.getElem_inj hd).1 (e1.trans e4.symm)
  have hb : j = i' := (List.getElem_inj hd).1 (e2.trans e3.symm)
  omega
structure Inv (l : List S32) (ks : List Int) (f : Int → Int) (out : List Int) : Prop where
  nk : ks.Nodup
  no : out.Nodup
  mem : ∀ x, x ∈ ks ↔ x ∈ allP l ∧ x ∉ out
  sub : ∀ x ∈ out, x ∈ allP l
  cnt : ∀ y ∈ ks, f y = cntO l out y
  ord : ∀ p ∈ l, p.f1 ∈ out → Bf out p.f0 p.f1
theorem cntO_zero {l : List S32} {out : List Int} {y : Int} (h : cntO l out y = 0) : ∀ p ∈ l, p.f1 = y → p.f0 ∈ out := by
  intro p hp h1
  unfold cntO at h
  have h2 : l.countP (fun p => decide (p.f1 = y) && decide (p.f0 ∉ out)) = 0 := by omega
  rw [List.countP_eq_zero] at h2
  have h3 := h2 p hp
  simp [h1] at h3
  exact h3
theorem cntO_pos {l : List S32} {out : List Int} {y : Int} (h : cntO l out y ≠ 0) : ∃ p ∈ l, p.f1 = y ∧ p.f0 ∉ out := by
  unfold cntO at h
  have h2 : 0 < l.countP (fun p => decide (p.f1 = y) && decide (p.f0 ∉ out)) := by omega
  rw [List.countP_pos_iff] at h2
  obtain ⟨p, hp, h3⟩ := h2
  simp at h3
  exact ⟨p, hp, h3.1, h3.2⟩
theorem leastOf_eq_some {ks : List Int} {f : Int → Int} {m : Int} (h : leastOf ks f = some m) : m ∈ ks ∧ f m = 0 := by
  unfold leastOf at h
  have h1 := List.mem_filter.1 ((List.min?_eq_some_iff.1 h).1)
  exact ⟨h1.1, of_decide_eq_true h1.2⟩
theorem leastOf_eq_none {ks : List Int} {f : Int → Int} (h : leastOf ks f = none) : ∀ x ∈ ks, f x ≠ 0 := by
  unfold leastOf at h
  rw [List.min?_eq_none_iff, List.filter_eq_nil_iff] at h
  intro x hx
  simpa using h x hx
theorem Inv.step {l : List S32} {ks : List Int} {f : Int → Int} {out : List Int} {m : Int} (hl : l.length ≤ 200) (h : Inv l ks f out) (hm : leastOf ks f = some m) :
    Inv l (decP l m (ks.erase m) (upd f m 0)).1 (decP l m (ks.erase m) (upd f m 0)).2 (out ++ [m]) ∧ (decP l m (ks.erase m) (upd f m 0)).1.length + 1 = ks.length := by
  obtain ⟨hmk, hm0⟩ := leastOf_eq_some hm
  have hmo : m ∉ out := ((h.mem m).1 hmk).2
  have hz := cntO_zero (by rw [← h.cnt m hmk]; exact hm0)
  have hsub : ∀ p ∈ l, p.f0 = m → p.f1 ∈ ks.erase m := by
    intro p hp e
    have h1 : p.f1 ≠ m := fun e1 => hmo (e ▸ hz p hp e1)
    refine (List.mem_erase_of_ne h1).2 ((h.mem _).2 ⟨mem_allP.2 ⟨p, hp, .inr rfl⟩, fun ho => ?_⟩)
    obtain ⟨i, j, _, h2, _⟩ := h.ord p hp ho
    exact hmo (e ▸ List.mem_of_getElem? h2)
  obtain ⟨h1, h2⟩ := decP_law m l (ks.erase m) (upd f m 0) hsub (fun y hy => by
    have hy2 := (List.Nodup.mem_erase_iff h.nk).1 hy
    unfold upd
    rw [if_neg hy2.1, h.cnt y hy2.2]
    have := cntO_le l out y
    omega)
  rw [h1]
  refine ⟨⟨h.nk.erase _, ?_, fun x => ?_, fun x hx => ?_, fun y hy => ?_, fun p hp hpo => ?_⟩, ?_⟩
  · rw [List.nodup_append]
    exact ⟨h.no, by simp, fun a ha b hb => by rw [List.mem_singleton.1 hb]; exact fun e => hmo (e ▸ ha)⟩
  · rw [List.Nodup.mem_erase_iff h.nk, h.mem]
    simp
    constructor
    · rintro ⟨a, b, c⟩; exact ⟨b, c, a⟩
    · rintro ⟨b, c, a⟩; exact ⟨a, b, c⟩
  · rcases List.mem_append.1 hx with hx | hx
    · exact h.sub x hx
    · rw [List.mem_singleton.1 hx]; exact ((h.mem m).1 hmk).1
  · have hy2 := (List.Nodup.mem_erase_iff h.nk).1 hy
    rw [h2 y hy, cntO_snoc out m y hmo]
    unfold upd
    rw [if_neg hy2.1, h.cnt y hy2.2]
  · rcases List.mem_append.1 hpo with hpo | hpo
    · exact (h.ord p hp hpo).snoc m
    · rw [List.mem_singleton.1 hpo]
      exact Bf.last (hz p hp (List.mem_singleton.1 hpo)) m
  · rw [List.length_erase_of_mem hmk]
    have := List.length_pos_of_mem hmk
    omega
/-- an order of all; or some that wait for each other -/
def Told (l : List S32) (r : List Int) (ok : Bool) : Prop :=
  (ok = true ∧ r.Nodup ∧ (∀ x, x ∈ r ↔ x ∈ allP l) ∧ ∀ p ∈ l, Bf r p.f0 p.f1) ∨ (ok = false ∧ r = [] ∧ ∃ S : List Int, S ≠ [] ∧ ∀ y ∈ S, ∃ p ∈ l, p.f1 = y ∧ p.f0 ∈ S)
theorem rankG_law (l : List S32) (hl : l.length ≤ 200) : ∀ (k : Nat) (ks : List Int) (f : Int → Int) (out : List Int), Inv l ks f out → ks.length < k → ∃ r ok, rankG l k ks f out = some (r, ok) ∧ Told l r ok
  | 0, ks, f, out, h, hk => by omega
  | k + 1, ks, f, out, h, hk => by
    have hlk : ks.length ≤ 400 := by
      have := nodup_le ks (allP l) h.nk (fun x hx => ((h.mem x).1 hx).1)
      rw [allP_len] at this
      omega
    have hlo : out.length ≤ 400 := by
      have := nodup_le out (allP l) h.no h.sub
      rw [allP_len] at this
      omega
    simp only [rankG]
    by_cases hks : ks = []
    · rw [if_pos hks]
      have hall : ∀ x, x ∈ allP l → x ∈ out := fun x hx => by
        by_cases ho : x ∈ out
        · exact ho
        · have := (h.mem x).2 ⟨hx, ho⟩
          rw [hks] at this
          cases this
      exact ⟨out, true, rfl, .inl ⟨rfl, h.no, fun x => ⟨h.sub x, hall x⟩, fun p hp => h.ord p hp (hall _ (mem_allP.2 ⟨p, hp, .inr rfl⟩))⟩⟩
    · rw [if_neg hks]
      cases hm : leastOf ks f with
      | none =>
        refine ⟨[], false, rfl, .inr ⟨rfl, rfl, ks, hks, fun y hy => ?_⟩⟩
        obtain ⟨p, hp, h1, h2⟩ := cntO_pos (by rw [← h.cnt y hy]; exact leastOf_eq_none hm y hy)
        exact ⟨p, hp, h1, (h.mem _).2 ⟨mem_allP.2 ⟨p, hp, .inl rfl⟩, h2⟩⟩
      | some m =>
        dsimp only
        rw [if_pos ⟨by omega, by omega⟩]
        obtain ⟨h1, h2⟩ := h.step hl hm
        exact rankG_law l hl k _ _ _ h1 (by omega)
/-- WHAT RANK TELLS. -/
theorem rank_told (l : List S32) (hl : l.length ≤ 200) : ∃ r ok, rankF 500 l = some (r, ok, 0) ∧ Told l r ok := by
  obtain ⟨h1, h2, h3⟩ := fillP_law l [] (fun _ => 0) List.nodup_nil (fun y => by constructor <;> omega)
  have hlk : (fillP l [] (fun _ => 0)).1.length ≤ 400 := by
    have := nodup_le _ (allP l) h1 (fun x hx => ((h2 x).1 hx).elim (fun h => by cases h) id)
    rw [allP_len] at this
    omega
  obtain ⟨r, ok, hr, ht⟩ := rankG_law l hl 500 (fillP l [] (fun _ => 0)).1 (fillP l [] (fun _ => 0)).2 [] ⟨h1, List.nodup_nil, (fun x => by rw [h2]; simp), (fun x hx => by cases hx), (fun y hy => by rw [h3, cntO_nil]; simp), (fun p hp h => by cases h)⟩ (by omega)
  refine ⟨r, ok, ?_, ht⟩
  unfold rankF
  rw [if_neg (by omega), hr]
  rfl
end Go.Proofs.Ytlgkcjkicankmaa.Lk
