/- Words and their normal forms (Cartier, Foata), in plain words. -/
import Derived.Test.YtblalidpeccabacBase
namespace Go.Proofs.Ytblalidpeccabac.Sd
set_option linter.unusedVariables false
set_option linter.unusedSimpArgs false

theorem snoc_ind {α : Type} {P : List α → Prop} (h0 : P []) (hs : ∀ l a, P l → P (l ++ [a])) (l : List α) : P l := by
  have h : ∀ r : List α, P r.reverse := by
    intro r
    induction r with
    | nil => exact h0
    | cons a r ih => rw [List.reverse_cons]; exact hs _ _ ih
  have := h l.reverse
  rwa [List.reverse_reverse] at this
/-- put in at its place -/
def ins (a : Nat) : List Nat → List Nat
  | [] => [a]
  | x :: xs => if x < a then x :: ins a xs else a :: x :: xs
theorem ins_comm (a b : Nat) : ∀ r, ins a (ins b r) = ins b (ins a r)
  | [] => by
    show ins a [b] = ins b [a]
    unfold ins
    by_cases h1 : b < a <;> by_cases h2 : a < b
    · omega
    · rw [if_pos h1, if_neg h2]; rfl
    · rw [if_neg h1, if_pos h2]; rfl
    · obtain rfl : a = b := by omega
      rfl
  | x :: xs => by
    have ih := ins_comm a b xs
    by_cases h1 : x < a <;> by_cases h2 : x < b
    · simp only [ins, if_pos h1, if_pos h2, ih]
    · have h3 : b < a := by omega
      simp only [ins, if_pos h1, if_neg h2, if_pos h3]
    · have h3 : a < b := by omega
      simp only [ins, if_neg h1, if_pos h2, if_pos h3]
    · simp only [ins, if_neg h1, if_neg h2]
      by_cases h3 : b < a <;> by_cases h4 : a < b
      · omega
      · simp only [if_pos h3, if_neg h4, if_neg h1]
      · simp only [if_neg h3, if_pos h4, if_neg h2]
      · obtain rfl : a = b := by omega
        rfl
theorem ins_split (a : Nat) : ∀ r, ∃ p q, r = p ++ q ∧ ins a r = p ++ [a] ++ q
  | [] => ⟨[], [], rfl, rfl⟩
  | x :: xs => by
    unfold ins
    by_cases h : x < a
    · obtain ⟨p, q, h1, h2⟩ := ins_split a xs
      rw [if_pos h]
      exact ⟨x :: p, q, by rw [h1]; rfl, by rw [h2]; rfl⟩
    · rw [if_neg h]
      exact ⟨[], x :: xs, rfl, rfl⟩
theorem mem_ins {a y : Nat} {r : List Nat} : y ∈ ins a r ↔ y = a ∨ y ∈ r := by
  obtain ⟨p, q, h1, h2⟩ := ins_split a r
  rw [h2, h1]
  simp only [List.mem_append, List.mem_singleton]
  constructor
  · rintro ((h | h) | h)
    · exact .inr (.inl h)
    · exact .inl h
    · exact .inr (.inr h)
  · rintro (h | h | h)
    · exact .inl (.inr h)
    · exact .inl (.inl h)
    · exact .inr h
/-- put into step s -/
def insAt : List (List Nat) → Nat → Nat → List (List Nat)
  | [], _, a => [[a]]
  | r :: rs, 0, a => ins a r :: rs
  | r :: rs, s + 1, a => r :: insAt rs s a
theorem insAt_len : ∀ (o : List (List Nat)) (s a : Nat), s ≤ o.length → (insAt o s a).length = if s = o.length then o.length + 1 else o.length
  | [], s, a, h => by
    obtain rfl : s = 0 := by simpa using h
    rfl
  | r :: rs, 0, a, h => by
    rw [if_neg (by simp)]
    rfl
  | r :: rs, s + 1, a, h => by
    have ih := insAt_len rs s a (by simpa using h)
    show (insAt rs s a).length + 1 = _
    rw [ih, List.length_cons]
    by_cases h2 : s = rs.length
    · rw [if_pos h2, if_pos (by omega)]
    · rw [if_neg h2, if_neg (by omega)]
theorem insAt_comm : ∀ (o : List (List Nat)) (s t a b : Nat), s ≤ o.length → t ≤ o.length → insAt (insAt o s a) t b = insAt (insAt o t b) s a
  | [], s, t, a, b, hs, ht => by
    obtain rfl : s = 0 := by simpa using hs
    obtain rfl : t = 0 := by simpa using ht
    show [ins b (ins a [])] = [ins a (ins b [])]
    rw [ins_comm]
  | r :: rs, 0, 0, a, b, hs, ht => by
    show ins b (ins a r) :: rs = ins a (ins b r) :: rs
    rw [ins_comm]
  | r :: rs, 0, t + 1, a, b, hs, ht => rfl
  | r :: rs, s + 1, 0, a, b, hs, ht => rfl
  | r :: rs, s + 1, t + 1, a, b, hs, ht => by
    show r :: insAt (insAt rs s a) t b = r :: insAt (insAt rs t b) s a
    rw [insAt_comm rs s t a b (by simpa using hs) (by simpa using ht)]
theorem insAt_mem : ∀ (o : List (List Nat)) (s a : Nat), s ≤ o.length → ∀ j y, y ∈ (insAt o s a).getD j [] → y ∈ o.getD j [] ∨ (j = s ∧ y = a)
  | [], s, a, h, j, y, hy => by
    obtain rfl : s = 0 := by simpa using h
    cases j with
    | zero => exact .inr ⟨rfl, List.mem_singleton.1 hy⟩
    | succ j => simp [insAt] at hy
  | r :: rs, 0, a, h, j, y, hy => by
    cases j with
    | zero =>
      rcases mem_ins.1 hy with h1 | h1
      · exact .inr ⟨rfl, h1⟩
      · exact .inl h1
    | succ j => exact .inl hy
  | r :: rs, s + 1, a, h, j, y, hy => by
    cases j with
    | zero => exact .inl hy
    | succ j =>
      rcases insAt_mem rs s a (by simpa using h) j y hy with h1 | ⟨h1, h2⟩
      · exact .inl h1
      · exact .inr ⟨by omega, h2⟩
theorem insAt_split : ∀ (o : List (List Nat)) (s a : Nat), s ≤ o.length → ∃ p q, o.flatten = p ++ q ∧ (insAt o s a).flatten = p ++ [a] ++ q ∧ ∀ y ∈ q, ∃ j, s ≤ j ∧ y ∈ o.getD j []
  | [], s, a, h => ⟨[], [], rfl, rfl, fun y hy => by cases hy⟩
  | r :: rs, 0, a, h => by
    obtain ⟨p, q, h1, h2⟩ := ins_split a r
    refine ⟨p, q ++ rs.flatten, by rw [List.flatten_cons, h1, List.append_assoc], ?_, fun y hy => ?_⟩
    · show (ins a r :: rs).flatten = _
      rw [List.flatten_cons, h2, List.append_assoc]
    · rcases List.mem_append.1 hy with h3 | h3
      · exact ⟨0, Nat.le_refl _, by show y ∈ r; rw [h1]; exact List.mem_append_right _ h3⟩
      · obtain ⟨x, hx, hyx⟩ := List.mem_flatten.1 h3
        obtain ⟨j, hj, rfl⟩ := List.getElem_of_mem hx
        exact ⟨j + 1, Nat.zero_le _, by show y ∈ rs.getD j []; rw [List.getD_eq_getElem?_getD, List.getElem?_eq_getElem hj]; exact hyx⟩
  | r :: rs, s + 1, a, h => by
    obtain ⟨p, q, h1, h2, h3⟩ := insAt_split rs s a (by simpa using h)
    refine ⟨r ++ p, q, by rw [List.flatten_cons, h1, List.append_assoc], ?_, fun y hy => ?_⟩
    · show (r :: insAt rs s a).flatten = _
      rw [List.flatten_cons, h2]
      simp
    · obtain ⟨j, h4, h5⟩ := h3 y hy
      exact ⟨j + 1, by omega, h5⟩
/-- how far one is: of each act the least step that it may come into; the steps -/
structure Foa where
  nx : Nat → Nat
  out : List (List Nat)
def T (d : Nat → Nat → Bool) (S : Foa) (a : Nat) : Foa := ⟨fun k => if d a k then max (S.nx k) (S.nx a + 1) else S.nx k, insAt S.out (S.nx a) a⟩
def S0 : Foa := ⟨fun _ => 0, []⟩
def nf (d : Nat → Nat → Bool) (w : List Nat) : Foa := w.foldl (T d) S0
theorem nf_snoc (d : Nat → Nat → Bool) (w : List Nat) (a : Nat) : nf d (w ++ [a]) = T d (nf d w) a := by unfold nf; rw [List.foldl_append]; rfl
structure Good (d : Nat → Nat → Bool) (S : Foa) : Prop where
  le : ∀ k, S.nx k ≤ S.out.length
  dep : ∀ j y, y ∈ S.out.getD j [] → ∀ k, d y k = true → j + 1 ≤ S.nx k
theorem good_T {d : Nat → Nat → Bool} {S : Foa} (h : Good d S) (a : Nat) : Good d (T d S a) := by
  have ha := h.le a
  have hlen := insAt_len S.out (S.nx a) a ha
  refine ⟨fun k => ?_, fun j y hy k hd => ?_⟩
  · show (if d a k then max (S.nx k) (S.nx a + 1) else S.nx k) ≤ (insAt S.out (S.nx a) a).length
    have hk := h.le k
    rw [hlen]
    split <;> split <;> omega
  · show j + 1 ≤ (if d a k then max (S.nx k) (S.nx a + 1) else S.nx k)
    rcases insAt_mem S.out (S.nx a) a ha j y hy with h1 | ⟨rfl, rfl⟩
    · have := h.dep j y h1 k hd
      split <;> omega
    · rw [if_pos hd]; omega
theorem good_0 (d : Nat → Nat → Bool) : Good d S0 := ⟨fun k => Nat.zero_le _, fun j y hy => by simp [S0] at hy⟩
theorem good_fold {d : Nat → Nat → Bool} : ∀ (w : List Nat) {S : Foa}, Good d S → Good d (w.foldl (T d) S)
  | [], _, h => h
  | a :: w, _, h => good_fold w (good_T h a)
theorem good_nf (d : Nat → Nat → Bool) (w : List Nat) : Good d (nf d w) := good_fold w (good_0 d)
theorem T_comm {d : Nat → Nat → Bool} {S : Foa} (h : Good d S) {a b : Nat} (h1 : d a b = false) (h2 : d b a = false) : T d (T d S a) b = T d (T d S b) a := by
  have e1 : (T d S a).nx b = S.nx b := by show (if d a b then _ else _) = _; rw [h1]; rfl
  have e2 : (T d S b).nx a = S.nx a := by show (if d b a then _ else _) = _; rw [h2]; rfl
  have e3 : T d (T d S a) b = ⟨fun k => if d b k then max ((T d S a).nx k) (S.nx b + 1) else (T d S a).nx k, insAt (insAt S.out (S.nx a) a) (S.nx b) b⟩ := by
    show Foa.mk _ (insAt (T d S a).out ((T d S a).nx b) b) = _
    rw [e1]
    rfl
  have e4 : T d (T d S b) a = ⟨fun k => if d a k then max ((T d S b).nx k) (S.nx a + 1) else (T d S b).nx k, insAt (insAt S.out (S.nx b) b) (S.nx a) a⟩ := by
    show Foa.mk _ (insAt (T d S b).out ((T d S b).nx a) a) = _
    rw [e2]
    rfl
  rw [e3, e4, insAt_comm S.out (S.nx a) (S.nx b) a b (h.le a) (h.le b)]
  congr 1
  funext k
  show (if d b k then max (if d a k then max (S.nx k) (S.nx a + 1) else S.nx k) (S.nx b + 1) else (if d a k then max (S.nx k) (S.nx a + 1) else S.nx k)) = (if d a k then max (if d b k then max (S.nx k) (S.nx b + 1) else S.nx k) (S.nx a + 1) else (if d b k then max (S.nx k) (S.nx b + 1) else S.nx k))
  cases d a k <;> cases d b k <;> simp <;> omega
theorem T_past {d : Nat → Nat → Bool} : ∀ (q : List Nat) {S : Foa} {a : Nat}, Good d S → (∀ y ∈ q, d y a = false ∧ d a y = false) → T d (q.foldl (T d) S) a = q.foldl (T d) (T d S a)
  | [], S, a, h, hq => rfl
  | y :: q, S, a, h, hq => by
    have h1 := hq y List.mem_cons_self
    show T d (q.foldl (T d) (T d S y)) a = q.foldl (T d) (T d (T d S a) y)
    rw [T_past q (good_T h y) (fun z hz => hq z (List.mem_cons_of_mem _ hz)), T_comm h h1.1 h1.2]
/-- the steps, one behind the other, are the same word -/
theorem nf_flat {d : Nat → Nat → Bool} (hs : ∀ a b, d a b = d b a) (w : List Nat) : nf d (nf d w).out.flatten = nf d w := by
  refine snoc_ind (P := fun w => nf d (nf d w).out.flatten = nf d w) rfl (fun w a ih => ?_) w
  have hg := good_nf d w
  obtain ⟨p, q, h1, h2, h3⟩ := insAt_split (nf d w).out ((nf d w).nx a) a (hg.le a)
  have e : (nf d (w ++ [a])).out.flatten = p ++ [a] ++ q := by rw [nf_snoc]; exact h2
  rw [e, nf_snoc]
  rw [h1] at ih
  have hq : ∀ y ∈ q, d y a = false ∧ d a y = false := fun y hy => by
    obtain ⟨j, h4, h5⟩ := h3 y hy
    have h6 : d y a = false := by
      cases hd : d y a with
      | false => rfl
      | true => have := hg.dep j y h5 a hd; omega
    exact ⟨h6, by rw [hs]; exact h6⟩
  have e2 : nf d (p ++ [a] ++ q) = q.foldl (T d) (T d (nf d p) a) := by
    unfold nf
    rw [List.foldl_append, List.foldl_append]
    rfl
  rw [e2, ← T_past q (good_nf d p) hq, ← ih]
  unfold nf
  rw [List.foldl_append]
theorem nf_len {d : Nat → Nat → Bool} (w : List Nat) : (nf d w).out.flatten.length = w.length := by
  refine snoc_ind (P := fun w => (nf d w).out.flatten.length = w.length) rfl (fun w a ih => ?_) w
  obtain ⟨p, q, h1, h2, h3⟩ := insAt_split (nf d w).out ((nf d w).nx a) a ((good_nf d w).le a)
  have e : (nf d (w ++ [a])).out.flatten = p ++ [a] ++ q := by rw [nf_snoc]; exact h2
  rw [e]
  rw [h1, List.length_append] at ih
  simp
  omega
theorem nf_mem {d : Nat → Nat → Bool} (w : List Nat) : ∀ y, y ∈ (nf d w).out.flatten → y ∈ w := by
  refine snoc_ind (P := fun w => ∀ y, y ∈ (nf d w).out.flatten → y ∈ w) (fun y hy => by simp [nf, S0] at hy) (fun w a ih => ?_) w
  obtain ⟨p, q, h1, h2, h3⟩ := insAt_split (nf d w).out ((nf d w).nx a) a ((good_nf d w).le a)
  have e : (nf d (w ++ [a])).out.flatten = p ++ [a] ++ q := by rw [nf_snoc]; exact h2
  rw [e]
  rw [h1] at ih
  intro y hy
  have ih' := ih y
  simp only [List.mem_append, List.mem_singleton] at hy ih' ⊢
  rcases hy with (h | h) | h
  · exact .inl (ih' (.inl h))
  · exact .inr h
  · exact .inl (ih' (.inr h))
/-- of two that hang on one another the order stays -/
theorem nf_two {d : Nat → Nat → Bool} (hs : ∀ a b, d a b = d b a) {p : Nat → Bool} (hp : ∀ x y, p x = true → p y = true → d x y = true) (w : List Nat) : (nf d w).out.flatten.filter p = w.filter p := by
  refine snoc_ind (P := fun w => (nf d w).out.flatten.filter p = w.filter p) rfl (fun w a ih => ?_) w
  have hg := good_nf d w
  obtain ⟨u, q, h1, h2, h3⟩ := insAt_split (nf d w).out ((nf d w).nx a) a (hg.le a)
  have e : (nf d (w ++ [a])).out.flatten = u ++ [a] ++ q := by rw [nf_snoc]; exact h2
  rw [e, List.filter_append, List.filter_append, List.filter_append, ← ih, h1, List.filter_append]
  cases ha : p a with
  | false =>
    have e1 : [a].filter p = [] := by simp [ha]
    rw [e1, List.append_nil, List.append_nil]
  | true =>
    have e2 : q.filter p = [] := by
      rw [List.filter_eq_nil_iff]
      intro y hy hpy
      obtain ⟨j, h4, h5⟩ := h3 y hy
      have := hg.dep j y h5 a (hp y a hpy ha)
      omega
    rw [e2, List.append_nil, List.append_nil]
/-- neighbours change places -/
theorem nf_swap {d : Nat → Nat → Bool} (u v : List Nat) {a b : Nat} (h1 : d a b = false) (h2 : d b a = false) : nf d (u ++ [a, b] ++ v) = nf d (u ++ [b, a] ++ v) := by
  have e : ∀ x y, nf d (u ++ [x, y] ++ v) = v.foldl (T d) (T d (T d (nf d u) x) y) := fun x y => by
    unfold nf
    rw [List.foldl_append, List.foldl_append]
    rfl
  rw [e, e, T_comm (good_nf d u) h1 h2]
theorem nf_noswap {d : Nat → Nat → Bool} (hs : ∀ a b, d a b = d b a) (u v : List Nat) {a b : Nat} (haa : d a a = true) (hbb : d b b = true) (hab : d a b = true) (hne : a ≠ b) : (nf d (u ++ [a, b] ++ v)).out ≠ (nf d (u ++ [b, a] ++ v)).out := by
  intro e
  have hp : ∀ x y, (fun z : Nat => (z == a || z == b)) x = true → (fun z : Nat => (z == a || z == b)) y = true → d x y = true := fun x y hx hy => by
    simp only [Bool.or_eq_true, beq_iff_eq] at hx hy
    rcases hx with rfl | rfl <;> rcases hy with rfl | rfl
    · exact haa
    · exact hab
    · rw [hs]; exact hab
    · exact hbb
  have h1 := nf_two hs hp (u ++ [a, b] ++ v)
  have h2 := nf_two hs hp (u ++ [b, a] ++ v)
  rw [e, h2] at h1
  simp only [List.filter_append] at h1
  have h3 := List.append_cancel_right h1
  have h4 := List.append_cancel_left h3
  simp at h4
  exact hne h4.1.symm
end Go.Proofs.Ytblalidpeccabac.Sd
