/- Lists with keys: what a stable sort is; merging. -/
import Derived.Test.YtblalidpeccababPRowsThreex0
namespace Go.Proofs.Ytblalidpeccabab.Rw
open Go
set_option linter.unusedVariables false
section
variable {α : Type} (key : α → Int)
def Srt (l : List α) : Prop := l.Pairwise (fun a b => key a ≤ key b)
def Sam (a b : List α) : Prop := ∀ k : Int, a.filter (fun x => decide (key x = k)) = b.filter (fun x => decide (key x = k))
end
section
variable {α : Type} {key : α → Int}
theorem Sam.rfl' {a : List α} : Sam key a a := fun _ => rfl
theorem Sam.symm {a b : List α} (h : Sam key a b) : Sam key b a := fun k => (h k).symm
theorem Sam.trans {a b c : List α} (h : Sam key a b) (h' : Sam key b c) : Sam key a c := fun k => (h k).trans (h' k)
theorem Sam.app {a b c d : List α} (h : Sam key a b) (h' : Sam key c d) : Sam key (a ++ c) (b ++ d) := fun k => by
  rw [List.filter_append, List.filter_append, h k, h' k]
theorem Sam.mem {a b : List α} (h : Sam key a b) {x : α} (hx : x ∈ a) : x ∈ b := by
  have h1 : x ∈ a.filter (fun y => decide (key y = key x)) := List.mem_filter.2 ⟨hx, decide_eq_true rfl⟩
  rw [h] at h1
  exact (List.mem_filter.1 h1).1
theorem Sam.cons {a b : List α} (x : α) (h : Sam key (x :: a) (x :: b)) : Sam key a b := fun k => by
  have h1 := h k
  rw [List.filter_cons, List.filter_cons] at h1
  split at h1
  · exact (List.cons.inj h1).2
  · exact h1
/-- blocks whose keys differ may change places -/
theorem Sam.swap {u v : List α} (h : ∀ a ∈ u, ∀ b ∈ v, key a ≠ key b) : Sam key (u ++ v) (v ++ u) := fun k => by
  rw [List.filter_append, List.filter_append]
  by_cases hu : u.filter (fun x => decide (key x = k)) = []
  · rw [hu]; simp
  · have hv : v.filter (fun x => decide (key x = k)) = [] := by
      rw [List.filter_eq_nil_iff]
      intro b hb hk
      obtain ⟨a, ha⟩ := List.exists_mem_of_ne_nil _ hu
      obtain ⟨ha1, ha2⟩ := List.mem_filter.1 ha
      exact h a ha1 b hb ((of_decide_eq_true ha2).trans (of_decide_eq_true hk).symm)
    rw [hv]; simp
theorem Srt.uniq : ∀ {a b : List α}, Srt key a → Srt key b → Sam key a b → a = b
  | [], [], _, _, _ => rfl
  | [], y :: b, _, _, h => by
    have := h.symm.mem (List.mem_cons_self (a := y) (l := b))
    cases this
  | x :: a, [], _, _, h => by
    have := h.mem (List.mem_cons_self (a := x) (l := a))
    cases this
  | x :: a, y :: b, h1, h2, h => by
    have hy := h.mem (List.mem_cons_self (a := x) (l := a))
    have hx := h.symm.mem (List.mem_cons_self (a := y) (l := b))
    obtain ⟨g1, g1'⟩ := List.pairwise_cons.1 h1
    obtain ⟨g2, g2'⟩ := List.pairwise_cons.1 h2
    have e1 : key y ≤ key x := by
      rcases List.mem_cons.1 hy with e | e
      · rw [e]; exact Int.le_refl _
      · exact g2 x e
    have e2 : key x ≤ key y := by
      rcases List.mem_cons.1 hx with e | e
      · rw [e]; exact Int.le_refl _
      · exact g1 y e
    have ek : key x = key y := by omega
    have hf := h (key x)
    rw [List.filter_cons, List.filter_cons, if_pos (by simp), if_pos (by simp [ek])] at hf
    obtain ⟨rfl, _⟩ := List.cons.inj hf
    rw [Srt.uniq g1' g2' h.cons]
theorem Srt.app {a b : List α} (ha : Srt key a) (hb : Srt key b) (h : ∀ x ∈ a, ∀ y ∈ b, key x ≤ key y) : Srt key (a ++ b) := List.pairwise_append.2 ⟨ha, hb, h⟩
theorem Srt.left {a b : List α} (h : Srt key (a ++ b)) : Srt key a := (List.pairwise_append.1 h).1
theorem Srt.right {a b : List α} (h : Srt key (a ++ b)) : Srt key b := (List.pairwise_append.1 h).2.1
theorem Srt.cross {a b : List α} (h : Srt key (a ++ b)) : ∀ x ∈ a, ∀ y ∈ b, key x ≤ key y := (List.pairwise_append.1 h).2.2
theorem Srt.nil : Srt key ([] : List α) := List.Pairwise.nil
theorem Srt.one (x : α) : Srt key [x] := List.pairwise_singleton _ _
/-- putting one into its place, a step -/
theorem Sam.step {u v : List α} {x y : α} (h : key x < key y) : Sam key (u ++ [y] ++ x :: v) (u ++ x :: y :: v) := by
  have h1 : Sam key ([y] ++ [x]) ([x] ++ [y]) := Sam.swap fun a ha b hb => by
    rw [List.mem_singleton.1 ha, List.mem_singleton.1 hb]; omega
  have h2 := ((Sam.rfl' (key := key) (a := u)).app h1).app (Sam.rfl' (a := v))
  simpa using h2
/-- the merge of two, ties from the left one -/
def mrg (key : α → Int) : List α → List α → List α
  | [], m => m
  | l, [] => l
  | x :: l, y :: m => if key y < key x then y :: mrg key (x :: l) m else x :: mrg key l (y :: m)
termination_by l m => l.length + m.length
theorem mrg_nil_left (m : List α) : mrg key [] m = m := by unfold mrg; rfl
theorem mrg_nil_right (l : List α) : mrg key l [] = l := by cases l <;> (unfold mrg; rfl)
theorem mrg_cons (x : α) (l : List α) (y : α) (m : List α) : mrg key (x :: l) (y :: m) = if key y < key x then y :: mrg key (x :: l) m else x :: mrg key l (y :: m) := by
  conv => lhs; unfold mrg
theorem mrg_mem (z : α) (l m : List α) : z ∈ mrg key l m → z ∈ l ∨ z ∈ m := by
  induction l, m using mrg.induct key with
  | case1 m => intro h; rw [mrg_nil_left] at h; exact .inr h
  | case2 l _ => intro h; rw [mrg_nil_right] at h; exact .inl h
  | case3 x l y m hlt ih =>
    intro h
    rw [mrg_cons, if_pos hlt] at h
    rcases List.mem_cons.1 h with e | e
    · exact .inr (by rw [e]; exact List.mem_cons_self)
    · rcases ih e with e | e
      · exact .inl e
      · exact .inr (List.mem_cons_of_mem _ e)
  | case4 x l y m hlt ih =>
    intro h
    rw [mrg_cons, if_neg hlt] at h
    rcases List.mem_cons.1 h with e | e
    · exact .inl (by rw [e]; exact List.mem_cons_self)
    · rcases ih e with e | e
      · exact .inl (List.mem_cons_of_mem _ e)
      · exact .inr e
theorem mrg_srt (l m : List α) (hl : Srt key l) (hm : Srt key m) : Srt key (mrg key l m) := by
  induction l, m using mrg.induct key with
  | case1 m => rw [mrg_nil_left]; exact hm
  | case2 l _ => rw [mrg_nil_right]; exact hl
  | case3 x l y m hlt ih =>
    rw [mrg_cons, if_pos hlt]
    refine List.pairwise_cons.2 ⟨fun z hz => ?_, ih hl (List.pairwise_cons.1 hm).2⟩
    rcases mrg_mem z _ _ hz with e | e
    · rcases List.mem_cons.1 e with e | e
      · rw [e]; omega
      · have := (List.pairwise_cons.1 hl).1 z e; omega
    · exact (List.pairwise_cons.1 hm).1 z e
  | case4 x l y m hlt ih =>
    rw [mrg_cons, if_neg hlt]
    refine List.pairwise_cons.2 ⟨fun z hz => ?_, ih (List.pairwise_cons.1 hl).2 hm⟩
    rcases mrg_mem z _ _ hz with e | e
    · exact (List.pairwise_cons.1 hl).1 z e
    · rcases List.mem_cons.1 e with e | e
      · rw [e]; omega
      · have := (List.pairwise_cons.1 hm).1 z e; omega
theorem mrg_sam (l m : List α) (hl : Srt key l) : Sam key (l ++ m) (mrg key l m) := by
  induction l, m using mrg.induct key with
  | case1 m => rw [mrg_nil_left]; exact Sam.rfl'
  | case2 l _ => rw [mrg_nil_right, List.append_nil]; exact Sam.rfl'
  | case3 x l y m hlt ih =>
    rw [mrg_cons, if_pos hlt]
    have h1 : Sam key ((x :: l) ++ [y]) ([y] ++ (x :: l)) := Sam.swap fun a ha b hb => by
      rw [List.mem_singleton.1 hb]
      rcases List.mem_cons.1 ha with e | e
      · rw [e]; omega
      · have := (List.pairwise_cons.1 hl).1 a e; omega
    have h2 := (h1.app (Sam.rfl' (a := m)))
    have h3 := (Sam.rfl' (key := key) (a := [y])).app (ih hl)
    refine Sam.trans (b := [y] ++ ((x :: l) ++ m)) ?_ h3
    simpa using h2
  | case4 x l y m hlt ih =>
    rw [mrg_cons, if_neg hlt]
    exact (Sam.rfl' (key := key) (a := [x])).app (ih (List.pairwise_cons.1 hl).2)
/-- what a stable sort of two sorted ones, one behind the other, is -/
theorem mrg_uniq {l m a : List α} (hl : Srt key l) (hm : Srt key m) (ha : Srt key a) (h : Sam key (l ++ m) a) : a = mrg key l m :=
  Srt.uniq ha (mrg_srt l m hl hm) (h.symm.trans (mrg_sam l m hl))
theorem mrg_three {l m n : List α} (hl : Srt key l) (hm : Srt key m) (hn : Srt key n) : mrg key (mrg key l m) n = mrg key l (mrg key m n) :=
  Srt.uniq (mrg_srt _ _ (mrg_srt _ _ hl hm) hn) (mrg_srt _ _ hl (mrg_srt _ _ hm hn))
    (((mrg_sam _ _ (mrg_srt _ _ hl hm)).symm.trans ((mrg_sam l m hl).symm.app Sam.rfl')).trans
      ((show Sam key (l ++ m ++ n) (l ++ (m ++ n)) by rw [List.append_assoc]; exact Sam.rfl').trans ((Sam.rfl'.app (mrg_sam m n hm)).trans (mrg_sam _ _ hl))))
/-- a rotation that merges: the strictly less ones come to the front -/
theorem merge_split {u v x y : List α} (huv : Srt key (u ++ v)) (hxy : Srt key (x ++ y)) (h1 : ∀ a ∈ v, ∀ b ∈ x, key b < key a) :
    Sam key (u ++ v ++ (x ++ y)) (u ++ x ++ (v ++ y)) := by
  have h := ((Sam.rfl' (key := key) (a := u)).app (Sam.swap (u := v) (v := x) fun a ha b hb => by have := h1 a ha b hb; omega)).app (Sam.rfl' (a := y))
  simpa using h
end
end Go.Proofs.Ytblalidpeccabab.Rw
