/- Events in which each thread takes rising locks alone, and gives all back: what Order and Rank tell of them; in plain words. -/
import Derived.Test.YtlgkcjkicankmaaLockL
namespace Go.Proofs.Ytlgkcjkicankmaa.Lk
open Go Go.RowKit Go.Proofs.Ytlgkcjkicankmaa.PLockupEither
set_option linter.unusedVariables false
set_option linter.unusedSimpArgs false

def lockE (t : Int) (own : List Int) : List Ev := own.map (fun n => ⟨13, t, n⟩)
def freeE (t : Int) (own : List Int) : List Ev := own.map (fun n => ⟨14, t, n⟩)
def Rise (own : List Int) : Prop := own.Pairwise (· < ·) ∧ ∀ x ∈ own, 0 ≤ x ∧ x < 16
/-- n blocks, one behind the other -/
inductive Blks : Nat → List Ev → Prop where
  | nil : Blks 0 []
  | snoc {n : Nat} {l : List Ev} (t : Int) {own : List Int} : Blks n l → Rise own → own.length ≤ 3 → Blks (n + 1) (l ++ lockE t own ++ freeE t own)
theorem Blks.len {n : Nat} {l : List Ev} (h : Blks n l) : l.length ≤ 6 * n := by
  induction h with
  | nil => simp
  | snoc t _ _ h3 ih =>
    rw [List.length_append, List.length_append]
    unfold lockE freeE
    rw [List.length_map, List.length_map]
    omega
theorem evFold_append : ∀ (l m : List Ev) (g : Int → List Int) (out : List S32), evFold (l ++ m) g out = evFold m (evFold l g out).1 (evFold l g out).2
  | [], m, g, out => rfl
  | x :: l, m, g, out => by
    rw [List.cons_append]
    simp only [evFold]
    exact evFold_append l m _ _
def GoodP (p : S32) : Prop := 0 ≤ p.f0 ∧ p.f0 < p.f1 ∧ p.f1 < 16
theorem locks_law (t : Int) : ∀ (b a : List Int) (g : Int → List Int) (out : List S32), (a ++ b).Pairwise (· < ·) → (∀ x ∈ a ++ b, 0 ≤ x ∧ x < 16) → (a ++ b).length ≤ 3 → (∀ u, g u = if u = t then a else []) → (∀ p ∈ out, GoodP p) →
    (∀ u, (evFold (lockE t b) g out).1 u = if u = t then a ++ b else []) ∧ (∀ p ∈ (evFold (lockE t b) g out).2, GoodP p) ∧ (evFold (lockE t b) g out).2.length ≤ out.length + 2 * b.length
  | [], a, g, out, hp, hr, hl, hg, ho => ⟨fun u => by rw [List.append_nil]; exact hg u, ho, by simp [lockE, evFold]⟩
  | x :: b, a, g, out, hp, hr, hl, hg, ho => by
    have hga : g t = a := by rw [hg, if_pos rfl]
    have hax : ∀ n ∈ a, n < x := fun n hn => (List.pairwise_append.1 hp).2.2 n hn x List.mem_cons_self
    have hxa : x ∉ a := fun h => by have := hax x h; omega
    have hap : a ++ x :: b = a ++ [x] ++ b := by simp
    have hst : evStep g out ⟨13, t, x⟩ = (updL g t (a ++ [x]), out ++ a.map (fun n => ⟨n, x⟩)) := by
      unfold evStep
      rw [if_pos rfl]
      simp only
      rw [hga, if_neg hxa]
      congr 2
      congr 1
      refine List.filter_eq_self.2 fun n hn => ?_
      have := hax n hn
      simp
      omega
    rw [hap] at hp hr hl ⊢
    have hal : a.length ≤ 2 := by rw [List.length_append, List.length_append] at hl; simp at hl; omega
    obtain ⟨h1, h2, h3⟩ := locks_law t b (a ++ [x]) (updL g t (a ++ [x])) (out ++ a.map (fun n => ⟨n, x⟩)) hp hr hl (fun u => by
      unfold updL
      by_cases hu : u = t
      · rw [if_pos hu, if_pos hu]
      · rw [if_neg hu, if_neg hu, hg, if_neg hu]) (fun p hpo => by
      rcases List.mem_append.1 hpo with h | h
      · exact ho p h
      · obtain ⟨n, hn, rfl⟩ := List.mem_map.1 h
        exact ⟨(hr n (List.mem_append_left _ (List.mem_append_left _ hn))).1, hax n hn, (hr x (List.mem_append_left _ (List.mem_append_right _ (List.mem_singleton.2 rfl)))).2⟩)
    have he : evFold (lockE t (x :: b)) g out = evFold (lockE t b) (updL g t (a ++ [x])) (out ++ a.map (fun n => ⟨n, x⟩)) := by
      show evFold (lockE t b) (evStep g out ⟨13, t, x⟩).1 (evStep g out ⟨13, t, x⟩).2 = _
      rw [hst]
    rw [he]
    refine ⟨h1, h2, ?_⟩
    rw [List.length_append, List.length_map] at h3
    rw [List.length_cons]
    omega
theorem frees_law (t : Int) : ∀ (b : List Int) (g : Int → List Int) (out : List S32), (∀ u, g u = if u = t then b else []) → (∀ u, (evFold (freeE t b) g out).1 u = []) ∧ (evFold (freeE t b) g out).2 = out
  | [], g, out, hg => ⟨fun u => by have h := hg u; rw [ite_self] at h; exact h, rfl⟩
  | x :: b, g, out, hg => by
    have hgt : g t = x :: b := by rw [hg, if_pos rfl]
    have hst : evStep g out ⟨14, t, x⟩ = (updL g t b, out) := by
      unfold evStep
      rw [if_neg (show ¬ (14 : Int) = 13 by decide), if_pos ⟨rfl, by show x ∈ g t; rw [hgt]; exact List.mem_cons_self⟩]
      show (updL g t ((g t).erase x), out) = _
      rw [hgt, List.erase_cons_head]
    have he : evFold (freeE t (x :: b)) g out = evFold (freeE t b) (updL g t b) out := by
      show evFold (freeE t b) (evStep g out ⟨14, t, x⟩).1 (evStep g out ⟨14, t, x⟩).2 = _
      rw [hst]
    rw [he]
    refine frees_law t b _ out fun u => ?_
    unfold updL
    by_cases hu : u = t
    · rw [if_pos hu, if_pos hu]
    · rw [if_neg hu, if_neg hu, hg, if_neg hu]
theorem Blks.fold {n : Nat} {l : List Ev} (h : Blks n l) : (∀ u, (evFold l (fun _ => []) []).1 u = []) ∧ (∀ p ∈ (evFold l (fun _ => []) []).2, GoodP p) ∧ (evFold l (fun _ => []) []).2.length ≤ 6 * n := by
  induction h with
  | nil => exact ⟨fun _ => rfl, (fun p hp => by cases hp), by simp [evFold]⟩
  | @snoc n l t own _ hr h3 ih =>
    obtain ⟨i1, i2, i3⟩ := ih
    obtain ⟨a1, a2, a3⟩ := locks_law t own [] (evFold l (fun _ => []) []).1 (evFold l (fun _ => []) []).2 hr.1 hr.2 h3 (fun u => by rw [i1]; split <;> rfl) i2
    rw [evFold_append, evFold_append]
    rw [List.nil_append] at a1
    obtain ⟨b1, b2⟩ := frees_law t own _ (evFold (lockE t own) (evFold l (fun _ => []) []).1 (evFold l (fun _ => []) []).2).2 a1
    refine ⟨b1, ?_, ?_⟩
    · rw [b2]; exact a2
    · rw [b2]; omega
theorem dd2_sub : ∀ (l : List S32) (p x : S32), x ∈ dd2 p l → x ∈ l
  | [], p, x, h => by cases h
  | y :: l, p, x, h => by
    simp only [dd2] at h
    split at h
    · exact List.mem_cons_of_mem _ (dd2_sub l y x h)
    · rcases List.mem_cons.1 h with e | h
      · rw [e]; exact List.mem_cons_self
      · exact List.mem_cons_of_mem _ (dd2_sub l y x h)
theorem dd2_len : ∀ (l : List S32) (p : S32), (dd2 p l).length ≤ l.length
  | [], p => Nat.le_refl _
  | y :: l, p => by
    have := dd2_len l y
    simp only [dd2]
    split
    · rw [List.length_cons]; omega
    · rw [List.length_cons, List.length_cons]; omega
theorem dd_sub {l : List S32} {x : S32} (h : x ∈ dd l) : x ∈ l := by
  cases l with
  | nil => cases h
  | cons y l =>
    rcases List.mem_cons.1 h with e | h
    · rw [e]; exact List.mem_cons_self
    · exact List.mem_cons_of_mem _ (dd2_sub l y x h)
theorem dd_len (l : List S32) : (dd l).length ≤ l.length := by
  cases l with
  | nil => exact Nat.le_refl _
  | cons y l =>
    have := dd2_len l y
    simp only [dd, List.length_cons]
    omega
def sixteen : List Int := (List.range 16).map (fun i : Nat => (i : Int))
theorem mem_sixteen {n : Int} (h : 0 ≤ n ∧ n < 16) : n ∈ sixteen := by
  unfold sixteen
  simp
  exact ⟨n.toNat, by omega, by omega⟩
theorem min_of : ∀ (S : List Int), S ≠ [] → ∃ m ∈ S, ∀ x ∈ S, m ≤ x
  | [x], _ => ⟨x, List.mem_cons_self, fun y hy => by rw [List.mem_singleton.1 hy]; exact Int.le_refl _⟩
  | x :: y :: l, _ => by
    obtain ⟨m, hm, h⟩ := min_of (y :: l) (by simp)
    by_cases hxm : x ≤ m
    · refine ⟨x, List.mem_cons_self, fun z hz => ?_⟩
      rcases List.mem_cons.1 hz with e | hz
      · rw [e]; exact Int.le_refl _
      · have := h z hz; omega
    · refine ⟨m, List.mem_cons_of_mem _ hm, fun z hz => ?_⟩
      rcases List.mem_cons.1 hz with e | hz
      · rw [e]; omega
      · exact h z hz
/-- of pairs that rise there is an order -/
theorem rise_told (o : List S32) (h : ∀ p ∈ o, GoodP p) {r : List Int} {ok : Bool} (ht : Told o r ok) : ok = true ∧ r.length ≤ 16 := by
  rcases ht with ⟨rfl, hd, hm, _⟩ | ⟨_, _, S, hS, hSc⟩
  · refine ⟨rfl, ?_⟩
    have h1 := nodup_le r sixteen hd (fun x hx => by
      obtain ⟨p, hp, he⟩ := mem_allP.1 ((hm x).1 hx)
      have := h p hp
      unfold GoodP at this
      refine mem_sixteen ?_
      rcases he with rfl | rfl <;> omega)
    have h2 : sixteen.length = 16 := by decide
    omega
  · exfalso
    obtain ⟨m, hm, hmin⟩ := min_of S hS
    obtain ⟨p, hp, h1, h2⟩ := hSc m hm
    have h3 := h p hp
    have h4 := hmin _ h2
    unfold GoodP at h3
    omega
end Go.Proofs.Ytlgkcjkicankmaa.Lk
