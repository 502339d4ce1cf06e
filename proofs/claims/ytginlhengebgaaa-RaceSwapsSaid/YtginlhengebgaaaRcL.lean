/- Races: one lock around all reads and writes; who races may come in either order. Plain Lean. -/
import Derived.Test.YtginlhengebgaaaRcJ
namespace Go.Proofs.Ytginlhengebgaaa.Ck
open Go Go.RowKit Go.Proofs.Ytginlhengebgaaa.PLockupEither
set_option linter.unusedVariables false
set_option linter.unusedSimpArgs false
/-! one lock -/
theorem head_gt (s : Wv) (j : Int) (x : CE) (a : Int) : (wHead s j x).g true a = s.g true a := by
  unfold wHead Wv.setO Wv.setG Wv.all Wv.may
  cases s.o false x.t <;> simp [Wv.one]
theorem raw_free (l : List CE) (x y : CE) (hx : x.k = 14) (hy : y.k = 13) (ha : x.a = y.a) (m : List CE) : (⟨(l.length : Int), (l.length : Int) + 1⟩ : S32) ∈ raw (l ++ [x] ++ [y] ++ m) := by
  have h1 : (l.length : Int) ∈ (wFold (l ++ [x]) 0 w0).g true y.a := by
    rw [raw_snoc, ← ha]
    unfold wStep
    simp only [hx]
    rw [if_neg (by decide), if_neg (by decide), if_neg (by decide), if_pos trivial]
    simp [Wv.setG]
  obtain ⟨e, he, _⟩ := raw_prefix (l ++ [x] ++ [y]) m
  rw [he]
  refine List.mem_append.2 (.inl ?_)
  unfold raw
  rw [raw_snoc (l ++ [x]) y]
  unfold wStep
  simp only [hy]
  rw [if_neg (by decide), if_neg (by decide), if_neg (by decide), if_neg (by decide), if_pos trivial]
  refine List.mem_append.2 (.inr (List.mem_map.2 ⟨(l.length : Int), ?_, ?_⟩))
  · rw [head_gt]; exact h1
  · simp
/-- each leads to the next one -/
def Chain (l : List CE) : Prop := ∀ p, p + 1 < l.length → (l.getD p zC).t = (l.getD (p + 1) zC).t ∨ ((l.getD p zC).k = 14 ∧ (l.getD (p + 1) zC).k = 13 ∧ (l.getD p zC).a = (l.getD (p + 1) zC).a)
theorem chain_edge {l : List CE} (h : Chain l) (p : Nat) (hp : p + 1 < l.length) : (⟨(p : Int), ((p + 1 : Nat) : Int)⟩ : S32) ∈ raw l := by
  rcases h p hp with h | ⟨h1, h2, h3⟩
  · obtain ⟨i, h1, h2, _, h4⟩ := raw_prog l (p + 1) p hp (by omega) h
    obtain rfl : i = p := by omega
    exact h4
  · have e0 : l.getD p zC = l[p]'(by omega) := by simp [List.getD_eq_getElem?_getD, show p < l.length by omega]
    have e1 : l.getD (p + 1) zC = l[p + 1] := by simp [List.getD_eq_getElem?_getD, hp]
    rw [e0] at h1 h3
    rw [e1] at h2 h3
    have hs : l = l.take p ++ [l[p]'(by omega)] ++ [l[p + 1]] ++ l.drop (p + 1 + 1) := by
      rw [← List.take_succ_eq_append_getElem (by omega : p < l.length), ← List.take_succ_eq_append_getElem hp, List.take_append_drop]
    have h4 := raw_free (l.take p) (l[p]'(by omega)) (l[p + 1]) h1 h2 h3 (l.drop (p + 1 + 1))
    rw [← hs, List.length_take, Nat.min_eq_left (by omega)] at h4
    exact h4
theorem chain_reach {l : List CE} {E : List S32} (hE : IsE l E) (h : Chain l) (i : Nat) : ∀ n, i + n < l.length → Reach (EdN E) i (i + n)
  | 0, _ => .refl _
  | n + 1, hn => (chain_reach hE h i n (by omega)).trans (.one ((hE.2 _).2 (chain_edge h (i + n) hn)))
theorem chain_races {l : List CE} {th : Nat} {E : List S32} (hE : IsE l E) (ht : ∀ x ∈ l, 0 ≤ x.t ∧ x.t < (th : Int)) (h : Chain l) : racesF l th E = [] := by
  refine List.eq_nil_iff_forall_not_mem.2 (fun p hp => ?_)
  obtain ⟨i, j, rfl, hij, hj, hb⟩ := mem_races.1 hp
  unfold rcB at hb
  rw [Bool.and_eq_true, decide_eq_true_iff] at hb
  have h1 := (reach_iff hE ht (show i < l.length by omega) hj).2 (by
    have := chain_reach hE h i (j - i) (by omega)
    rwa [show i + (j - i) = j by omega] at this)
  omega
/-- the events that one number of the lists makes -/
def tri (t k s : Int) : List CE := [⟨13, t, 5, 0⟩, ⟨k, t, s, 0⟩, ⟨14, t, 5, 0⟩]
def tris (f : Nat → Int × Int × Int) (n : Nat) : List CE := (List.range n).flatMap (fun i => tri (f i).1 (f i).2.1 (f i).2.2)
theorem tris_succ (f : Nat → Int × Int × Int) (n : Nat) : tris f (n + 1) = tris f n ++ tri (f n).1 (f n).2.1 (f n).2.2 := by
  unfold tris
  rw [List.range_succ, List.flatMap_append]
  simp
theorem tris_len (f : Nat → Int × Int × Int) : ∀ n, (tris f n).length = 3 * n
  | 0 => rfl
  | n + 1 => by rw [tris_succ, List.length_append, tris_len f n]; simp [tri]; omega
theorem tris_t {f : Nat → Int × Int × Int} {th : Nat} (h : ∀ i, 0 ≤ (f i).1 ∧ (f i).1 < (th : Int)) (n : Nat) : ∀ x ∈ tris f n, 0 ≤ x.t ∧ x.t < (th : Int) := by
  intro x hx
  obtain ⟨i, _, hi⟩ := List.mem_flatMap.1 hx
  unfold tri at hi
  simp only [List.mem_cons, List.not_mem_nil, or_false] at hi
  rcases hi with rfl | rfl | rfl <;> exact h i
theorem getD_left {a b : List CE} {p : Nat} (h : p < a.length) : (a ++ b).getD p zC = a.getD p zC := by
  simp [List.getD_eq_getElem?_getD, List.getElem?_append_left h]
theorem getD_right {a b : List CE} {p : Nat} (h : a.length ≤ p) : (a ++ b).getD p zC = b.getD (p - a.length) zC := by
  simp [List.getD_eq_getElem?_getD, List.getElem?_append_right h]
theorem tris_last (f : Nat → Int × Int × Int) (n : Nat) : ((tris f (n + 1)).getD (3 * n + 2) zC).k = 14 ∧ ((tris f (n + 1)).getD (3 * n + 2) zC).a = 5 := by
  rw [tris_succ, getD_right (by rw [tris_len]; omega), tris_len, show 3 * n + 2 - 3 * n = 2 by omega]
  exact ⟨rfl, rfl⟩
theorem tris_chain (f : Nat → Int × Int × Int) : ∀ n, Chain (tris f n)
  | 0 => fun p hp => by rw [tris_len] at hp; omega
  | n + 1 => fun p hp => by
    rw [tris_len] at hp
    rcases Nat.lt_or_ge (p + 1) (3 * n) with h1 | h1
    · rw [tris_succ, getD_left (by rw [tris_len]; omega), getD_left (by rw [tris_len]; omega)]
      exact tris_chain f n p (by rw [tris_len]; omega)
    · rcases Nat.lt_or_ge p (3 * n) with h2 | h2
      · right
        obtain ⟨m, rfl⟩ : ∃ m, n = m + 1 := ⟨n - 1, by omega⟩
        obtain rfl : p = 3 * m + 2 := by omega
        rw [tris_succ f (m + 1), getD_left (by rw [tris_len]; omega), getD_right (by rw [tris_len]; omega), tris_len, show 3 * m + 2 + 1 - 3 * (m + 1) = 0 by omega]
        exact ⟨(tris_last f m).1, rfl, (tris_last f m).2⟩
      · left
        rw [tris_succ, getD_right (by rw [tris_len]; omega), getD_right (by rw [tris_len]; omega), tris_len]
        have : p - 3 * n = 0 ∨ p - 3 * n = 1 := by omega
        rcases this with h3 | h3
        · rw [h3, show p + 1 - 3 * n = 1 by omega]; rfl
        · rw [h3, show p + 1 - 3 * n = 2 by omega]; rfl
/-! either order -/
def ordK (F O : List Int) (k : Nat) : List Int := F ++ (O.take k).filter (fun x => decide (x ∉ F))
def ordF (F O : List Int) : List Int := F ++ O.filter (fun x => decide (x ∉ F))
theorem ordK_all (F O : List Int) {k : Nat} (h : O.length ≤ k) : ordK F O k = ordF F O := by unfold ordK ordF; rw [List.take_of_length_le h]
theorem ordK_zero (F O : List Int) : ordK F O 0 = F := by simp [ordK]
theorem ordK_len (F O : List Int) (k : Nat) : F.length ≤ (ordK F O k).length ∧ (ordK F O k).length ≤ F.length + k := by
  unfold ordK
  rw [List.length_append]
  have h1 := List.length_filter_le (fun x => decide (x ∉ F)) (O.take k)
  have h2 : (O.take k).length ≤ k := by rw [List.length_take]; omega
  omega
theorem ordK_has {F O : List Int} (hO : O.Pairwise (· < ·)) {k : Nat} (hk : k < O.length) : O[k] ∈ ordK F O k ↔ O[k] ∈ F := by
  unfold ordK
  rw [List.mem_append]
  constructor
  · rintro (h | h)
    · exact h
    · exfalso
      obtain ⟨j, hj, e⟩ := List.getElem_of_mem (List.mem_filter.1 h).1
      rw [List.length_take] at hj
      rw [List.getElem_take] at e
      have := (List.pairwise_iff_getElem.1 hO) j k (by omega) hk (by omega)
      omega
  · exact .inl
theorem ordK_in {F O : List Int} {k : Nat} (hk : k < O.length) (h : O[k] ∈ F) : ordK F O (k + 1) = ordK F O k := by
  unfold ordK
  rw [List.take_succ_eq_append_getElem hk, List.filter_append]
  simp [h]
theorem ordK_new {F O : List Int} {k : Nat} (hk : k < O.length) (h : O[k] ∉ F) : ordK F O (k + 1) = ordK F O k ++ [O[k]] := by
  unfold ordK
  rw [List.take_succ_eq_append_getElem hk, List.filter_append, List.append_assoc]
  simp [h]
theorem rise_last {l : List Int} (hr : l.Pairwise (· < ·)) {m : Int} (hm : m ∈ l) (hx : ∀ x ∈ l, x ≤ m) : ∃ s, l = s ++ [m] := by
  obtain ⟨s, t, rfl⟩ := List.append_of_mem hm
  cases t with
  | nil => exact ⟨s, rfl⟩
  | cons y t =>
    exfalso
    have h1 := (List.pairwise_append.1 hr).2.1
    have h2 := (List.pairwise_cons.1 h1).1 y List.mem_cons_self
    have h3 := hx y (by simp)
    omega
/-- F: all that lead to one; O: all that lead to the other one, z -/
structure SwapOk (l : List CE) (th : Nat) (E : List S32) (F O : List Int) (y z : Int) : Prop where
  fpos : 0 < F.length
  opos : 0 < O.length
  rise : O.Pairwise (· < ·)
  lastF : F.getD (F.length - 1) 0 = y
  last : (ordF F O).getD ((ordF F O).length - 1) 0 = z
  rng : ∀ x ∈ ordF F O, 0 ≤ x ∧ x < (l.length : Int)
  bef : ∀ a b (hb : b < (ordF F O).length) (hab : a < b), bef l th E ((ordF F O)[b]).toNat ((ordF F O)[a]'(by omega)).toNat = false
  len : (ordF F O).length ≤ 2 * l.length
  lf : F.length ≤ l.length
  lo : O.length ≤ l.length
theorem into_rng {l : List CE} {th : Nat} {E : List S32} (hE : IsE l E) (ht : ∀ x ∈ l, 0 ≤ x.t ∧ x.t < (th : Int)) {i : Nat} (hi : i < l.length) : ∀ x ∈ intoF E (i : Int), 0 ≤ x ∧ x ≤ (i : Int) := by
  intro x hx
  obtain ⟨a, rfl, ha⟩ := (intoF_mem hE.nat hE.1 x).1 hx
  have := reach_up hE ht hi ha
  omega
theorem into_len {l : List CE} {th : Nat} {E : List S32} (hE : IsE l E) (ht : ∀ x ∈ l, 0 ≤ x.t ∧ x.t < (th : Int)) {i : Nat} (hi : i < l.length) : (intoF E (i : Int)).length ≤ l.length := by
  have h1 := rise_count (intoF E (i : Int)) 0 (l.length : Int) (intoF_rise E _) (fun x hx => by have := into_rng hE ht hi x hx; omega)
  omega
theorem swap_ok {l : List CE} {th : Nat} {E : List S32} (hE : IsE l E) (ht : ∀ x ∈ l, 0 ≤ x.t ∧ x.t < (th : Int)) {i j : Nat} (hi : i < l.length) (hj : j < l.length) (h : prvB l th E i j = true) : SwapOk l th E (intoF E (i : Int)) (intoF E (j : Int)) (i : Int) (j : Int) := by
  obtain ⟨h1, h2, h3, h4⟩ := (prv_iff hE ht hi hj).1 h
  have mi : ∀ x, x ∈ intoF E (i : Int) ↔ ∃ a : Nat, x = (a : Int) ∧ Reach (EdN E) a i := fun x => intoF_mem hE.nat hE.1 x
  have mj : ∀ x, x ∈ intoF E (j : Int) ↔ ∃ a : Nat, x = (a : Int) ∧ Reach (EdN E) a j := fun x => intoF_mem hE.nat hE.1 x
  have li := into_rng hE ht hi
  have lj := into_rng hE ht hj
  have ni := into_len hE ht hi
  have nj := into_len hE ht hj
  have pi := intoF_pos E (i : Int)
  have pj := intoF_pos E (j : Int)
  have ri := intoF_rise E (i : Int)
  have rj := intoF_rise E (j : Int)
  have ii : (i : Int) ∈ intoF E (i : Int) := (mi _).2 ⟨i, rfl, .refl i⟩
  have jj : (j : Int) ∈ intoF E (j : Int) := (mj _).2 ⟨j, rfl, .refl j⟩
  have ji : (j : Int) ∉ intoF E (i : Int) := fun hx => by
    obtain ⟨a, e, ha⟩ := (mi _).1 hx
    obtain rfl : j = a := by omega
    exact h3 ha
  generalize intoF E (i : Int) = F at *
  generalize intoF E (j : Int) = O at *
  obtain ⟨sF, hsF⟩ := rise_last ri ii (fun x hx => (li x hx).2)
  obtain ⟨sO, hsO⟩ := rise_last rj jj (fun x hx => (lj x hx).2)
  have hrng : ∀ x ∈ ordF F O, 0 ≤ x ∧ x < (l.length : Int) := fun x hx => by
    rcases List.mem_append.1 hx with hx | hx
    · have := li x hx; omega
    · have := lj x (List.mem_filter.1 hx).1; omega
  refine ⟨pi, pj, rj, ?_, ?_, hrng, ?_, ?_, ni, nj⟩
  · rw [hsF]; simp [List.getD_eq_getElem?_getD]
  · have : ordF F O = (F ++ sO.filter (fun x => decide (x ∉ F))) ++ [(j : Int)] := by
      unfold ordF
      conv => lhs; rw [hsO]
      rw [List.filter_append, List.append_assoc]
      congr 1
      simp [ji]
    rw [this]
    simp [List.getD_eq_getElem?_getD]
  · have hp : (ordF F O).Pairwise (fun y x => bef l th E x.toNat y.toNat = false) := by
      have hno : ∀ {x y : Int}, 0 ≤ x → 0 ≤ y → x < (l.length : Int) → y < (l.length : Int) → (¬ Reach (EdN E) x.toNat y.toNat) → bef l th E x.toNat y.toNat = false := fun {x y} hx hy hx' hy' hn => by
        rw [← Bool.not_eq_true, bef_reach hE ht (by omega) (by omega)]
        exact fun h => hn h.2
      have hlt : ∀ {x y : Int}, 0 ≤ x → 0 ≤ y → x < (l.length : Int) → y < (l.length : Int) → y < x → bef l th E x.toNat y.toNat = false := fun {x y} hx hy hx' hy' hyx =>
        hno hx hy hx' hy' (fun hr => by have := reach_up hE ht (show y.toNat < l.length by omega) hr; omega)
      refine List.pairwise_append.2 ⟨List.Pairwise.imp_of_mem (fun {y x} hy hx hyx => ?_) ri, List.Pairwise.imp_of_mem (fun {y x} hy hx hyx => ?_) (rj.filter _), fun y hy x hx => ?_⟩
      · have := li x hx
        have := li y hy
        exact hlt (by omega) (by omega) (by omega) (by omega) hyx
      · have := lj x (List.mem_filter.1 hx).1
        have := lj y (List.mem_filter.1 hy).1
        exact hlt (by omega) (by omega) (by omega) (by omega) hyx
      · have hxn := of_decide_eq_true (List.mem_filter.1 hx).2
        have := lj x (List.mem_filter.1 hx).1
        have := li y hy
        refine hno (by omega) (by omega) (by omega) (by omega) (fun hr => hxn ?_)
        obtain ⟨a, rfl, ha⟩ := (mi y).1 hy
        rw [Int.toNat_natCast] at hr
        exact (mi x).2 ⟨x.toNat, by omega, hr.trans ha⟩
    intro a b hb hab
    exact List.pairwise_iff_getElem.1 hp a b (by omega) hb hab
  · unfold ordF
    rw [List.length_append]
    have := List.length_filter_le (fun x => decide (x ∉ F)) O
    omega
end Go.Proofs.Ytginlhengebgaaa.Ck
