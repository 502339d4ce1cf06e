/- What Ring tells, in plain words. -/
import Derived.Test.YtlgkcjkicankmaaLockL
namespace Go.Proofs.Ytlgkcjkicankmaa.Lk
open Go Go.RowKit Go.Proofs.Ytlgkcjkicankmaa.PLockupEither
set_option linter.unusedVariables false
set_option linter.unusedSimpArgs false

def itF (f : Int → Int) : Nat → Int → Int
  | 0, x => x
  | n + 1, x => f (itF f n x)
theorem itF_add (f : Int → Int) (x : Int) : ∀ m n, itF f (m + n) x = itF f m (itF f n x)
  | 0, n => by rw [Nat.zero_add]; rfl
  | m + 1, n => by rw [show m + 1 + n = (m + n) + 1 by omega]; show f (itF f (m + n) x) = f (itF f m (itF f n x)); rw [itF_add f x m n]
/-- x comes back to itself -/
def Per (ks : List Int) (f : Int → Int) (x : Int) : Prop := ∃ n, (∀ i, i ≤ n → itF f i x ∈ ks) ∧ itF f (n + 1) x = x
theorem linkF_law : ∀ (l : List S30) (ks : List Int) (f : Int → Int), ks.Nodup → (linkF l ks f).1 = 0 →
    (linkF l ks f).2.1 = ks ++ l.map (·.f0) ∧ (ks ++ l.map (·.f0)).Nodup ∧ (∀ p ∈ l, thr p.f0 = true ∧ thr p.f1 = true ∧ (linkF l ks f).2.2 p.f0 = p.f1) ∧ ∀ x, x ∉ l.map (·.f0) → (linkF l ks f).2.2 x = f x
  | [], ks, f, hd, h => ⟨by simp [linkF], by simpa using hd, (fun p hp => by cases hp), fun x _ => rfl⟩
  | p :: l, ks, f, hd, h => by
    simp only [linkF] at h ⊢
    by_cases h1 : (thr p.f0 && thr p.f1) = false
    · rw [if_pos h1] at h; exact absurd h (show (1 : Int) ≠ 0 by decide)
    · rw [if_neg h1] at h ⊢
      by_cases h2 : p.f0 ∈ ks
      · rw [if_pos h2] at h; exact absurd h (show (6 : Int) ≠ 0 by decide)
      · rw [if_neg h2] at h ⊢
        have hd2 : (ks ++ [p.f0]).Nodup := List.nodup_append.2 ⟨hd, by simp, fun a ha b hb => by rw [List.mem_singleton.1 hb]; exact fun e => h2 (e ▸ ha)⟩
        obtain ⟨e1, e2, e3, e4⟩ := linkF_law l (ks ++ [p.f0]) (upd f p.f0 p.f1) hd2 h
        have hap : ks ++ [p.f0] ++ l.map (·.f0) = ks ++ (p :: l).map (·.f0) := by simp
        rw [hap] at e1 e2
        have ht : thr p.f0 = true ∧ thr p.f1 = true := by simpa using h1
        have hpn : p.f0 ∉ l.map (·.f0) := by
          have h3 := (List.nodup_append.1 e2).2.1
          rw [List.map_cons] at h3
          exact (List.nodup_cons.1 h3).1
        refine ⟨e1, e2, fun q hq => ?_, fun x hx => ?_⟩
        · rcases List.mem_cons.1 hq with e | hq
          · subst e
            refine ⟨ht.1, ht.2, ?_⟩
            rw [e4 _ hpn]
            unfold upd
            rw [if_pos rfl]
          · exact e3 q hq
        · rw [List.map_cons, List.mem_cons, not_or] at hx
          rw [e4 x hx.2]
          unfold upd
          rw [if_neg hx.1]
def orb (f : Int → Int) (t : Int) (j : Nat) : List Int := (List.range j).map (fun i => itF f i t)
theorem orb_len (f : Int → Int) (t : Int) (j : Nat) : (orb f t j).length = j := by unfold orb; simp
theorem orb_snoc (f : Int → Int) (t : Int) (j : Nat) : orb f t (j + 1) = orb f t j ++ [itF f j t] := by unfold orb; rw [List.range_succ, List.map_append]; rfl
theorem mem_orb {f : Int → Int} {t x : Int} {j : Nat} : x ∈ orb f t j ↔ ∃ i, i < j ∧ itF f i t = x := by unfold orb; simp
theorem thr_iff {n : Int} : thr n = true ↔ 0 ≤ n ∧ n < 8 := by unfold thr; simp
def eight : List Int := (List.range 8).map (fun i : Nat => (i : Int))
theorem mem_eight {n : Int} : n ∈ eight ↔ 0 ≤ n ∧ n < 8 := by
  unfold eight
  simp
  constructor
  · rintro ⟨i, h1, h2⟩; omega
  · rintro ⟨h1, h2⟩; exact ⟨n.toNat, by omega, by omega⟩
theorem chase_law {ks : List Int} {f : Int → Int} (hk : ∀ x ∈ ks, thr x = true ∧ thr (f x) = true) (t : Int) : ∀ (k j : Nat), 20 ≤ k + j → (orb f t (j + 1)).Nodup → (∀ i, i < j → itF f i t ∈ ks) → (∀ i, 1 ≤ i → i ≤ j → itF f i t ≠ t) →
    ∃ res, chase ks f t k (orb f t (j + 1)) (itF f j t) = some res ∧ (∀ r, res = some r → ∃ n, n ≤ 8 ∧ r = orb f t (n + 1) ∧ itF f (n + 1) t = t ∧ ∀ i, i ≤ n → itF f i t ∈ ks) ∧ (res = none → ¬ Per ks f t)
  | k, j, hkj, hd, hin, hne => by
    have hj8 : j ≤ 8 := by
      by_cases hj : j = 0
      · omega
      · have h1 := nodup_le (orb f t (j + 1)) eight hd (fun x hx => by
          obtain ⟨i, hi, rfl⟩ := mem_orb.1 hx
          refine mem_eight.2 (thr_iff.1 ?_)
          cases i with
          | zero => exact (hk _ (hin 0 (by omega))).1
          | succ i => exact (hk _ (hin i (by omega))).2)
        rw [orb_len] at h1
        have h2 : eight.length = 8 := by decide
        omega
    cases k with
    | zero => omega
    | succ k =>
      simp only [chase]
      by_cases hx : itF f j t ∈ ks
      · rw [if_pos hx]
        by_cases ht : f (itF f j t) = t
        · rw [if_pos ht]
          refine ⟨_, rfl, fun r hr => ?_, fun h => by cases h⟩
          obtain rfl := Option.some.inj hr
          refine ⟨j, hj8, rfl, ht, fun i hi => ?_⟩
          by_cases hij : i = j
          · rw [hij]; exact hx
          · exact hin i (by omega)
        · rw [if_neg ht, if_pos (by rw [orb_len]; omega)]
          by_cases hm : f (itF f j t) ∈ orb f t (j + 1)
          · rw [if_pos hm]
            refine ⟨none, rfl, (fun r hr => by cases hr), fun _ => ?_⟩
            obtain ⟨i, hi, hie⟩ := mem_orb.1 hm
            have hi1 : 1 ≤ i := by
              rcases Nat.eq_zero_or_pos i with h | h
              · subst h; exact absurd hie.symm ht
              · exact h
            have hcyc : ∀ m, i ≤ m → ∃ i', i ≤ i' ∧ i' ≤ j ∧ itF f m t = itF f i' t := by
              intro m
              induction m with
              | zero => intro h; omega
              | succ m ih =>
                intro h
                by_cases hmi : i ≤ m
                · obtain ⟨i', h1, h2, h3⟩ := ih hmi
                  by_cases hij : i' = j
                  · refine ⟨i, Nat.le_refl _, by omega, ?_⟩
                    show f (itF f m t) = _
                    rw [h3, hij, hie]
                  · refine ⟨i' + 1, by omega, by omega, ?_⟩
                    show f (itF f m t) = f (itF f i' t)
                    rw [h3]
                · have : i = m + 1 := by omega
                  exact ⟨i, Nat.le_refl _, by omega, by rw [this]⟩
            rintro ⟨n, h1, h2⟩
            by_cases hnj : n + 1 ≤ j
            · exact hne (n + 1) (by omega) hnj h2
            · obtain ⟨i', h3, h4, h5⟩ := hcyc (n + 1) (by omega)
              exact hne i' (by omega) h4 (h5.symm.trans h2)
          · rw [if_neg hm]
            have e1 : orb f t (j + 1) ++ [f (itF f j t)] = orb f t (j + 1 + 1) := (orb_snoc f t (j + 1)).symm
            rw [e1]
            refine chase_law hk t k (j + 1) (by omega) ?_ (fun i hi => ?_) (fun i h1 h2 => ?_)
            · rw [← e1]
              exact List.nodup_append.2 ⟨hd, by simp, fun a ha b hb => by rw [List.mem_singleton.1 hb]; exact fun e => hm (e ▸ ha)⟩
            · by_cases hij : i = j
              · rw [hij]; exact hx
              · exact hin i (by omega)
            · by_cases hij : i = j + 1
              · subst hij; exact ht
              · exact hne i h1 (by omega)
      · rw [if_neg hx]
        refine ⟨none, rfl, (fun r hr => by cases hr), fun _ => ?_⟩
        rintro ⟨n, h1, h2⟩
        by_cases hjn : j ≤ n
        · exact hx (h1 j hjn)
        · exact hne (n + 1) (by omega) (by omega) h2
theorem chase_start {ks : List Int} {f : Int → Int} (hk : ∀ x ∈ ks, thr x = true ∧ thr (f x) = true) (t : Int) :
    ∃ res, chase ks f t 20 [t] t = some res ∧ (∀ r, res = some r → ∃ n, n ≤ 8 ∧ r = orb f t (n + 1) ∧ itF f (n + 1) t = t ∧ ∀ i, i ≤ n → itF f i t ∈ ks) ∧ (res = none → ¬ Per ks f t) :=
  chase_law hk t 20 0 (by omega) (by simp [orb]) (fun i hi => absurd hi (Nat.not_lt_zero _)) (fun i h1 h2 => by omega)
theorem tour_law {ks : List Int} {f : Int → Int} (hk : ∀ x ∈ ks, thr x = true ∧ thr (f x) = true) : ∀ (j : Nat) (t : Int), ∃ res, tourF 20 ks f j t = some res ∧
    (∀ r, res = some r → ∃ t0 n, n ≤ 8 ∧ t ≤ t0 ∧ (∀ z, t ≤ z → z < t0 → ¬ Per ks f z) ∧ r = orb f t0 (n + 1) ∧ itF f (n + 1) t0 = t0 ∧ ∀ i, i ≤ n → itF f i t0 ∈ ks) ∧ (res = none → ∀ z, t ≤ z → z < t + j → ¬ Per ks f z)
  | 0, t => ⟨none, rfl, (fun r h => by cases h), fun _ z h1 h2 => by omega⟩
  | j + 1, t => by
    obtain ⟨cr, h1, h2, h3⟩ := chase_start hk t
    simp only [tourF]
    rw [h1]
    cases cr with
    | some r =>
      refine ⟨some r, rfl, fun r' hr => ?_, fun h => by cases h⟩
      obtain rfl := Option.some.inj hr
      obtain ⟨n, e0, e1, e2, e3⟩ := h2 r rfl
      exact ⟨t, n, e0, Int.le_refl _, fun z h4 h5 => by omega, e1, e2, e3⟩
    | none =>
      obtain ⟨res, g1, g2, g3⟩ := tour_law hk j (t + 1)
      refine ⟨res, g1, fun r hr => ?_, fun hn z h4 h5 => ?_⟩
      · obtain ⟨t0, n, e0, e1, e2, e3⟩ := g2 r hr
        refine ⟨t0, n, e0, by omega, fun z h4 h5 => ?_, e3⟩
        by_cases hz : z = t
        · rw [hz]; exact h3 rfl
        · exact e2 z (by omega) h5
      · by_cases hz : z = t
        · rw [hz]; exact h3 rfl
        · exact g3 hn z (by omega) (by push_cast at h5; omega)
def prsOf (l : List S30) : List S32 := l.map (fun x => ⟨x.f1, x.f0⟩)
/-- r is a ring in l, its least one first -/
def RingIs (l : List S30) (r : List Int) : Prop := (∀ i (hi : i < r.length), (∃ p ∈ l, p.f0 = r[i] ∧ p.f1 = r[(i + 1) % r.length]'(Nat.mod_lt _ (by omega))) ∧ r[0]'(by omega) ≤ r[i])
theorem per_all {ks : List Int} {f : Int → Int} {t : Int} {n : Nat} (h1 : ∀ i, i ≤ n → itF f i t ∈ ks) (h2 : itF f (n + 1) t = t) : ∀ m, ∃ i, i ≤ n ∧ itF f m t = itF f i t
  | 0 => ⟨0, Nat.zero_le _, rfl⟩
  | m + 1 => by
    obtain ⟨i, hi, e⟩ := per_all h1 h2 m
    by_cases hin : i = n
    · exact ⟨0, Nat.zero_le _, by show f (itF f m t) = t; rw [e, hin]; exact h2⟩
    · exact ⟨i + 1, by omega, by show f (itF f m t) = f (itF f i t); rw [e]⟩
theorem per_shift {ks : List Int} {f : Int → Int} {t : Int} {n : Nat} (h1 : ∀ i, i ≤ n → itF f i t ∈ ks) (h2 : itF f (n + 1) t = t) (i : Nat) : Per ks f (itF f i t) :=
  ⟨n, fun k hk => by
    rw [← itF_add]
    obtain ⟨i', hi, e⟩ := per_all h1 h2 (k + i)
    rw [e]; exact h1 i' hi, by
    rw [← itF_add, Nat.add_comm (n + 1) i, itF_add, h2]⟩
theorem nodup_not {l : List Int} (h : ¬ l.Nodup) : ∃ i j, ∃ (hi : i < j) (hj : j < l.length), l[i] = l[j] := by
  by_cases hex : ∃ i j, ∃ (hi : i < j) (hj : j < l.length), l[i] = l[j]
  · exact hex
  · exfalso
    refine h (List.pairwise_iff_getElem.2 fun i j hi hj hij e => hex ⟨i, j, hij, hj, e⟩)
/-- WHAT RING TELLS: a ring, and then there is no order; or none, and then there is one. -/
theorem ring_told (l : List S30) : ∃ r is e, ringF 20 l = some (r, is, e) ∧ ((e ≠ 0 ∧ r = [] ∧ is = false) ∨ (e = 0 ∧ l.length ≤ 8 ∧ (∀ p ∈ l, W64 p.f0 ∧ W64 p.f1) ∧ r.length ≤ 9 ∧ (∀ r2 ok, Told (prsOf l) r2 ok → ok = !is) ∧ RingIs l r)) := by
  unfold ringF
  by_cases hl : 8 < l.length
  · rw [if_pos hl]
    exact ⟨[], false, 2, rfl, .inl ⟨by decide, rfl, rfl⟩⟩
  · rw [if_neg hl]
    by_cases hc : (linkF l [] (fun _ => 0)).1 ≠ 0
    · rw [if_pos hc]
      exact ⟨[], false, _, rfl, .inl ⟨hc, rfl, rfl⟩⟩
    · rw [if_neg hc]
      obtain ⟨e1, e2, e3, _⟩ := linkF_law l [] (fun _ => 0) List.nodup_nil (by omega)
      rw [List.nil_append] at e1 e2
      obtain ⟨ks, hks⟩ : ∃ ks, ks = (linkF l [] (fun _ => 0)).2.1 := ⟨_, rfl⟩
      obtain ⟨f, hf⟩ : ∃ f, f = (linkF l [] (fun _ => 0)).2.2 := ⟨_, rfl⟩
      rw [← hks] at e1 ⊢
      rw [← hf] at e3 ⊢
      clear hks hf hc
      have hmem : ∀ x, x ∈ ks ↔ ∃ p ∈ l, p.f0 = x := fun x => by rw [e1]; simp
      have hk : ∀ x ∈ ks, thr x = true ∧ thr (f x) = true := fun x hx => by
        obtain ⟨p, hp, rfl⟩ := (hmem x).1 hx
        obtain ⟨h1, h2, h3⟩ := e3 p hp
        exact ⟨h1, by rw [h3]; exact h2⟩
      have hw : ∀ p ∈ l, W64 p.f0 ∧ W64 p.f1 := fun p hp => ⟨thr_w (e3 p hp).1, thr_w (e3 p hp).2.1⟩
      obtain ⟨res, ht, h1, h2⟩ := tour_law hk 8 0
      rw [ht]
      cases res with
      | some r =>
        obtain ⟨t, n, hn8, ht0, hno, hr, hper, hin⟩ := h1 r rfl
        refine ⟨r, true, 0, rfl, .inr ⟨rfl, by omega, hw, ?_, fun r2 ok htold => ?_, ?_⟩⟩
        · rw [hr, orb_len]; omega
        · rcases htold with ⟨rfl, hd, _, ho⟩ | ⟨h, _⟩
          · exfalso
            have hdec : ∀ m, m ≤ n + 1 → atF r2 (itF f m t) + m ≤ atF r2 t := by
              intro m
              induction m with
              | zero => intro _; show atF r2 t + 0 ≤ _; omega
              | succ m ih =>
                intro hm
                have h3 := ih (by omega)
                obtain ⟨p, hp, hpe⟩ := (hmem _).1 (hin m (by omega))
                have h4 := ho ⟨p.f1, p.f0⟩ (List.mem_map.2 ⟨p, hp, rfl⟩)
                have h5 := (atF_bf hd h4).2
                have h6 : f (itF f m t) = p.f1 := by rw [← hpe]; exact (e3 p hp).2.2
                show atF r2 (f (itF f m t)) + ((m + 1 : Nat) : Int) ≤ _
                rw [h6]
                simp only at h5
                rw [hpe] at h5
                omega
            have := hdec (n + 1) (Nat.le_refl _)
            rw [hper] at this
            omega
          · subst h; rfl
        · intro i hi
          subst hr
          have hlen := orb_len f t (n + 1)
          have hget : ∀ k (hk : k < (orb f t (n + 1)).length), (orb f t (n + 1))[k] = itF f k t := fun k hk => by simp [orb]
          rw [hget i hi, hget 0 (by omega), hget _ (Nat.mod_lt _ (by omega))]
          refine ⟨?_, ?_⟩
          · obtain ⟨p, hp, hpe⟩ := (hmem _).1 (hin i (by omega))
            refine ⟨p, hp, hpe, ?_⟩
            have h6 : f (itF f i t) = p.f1 := by rw [← hpe]; exact (e3 p hp).2.2
            rw [← h6, hlen]
            by_cases hil : i = n
            · rw [hil, Nat.mod_self]; exact hper
            · rw [Nat.mod_eq_of_lt (by omega)]; rfl
          · show t ≤ itF f i t
            rcases Int.lt_or_le (itF f i t) t with h | h
            · exfalso
              have h3 := (thr_iff.1 (hk _ (hin i (by omega))).1)
              exact hno _ (by omega) h (per_shift hin hper i)
            · exact h
      | none =>
        refine ⟨[], false, 0, rfl, .inr ⟨rfl, by omega, hw, by simp, fun r2 ok htold => ?_, fun i hi => absurd hi (by simp)⟩⟩
        rcases htold with ⟨rfl, _⟩ | ⟨_, _, S, hS, hSc⟩
        · rfl
        · exfalso
          obtain ⟨y, hy⟩ := List.exists_mem_of_ne_nil S hS
          have hst : ∀ z ∈ S, z ∈ ks ∧ f z ∈ S := fun z hz => by
            obtain ⟨p, hp, h3, h4⟩ := hSc z hz
            obtain ⟨q, hq, rfl⟩ := List.mem_map.1 hp
            simp only at h3 h4
            have h5 := (e3 q hq).2.2
            rw [h3] at h5
            exact ⟨(hmem z).2 ⟨q, hq, h3⟩, by rw [h5]; exact h4⟩
          have hall : ∀ m, itF f m y ∈ S := fun m => by
            induction m with
            | zero => exact hy
            | succ m ih => exact (hst _ ih).2
          have hnd : ¬ (orb f y 9).Nodup := fun hd => by
            have h3 := nodup_le (orb f y 9) eight hd (fun x hx => by
              obtain ⟨i, hi, rfl⟩ := mem_orb.1 hx
              exact mem_eight.2 (thr_iff.1 (hk _ (hst _ (hall i)).1).1))
            rw [orb_len] at h3
            have h4 : eight.length = 8 := by decide
            omega
          obtain ⟨i, j, hij, hj, he⟩ := nodup_not hnd
          rw [orb_len] at hj
          have hget : ∀ k (hk : k < (orb f y 9).length), (orb f y 9)[k] = itF f k y := fun k hk => by simp [orb]
          rw [hget, hget] at he
          have h5 := thr_iff.1 (hk _ (hst _ (hall i)).1).1
          refine h2 rfl (itF f i y) h5.1 (by simpa using h5.2) ⟨j - i - 1, fun k _ => ?_, ?_⟩
          · rw [← itF_add]
            exact (hst _ (hall _)).1
          · rw [← itF_add, show j - i - 1 + 1 + i = j by omega, ← he]
end Go.Proofs.Ytlgkcjkicankmaa.Lk
