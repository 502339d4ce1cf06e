/- Pack and Unpack: each takes back what the other one does, in plain words. -/
import Derived.Test.YtblalidpeccabacSchedJ
namespace Go.Proofs.Ytblalidpeccabac.Sd
open Go Go.RowKit Go.Lib Go.Proofs.YtblalidpeccabacW.PrintWords Go.Proofs.Ytblalidpeccabac.PSchedBack
set_option linter.unusedVariables false
set_option linter.unusedSimpArgs false

/-- the last run's thread -/
def lastp (p : Option Int) (a : List S57) : Option Int := match a.getLast? with
  | some r => some r.f0
  | none => p
theorem lastp_cons (p : Option Int) (r : S57) (rs : List S57) : lastp p (r :: rs) = lastp (some r.f0) rs := by
  unfold lastp
  cases h : rs.getLast? with
  | none =>
    rw [List.getLast?_eq_none_iff] at h
    subst h
    rfl
  | some q =>
    rw [List.getLast?_cons, h]
    rfl
theorem lastp_concat (p : Option Int) (o : List S57) (r : S57) : lastp p (o ++ [r]) = some r.f0 := by
  unfold lastp
  rw [List.getLast?_concat]
theorem upk_cons_inv {p : Option Int} {out : List Int} {r : S57} {rs : List S57} {m : List Int} (h : upk p out (r :: rs) = (m, 0)) :
    thr r.f0 = true ∧ 1 ≤ r.f1 ∧ p ≠ some r.f0 ∧ r.f1 ≤ 200 - (out.length : Int) ∧ upk (some r.f0) (out ++ List.replicate r.f1.toNat r.f0) rs = (m, 0) := by
  simp only [upk] at h
  by_cases h1 : thr r.f0 = false
  · rw [if_pos h1] at h
    exact absurd (Prod.mk.inj h).2 (by decide)
  · rw [if_neg h1] at h
    by_cases h2 : r.f1 < 1 ∨ p = some r.f0
    · rw [if_pos h2] at h
      exact absurd (Prod.mk.inj h).2 (by decide)
    · rw [if_neg h2] at h
      by_cases h3 : 200 - (out.length : Int) < r.f1
      · rw [if_pos h3] at h
        exact absurd (Prod.mk.inj h).2 (by decide)
      · rw [if_neg h3] at h
        exact ⟨by simpa using h1, by have := not_or.1 h2; omega, (not_or.1 h2).2, by omega, h⟩
theorem upk_cons {p : Option Int} {out : List Int} {r : S57} {rs : List S57} (h1 : thr r.f0 = true) (h2 : 1 ≤ r.f1) (h3 : p ≠ some r.f0) (h4 : r.f1 ≤ 200 - (out.length : Int)) :
    upk p out (r :: rs) = upk (some r.f0) (out ++ List.replicate r.f1.toNat r.f0) rs := by
  simp only [upk]
  rw [if_neg (by rw [h1]; decide), if_neg (by rintro (h | h); exact absurd h (by omega); exact h3 h), if_neg (by omega)]
theorem upk_nil (p : Option Int) (out : List Int) : upk p out [] = (out, 0) := by cases p <;> rfl
theorem upk_code : ∀ (rs : List S57) (p : Option Int) (out m : List Int) (c : Int), upk p out rs = (m, c) → c ≠ 0 → m = []
  | [], p, out, m, c, h, hc => by
    rw [upk_nil] at h
    exact absurd (Prod.mk.inj h).2.symm hc
  | r :: rs, p, out, m, c, h, hc => by
    simp only [upk] at h
    by_cases h1 : thr r.f0 = false
    · rw [if_pos h1] at h
      exact (Prod.mk.inj h).1.symm
    · rw [if_neg h1] at h
      by_cases h2 : r.f1 < 1 ∨ p = some r.f0
      · rw [if_pos h2] at h
        exact (Prod.mk.inj h).1.symm
      · rw [if_neg h2] at h
        by_cases h3 : 200 - (out.length : Int) < r.f1
        · rw [if_pos h3] at h
          exact (Prod.mk.inj h).1.symm
        · rw [if_neg h3] at h
          exact upk_code rs _ _ m c h hc
theorem pack_rep (x : Int) (o : List S57) (ho : lastp none o ≠ some x) : ∀ k : Nat, k ≤ 1000 → (List.replicate (k + 1) x).foldl packAdd o = o ++ [⟨x, ((k + 1 : Nat) : Int)⟩]
  | 0, _ => by
    show packAdd o x = _
    rcases List.eq_nil_or_concat o with h | ⟨o', r, h⟩
    · subst h; rfl
    · have e : o = o' ++ [r] := by rw [h]; simp
      subst e
      rw [lastp_concat] at ho
      rw [packAdd_ne _ _ _ (fun h => ho (by rw [h]))]
      rfl
  | k + 1, hk => by
    rw [List.replicate_succ', List.foldl_append, pack_rep x o ho k (by omega)]
    show packAdd (o ++ [⟨x, _⟩]) x = _
    rw [packAdd_eq o ⟨x, ((k + 1 : Nat) : Int)⟩ x rfl]
    have e : wrap64 (((k + 1 : Nat) : Int) + 1) = ((k + 1 + 1 : Nat) : Int) := by unfold wrap64; omega
    show o ++ [⟨x, wrap64 (((k + 1 : Nat) : Int) + 1)⟩] = _
    rw [e]
theorem packL_app (a b : List Int) : packL (a ++ b) = b.foldl packAdd (packL a) := by unfold packL; rw [List.foldl_append]
/-- unpacked and packed -/
theorem pack_upk : ∀ (rs : List S57) (out : List Int) (o : List S57) (m : List Int), packL out = o → upk (lastp none o) out rs = (m, 0) → out.length ≤ 200 → out.any (fun n => !thr n) = false → packL m = o ++ rs ∧ m.length ≤ 200 ∧ m.any (fun n => !thr n) = false
  | [], out, o, m, ho, h, hl, ha => by
    rw [upk_nil] at h
    obtain rfl := (Prod.mk.inj h).1
    exact ⟨by rw [ho, List.append_nil], hl, ha⟩
  | r :: rs, out, o, m, ho, h, hl, ha => by
    obtain ⟨h1, h2, h3, h4, h5⟩ := upk_cons_inv h
    obtain ⟨k, hk⟩ : ∃ k : Nat, r.f1 = ((k + 1 : Nat) : Int) := ⟨r.f1.toNat - 1, by omega⟩
    have e1 : packL (out ++ List.replicate r.f1.toNat r.f0) = o ++ [r] := by
      rw [packL_app, ho, hk, Int.toNat_natCast, pack_rep r.f0 o h3 k (by omega), ← hk]
    have h6 := pack_upk rs _ (o ++ [r]) m e1 (by rw [lastp_concat]; exact h5) (by rw [List.length_append, List.length_replicate]; omega) (by
      rw [List.any_append, ha, Bool.false_or, List.any_eq_false]
      intro n hn
      rw [(List.mem_replicate.1 hn).2, h1]
      decide)
    rw [List.append_assoc] at h6
    exact h6
theorem upk_app : ∀ (a : List S57) (p : Option Int) (out m : List Int) (b : List S57), upk p out a = (m, 0) → upk p out (a ++ b) = upk (lastp p a) m b
  | [], p, out, m, b, h => by
    rw [upk_nil] at h
    obtain rfl := (Prod.mk.inj h).1
    rfl
  | r :: rs, p, out, m, b, h => by
    obtain ⟨h1, h2, h3, h4, h5⟩ := upk_cons_inv h
    rw [lastp_cons, List.cons_append, upk_cons h1 h2 h3 h4]
    exact upk_app rs _ _ m b h5
theorem upk_front : ∀ (a : List S57) (p : Option Int) (out m : List Int) (b : List S57), upk p out (a ++ b) = (m, 0) → ∃ m', upk p out a = (m', 0)
  | [], p, out, m, b, h => ⟨out, upk_nil _ _⟩
  | r :: rs, p, out, m, b, h => by
    rw [List.cons_append] at h
    obtain ⟨h1, h2, h3, h4, h5⟩ := upk_cons_inv h
    rw [upk_cons h1 h2 h3 h4]
    exact upk_front rs _ _ m b h5
/-- packed and unpacked -/
theorem upk_pack (l : List Int) (hl : l.length ≤ 200) (ha : l.any (fun n => !thr n) = false) : ∀ i, i ≤ l.length → upk none [] (packL (l.take i)) = (l.take i, 0)
  | 0, _ => rfl
  | i + 1, hi => by
    have hi' : i < l.length := hi
    have ih := upk_pack l hl ha i (by omega)
    rw [packL_step hi', List.take_succ_eq_append_getElem hi']
    have hlen : (l.take i).length = i := by rw [List.length_take]; omega
    have ht : thr l[i] = true := by
      have := (List.any_eq_false.1 ha) l[i] (List.getElem_mem hi')
      simpa using this
    generalize l.take i = l' at ih hlen
    generalize l[i] = x at ht
    generalize packL l' = o at ih
    rcases List.eq_nil_or_concat o with h | ⟨o', r, h⟩
    · subst h
      rw [upk_nil] at ih
      obtain rfl := (Prod.mk.inj ih).1
      rw [packAdd_nil, upk_cons ht (by show (1 : Int) ≤ 1; omega) (by simp) (by show (1 : Int) ≤ 200 - _; simp)]
      rfl
    · have e : o = o' ++ [r] := by rw [h]; simp
      subst e
      by_cases hr : r.f0 = x
      · obtain ⟨m', hm'⟩ := upk_front _ _ _ _ _ ih
        have h2 := ih
        rw [upk_app _ _ _ _ _ hm'] at h2
        obtain ⟨k1, k2, k3, k4, k5⟩ := upk_cons_inv h2
        rw [upk_nil] at k5
        have e5 := (Prod.mk.inj k5).1
        have e6 : l'.length = m'.length + r.f1.toNat := by rw [← e5, List.length_append, List.length_replicate]
        have e7 : wrap64 (r.f1 + 1) = r.f1 + 1 := by unfold wrap64; omega
        rw [packAdd_eq _ _ _ hr, e7, upk_app _ _ _ _ _ hm', upk_cons (r := ⟨x, r.f1 + 1⟩) ht (by show 1 ≤ r.f1 + 1; omega) (by show _ ≠ some x; rw [← hr]; exact k3) (by show r.f1 + 1 ≤ _; omega), upk_nil]
        show (m' ++ List.replicate (r.f1 + 1).toNat x, (0 : Int)) = _
        rw [show (r.f1 + 1).toNat = r.f1.toNat + 1 by omega, List.replicate_succ', ← e5, hr, List.append_assoc]
      · rw [packAdd_ne _ _ _ hr, upk_app _ _ _ _ _ ih, lastp_concat, upk_cons (r := ⟨x, 1⟩) ht (by show (1 : Int) ≤ 1; omega) (by show some r.f0 ≠ some x; simpa using hr) (by show (1 : Int) ≤ 200 - _; omega), upk_nil]
        rfl
theorem upk_packL (l : List Int) (hl : l.length ≤ 200) (ha : l.any (fun n => !thr n) = false) : upk none [] (packL l) = (l, 0) := by
  have := upk_pack l hl ha l.length (Nat.le_refl _)
  rwa [List.take_length] at this
theorem packL_upk (r : List S57) (m : List Int) (h : upk none [] r = (m, 0)) : packL m = r ∧ m.length ≤ 200 ∧ m.any (fun n => !thr n) = false := pack_upk r [] [] m rfl h (by simp) rfl
end Go.Proofs.Ytblalidpeccabac.Sd
