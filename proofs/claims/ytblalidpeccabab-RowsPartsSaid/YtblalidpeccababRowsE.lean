/- slices.symMerge of events: what it does to lists. -/
import Derived.Test.YtblalidpeccababRowsD
namespace Go.Proofs.Ytblalidpeccabab.Rw
open Go Go.RowKit Go.Lib Go.Proofs.YtblalidpeccababW.PrintWords Go.Proofs.YtblalidpeccababW.PrintLast Go.Proofs.YtblalidpeccababW.PrintMore Go.Proofs.Ytblalidpeccabab.PRowsThree Go.Proofs.Ytblalidpeccabab.Bs Go.Proofs.Ytblalidpeccabab.RegionVal
set_option linter.unusedVariables false
set_option linter.unusedSimpArgs false

theorem getD_e {L : List S53} {i : Nat} (h : i < L.length) : L.getD i z53 = L[i] := by
  rw [List.getD_eq_getElem?_getD, List.getElem?_eq_getElem h]; rfl
theorem take_le {L : List S53} (h : Srt ky L) {i : Nat} (hi : i ≤ L.length) : ∀ z ∈ L.take i, ky z ≤ ky (L.getD (i - 1) z53) := by
  intro z hz
  cases i with
  | zero => simp at hz
  | succ i =>
    rw [Nat.add_sub_cancel, getD_e hi]
    rw [List.take_succ_eq_append_getElem hi] at hz
    have h1 : Srt ky (L.take i ++ [L[i]]) := by
      rw [← List.take_succ_eq_append_getElem hi]
      exact List.Pairwise.sublist (List.take_sublist _ _) h
    rcases List.mem_append.1 hz with e | e
    · exact h1.cross z e _ (List.mem_singleton.2 rfl)
    · rw [List.mem_singleton.1 e]; exact Int.le_refl _
theorem drop_ge {L : List S53} (h : Srt ky L) {i : Nat} : ∀ z ∈ L.drop i, ky (L.getD i z53) ≤ ky z := by
  intro z hz
  by_cases hi : i < L.length
  · rw [getD_e hi]
    rw [List.drop_eq_getElem_cons hi] at hz
    have h1 : Srt ky (L[i] :: L.drop (i + 1)) := by
      rw [← List.drop_eq_getElem_cons hi]
      exact List.Pairwise.sublist (List.drop_sublist _ _) h
    rcases List.mem_cons.1 hz with e | e
    · rw [e]; exact Int.le_refl _
    · exact (List.pairwise_cons.1 h1).1 z e
  · rw [List.drop_eq_nil_of_le (by omega)] at hz
    cases hz
theorem srt_take {L : List S53} (h : Srt ky L) (i : Nat) : Srt ky (L.take i) := List.Pairwise.sublist (List.take_sublist _ _) h
theorem srt_drop {L : List S53} (h : Srt ky L) (i : Nat) : Srt ky (L.drop i) := List.Pairwise.sublist (List.drop_sublist _ _) h
theorem sm_main {U V : List S53} {su ev : Nat} (hU : Srt ky U) (hV : Srt ky V) (hsu : su ≤ U.length) (hev : ev ≤ V.length) (h1 : su = U.length ∨ ev = 0 ∨ ky (V.getD (ev - 1) z53) < ky (U.getD su z53)) (h2 : su = 0 ∨ ev = V.length ∨ ¬ ky (V.getD ev z53) < ky (U.getD (su - 1) z53))
    (X1 X2 : List S53) (s1 : Srt ky X1) (s2 : Srt ky X2) (m1 : Sam ky (U.take su ++ V.take ev) X1) (m2 : Sam ky (U.drop su ++ V.drop ev) X2) : Srt ky (X1 ++ X2) ∧ Sam ky (U ++ V) (X1 ++ X2) := by
  have k1 : ∀ p ∈ V.take ev, ∀ q ∈ U.drop su, ky p < ky q := by
    intro p hp q hq
    rcases h1 with h | h | h
    · rw [List.drop_eq_nil_of_le (by omega)] at hq; cases hq
    · subst h; simp at hp
    · have := take_le hV hev p hp
      have := drop_ge hU q hq
      omega
  have k2 : ∀ p ∈ U.take su, ∀ q ∈ V.drop ev, ky p ≤ ky q := by
    intro p hp q hq
    rcases h2 with h | h | h
    · subst h; simp at hp
    · rw [List.drop_eq_nil_of_le (by omega)] at hq; cases hq
    · have := take_le hU hsu p hp
      have := drop_ge hV q hq
      omega
  have eU := List.take_append_drop su U
  have eV := List.take_append_drop ev V
  have cU : ∀ p ∈ U.take su, ∀ q ∈ U.drop su, ky p ≤ ky q := by have h : Srt ky (U.take su ++ U.drop su) := by rw [eU]; exact hU
                                                                exact h.cross
  have cV : ∀ p ∈ V.take ev, ∀ q ∈ V.drop ev, ky p ≤ ky q := by have h : Srt ky (V.take ev ++ V.drop ev) := by rw [eV]; exact hV
                                                                exact h.cross
  refine ⟨s1.app s2 fun p hp q hq => ?_, ?_⟩
  · rcases List.mem_append.1 (m1.symm.mem hp) with e | e <;> rcases List.mem_append.1 (m2.symm.mem hq) with e' | e'
    · exact cU p e q e'
    · exact k2 p e q e'
    · have := k1 p e q e'; omega
    · exact cV p e q e'
  · have hsw : Sam ky (U.drop su ++ V.take ev) (V.take ev ++ U.drop su) := Sam.swap fun p hp q hq => by have := k1 q hq p hp; omega
    have h3 := ((Sam.rfl' (key := ky) (a := U.take su)).app hsw).app (Sam.rfl' (a := V.drop ev))
    have e3 : U.take su ++ (U.drop su ++ V.take ev) ++ V.drop ev = U ++ V := by
      rw [← List.append_assoc, eU, List.append_assoc, eV]
    rw [e3] at h3
    refine h3.trans ?_
    have h4 := m1.app m2
    simpa using h4
theorem sm_left {x : S53} {V : List S53} {p : Nat} (hV : Srt ky V) (hp : p ≤ V.length) (h1 : p = 0 ∨ ky (V.getD (p - 1) z53) < ky x) (h2 : p = V.length ∨ ¬ ky (V.getD p z53) < ky x) : Srt ky (V.take p ++ x :: V.drop p) ∧ Sam ky ([x] ++ V) (V.take p ++ x :: V.drop p) := by
  have hs : Srt ky (x :: V.drop p) := List.pairwise_cons.2 ⟨fun z hz => by
    rcases h2 with h | h
    · rw [List.drop_eq_nil_of_le (by omega)] at hz; cases hz
    · have := drop_ge hV z hz; omega, srt_drop hV p⟩
  exact sm_main (U := [x]) (V := V) (su := 0) (ev := p) (Srt.one x) hV (Nat.zero_le _) hp (.inr (by rcases h1 with h | h; exact .inl h; exact .inr h)) (.inl rfl) _ _ (srt_take hV p) hs (by simpa using Sam.rfl') Sam.rfl'
theorem sm_right {y : S53} {U : List S53} {p : Nat} (hU : Srt ky U) (hp : p ≤ U.length) (h1 : p = 0 ∨ ¬ ky y < ky (U.getD (p - 1) z53)) (h2 : p = U.length ∨ ky y < ky (U.getD p z53)) : Srt ky (U.take p ++ y :: U.drop p) ∧ Sam ky (U ++ [y]) (U.take p ++ y :: U.drop p) := by
  have hs : Srt ky (U.take p ++ [y]) := (srt_take hU p).app (Srt.one y) fun z hz q hq => by
    rw [List.mem_singleton.1 hq]
    rcases h1 with h | h
    · subst h; simp at hz
    · have := take_le hU hp z hz; omega
  have h := sm_main (U := U) (V := [y]) (su := p) (ev := 1) hU (Srt.one y) hp (Nat.le_refl _) (by rcases h2 with h | h; exact .inl h; exact .inr (.inr h)) (.inr (.inl rfl)) (U.take p ++ [y]) (U.drop p) hs (srt_drop hU p) Sam.rfl' (by simpa using Sam.rfl')
  simpa using h
end Go.Proofs.Ytblalidpeccabab.Rw
