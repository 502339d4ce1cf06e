/- slices.IndexFunc of rows, as pages.root asks: the first that is empty. pages: a root of a store of one's own, put. pages.root: its walk. -/
import Derived.Test.YtblalidpeccabacPageK
namespace Go.Proofs.Ytblalidpeccabac.Pg
open Go Go.RowKit Go.Lib Go.Proofs.YtblalidpeccabacW.PrintWords Go.Proofs.YtblalidpeccabacW.PrintLast Go.Proofs.YtblalidpeccabacW.PrintMore Go.Proofs.Ytblalidpeccabac.PPagesBack Go.Proofs.Ytblalidpeccabac.Bs Go.Proofs.Ytblalidpeccabac.RegionVal
set_option linter.unusedVariables false
set_option linter.unusedSimpArgs false

theorem empty_calls (w : World) (A : Option Addr) (n c : Nat) : Calls Try.prog 50 #[.slice A n c] w fun e w' => e = .returned (.bool (decide (n = 0))) ∧ Below w.heap.size w w' := by
  have HE := Aside0.mk (show ((n : Int) == 0) = decide (n = 0) by rw [Bool.eq_iff_iff]; simp)
  go_enter Try.func50, Try.ntmps50
  go_wp2
  go_ret
  exact ⟨by rw [← HE.out]; rfl, Below.refl _ _⟩
def emptyF (rs : List (List Int)) : Int := match rs.findIdx? (fun r => decide (r.length = 0)) with | some i => (i : Int) | none => -1

set_option maxHeartbeats 8000000 in
set_option maxRecDepth 100000 in
theorem idxEmpty_calls (w : World) (A : Option Addr) (c : Nat) (rs : List (List Int)) (hr : Kd.C kR w A rs.length rs) (hc : rs.length ≤ c) :
    Calls Try.prog 49 #[.slice A rs.length c, .func (.func 50) #[] #[]] w fun e w' => e = .returned (.int .i64 (emptyF rs)) ∧ Below w.heap.size w w' := by
  have hn := hr.2.1
  have HR := Aside0.mk hr
  have eg : ∀ args w, (callFunc 50 args).run Try.prog w = .ok (.enter 50 args) w := fun args w => enters_ Try.func50 (by kernel_rfl) rfl args w
  clear hr
  go_enter Try.func49, Try.ntmps49
  go_wp2_with fail
  go_loopw [8] (fun i wr => ∃ k : Nat, k ≤ rs.length ∧ i = .int .i64 (k : Int) ∧ Aside0 (∀ r ∈ rs.take k, r.length ≠ 0) ∧ Aside0 (Below w.heap.size w wr)) (fun i _ => rs.length - (intOf i).toNat)
  case atStart => exact ⟨0, Nat.zero_le _, rfl, ⟨by simp⟩, ⟨Below.refl _ _⟩⟩
  case round =>
    obtain ⟨k, hk, rfl, HA, HB⟩ := hrel
    by_cases hlt : k < rs.length
    · have hk1 : (k : Int) < (rs.length : Int) := by omega
      obtain ⟨ad, A1, c1, rfl, e0, hc1, hC1⟩ := at_R (Kd.C_below HR.out HB.out) k hlt
      clear hC1
      go_wp2_with fail
      refine (empty_calls wr A1 rs[k].length c1).mono ?_
      rintro e w2 ⟨rfl, hb⟩
      have HB2 := Aside0.mk (below_then HB.out HB.out.size hb)
      clear hb
      by_cases h0 : rs[k].length = 0
      · have HE := Aside0.mk (show emptyF rs = (k : Int) by
          unfold emptyF
          rw [show rs.findIdx? (fun r => decide (r.length = 0)) = some k from List.findIdx?_eq_some_iff_getElem.2 ⟨hlt, by simpa using h0, fun j hj => by
            have := HA.out rs[j] (List.mem_take_iff_getElem.2 ⟨j, by omega, rfl⟩)
            simpa using this⟩])
        rw [decide_eq_true h0]
        clear h0
        go_wp2
        go_ret
        exact ⟨by rw [HE.out]; rfl, HB2.out⟩
      · have HS := Aside0.mk (show ∀ r ∈ rs.take (k + 1), r.length ≠ 0 by
          rw [List.take_succ_eq_append_getElem hlt]
          intro r hr
          rcases List.mem_append.1 hr with h | h
          · exact HA.out r h
          · obtain rfl := List.mem_singleton.1 h
            exact h0)
        rw [decide_eq_false h0]
        clear h0
        go_wp2
        go_roundw
        case rel => exact ⟨k + 1, by omega, by go_num, HS, HB2⟩
        case measure => simp [intOf]; omega
    · obtain rfl : k = rs.length := by omega
      have hA := HA.out
      rw [List.take_length] at hA
      have HE := Aside0.mk (show emptyF rs = -1 by
        unfold emptyF
        rw [show rs.findIdx? (fun r => decide (r.length = 0)) = none from List.findIdx?_eq_none_iff.2 (fun r hr => by simpa using hA r hr)])
      clear hA
      go_wp2
      go_ret
      exact ⟨by rw [HE.out]; rfl, HB.out⟩
end Go.Proofs.Ytblalidpeccabac.Pg
namespace Go.Proofs.Ytblalidpeccabac.Pg
open Go Go.RowKit Go.Lib Go.Proofs.YtblalidpeccabacW.PrintWords Go.Proofs.YtblalidpeccabacW.PrintLast Go.Proofs.YtblalidpeccabacW.PrintMore Go.Proofs.Ytblalidpeccabac.PPagesBack Go.Proofs.Ytblalidpeccabac.Bs Go.Proofs.Ytblalidpeccabac.RegionVal
set_option linter.unusedVariables false
set_option linter.unusedSimpArgs false

/-- a row of one's own, apart from the uses, put at a place of the roots -/
theorem box_root {w0 w : World} {b : Nat} {s : St} {vP vU vR v : Value} {r : List Int} (h : Box w0 b w s vP vU vR) (k : Nat) (hk : k < s.rs.length) (hv : Kd.R kI 3 w w0.heap.size (fun _ => True) v r) (hvu : ∀ q, v.ownBlock = some q → some q ≠ vU.ownBlock) :
    ∃ g c u, vR = .slice (some ⟨g, 0, none⟩) s.rs.length c ∧ w.cell? ⟨g, k, none⟩ = some u ∧ w.frozen? ⟨g, k, none⟩ = false ∧
      Box w0 b (w.setCell ⟨g, k, none⟩ v) ⟨s.ps, s.us, s.rs.set k r⟩ vP vU vR ∧ w.grownBy (w.setCell ⟨g, k, none⟩ v) (some g) := by
  obtain ⟨g, c, rfl, hg, hlt, cells, hcells⟩ := Kd.R_form h.R (by omega)
  have hC := (Kd.R_reads' h.R).2.2
  obtain ⟨ad, A1, c1, had, e0, _, _⟩ := at_R hC k hk
  obtain rfl := Option.some.inj had
  obtain ⟨Av, cv, rfl, _⟩ := Kd.R_reads hv
  have e1 : w.cell? ⟨g, k, none⟩ = some (.slice A1 s.rs[k].length c1) := by have := e0; rwa [add_plain] at this
  obtain ⟨hR, hgr⟩ := Kd.R_seg (d := kR) h.R (k : Int) (by omega) (by omega) (c := [.slice A1 s.rs[k].length c1]) (j := 0) (seg := [.slice Av r.length cv]) (x' := r) (okp := fun q => (Value.slice Av r.length cv).ownBlock = some q) rfl (fun j u hu => by
    have hj : j = 0 := by
      rcases Nat.eq_zero_or_pos j with h | h
      · exact h
      · rw [List.getElem?_eq_none (by simp; omega)] at hu; cases hu
    subst hj
    simp only [List.getElem?_cons_zero, Option.some.injEq] at hu
    subst hu
    rw [add_plain] at e0
    rw [Int.toNat_natCast]
    show w.cell? ⟨g, k * 1 + 0, none⟩ = _
    rw [Nat.mul_one, Nat.add_zero]
    exact e0) (Nat.le_refl 1) ⟨_, rfl, fun q hq => hq, hv.2.imp_ (fun _ _ hp => hp)⟩ (fun q hq => ⟨hvu q hq, fun e => by
      obtain ⟨cc, hcc⟩ := Kd.R_typed hv q hq
      subst e
      rw [hcells] at hcc
      cases hcc⟩)
  obtain ⟨inner, hown⟩ := Kd.R_own h.R
  rcases hown.2 with ⟨hv', _⟩ | ⟨g', cap', cur, hv', hb, hh, hnc, hcm, hcs, _⟩
  · cases hv'
  injection hv' with ha _ hc
  injection ha with ha
  injection ha with hg'
  subst hg'; subst hc
  rw [Int.toNat_natCast] at hR hgr
  have hR' : Kd.R kR 23 (w.setCells g k [.slice Av r.length cv]) w0.heap.size (fun q => some q ≠ vU.ownBlock) (.slice (some ⟨g, 0, none⟩) s.rs.length c) (s.rs.set k r) := by
    have := hR
    rwa [show k * kR.sz + 0 = k by show k * 1 + 0 = k; omega] at this
  have hgr' : w.grownBy (w.setCells g k [.slice Av r.length cv]) (some g) := by
    have := hgr
    rwa [show k * kR.sz + 0 = k by show k * 1 + 0 = k; omega] at this
  have hgb : some b ≠ some g := fun e => by
    have e2 : b = g := by simpa using e
    subst e2
    rw [h.blk] at hh
    cases hh
  have hown' : (Value.slice (some ⟨g, 0, none⟩) s.rs.length c).ownBlock = some g := rfl
  refine ⟨g, c, _, rfl, e1, blk_frozen hh _, ⟨h.le, blk_grown h.blk hgr' hgb, ?_, ?_, hR', ?_⟩, hgr'⟩
  · exact Kd.R_over h.P h.R (by intro q hq; have h : q ∈ [38] := hq; obtain rfl := List.mem_singleton.1 h; decide) (by rw [hown']; exact hgr')
  · exact Kd.R_over h.U h.R (by intro q hq; have h : q ∈ [3] := hq; obtain rfl := List.mem_singleton.1 h; decide) (by rw [hown']; exact hgr')
  · exact h.below.grown hgr' h.below.size (fun k hk => by cases hk; exact hb)
end Go.Proofs.Ytblalidpeccabac.Pg
namespace Go.Proofs.Ytblalidpeccabac.Pg
open Go Go.RowKit Go.Lib Go.Proofs.YtblalidpeccabacW.PrintWords Go.Proofs.YtblalidpeccabacW.PrintLast Go.Proofs.YtblalidpeccabacW.PrintMore Go.Proofs.Ytblalidpeccabac.PPagesBack Go.Proofs.Ytblalidpeccabac.Bs Go.Proofs.Ytblalidpeccabac.RegionVal
set_option linter.unusedVariables false
set_option linter.unusedSimpArgs false

def rootF (s : St) (r : List Int) : St × Int := if emptyF s.rs < 0 then (⟨s.ps, s.us, s.rs ++ [r]⟩, (s.rs.length : Int)) else (⟨s.ps, s.us, s.rs.set (emptyF s.rs).toNat r⟩, emptyF s.rs)
theorem empty_lt {rs : List (List Int)} (h : ¬ emptyF rs < 0) : ∃ k : Nat, emptyF rs = (k : Int) ∧ k < rs.length := by
  unfold emptyF at *
  cases hf : rs.findIdx? (fun r => decide (r.length = 0)) with
  | none => rw [hf] at h; exact absurd (by decide) h
  | some k => exact ⟨k, rfl, (List.findIdx?_eq_some_iff_getElem.1 hf).1⟩

theorem noI23 : ∀ q, q ∈ 3 :: kI.E → q ≠ 23 := by intro q hq; have h : q ∈ [3] := hq; obtain rfl := List.mem_singleton.1 h; decide
theorem noP_23 : ∀ q, q ∈ 38 :: kP.E → q ≠ 23 := by intro q hq; have h : q ∈ [38] := hq; obtain rfl := List.mem_singleton.1 h; decide
/-- an empty row appended to the roots, and then put -/
theorem box_rootnew {w0 w2 w3 : World} {b : Nat} {s : St} {vP vU vR v : Value} {r : List Int} {A3 : Option Addr} {c3 : Nat} (h : Box w0 b w2 s vP vU vR) (hv : Kd.R kI 3 w2 w0.heap.size (fun _ => True) v r) (hvu : ∀ q, v.ownBlock = some q → some q ≠ vU.ownBlock)
    (hR : Kd.R kR 23 w3 w0.heap.size (fun k => some k ≠ vU.ownBlock) (.slice A3 (s.rs.length + 1) c3) (s.rs ++ [[]])) (hb : Below w0.heap.size w0 w3) (hg : w2.grownBy w3 vR.ownBlock) :
    w3.cell? ⟨b, 2, none⟩ = some vR ∧ w3.frozen? ⟨b, 2, none⟩ = false ∧ ∃ g u, A3 = some ⟨g, 0, none⟩ ∧ (w3.setCell ⟨b, 2, none⟩ (.slice A3 (s.rs.length + 1) c3)).cell? ⟨g, s.rs.length, none⟩ = some u ∧ (w3.setCell ⟨b, 2, none⟩ (.slice A3 (s.rs.length + 1) c3)).frozen? ⟨g, s.rs.length, none⟩ = false ∧
      Box w0 b ((w3.setCell ⟨b, 2, none⟩ (.slice A3 (s.rs.length + 1) c3)).setCell ⟨g, s.rs.length, none⟩ v) ⟨s.ps, s.us, s.rs ++ [r]⟩ vP vU (.slice A3 (s.rs.length + 1) c3) := by
  have hne : some b ≠ vR.ownBlock := fun e => by
    obtain ⟨cc, hcc⟩ := Kd.R_typed h.R b e.symm
    rw [h.blk] at hcc
    cases hcc
  have hk := blk_grown h.blk hg hne
  have hP := R_other h.P h.R noP_23 hg
  have hU := R_other h.U h.R noI23 hg
  have hv3 := R_other hv h.R noI23 hg
  have hB4 := box_put (s := s) h.le hk hP hU hR hb
  have hv4 := Kd.R_set hv3 hk noI 2 (.slice A3 (s.rs.length + 1) c3)
  obtain ⟨g, c, u, hvr, hcell, hfro, hB5, _⟩ := box_root hB4 s.rs.length (by show s.rs.length < (s.rs ++ [[]]).length; simp) hv4 hvu
  injection hvr with ha _ _
  have x0 := blk_cell hk 2
  simp only [List.getElem?_toArray, List.getElem?_cons_zero, List.getElem?_cons_succ] at x0
  have hset : (s.rs ++ [[]]).set s.rs.length r = s.rs ++ [r] := by simp
  refine ⟨x0, blk_frozen hk 2, g, u, ha, hcell, hfro, ?_⟩
  have hB6 := hB5
  rw [hset] at hB6
  exact hB6

set_option maxHeartbeats 8000000 in
set_option maxRecDepth 100000 in
theorem root_calls (w0 w : World) (b : Nat) (s : St) (vP vU vR : Value) (Av : Option Addr) (cv : Nat) (r : List Int) (h : Box w0 b w s vP vU vR) (hv : Kd.R kI 3 w w0.heap.size (fun _ => True) (.slice Av r.length cv) r) (hvu : ∀ q, (Value.slice Av r.length cv).ownBlock = some q → some q ≠ vU.ownBlock) (hl : s.rs.length ≤ 100) :
    Calls Try.prog 30 #[.pointer (some ⟨b, 0, none⟩), .slice Av r.length cv] w fun e w' => ∃ vR', e = .returned (.int .i64 (rootF s r).2) ∧ Box w0 b w' (rootF s r).1 vP vU vR' := by
  obtain ⟨AR, aR, rfl, hcR, hCR⟩ := Kd.R_reads h.R
  have HB := Aside0.mk h
  have HV := Aside0.mk hv
  have HVU := Aside0.mk hvu
  have f2 := blk_cell h.blk 2
  simp only [List.getElem?_toArray, List.getElem?_cons_zero, List.getElem?_cons_succ] at f2
  have HIX := Aside0.mk (idxEmpty_calls w AR aR s.rs hCR hcR)
  clear h hv hvu hCR
  go_enter Try.func30, Try.ntmps30
  go_wp2_with fail
  refine HIX.out.mono ?_
  rintro e w2 ⟨rfl, hb⟩
  have HB2 := Aside0.mk (HB.out.keep hb)
  have HV2 := Aside0.mk (Kd.R_below HV.out hb)
  clear hb f2 HIX
  by_cases hneg : emptyF s.rs < 0
  · have HE := Aside0.mk (show rootF s r = (⟨s.ps, s.us, s.rs ++ [r]⟩, (s.rs.length : Int)) by unfold rootF; rw [if_pos hneg])
    have f2 := blk_cell HB2.out.blk 2
    simp only [List.getElem?_toArray, List.getElem?_cons_zero, List.getElem?_cons_succ] at f2
    generalize emptyF s.rs = ix at hneg ⊢
    have hnil : kR.M w2 w0.heap.size (fun _ => False) [] [.slice none 0 0] := ⟨_, rfl, Kd.R_nil _ _ _ _ _⟩
    have HNIL := Aside0.mk hnil
    have HUL := Aside0.mk (Kd.R_lt HB2.out.U)
    clear hnil
    go_wp2_with (at_builtin; refine Kd.R_append kR (w0 := w0) w0.heap.size rfl _ _ 24 23 (.slice none 0 0) 24 rfl Try.underlying24 infoS rfl (by decide) (by omega) (.slice AR s.rs.length aR) s.rs [] [.slice none 0 0] (fun k => some k ≠ vU.ownBlock) (fun _ => False) rfl rfl HNIL.out (fun _ hk => hk.elim) (fun k hk e => absurd (HUL.out k e.symm) (by omega)) HB2.out.R HB2.out.below HB2.out.below.size (by omega) ?_; intro v1 w3 hR hb hg hat; obtain ⟨A3, c3, e3, hc3, _⟩ := Kd.R_reads hR; rw [List.length_append, List.length_singleton] at e3; subst e3; clear hc3; obtain ⟨x0, x1, g, u, rfl, hcell, hfro, hB5⟩ := box_rootnew HB2.out HV2.out HVU.out hR hb hg; have HB5 := Aside0.mk hB5; have hlt : (s.rs.length : Int) < ((s.rs.length + 1 : Nat) : Int) := (by omega); clear hR hb hg hat hB5)
    go_ret
    exact ⟨_, by rw [HE.out]; rfl, by rw [HE.out]; exact HB5.out⟩
  · obtain ⟨j, hj, hjl⟩ := empty_lt hneg
    have HE := Aside0.mk (show rootF s r = (⟨s.ps, s.us, s.rs.set j r⟩, (j : Int)) by unfold rootF; rw [if_neg hneg, hj, Int.toNat_natCast])
    rw [hj]
    obtain ⟨g, c, u, hvr, hcell, hfro, hB3, hgr⟩ := box_root HB2.out j hjl HV2.out HVU.out
    have q0 : decide ((j : Int) < 0) = false := decide_eq_false (by omega)
    have hj1 : (j : Int) < (s.rs.length : Int) := by omega
    injection hvr with ha hb hc
    subst ha; subst hc
    have f2 := blk_cell HB2.out.blk 2
    simp only [List.getElem?_toArray, List.getElem?_cons_zero, List.getElem?_cons_succ] at f2
    have HB3 := Aside0.mk hB3
    clear hneg hj hB3 hgr hb
    go_wp2
    go_ret
    exact ⟨_, by rw [HE.out]; rfl, by rw [HE.out]; exact HB3.out⟩
end Go.Proofs.Ytblalidpeccabac.Pg
