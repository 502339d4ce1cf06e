/- Events that are read: loads; slices.IsSortedFunc of events: its walk. -/
import Derived.Test.YtblalidpeccababRowsA
namespace Go.Proofs.Ytblalidpeccabab.Rw
open Go Go.RowKit Go.Lib Go.Proofs.YtblalidpeccababW.PrintWords Go.Proofs.YtblalidpeccababW.PrintLast Go.Proofs.YtblalidpeccababW.PrintMore Go.Proofs.Ytblalidpeccabab.PRowsThree Go.Proofs.Ytblalidpeccabab.Bs Go.Proofs.Ytblalidpeccabab.RegionVal
set_option linter.unusedVariables false
set_option linter.unusedSimpArgs false

/-- the address of the i-th cell run -/
def adAt (ad : Addr) (k : Nat) : Addr := if k = 0 then ad else { ad with off := ad.off + k, spot := none }
theorem adAt_is (ad : Addr) (k : Nat) : ad.add k = adAt ad k := rfl
theorem ad_add (ad : Addr) (k j : Nat) : (ad.add k).add j = ad.add (k + j) := by
  unfold Addr.add
  by_cases hk : k = 0
  · subst hk; simp
  · by_cases hj : j = 0
    · subst hj; simp
    · rw [if_neg hk, if_neg hj, if_neg (by omega)]
      simp [Nat.add_assoc]
theorem isAgg_of {P : Program} {t : TypeId} {d : TypeDesc} (hu : P.underlying t = some d) (hd : d.isRow = true) (w : World) : (isAgg t).run P w = .ok true w := by
  unfold isAgg
  rw [Sem.run_bind, run_underlying hu w]
  cases d <;> simp_all
theorem isAgg53 (w : World) : (isAgg 53).run Try.prog w = .ok true w := isAgg_of Try.underlying53 rfl w
/-- a load of an event out of a list that is read -/
theorem C_load {w : World} {ad : Addr} {n : Nat} {xs : List S53} (h : Kd.C k53 w (some ad) n xs) (i : Nat) (hi : i < xs.length) : Sem.run Try.prog (Instr.loadAt 53 (.pointer (some (ad.add (i * 12))))) w = .ok (v53 xs[i]) w := by
  obtain ⟨ad', c, e, hl, hK, hc⟩ := Kd.C_get h z53 (i : Int) (by omega) (by have := h.1; omega)
  obtain rfl := Option.some.inj e
  rw [show xs.getD (Int.toNat (i : Int)) z53 = xs[i] by simp [List.getD_eq_getElem?_getD, hi]] at hK
  obtain rfl := k53_open hK
  have hcells : (loadCells (ad.add (i * 12)) (c53 xs[i]).length).run Try.prog w = .ok (c53 xs[i]).toArray w :=
    run_loadCells_list (P := Try.prog) w (ad.add (i * 12)) (c53 xs[i]) (fun j v hv => by
      rw [ad_add]
      have := hc j v hv
      rwa [Int.toNat_natCast] at this)
  have hs : (sizeOf 53).run Try.prog w = .ok (c53 xs[i]).length w := by
    cases hq : Try.prog.info? 53 with
    | none => have := info53; simp [hq] at this
    | some q => have h2 : q.size = 12 := by have := info53; simpa [hq] using this
                simp [sizeOf, typeInfo, hq, h2, c53]
  simp [Instr.loadAt, Instr.sureAddr, loadVar, Sem.run_bind, isAgg53, hs, v53]
  have h12 : (c53 xs[i]).length = 12 := rfl
  rw [h12] at hcells
  rw [hcells]
  rfl
/-- an answer yes or no to a question -/
def Tells (e : Ending) (p : Prop) : Prop := ∃ b : Bool, e = .returned (.bool b) ∧ (b = true ↔ p)
/-- a list's row has an address where it is not empty -/
theorem C_addr {w : World} {A : Option Addr} {n : Nat} {xs : List S53} (h : Kd.C k53 w A n xs) (hp : 0 < n) : ∃ ad, A = some ad := by
  obtain ⟨ad, h1, _⟩ := h.2.2 hp
  exact ⟨ad, h1⟩

theorem srt_dropJ {l : List S53} {j : Nat} (hj : j + 1 < l.length) (h : Srt ky (l.drop (j + 1))) (hc : ¬ ky l[j + 1] < ky l[j]) : Srt ky (l.drop j) := by
  rw [List.drop_eq_getElem_cons (show j < l.length by omega)]
  refine List.pairwise_cons.2 ⟨fun z hz => ?_, h⟩
  rw [List.drop_eq_getElem_cons hj] at hz h
  rcases List.mem_cons.1 hz with e | e
  · rw [e]; omega
  · have := (List.pairwise_cons.1 h).1 z e; omega
theorem srt_atJ {l : List S53} {j : Nat} (hj : j + 1 < l.length) (h : Srt ky l) : ¬ ky l[j + 1] < ky l[j] := by
  have := List.pairwise_iff_getElem.1 h j (j + 1) (by omega) hj (by omega)
  omega

set_option maxHeartbeats 8000000 in
set_option maxRecDepth 100000 in
theorem isSorted_calls (w : World) (A : Option Addr) (c : Nat) (l : List S53) (h : Kd.C k53 w A l.length l) (hn : l.length ≤ 200) :
    Calls Try.prog 54 #[.slice A l.length c, .func (.func 55) #[] #[]] w fun e w' => Tells e (Srt ky l) ∧ Below w.heap.size w w' := by
  obtain ⟨n, hnl⟩ : ∃ n, n = l.length := ⟨_, rfl⟩
  have H := Aside0.mk h
  have HN := Aside0.mk hnl
  rw [← hnl] at hn ⊢
  clear h hnl
  have hw1 : IntKind.i64.wrap ((n : Int) - 1) = (n : Int) - 1 := by rw [IntKind.wrap_i64]; omega
  go_enter Try.func54, Try.ntmps54
  go_wp2_with fail
  clear hw1
  go_loopw [5] (fun vi wr => ∃ i : Int, vi = .int .i64 i ∧ -1 ≤ i ∧ i ≤ 200 ∧ Aside0 (i < n ∧ Srt ky (l.drop i.toNat)) ∧ Aside0 (Below w.heap.size w wr)) (fun vi _ => (intOf vi + 1).toNat)
  case atStart => exact ⟨(n : Int) - 1, rfl, by omega, by omega, ⟨by omega, by
    match l, HN.out with
    | [], h => rw [List.drop_nil]; exact Srt.nil
    | x :: l, h =>
      have h2 : ((n : Int) - 1).toNat = l.length := by rw [h]; simp
      rw [h2, List.drop_eq_getElem_cons (show l.length < (x :: l).length by simp), List.drop_eq_nil_of_le (by simp)]
      exact Srt.one _⟩, ⟨Below.refl _ _⟩⟩
  case round =>
    obtain ⟨i, rfl, hi1, hi2, HI, HB⟩ := hrel
    by_cases hpos : 0 < i
    · obtain ⟨j, rfl⟩ : ∃ j : Nat, i = ((j + 1 : Nat) : Int) := ⟨(i - 1).toNat, by omega⟩
      obtain ⟨ad, rfl⟩ := C_addr H.out (show 0 < l.length by have := HI.out.1; have := HN.out; omega)
      have hjl : j + 1 < l.length := by have := HI.out.1; have := HN.out; omega
      obtain ⟨x, hx⟩ : ∃ x, x = l[j + 1] := ⟨_, rfl⟩
      obtain ⟨y, hy⟩ : ∃ y, y = l[j] := ⟨_, rfl⟩
      have HX := Aside0.mk (show ∀ w', Below w.heap.size w w' → Sem.run Try.prog (Instr.loadAt 53 (.pointer (some (ad.add ((j + 1) * 12))))) w' = .ok (v53 x) w' from fun w' hb => by rw [hx]; exact C_load (Kd.C_below H.out hb) (j + 1) hjl)
      have HY := Aside0.mk (show ∀ w', Below w.heap.size w w' → Sem.run Try.prog (Instr.loadAt 53 (.pointer (some (ad.add (j * 12))))) w' = .ok (v53 y) w' from fun w' hb => by rw [hy]; exact C_load (Kd.C_below H.out hb) j (by omega))
      have HXY := Aside0.mk (show x = l[j + 1] ∧ y = l[j] from ⟨hx, hy⟩)
      have HJL := Aside0.mk hjl
      have hj1n : ((j + 1 : Nat) : Int) < (n : Int) := by have := HN.out; omega
      have hjn : (j : Int) < (n : Int) := by omega
      have hj1n2 : j + 1 < n := by omega
      have hjn2 : j < n := by omega
      have hwj : IntKind.i64.wrap (((j + 1 : Nat) : Int) - 1) = (j : Int) := by rw [IntKind.wrap_i64]; omega
      have HI2 := Aside0.mk (show Srt ky (l.drop (j + 1)) by have := HI.out.2; rwa [Int.toNat_natCast] at this)
      obtain ⟨q, hq⟩ : ∃ q : Nat, q = j + 1 := ⟨_, rfl⟩
      have HQ := Aside0.mk hq
      rw [← hq] at HX hj1n hj1n2 hwj hi1 hi2 hpos ⊢
      clear hx hy HI hq
      go_wp2_with fail
      have HBZ := HB
      by_cases hxy : ky x < ky y
      · have hc := (by rw [cmpS_lt]; exact decide_eq_true hxy : decide (cmpS (ky x) (ky y) < 0) = true)
        have HE := Aside0.mk (show ¬ Srt ky l from fun hs => srt_atJ HJL.out hs (by rw [← HXY.out.1, ← HXY.out.2]; exact hxy))
        clear hxy
        refine wp_eff (S := fun w' => Below w.heap.size w w') [(0, false), (1, false), (2, false), (3, false), (4, false), (5, false), (6, false), (7, false), (8, false), (9, false), (10, true), (11, false)] (by kernel_rfl) (by kernel_rfl) (below_drew1 HBZ.out) (fun _ _ d _ _ h => by cases d <;> exact h) ?_
        refine se_move rfl rfl rfl ?_
        refine se_move rfl rfl rfl ?_
        refine se_move rfl rfl rfl ?_
        refine se_indexAddr (v := .pointer (some (ad.add (q * 12)))) rfl rfl rfl rfl (fun w' hw => by go_simp) ?_
        refine se_load (v := v53 x) rfl rfl rfl (fun w' hw => HX.out w' hw) ?_
        refine se_move rfl rfl rfl ?_
        refine se_move rfl rfl rfl ?_
        refine se_bin (v := .int .i64 (j : Int)) rfl rfl rfl rfl (fun w' hw => by go_simp) ?_
        refine se_indexAddr (v := .pointer (some (ad.add (j * 12)))) rfl rfl rfl rfl (fun w' hw => by go_simp) ?_
        refine se_load (v := v53 y) rfl rfl rfl (fun w' hw => HY.out w' hw) ?_
        refine se_callv (f := 55) (vs := [v53 x, v53 y]) rfl rfl Try.func55 (by kernel_rfl) rfl rfl (by kernel_rfl) ?_
        refine (byStep_calls x y _).mono ?_
        rintro e' w_5 ⟨rfl, hb_⟩
        refine ⟨_, rfl, below_then (below_drew1 HBZ.out) (below_drew1 HBZ.out).size hb_, ?_⟩
        refine se_bin (v := .bool true) rfl rfl rfl rfl (fun w' hw => by go_simp) ?_
        intro hR_
        have HB2 := Aside0.mk hR_
        clear hR_ hb_
        simp only [SeqE, puts, Act.put, List.setIfInBounds_toArray, List.set_cons_zero, List.set_cons_succ]
        go_wp2
        exact bodyPost_ret (v := .bool false) (by simp [results, Try.f54, go_sem]) rfl ⟨⟨false, rfl, ⟨fun h => (Bool.false_ne_true h).elim, fun h => (HE.out h).elim⟩⟩, HB2.out⟩
      · have hc := (by rw [cmpS_lt]; exact decide_eq_false hxy : decide (cmpS (ky x) (ky y) < 0) = false)
        have HE := Aside0.mk (show Srt ky (l.drop j) from srt_dropJ hjl HI2.out (by rw [← HXY.out.1, ← HXY.out.2]; exact hxy))
        clear hxy
        refine wp_eff (S := fun w' => Below w.heap.size w w') [(0, false), (1, false), (2, false), (3, false), (4, false), (5, false), (6, false), (7, false), (8, false), (9, false), (10, true), (11, false)] (by kernel_rfl) (by kernel_rfl) (below_drew1 HBZ.out) (fun _ _ d _ _ h => by cases d <;> exact h) ?_
        refine se_move rfl rfl rfl ?_
        refine se_move rfl rfl rfl ?_
        refine se_move rfl rfl rfl ?_
        refine se_indexAddr (v := .pointer (some (ad.add (q * 12)))) rfl rfl rfl rfl (fun w' hw => by go_simp) ?_
        refine se_load (v := v53 x) rfl rfl rfl (fun w' hw => HX.out w' hw) ?_
        refine se_move rfl rfl rfl ?_
        refine se_move rfl rfl rfl ?_
        refine se_bin (v := .int .i64 (j : Int)) rfl rfl rfl rfl (fun w' hw => by go_simp) ?_
        refine se_indexAddr (v := .pointer (some (ad.add (j * 12)))) rfl rfl rfl rfl (fun w' hw => by go_simp) ?_
        refine se_load (v := v53 y) rfl rfl rfl (fun w' hw => HY.out w' hw) ?_
        refine se_callv (f := 55) (vs := [v53 x, v53 y]) rfl rfl Try.func55 (by kernel_rfl) rfl rfl (by kernel_rfl) ?_
        refine (byStep_calls x y _).mono ?_
        rintro e' w_5 ⟨rfl, hb_⟩
        refine ⟨_, rfl, below_then (below_drew1 HBZ.out) (below_drew1 HBZ.out).size hb_, ?_⟩
        refine se_bin (v := .bool false) rfl rfl rfl rfl (fun w' hw => by go_simp) ?_
        intro hR_
        have HB2 := Aside0.mk hR_
        clear hR_ hb_
        simp only [SeqE, puts, Act.put, List.setIfInBounds_toArray, List.set_cons_zero, List.set_cons_succ]
        go_wp2
        go_roundw
        case rel => exact ⟨(j : Int), rfl, by omega, by omega, ⟨by omega, by rw [Int.toNat_natCast]; exact HE.out⟩, HB2⟩
        case measure => have := HQ.out; simp [intOf]; omega
    · have HE := Aside0.mk (show Srt ky l by
        have h := HI.out.2
        rwa [show i.toNat = 0 by omega, List.drop_zero] at h)
      have hi0 : i ≤ 0 := by omega
      go_wp2
      exact bodyPost_ret (v := .bool true) (by simp [results, Try.f54, go_sem]) rfl ⟨⟨true, rfl, ⟨fun _ => HE.out, fun _ => rfl⟩⟩, HB.out⟩
end Go.Proofs.Ytblalidpeccabab.Rw
