/- pages.Check: its walk. -/
import Derived.Test.YtblalidpeccabacPageB
import Derived.Test.YtblalidpeccabacRegionTwo
import Derived.Test.YtblalidpeccabacRegionStep
import Derived.Test.YtblalidpeccabacWEqStruct
import Derived.Test.YtblalidpeccabacWRepsOne
import Derived.ChangeKeysEq
namespace Go.Proofs.Ytblalidpeccabac.Pg
open Go Go.RowKit Go.Lib Go.Proofs.YtblalidpeccabacW.PrintWords Go.Proofs.YtblalidpeccabacW.PrintLast Go.Proofs.YtblalidpeccabacW.PrintMore Go.Proofs.Ytblalidpeccabac.PPagesBack Go.Proofs.Ytblalidpeccabac.Bs Go.Proofs.Ytblalidpeccabac.RegionVal
set_option linter.unusedVariables false
set_option linter.unusedSimpArgs false

theorem equal_loop (l m : List Int) (hl : l.length ≤ 1000) (hm : l.length = m.length) : ∀ (d k i : Nat), i + d = l.length → d < k → slices_Equal_int_int.l0 k l m (l.length : Int) i = some (decide (l.drop i = m.drop i))
  | 0, k, i, h, hk => by
    obtain ⟨k, rfl⟩ : ∃ m, k = m + 1 := ⟨k - 1, by omega⟩
    simp only [slices_Equal_int_int.l0]
    rw [if_neg (by omega), List.drop_eq_nil_of_le (by omega), List.drop_eq_nil_of_le (by omega)]
    simp
  | d + 1, k, i, h, hk => by
    obtain ⟨k, rfl⟩ : ∃ m, k = m + 1 := ⟨k - 1, by omega⟩
    simp only [slices_Equal_int_int.l0]
    have hi : i < l.length := by omega
    have hi' : i < m.length := by omega
    have hr : rd l (i : Int) = l[i] := by simp [rd, List.getD_eq_getElem?_getD, hi]
    have hr' : rd m (i : Int) = m[i] := by simp [rd, List.getD_eq_getElem?_getD, hi']
    rw [if_pos (by omega), if_pos (by omega), if_pos (by omega), if_pos (by omega), hr, hr', List.drop_eq_getElem_cons hi, List.drop_eq_getElem_cons hi']
    by_cases e : l[i] = m[i]
    · rw [if_pos e, show wrap64 ((i : Int) + 1) = ((i + 1 : Nat) : Int) by unfold wrap64; omega, equal_loop l m hl hm d k (i + 1) (by omega) (by omega)]
      congr 1
      simp only [List.cons.injEq, e, true_and]
    · rw [if_neg e]
      congr 1
      simp only [List.cons.injEq, e, false_and, decide_false]
theorem equal_f (l m : List Int) (hl : l.length ≤ 1000) : slices_Equal_int_int.f 1001 l m = some (decide (l = m)) := by
  unfold slices_Equal_int_int.f
  by_cases h : (l.length : Int) = (m.length : Int)
  · rw [if_pos h]
    have := equal_loop l m hl (by omega) l.length 1001 0 (by omega) (by omega)
    simpa using this
  · rw [if_neg h]
    have : l ≠ m := fun e => h (by rw [e])
    simp [this]
theorem equal_calls (w : World) (A : Option Addr) (c : Nat) (l : List Int) (A1 : Option Addr) (c1 : Nat) (m : List Int) (hr : Kd.C kI w A l.length l) (hc : l.length ≤ c) (hl : l.length ≤ 1000) (hr1 : Kd.C kI w A1 m.length m) (hc1 : m.length ≤ c1) :
    Calls Try.prog 33 #[.slice A l.length c, .slice A1 m.length c1] w fun e w' => e = .returned (.bool (decide (l = m))) ∧ Below w.heap.size w w' :=
  (slices_Equal_int_int.calls 1001 A c l A1 c1 m (decide (l = m)) w hr hc hr1 hc1 (equal_f l m hl)).mono fun e w' ⟨h1, h2⟩ => ⟨h1, h2.below⟩

section
variable {P : Program} {d : Nat} {xs ys : Array Value} {t : TypeId} {c i : Nat} {is : List Nat} {a b : Value} {r s : Bool} {w : World}
theorem eqi_cons (ha : (part t xs (i * c)).run P w = .ok a w) (hb : (part t ys (i * c)).run P w = .ok b w) (he : (Op.equalIn d t a b).run P w = .ok r w) (hr : (Op.eqItems d t c xs ys is).run P w = .ok s w) : (Op.eqItems d t c xs ys (i :: is)).run P w = .ok (r && s) w := by
  rw [Op.eqItems]
  simp only [Sem.run_bind, ha, hb, he, Result.andThen_ok]
  cases r
  · simp
  · simpa using hr
end
theorem eqA38 (d : Nat) (w : World) (x0 x1 x2 x3 y0 y1 y2 y3 : Int) :
    (Op.equalIn (d + 2) 38 (.agg #[.int .i64 x0, .int .i64 x1, .int .i64 x2, .int .i64 x3]) (.agg #[.int .i64 y0, .int .i64 y1, .int .i64 y2, .int .i64 y3])).run Try.prog w = .ok (x0 == y0 && (x1 == y1 && (x2 == y2 && (x3 == y3 && true)))) w := by
  obtain ⟨i0, hi, hz0, hz1, hz2⟩ := info_parts infoInt
  rw [run_equalIn_array (P := Try.prog) w (d + 1) _ _ Try.underlying38 hi]
  rw [show Try.prog.cellsOf 3 = 1 by kernel_rfl, show List.range 4 = [0, 1, 2, 3] from rfl]
  refine eqi_cons (by go_simp; rfl) (by go_simp; rfl) (by go_simp) ?_
  refine eqi_cons (by go_simp; rfl) (by go_simp; rfl) (by go_simp) ?_
  refine eqi_cons (by go_simp; rfl) (by go_simp; rfl) (by go_simp) ?_
  refine eqi_cons (by go_simp; rfl) (by go_simp; rfl) (by go_simp) ?_
  simp [Op.eqItems]
def vP (p : List Int) : Value := .agg (nums .i64 p).toArray
theorem at_P {w : World} {A : Option Addr} {ps : List (List Int)} (h : Kd.C kP w A ps.length ps) (k : Nat) (hk : k < ps.length) :
    ∃ ad p0 p1 p2 p3, A = some ad ∧ ps[k] = [p0, p1, p2, p3] ∧ w.cell? (ad.add (k * 4)) = some (.int .i64 p0) ∧ w.cell? ⟨(ad.add (k * 4)).block, (ad.add (k * 4)).off + 1, none⟩ = some (.int .i64 p1) ∧
      w.cell? ⟨(ad.add (k * 4)).block, (ad.add (k * 4)).off + 2, none⟩ = some (.int .i64 p2) ∧ w.cell? ⟨(ad.add (k * 4)).block, (ad.add (k * 4)).off + 3, none⟩ = some (.int .i64 p3) := by
  obtain ⟨ad, c, e, hl, hK, hc⟩ := Kd.C_get h [] (k : Int) (by omega) (by omega)
  rw [show ps.getD (Int.toNat (k : Int)) [] = ps[k] by simp [List.getD_eq_getElem?_getD, hk]] at hK
  have hlen := Kd.arr_len hK
  obtain ⟨p0, p1, p2, p3, hp⟩ : ∃ p0 p1 p2 p3, ps[k] = [p0, p1, p2, p3] := by
    match hq : ps[k], hlen with
    | [a, b, c, d], _ => exact ⟨a, b, c, d, rfl⟩
  have hcs := (Kd.arr_cells (enc := Value.int .i64) (h1 := fun _ => rfl) hK).2
  rw [hp] at hcs
  subst hcs
  have hc' : ∀ j u, (encs (Value.int .i64) [p0, p1, p2, p3])[j]? = some u → w.cell? (ad.add (k * 4 + j)) = some u := fun j u hu => by
    have := hc j u hu
    rwa [show (Int.toNat (k : Int)) * (kP).sz + j = k * 4 + j from rfl] at this
  refine ⟨ad, p0, p1, p2, p3, e, hp, hc' 0 _ rfl, ?_, ?_, ?_⟩
  · rw [← add_field _ _ 1 (by omega)]; exact hc' 1 _ rfl
  · rw [← add_field _ _ 2 (by omega)]; exact hc' 2 _ rfl
  · rw [← add_field _ _ 3 (by omega)]; exact hc' 3 _ rfl
end Go.Proofs.Ytblalidpeccabac.Pg
