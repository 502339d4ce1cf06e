/- Conditions: names and values, walked. -/
import Derived.Test.YtmageoieajhhdaaDoorBkF
namespace Go.Proofs.YtmageoieajhhdaaDoor.Bk
open Go Go.RowKit Go.Proofs.YtmageoieajhhdaaDoorW.PrintWords Go.Proofs.YtmageoieajhhdaaDoorW.PrintLast Go.Proofs.YtmageoieajhhdaaDoorW.PrintMore Go.Proofs.YtmageoieajhhdaaDoor.PBrkWritten Go.Proofs.YtmageoieajhhdaaDoor.RegionVal
open Go.Lib hiding intOf
set_option linter.unusedVariables false
set_option linter.unusedSimpArgs false
/-- a name and its value -/
def kV : Kd (ByteArray × Int) := Kd.pair Kd.string (Kd.int .i64)
abbrev Vs := List (ByteArray × Int)
def lookF (l : Vs) (s : ByteArray) : Option Int := (l.find? (fun v => decide (v.1 = s))).map (·.2)
theorem atV {w : World} {A : Option Addr} {n : Nat} {xs : Vs} (h : Kd.C kV w A n xs) (i : Nat) (hi : i < xs.length) : ∃ ad, A = some ad ∧ w.cell? (ad.add (i * 2)) = some (.string xs[i].1) ∧ w.cell? ⟨(ad.add (i * 2)).block, (ad.add (i * 2)).off + 1, none⟩ = some (.int .i64 xs[i].2) := by
  have hn := h.1
  obtain ⟨ad, c, e, _, hK, hc⟩ := Kd.C_get h (⟨#[]⟩, 0) (i : Int) (by omega) (by omega)
  rw [Int.toNat_natCast] at hK hc
  have hg : xs.getD i (⟨#[]⟩, 0) = xs[i] := by simp [List.getD_eq_getElem?_getD, hi]
  rw [hg] at hK
  obtain ⟨c0, c1, rfl, h0, h1⟩ := hK
  have h0 : c0 = [.string xs[i].1] := h0
  have h1 : c1 = [.int .i64 xs[i].2] := h1
  subst h0
  subst h1
  exact ⟨ad, e, hc 0 _ rfl, by rw [← add_field _ _ 1 (by omega)]; exact hc 1 _ rfl⟩
def OutV : Option Int → Value
  | some n => .tuple #[.int .i64 n, .bool true]
  | none => .tuple #[.int .i64 0, .bool false]
/-- the list of names that a function of them has caught -/
def NM (W : World) (gb : Nat) (l : Vs) : Prop := ∃ A c, W.heap[gb]? = some (.cells #[.slice A l.length c] 22 (0, 0)) ∧ Kd.C kV W A l.length l
theorem NM.below {W W1 : World} {gb : Nat} {l : Vs} (h : NM W gb l) (hb : Below W.heap.size W W1) : NM W1 gb l := by
  obtain ⟨A, c, h1, h2⟩ := h
  exact ⟨A, c, blk_below h1 hb, Kd.C_below h2 hb⟩
theorem lookF_nil {l : Vs} {s : ByteArray} (h : ∀ v ∈ l, v.1 ≠ s) : lookF l s = none := by
  unfold lookF
  rw [List.find?_eq_none.2 (fun v hv => by simpa using h v hv)]
  rfl
theorem lookF_at {l : Vs} {s : ByteArray} {i : Nat} (hi : i < l.length) (h : ∀ v ∈ l.take i, v.1 ≠ s) (he : l[i].1 = s) : lookF l s = some l[i].2 := by
  unfold lookF
  have : l = l.take i ++ l[i] :: l.drop (i + 1) := by rw [List.getElem_cons_drop, List.take_append_drop]
  conv => lhs; rw [this]
  rw [List.find?_append, List.find?_eq_none.2 (fun v hv => by simpa using h v hv), Option.none_or, List.find?_cons]
  simp [he]
theorem str_ne {a b : ByteArray} (h : a ≠ b) : (a.toList == b.toList) = false := beq_eq_false_iff_ne.2 (fun e => h (by
  rw [ByteArray.toList_eq, ByteArray.toList_eq] at e
  exact ByteArray.ext (Array.ext' e)))
set_option maxHeartbeats 8000000 in
set_option maxRecDepth 100000 in
theorem at_calls (W : World) (gb : Nat) (l : Vs) (s : ByteArray) (h : NM W gb l) : Calls Tryd.prog 34 #[.string s, .pointer (some ⟨gb, 0, none⟩)] W fun e W' => e = .returned (OutV (lookF l s)) ∧ Below W.heap.size W W' := by
  obtain ⟨A, c, hb, hC⟩ := h
  have k0 : W.cell? ⟨gb, 0, none⟩ = some (.slice A l.length c) := (blk_cell hb 0).trans rfl
  have HC := Aside0.mk hC
  have hn := hC.2.1
  clear hb hC
  obtain ⟨r, hr⟩ : ∃ r, lookF l s = r := ⟨_, rfl⟩
  rw [hr]
  have HR := Aside0.mk hr
  clear hr
  go_enter Tryd.func34, Tryd.ntmps34
  go_wp2
  go_loopw [9] (fun v9 wr => ∃ i : Nat, v9 = .int .i64 (i : Int) ∧ i ≤ l.length ∧ Aside0 (∀ v ∈ l.take i, v.1 ≠ s) ∧ Aside0 (Below W.heap.size W wr)) (fun v9 _ => l.length - (intOf v9).toNat)
  case atStart => exact ⟨0, rfl, Nat.zero_le _, ⟨fun v hv => by simp at hv⟩, ⟨Below.refl _ _⟩⟩
  case round =>
    clear k0
    obtain ⟨i, rfl, hi, HN, HB⟩ := hrel
    by_cases hlt : i < l.length
    · have z1 : (i : Int) < (l.length : Int) := by omega
      obtain ⟨ad, rfl, e0, e1⟩ := atV (Kd.C_below HC.out HB.out) i hlt
      have HAT := Aside0.mk (lookF_at (s := s) hlt HN.out)
      have HT := Aside0.mk (show l.take (i + 1) = l.take i ++ [l[i]] from List.take_succ_eq_append_getElem hlt)
      generalize l[i] = p at e0 e1 HAT HT
      by_cases hs : p.1 = s
      · have HX := Aside0.mk (HAT.out hs)
        go_wp2
        have h2 := HR.out
        rw [HX.out] at h2
        subst h2
        exact bodyPost_ret (v := .tuple #[.int .i64 p.2, .bool true]) (by simp [results, Tryd.f34, go_sem]) rfl ⟨rfl, below_step HB.out (below_alloc (Below.refl _ _) _)⟩
      · have HN2 := Aside0.mk (show ∀ v ∈ l.take (i + 1), v.1 ≠ s from fun v hv => by
          rw [HT.out, List.mem_append, List.mem_singleton] at hv
          rcases hv with hv | rfl
          · exact HN.out v hv
          · exact hs)
        have d1 := str_ne hs
        go_wp2
        go_roundw
        case rel => exact ⟨i + 1, by go_num, hlt, HN2, ⟨below_step HB.out (below_alloc (Below.refl _ _) _)⟩⟩
        case measure => simp [intOf]; omega
    · have HX := Aside0.mk (lookF_nil (l := l) (s := s) (fun v hv => HN.out v (by rwa [List.take_of_length_le (by omega)])))
      go_wp2
      have h2 := HR.out
      rw [HX.out] at h2
      subst h2
      exact bodyPost_ret (v := .tuple #[.int .i64 0, .bool false]) (by simp [results, Tryd.f34, go_sem]) rfl ⟨rfl, HB.out⟩
/-- what a condition is worth -/
def truth (b : Bool) : Int := if b then 1 else 0
def op1 (op : UInt8) (a : Int) : Int := if op = 33 then truth (a == 0) else wrap64 (-a)
def op2 (op : UInt8) (a b : Int) : Int :=
  if op = 124 then truth (a != 0 || b != 0) else if op = 38 then truth (a != 0 && b != 0) else if op = 61 then truth (a == b) else if op = 60 then truth (decide (a < b))
  else if op = 43 then wrap64 (a + b) else if op = 45 then wrap64 (a - b) else wrap64 (a * b)
def valF (l : Vs) : Ex → Option Int
  | .nil => some 0
  | .num n => some n
  | .var s => lookF l (bs s)
  | .un op a => (valF l a).bind fun u => some (op1 op u)
  | .bin op a b => (valF l a).bind fun u => (valF l b).bind fun v => some (op2 op u v)
theorem truth_f (b : Bool) : brk_truth.f b = some (truth b) := by cases b <;> rfl
/-- a tree that is read -/
def KX (W : World) (v : Value) (x : Ex) : Prop := ∃ cs, v = .agg cs.toArray ∧ k52.K W (toS x) cs
theorem KX.below {W W1 : World} {v : Value} {x : Ex} (h : KX W v x) (hb : Below W.heap.size W W1) : KX W1 v x := by
  obtain ⟨cs, e, h⟩ := h
  exact ⟨cs, e, k52.K_below hb h⟩
theorem XV.kx {W : World} {ok : Nat → Prop} {v : Value} {x : Ex} (h : XV W ok v (toS x)) : KX W v x := by
  obtain ⟨v3, rfl, hv⟩ := h
  obtain ⟨A, c, rfl, hl, hF⟩ := hv
  exact ⟨_, rfl, k52_mk W (toS x) hl (Kd.F_now hF)⟩
theorem KX.open {W : World} {v : Value} {x : Ex} (h : KX W v x) : ∃ A c, v = .agg #[.int .u8 (toS x).f0, .int .i64 (toS x).f1, .string (toS x).f2, .slice A (toS x).f3.length c, .int .i64 (toS x).f4] ∧ k52.C W A (toS x).f3.length (toS x).f3 := by
  obtain ⟨cs, rfl, h⟩ := h
  obtain ⟨A, c, rfl, _, hC⟩ := k52_open h
  exact ⟨A, c, rfl, hC⟩
/-- an operand of a tree -/
theorem kid_at {W : World} {A : Option Addr} {n : Nat} {xs : List S52} (h : k52.C W A n xs) (x : Ex) (i : Nat) (hx : xs[i]? = some (toS x)) : ∃ ad A3 c3, A = some ad ∧ W.cell? (ad.add (i * 5)) = some (.int .u8 (toS x).f0) ∧ W.cell? ⟨(ad.add (i * 5)).block, (ad.add (i * 5)).off + 1, none⟩ = some (.int .i64 (toS x).f1) ∧ W.cell? ⟨(ad.add (i * 5)).block, (ad.add (i * 5)).off + 2, none⟩ = some (.string (toS x).f2) ∧
    W.cell? ⟨(ad.add (i * 5)).block, (ad.add (i * 5)).off + 3, none⟩ = some (.slice A3 (toS x).f3.length c3) ∧ W.cell? ⟨(ad.add (i * 5)).block, (ad.add (i * 5)).off + 4, none⟩ = some (.int .i64 (toS x).f4) ∧ KX W (.agg #[.int .u8 (toS x).f0, .int .i64 (toS x).f1, .string (toS x).f2, .slice A3 (toS x).f3.length c3, .int .i64 (toS x).f4]) x := by
  have hi := (List.getElem?_eq_some_iff.1 hx).1
  obtain ⟨ad, A3, c3, e, h0, h1, h2, h3, h4, hl, hC⟩ := at_T52 h (i : Int) (by omega) (by have := h.1; omega)
  have hr : rd_T52 xs (i : Int) = toS x := by
    unfold rd_T52
    rw [Int.toNat_natCast, List.getD_eq_getElem?_getD, hx]
    rfl
  rw [hr, Int.toNat_natCast] at h0 h1 h2 h3 h4
  rw [hr] at hl hC
  exact ⟨ad, A3, c3, e, h0, h1, h2, h3, h4, _, rfl, k52_mk W (toS x) hl hC⟩
end Go.Proofs.YtmageoieajhhdaaDoor.Bk
