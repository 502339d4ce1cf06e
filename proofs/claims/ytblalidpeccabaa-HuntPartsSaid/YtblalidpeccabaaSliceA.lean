/- slices.IndexFunc, ContainsFunc at []int; what the closures of slice.check say. -/
import Derived.Test.YtblalidpeccabaaHuntPr
import Derived.Test.YtblalidpeccabaaAlonePure
import Derived.Test.YtblalidpeccabaaWMore
namespace Go.Proofs.Ytblalidpeccabaa.Sm
open Go Go.RowKit Go.Lib Go.Proofs.YtblalidpeccabaaW.PrintWords Go.Proofs.YtblalidpeccabaaW.PrintLast Go.Proofs.YtblalidpeccabaaW.PrintMore Go.Proofs.Ytblalidpeccabaa.PHuntParts Go.Proofs.Ytblalidpeccabaa.Sc
set_option linter.unusedVariables false
set_option linter.unusedSimpArgs false

/-- the first of which it is said; -1: there is none -/
def idx {α : Type} (p : α → Bool) (xs : List α) : Int := match xs.findIdx? p with
  | some k => (k : Int)
  | none => -1
theorem idx_any {α : Type} (p : α → Bool) (xs : List α) : decide (0 ≤ idx p xs) = xs.any p := by
  unfold idx
  cases h : xs.findIdx? p with
  | some k =>
    obtain ⟨hk, h1, _⟩ := List.findIdx?_eq_some_iff_getElem.1 h
    have : xs.any p = true := List.any_eq_true.2 ⟨_, List.getElem_mem hk, h1⟩
    rw [this]
    simp
  | none =>
    have h1 := List.findIdx?_eq_none_iff.1 h
    have : xs.any p = false := List.any_eq_false.2 (fun x hx => by simp [h1 x hx])
    rw [this]
    rfl
theorem idx_at {α : Type} {p : α → Bool} {xs : List α} {k : Nat} (hk : k < xs.length) (h1 : p xs[k] = true) (h0 : ∀ j (hj : j < k), p (xs[j]'(by omega)) = false) : idx p xs = (k : Int) := by
  unfold idx
  rw [List.findIdx?_eq_some_iff_getElem.2 ⟨hk, h1, fun j hj => by simp [h0 j hj]⟩]
theorem idx_none {α : Type} {p : α → Bool} {xs : List α} (h0 : ∀ j (hj : j < xs.length), p xs[j] = false) : idx p xs = -1 := by
  unfold idx
  rw [List.findIdx?_eq_none_iff.2 (fun x hx => by
    obtain ⟨j, hj, rfl⟩ := List.getElem_of_mem hx
    exact h0 j hj)]

/-- a function value that answers p of xs, from the world w0 on -/
structure Asks {α : Type} (f : FuncId) (cap : Array Value) (w0 : World) (enc : α → Value) (xs : List α) (p : α → Bool) : Prop where
  eg : ∀ args w, (callFunc f args).run Try.prog w = .ok (.enter f args) w
  calls : ∀ x ∈ xs, ∀ w : World, Below w0.heap.size w0 w → Calls Try.prog f (#[enc x] ++ cap) w fun e w' => e = .returned (.bool (p x)) ∧ Below w.heap.size w w'

set_option maxHeartbeats 8000000 in
set_option maxRecDepth 100000 in
theorem indexI_calls (w : World) (A : Option Addr) (c : Nat) (xs : List Int) (f : FuncId) (cap : Array Value) (p : Int → Bool) (hr : Kd.C (Kd.int .i64) w A xs.length xs) (hc : xs.length ≤ c) (hf : Asks f cap w (Value.int .i64) xs p) :
    Calls Try.prog 49 #[.slice A xs.length c, .func (.func f) #[] cap] w fun e w' => e = .returned (.int .i64 (idx p xs)) ∧ Below w.heap.size w w' := by
  have hn : xs.length ≤ 9223372036854775807 := hr.2.1
  have HR := Aside0.mk hr
  have HF := Aside0.mk hf
  have eg := hf.eg
  clear hr hf
  go_enter Try.func49, Try.ntmps49
  go_wp2_with fail
  go_loopw [8] (fun i wr => ∃ k : Nat, k ≤ xs.length ∧ i = .int .i64 (k : Int) ∧ Aside0 (∀ j (hj : j < k) (hj' : j < xs.length), p xs[j] = false) ∧ Aside0 (Below w.heap.size w wr)) (fun i _ => xs.length - (intOf i).toNat)
  case atStart => exact ⟨0, Nat.zero_le _, rfl, ⟨fun j hj => absurd hj (by omega)⟩, ⟨Below.refl _ _⟩⟩
  case round =>
    obtain ⟨k, hk, rfl, HP, HB⟩ := hrel
    by_cases hlt : k < xs.length
    · have hk1 : (k : Int) < (xs.length : Int) := by omega
      obtain ⟨ad, rfl, h0⟩ := Kd.at_int (Kd.C_below HR.out HB.out) (k : Int) (by omega) (by omega)
      have hrd : rd xs (k : Int) = xs[k] := by simp [rd, List.getD_eq_getElem?_getD, hlt]
      rw [hrd, Int.toNat_natCast] at h0
      have HC := Aside0.mk (HF.out.calls xs[k] (List.getElem_mem _) wr HB.out)
      obtain ⟨z, hz⟩ : ∃ z, z = xs[k] := ⟨_, rfl⟩
      rw [← hz] at h0 HC
      have HZ := Aside0.mk hz
      clear hz hrd
      go_wp2_with fail
      refine HC.out.mono ?_
      rintro e w2 ⟨rfl, hb⟩
      have HB2 := Aside0.mk (below_then HB.out HB.out.size hb)
      clear hb
      cases hp : p z with
      | true =>
        have HX := Aside0.mk (show idx p xs = (k : Int) from idx_at hlt (by rw [← HZ.out]; exact hp) (fun j hj => HP.out j hj (by omega)))
        clear hp
        go_wp2
        go_ret
        exact ⟨by rw [HX.out]; rfl, HB2.out⟩
      | false =>
        have HX := Aside0.mk hp
        clear hp
        go_wp2
        go_roundw
        case rel => exact ⟨k + 1, by omega, by go_num, ⟨fun j hj hj' => by
          by_cases e : j = k
          · subst e; rw [← HZ.out]; exact HX.out
          · exact HP.out j (by omega) hj'⟩, HB2⟩
        case measure => simp [intOf]; omega
    · have hk' : k = xs.length := by omega
      subst hk'
      have HX := Aside0.mk (show idx p xs = -1 from idx_none (fun j hj => HP.out j hj hj))
      go_wp2
      go_ret
      exact ⟨by rw [HX.out]; rfl, HB.out⟩

set_option maxHeartbeats 8000000 in
set_option maxRecDepth 100000 in
theorem containsI_calls (w : World) (A : Option Addr) (c : Nat) (xs : List Int) (f : FuncId) (cap : Array Value) (p : Int → Bool) (hr : Kd.C (Kd.int .i64) w A xs.length xs) (hc : xs.length ≤ c) (hf : Asks f cap w (Value.int .i64) xs p) :
    Calls Try.prog 38 #[.slice A xs.length c, .func (.func f) #[] cap] w fun e w' => e = .returned (.bool (xs.any p)) ∧ Below w.heap.size w w' := by
  have HR := Aside0.mk hr
  have HF := Aside0.mk hf
  clear hr hf
  go_enter Try.func38, Try.ntmps38
  go_wp2_with fail
  refine (indexI_calls w A c xs f cap p HR.out hc HF.out).mono ?_
  rintro e w1 ⟨rfl, hb⟩
  have HB := Aside0.mk hb
  have HI := Aside0.mk (idx_any p xs)
  clear hb
  generalize idx p xs = q at HI ⊢
  go_wp2
  go_ret
  exact ⟨by rw [← HI.out]; rfl, HB.out⟩

/-- slice.check's closure: is a use none of those ahead? -/
theorem check1_asks (w : World) (g : Nat) (i : Int) (xs : List Int) (hb : w.heap[g]? = some (.cells #[.int .i64 i] 3 (0, 0))) : Asks 39 #[.pointer (some ⟨g, 0, none⟩)] w (Value.int .i64) xs (fun n => decide (n < 0) || decide (i ≤ n)) := by
  refine ⟨fun args w => enters_ Try.func39 (by kernel_rfl) rfl args w, fun x hx W hW => ?_⟩
  have h0 := blk_cell (blk_below hb hW) 0
  simp only [List.getElem?_toArray, List.getElem?_cons_zero] at h0
  show Calls Try.prog 39 #[.int .i64 x, .pointer (some ⟨g, 0, none⟩)] W _
  go_enter Try.func39, Try.ntmps39
  by_cases hx0 : x < 0
  · go_wp2
    go_ret
    exact ⟨by simp [hx0], Below.refl _ _⟩
  · go_wp2
    go_ret
    exact ⟨by simp; omega, Below.refl _ _⟩
end Go.Proofs.Ytblalidpeccabaa.Sm
