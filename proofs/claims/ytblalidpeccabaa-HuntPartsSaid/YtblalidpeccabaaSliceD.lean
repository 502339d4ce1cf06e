/- slices.IndexFunc, ContainsFunc at [][]bool; slice.listed: their walks. -/
import Derived.Test.YtblalidpeccabaaSliceC
import Derived.Test.YtblalidpeccabaaBase
namespace Go.Proofs.Ytblalidpeccabaa.Sm
open Go Go.RowKit Go.Lib Go.Proofs.YtblalidpeccabaaW.PrintWords Go.Proofs.YtblalidpeccabaaW.PrintLast Go.Proofs.YtblalidpeccabaaW.PrintMore Go.Proofs.Ytblalidpeccabaa.PHuntParts Go.Proofs.Ytblalidpeccabaa.Sc Go.Proofs.Ytblalidpeccabaa.Bs
set_option linter.unusedVariables false
set_option linter.unusedSimpArgs false

/-- a set as it lies: where, its room, its Bools -/
structure Lies where
  at_ : Option Addr
  room : Nat
  xs : List Bool
def encL (x : Lies) : Value := .slice x.at_ x.xs.length x.room

set_option maxHeartbeats 8000000 in
set_option maxRecDepth 100000 in
theorem indexB_calls (w : World) (g : Nat) (T : TypeId) (els : List Lies) (f : FuncId) (cap : Array Value) (p : Lies → Bool) (hn : els.length ≤ 1000) (hr : w.heap[g]? = some (.cells (els.map encL).toArray T (0, 0))) (hf : Asks f cap w encL els p) :
    Calls Try.prog 50 #[.slice (some ⟨g, 0, none⟩) els.length els.length, .func (.func f) #[] cap] w fun e w' => e = .returned (.int .i64 (idx p els)) ∧ Below w.heap.size w w' := by
  have HR := Aside0.mk hr
  have HF := Aside0.mk hf
  have eg := hf.eg
  clear hr hf
  go_enter Try.func50, Try.ntmps50
  go_wp2_with fail
  go_loopw [8] (fun i wr => ∃ k : Nat, k ≤ els.length ∧ i = .int .i64 (k : Int) ∧ Aside0 (∀ j (hj : j < k) (hj' : j < els.length), p els[j] = false) ∧ Aside0 (Below w.heap.size w wr)) (fun i _ => els.length - (intOf i).toNat)
  case atStart => exact ⟨0, Nat.zero_le _, rfl, ⟨fun j hj => absurd hj (by omega)⟩, ⟨Below.refl _ _⟩⟩
  case round =>
    obtain ⟨k, hk, rfl, HP, HB⟩ := hrel
    by_cases hlt : k < els.length
    · have hk1 : (k : Int) < (els.length : Int) := by omega
      have h0 : wr.cell? ⟨g, k, none⟩ = some (encL els[k]) := by
        rw [blk_cell (blk_below HR.out HB.out) k]
        simp [hlt]
      have HC := Aside0.mk (HF.out.calls els[k] (List.getElem_mem _) wr HB.out)
      obtain ⟨z, hz⟩ : ∃ z, z = els[k] := ⟨_, rfl⟩
      rw [← hz] at h0 HC
      have HZ := Aside0.mk hz
      clear hz
      unfold encL at h0 HC
      go_wp2_with fail
      refine HC.out.mono ?_
      rintro e w2 ⟨rfl, hb⟩
      have HB2 := Aside0.mk (below_then HB.out HB.out.size hb)
      clear hb
      cases hp : p z with
      | true =>
        have HX := Aside0.mk (show idx p els = (k : Int) from idx_at hlt (by rw [← HZ.out]; exact hp) (fun j hj => HP.out j hj (by omega)))
        clear hp
        go_wp2
        go_ret
        exact ⟨by rw [HX.out]; rfl, HB2.out⟩
      | false =>
        have HX := Aside0.mk hp
        clear hp
        go_wp2
        go_roundw
        case rel => exact ⟨k + 1, by omega, by go_num, ⟨fun j hj hj' => by
          by_cases e : j = k
          · subst e; rw [← HZ.out]; exact HX.out
          · exact HP.out j (by omega) hj'⟩, HB2⟩
        case measure => simp [intOf]; omega
    · have hk' : k = els.length := by omega
      subst hk'
      have HX := Aside0.mk (show idx p els = -1 from idx_none (fun j hj => HP.out j hj hj))
      go_wp2
      go_ret
      exact ⟨by rw [HX.out]; rfl, HB.out⟩

set_option maxHeartbeats 8000000 in
set_option maxRecDepth 100000 in
theorem containsB_calls (w : World) (g : Nat) (T : TypeId) (els : List Lies) (f : FuncId) (cap : Array Value) (p : Lies → Bool) (hn : els.length ≤ 1000) (hr : w.heap[g]? = some (.cells (els.map encL).toArray T (0, 0))) (hf : Asks f cap w encL els p) :
    Calls Try.prog 40 #[.slice (some ⟨g, 0, none⟩) els.length els.length, .func (.func f) #[] cap] w fun e w' => e = .returned (.bool (els.any p)) ∧ Below w.heap.size w w' := by
  have HR := Aside0.mk hr
  have HF := Aside0.mk hf
  clear hr hf
  go_enter Try.func40, Try.ntmps40
  go_wp2_with fail
  refine (indexB_calls w g T els f cap p hn HR.out HF.out).mono ?_
  rintro e w1 ⟨rfl, hb⟩
  have HB := Aside0.mk hb
  have HI := Aside0.mk (idx_any p els)
  clear hb
  generalize idx p els = q at HI ⊢
  go_wp2
  go_ret
  exact ⟨by rw [← HI.out]; rfl, HB.out⟩

/-- slice.listed's closure: is a place not in the set? -/
theorem listed1_asks (w : World) (g : Nat) (i : Nat) (els : List Lies) (hi : i ≤ 1000) (hb : w.heap[g]? = some (.cells #[.int .i64 (i : Int)] 3 (0, 0)))
    (he : ∀ x ∈ els, Kd.C Kd.bool w x.at_ x.xs.length x.xs ∧ i < x.xs.length) : Asks 41 #[.pointer (some ⟨g, 0, none⟩)] w encL els (fun x => !x.xs.getD i false) := by
  refine ⟨fun args w => enters_ Try.func41 (by kernel_rfl) rfl args w, fun x hx W hW => ?_⟩
  have h0 := blk_cell (blk_below hb hW) 0
  simp only [List.getElem?_toArray, List.getElem?_cons_zero] at h0
  obtain ⟨hC, hlt⟩ := he x hx
  obtain ⟨A, rm, xs⟩ := x
  simp only at hC hlt ⊢
  have hC1 := Kd.C_below hC hW
  obtain ⟨ad, rfl, h1⟩ := Kd.at_bool hC1 (i : Int) (by omega) (by omega)
  have hrd : rdOf false xs (i : Int) = xs.getD i false := rfl
  rw [hrd, Int.toNat_natCast] at h1
  have z1 : (i : Int) < (xs.length : Int) := by omega
  show Calls Try.prog 41 #[.slice (some ad) xs.length rm, .pointer (some ⟨g, 0, none⟩)] W _
  generalize xs.getD i false = b at h1 ⊢
  clear hC hC1 hb he hrd hx
  go_enter Try.func41, Try.ntmps41
  go_wp2
  go_ret
  exact ⟨rfl, Below.refl _ _⟩
end Go.Proofs.Ytblalidpeccabaa.Sm
