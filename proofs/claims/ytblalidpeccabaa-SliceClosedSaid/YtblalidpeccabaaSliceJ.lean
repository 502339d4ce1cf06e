/- Lines of a program without jumps (api.DLet) as they lie; slices.IndexFunc, ContainsFunc of them; slice.right. -/
import Derived.Test.YtblalidpeccabaaSliceI
namespace Go.Proofs.Ytblalidpeccabaa.Sm
open Go Go.RowKit Go.Lib Go.Proofs.YtblalidpeccabaaW.PrintWords Go.Proofs.YtblalidpeccabaaW.PrintLast Go.Proofs.YtblalidpeccabaaW.PrintMore Go.Proofs.Ytblalidpeccabaa.PHuntParts Go.Proofs.Ytblalidpeccabaa.Sc Go.Proofs.Ytblalidpeccabaa.Bs
set_option linter.unusedVariables false
set_option linter.unusedSimpArgs false

structure S51 where
  to_ : Int
  op : Int
  a : Int
  b : Int
def z51 : S51 := ⟨0, 0, 0, 0⟩
def k51 : Kd S51 := Kd.iso (Kd.pair (Kd.int .i64) (Kd.pair (Kd.int .i64) (Kd.pair (Kd.int .i64) (Kd.int .i64)))) (fun x : S51 => (x.to_, x.op, x.a, x.b))
theorem k51_open {w : World} {x : S51} {cs : List Value} (h : k51.K w x cs) : cs = [.int .i64 x.to_, .int .i64 x.op, .int .i64 x.a, .int .i64 x.b] := by
  obtain ⟨_, _, rfl, rfl, _, _, rfl, rfl, _, _, rfl, rfl, rfl⟩ := h
  exact rfl
def enc51 (x : S51) : Value := .agg #[.int .i64 x.to_, .int .i64 x.op, .int .i64 x.a, .int .i64 x.b]
theorem at_T51 {w : World} {A : Option Addr} {xs : List S51} (h : Kd.C k51 w A xs.length xs) {i : Nat} (hi : i < xs.length) : ∃ ad, A = some ad ∧ w.cell? (ad.add (i * 4)) = some (.int .i64 xs[i].to_) ∧
    w.cell? ⟨(ad.add (i * 4)).block, (ad.add (i * 4)).off + 1, none⟩ = some (.int .i64 xs[i].op) ∧ w.cell? ⟨(ad.add (i * 4)).block, (ad.add (i * 4)).off + 2, none⟩ = some (.int .i64 xs[i].a) ∧
    w.cell? ⟨(ad.add (i * 4)).block, (ad.add (i * 4)).off + 3, none⟩ = some (.int .i64 xs[i].b) := by
  obtain ⟨ad, c, e, _, hK, hc0⟩ := Kd.C_get h z51 (i : Int) (by omega) (by omega)
  have hx : xs.getD ((i : Int).toNat) z51 = xs[i] := by simp [List.getD_eq_getElem?_getD, hi]
  rw [hx] at hK
  rw [Int.toNat_natCast] at hc0
  have hc : ∀ j u, c[j]? = some u → w.cell? (ad.add (i * 4 + j)) = some u := hc0
  obtain rfl := k51_open hK
  exact ⟨ad, e, hc 0 _ rfl, by rw [← add_field _ _ 1 (by omega)]; exact hc 1 _ rfl, by rw [← add_field _ _ 2 (by omega)]; exact hc 2 _ rfl, by rw [← add_field _ _ 3 (by omega)]; exact hc 3 _ rfl⟩

set_option maxHeartbeats 8000000 in
set_option maxRecDepth 100000 in
theorem indexD_calls (w : World) (A : Option Addr) (c : Nat) (xs : List S51) (f : FuncId) (cap : Array Value) (p : S51 → Bool) (hr : Kd.C k51 w A xs.length xs) (hc : xs.length ≤ c) (hf : Asks f cap w enc51 xs p) :
    Calls Try.prog 48 #[.slice A xs.length c, .func (.func f) #[] cap] w fun e w' => e = .returned (.int .i64 (idx p xs)) ∧ Below w.heap.size w w' := by
  have hn : xs.length ≤ 9223372036854775807 := hr.2.1
  have HR := Aside0.mk hr
  have HF := Aside0.mk hf
  have eg := hf.eg
  clear hr hf
  go_enter Try.func48, Try.ntmps48
  go_wp2_with fail
  go_loopw [8] (fun i wr => ∃ k : Nat, k ≤ xs.length ∧ i = .int .i64 (k : Int) ∧ Aside0 (∀ j (hj : j < k) (hj' : j < xs.length), p xs[j] = false) ∧ Aside0 (Below w.heap.size w wr)) (fun i _ => xs.length - (intOf i).toNat)
  case atStart => exact ⟨0, Nat.zero_le _, rfl, ⟨fun j hj => absurd hj (by omega)⟩, ⟨Below.refl _ _⟩⟩
  case round =>
    obtain ⟨k, hk, rfl, HP, HB⟩ := hrel
    by_cases hlt : k < xs.length
    · have hk1 : (k : Int) < (xs.length : Int) := by omega
      obtain ⟨ad, rfl, h0, h1, h2, h3⟩ := at_T51 (Kd.C_below HR.out HB.out) hlt
      have HC := Aside0.mk (HF.out.calls xs[k] (List.getElem_mem _) wr HB.out)
      obtain ⟨z, hz⟩ : ∃ z, z = xs[k] := ⟨_, rfl⟩
      rw [← hz] at h0 h1 h2 h3 HC
      have HZ := Aside0.mk hz
      clear hz
      unfold enc51 at HC
      go_wp2_with fail
      refine HC.out.mono ?_
      rintro e w2 ⟨rfl, hb⟩
      have HB2 := Aside0.mk (below_then HB.out HB.out.size hb)
      clear hb
      cases hp : p z with
      | true =>
        have HX := Aside0.mk (show idx p xs = (k : Int) from idx_at hlt (by rw [← HZ.out]; exact hp) (fun j hj => HP.out j hj (by omega)))
        clear hp
        go_wp2
        go_ret
        exact ⟨by rw [HX.out]; rfl, HB2.out⟩
      | false =>
        have HX := Aside0.mk hp
        clear hp
        go_wp2
        go_roundw
        case rel => exact ⟨k + 1, by omega, by go_num, ⟨fun j hj hj' => by
          by_cases e : j = k
          · subst e; rw [← HZ.out]; exact HX.out
          · exact HP.out j (by omega) hj'⟩, HB2⟩
        case measure => simp [intOf]; omega
    · have hk' : k = xs.length := by omega
      subst hk'
      have HX := Aside0.mk (show idx p xs = -1 from idx_none (fun j hj => HP.out j hj hj))
      go_wp2
      go_ret
      exact ⟨by rw [HX.out]; rfl, HB.out⟩

set_option maxHeartbeats 8000000 in
set_option maxRecDepth 100000 in
theorem containsD_calls (w : World) (A : Option Addr) (c : Nat) (xs : List S51) (f : FuncId) (cap : Array Value) (p : S51 → Bool) (hr : Kd.C k51 w A xs.length xs) (hc : xs.length ≤ c) (hf : Asks f cap w enc51 xs p) :
    Calls Try.prog 36 #[.slice A xs.length c, .func (.func f) #[] cap] w fun e w' => e = .returned (.bool (xs.any p)) ∧ Below w.heap.size w w' := by
  have HR := Aside0.mk hr
  have HF := Aside0.mk hf
  clear hr hf
  go_enter Try.func36, Try.ntmps36
  go_wp2_with fail
  refine (indexD_calls w A c xs f cap p HR.out hc HF.out).mono ?_
  rintro e w1 ⟨rfl, hb⟩
  have HB := Aside0.mk hb
  have HI := Aside0.mk (idx_any p xs)
  clear hb
  generalize idx p xs = q at HI ⊢
  go_wp2
  go_ret
  exact ⟨by rw [← HI.out]; rfl, HB.out⟩

def badOp (x : S51) : Bool := decide (x.op < 0) || decide (3 < x.op)
theorem right1_asks (w : World) (xs : List S51) : Asks 37 #[] w enc51 xs badOp := by
  refine ⟨fun args w => enters_ Try.func37 (by kernel_rfl) rfl args w, fun x hx W hW => ?_⟩
  show Calls Try.prog 37 #[.agg #[.int .i64 x.to_, .int .i64 x.op, .int .i64 x.a, .int .i64 x.b]] W _
  unfold badOp
  obtain ⟨t, o, a, b⟩ := x
  simp only
  clear hx hW
  go_enter Try.func37, Try.ntmps37
  by_cases h0 : o < 0
  · go_wp2
    go_ret
    exact ⟨by simp [h0], below_alloc (Below.refl _ _) _⟩
  · go_wp2
    go_ret
    exact ⟨by simp; omega, below_alloc (Below.refl _ _) _⟩
end Go.Proofs.Ytblalidpeccabaa.Sm
