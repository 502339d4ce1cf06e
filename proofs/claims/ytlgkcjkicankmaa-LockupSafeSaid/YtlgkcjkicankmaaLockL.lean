/- LockupRank: its closure; its walk. -/
import Derived.Test.YtlgkcjkicankmaaLockI
import Derived.Test.YtlgkcjkicankmaaLockJ
import Derived.Test.YtlgkcjkicankmaaRegionTwo
namespace Go.Proofs.Ytlgkcjkicankmaa.Lk
open Go Go.RowKit Go.Maps Go.Proofs.YtlgkcjkicankmaaW Go.Proofs.YtlgkcjkicankmaaW.PrintWords Go.Proofs.YtlgkcjkicankmaaW.PrintLast Go.Proofs.YtlgkcjkicankmaaW.PrintMore Go.Proofs.Ytlgkcjkicankmaa.PLockupEither Go.Proofs.Ytlgkcjkicankmaa.Bs Go.Proofs.Ytlgkcjkicankmaa.RegionVal
open Go.Lib hiding intOf
set_option linter.unusedVariables false
set_option linter.unusedSimpArgs false

section
variable {P : Program} {L : List Oper} {S : World → Prop} {a0 : Act} {K : List (Nat × Value) → Prop} {env : List (Nat × Value)} {rest : List Oper} {d : Nat} {T : TypeId} {pos : String} {after : Array Edge} {g : Option (Nat × Bool)}
/-- a load whose run is told -/
theorem st_load {t : TypeId} {x : Operand} {vx v : Value} (hg : want L a0 env g = some true) (hx : rdo a0 env x = some vx)
    (hr : ∀ w, S w → Sem.run P (Instr.loadAt t vx) w = .ok v w) (h : SeqOk P L.toArray S a0 K rest ((d, v) :: env)) : SeqOk P L.toArray S a0 K (⟨some d, .load t x, T, pos, after, g⟩ :: rest) env :=
  st_gen hg (fun w hw => by
    simp only [execOp, ev_of hx, Sem.run_bind]
    rw [hr w hw]
    rfl) h
/-- a call of a function value with what it holds -/
theorem st_callv {f : FuncId} {fn : Func} {x : Operand} {xs : List Operand} {vs : List Value} {cap : Array Value} {ts : Array TypeId} {v : Value} (hg : want L a0 env g = some true) (hf : P.funcs[f]? = some fn) (hb : fn.body.isSome = true) (hcv : rdo a0 env x = some (.func (.func f) #[] cap)) (hx : rdos a0 env xs = some vs)
    (hname : (fn.name == "runtime.NumGoroutine") = false)
    (hc : ∀ w, S w → Calls P f (vs.toArray ++ cap) w fun e w' => e = .returned v ∧ S w') (h : SeqOk P L.toArray S a0 K rest ((d, v) :: env)) :
    SeqOk P L.toArray S a0 K (⟨some d, .call { callee := .value x, args := xs.toArray, argTypes := ts }, T, pos, after, g⟩ :: rest) env :=
  ⟨v, .inl ⟨wanted_of hg, fun w hw => by
    have h1 : (execOp (ev a0 env) ⟨some d, .call { callee := .value x, args := xs.toArray, argTypes := ts }, T, pos, after, g⟩).run P w = .ok (.enter f (vs.toArray ++ cap)) w := by
      have he := evs_of hx
      have hcv2 := ev_of hcv
      have h2 : ∀ args, Sem.run P (callFunc f args) w = .ok (.enter f args) w := by
        intro args
        have h1 : fn.name ≠ "runtime.NumGoroutine" := by simpa using hname
        obtain ⟨c, hc'⟩ := Option.isSome_iff_exists.1 hb
        simp [callFunc, hf, h1, hc']
      simp [execOp, resolve, hcv2, he, Deferred.ofValue, invoke, h2]
    rw [h1]
    exact hc w hw⟩, h⟩
end
/-- where x stands in r, or -1 -/
def atF (r : List Int) (x : Int) : Int := if x ∈ r then (r.idxOf x : Int) else -1
theorem atF_at {r : List Int} {x : Int} {q : Nat} (h : r[q]? = some x) (hf : ∀ j, j < q → r[j]? ≠ some x) : atF r x = (q : Int) := by
  obtain ⟨hq, e⟩ := List.getElem?_eq_some_iff.1 h
  have hm : x ∈ r := e ▸ List.getElem_mem hq
  unfold atF
  rw [if_pos hm]
  have h1 : r.idxOf x < r.length := List.idxOf_lt_length_iff.2 hm
  have h2 : r[r.idxOf x]? = some x := by rw [List.getElem?_eq_getElem h1, List.getElem_idxOf h1]
  have h3 : ¬ r.idxOf x < q := fun hlt => hf _ hlt h2
  have h4 : ¬ q < r.idxOf x := fun hlt => by
    have h5 := List.not_of_lt_findIdx (p := (· == x)) (xs := r) (i := q) (by simpa [List.idxOf] using hlt)
    simp [e] at h5
  omega
theorem atF_no {r : List Int} {x : Int} (h : x ∉ r) : atF r x = -1 := by unfold atF; rw [if_neg h]
theorem atF_nodup {r : List Int} {i : Nat} {x : Int} (hd : r.Nodup) (h : r[i]? = some x) : atF r x = (i : Int) :=
  atF_at h (fun j hj e => by
    obtain ⟨h1, e1⟩ := List.getElem?_eq_some_iff.1 h
    obtain ⟨h2, e2⟩ := List.getElem?_eq_some_iff.1 e
    have := (List.getElem_inj hd).1 (e1.trans e2.symm)
    omega)
theorem atF_bf {r : List Int} {a b : Int} (hd : r.Nodup) (h : Bf r a b) : 0 ≤ atF r a ∧ atF r a < atF r b := by
  obtain ⟨i, j, h1, h2, h3⟩ := h
  rw [atF_nodup hd h2, atF_nodup hd h3]
  omega

set_option maxHeartbeats 8000000 in
set_option maxRecDepth 100000 in
theorem at_calls (w : World) (g : Nat) (A : Option Addr) (c : Nat) (r : List Int) (x : Int) (hk : w.heap[g]? = some (.cells #[.slice A r.length c] 24 (0, 0))) (hr : ReadsInt w .i64 A r.length r) (hl : r.length ≤ 10000) :
    Calls Try.prog 12 #[.int .i64 x, .pointer (some ⟨g, 0, none⟩)] w fun e w' => e = .returned (.int .i64 (atF r x)) ∧ Below w.heap.size w w' := by
  have HK := Aside0.mk hk
  have HR := Aside0.mk hr
  clear hk hr
  go_enter Try.func12, Try.ntmps12
  go_wp2_with fail
  go_loopw [4] (fun v4 wr => ∃ i : Nat, v4 = .int .i64 (i : Int) ∧ i ≤ r.length ∧ Aside0 (∀ j, j < i → r[j]? ≠ some x) ∧ Aside0 (Below w.heap.size w wr)) (fun v4 _ => r.length - (intOf v4).toNat)
  case atStart => exact ⟨0, rfl, Nat.zero_le _, ⟨fun j hj => absurd hj (Nat.not_lt_zero _)⟩, ⟨Below.refl _ _⟩⟩
  case round =>
    obtain ⟨i, rfl, hi, HF, HB⟩ := hrel
    have k0 := blk_cell (blk_below HK.out HB.out) 0
    simp only [List.getElem?_toArray, List.getElem?_cons_zero, List.getElem?_cons_succ] at k0
    by_cases hlt : i < r.length
    · have hlt1 : (i : Int) < (r.length : Int) := by omega
      obtain ⟨ad, rfl, hc8⟩ := (HR.out.below HB.out).2.2 (by omega)
      have kj : wr.cell? (ad.add i) = some (.int .i64 r[i]) := by
        have h := hc8 i hlt
        simpa [List.getD_eq_getElem?_getD, hlt] using h
      clear hc8
      obtain ⟨y, hy⟩ : ∃ y, y = r[i] := ⟨_, rfl⟩
      rw [← hy] at kj
      by_cases hyx : y = x
      · have HA := Aside0.mk (show atF r x = (i : Int) from atF_at (by rw [List.getElem?_eq_getElem hlt, ← hy, hyx]) HF.out)
        have d1 : (y == x) = true := beq_iff_eq.2 hyx
        clear hy hyx HF
        go_wp2
        exact bodyPost_ret (v := .int .i64 (i : Int)) (by simp [results, Try.f12, go_sem]) rfl ⟨by rw [HA.out], HB.out⟩
      · have HF2 := Aside0.mk (show ∀ j, j < i + 1 → r[j]? ≠ some x from fun j hj e => by
          by_cases hji : j = i
          · subst hji
            rw [List.getElem?_eq_getElem hlt, ← hy] at e
            exact hyx (Option.some.inj e)
          · exact HF.out j (by omega) e)
        have d1 : (y == x) = false := beq_eq_false_iff_ne.2 hyx
        clear hy hyx HF
        go_wp2
        go_roundw
        case rel => exact ⟨i + 1, by go_num, hlt, HF2, HB⟩
        case measure => simp [intOf]; omega
    · have hle : r.length ≤ i := by omega
      have HA := Aside0.mk (show atF r x = -1 from atF_no (fun hm => by
        obtain ⟨j, hj, e⟩ := List.getElem_of_mem hm
        exact HF.out j (by omega) (by rw [List.getElem?_eq_getElem hj, e])))
      clear HF
      go_wp2
      exact bodyPost_ret (v := .int .i64 (-1)) (by simp [results, Try.f12, go_sem]) rfl ⟨by rw [HA.out], HB.out⟩
end Go.Proofs.Ytlgkcjkicankmaa.Lk
