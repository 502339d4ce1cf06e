/- Events as they lie: loads, stores, their order by step. -/
import Derived.Test.YtblalidpeccababRowsPq
import Derived.Test.YtblalidpeccababRowsPc
import Derived.Test.YtblalidpeccababRowsPure
import Derived.Test.YtblalidpeccababBase
import Derived.Test.YtblalidpeccababRegionU
import Derived.Deep.MidRow
namespace Go.Proofs.Ytblalidpeccabab.RegionVal
open Go Go.RowKit
set_option linter.unusedVariables false
section
variable {P : Program} {L : List Oper} {S T U : World → Prop} {a0 : Act} {Q : Exit → Act → World → Prop} {K : List (Nat × Value) → World → Prop} {env : List (Nat × Value)} {rest : List (Nat × Bool)} {i : Nat} {w : World} {d : Nat} {Ty : TypeId} {pos : String} {after : Array Edge} {g : Option (Nat × Bool)}
/-- a load whose run is told -/
theorem se_load {t : TypeId} {x : Operand} {vx v : Value} (ho : want.nthO L i = some ⟨some d, .load t x, Ty, pos, after, g⟩) (hg : want L a0 env g = some true) (hx : rdo a0 env x = some vx)
    (hr : ∀ w, S w → Sem.run P (Instr.loadAt t vx) w = .ok v w) (h : SeqE P L S a0 K rest ((d, v) :: env) w) : SeqE P L S a0 K ((i, false) :: rest) env w :=
  se_gen ho hg (fun w hw => by
    simp only [execOp, ev_of hx, Sem.run_bind]
    rw [hr w hw]
    rfl) h
/-- a call of a function value that binds nothing -/
theorem se_callv {f : FuncId} {fn : Func} {x : Operand} {xs : List Operand} {vs : List Value} {ts : Array TypeId} (ho : want.nthO L i = some ⟨some d, .call { callee := .value x, args := xs.toArray, argTypes := ts }, Ty, pos, after, g⟩) (hg : want L a0 env g = some true) (hf : P.funcs[f]? = some fn) (hb : fn.body.isSome = true) (hc : rdo a0 env x = some (.func (.func f) #[] #[])) (hx : rdos a0 env xs = some vs)
    (hname : (fn.name == "runtime.NumGoroutine") = false)
    (h : Calls P f vs.toArray w fun e w' => ∃ v, e = .returned v ∧ S w' ∧ SeqE P L S a0 K rest ((d, v) :: env) w') :
    SeqE P L S a0 K ((i, true) :: rest) env w := by
  refine se_eff ho hg ?_
  have h1 : (execOp (ev a0 env) ⟨some d, .call { callee := .value x, args := xs.toArray, argTypes := ts }, Ty, pos, after, g⟩).run P w = .ok (.enter f vs.toArray) w := by
    have he := evs_of hx
    have hcv := ev_of hc
    have h2 : Sem.run P (callFunc f vs.toArray) w = .ok (.enter f vs.toArray) w := by
      have h1 : fn.name ≠ "runtime.NumGoroutine" := by simpa using hname
      obtain ⟨c, hc'⟩ := Option.isSome_iff_exists.1 hb
      simp [callFunc, hf, h1, hc']
    simp [execOp, resolve, hcv, he, Deferred.ofValue, invoke, h2]
  rw [h1]
  exact h
end
end Go.Proofs.Ytblalidpeccabab.RegionVal
namespace Go.Proofs.Ytblalidpeccabab.Rw
open Go Go.RowKit Go.Lib Go.Proofs.YtblalidpeccababW.PrintWords Go.Proofs.YtblalidpeccababW.PrintLast Go.Proofs.YtblalidpeccababW.PrintMore Go.Proofs.Ytblalidpeccabab.PRowsThree Go.Proofs.Ytblalidpeccabab.Bs Go.Proofs.Ytblalidpeccabab.RegionVal
set_option linter.unusedVariables false
set_option linter.unusedSimpArgs false

def c53 (x : S53) : List Value := [.int .i64 x.f0, .int .i64 x.f1, .int .i64 x.f2, .int .i64 x.f3, .int .i64 x.f4, .int .i64 x.f5, .int .i64 x.f6, .int .i64 x.f7, .int .i64 x.f8.f0, .int .i64 x.f8.f1, .int .i64 x.f9.f0, .int .i64 x.f9.f1]
def v53 (x : S53) : Value := .agg (c53 x).toArray
def ky (x : S53) : Int := x.f1
def cmpS (a b : Int) : Int := if a < b then -1 else if b < a then 1 else 0
theorem cmpS_lt (a b : Int) : decide (cmpS a b < 0) = decide (a < b) := by
  unfold cmpS
  by_cases h : a < b
  · rw [if_pos h]; simp [h]
  · rw [if_neg h]
    by_cases h2 : b < a
    · rw [if_pos h2]; simp [h]
    · rw [if_neg h2]; simp [h]
theorem byStep_calls (x y : S53) (W : World) : Calls Try.prog 55 #[v53 x, v53 y] W fun e w' => e = .returned (.int .i64 (cmpS (ky x) (ky y))) ∧ Below W.heap.size W w' := by
  refine rows_byStep.calls x.f0 x.f1 x.f2 x.f3 x.f4 x.f5 x.f6 x.f7 x.f8.f0 x.f8.f1 x.f9.f0 x.f9.f1 y.f0 y.f1 y.f2 y.f3 y.f4 y.f5 y.f6 y.f7 y.f8.f0 y.f8.f1 y.f9.f0 y.f9.f1 (cmpS (ky x) (ky y)) W ?_
  unfold rows_byStep.f cmp_Compare_int.f cmp_isNaN_int.f cmpS ky
  simp only [Option.bind_some, bne_self_eq_false]
  by_cases h : x.f1 < y.f1
  · simp [h]
  · by_cases h2 : y.f1 < x.f1
    · simp [h, h2]
    · simp [h, h2]
abbrev RE (w : World) (base g n c : Nat) (xs : List S53) : Prop := Kd.R k53 53 w base (fun _ => True) (.slice (some ⟨g, 0, none⟩) n c) xs
theorem RE.len {w : World} {base g n c : Nat} {xs : List S53} (h : RE w base g n c xs) : n = xs.length := (Kd.R_reads' h).1
theorem RE.cells {w : World} {base g n c : Nat} {xs : List S53} (h : RE w base g n c xs) (i : Nat) (hi : i < xs.length) : w.rangeAt g (i * 12) (c53 xs[i]) := by
  obtain ⟨cs, hcl, hM, hcell, _⟩ := Kd.R_elem h z53 (i : Int) (by omega) (by have := h.len; omega)
  rw [show xs.getD (Int.toNat (i : Int)) z53 = xs[i] by simp [List.getD_eq_getElem?_getD, hi]] at hM
  obtain rfl := k53_openM hM
  intro j v hv
  have := hcell j v hv
  rwa [Int.toNat_natCast] at this
theorem info53 : (Try.prog.info? 53).map (·.size) = some 12 := by kernel_rfl
theorem RE.load {w : World} {base g n c : Nat} {xs : List S53} (h : RE w base g n c xs) (i : Nat) (hi : i < xs.length) : Sem.run Try.prog (Instr.loadAt 53 (.pointer (some ⟨g, i * 12, none⟩))) w = .ok (v53 xs[i]) w :=
  run_loadAt_mid w g (i * 12) 53 (c53 xs[i]) _ (h.cells i hi) Try.underlying53 rfl info53
theorem RE.store {w : World} {base g n c : Nat} {xs : List S53} (h : RE w base g n c xs) (i : Nat) (hi : i < xs.length) (x : S53) :
    ∃ w', Sem.run Try.prog (Instr.storeAt 53 (.pointer (some ⟨g, i * 12, none⟩)) (v53 x)) w = .ok () w' ∧ RE w' base g n c (xs.set i x) ∧ w.grownBy w' (some g) := by
  have hn := h.len
  obtain ⟨hR, hgr⟩ := Kd.R_seg (d := k53) h (i : Int) (by omega) (by omega) (c := c53 xs[i]) (j := 0) (seg := c53 x) (x' := x) (okp := fun _ => False) rfl (fun j u hu => by
    have := h.cells i hi j u hu
    rwa [Int.toNat_natCast]) (Nat.le_refl 12) (by
    rw [List.take_zero, List.nil_append, List.drop_eq_nil_of_le (by simp [c53]), List.append_nil]
    exact k53_mkM _ _ _ x) (fun _ hk => hk.elim)
  obtain ⟨inner, hown⟩ := Kd.R_own h
  rcases hown.2 with ⟨hv, _⟩ | ⟨g', cap', cur, hv, hb, hh, hnc, hcm, hcs, _⟩
  · cases hv
  injection hv with ha hb' hc
  injection ha with ha
  injection ha with hg'
  subst hg'; subst hc
  have hrun := run_store_run (P := Try.prog) 53 (v53 x) (c53 x) (o := i * 12) hh rfl info53 (by
    rw [hcs]
    show i * 12 + 12 ≤ c * 12
    omega) (by
    intro q hq
    simp only [c53, List.mem_cons, List.not_mem_nil, or_false] at hq
    rcases hq with rfl | rfl | rfl | rfl | rfl | rfl | rfl | rfl | rfl | rfl | rfl | rfl <;> rfl)
  exact ⟨_, hrun, hR, hgr⟩
theorem gb_trans {a b c : World} {r : Option Nat} (h1 : a.grownBy b r) (h2 : b.grownBy c r) : a.grownBy c r :=
  ⟨h2.1.trans h1.1, h2.2.trans h1.2, h2.3.trans h1.3, Nat.le_trans h1.size h2.size, fun k hk hn => (h2.block k (Nat.lt_of_lt_of_le hk h1.size) hn).trans (h1.block k hk hn)⟩
theorem gb_below {a b : World} (r : Option Nat) (h : Below a.heap.size a b) : a.grownBy b r := ⟨h.1, h.2, h.3, h.size, fun k hk _ => h.block k hk⟩
theorem RE.below {w w' : World} {base g n c : Nat} {xs : List S53} (h : RE w base g n c xs) (hb : Below w.heap.size w w') : RE w' base g n c xs := Kd.R_below h hb
/-- two elements change places -/
def swp (xs : List S53) (i j : Nat) : List S53 := (xs.set i (xs.getD j z53)).set j (xs.getD i z53)
end Go.Proofs.Ytblalidpeccabab.Rw
