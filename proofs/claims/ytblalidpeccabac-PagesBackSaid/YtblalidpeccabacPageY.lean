/- A store that comes in: read as data it lies as the walks say. -/
import Derived.Test.YtblalidpeccabacPageD
import Derived.Test.YtblalidpeccabacOpen
namespace Go.Proofs.Ytblalidpeccabac.Open
open Go.RowKit Go.Proofs.YtblalidpeccabacW.PrintWords Go.ChangeShapes Go.WideShapes
/-- a value that is an argument -/
theorem Opens.val {α : Type} {P : Program} {t : TypeId} {k : Kd α} {B : α → Prop} (h : Opens P t k B) {H : Type} {enc : TypeId × Value → H} {w : World} {base : Nat} {spare : Nat → Bool} {held : Bool} {v : Value} {d : DataW H} {ps : List MemPlace}
    {ts : List TypeId} {ds : List (DataW H)} {j : Nat} (hsz : (DataW.weightsEach P ts ds).all (· ≤ reachBytes) = true) (ht : ts[j]? = some t) (hd : ds[j]? = some d) (hx : DataW.Trod enc P w base spare held t v d ps) :
    ∃ a : α, k.K w a v.cells.toList ∧ B a := by
  obtain ⟨fuel, hx⟩ := hx
  have hw : ∀ n ∈ d.weights P t, n ≤ 140737488351232 := fun n hn => by
    have h2 : n ≤ reachBytes := of_decide_eq_true (List.all_eq_true.1 hsz _ (DataW.weights_mem_each ht hd n hn))
    exact h2
  exact h.out H enc w base spare held fuel _ _ hx hw
end Go.Proofs.Ytblalidpeccabac.Open
namespace Go.Proofs.Ytblalidpeccabac.Pg
open Go Go.RowKit Go.Lib Go.Proofs.YtblalidpeccabacW.PrintWords Go.Proofs.YtblalidpeccabacW.PrintLast Go.Proofs.YtblalidpeccabacW.PrintMore Go.Proofs.Ytblalidpeccabac.PPagesBack Go.Proofs.Ytblalidpeccabac.Bs Go.Proofs.Ytblalidpeccabac.Open
set_option linter.unusedVariables false
set_option linter.unusedSimpArgs false
abbrev k26 : Kd (List (List Int) × (List Int × List (List Int))) := Kd.pair (Kd.slice 38 kP) (Kd.pair (Kd.slice 3 kI) (Kd.slice 23 kR))
theorem opens_int3 : Opens Try.prog 3 (Kd.int .i64) (fun n => (Lit.int .i64 n).wf = true) := opens_int Try.underlying3
theorem opens38 : Opens Try.prog 38 kP (fun _ => True) := (opens_array Try.underlying38 (by decide) (by kernel_rfl) (by kernel_rfl) opens_int3).imp (fun _ _ => trivial)
theorem opens22 : Opens Try.prog 22 (Kd.slice 38 kP) (fun _ => True) := (opens_slice Try.underlying22 (by kernel_rfl) opens38).imp (fun _ _ => trivial)
theorem opens23 : Opens Try.prog 23 (Kd.slice 3 kI) (fun _ => True) := (opens_slice Try.underlying23 (by kernel_rfl) opens_int3).imp (fun _ _ => trivial)
theorem opens24 : Opens Try.prog 24 (Kd.slice 23 kR) (fun _ => True) := (opens_slice Try.underlying24 (by kernel_rfl) opens23).imp (fun _ _ => trivial)
theorem opens26 : Opens Try.prog 26 k26 (fun _ => True) :=
  (opens_struct Try.underlying26 (by kernel_rfl) (opensF_cons opens22 (by kernel_rfl) (opensF_cons opens23 (by kernel_rfl) (opensF_one opens24 (by kernel_rfl))))).imp (fun _ _ => trivial)
theorem lies_of {W : World} {base : Nat} {v : Value} (hv : Value.okWide Try.prog W .any base 26 v) {a : List (List Int) × (List Int × List (List Int))} (hr : k26.K W a v.cells.toList) :
    ∃ A m B n C k, v = .agg #[.slice A a.1.length m, .slice B a.2.1.length n, .slice C a.2.2.length k] ∧ Lies W A m B n C k ⟨a.1, a.2.1, a.2.2⟩ := by
  obtain ⟨cs, rfl, _⟩ := Go.WideShapes.okWide_struct Try.underlying26 hv
  obtain ⟨c0, c1, e, ⟨A, m, rfl, h1, h2⟩, ⟨d0, d1, rfl, ⟨B, n, rfl, h3, h4⟩, ⟨C, k, rfl, h5, h6⟩⟩⟩ := hr
  have e2 : cs.toList = [.slice A a.1.length m, .slice B a.2.1.length n, .slice C a.2.2.length k] := e
  have e3 : cs = #[.slice A a.1.length m, .slice B a.2.1.length n, .slice C a.2.2.length k] := by
    apply Array.toList_inj.1
    rw [e2]
  exact ⟨A, m, B, n, C, k, by rw [e3], h2, h1, h4, h3, h6, h5⟩
end Go.Proofs.Ytblalidpeccabac.Pg
