/- A proof that comes in: read as data it lies as the walks say; the row of RaceProved. -/
import Derived.Test.YtginlhengebgaaaRcK
import Derived.Test.YtginlhengebgaaaCkY
namespace Go.Proofs.Ytginlhengebgaaa.Open
open Go.RowKit Go.Proofs.YtginlhengebgaaaW.PrintWords Go.ChangeShapes Go.WideShapes
/-- a value that is an argument -/
theorem Opens.val {α : Type} {P : Program} {t : TypeId} {k : Kd α} {B : α → Prop} (h : Opens P t k B) {H : Type} {enc : TypeId × Value → H} {w : World} {base : Nat} {spare : Nat → Bool} {held : Bool} {v : Value} {d : DataW H} {ps : List MemPlace}
    {ts : List TypeId} {ds : List (DataW H)} {j : Nat} (hsz : (DataW.weightsEach P ts ds).all (· ≤ reachBytes) = true) (ht : ts[j]? = some t) (hd : ds[j]? = some d) (hx : DataW.Trod enc P w base spare held t v d ps) :
    ∃ a : α, k.K w a v.cells.toList ∧ B a := by
  obtain ⟨fuel, hx⟩ := hx
  have hw : ∀ n ∈ d.weights P t, n ≤ 140737488351232 := fun n hn => by
    have h2 : n ≤ reachBytes := of_decide_eq_true (List.all_eq_true.1 hsz _ (DataW.weights_mem_each ht hd n hn))
    exact h2
  exact h.out H enc w base spare held fuel _ _ hx hw
end Go.Proofs.Ytginlhengebgaaa.Open
namespace Go.Proofs.Ytginlhengebgaaa.Ck
open Go Go.RowKit Go.Maps Go.Proofs.YtginlhengebgaaaW Go.Proofs.YtginlhengebgaaaW.PrintWords Go.Proofs.YtginlhengebgaaaW.PrintLast Go.Proofs.YtginlhengebgaaaW.PrintMore Go.Proofs.Ytginlhengebgaaa.PLockupEither Go.Proofs.Ytginlhengebgaaa.Bs Go.Proofs.Ytginlhengebgaaa.RegionVal Go.Proofs.Ytginlhengebgaaa.Lk Go.Proofs.Ytginlhengebgaaa.Open
open Go.Lib hiding intOf
set_option linter.unusedVariables false
set_option linter.unusedSimpArgs false
abbrev k55 : Kd (List Int × List Int) := Kd.pair (Kd.slice 3 Lk.kI) (Kd.slice 3 Lk.kI)
theorem opens24r : Opens Try.prog 24 (Kd.slice 3 Lk.kI) (fun _ => True) := (opens_slice Try.underlying24 (by kernel_rfl) opens_int3c).imp (fun _ _ => trivial)
theorem opens55 : Opens Try.prog 55 k55 (fun _ => True) :=
  (opens_struct Try.underlying55 (by kernel_rfl) (opensF_cons opens24r (by kernel_rfl) (opensF_one opens24r (by kernel_rfl)))).imp (fun _ _ => trivial)
set_option maxRecDepth 100000 in
theorem prf_of {W : World} {base : Nat} {v : Value} (hv : Value.okWide Try.prog W .any base 55 v) {a : List Int × List Int} (hr : k55.K W a v.cells.toList) : PrfG W a.1 a.2 v := by
  obtain ⟨cs, rfl, _⟩ := Go.WideShapes.okWide_struct Try.underlying55 hv
  obtain ⟨c0, c1, e, ⟨A, m, rfl, h1, h2⟩, ⟨B, n, rfl, h3, h4⟩⟩ := hr
  have e2 : cs.toList = [.slice A a.1.length m, .slice B a.2.length n] := e
  have e3 : cs = #[.slice A a.1.length m, .slice B a.2.length n] := by
    apply Array.toList_inj.1
    rw [e2]
  exact ⟨A, m, B, n, by rw [e3], h1, h3, h2, h4⟩
set_option maxRecDepth 100000 in
theorem raceProved_row (w : World) (A : Option Addr) (c : Nat) (l : List CE) (lc : l.length ≤ c) (h : Kd.C kC w A l.length l) (_b : True) (T : Int) (_wT : (Lit.int .i64 T).wf = true) (i : Int) (_wi : (Lit.int .i64 i).wf = true) (j : Int) (_wj : (Lit.int .i64 j).wf = true)
    {base : Nat} (v : Value) (hv : Value.okWide Try.prog w .any base 55 v) (a : List Int × List Int) (hr : k55.K w a v.cells.toList) (_ba : True) :
    Calls Try.prog 9 #[.slice A l.length c, .int .i64 T, .int .i64 i, .int .i64 j, v] w fun e w' => e = .returned (.bool true) ∧ Below w.heap.size w w' :=
  raceProved_walk w A c l h lc T i j a.1 a.2 v (prf_of hv hr)
end Go.Proofs.Ytginlhengebgaaa.Ck
