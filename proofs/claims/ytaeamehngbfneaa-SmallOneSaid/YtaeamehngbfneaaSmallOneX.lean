/- SmallOne's walk, its parameters in the law's order. -/
import Derived.Test.YtaeamehngbfneaaSmallOneW
namespace Go.Proofs.Ytaeamehngbfneaa.Sl
open Go Go.RowKit Go.Lib Go.Proofs.YtaeamehngbfneaaW.PrintWords Go.Proofs.Ytaeamehngbfneaa.Open
theorem smallOne_row (w : World) (A : Option Addr) (c : Nat) (l : List Int) (lc : l.length ≤ c) (hr : Kd.C (Kd.int .i64) w A l.length l) (B : l.length ≤ 9223372036854775807 ∧ l.length * Try.prog.bytesOf 3 ≤ 140737488351232 ∧ ∀ a ∈ l, (Lit.int .i64 a).wf = true)
    (which : Int) (hwh : (Lit.int .i64 which).wf = true)
    (A2 : Option Addr) (c2 : Nat) (need : List Int) (lc2 : need.length ≤ c2) (hr2 : Kd.C (Kd.int .i64) w A2 need.length need) (B2 : need.length ≤ 9223372036854775807 ∧ need.length * Try.prog.bytesOf 3 ≤ 140737488351232 ∧ ∀ a ∈ need, (Lit.int .i64 a).wf = true) :
    Calls Try.prog 3 #[.slice A l.length c, .int .i64 which, .slice A2 need.length c2] w fun e w' => e = .returned (.bool true) ∧ Below w.heap.size w w' :=
  smallOne_walk w A c l lc hr B A2 c2 need lc2 hr2 B2 which hwh
end Go.Proofs.Ytaeamehngbfneaa.Sl
