/- RaceSwaps: the form of its row. -/
import Derived.Test.YtginlhengebgaaaRcN
import Derived.Test.YtginlhengebgaaaCkY
namespace Go.Proofs.Ytginlhengebgaaa.Ck
open Go Go.RowKit Go.Maps Go.Proofs.YtginlhengebgaaaW Go.Proofs.YtginlhengebgaaaW.PrintWords Go.Proofs.YtginlhengebgaaaW.PrintLast Go.Proofs.YtginlhengebgaaaW.PrintMore Go.Proofs.Ytginlhengebgaaa.PLockupEither Go.Proofs.Ytginlhengebgaaa.Bs Go.Proofs.Ytginlhengebgaaa.Lk Go.Proofs.Ytginlhengebgaaa.Open
theorem raceSwaps_row (w : World) (A : Option Addr) (c : Nat) (l : List CE) (lc : l.length ≤ c) (h : Kd.C kC w A l.length l) (_b : True) (T : Int) (_wT : (Lit.int .i64 T).wf = true) (n : Int) (_wn : (Lit.int .i64 n).wf = true) :
    Calls Try.prog 10 #[.slice A l.length c, .int .i64 T, .int .i64 n] w fun e w' => e = .returned (.bool true) ∧ Below w.heap.size w w' :=
  raceSwaps_walk w A c l h lc T n
end Go.Proofs.Ytginlhengebgaaa.Ck
