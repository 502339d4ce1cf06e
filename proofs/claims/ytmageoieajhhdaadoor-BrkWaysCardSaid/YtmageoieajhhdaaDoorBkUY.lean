/- BrkWays: in the row's words. -/
import Derived.Test.YtmageoieajhhdaaDoorBkU
import Derived.Test.YtmageoieajhhdaaDoorBkY
namespace Go.Proofs.YtmageoieajhhdaaDoor.Bk
open Go Go.RowKit Go.Proofs.YtmageoieajhhdaaDoorW.PrintWords Go.Proofs.YtmageoieajhhdaaDoorW.PrintLast Go.Proofs.YtmageoieajhhdaaDoorW.PrintMore Go.Proofs.YtmageoieajhhdaaDoor.PBrkWritten Go.Proofs.YtmageoieajhhdaaDoor.RegionVal Go.Proofs.YtmageoieajhhdaaDoor.Open
open Go.Lib hiding intOf
set_option linter.unusedVariables false
theorem brkWays_row (W : World) (hT : Tab W) (a0 : ByteArray) (w0 : a0.size ≤ 140737488351232) (A : Option Addr) (c : Nat) (l : List Vs) (lc : l.length ≤ c) (hr : Kd.C kL W A l.length l) (_B : True) (m : Int) (wm : (Lit.int .i64 m).wf = true) :
    Calls Tryd.prog 4 #[.string a0, .slice A l.length c, .int .i64 m] W fun e W' => e = .returned (.bool true) ∧ Below W.heap.size W W' := by
  have h := brkWays_walk W a0.data.toList l m A c hr hT
  rwa [bs_data] at h
end Go.Proofs.YtmageoieajhhdaaDoor.Bk
