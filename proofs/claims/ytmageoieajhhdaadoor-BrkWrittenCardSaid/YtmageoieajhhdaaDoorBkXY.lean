/- BrkWritten: in the row's words. -/
import Derived.Test.YtmageoieajhhdaaDoorBkX
import Derived.Test.YtmageoieajhhdaaDoorBkY
namespace Go.Proofs.YtmageoieajhhdaaDoor.Bk
open Go Go.RowKit Go.Proofs.YtmageoieajhhdaaDoorW.PrintWords Go.Proofs.YtmageoieajhhdaaDoorW.PrintLast Go.Proofs.YtmageoieajhhdaaDoorW.PrintMore Go.Proofs.YtmageoieajhhdaaDoor.PBrkWritten Go.Proofs.YtmageoieajhhdaaDoor.RegionVal Go.Proofs.YtmageoieajhhdaaDoor.Open
open Go.Lib hiding intOf
set_option linter.unusedVariables false
theorem brkWritten_row (W : World) (hT : Tab W) (a0 : ByteArray) (w0 : a0.size ≤ 140737488351232) (A : Option Addr) (c : Nat) (l : Vs) (lc : l.length ≤ c) (hr : Kd.C kV W A l.length l) (_B : True) :
    Calls Tryd.prog 3 #[.string a0, .slice A l.length c] W fun e W' => e = .returned (.bool true) ∧ Below W.heap.size W W' := by
  have h := brkWritten_walk W a0.data.toList l A c hr hT
  rwa [bs_data] at h
end Go.Proofs.YtmageoieajhhdaaDoor.Bk
