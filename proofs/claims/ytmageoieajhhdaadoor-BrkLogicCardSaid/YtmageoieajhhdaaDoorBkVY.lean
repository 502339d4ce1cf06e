/- BrkLogic: in the row's words. -/
import Derived.Test.YtmageoieajhhdaaDoorBkV
import Derived.Test.YtmageoieajhhdaaDoorBkY
namespace Go.Proofs.YtmageoieajhhdaaDoor.Bk
open Go Go.RowKit Go.Proofs.YtmageoieajhhdaaDoorW.PrintWords Go.Proofs.YtmageoieajhhdaaDoorW.PrintLast Go.Proofs.YtmageoieajhhdaaDoorW.PrintMore Go.Proofs.YtmageoieajhhdaaDoor.PBrkWritten Go.Proofs.YtmageoieajhhdaaDoor.RegionVal Go.Proofs.YtmageoieajhhdaaDoor.Open
open Go.Lib hiding intOf
set_option linter.unusedVariables false
theorem brkLogic_row (W : World) (hT : Tab W) (a0 : ByteArray) (w0 : a0.size ≤ 140737488351232) (a1 : ByteArray) (w1 : a1.size ≤ 140737488351232) (A : Option Addr) (c : Nat) (l : Vs) (lc : l.length ≤ c) (hr : Kd.C kV W A l.length l) (_B : True) :
    Calls Tryd.prog 5 #[.string a0, .string a1, .slice A l.length c] W fun e W' => e = .returned (.bool true) ∧ Below W.heap.size W W' := by
  have h := brkLogic_walk W a0.data.toList a1.data.toList l A c hr hT (by rw [Array.length_toList]; exact w0) (by rw [Array.length_toList]; exact w1)
  rwa [bs_data, bs_data] at h
end Go.Proofs.YtmageoieajhhdaaDoor.Bk
