/- WalkBack's walk: the call answers true, whatever comes in. -/
import Derived.Test.YtjhbdddglhpneaaWalkBackPure
import Derived.Test.YtjhbdddglhpneaaOpen
import Derived.Test.YtjhbdddglhpneaaRows
namespace Go.Proofs.Ytjhbdddglhpneaa.WalkPure
open Go.RowKit Go.Proofs.YtjhbdddglhpneaaW.PrintWords Go.Proofs.YtjhbdddglhpneaaW.PrintLast Go.Proofs.YtjhbdddglhpneaaW.PrintMore
open Go.Proofs.Ytjhbdddglhpneaa.PWalkBack Go.Proofs.Ytjhbdddglhpneaa.Open

theorem opens_int3 : Opens Try.prog 3 (Kd.int .i64) (fun n => (Lit.int .i64 n).wf = true) := opens_int Try.underlying3

theorem opens29 : Opens Try.prog 29 k29 (fun _ => True) :=
  (opens_iso (fun x : S29 => (x.f0, x.f1, x.f2)) (fun x => ⟨x.1, x.2.1, x.2.2⟩) (fun _ => rfl)
    (opens_struct Try.underlying29 (by kernel_rfl) (opensF_cons opens_int3 (by kernel_rfl) (opensF_cons opens_int3 (by kernel_rfl) (opensF_one opens_int3 (by kernel_rfl)))))).imp (fun _ _ => trivial)

theorem opens22 : Opens Try.prog 22 (Kd.slice 29 k29) (fun l => l.length ≤ 9223372036854775807 ∧ l.length * Try.prog.bytesOf 29 ≤ 140737488351232 ∧ ∀ a ∈ l, True) :=
  opens_slice Try.underlying22 (by kernel_rfl) opens29

theorem walkBack_walk (w : World) (A : Option Addr) (c : Nat) (l : List S29) (lc : l.length ≤ c) (hr : Kd.C k29 w A l.length l) (_ : l.length ≤ 9223372036854775807 ∧ l.length * Try.prog.bytesOf 29 ≤ 140737488351232 ∧ ∀ a ∈ l, True)
    (i : Int) (_ : (Lit.int .i64 i).wf = true) (how : Int) (_ : (Lit.int .i64 how).wf = true) :
    Calls Try.prog 3 #[.slice A l.length c, .int .i64 i, .int .i64 how] w fun e w' => e = .returned (.bool true) ∧ Below w.heap.size w w' :=
  backstitchkeep4_WalkBack.calls 400 A c l i how true w hr lc (walkBack_true l i how)

end Go.Proofs.Ytjhbdddglhpneaa.WalkPure
