/- What comes in, opened; the row of LockupEither. -/
import Derived.Test.YtlgkcjkicankmaaLockN
import Derived.Test.YtlgkcjkicankmaaOpen
namespace Go.Proofs.Ytlgkcjkicankmaa.Lk
open Go Go.RowKit Go.Maps Go.Proofs.YtlgkcjkicankmaaW.PrintWords Go.Proofs.YtlgkcjkicankmaaW.PrintLast Go.Proofs.YtlgkcjkicankmaaW.PrintMore Go.Proofs.Ytlgkcjkicankmaa.PLockupEither Go.Proofs.Ytlgkcjkicankmaa.Bs Go.Proofs.Ytlgkcjkicankmaa.RegionVal Go.Proofs.Ytlgkcjkicankmaa.Open
open Go.Lib hiding intOf
set_option linter.unusedVariables false
set_option linter.unusedSimpArgs false
theorem opens_int3e : Opens Try.prog 3 (Kd.int .i64) (fun n => (Lit.int .i64 n).wf = true) := opens_int Try.underlying3
theorem opens30 : Opens Try.prog 30 k30 (fun _ => True) :=
  (opens_iso (fun x : S30 => (x.f0, x.f1, x.f2)) (fun x => ⟨x.1, x.2.1, x.2.2⟩) (fun _ => rfl) (opens_struct Try.underlying30 (by kernel_rfl) (opensF_cons opens_int3e (by kernel_rfl) (opensF_cons opens_int3e (by kernel_rfl) (opensF_one opens_int3e (by kernel_rfl)))))).imp (fun _ _ => trivial)
theorem opens22 : Opens Try.prog 22 (Kd.slice 30 k30) (fun _ => True) := (opens_slice Try.underlying22 (by kernel_rfl) opens30).imp (fun _ _ => trivial)
theorem lockEither_row (w : World) (A : Option Addr) (c : Nat) (l : List S30) (lc : l.length ≤ c) (h : Kd.C k30 w A l.length l) (b : True) :
    Calls Try.prog 3 #[.slice A l.length c] w fun e w' => e = .returned (.bool true) ∧ Below w.heap.size w w' :=
  lockEither_walk w A c l lc h
end Go.Proofs.Ytlgkcjkicankmaa.Lk
