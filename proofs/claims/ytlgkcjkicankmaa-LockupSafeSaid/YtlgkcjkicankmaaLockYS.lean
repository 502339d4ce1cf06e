/- What comes in, opened; the row of LockupSafe. -/
import Derived.Test.YtlgkcjkicankmaaLockR
import Derived.Test.YtlgkcjkicankmaaOpen
namespace Go.Proofs.Ytlgkcjkicankmaa.Lk
open Go Go.RowKit Go.Maps Go.Proofs.YtlgkcjkicankmaaW.PrintWords Go.Proofs.YtlgkcjkicankmaaW.PrintLast Go.Proofs.YtlgkcjkicankmaaW.PrintMore Go.Proofs.Ytlgkcjkicankmaa.PLockupEither Go.Proofs.Ytlgkcjkicankmaa.Bs Go.Proofs.Ytlgkcjkicankmaa.RegionVal Go.Proofs.Ytlgkcjkicankmaa.Open
open Go.Lib hiding intOf
set_option linter.unusedVariables false
set_option linter.unusedSimpArgs false
theorem opens_int3s : Opens Try.prog 3 (Kd.int .i64) (fun n => (Lit.int .i64 n).wf = true) := opens_int Try.underlying3
theorem opens24 : Opens Try.prog 24 (Kd.slice 3 (Kd.int .i64)) (fun _ => True) := (opens_slice Try.underlying24 (by kernel_rfl) opens_int3s).imp (fun _ _ => trivial)
theorem lockSafe_row (w : World) (A : Option Addr) (ca : Nat) (a0 : List Int) (lca : a0.length ≤ ca) (hra : Kd.C (Kd.int .i64) w A a0.length a0) (_BA : True)
    (B : Option Addr) (cb : Nat) (b0 : List Int) (lcb : b0.length ≤ cb) (hrb : Kd.C (Kd.int .i64) w B b0.length b0) (_BB : True) :
    Calls Try.prog 5 #[.slice A a0.length ca, .slice B b0.length cb] w fun e w' => e = .returned (.bool true) ∧ Below w.heap.size w w' :=
  lockSafe_walk w A ca a0 lca hra B cb b0 lcb hrb
end Go.Proofs.Ytlgkcjkicankmaa.Lk
