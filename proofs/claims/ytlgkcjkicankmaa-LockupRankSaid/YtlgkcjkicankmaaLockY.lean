/- What comes in, opened; the rows. -/
import Derived.Test.YtlgkcjkicankmaaLockM
import Derived.Test.YtlgkcjkicankmaaOpen
namespace Go.Proofs.Ytlgkcjkicankmaa.Lk
open Go Go.RowKit Go.Maps Go.Proofs.YtlgkcjkicankmaaW.PrintWords Go.Proofs.YtlgkcjkicankmaaW.PrintLast Go.Proofs.YtlgkcjkicankmaaW.PrintMore Go.Proofs.Ytlgkcjkicankmaa.PLockupEither Go.Proofs.Ytlgkcjkicankmaa.Bs Go.Proofs.Ytlgkcjkicankmaa.RegionVal Go.Proofs.Ytlgkcjkicankmaa.Open
open Go.Lib hiding intOf
set_option linter.unusedVariables false
set_option linter.unusedSimpArgs false
theorem opens_int3 : Opens Try.prog 3 (Kd.int .i64) (fun n => (Lit.int .i64 n).wf = true) := opens_int Try.underlying3
theorem opens32 : Opens Try.prog 32 k32 (fun x => W64 x.f0 ∧ W64 x.f1) :=
  (opens_iso (fun x : S32 => (x.f0, x.f1)) (fun x => ⟨x.1, x.2⟩) (fun _ => rfl) (opens_struct Try.underlying32 (by kernel_rfl) (opensF_cons opens_int3 (by kernel_rfl) (opensF_one opens_int3 (by kernel_rfl))))).imp (fun _ h => ⟨W64.of h.1, W64.of h.2⟩)
theorem opens28 : Opens Try.prog 28 (Kd.slice 32 k32) (fun l => ∀ p ∈ l, W64 p.f0 ∧ W64 p.f1) := (opens_slice Try.underlying28 (by kernel_rfl) opens32).imp (fun _ h => h.2.2)
theorem lockRank_row (w : World) (A : Option Addr) (c : Nat) (l : List S32) (lc : l.length ≤ c) (h : Kd.C k32 w A l.length l) (b : ∀ p ∈ l, W64 p.f0 ∧ W64 p.f1) (n : Int) (wn : (Lit.int .i64 n).wf = true) :
    Calls Try.prog 4 #[.slice A l.length c, .int .i64 n] w fun e w' => e = .returned (.bool true) ∧ Below w.heap.size w w' :=
  lockRank_walk w A c l lc h b n (W64.of wn)
end Go.Proofs.Ytlgkcjkicankmaa.Lk
