/- Lists of uses and of lines that come in: read as data they are of the walks' kinds. -/
import Derived.Test.YtblalidpeccabaaSliceM
import Derived.Test.YtblalidpeccabaaOpen
namespace Go.Proofs.Ytblalidpeccabaa.Sm
open Go Go.RowKit Go.Lib Go.Proofs.YtblalidpeccabaaW.PrintWords Go.Proofs.YtblalidpeccabaaW.PrintLast Go.Proofs.YtblalidpeccabaaW.PrintMore Go.Proofs.Ytblalidpeccabaa.PHuntParts Go.Proofs.Ytblalidpeccabaa.Sc Go.Proofs.Ytblalidpeccabaa.Open
set_option linter.unusedVariables false
set_option linter.unusedSimpArgs false

theorem opens_int3 : Opens Try.prog 3 (Kd.int .i64) (fun n => (Lit.int .i64 n).wf = true) := opens_int Try.underlying3
theorem opens51 : Opens Try.prog 51 k51 (fun _ => True) :=
  (opens_iso (fun x : S51 => (x.to_, x.op, x.a, x.b)) (fun x => ⟨x.1, x.2.1, x.2.2.1, x.2.2.2⟩) (fun _ => rfl)
    (opens_struct Try.underlying51 (by kernel_rfl) (opensF_cons opens_int3 (by kernel_rfl) (opensF_cons opens_int3 (by kernel_rfl) (opensF_cons opens_int3 (by kernel_rfl) (opensF_one opens_int3 (by kernel_rfl))))))).imp (fun _ _ => trivial)
theorem opens22 : Opens Try.prog 22 (Kd.slice 51 k51) (fun l => l.length ≤ 9223372036854775807 ∧ l.length * Try.prog.bytesOf 51 ≤ 140737488351232 ∧ ∀ a ∈ l, True) :=
  opens_slice Try.underlying22 (by kernel_rfl) opens51
theorem opens31 : Opens Try.prog 31 (Kd.slice 3 (Kd.int .i64)) (fun l => l.length ≤ 9223372036854775807 ∧ l.length * Try.prog.bytesOf 3 ≤ 140737488351232 ∧ ∀ a ∈ l, (Lit.int .i64 a).wf = true) :=
  opens_slice Try.underlying31 (by kernel_rfl) opens_int3
theorem opens35 : Opens Try.prog 35 k35 (fun _ => True) :=
  (opens_iso (fun x : S35 => x.f0) (fun x => ⟨x⟩) (fun _ => rfl) (opens_struct Try.underlying35 (by kernel_rfl) (opensF_one opens31 (by kernel_rfl)))).imp (fun _ _ => trivial)
theorem opens30 : Opens Try.prog 30 (Kd.slice 35 k35) (fun l => l.length ≤ 9223372036854775807 ∧ l.length * Try.prog.bytesOf 35 ≤ 140737488351232 ∧ ∀ a ∈ l, True) :=
  opens_slice Try.underlying30 (by kernel_rfl) opens35
end Go.Proofs.Ytblalidpeccabaa.Sm
