/- Lists of events that come in: read as data they are of the walks' kind. -/
import Derived.Test.YtblalidpeccababRowsO
namespace Go.Proofs.Ytblalidpeccabab.Rw
open Go Go.RowKit Go.Lib Go.Proofs.YtblalidpeccababW.PrintWords Go.Proofs.YtblalidpeccababW.PrintLast Go.Proofs.YtblalidpeccababW.PrintMore Go.Proofs.Ytblalidpeccabab.PRowsThree Go.Proofs.Ytblalidpeccabab.Open
set_option linter.unusedVariables false
set_option linter.unusedSimpArgs false

theorem wf64 {n : Int} (h : (Lit.int .i64 n).wf = true) : -9223372036854775808 ≤ n ∧ n ≤ 9223372036854775807 := by
  simpa [Lit.wf, IntKind.min, IntKind.max, IntKind.signed, IntKind.bits] using h
theorem opens_int3 : Opens Try.prog 3 (Kd.int .i64) (fun n => (Lit.int .i64 n).wf = true) := opens_int Try.underlying3
theorem opens51 : Opens Try.prog 51 k51 (fun _ => True) :=
  (opens_iso (fun x : S51 => (x.f0, x.f1)) (fun x => ⟨x.1, x.2⟩) (fun _ => rfl) (opens_struct Try.underlying51 (by kernel_rfl) (opensF_cons opens_int3 (by kernel_rfl) (opensF_one opens_int3 (by kernel_rfl))))).imp (fun _ _ => trivial)
/-- what is known of an event that came in -/
def Ev64 (x : S53) : Prop := (-9223372036854775808 ≤ x.f0 ∧ x.f0 ≤ 9223372036854775807) ∧ (-9223372036854775808 ≤ x.f1 ∧ x.f1 ≤ 9223372036854775807) ∧ (-9223372036854775808 ≤ x.f2 ∧ x.f2 ≤ 9223372036854775807)
theorem opens53 : Opens Try.prog 53 k53 Ev64 :=
  (opens_iso (fun x : S53 => (x.f0, x.f1, x.f2, x.f3, x.f4, x.f5, x.f6, x.f7, x.f8, x.f9)) (fun x => ⟨x.1, x.2.1, x.2.2.1, x.2.2.2.1, x.2.2.2.2.1, x.2.2.2.2.2.1, x.2.2.2.2.2.2.1, x.2.2.2.2.2.2.2.1, x.2.2.2.2.2.2.2.2.1, x.2.2.2.2.2.2.2.2.2⟩) (fun _ => rfl)
    (opens_struct Try.underlying53 (by kernel_rfl) (opensF_cons opens_int3 (by kernel_rfl) (opensF_cons opens_int3 (by kernel_rfl) (opensF_cons opens_int3 (by kernel_rfl) (opensF_cons opens_int3 (by kernel_rfl) (opensF_cons opens_int3 (by kernel_rfl) (opensF_cons opens_int3 (by kernel_rfl) (opensF_cons opens_int3 (by kernel_rfl) (opensF_cons opens_int3 (by kernel_rfl) (opensF_cons opens51 (by kernel_rfl) (opensF_one opens51 (by kernel_rfl))))))))))))).imp (fun _ h => ⟨wf64 h.1, wf64 h.2.1, wf64 h.2.2.1⟩)
theorem bytes53 : Try.prog.bytesOf 53 = 96 := by kernel_rfl
theorem opens44 : Opens Try.prog 44 (Kd.slice 53 k53) (fun l => l.length ≤ 140737488351232 ∧ ∀ a ∈ l, Ev64 a) :=
  (opens_slice Try.underlying44 (by kernel_rfl) opens53).imp (fun _ h => ⟨by have h2 := h.2.1; rw [bytes53] at h2; omega, h.2.2⟩)
theorem rowsThree_row (w : World) (A1 : Option Addr) (c1 : Nat) (l : List S53) (lc1 : l.length ≤ c1) (h1 : Kd.C k53 w A1 l.length l) (b1 : l.length ≤ 140737488351232 ∧ ∀ a ∈ l, Ev64 a) (A2 : Option Addr) (c2 : Nat) (m : List S53) (lc2 : m.length ≤ c2) (h2 : Kd.C k53 w A2 m.length m) (b2 : m.length ≤ 140737488351232 ∧ ∀ a ∈ m, Ev64 a)
    (A3 : Option Addr) (c3 : Nat) (n : List S53) (lc3 : n.length ≤ c3) (h3 : Kd.C k53 w A3 n.length n) (b3 : n.length ≤ 140737488351232 ∧ ∀ a ∈ n, Ev64 a) :
    Calls Try.prog 8 #[.slice A1 l.length c1, .slice A2 m.length c2, .slice A3 n.length c3] w fun e w' => e = .returned (.bool true) ∧ Below w.heap.size w w' :=
  rowsThree_walk w A1 c1 l lc1 h1 A2 c2 m lc2 h2 A3 c3 n lc3 h3 b1.1 b2.1 b3.1
end Go.Proofs.Ytblalidpeccabab.Rw
