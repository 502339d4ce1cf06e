/- Lists of events that come in: read as data they are of the walks' kind. -/
import Derived.Test.YtginlhengebgaaaCkC
import Derived.Test.YtginlhengebgaaaOpen
namespace Go.Proofs.Ytginlhengebgaaa.Ck
open Go Go.RowKit Go.Maps Go.Proofs.YtginlhengebgaaaW.PrintWords Go.Proofs.YtginlhengebgaaaW.PrintLast Go.Proofs.YtginlhengebgaaaW.PrintMore Go.Proofs.Ytginlhengebgaaa.PLockupEither Go.Proofs.Ytginlhengebgaaa.Bs Go.Proofs.Ytginlhengebgaaa.RegionVal Go.Proofs.Ytginlhengebgaaa.Open
open Go.Lib hiding intOf
set_option linter.unusedVariables false
set_option linter.unusedSimpArgs false
theorem opens_map {α β : Type} {P : Program} {t : TypeId} {k : Kd α} {k' : Kd β} {B : α → Prop} (h : Opens P t k B) (f : ∀ w a cs, k.K w a cs → ∃ b, k'.K w b cs) : Opens P t k' (fun _ => True) := by
  constructor
  intro H enc w base spare held fuel cs x hx hw
  obtain ⟨a, h1, h2⟩ := h.out H enc w base spare held fuel cs x hx hw
  obtain ⟨b, h3⟩ := f w a cs h1
  exact ⟨b, h3, trivial⟩
theorem opens_int3c : Opens Try.prog 3 (Kd.int .i64) (fun n => (Lit.int .i64 n).wf = true) := opens_int Try.underlying3
theorem opens39 : Opens Try.prog 39 (Kd.pair (Kd.int .i64) (Kd.int .i64)) (fun _ => True) :=
  (opens_struct Try.underlying39 (by kernel_rfl) (opensF_cons opens_int3c (by kernel_rfl) (opensF_one opens_int3c (by kernel_rfl)))).imp (fun _ _ => trivial)
abbrev kI1 : Kd Int := Kd.int .i64
abbrev kV : Kd (Int × Int) := Kd.pair kI1 kI1
theorem opens41 : Opens Try.prog 41 kC (fun _ => True) := by
  refine opens_map (k := Kd.pair kI1 (Kd.pair kI1 (Kd.pair kI1 (Kd.pair kI1 (Kd.pair kI1 (Kd.pair kI1 (Kd.pair kI1 (Kd.pair kI1 (Kd.pair kV kV))))))))) (opens_struct Try.underlying41 (by kernel_rfl) (opensF_cons opens_int3c (by kernel_rfl) (opensF_cons opens_int3c (by kernel_rfl) (opensF_cons opens_int3c (by kernel_rfl) (opensF_cons opens_int3c (by kernel_rfl) (opensF_cons opens_int3c (by kernel_rfl) (opensF_cons opens_int3c (by kernel_rfl) (opensF_cons opens_int3c (by kernel_rfl) (opensF_cons opens_int3c (by kernel_rfl) (opensF_cons opens39 (by kernel_rfl) (opensF_one opens39 (by kernel_rfl)))))))))))) ?_
  rintro w ⟨a0, a1, a2, a3, a4, a5, a6, a7, ⟨b0, b1⟩, ⟨d0, d1⟩⟩ cs ⟨_, _, rfl, h0, _, _, rfl, h1, _, _, rfl, h2, _, _, rfl, h3, _, _, rfl, h4, _, _, rfl, h5, _, _, rfl, h6, _, _, rfl, h7, _, _, rfl, ⟨_, _, rfl, h8, h9⟩, ⟨_, _, rfl, h10, h11⟩⟩
  obtain rfl : _ = [Value.int .i64 a0] := h0
  obtain rfl : _ = [Value.int .i64 a1] := h1
  obtain rfl : _ = [Value.int .i64 a2] := h2
  obtain rfl : _ = [Value.int .i64 a3] := h3
  obtain rfl : _ = [Value.int .i64 a4] := h4
  obtain rfl : _ = [Value.int .i64 a5] := h5
  obtain rfl : _ = [Value.int .i64 a6] := h6
  obtain rfl : _ = [Value.int .i64 a7] := h7
  obtain rfl : _ = [Value.int .i64 b0] := h8
  obtain rfl : _ = [Value.int .i64 b1] := h9
  obtain rfl : _ = [Value.int .i64 d0] := h10
  obtain rfl : _ = [Value.int .i64 d1] := h11
  refine ⟨⟨a0, a2, a6, a7⟩, rfl, fun q hq => ?_, rfl, rfl, rfl, rfl⟩
  simp only [List.cons_append, List.nil_append, List.mem_cons, List.not_mem_nil, or_false] at hq
  rcases hq with rfl | rfl | rfl | rfl | rfl | rfl | rfl | rfl | rfl | rfl | rfl | rfl <;> rfl
theorem opens37 : Opens Try.prog 37 (Kd.slice 41 kC) (fun _ => True) := (opens_slice Try.underlying37 (by kernel_rfl) opens41).imp (fun _ _ => trivial)
end Go.Proofs.Ytginlhengebgaaa.Ck
