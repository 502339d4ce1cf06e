/- What comes in, opened; the table of powers out of what is laid. -/
import Derived.Test.YtmageoieajhhdaaDoorRows
import Derived.Test.YtmageoieajhhdaaDoorBkQ
import Derived.Test.YtmageoieajhhdaaDoorOpen
import Derived.Lib.LaidTab
import Derived.Lib.LaidU8
namespace Go.Proofs.YtmageoieajhhdaaDoor.Bk
open Go Go.RowKit Go.Proofs.YtmageoieajhhdaaDoorW.PrintWords Go.Proofs.YtmageoieajhhdaaDoorW.PrintLast Go.Proofs.YtmageoieajhhdaaDoorW.PrintMore Go.Proofs.YtmageoieajhhdaaDoor.PBrkWritten Go.Proofs.YtmageoieajhhdaaDoor.RegionVal Go.Proofs.YtmageoieajhhdaaDoor.Open
open Go.Lib hiding intOf
set_option linter.unusedVariables false
set_option linter.unusedSimpArgs false
theorem opens49 : Opens Tryd.prog 49 kV (fun _ => True) :=
  (opens_struct Tryd.underlying49 (by kernel_rfl) (opensF_cons (opens_string Tryd.underlying9) (by kernel_rfl) (opensF_one (opens_int Tryd.underlying3) (by kernel_rfl)))).imp (fun _ _ => trivial)
theorem opens22 : Opens Tryd.prog 22 (Kd.slice 49 kV) (fun _ => True) := (opens_slice Tryd.underlying22 (by kernel_rfl) opens49).imp (fun _ _ => trivial)
theorem opens31 : Opens Tryd.prog 31 (Kd.slice 22 kL) (fun _ => True) := (opens_slice Tryd.underlying31 (by kernel_rfl) opens22).imp (fun _ _ => trivial)
theorem bs_data (a : ByteArray) : bs a.data.toList = a := by
  cases a; simp [bs]
theorem tab_data : (Rows.laid_internal_strconv_uint64pow10 : DataW Unit) = Lib.tabData .u64 Lib.pow10Tab := by rfl
theorem tab_of {W : World} {l : List (String × DataW Unit)} (h : laidMet Tryd.prog l W) (hm : ("internal/strconv.uint64pow10", Rows.laid_internal_strconv_uint64pow10) ∈ l) : Tab W := by
  obtain ⟨g', t', cs, fuel, p, hg', ht', hvar, hd⟩ := Lib.laidMet.reads h hm
  have hg : Tryd.prog.globalNamed "internal/strconv.uint64pow10" = some 5 := by kernel_rfl
  obtain rfl := Option.some.inj (hg.symm.trans hg')
  have hty : (Tryd.prog.globals[5]?).map (·.type) = some 135 := by kernel_rfl
  obtain rfl := Option.some.inj (hty.symm.trans ht')
  unfold Tab Lib.TabIs
  rw [hvar, ← Lib.cells_of_tab Tryd.underlying135 (by kernel_rfl) (by kernel_rfl) (by kernel_rfl) (tab_data ▸ hd)]
end Go.Proofs.YtmageoieajhhdaaDoor.Bk
