/- Parts of the proof, merged: Opens. -/
import Derived.Test.YtpblhonnknmjjaaRows
import Derived.Test.YtpblhonnknmjjaaTx16
/- How the laws' arguments open. Printed by gen_open.py. -/
namespace Go.Proofs.Ytpblhonnknmjjaa
open Go.RowKit
set_option linter.unusedVariables false
set_option linter.unusedSimpArgs false

theorem opens_int_ : Opens Try.prog 3 IntR := opens_int Try.underlying3
theorem cells_int : Try.prog.cellsOf 3 = 1 := by kernel_rfl

theorem cells_S_int : Try.prog.cellsOf 42 = 1 := by kernel_rfl
theorem opens_S_int : Opens Try.prog 42 (SlR IntR 1) := opens_slice Try.underlying42 cells_int (by decide) opens_int_

theorem opens_str_ : Opens Try.prog 9 StrR := opens_string Try.underlying9
theorem cells_str : Try.prog.cellsOf 9 = 1 := by kernel_rfl

theorem cells_S_str : Try.prog.cellsOf 98 = 1 := by kernel_rfl
theorem opens_S_str : Opens Try.prog 98 (SlR StrR 1) := opens_slice Try.underlying98 cells_str (by decide) opens_str_

end Go.Proofs.Ytpblhonnknmjjaa
