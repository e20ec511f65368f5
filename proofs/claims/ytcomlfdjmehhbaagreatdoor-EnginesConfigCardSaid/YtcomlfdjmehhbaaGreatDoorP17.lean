/- An evaluator of the program, and contracts over it: EcSa to EcSa. -/
import Derived.Test.YtcomlfdjmehhbaaGreatDoorCards
import Derived.SevenTiedAt
import Derived.Test.YtcomlfdjmehhbaaGreatDoorP16
set_option linter.unusedSimpArgs false
set_option linter.unusedVariables false
set_option linter.constructorNameAsVariable false
set_option linter.unnecessarySimpa false
namespace Go.Proofs.YtcomlfdjmehhbaaGreatDoor
open Go.ChangeShapes Go.WideShapes Go.ChangeAt Go.WideMaps Go.WideElems Go.RowKit Go.Deep
theorem ja : laidOutB Tryz.pinned.checked.prog = true := by kernel_rfl
theorem jb : mapsRowed Tryz.pinned.checked.prog = true := by kernel_rfl
theorem jc : Program.stopsHeard Tryz.pinned.checked.prog = true := by kernel_rfl
end Go.Proofs.YtcomlfdjmehhbaaGreatDoor
