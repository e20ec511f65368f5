/- An evaluator of the program, and contracts over it: EcSb to EcSb. -/
import Derived.Test.YtcomlfdjmehhbaaGreatDoorCards
import Derived.SevenTiedAt
import Derived.Test.YtcomlfdjmehhbaaGreatDoorP16
set_option linter.unusedSimpArgs false
set_option linter.unusedVariables false
set_option linter.constructorNameAsVariable false
set_option linter.unnecessarySimpa false
namespace Go.Proofs.YtcomlfdjmehhbaaGreatDoor
open Go.ChangeShapes Go.WideShapes Go.ChangeAt Go.WideMaps Go.WideElems Go.RowKit Go.Deep
theorem jd : Program.mayEnter Tryz.pinned.checked.prog = true := by kernel_rfl
theorem je : Program.unfollowed Tryz.pinned.checked.prog 3 = true := by kernel_rfl
theorem jf : Program.recurses Tryz.pinned.checked.prog 3 = true := by kernel_rfl
theorem jg : Program.varsNamed Tryz.pinned.checked.prog 3 = ["math/bits.deBruijn64tab"] := by kernel_rfl
end Go.Proofs.YtcomlfdjmehhbaaGreatDoor
