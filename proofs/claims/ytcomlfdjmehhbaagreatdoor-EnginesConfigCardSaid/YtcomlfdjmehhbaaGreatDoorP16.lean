/- An evaluator of the program, and contracts over it: EcRw to EcRw. -/
import Derived.Test.YtcomlfdjmehhbaaGreatDoorRows
import Derived.Test.YtcomlfdjmehhbaaGreatDoorP15
set_option linter.unusedSimpArgs false
set_option linter.unusedVariables false
set_option linter.constructorNameAsVariable false
set_option linter.unnecessarySimpa false
namespace Go.Proofs.YtcomlfdjmehhbaaGreatDoor
open Go.ChangeShapes Go.WideShapes Go.ChangeAt Go.WideMaps Go.WideElems Go.RowKit Go.Deep
theorem own : ownKnob Tryz.prog.godebug = none := by kernel_rfl
theorem qw : laidOutB Tryz.prog = true := by kernel_rfl
abbrev qx : List (String × DataW Unit) := [("math/bits.deBruijn64tab", Rows.laid_math_bits_deBruijn64tab)]
end Go.Proofs.YtcomlfdjmehhbaaGreatDoor
