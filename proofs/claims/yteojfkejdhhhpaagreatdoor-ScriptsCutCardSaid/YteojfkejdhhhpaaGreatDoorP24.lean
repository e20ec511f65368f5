/- An evaluator of the program, and contracts over it: RxSc2 to RxSc2. -/
import Derived.Test.YteojfkejdhhhpaaGreatDoorRows
import Derived.ProofKit
import Derived.LaidMore
import Derived.OpenShut
import Derived.Stop.Joined
import Derived.Carry
import Derived.Test.YteojfkejdhhhpaaGreatDoorCards
import Derived.SevenTiedAt
import Derived.Test.YteojfkejdhhhpaaGreatDoorP20
set_option linter.unusedSimpArgs false
set_option linter.unusedVariables false
set_option linter.constructorNameAsVariable false
set_option linter.unnecessarySimpa false
namespace Go.Proofs.YteojfkejdhhhpaaGreatDoor
open Go.ChangeShapes Go.WideShapes Go.ChangeAt Go.WideMaps Go.WideElems Go.RowKit
theorem kh:(Rows.scriptsCutRow.inPlace==Tryz.pinned.checked.prog.inPlace 4)=true:=by
  unfold Program.inPlace;rw[clo]
  kernel_rfl
end Go.Proofs.YteojfkejdhhhpaaGreatDoor
