/- An evaluator of the program, and contracts over it: RxSb to RxSb. -/
import Derived.Test.YteojfkejdhhhpaaGreatDoorRows
import Derived.ProofKit
import Derived.LaidMore
import Derived.OpenShut
import Derived.Stop.Joined
import Derived.Carry
import Derived.Test.YteojfkejdhhhpaaGreatDoorCards
import Derived.SevenTiedAt
import Derived.Test.YteojfkejdhhhpaaGreatDoorP20
set_option linter.unusedSimpArgs false
set_option linter.unusedVariables false
set_option linter.constructorNameAsVariable false
set_option linter.unnecessarySimpa false
namespace Go.Proofs.YteojfkejdhhhpaaGreatDoor
open Go.ChangeShapes Go.WideShapes Go.ChangeAt Go.WideMaps Go.WideElems Go.RowKit
theorem jd:Program.mayEnter Tryz.pinned.checked.prog=true:=by kernel_rfl
theorem je:Program.unfollowed Tryz.pinned.checked.prog 4=true:=by unfold Program.unfollowed;rw[clo];kernel_rfl
theorem jf:Program.recurses Tryz.pinned.checked.prog 4=true:=by unfold Program.recurses;rw[je,Bool.true_or]
end Go.Proofs.YteojfkejdhhhpaaGreatDoor
