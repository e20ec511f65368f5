/- An evaluator of the program, and contracts over it: RxSa to RxSa. -/
import Derived.Test.YteojfkejdhhhpaaGreatDoorRows
import Derived.ProofKit
import Derived.LaidMore
import Derived.OpenShut
import Derived.Stop.Joined
import Derived.Carry
import Derived.Test.YteojfkejdhhhpaaGreatDoorCards
import Derived.SevenTiedAt
import Derived.Test.YteojfkejdhhhpaaGreatDoorP18
set_option linter.unusedSimpArgs false
set_option linter.unusedVariables false
set_option linter.constructorNameAsVariable false
set_option linter.unnecessarySimpa false
namespace Go.Proofs.YteojfkejdhhhpaaGreatDoor
open Go.ChangeShapes Go.WideShapes Go.ChangeAt Go.WideMaps Go.WideElems Go.RowKit
theorem ja:laidOutB Tryz.pinned.checked.prog=true:=qR
theorem jb:mapsRowed Tryz.pinned.checked.prog=true:=by kernel_rfl
theorem jc:Program.stopsHeard Tryz.pinned.checked.prog=true:=by kernel_rfl
end Go.Proofs.YteojfkejdhhhpaaGreatDoor
