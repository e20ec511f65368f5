/- An evaluator of the program, and contracts over it: RxSb1 to RxSb1. -/
import Derived.Test.YteojfkejdhhhpaaGreatDoorRows
import Derived.ProofKit
import Derived.LaidMore
import Derived.OpenShut
import Derived.Stop.Joined
import Derived.Carry
import Derived.Test.YteojfkejdhhhpaaGreatDoorCards
import Derived.SevenTiedAt
import Derived.Test.YteojfkejdhhhpaaGreatDoorP20
set_option linter.unusedSimpArgs false
set_option linter.unusedVariables false
set_option linter.constructorNameAsVariable false
set_option linter.unnecessarySimpa false
namespace Go.Proofs.YteojfkejdhhhpaaGreatDoor
open Go.ChangeShapes Go.WideShapes Go.ChangeAt Go.WideMaps Go.WideElems Go.RowKit
theorem jg:Program.varsNamed Tryz.pinned.checked.prog 4=["internal/strconv.uint64pow10","math/bits.deBruijn32tab","math/bits.deBruijn64tab","paternoster/scripts.kinds","internal/bytealg.MaxLen","unicode/utf8.first","unicode/utf8.acceptRanges","strconv.ErrSyntax","strconv.ErrRange"]:=by unfold Program.varsNamed;rw[clo];kernel_rfl
end Go.Proofs.YteojfkejdhhhpaaGreatDoor
