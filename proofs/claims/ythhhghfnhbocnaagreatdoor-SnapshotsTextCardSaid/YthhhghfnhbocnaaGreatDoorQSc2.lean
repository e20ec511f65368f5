/- An evaluator of the program, and contracts over it: TrSc2 to TrSc2. -/
import Derived.Test.YthhhghfnhbocnaaGreatDoorRows
import Derived.ProofKit
import Derived.LaidMore
import Derived.OpenShut
import Derived.Stop.Joined
import Derived.Carry
import Derived.Test.YthhhghfnhbocnaaGreatDoorCards
import Derived.SevenTiedAt
import Derived.Test.YthhhghfnhbocnaaGreatDoorQCl
set_option linter.unusedSimpArgs false
set_option linter.unusedVariables false
set_option linter.constructorNameAsVariable false
set_option linter.unnecessarySimpa false
namespace Go.Proofs.YthhhghfnhbocnaaGreatDoor
open Go.ChangeShapes Go.WideShapes Go.ChangeAt Go.WideMaps Go.WideElems Go.RowKit
theorem kh : (Rows.snapshotsTextRow.inPlace == Tryz.pinned.checked.prog.inPlace 4) = true := by
  unfold Program.inPlace
  rw [clo]
  kernel_rfl
end Go.Proofs.YthhhghfnhbocnaaGreatDoor
