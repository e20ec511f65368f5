/- An evaluator of the program, and contracts over it: SdSc to SdSc. -/
import Derived.Test.YthhhghfnhbocnaaGreatDoorRows
import Derived.ProofKit
import Derived.LaidMore
import Derived.OpenShut
import Derived.Stop.Joined
import Derived.Carry
import Derived.Test.YthhhghfnhbocnaaGreatDoorCards
import Derived.SevenTiedAt
set_option linter.unusedSimpArgs false
set_option linter.unusedVariables false
set_option linter.constructorNameAsVariable false
set_option linter.unnecessarySimpa false
namespace Go.Proofs.YthhhghfnhbocnaaGreatDoor
open Go.ChangeShapes Go.WideShapes Go.ChangeAt Go.WideMaps Go.WideElems Go.RowKit
theorem ka : Rows.snapshotsDifferRow.wf (OpenSpec.ofChange Rows.snapshotsDifferSpec) = true := by kernel_rfl
theorem kb : Tryz.f5.params.all (Tryz.pinned.checked.prog.readableRec ·) = true := by kernel_rfl
theorem kc : namedTie Tryz.pinned.checked.prog Rows.snapshotsDifferRow.named Rows.snapshotsDifferSpec.vars = true := by kernel_rfl
theorem kd : (Rows.snapshotsDifferRow.stops == []) = true := by kernel_rfl
theorem ke : (Tryz.pinned.checked.prog.stops == []) = true := by kernel_rfl
theorem kf : (Rows.snapshotsDifferRow.knobs == []) = true := by kernel_rfl
theorem kg : (Tryz.pinned.checked.prog.stopKnobs == []) = true := by kernel_rfl
theorem ki : (Rows.snapshotsDifferRow.maps == (Tryz.f5.params.toList ++ Rows.snapshotsDifferSpec.plain.varTypes Tryz.pinned.checked.prog).any (Tryz.pinned.checked.prog.mapsRec ·)) = true := by kernel_rfl
theorem kj : (Rows.snapshotsDifferRow.ifaces == (Tryz.f5.params.toList ++ Rows.snapshotsDifferSpec.plain.varTypes Tryz.pinned.checked.prog).any (Tryz.pinned.checked.prog.ifacesRec ·)) = true := by kernel_rfl
theorem kk : (Rows.snapshotsDifferRow.mapsOut == Tryz.pinned.checked.prog.mapsAmong Tryz.f5.resultTypes.toList) = true := by kernel_rfl
theorem kl : (Rows.snapshotsDifferRow.loops == (Tryz.f5.params.toList ++ Rows.snapshotsDifferSpec.plain.varTypes Tryz.pinned.checked.prog).any (Tryz.pinned.checked.prog.loopsFrom ·)) = true := by kernel_rfl
theorem km : (Rows.snapshotsDifferRow.wideKeys == (Tryz.f5.params.toList ++ Rows.snapshotsDifferSpec.plain.varTypes Tryz.pinned.checked.prog ++ Tryz.f5.resultTypes.toList).any (Tryz.pinned.checked.prog.wideKeysFrom ·)) = true := by kernel_rfl
theorem kn : Rows.snapshotsDifferSpec.vars.all (Tryz.pinned.checked.prog.varReadable ·) = true := by kernel_rfl
theorem ko : Tryz.f5.resultTypes.all (fun t => Tryz.pinned.checked.prog.readableRec t && decide (t < Tryz.pinned.checked.prog.types.size)) = true := by kernel_rfl
theorem kp : (Rows.snapshotsDifferRow.ifacesOut == Tryz.f5.resultTypes.toList.any (Tryz.pinned.checked.prog.ifacesRec ·)) = true := by kernel_rfl
theorem kq : (Rows.snapshotsDifferRow.loopsOut == Tryz.f5.resultTypes.toList.any (Tryz.pinned.checked.prog.loopsFrom ·)) = true := by kernel_rfl
theorem kr : (Rows.snapshotsDifferRow.plainKeys == Tryz.pinned.checked.prog.plainKeys) = true := by kernel_rfl
theorem ks : Rows.snapshotsDifferRow.shortTexts.isNone = true := by kernel_rfl
theorem kt : (Rows.snapshotsDifferRow.lifted == Tryz.pinned.checked.prog.liftsFinal) = true := by kernel_rfl
theorem ku : (Tryz.pinned.checked.prog.make == some Rows.snapshotsDifferRow.make) = true := by kernel_rfl
theorem kw : (Rows.snapshotsDifferRow.pinned == Rows.snapshotsDifferRow.pinnedBy) = true := by kernel_rfl
theorem kx : (Rows.snapshotsDifferRow.veiled == (Tryz.f5.params.toList ++ Rows.snapshotsDifferSpec.plain.varTypes Tryz.pinned.checked.prog ++ Tryz.f5.resultTypes.toList).any (Tryz.pinned.checked.prog.veiledRec ·)) = true := by kernel_rfl
theorem ky : Rows.snapshotsDifferRow.veiledFits Tryz.pinned.checked.prog Tryz.f5.params.toList (Tryz.f5.params.toList ++ Rows.snapshotsDifferSpec.plain.varTypes Tryz.pinned.checked.prog ++ Tryz.f5.resultTypes.toList) = true := by kernel_rfl
end Go.Proofs.YthhhghfnhbocnaaGreatDoor
