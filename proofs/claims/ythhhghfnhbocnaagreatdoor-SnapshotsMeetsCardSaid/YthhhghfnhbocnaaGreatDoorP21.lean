/- An evaluator of the program, and contracts over it: SmSc to SmSc. -/
import Derived.Test.YthhhghfnhbocnaaGreatDoorRows
import Derived.ProofKit
import Derived.LaidMore
import Derived.OpenShut
import Derived.Stop.Joined
import Derived.Carry
import Derived.Test.YthhhghfnhbocnaaGreatDoorCards
import Derived.SevenTiedAt
set_option linter.unusedSimpArgs false
set_option linter.unusedVariables false
set_option linter.constructorNameAsVariable false
set_option linter.unnecessarySimpa false
namespace Go.Proofs.YthhhghfnhbocnaaGreatDoor
open Go.ChangeShapes Go.WideShapes Go.ChangeAt Go.WideMaps Go.WideElems Go.RowKit
theorem ka : Rows.snapshotsMeetsRow.wf (OpenSpec.ofChange Rows.snapshotsMeetsSpec) = true := by kernel_rfl
theorem kb : Tryz.f3.params.all (Tryz.pinned.checked.prog.readableRec ·) = true := by kernel_rfl
theorem kc : namedTie Tryz.pinned.checked.prog Rows.snapshotsMeetsRow.named Rows.snapshotsMeetsSpec.vars = true := by kernel_rfl
theorem kd : (Rows.snapshotsMeetsRow.stops == []) = true := by kernel_rfl
theorem ke : (Tryz.pinned.checked.prog.stops == []) = true := by kernel_rfl
theorem kf : (Rows.snapshotsMeetsRow.knobs == []) = true := by kernel_rfl
theorem kg : (Tryz.pinned.checked.prog.stopKnobs == []) = true := by kernel_rfl
theorem ki : (Rows.snapshotsMeetsRow.maps == (Tryz.f3.params.toList ++ Rows.snapshotsMeetsSpec.plain.varTypes Tryz.pinned.checked.prog).any (Tryz.pinned.checked.prog.mapsRec ·)) = true := by kernel_rfl
theorem kj : (Rows.snapshotsMeetsRow.ifaces == (Tryz.f3.params.toList ++ Rows.snapshotsMeetsSpec.plain.varTypes Tryz.pinned.checked.prog).any (Tryz.pinned.checked.prog.ifacesRec ·)) = true := by kernel_rfl
theorem kk : (Rows.snapshotsMeetsRow.mapsOut == Tryz.pinned.checked.prog.mapsAmong Tryz.f3.resultTypes.toList) = true := by kernel_rfl
theorem kl : (Rows.snapshotsMeetsRow.loops == (Tryz.f3.params.toList ++ Rows.snapshotsMeetsSpec.plain.varTypes Tryz.pinned.checked.prog).any (Tryz.pinned.checked.prog.loopsFrom ·)) = true := by kernel_rfl
theorem km : (Rows.snapshotsMeetsRow.wideKeys == (Tryz.f3.params.toList ++ Rows.snapshotsMeetsSpec.plain.varTypes Tryz.pinned.checked.prog ++ Tryz.f3.resultTypes.toList).any (Tryz.pinned.checked.prog.wideKeysFrom ·)) = true := by kernel_rfl
theorem kn : Rows.snapshotsMeetsSpec.vars.all (Tryz.pinned.checked.prog.varReadable ·) = true := by kernel_rfl
theorem ko : Tryz.f3.resultTypes.all (fun t => Tryz.pinned.checked.prog.readableRec t && decide (t < Tryz.pinned.checked.prog.types.size)) = true := by kernel_rfl
theorem kp : (Rows.snapshotsMeetsRow.ifacesOut == Tryz.f3.resultTypes.toList.any (Tryz.pinned.checked.prog.ifacesRec ·)) = true := by kernel_rfl
theorem kq : (Rows.snapshotsMeetsRow.loopsOut == Tryz.f3.resultTypes.toList.any (Tryz.pinned.checked.prog.loopsFrom ·)) = true := by kernel_rfl
theorem kr : (Rows.snapshotsMeetsRow.plainKeys == Tryz.pinned.checked.prog.plainKeys) = true := by kernel_rfl
theorem ks : Rows.snapshotsMeetsRow.shortTexts.isNone = true := by kernel_rfl
theorem kt : (Rows.snapshotsMeetsRow.lifted == Tryz.pinned.checked.prog.liftsFinal) = true := by kernel_rfl
theorem ku : (Tryz.pinned.checked.prog.make == some Rows.snapshotsMeetsRow.make) = true := by kernel_rfl
theorem kw : (Rows.snapshotsMeetsRow.pinned == Rows.snapshotsMeetsRow.pinnedBy) = true := by kernel_rfl
theorem kx : (Rows.snapshotsMeetsRow.veiled == (Tryz.f3.params.toList ++ Rows.snapshotsMeetsSpec.plain.varTypes Tryz.pinned.checked.prog ++ Tryz.f3.resultTypes.toList).any (Tryz.pinned.checked.prog.veiledRec ·)) = true := by kernel_rfl
theorem ky : Rows.snapshotsMeetsRow.veiledFits Tryz.pinned.checked.prog Tryz.f3.params.toList (Tryz.f3.params.toList ++ Rows.snapshotsMeetsSpec.plain.varTypes Tryz.pinned.checked.prog ++ Tryz.f3.resultTypes.toList) = true := by kernel_rfl
end Go.Proofs.YthhhghfnhbocnaaGreatDoor
