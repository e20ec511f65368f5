/- An evaluator of the program, and contracts over it: TrSc to TrSc. -/
import Derived.Test.YthhhghfnhbocnaaGreatDoorRows
import Derived.ProofKit
import Derived.LaidMore
import Derived.OpenShut
import Derived.Stop.Joined
import Derived.Carry
import Derived.Test.YthhhghfnhbocnaaGreatDoorCards
import Derived.SevenTiedAt
set_option linter.unusedSimpArgs false
set_option linter.unusedVariables false
set_option linter.constructorNameAsVariable false
set_option linter.unnecessarySimpa false
namespace Go.Proofs.YthhhghfnhbocnaaGreatDoor
open Go.ChangeShapes Go.WideShapes Go.ChangeAt Go.WideMaps Go.WideElems Go.RowKit
theorem ka : Rows.snapshotsTextRow.wf (OpenSpec.ofChange Rows.snapshotsTextSpec) = true := by kernel_rfl
theorem kb : Tryz.f4.params.all (Tryz.pinned.checked.prog.readableRec ·) = true := by kernel_rfl
theorem kc : namedTie Tryz.pinned.checked.prog Rows.snapshotsTextRow.named Rows.snapshotsTextSpec.vars = true := by kernel_rfl
theorem kd : (Rows.snapshotsTextRow.stops == []) = true := by kernel_rfl
theorem ke : (Tryz.pinned.checked.prog.stops == []) = true := by kernel_rfl
theorem kf : (Rows.snapshotsTextRow.knobs == []) = true := by kernel_rfl
theorem kg : (Tryz.pinned.checked.prog.stopKnobs == []) = true := by kernel_rfl
theorem ki : (Rows.snapshotsTextRow.maps == (Tryz.f4.params.toList ++ Rows.snapshotsTextSpec.plain.varTypes Tryz.pinned.checked.prog).any (Tryz.pinned.checked.prog.mapsRec ·)) = true := by kernel_rfl
theorem kj : (Rows.snapshotsTextRow.ifaces == (Tryz.f4.params.toList ++ Rows.snapshotsTextSpec.plain.varTypes Tryz.pinned.checked.prog).any (Tryz.pinned.checked.prog.ifacesRec ·)) = true := by kernel_rfl
theorem kk : (Rows.snapshotsTextRow.mapsOut == Tryz.pinned.checked.prog.mapsAmong Tryz.f4.resultTypes.toList) = true := by kernel_rfl
theorem kl : (Rows.snapshotsTextRow.loops == (Tryz.f4.params.toList ++ Rows.snapshotsTextSpec.plain.varTypes Tryz.pinned.checked.prog).any (Tryz.pinned.checked.prog.loopsFrom ·)) = true := by kernel_rfl
theorem km : (Rows.snapshotsTextRow.wideKeys == (Tryz.f4.params.toList ++ Rows.snapshotsTextSpec.plain.varTypes Tryz.pinned.checked.prog ++ Tryz.f4.resultTypes.toList).any (Tryz.pinned.checked.prog.wideKeysFrom ·)) = true := by kernel_rfl
theorem kn : Rows.snapshotsTextSpec.vars.all (Tryz.pinned.checked.prog.varReadable ·) = true := by kernel_rfl
theorem ko : Tryz.f4.resultTypes.all (fun t => Tryz.pinned.checked.prog.readableRec t && decide (t < Tryz.pinned.checked.prog.types.size)) = true := by kernel_rfl
theorem kp : (Rows.snapshotsTextRow.ifacesOut == Tryz.f4.resultTypes.toList.any (Tryz.pinned.checked.prog.ifacesRec ·)) = true := by kernel_rfl
theorem kq : (Rows.snapshotsTextRow.loopsOut == Tryz.f4.resultTypes.toList.any (Tryz.pinned.checked.prog.loopsFrom ·)) = true := by kernel_rfl
theorem kr : (Rows.snapshotsTextRow.plainKeys == Tryz.pinned.checked.prog.plainKeys) = true := by kernel_rfl
theorem ks : Rows.snapshotsTextRow.shortTexts.isNone = true := by kernel_rfl
theorem kt : (Rows.snapshotsTextRow.lifted == Tryz.pinned.checked.prog.liftsFinal) = true := by kernel_rfl
theorem ku : (Tryz.pinned.checked.prog.make == some Rows.snapshotsTextRow.make) = true := by kernel_rfl
theorem kw : (Rows.snapshotsTextRow.pinned == Rows.snapshotsTextRow.pinnedBy) = true := by kernel_rfl
theorem kx : (Rows.snapshotsTextRow.veiled == (Tryz.f4.params.toList ++ Rows.snapshotsTextSpec.plain.varTypes Tryz.pinned.checked.prog ++ Tryz.f4.resultTypes.toList).any (Tryz.pinned.checked.prog.veiledRec ·)) = true := by kernel_rfl
theorem ky : Rows.snapshotsTextRow.veiledFits Tryz.pinned.checked.prog Tryz.f4.params.toList (Tryz.f4.params.toList ++ Rows.snapshotsTextSpec.plain.varTypes Tryz.pinned.checked.prog ++ Tryz.f4.resultTypes.toList) = true := by kernel_rfl
end Go.Proofs.YthhhghfnhbocnaaGreatDoor
