/- An evaluator of the program, and contracts over it: EcSc to EcSc. -/
import Derived.Test.YtcomlfdjmehhbaaGreatDoorCards
import Derived.SevenTiedAt
import Derived.Test.YtcomlfdjmehhbaaGreatDoorP16
set_option linter.unusedSimpArgs false
set_option linter.unusedVariables false
set_option linter.constructorNameAsVariable false
set_option linter.unnecessarySimpa false
namespace Go.Proofs.YtcomlfdjmehhbaaGreatDoor
open Go.ChangeShapes Go.WideShapes Go.ChangeAt Go.WideMaps Go.WideElems Go.RowKit Go.Deep
theorem ka : Rows.enginesConfigRow.wf (OpenSpec.ofChange Rows.enginesConfigSpec) = true := by kernel_rfl
theorem kb : Tryz.f3.params.all (Tryz.pinned.checked.prog.readableRec ·) = true := by kernel_rfl
theorem kc : namedTie Tryz.pinned.checked.prog Rows.enginesConfigRow.named Rows.enginesConfigSpec.vars = true := by kernel_rfl
theorem kd : (Rows.enginesConfigRow.stops == []) = true := by kernel_rfl
theorem ke : (Tryz.pinned.checked.prog.stops == []) = true := by kernel_rfl
theorem kf : (Rows.enginesConfigRow.knobs == []) = true := by kernel_rfl
theorem kg : (Tryz.pinned.checked.prog.stopKnobs == []) = true := by kernel_rfl
theorem kh : (Rows.enginesConfigRow.inPlace == Tryz.pinned.checked.prog.inPlace 3) = true := by kernel_rfl
theorem ki : (Rows.enginesConfigRow.maps == (Tryz.f3.params.toList ++ Rows.enginesConfigSpec.plain.varTypes Tryz.pinned.checked.prog).any (Tryz.pinned.checked.prog.mapsRec ·)) = true := by kernel_rfl
theorem kj : (Rows.enginesConfigRow.ifaces == (Tryz.f3.params.toList ++ Rows.enginesConfigSpec.plain.varTypes Tryz.pinned.checked.prog).any (Tryz.pinned.checked.prog.ifacesRec ·)) = true := by kernel_rfl
theorem kk : (Rows.enginesConfigRow.mapsOut == Tryz.pinned.checked.prog.mapsAmong Tryz.f3.resultTypes.toList) = true := by kernel_rfl
theorem kl : (Rows.enginesConfigRow.loops == (Tryz.f3.params.toList ++ Rows.enginesConfigSpec.plain.varTypes Tryz.pinned.checked.prog).any (Tryz.pinned.checked.prog.loopsFrom ·)) = true := by kernel_rfl
theorem km : (Rows.enginesConfigRow.wideKeys == (Tryz.f3.params.toList ++ Rows.enginesConfigSpec.plain.varTypes Tryz.pinned.checked.prog ++ Tryz.f3.resultTypes.toList).any (Tryz.pinned.checked.prog.wideKeysFrom ·)) = true := by kernel_rfl
theorem kn : Rows.enginesConfigSpec.vars.all (Tryz.pinned.checked.prog.varReadable ·) = true := by kernel_rfl
theorem ko : Tryz.f3.resultTypes.all (fun t => Tryz.pinned.checked.prog.readableRec t && decide (t < Tryz.pinned.checked.prog.types.size)) = true := by kernel_rfl
theorem kp : (Rows.enginesConfigRow.ifacesOut == Tryz.f3.resultTypes.toList.any (Tryz.pinned.checked.prog.ifacesRec ·)) = true := by kernel_rfl
theorem kq : (Rows.enginesConfigRow.loopsOut == Tryz.f3.resultTypes.toList.any (Tryz.pinned.checked.prog.loopsFrom ·)) = true := by kernel_rfl
theorem kr : (Rows.enginesConfigRow.plainKeys == Tryz.pinned.checked.prog.plainKeys) = true := by kernel_rfl
theorem ks : Rows.enginesConfigRow.shortTexts.isNone = true := by kernel_rfl
theorem kt : (Rows.enginesConfigRow.lifted == Tryz.pinned.checked.prog.liftsFinal) = true := by kernel_rfl
theorem ku : (Tryz.pinned.checked.prog.make == some Rows.enginesConfigRow.make) = true := by kernel_rfl
theorem kw : (Rows.enginesConfigRow.pinned == Rows.enginesConfigRow.pinnedBy) = true := by kernel_rfl
theorem kx : (Rows.enginesConfigRow.veiled == (Tryz.f3.params.toList ++ Rows.enginesConfigSpec.plain.varTypes Tryz.pinned.checked.prog ++ Tryz.f3.resultTypes.toList).any (Tryz.pinned.checked.prog.veiledRec ·)) = true := by kernel_rfl
theorem ky : Rows.enginesConfigRow.veiledFits Tryz.pinned.checked.prog Tryz.f3.params.toList (Tryz.f3.params.toList ++ Rows.enginesConfigSpec.plain.varTypes Tryz.pinned.checked.prog ++ Tryz.f3.resultTypes.toList) = true := by kernel_rfl
end Go.Proofs.YtcomlfdjmehhbaaGreatDoor
