/- An evaluator of the program, and contracts over it: RxSc to RxSc. -/
import Derived.Test.YteojfkejdhhhpaaGreatDoorRows
import Derived.ProofKit
import Derived.LaidMore
import Derived.OpenShut
import Derived.Stop.Joined
import Derived.Carry
import Derived.Test.YteojfkejdhhhpaaGreatDoorCards
import Derived.SevenTiedAt
set_option linter.unusedSimpArgs false
set_option linter.unusedVariables false
set_option linter.constructorNameAsVariable false
set_option linter.unnecessarySimpa false
namespace Go.Proofs.YteojfkejdhhhpaaGreatDoor
open Go.ChangeShapes Go.WideShapes Go.ChangeAt Go.WideMaps Go.WideElems Go.RowKit
theorem ka:Rows.scriptsCutRow.wf (OpenSpec.ofChange Rows.scriptsCutSpec)=true:=by kernel_rfl
theorem kb:Tryz.f4.params.all (Tryz.pinned.checked.prog.readableRec ·)=true:=by kernel_rfl
theorem kc:namedTie Tryz.pinned.checked.prog Rows.scriptsCutRow.named Rows.scriptsCutSpec.vars=true:=by kernel_rfl
theorem kd:(Rows.scriptsCutRow.stops==[])=true:=by kernel_rfl
theorem ke:(Tryz.pinned.checked.prog.stops==[])=true:=by kernel_rfl
theorem kf:(Rows.scriptsCutRow.knobs==[])=true:=by kernel_rfl
theorem kg:(Tryz.pinned.checked.prog.stopKnobs==[])=true:=by kernel_rfl
theorem ki:(Rows.scriptsCutRow.maps==(Tryz.f4.params.toList++Rows.scriptsCutSpec.plain.varTypes Tryz.pinned.checked.prog).any (Tryz.pinned.checked.prog.mapsRec ·))=true:=by kernel_rfl
theorem kj:(Rows.scriptsCutRow.ifaces==(Tryz.f4.params.toList++Rows.scriptsCutSpec.plain.varTypes Tryz.pinned.checked.prog).any (Tryz.pinned.checked.prog.ifacesRec ·))=true:=by kernel_rfl
theorem kk:(Rows.scriptsCutRow.mapsOut==Tryz.pinned.checked.prog.mapsAmong Tryz.f4.resultTypes.toList)=true:=by kernel_rfl
theorem kl:(Rows.scriptsCutRow.loops==(Tryz.f4.params.toList++Rows.scriptsCutSpec.plain.varTypes Tryz.pinned.checked.prog).any (Tryz.pinned.checked.prog.loopsFrom ·))=true:=by kernel_rfl
theorem km:(Rows.scriptsCutRow.wideKeys==(Tryz.f4.params.toList++Rows.scriptsCutSpec.plain.varTypes Tryz.pinned.checked.prog++Tryz.f4.resultTypes.toList).any (Tryz.pinned.checked.prog.wideKeysFrom ·))=true:=by kernel_rfl
theorem kn:Rows.scriptsCutSpec.vars.all (Tryz.pinned.checked.prog.varReadable ·)=true:=by kernel_rfl
theorem ko:Tryz.f4.resultTypes.all (fun t=>Tryz.pinned.checked.prog.readableRec t&&decide (t<Tryz.pinned.checked.prog.types.size))=true:=by kernel_rfl
theorem kp:(Rows.scriptsCutRow.ifacesOut==Tryz.f4.resultTypes.toList.any (Tryz.pinned.checked.prog.ifacesRec ·))=true:=by kernel_rfl
theorem kq:(Rows.scriptsCutRow.loopsOut==Tryz.f4.resultTypes.toList.any (Tryz.pinned.checked.prog.loopsFrom ·))=true:=by kernel_rfl
theorem kr:(Rows.scriptsCutRow.plainKeys==Tryz.pinned.checked.prog.plainKeys)=true:=by kernel_rfl
theorem ks:Rows.scriptsCutRow.shortTexts.isNone=true:=by kernel_rfl
theorem kt:(Rows.scriptsCutRow.lifted==Tryz.pinned.checked.prog.liftsFinal)=true:=by kernel_rfl
theorem ku:(Tryz.pinned.checked.prog.make==some Rows.scriptsCutRow.make)=true:=by kernel_rfl
theorem kw:(Rows.scriptsCutRow.pinned==Rows.scriptsCutRow.pinnedBy)=true:=by kernel_rfl
theorem kx:(Rows.scriptsCutRow.veiled==(Tryz.f4.params.toList++Rows.scriptsCutSpec.plain.varTypes Tryz.pinned.checked.prog++Tryz.f4.resultTypes.toList).any (Tryz.pinned.checked.prog.veiledRec ·))=true:=by kernel_rfl
theorem ky:Rows.scriptsCutRow.veiledFits Tryz.pinned.checked.prog Tryz.f4.params.toList (Tryz.f4.params.toList++Rows.scriptsCutSpec.plain.varTypes Tryz.pinned.checked.prog++Tryz.f4.resultTypes.toList)=true:=by kernel_rfl
end Go.Proofs.YteojfkejdhhhpaaGreatDoor
