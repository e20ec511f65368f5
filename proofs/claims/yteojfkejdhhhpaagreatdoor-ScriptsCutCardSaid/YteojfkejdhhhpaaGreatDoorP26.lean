/- An evaluator of the program, and contracts over it: RxSd to RxSd. -/
import Derived.Test.YteojfkejdhhhpaaGreatDoorCards
import Derived.SevenTiedAt
import Derived.Test.YteojfkejdhhhpaaGreatDoorP25
set_option linter.unusedSimpArgs false
set_option linter.unusedVariables false
set_option linter.constructorNameAsVariable false
set_option linter.unnecessarySimpa false
namespace Go.Proofs.YteojfkejdhhhpaaGreatDoor
open Go.ChangeShapes Go.WideShapes Go.ChangeAt Go.WideMaps Go.WideElems Go.RowKit
theorem E7{P:Program}(h:P.funcs.any Func.goes=false)(f:FuncId):P.goes f=false:=by
  unfold Program.goes;rw[h,Bool.and_false,Bool.or_false,List.any_eq_false];intro g _;cases e:P.funcs[g]? with
  |none=>simp
  |some fn=>
    obtain⟨U,Z⟩:=Array.getElem?_eq_some_iff.1 e;have:=(Array.any_eq_false.1 h) g U;rw[Z]at this;simpa using this
theorem KI{P:Program}{c:OpenClaim}{f:FuncId}(h:P.funcs.any Func.goes=false)(hf:P.funcNamed c.func=some f)(Z:c.start=.entering):false=c.goesBy P:=by
  unfold OpenClaim.goesBy Program.goesAt Program.goesFrom;rw[hf,Z];simp[E7 h]
theorem pa:Rows.scriptsCutRow.wfByText (OpenSpec.ofChange Rows.scriptsCutSpec)=true:=by kernel_rfl
theorem pb:Tryz.pinned.checked.prog.mainIs=some (true,"fe5b6ee2bc16fdbe220c8c5232efc3e838a2bade035a1801d389b383a0796ce1".toList):=by kernel_rfl
theorem pc:Tryz.prog.funcNamed "paternoster/paternosterlaw42.ScriptsCut" =some 4:=by kernel_rfl
theorem pd:true=Tryz.pinned.checked.prog.looks []:=by kernel_rfl
theorem pe0:Tryz.prog.wantsStandIn 29=false:=by kernel_rfl
theorem pe1:Tryz.prog.wantsStandIn 47=false:=by kernel_rfl
theorem pe2:Tryz.prog.wantsStandIn 5=false:=by kernel_rfl
theorem ph:Tryz.pinned.checked.prog.funcs.any Func.goes=false:=by kernel_rfl
theorem pg:false=Rows.scriptsCutRow.goesBy Tryz.pinned.checked.prog:=KI ph ji (by kernel_rfl)
end Go.Proofs.YteojfkejdhhhpaaGreatDoor
