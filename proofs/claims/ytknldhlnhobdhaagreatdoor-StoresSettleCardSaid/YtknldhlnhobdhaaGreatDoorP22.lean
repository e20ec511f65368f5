/- An evaluator of the program, and contracts over it: ErTj to ErTj. -/
import Derived.Test.YtknldhlnhobdhaaGreatDoorCards
import Derived.SevenTiedAt
import Derived.Test.YtknldhlnhobdhaaGreatDoorP21
set_option linter.unusedSimpArgs false
set_option linter.unusedVariables false
set_option linter.constructorNameAsVariable false
set_option linter.unnecessarySimpa false
namespace Go.Proofs.YtknldhlnhobdhaaGreatDoor
open Go.ChangeShapes Go.WideShapes Go.ChangeAt Go.WideMaps Go.WideElems Go.RowKit Go.Deep
theorem ja:laidOutB Tryz.pinned.checked.prog=true:=by kernel_rfl
theorem jb:mapsRowed Tryz.pinned.checked.prog=true:=by kernel_rfl
theorem jc:Program.stopsHeard Tryz.pinned.checked.prog=true:=by kernel_rfl
theorem jd:Program.mayEnter Tryz.pinned.checked.prog=true:=by kernel_rfl
theorem je:Program.unfollowed Tryz.pinned.checked.prog 4=true:=by kernel_rfl
theorem jf:Program.recurses Tryz.pinned.checked.prog 4=true:=by kernel_rfl
theorem jg:Program.varsNamed Tryz.pinned.checked.prog 4=["math/bits.deBruijn64tab"]:=by kernel_rfl
theorem jh:joinedFacts Tryz.pinned.checked.prog 4 Tryz.f4 Rows.storesSettleSpec Rows.storesSettleRow=true:=by
  unfold joinedFacts;rw[ja,jb,jc,jd,je,jf,jg]
  kernel_rfl
theorem ji:Tryz.pinned.checked.prog.funcNamed Rows.storesSettleRow.func=some 4:=by kernel_rfl
theorem jj:Tryz.f4.isWrapper Tryz.pinned.checked.prog Rows.storesSettleRow.wrapper Rows.storesSettleRow.mainSum:=by
  unfold Func.isWrapper;rw[if_neg (of_decide_eq_false (by kernel_rfl))];exact⟨rfl,rfl⟩
end Go.Proofs.YtknldhlnhobdhaaGreatDoor
