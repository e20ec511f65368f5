/- An evaluator of the program, and contracts over it: RxSj to RxSj. -/
import Derived.Test.YteojfkejdhhhpaaGreatDoorCards
import Derived.SevenTiedAt
import Derived.Test.YteojfkejdhhhpaaGreatDoorP19
import Derived.Test.YteojfkejdhhhpaaGreatDoorP21
import Derived.Test.YteojfkejdhhhpaaGreatDoorP22
import Derived.Test.YteojfkejdhhhpaaGreatDoorP23
import Derived.Test.YteojfkejdhhhpaaGreatDoorP24
set_option linter.unusedSimpArgs false
set_option linter.unusedVariables false
set_option linter.constructorNameAsVariable false
set_option linter.unnecessarySimpa false
namespace Go.Proofs.YteojfkejdhhhpaaGreatDoor
open Go.ChangeShapes Go.WideShapes Go.ChangeAt Go.WideMaps Go.WideElems Go.RowKit
theorem jh:joinedFacts Tryz.pinned.checked.prog 4 Tryz.f4 Rows.scriptsCutSpec Rows.scriptsCutRow=true:=by
  unfold joinedFacts;rw[ja,jb,jc,jd,je,jf,jg,ka,kb,kc,kd,ke,kf,kg,kh,ki,kj,kk,kl,km,kn,ko,kp,kq,kr,ks,kt,ku,kw,kx,ky]
  kernel_rfl
theorem ji:Tryz.pinned.checked.prog.funcNamed Rows.scriptsCutRow.func=some 4:=by kernel_rfl
theorem jj:Tryz.f4.isWrapper Tryz.pinned.checked.prog Rows.scriptsCutRow.wrapper Rows.scriptsCutRow.mainSum:=by
  unfold Func.isWrapper;rw[if_neg (of_decide_eq_false (by kernel_rfl))];exact⟨rfl,rfl⟩
end Go.Proofs.YteojfkejdhhhpaaGreatDoor
