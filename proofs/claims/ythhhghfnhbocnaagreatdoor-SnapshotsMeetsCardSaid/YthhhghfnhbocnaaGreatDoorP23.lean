/- An evaluator of the program, and contracts over it: SmSj to SmSj. -/
import Derived.Test.YthhhghfnhbocnaaGreatDoorCards
import Derived.SevenTiedAt
import Derived.Test.YthhhghfnhbocnaaGreatDoorP17
import Derived.Test.YthhhghfnhbocnaaGreatDoorP18
import Derived.Test.YthhhghfnhbocnaaGreatDoorP19
import Derived.Test.YthhhghfnhbocnaaGreatDoorP21
import Derived.Test.YthhhghfnhbocnaaGreatDoorP22
set_option linter.unusedSimpArgs false
set_option linter.unusedVariables false
set_option linter.constructorNameAsVariable false
set_option linter.unnecessarySimpa false
namespace Go.Proofs.YthhhghfnhbocnaaGreatDoor
open Go.ChangeShapes Go.WideShapes Go.ChangeAt Go.WideMaps Go.WideElems Go.RowKit
theorem jh : joinedFacts Tryz.pinned.checked.prog 3 Tryz.f3 Rows.snapshotsMeetsSpec Rows.snapshotsMeetsRow = true := by
  unfold joinedFacts
  rw [ja, jb, jc, jd, je, jf, jg, ka, kb, kc, kd, ke, kf, kg, kh, ki, kj, kk, kl, km, kn, ko, kp, kq, kr, ks, kt, ku, kw, kx, ky]
  kernel_rfl
theorem ji : Tryz.pinned.checked.prog.funcNamed Rows.snapshotsMeetsRow.func = some 3 := by kernel_rfl
theorem jj : Tryz.f3.isWrapper Tryz.pinned.checked.prog Rows.snapshotsMeetsRow.wrapper Rows.snapshotsMeetsRow.mainSum := by
  unfold Func.isWrapper; rw [if_neg (of_decide_eq_false (by kernel_rfl))]; exact ⟨rfl, rfl⟩
end Go.Proofs.YthhhghfnhbocnaaGreatDoor
