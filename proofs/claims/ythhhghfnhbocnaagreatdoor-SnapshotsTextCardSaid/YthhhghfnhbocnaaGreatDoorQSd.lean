/- An evaluator of the program, and contracts over it: TrSd to TrSd. -/
import Derived.Test.YthhhghfnhbocnaaGreatDoorCards
import Derived.SevenTiedAt
import Derived.Test.YthhhghfnhbocnaaGreatDoorQSj
set_option linter.unusedSimpArgs false
set_option linter.unusedVariables false
set_option linter.constructorNameAsVariable false
set_option linter.unnecessarySimpa false
namespace Go.Proofs.YthhhghfnhbocnaaGreatDoor
open Go.ChangeShapes Go.WideShapes Go.ChangeAt Go.WideMaps Go.WideElems Go.RowKit
theorem goes_none {P : Program} (h : P.funcs.any Func.goes = false) (f : FuncId) : P.goes f = false := by
  unfold Program.goes
  rw [h, Bool.and_false, Bool.or_false, List.any_eq_false]
  intro g _
  cases e : P.funcs[g]? with
  | none => simp
  | some fn =>
    obtain ⟨hl, he⟩ := Array.getElem?_eq_some_iff.1 e
    have := (Array.any_eq_false.1 h) g hl
    rw [he] at this
    simpa using this
theorem goes_by {P : Program} {c : OpenClaim} {f : FuncId} (h : P.funcs.any Func.goes = false) (hf : P.funcNamed c.func = some f) (hs : c.start = .entering) : false = c.goesBy P := by
  unfold OpenClaim.goesBy Program.goesAt Program.goesFrom
  rw [hf, hs]
  simp [goes_none h]
theorem pa : Rows.snapshotsTextRow.wfByText (OpenSpec.ofChange Rows.snapshotsTextSpec) = true := by kernel_rfl
theorem pb : Tryz.pinned.checked.prog.mainIs = some (true, "945ccd373a565ad676907d0c06803ff84c55f22ba87e273e86ee60155b68577d".toList) := by kernel_rfl
theorem pc : Tryz.prog.funcNamed "paternoster/paternosterlaw39.SnapshotsText" = some 4 := by kernel_rfl
theorem pd : true = Tryz.pinned.checked.prog.looks [] := by kernel_rfl
theorem pe0 : Tryz.prog.wantsStandIn 32 = false := by kernel_rfl
theorem pe1 : Tryz.prog.wantsStandIn 5 = false := by kernel_rfl
theorem ph : Tryz.pinned.checked.prog.funcs.any Func.goes = false := by kernel_rfl
theorem pg : false = Rows.snapshotsTextRow.goesBy Tryz.pinned.checked.prog := goes_by ph ji (by kernel_rfl)
end Go.Proofs.YthhhghfnhbocnaaGreatDoor
