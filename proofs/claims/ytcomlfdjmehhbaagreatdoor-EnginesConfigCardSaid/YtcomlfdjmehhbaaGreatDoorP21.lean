/- An evaluator of the program, and contracts over it: EcSd to EcSd. -/
import Derived.Test.YtcomlfdjmehhbaaGreatDoorCards
import Derived.SevenTiedAt
import Derived.Test.YtcomlfdjmehhbaaGreatDoorP20
set_option linter.unusedSimpArgs false
set_option linter.unusedVariables false
set_option linter.constructorNameAsVariable false
set_option linter.unnecessarySimpa false
namespace Go.Proofs.YtcomlfdjmehhbaaGreatDoor
open Go.ChangeShapes Go.WideShapes Go.ChangeAt Go.WideMaps Go.WideElems Go.RowKit Go.Deep
theorem r7 {P : Program} (h : P.funcs.any Func.goes = false) (f : FuncId) : P.goes f = false := by
  unfold Program.goes
  rw [h, Bool.and_false, Bool.or_false, List.any_eq_false]
  intro g _
  cases e : P.funcs[g]? with
  | none => simp
  | some fn =>
    obtain ⟨hl, he⟩ := Array.getElem?_eq_some_iff.1 e
    have := (Array.any_eq_false.1 h) g hl
    rw [he] at this
    simpa using this
theorem vT {P : Program} {c : OpenClaim} {f : FuncId} (h : P.funcs.any Func.goes = false) (hf : P.funcNamed c.func = some f) (hs : c.start = .entering) : false = c.goesBy P := by
  unfold OpenClaim.goesBy Program.goesAt Program.goesFrom
  rw [hf, hs]
  simp [r7 h]
theorem pa : Rows.enginesConfigRow.wfByText (OpenSpec.ofChange Rows.enginesConfigSpec) = true := by kernel_rfl
theorem pb : Tryz.pinned.checked.prog.mainIs = some (true, "11e18e4c1f589a097b7e4edec42ba64933a263a220cb5d5e7234dd387d0d563d".toList) := by kernel_rfl
theorem pc : Tryz.prog.funcNamed "paternoster/paternosterlaw38.EnginesConfig" = some 3 := by kernel_rfl
theorem pd : false = Tryz.pinned.checked.prog.looks [] := by kernel_rfl
theorem pe : Tryz.prog.wantsStandIn 24 = false := by kernel_rfl
theorem pf : Tryz.prog.wantsStandIn 29 = false := by kernel_rfl
theorem ph : Tryz.pinned.checked.prog.funcs.any Func.goes = false := by kernel_rfl
theorem pg : false = Rows.enginesConfigRow.goesBy Tryz.pinned.checked.prog := vT ph ji (by kernel_rfl)
end Go.Proofs.YtcomlfdjmehhbaaGreatDoor
