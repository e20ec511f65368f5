/- An evaluator of the program, and contracts over it: TrLo to TrLo. -/
import Derived.Test.YthhhghfnhbocnaaGreatDoorRows
import Derived.ProofKit
import Derived.LaidMore
import Derived.OpenShut
import Derived.Stop.Joined
import Derived.Carry
import Derived.Test.YthhhghfnhbocnaaGreatDoorCards
import Derived.SevenTiedAt
set_option linter.unusedSimpArgs false
set_option linter.unusedVariables false
set_option linter.constructorNameAsVariable false
set_option linter.unnecessarySimpa false
namespace Go.Proofs.YthhhghfnhbocnaaGreatDoor
open Go
theorem la0 : (List.range' 0 100).all (rowFine Tryz.prog) = true := by kernel_rfl
theorem la1 : (List.range' 100 100).all (rowFine Tryz.prog) = true := by kernel_rfl
theorem la2 : (List.range' 200 100).all (rowFine Tryz.prog) = true := by kernel_rfl
theorem la3 : (List.range' 300 100).all (rowFine Tryz.prog) = true := by kernel_rfl
theorem la4 : (List.range' 400 100).all (rowFine Tryz.prog) = true := by kernel_rfl
theorem la5 : (List.range' 500 100).all (rowFine Tryz.prog) = true := by kernel_rfl
theorem la6 : (List.range' 600 100).all (rowFine Tryz.prog) = true := by kernel_rfl
theorem la7 : (List.range' 700 100).all (rowFine Tryz.prog) = true := by kernel_rfl
theorem lsz : Tryz.prog.types.size = 800 := by kernel_rfl
theorem lcut : List.range 800 = List.range' 0 100 ++ (List.range' 100 100 ++ (List.range' 200 100 ++ (List.range' 300 100 ++ (List.range' 400 100 ++ (List.range' 500 100 ++ (List.range' 600 100 ++ (List.range' 700 100))))))) := by kernel_rfl
theorem lall : (List.range Tryz.prog.types.size).all (rowFine Tryz.prog) = true := by
  rw [lsz, lcut]
  simp only [List.all_append, la0, la1, la2, la3, la4, la5, la6, la7, Bool.and_self]
theorem lgl : Tryz.prog.globals.all (fun g => decide (g.type < Tryz.prog.types.size)) = true := by rw [lsz]; kernel_rfl
theorem lfn : Tryz.prog.funcs.all (fun f => f.params.all fun t => decide (t < Tryz.prog.types.size)) = true := by rw [lsz]; kernel_rfl
theorem laidOut : laidOutB Tryz.prog = true := by
  unfold laidOutB
  rw [lall, lgl, lfn]
  rfl
end Go.Proofs.YthhhghfnhbocnaaGreatDoor
