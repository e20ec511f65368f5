/- An evaluator of the program, and contracts over it: SmSy to SmSy. -/
import Derived.Test.YthhhghfnhbocnaaGreatDoorP08
import Derived.Test.YthhhghfnhbocnaaGreatDoorQLv
set_option linter.unusedSimpArgs false
set_option linter.unusedVariables false
set_option linter.constructorNameAsVariable false
set_option linter.unnecessarySimpa false
open Go.RowKit
namespace Go.Ev
namespace Lay
def tabN : List Nat := [1, 10, 100, 1000, 10000, 100000, 1000000, 10000000, 100000000, 1000000000, 10000000000, 100000000000, 1000000000000, 10000000000000, 100000000000000, 1000000000000000, 10000000000000000, 100000000000000000, 1000000000000000000, 10000000000000000000]
/-- the package's variable -/
def Tab (W : World) : Prop := ∃ C t, W.heap[0]? = some (.cells C t (0, 0)) ∧ C.size = 20 ∧ ∀ (i : Nat) n, tabN[i]? = some n → C[i]? = some (.int .u64 (n : Int))
theorem tab10_get {i : Nat} {v : V} (h : tab10[i]? = some v) : ∃ n, tabN[i]? = some n ∧ v = .int .u64 (n : Int) := by
  have e : tab10 = tabN.map fun (n : Nat) => V.int .u64 (n : Int) := rfl
  rw [e, List.getElem?_map] at h
  cases hn : tabN[i]? with
  | none => rw [hn] at h; cases h
  | some n => rw [hn] at h; cases h; exact ⟨n, rfl, rfl⟩
end Lay
end Go.Ev
