/- An evaluator of the program, and contracts over it: SmSy to SmSy. -/
import Derived.Test.YthhhghfnhbocnaaGreatDoorP07
import Derived.Test.YthhhghfnhbocnaaGreatDoorQLv
set_option linter.unusedSimpArgs false
set_option linter.unusedVariables false
set_option linter.constructorNameAsVariable false
set_option linter.unnecessarySimpa false
open Go.RowKit
namespace Go.Ev
namespace Lay
def tabN : List Nat := [1, 10, 100, 1000, 10000, 100000, 1000000, 10000000, 100000000, 1000000000, 10000000000, 100000000000, 1000000000000, 10000000000000, 100000000000000, 1000000000000000, 10000000000000000, 100000000000000000, 1000000000000000000, 10000000000000000000]
/-- the package's variable -/
def Tab (W : World) : Prop := ∃ C t, W.heap[0]? = some (.cells C t (0, 0)) ∧ C.size = 20 ∧ ∀ (i : Nat) n, tabN[i]? = some n → C[i]? = some (.int .u64 (n : Int))
theorem tab10_get {i : Nat} {v : V} (h : tab10[i]? = some v) : ∃ n, tabN[i]? = some n ∧ v = .int .u64 (n : Int) := by
  have e : tab10 = tabN.map fun (n : Nat) => V.int .u64 (n : Int) := rfl
  rw [e, List.getElem?_map] at h
  cases hn : tabN[i]? with
  | none => rw [hn] at h; cases h
  | some n => rw [hn] at h; cases h; exact ⟨n, rfl, rfl⟩
noncomputable def mT : M := fun p => if p = 0 then some ⟨0, 0, 20, none⟩ else none
theorem mT_some {p : Nat} {loc : Loc} (h : mT p = some loc) : p = 0 ∧ loc = ⟨0, 0, 20, none⟩ := by
  unfold mT at h
  by_cases c : p = 0
  · rw [if_pos c] at h; cases h; exact ⟨c, rfl⟩
  · rw [if_neg c] at h; cases h
theorem h0_get : h0.bl.get 0 = some (.row tab10 0 0) := by unfold h0; rw [T.get_set_self]
theorem h0_none {p : Nat} (hp : p ≠ 0) : h0.bl.get p = none := by unfold h0; rw [T.get_set_ne _ _ hp]; rfl
theorem h0_wf : WF h0 := fun p hp => ⟨h0_none (by have : 1 ≤ p := hp; omega), rfl⟩
theorem h0_pl : Pl h0 0 tab10 := ⟨⟨0, h0_get⟩, rfl⟩
theorem relT {W : World} (t : Tab W) : HRel mT h0 W := by
  obtain ⟨C, ty, hC, hs, hc⟩ := t
  refine ⟨⟨⟨?_, h0_wf⟩, ?_, ?_, ?_⟩, fun p ty n hp => by cases hp⟩
  · intro p c f k hp
    by_cases q : p = 0
    · subst q; rw [h0_get] at hp; cases hp; rfl
    · rw [h0_none q] at hp; cases hp
  · intro p loc hp
    obtain ⟨rfl, rfl⟩ := mT_some hp
    refine ⟨_, h0_get, fun _ => ⟨C, ty, (0, 0), hC, by simp only []; omega, by decide, fun i v hi => ?_, fun i _ => by simp⟩⟩
    obtain ⟨n, hn, rfl⟩ := tab10_get hi
    exact ⟨_, by rw [Nat.zero_add]; exact hc i n hn, rfl⟩
  · intro p loc hp
    obtain ⟨rfl, rfl⟩ := mT_some hp
    exact (Array.getElem?_eq_some_iff.1 hC).1
  · intro p q lp lq hp hq _ hne
    exact absurd ((mT_some hp).1.trans (mT_some hq).1.symm) hne
end Lay
end Go.Ev
