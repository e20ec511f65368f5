/- An evaluator of the program, and contracts over it: SmSy to SmSy. -/
import Derived.Test.YthhhghfnhbocnaaGreatDoorP09
import Derived.Test.YthhhghfnhbocnaaGreatDoorP12
set_option linter.unusedSimpArgs false
set_option linter.unusedVariables false
set_option linter.constructorNameAsVariable false
set_option linter.unnecessarySimpa false
open Go.RowKit
namespace Go.Ev
namespace Lay
def tabN : List Nat := [1, 10, 100, 1000, 10000, 100000, 1000000, 10000000, 100000000, 1000000000, 10000000000, 100000000000, 1000000000000, 10000000000000, 100000000000000, 1000000000000000, 10000000000000000, 100000000000000000, 1000000000000000000, 10000000000000000000]
/-- the package's variable -/
def Tab (W : World) : Prop := ∃ C t, W.heap[0]? = some (.cells C t (0, 0)) ∧ C.size = 20 ∧ ∀ (i : Nat) n, tabN[i]? = some n → C[i]? = some (.int .u64 (n : Int))
theorem tab10_get {i : Nat} {v : V} (h : tab10[i]? = some v) : ∃ n, tabN[i]? = some n ∧ v = .int .u64 (n : Int) := by
  have e : tab10 = tabN.map fun (n : Nat) => V.int .u64 (n : Int) := rfl
  rw [e, List.getElem?_map] at h
  cases hn : tabN[i]? with
  | none => rw [hn] at h; cases h
  | some n => rw [hn] at h; cases h; exact ⟨n, rfl, rfl⟩
noncomputable def mT : M := fun p => if p = 0 then some ⟨0, 0, 20, none⟩ else none
theorem mT_some {p : Nat} {loc : Loc} (h : mT p = some loc) : p = 0 ∧ loc = ⟨0, 0, 20, none⟩ := by
  unfold mT at h
  by_cases c : p = 0
  · rw [if_pos c] at h; cases h; exact ⟨c, rfl⟩
  · rw [if_neg c] at h; cases h
theorem h0_get : h0.bl.get 0 = some (.row tab10 0 0) := by unfold h0; rw [T.get_set_self]
theorem h0_none {p : Nat} (hp : p ≠ 0) : h0.bl.get p = none := by unfold h0; rw [T.get_set_ne _ _ hp]; rfl
theorem h0_wf : WF h0 := fun p hp => ⟨h0_none (by have : 1 ≤ p := hp; omega), rfl⟩
theorem h0_pl : Pl h0 0 tab10 := ⟨⟨0, h0_get⟩, rfl⟩
theorem relT {W : World} (t : Tab W) : HRel mT h0 W := by
  obtain ⟨C, ty, hC, hs, hc⟩ := t
  refine ⟨⟨⟨?_, h0_wf⟩, ?_, ?_, ?_⟩, fun p ty n hp => by cases hp⟩
  · intro p c f k hp
    by_cases q : p = 0
    · subst q; rw [h0_get] at hp; cases hp; rfl
    · rw [h0_none q] at hp; cases hp
  · intro p loc hp
    obtain ⟨rfl, rfl⟩ := mT_some hp
    refine ⟨_, h0_get, fun _ => ⟨C, ty, (0, 0), hC, by simp only []; omega, by decide, fun i v hi => ?_, fun i _ => by simp⟩⟩
    obtain ⟨n, hn, rfl⟩ := tab10_get hi
    exact ⟨_, by rw [Nat.zero_add]; exact hc i n hn, rfl⟩
  · intro p loc hp
    obtain ⟨rfl, rfl⟩ := mT_some hp
    exact (Array.getElem?_eq_some_iff.1 hC).1
  · intro p q lp lq hp hq _ hne
    exact absurd ((mT_some hp).1.trans (mT_some hq).1.symm) hne
theorem meets_calls {W : World} (T : Tab W) {a b c d : Int} (ha : I64 a) (hb : I64 b) (hc : I64 c) (hd : I64 d) :
    Calls Go.Proofs.Tryz.prog 3 #[.agg #[.int .i64 a, .int .i64 b, .int .i64 c, .int .i64 d]] W fun e W' => e = .returned (.bool true) ∧ Below W.heap.size W W' := by
  have H := relT T
  have hG : Glob KP 1 mT := by
    refine ⟨fun g hg => ⟨20, by have : g = 0 := (by omega); subst this; rfl⟩, fun p loc g hp hlp => ?_⟩
    obtain ⟨rfl, rfl⟩ := mT_some hp
    cases hlp
  obtain ⟨u, h', e, rfl, F⟩ := snapshotsMeets_ok h0_wf h0_pl ha hb hc hd
  obtain ⟨_, SS⟩ := (goOK _ _ _ _ _ e).1 (by decide)
  have rel : VsRel mT [.agg [.int .i64 a, .int .i64 b, .int .i64 c, .int .i64 d]] [.agg #[.int .i64 a, .int .i64 b, .int .i64 c, .int .i64 d]] :=
    ⟨_, _, rfl, ⟨[.int .i64 a, .int .i64 b, .int .i64 c, .int .i64 d], rfl, _, _, rfl, rfl, _, _, rfl, rfl, _, _, rfl, rfl, _, _, rfl, rfl, rfl⟩, rfl⟩
  refine (SS mT W _ rel H hG).1.mono ?_
  rintro e' W' ⟨yv, m', he, ry, H', E⟩
  have : yv = .bool true := ry
  subst this
  refine ⟨he, below_ints H H' E fun p loc hp' => ?_⟩
  obtain ⟨rfl, rfl⟩ := mT_some hp'
  refine ⟨tab10, .inl h0_pl.own, .inl (F.pl 0 tab10 (by simp) h0_pl).own, rfl, fun v hv => ?_⟩
  obtain ⟨i, hi, hv⟩ := List.getElem_of_mem hv
  obtain ⟨n, _, e⟩ := tab10_get (i := i) (v := v) (by rw [← hv]; exact List.getElem?_eq_getElem hi)
  exact ⟨_, _, e⟩
end Lay
end Go.Ev
