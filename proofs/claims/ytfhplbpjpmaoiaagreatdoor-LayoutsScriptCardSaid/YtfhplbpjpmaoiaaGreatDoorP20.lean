/- An evaluator of the program and contracts proved over it: the texts LayRw. -/
import Derived.Test.YtfhplbpjpmaoiaaGreatDoorRows
import Derived.ProofKit
import Derived.LaidMore
import Derived.OpenShut
import Derived.Stop.Joined
import Derived.Deep.Slices
import Derived.Carry
import Derived.Test.YtfhplbpjpmaoiaaGreatDoorP19
set_option linter.unusedSimpArgs false
set_option linter.unusedVariables false
set_option linter.constructorNameAsVariable false
/- LayoutsSee: the row, and the card. -/
namespace Go.Proofs.YtfhplbpjpmaoiaaGreatDoor
open Go.ChangeShapes Go.WideShapes Go.ChangeAt Go.WideMaps Go.WideElems Go.RowKit Go.Deep
open Go.Ev.Lay (Tab tab64 Came uc)
theorem own : ownKnob Tryz.prog.godebug = none := by kernel_rfl
theorem laidOut : laidOutB Tryz.prog = true := by kernel_rfl
theorem gTab : Tryz.prog.globalNamed "math/bits.deBruijn64tab" = some 0 := by kernel_rfl
theorem tTab : (Tryz.prog.globals[0]?).map (·.type) = some 158 := by kernel_rfl
theorem c5 : Tryz.prog.cellsOf 5 = 1 := by kernel_rfl
theorem c158 : Tryz.prog.cellsOf 158 = 64 := by kernel_rfl
theorem c50 : Tryz.prog.cellsOf 50 = 1 := by kernel_rfl
theorem c48 : Tryz.prog.cellsOf 48 = 1 := by kernel_rfl
theorem c73 : Tryz.prog.cellsOf 73 = 2 := by kernel_rfl
abbrev laid1 : List (String × DataW Unit) := [("math/bits.deBruijn64tab", Rows.laid_math_bits_deBruijn64tab)]
theorem laid_tab {H : Type} : (Rows.laid_math_bits_deBruijn64tab : DataW H) = .agg (tab64.map fun (n : Nat) => .lit (.int .u8 (n : Int))) := rfl
theorem take_one {α : Type} {l : List α} {i : Nat} {v : α} (h : (l.drop i).take 1 = [v]) : l[i]? = some v := by
  have : ((l.drop i).take 1)[0]? = some v := by rw [h]; rfl
  rw [List.getElem?_take, if_pos (by omega), List.getElem?_drop] at this
  simpa using this
theorem of_laid {W : World} (h : laidMetH Tryz.prog laid1 W) : Tab W := by
  rw [MakeChecks.laidMetH_plain _ _ _ (by kernel_rfl)] at h
  obtain ⟨ps, ⟨g0, t0, cs0, f0, p0, q0, hg0, ht0, hv0, hd0, hrest, hps⟩, _, hcl⟩ := h
  obtain rfl := Option.some.inj (gTab.symm.trans hg0)
  obtain rfl := Option.some.inj (tTab.symm.trans ht0)
  obtain ⟨xs, m1, rfl, hx, hlen, hn, hel⟩ := DataW.trod_array Tryz.underlying158 hd0
  rw [c158] at hlen
  rw [c5] at hel
  have hsz : cs0.size = 64 := by simpa using hlen
  obtain ⟨⟨C, ty, hC⟩, _⟩ := hcl 0 0 (by rw [hps, hsz]; simp [MemPlace.row])
  have eC : C = cs0 := by
    unfold World.var? at hv0
    rw [gTab] at hv0
    simp only [Option.bind_some, hC] at hv0
    exact Option.some.inj hv0
  subst eC
  refine ⟨C, ty, hC, hsz, fun i n hi => ?_⟩
  have hi64 : i < 64 := (List.getElem?_eq_some_iff.1 hi).1
  have hxi : xs[i]? = some (xs[i]'(by omega)) := List.getElem?_eq_getElem _
  have he := hel i hi64
  rw [hxi] at he
  obtain ⟨k, e1, e2, _⟩ := DataW.trod_int Tryz.underlying5 he
  simp only [Prod.mk.injEq] at hx
  have hx1 := hx.1
  rw [laid_tab] at hx1
  have hx2 : (tab64.map fun (n : Nat) => (DataW.lit (.int .u8 (n : Int)) : DataW Unit)) = xs.map (·.1) := DataW.agg.inj hx1
  have hx3 := congrArg (fun l => l[i]?) hx2
  simp only [List.getElem?_map, hi, hxi, Option.map_some, Option.some.injEq, e2] at hx3
  have hk : k = n := by cases hx3; rfl
  subst hk
  rw [Nat.mul_one] at e1
  have := take_one e1
  simpa using this
theorem flat_uc : ∀ (ps : List (Nat × Nat)) (i : Nat) (v : Ev.V), (ps.flatMap uc)[i]? = some v → ∃ p, ps[i / 2]? = some p ∧ v = .int .u8 ((if i % 2 = 0 then p.1 else p.2 : Nat) : Int)
  | [], i, v, h => by simp at h
  | p :: ps, i, v, h => by
    rw [List.flatMap_cons] at h
    match i, h with
    | 0, h => simp [uc] at h; exact ⟨p, rfl, by simp [← h]⟩
    | 1, h => simp [uc] at h; exact ⟨p, rfl, by simp [← h]⟩
    | i + 2, h =>
      rw [List.getElem?_append_right (by simp [uc])] at h
      obtain ⟨q, h1, h2⟩ := flat_uc ps i v (by simpa [uc] using h)
      refine ⟨q, ?_, ?_⟩
      · rw [show (i + 2) / 2 = i / 2 + 1 by omega]; simpa using h1
      · rw [show (i + 2) % 2 = i % 2 by omega]; exact h2
end Go.Proofs.YtfhplbpjpmaoiaaGreatDoor
