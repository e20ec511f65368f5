/- An evaluator of the program, and contracts over it: TrRw to TrRw. -/
import Derived.Test.YthhhghfnhbocnaaGreatDoorRows
import Derived.ProofKit
import Derived.LaidMore
import Derived.OpenShut
import Derived.Stop.Joined
import Derived.Deep.Slices
import Derived.Deep.Strs
import Derived.Carry
import Derived.Test.YthhhghfnhbocnaaGreatDoorQSy
import Derived.Test.YthhhghfnhbocnaaGreatDoorQLo
set_option linter.unusedSimpArgs false
set_option linter.unusedVariables false
set_option linter.constructorNameAsVariable false
set_option linter.unnecessarySimpa false
namespace Go.Proofs.YthhhghfnhbocnaaGreatDoor
open Go.ChangeShapes Go.WideShapes Go.ChangeAt Go.WideMaps Go.WideElems Go.RowKit Go.Deep
open Go.Ev.Lay (Tab tabN)
theorem own : ownKnob Tryz.prog.godebug = none := by kernel_rfl
theorem gTab : Tryz.prog.globalNamed "internal/strconv.uint64pow10" = some 0 := by kernel_rfl
theorem tTab : (Tryz.prog.globals[0]?).map (·.type) = some 238 := by kernel_rfl
theorem c24 : Tryz.prog.cellsOf 24 = 1 := by kernel_rfl
theorem c238 : Tryz.prog.cellsOf 238 = 20 := by kernel_rfl
abbrev laid1 : List (String × DataW Unit) := [("internal/strconv.uint64pow10", Rows.laid_internal_strconv_uint64pow10), ("math/bits.deBruijn32tab", Rows.laid_math_bits_deBruijn32tab), ("math/bits.deBruijn64tab", Rows.laid_math_bits_deBruijn64tab)]
theorem laid_tab {H : Type} : (Rows.laid_internal_strconv_uint64pow10 : DataW H) = .agg (tabN.map fun (n : Nat) => .lit (.int .u64 (n : Int))) := rfl
theorem take_one {α : Type} {l : List α} {i : Nat} {v : α} (h : (l.drop i).take 1 = [v]) : l[i]? = some v := by
  have : ((l.drop i).take 1)[0]? = some v := by rw [h]; rfl
  rw [List.getElem?_take, if_pos (by omega), List.getElem?_drop] at this
  simpa using this
theorem of_laid {W : World} (h : laidMetH Tryz.prog laid1 W) : Tab W := by
  rw [MakeChecks.laidMetH_plain _ _ _ (by kernel_rfl)] at h
  obtain ⟨ps, ⟨g0, t0, cs0, f0, p0, q0, hg0, ht0, hv0, hd0, ⟨g1, t1, cs1, f1, p1, q1, hg1, ht1, hv1, hd1, ⟨g2, t2, cs2, f2, p2, q2, hg2, ht2, hv2, hd2, hrest, hps2⟩, hps1⟩, hps0⟩, _, hcl⟩ := h
  obtain rfl := Option.some.inj (gTab.symm.trans hg0)
  obtain rfl := Option.some.inj (tTab.symm.trans ht0)
  obtain ⟨xs, m1, rfl, hx, hlen, hn, hel⟩ := DataW.trod_array Tryz.underlying238 hd0
  rw [c238] at hlen
  rw [c24] at hel
  have hsz : cs0.size = 20 := by simpa using hlen
  obtain ⟨⟨C, ty, hC⟩, _⟩ := hcl 0 0 (by rw [hps0, hsz]; simp [MemPlace.row])
  have eC : C = cs0 := by
    unfold World.var? at hv0
    rw [gTab] at hv0
    simp only [Option.bind_some, hC] at hv0
    exact Option.some.inj hv0
  subst eC
  refine ⟨C, ty, hC, hsz, fun i n hi => ?_⟩
  have hi20 : i < 20 := (List.getElem?_eq_some_iff.1 hi).1
  have hxi : xs[i]? = some (xs[i]'(by omega)) := List.getElem?_eq_getElem _
  have he := hel i hi20
  rw [hxi] at he
  obtain ⟨k, e1, e2, _⟩ := DataW.trod_int Tryz.underlying24 he
  simp only [Prod.mk.injEq] at hx
  have hx1 := hx.1
  rw [laid_tab] at hx1
  have hx2 : (tabN.map fun (n : Nat) => (DataW.lit (.int .u64 (n : Int)) : DataW Unit)) = xs.map (·.1) := DataW.agg.inj hx1
  have hx3 := congrArg (fun l => l[i]?) hx2
  simp only [List.getElem?_map, hi, hxi, Option.map_some, Option.some.injEq, e2] at hx3
  have hk : k = n := by cases hx3; rfl
  subst hk
  rw [Nat.mul_one] at e1
  have := take_one e1
  simpa using this
end Go.Proofs.YthhhghfnhbocnaaGreatDoor
