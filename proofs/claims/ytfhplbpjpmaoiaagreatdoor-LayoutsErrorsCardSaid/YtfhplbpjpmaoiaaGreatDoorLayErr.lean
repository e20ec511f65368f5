/- The function LayoutsErrors returns true at every input, and each argument reads behind the call as it read before; the table of math/bits that it reads is tied to the program text (the tied card). The walk: an evaluator of the program, proved sound for every order of evaluation and every capacity that the runtime may choose (the texts Ev), and contracts of the program functions proved over it (the texts Lay). -/
import Derived.Deep.Strs
import Derived.Test.YtfhplbpjpmaoiaaGreatDoorLayS
import Derived.Test.YtfhplbpjpmaoiaaGreatDoorLaySee
set_option linter.unusedSimpArgs false
set_option linter.unusedVariables false
set_option linter.constructorNameAsVariable false
/- LayoutsErrors: the row, and the card. -/
namespace Go.Proofs.YtfhplbpjpmaoiaaGreatDoor
open Go.ChangeShapes Go.WideShapes Go.ChangeAt Go.WideMaps Go.WideElems Go.RowKit Go.Deep
open Go.Ev.Lay (Tab tab64 Came uc)
theorem c28 : Tryz.prog.cellsOf 28 = 3 := by kernel_rfl
theorem c85 : Tryz.prog.cellsOf 85 = 3 := by kernel_rfl
theorem c2 : Tryz.prog.cellsOf 2 = 1 := by kernel_rfl
theorem c3 : Tryz.prog.cellsOf 3 = 1 := by kernel_rfl
theorem c4 : Tryz.prog.cellsOf 4 = 1 := by kernel_rfl
theorem agg_three {cs : Array Value} (h : cs.size = 3) : ∃ x y z, cs = #[x, y, z] := by
  obtain ⟨l⟩ := cs
  match l, h with
  | [x, y, z], _ => exact ⟨x, y, z, rfl⟩
set_option maxRecDepth 100000 in
theorem err_lifted (os : Os) (started : os.Started) (H : Type) (enc : TypeId × Value → H) :
    ReturnsInHanded {} Tryz.checked os 6 .any (fun w args => (Rows.layoutsErrorsSpec.pre enc Tryz.prog Tryz.f6 [] false w args ∧ laidMetH Tryz.prog laid1 w) ∧ sizedMet enc Tryz.prog Tryz.f6 (OpenSpec.ofChange Rows.layoutsErrorsSpec) false w args)
      (Rows.layoutsErrorsSpec.post enc Tryz.prog Tryz.f6 false true false false) := by
  refine returnsInHanded_of_change_and (C := Tryz.checked) (X := fun w _ => laidMetH Tryz.prog laid1 w) (fun _ _ _ hh h => h.of_heap hh) own started (by kernel_rfl) Tryz.func6
    (ChangeSpec.witness_shaped (enc := enc) (C := Tryz.checked) (os := os) (X := fun w _ => laidMetH Tryz.prog laid1 w) false (World.doorLaid Tryz.prog 400 os) #[.agg #[.slice none 0 0], .agg #[.int .i64 0, .int .i64 0, .bool false], .agg #[.int .i64 0, .int .i64 0, .bool false]] 8 rfl (World.shaped_of_RefB (by kernel_rfl) (by kernel_rfl)) (by kernel_rfl) (by kernel_rfl) (by kernel_rfl) (door_met os _)) ?_
  intro W base args ds gs before hval0 hW _ _ hL _
  have hval : ∀ (j : Nat) t v, Tryz.f6.params[j]? = some t → args[j]? = some v → Value.okWide Tryz.prog W .any base t v := hval0
  have hW' := hW
  obtain ⟨p, q, hA0, hV, rfl, hfz, hnd⟩ := hW
  have hA : DataW.TrodAll enc Tryz.prog W 0 (fun _ => true) true Tryz.f6.params.toList args.toList ds p := hA0
  rw [Tryz.params6] at hA hval
  obtain ⟨v0, v1, v2, d0, d1, d2, p0, p1, p2, rfl, rfl, rfl, t0, t1, t2⟩ := trodAll_three hA
  obtain ⟨rfl, rfl⟩ := trodVars_none hV
  obtain ⟨cs0, rfl, hs0⟩ := okWide_struct Tryz.underlying50 (hval 0 50 v0 rfl rfl)
  rw [c50] at hs0
  obtain ⟨x, rfl⟩ := agg_one hs0
  obtain ⟨cs1, rfl, hs1⟩ := okWide_struct Tryz.underlying28 (hval 1 28 v1 rfl rfl)
  obtain ⟨cs2, rfl, hs2⟩ := okWide_struct Tryz.underlying85 (hval 2 85 v2 rfl rfl)
  rw [c28] at hs1
  rw [c85] at hs2
  obtain ⟨u0, u1, u2, rfl⟩ := agg_three hs1
  obtain ⟨w0, w1, w2, rfl⟩ := agg_three hs2
  have k0 := t0
  have k1 := t1
  have k2 := t2
  obtain ⟨fu0, hf0⟩ := t0
  obtain ⟨y0, n0, hx0, _, hy0⟩ := trod_struct1 Tryz.underlying50 hf0
  rw [c48] at hy0
  have hy : DataW.trod enc Tryz.prog W 0 (fun _ => true) true n0 48 [x] = some y0 := hy0
  have ep0 : p0 = y0.2 := by simpa using (Prod.mk.inj hx0).2
  obtain ⟨ps, cm, hps⟩ := came hy (fun b off hm => hfz b off (by rw [← ep0] at hm; simp [hm]))
  obtain ⟨fu1, hf1⟩ := t1
  obtain ⟨ya, yb, yc, na, _, _, ha, hb, hc⟩ := trod_struct3 Tryz.underlying28 hf1
  obtain ⟨view, e0, _⟩ := DataW.trod_int Tryz.underlying2 ha
  obtain ⟨over, e1, _⟩ := DataW.trod_int Tryz.underlying3 hb
  obtain ⟨lo, e2, _⟩ := DataW.trod_bool Tryz.underlying4 hc
  simp only [c2, c3, c4] at e0 e1 e2
  have eu0 : u0 = .int .i64 view := by have : [u0] = [.int .i64 view] := e0; simpa using this
  have eu1 : u1 = .int .i64 over := by have : [u1] = [.int .i64 over] := e1; simpa using this
  have eu2 : u2 = .bool lo := by have : [u2] = [.bool lo] := e2; simpa using this
  subst eu0 eu1 eu2
  obtain ⟨fu2, hf2⟩ := t2
  obtain ⟨ya', yb', yc', na', _, _, ha', hb', hc'⟩ := trod_struct3 Tryz.underlying85 hf2
  obtain ⟨anchor, d0', _, wa⟩ := DataW.trod_int Tryz.underlying3 ha'
  obtain ⟨delta, d1', _⟩ := DataW.trod_int Tryz.underlying2 hb'
  obtain ⟨me, d2', _⟩ := DataW.trod_bool Tryz.underlying4 hc'
  simp only [c2, c3, c4] at d0' d1' d2'
  have ew0 : w0 = .int .i64 anchor := by have : [w0] = [.int .i64 anchor] := d0'; simpa using this
  have ew1 : w1 = .int .i64 delta := by have : [w1] = [.int .i64 delta] := d1'; simpa using this
  have ew2 : w2 = .bool me := by have : [w2] = [.bool me] := d2'; simpa using this
  subst ew0 ew1 ew2
  have bs := bounds_i64 wa
  have hlt := hW'.lt
  refine (Ev.Lay.Err_calls (of_laid hL) cm hps bs.1 bs.2).mono fun e W' ⟨he, hB⟩ => ?_
  subst he
  refine ⟨_, rfl, _, _, _, [], p0 ++ (p1 ++ p2), [], by simpa using hW', ?_, ?_, ?_, hB.frame _, fun h => by cases h⟩
  · exact trodAll_mk1 (shut_bool Tryz.underlying4 true)
  · exact trodAll_mk3 (Below.trod laidOut (by kernel_rfl) (of_decide_eq_true (by kernel_rfl)) k0 hB (fun y hy => hlt y (by simp [hy]))) (Below.trod laidOut (by kernel_rfl) (of_decide_eq_true (by kernel_rfl)) k1 hB (fun y hy => hlt y (by simp [hy]))) (Below.trod laidOut (by kernel_rfl) (of_decide_eq_true (by kernel_rfl)) k2 hB (fun y hy => hlt y (by simp [hy])))
  · rfl
theorem err_holds : Rows.LayoutsErrorsSaid :=
  OpenClaim.holds_of_wide 6 Tryz.f6 rfl rfl rfl rfl rfl rfl rfl ⟨rfl, rfl, rfl, rfl, rfl⟩ rfl rfl rfl rfl rfl (by kernel_rfl) Tryz.func6 (by kernel_rfl)
    (of_decide_eq_true (by kernel_rfl)) (by unfold Func.isWrapper; rw [if_neg (of_decide_eq_false (by kernel_rfl))]; exact ⟨rfl, rfl⟩)
    (fun os started H enc _ => err_lifted os started H enc)
theorem err_card : Rows.LayoutsErrorsCardSaid :=
  Claim7.holds_tied_plain_at .later [] [.data] true (true, "df1959a2318382bb92074abfa2bc69c74d18cf94375fe3b24e4ccf490c945f91") false
    err_holds (fun _ h => by cases h) (by kernel_rfl) (fun _ h => by cases h) layoutsErrors_row_tie rfl ⟨rfl, rfl⟩ (by kernel_rfl) rfl
    (fun f fn hf hfn => by
      obtain rfl : f = 6 := Option.some.inj ((show Tryz.prog.funcNamed "paternoster/paternosterlaw34.LayoutsErrors" = some 6 by kernel_rfl).symm.trans hf) |>.symm
      obtain rfl : fn = Tryz.f6 := (Option.some.inj (Tryz.func6.symm.trans hfn)).symm
      exact ⟨by kernel_rfl, fun j t ht => by
        rw [Tryz.params6] at ht
        have h3 : t = 50 ∨ t = 28 ∨ t = 85 := by
          rcases j with _ | _ | _ | j
          · left; simpa using ht.symm
          · right; left; simpa using ht.symm
          · right; right; simpa using ht.symm
          · simp at ht
        rcases h3 with rfl | rfl | rfl
        · exact (show Tryz.prog.wantsStandIn 50 = false by kernel_rfl)
        · exact (show Tryz.prog.wantsStandIn 28 = false by kernel_rfl)
        · exact (show Tryz.prog.wantsStandIn 85 = false by kernel_rfl)⟩)
    (by kernel_rfl)
end Go.Proofs.YtfhplbpjpmaoiaaGreatDoor
