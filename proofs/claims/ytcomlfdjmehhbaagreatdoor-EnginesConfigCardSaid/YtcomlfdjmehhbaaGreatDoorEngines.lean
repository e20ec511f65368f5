/- EnginesConfig: for every configuration of at most 10 Kinds, with templates of at most 80 parts in all, and every event without notices (others: the examples alone) the law answers true, and the input reads as it did; conditions: none beyond the row. -/
import Derived.Test.YtcomlfdjmehhbaaGreatDoorCards
import Derived.Test.YtcomlfdjmehhbaaGreatDoorTie
import Derived.SevenTiedAt
import Derived.Test.YtcomlfdjmehhbaaGreatDoorP20
import Derived.Test.YtcomlfdjmehhbaaGreatDoorP21
set_option linter.unusedSimpArgs false
set_option linter.unusedVariables false
set_option linter.constructorNameAsVariable false
set_option linter.unnecessarySimpa false
namespace Go.Proofs.YtcomlfdjmehhbaaGreatDoor
open Go.ChangeShapes Go.WideShapes Go.ChangeAt Go.WideMaps Go.WideElems Go.RowKit Go.Deep
open Go.Ev (Tell HasR V)
theorem oE {cs : Array Value} : ∃ l : List Value, cs = l.toArray := ⟨cs.toList, by simp⟩
theorem uf (os : Os) (args : Array Value) : laidMetH Tryz.prog qx ((World.doorLaid Tryz.prog 400 os).forCall (fun _ _ => 0) ⟨#[], args, []⟩).memory :=
  laidMetH_of_parts3 (fuel := 8) (laidMet_of_run' 8 (by kernel_rfl) (by kernel_rfl)) (by kernel_rfl) (by kernel_rfl)
set_option maxRecDepth 100000 in
theorem kM (os : Os) (started : os.Started) (H : Type) (enc : TypeId × Value → H) :
    ReturnsInHanded {} Tryz.checked os 3 .any (fun w args => (Rows.enginesConfigSpec.pre enc Tryz.prog Tryz.f3 [] false w args ∧ laidMetH Tryz.prog qx w) ∧ sizedMet enc Tryz.prog Tryz.f3 (OpenSpec.ofChange Rows.enginesConfigSpec) false w args)
      (Rows.enginesConfigSpec.post enc Tryz.prog Tryz.f3 false true false false) := by
  refine returnsInHanded_of_change_and (C := Tryz.checked) (X := fun w _ => laidMetH Tryz.prog qx w) (fun _ _ _ hh h => h.of_heap hh) own started (by kernel_rfl) Tryz.func3
    (ChangeSpec.witness_shaped (enc := enc) (C := Tryz.checked) (os := os) (X := fun w _ => laidMetH Tryz.prog qx w) false (World.doorLaid Tryz.prog 400 os) #[.agg #[.int .i64 0, .int .i64 0, .int .i64 0, .slice none 0 0, .int .i64 0, .int .i64 0, .int .u8 0], .agg #[.int .u8 0, .int .i64 0, .int .u64 0, .slice none 0 0, .slice none 0 0]] 8 rfl (World.shaped_of_RefB (by kernel_rfl) (by kernel_rfl)) (by kernel_rfl) (by kernel_rfl) (by kernel_rfl) (uf os _)) ?_
  intro W base args ds gs before hval0 hW _ hsz _ _
  have hval : ∀ (j : Nat) t v, Tryz.f3.params[j]? = some t → args[j]? = some v → Value.okWide Tryz.prog W .any base t v := hval0
  have hW' := hW
  obtain ⟨p, q, hA0, hV, rfl, hfz, hnd⟩ := hW
  have hA : DataW.TrodAll enc Tryz.prog W 0 (fun _ => true) true Tryz.f3.params.toList args.toList ds p := hA0
  have hsz' : (DataW.weightsEach Tryz.prog (Tryz.f3.params.toList ++ []) (ds ++ gs)).all (· ≤ reachBytes) = true := hsz
  rw [Tryz.params3] at hA hval hsz'
  obtain ⟨v0, v1, d0, d1, p0, p1, rfl, rfl, rfl, t0, t1⟩ := trodAll_two hA
  obtain ⟨rfl, rfl⟩ := trodVars_none hV
  obtain ⟨cs0, rfl, hs0⟩ := okWide_struct Tryz.underlying24 (hval 0 24 v0 rfl rfl)
  obtain ⟨cs1, rfl, hs1⟩ := okWide_struct Tryz.underlying29 (hval 1 29 v1 rfl rfl)
  obtain ⟨xs, rfl⟩ := @oE cs0
  obtain ⟨ys, rfl⟩ := @oE cs1
  have k0 := t0
  have k1 := t1
  have ws : ∀ w ∈ d0.weights Tryz.prog 24 ++ d1.weights Tryz.prog 29, w ≤ reachBytes := fun w m => by
    have := List.all_eq_true.1 hsz' w (by simp only [List.append_nil, DataW.weightsEach, List.mem_append] at m ⊢; simpa using m)
    simpa using this
  obtain ⟨fu0, hf0⟩ := t0
  obtain ⟨c, Ms, Cs, lx, T, r, hfl⟩ := x8 (p := 2) (show DataW.trod enc Tryz.prog W 0 (fun _ => true) true fu0 24 xs = some (d0, p0) from hf0) (fun b off hm => hfz b off (by simp [hm])) (fun w m => ws w (by simp [m]))
  obtain ⟨fu1, hf1⟩ := t1
  obtain ⟨x0, x1, x2, x3, x4, m, Ms', Cs', T', hm, mm⟩ := xZ (p := 2 + Ms.length) (show DataW.trod enc Tryz.prog W 0 (fun _ => true) true fu1 29 ys = some (d1, p1) from hf1) (fun b off hm => hfz b off (by simp [hm])) (fun w m => ws w (by simp [m]))
  simp only [List.append_nil] at hW'
  have hlt := hW'.lt
  refine (Ev.Lay.config_calls (T.app T') lx hfl (fun h hr => r h hr.left) hm mm).mono fun e W' ⟨he, hB⟩ => ?_
  subst he
  refine ⟨_, rfl, _, _, _, [], p0 ++ p1, [], hW', ?_, ?_, ?_, hB.frame _, fun h => by cases h⟩
  · exact trodAll_mk1 (shut_bool Tryz.underlying4 true)
  · exact trodAll_mk2 (Below.trod qw (by kernel_rfl) (of_decide_eq_true (by kernel_rfl)) k0 hB (fun y hy => hlt y (by simp [hy]))) (Below.trod qw (by kernel_rfl) (of_decide_eq_true (by kernel_rfl)) k1 hB (fun y hy => hlt y (by simp [hy])))
  · rfl
theorem mI : Rows.EnginesConfigSaid :=
  OpenClaim.holds_of_wide 3 Tryz.f3 rfl rfl rfl rfl rfl rfl rfl ⟨rfl, rfl, rfl, rfl, rfl⟩ rfl rfl rfl rfl rfl ji Tryz.func3 jh
    (of_decide_eq_true (by kernel_rfl)) jj
    (fun os started H enc _ => kM os started H enc)
theorem config_card : Rows.EnginesConfigCardSaid :=
  Claim7.holds_tied_plain_at .later [] [.data] true (true, "11e18e4c1f589a097b7e4edec42ba64933a263a220cb5d5e7234dd387d0d563d") false
    mI (fun _ h => by cases h) pa (fun _ h => by cases h) enginesConfig_row_tie rfl ⟨rfl, rfl⟩ pb rfl
    (fun f fn hf hfn => by
      obtain rfl : f = 3 := Option.some.inj (pc.symm.trans hf) |>.symm
      obtain rfl : fn = Tryz.f3 := (Option.some.inj (Tryz.func3.symm.trans hfn)).symm
      exact ⟨pd, fun j t ht => by
        rw [Tryz.params3] at ht
        have h3 : t = 24 ∨ t = 29 := by
          rcases j with _ | _ | j
          · left; simpa using ht.symm
          · right; simpa using ht.symm
          · simp at ht
        rcases h3 with rfl | rfl
        · exact pe
        · exact pf⟩)
    pg
end Go.Proofs.YtcomlfdjmehhbaaGreatDoor
