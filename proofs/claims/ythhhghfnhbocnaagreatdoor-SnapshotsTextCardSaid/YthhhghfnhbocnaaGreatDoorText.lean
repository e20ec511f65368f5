/- SnapshotsText: the text of a slice is that of the definition; a head without Pinned, and trees that are none, are refused. No condition beyond the row. -/
import Derived.Laws.IdiomArrays
import Derived.Test.YthhhghfnhbocnaaGreatDoorCards
import Derived.SevenTiedAt
import Derived.Test.YthhhghfnhbocnaaGreatDoorQTl
import Derived.Test.YthhhghfnhbocnaaGreatDoorQRw
import Derived.Test.YthhhghfnhbocnaaGreatDoorQTi
import Derived.Test.YthhhghfnhbocnaaGreatDoorQSj
import Derived.Test.YthhhghfnhbocnaaGreatDoorQSd
set_option linter.unusedSimpArgs false
set_option linter.unusedVariables false
set_option linter.constructorNameAsVariable false
set_option linter.unnecessarySimpa false
namespace Go.Proofs.YthhhghfnhbocnaaGreatDoor
open Go.ChangeShapes Go.WideShapes Go.ChangeAt Go.WideMaps Go.WideElems Go.RowKit Go.Deep
open Go.Ev (TU HasR V)
open Go.Ev.Lay (Dt DtH R64)
theorem arr_list {cs : Array Value} : ∃ l : List Value, cs = l.toArray := ⟨cs.toList, by simp⟩
theorem door_met (os : Os) (args : Array Value) : laidMetH Tryz.prog laid1 ((World.doorLaid Tryz.prog 400 os).forCall (fun _ _ => 0) ⟨#[], args, []⟩).memory :=
  laidMetH_of_parts3 (fuel := 8) (laidMet_of_run' 8 (by kernel_rfl) (by kernel_rfl)) (by kernel_rfl) (by kernel_rfl)
set_option maxRecDepth 100000 in
theorem text_lifted (os : Os) (started : os.Started) (H : Type) (enc : TypeId × Value → H) :
    ReturnsInHanded {} Tryz.checked os 4 .any (fun w args => (Rows.snapshotsTextSpec.pre enc Tryz.prog Tryz.f4 [] false w args ∧ laidMetH Tryz.prog laid1 w) ∧ sizedMet enc Tryz.prog Tryz.f4 (OpenSpec.ofChange Rows.snapshotsTextSpec) false w args)
      (Rows.snapshotsTextSpec.post enc Tryz.prog Tryz.f4 false true false false) := by
  refine returnsInHanded_of_change_and (C := Tryz.checked) (X := fun w _ => laidMetH Tryz.prog laid1 w) (fun _ _ _ hh h => h.of_heap hh) own started (by kernel_rfl) Tryz.func4
    (ChangeSpec.witness_shaped (enc := enc) (C := Tryz.checked) (os := os) (X := fun w _ => laidMetH Tryz.prog laid1 w) false (World.doorLaid Tryz.prog 400 os) #[.agg #[.int .i64 0, .slice none 0 0, .slice none 0 0], .int .u8 0] 8 rfl (World.shaped_of_RefB (by kernel_rfl) (by kernel_rfl)) (by kernel_rfl) (by kernel_rfl) (by kernel_rfl) (door_met os _)) ?_
  intro W base args ds gs before hval0 hW _ hsz hL _
  have hval : ∀ (j : Nat) t v, Tryz.f4.params[j]? = some t → args[j]? = some v → Value.okWide Tryz.prog W .any base t v := hval0
  have hW' := hW
  obtain ⟨p, q, hA0, hV, rfl, hfz, hnd⟩ := hW
  have hA : DataW.TrodAll enc Tryz.prog W 0 (fun _ => true) true Tryz.f4.params.toList args.toList ds p := hA0
  have hsz' : (DataW.weightsEach Tryz.prog (Tryz.f4.params.toList ++ []) (ds ++ gs)).all (· ≤ reachBytes) = true := hsz
  rw [Tryz.params4] at hA hval hsz'
  obtain ⟨v0, v1, d0, d1, p0, p1, rfl, rfl, rfl, t0, t1⟩ := trodAll_two hA
  obtain ⟨rfl, rfl⟩ := trodVars_none hV
  obtain ⟨cs0, rfl, hs0⟩ := okWide_struct Tryz.underlying32 (hval 0 32 v0 rfl rfl)
  obtain ⟨xs, rfl⟩ := @arr_list cs0
  have k0 := t0
  have k1 := t1
  have ws : ∀ w ∈ d0.weights Tryz.prog 32 ++ d1.weights Tryz.prog 5, w ≤ reachBytes := fun w m => by
    have := List.all_eq_true.1 hsz' w (by simp only [List.append_nil, DataW.weightsEach, List.mem_append] at m ⊢; simpa using m)
    simpa using this
  obtain ⟨fu0, hf0⟩ := t0
  obtain ⟨x, Ms, Cs, lx, T, r, ho⟩ := tellT (p := 2) (show DataW.trod enc Tryz.prog W 0 (fun _ => true) true fu0 32 xs = some (d0, p0) from hf0) (fun b off hm => hfz b off (by simp [hm])) (fun w m => ws w (by simp [m]))
  obtain ⟨z0, rfl, _, _, wz⟩ := open_int Tryz.underlying5 (hval 1 5 v1 rfl rfl) t1
  have bz := bounds_u8 wz
  obtain ⟨z, rfl⟩ : ∃ n : Nat, z0 = n := ⟨z0.toNat, by omega⟩
  have hz : z < 256 := by omega
  simp only [List.append_nil] at hW'
  have hlt := hW'.lt
  refine (Ev.Lay.text_calls (of_laid hL) T (fun h _ hr => r h hr) hz ho).mono fun e W' ⟨he, hB⟩ => ?_
  subst he
  refine ⟨_, rfl, _, _, _, [], p0 ++ p1, [], hW', ?_, ?_, ?_, hB.frame _, fun h => by cases h⟩
  · exact trodAll_mk1 (shut_bool Tryz.underlying4 true)
  · exact trodAll_mk2 (Below.trod laidOut (by kernel_rfl) (of_decide_eq_true (by kernel_rfl)) k0 hB (fun y hy => hlt y (by simp [hy]))) (Below.trod laidOut (by kernel_rfl) (of_decide_eq_true (by kernel_rfl)) k1 hB (fun y hy => hlt y (by simp [hy])))
  · rfl
theorem text_holds : Rows.SnapshotsTextSaid :=
  OpenClaim.holds_of_wide 4 Tryz.f4 rfl rfl rfl rfl rfl rfl rfl ⟨rfl, rfl, rfl, rfl, rfl⟩ rfl rfl rfl rfl rfl ji Tryz.func4 jh
    (of_decide_eq_true (by kernel_rfl)) jj
    (fun os started H enc _ => text_lifted os started H enc)
theorem text_card : Rows.SnapshotsTextCardSaid :=
  Claim7.holds_tied_plain_at .later [] [.data, .data, .data] true (true, "945ccd373a565ad676907d0c06803ff84c55f22ba87e273e86ee60155b68577d") true
    text_holds (fun _ h => by cases h) pa (fun _ h => by cases h) snapshotsText_row_tie rfl ⟨rfl, rfl⟩ pb rfl
    (fun f fn hf hfn => by
      obtain rfl : f = 4 := Option.some.inj (pc.symm.trans hf) |>.symm
      obtain rfl : fn = Tryz.f4 := (Option.some.inj (Tryz.func4.symm.trans hfn)).symm
      exact ⟨pd, fun j t ht => by
        rw [Tryz.params4] at ht
        have h3 : t = 32 ∨ t = 5 := by
          rcases j with _ | _ | j
          · left; simpa using ht.symm
          · right; simpa using ht.symm
          · simp at ht
        rcases h3 with rfl | rfl
        · exact pe0
        · exact pe1⟩)
    pg
end Go.Proofs.YthhhghfnhbocnaaGreatDoor
