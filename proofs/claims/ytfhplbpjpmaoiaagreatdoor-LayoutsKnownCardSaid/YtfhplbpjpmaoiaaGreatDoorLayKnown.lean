/- The function LayoutsKnown (it takes nothing) returns true, and changes nothing that was there; the table of math/bits that it reads is tied to the program text (the tied card). The walk: an evaluator of the program, proved sound for every order of evaluation and every capacity that the runtime may choose (the texts Ev), and contracts of the program functions proved over it (the texts Lay). -/
import Derived.Test.YtfhplbpjpmaoiaaGreatDoorCards
import Derived.Test.YtfhplbpjpmaoiaaGreatDoorTie
import Derived.SevenTiedAt
import Derived.Test.YtfhplbpjpmaoiaaGreatDoorLayU
import Derived.Test.YtfhplbpjpmaoiaaGreatDoorLayP
set_option linter.unusedSimpArgs false
set_option linter.unusedVariables false
set_option linter.constructorNameAsVariable false
/- LayoutsKnown: called in a world; the row, and the card. -/
namespace Go.Ev.Lay
open Go.RowKit
theorem Known_calls {W : World} (t : Tab W) : Calls Go.Proofs.Tryz.prog 3 #[] W fun e W' => e = .returned (.bool true) ∧ Below W.heap.size W W' := by
  obtain ⟨u, h', e, rfl, F⟩ := Known_ok h0_wf h0_glb Nat.zero_lt_one
  obtain ⟨_, S⟩ := goOK _ _ _ _ _ e
  refine (S mA W [] rfl (relA t) globA).mono fun e W' ⟨y, m', he, ry, H', E⟩ => ?_
  have : y = .bool true := ry
  subst this
  refine ⟨he, below_of (relA t) H' E fun p loc hp => ?_⟩
  obtain ⟨rfl, rfl⟩ := mA_some hp
  exact ⟨tabc, h0_glb.own, F _ _ Nat.zero_lt_one (u8_noflc tabc_u8) h0_glb.own, tabc_len, fun v hv => by obtain ⟨n, hn⟩ := tabc_u8 v hv; exact ⟨_, n, hn⟩⟩
end Go.Ev.Lay
namespace Go.Proofs.YtfhplbpjpmaoiaaGreatDoor
open Go.ChangeShapes Go.WideShapes Go.ChangeAt Go.WideMaps Go.WideElems Go.RowKit Go.Deep
open Go.Ev.Lay (Tab tab64)
theorem door_met_k (os : Os) (args : Array Value) : laidMetH Tryz.prog laid1 ((World.doorLaid Tryz.prog 400 os).forCall (fun _ _ => 0) ⟨#[], args, []⟩).memory :=
  laidMetH_of_parts3 (fuel := 8) (laidMet_of_run' 8 (by kernel_rfl) (by kernel_rfl)) (by kernel_rfl) (by kernel_rfl)
set_option maxRecDepth 100000 in
theorem known_lifted (os : Os) (started : os.Started) (H : Type) (enc : TypeId × Value → H) :
    ReturnsInHanded {} Tryz.checked os 3 .any (fun w args => (Rows.layoutsKnownSpec.pre enc Tryz.prog Tryz.f3 [] false w args ∧ laidMetH Tryz.prog laid1 w) ∧ sizedMet enc Tryz.prog Tryz.f3 (OpenSpec.ofChange Rows.layoutsKnownSpec) false w args)
      (Rows.layoutsKnownSpec.post enc Tryz.prog Tryz.f3 false true false false) := by
  refine returnsInHanded_of_change_and (C := Tryz.checked) (X := fun w _ => laidMetH Tryz.prog laid1 w) (fun _ _ _ hh h => h.of_heap hh) own started (by kernel_rfl) Tryz.func3
    (ChangeSpec.witness_shaped (enc := enc) (C := Tryz.checked) (os := os) (X := fun w _ => laidMetH Tryz.prog laid1 w) false (World.doorLaid Tryz.prog 400 os) #[] 8 rfl (World.shaped_of_RefB (by kernel_rfl) (by kernel_rfl)) (by kernel_rfl) (by kernel_rfl) (by kernel_rfl) (door_met_k os _)) ?_
  intro W base args ds gs before hval0 hW _ _ hL _
  have hW' := hW
  obtain ⟨p, q, hA0, hV, rfl, hfz, hnd⟩ := hW
  have hA : DataW.TrodAll enc Tryz.prog W 0 (fun _ => true) true Tryz.f3.params.toList args.toList ds p := hA0
  rw [Tryz.params3] at hA
  obtain ⟨rfl, rfl, rfl⟩ := trodAll_none hA
  obtain ⟨rfl, rfl⟩ := trodVars_none hV
  refine (Ev.Lay.Known_calls (of_laid hL)).mono fun e W' ⟨he, hB⟩ => ?_
  subst he
  refine ⟨_, rfl, _, _, _, [], [], [], hW', ?_, ?_, ?_, hB.frame _, fun h => by cases h⟩
  · exact trodAll_mk1 (shut_bool Tryz.underlying4 true)
  · exact trodAll_mk0
  · rfl
theorem known_holds : Rows.LayoutsKnownSaid :=
  OpenClaim.holds_of_wide 3 Tryz.f3 rfl rfl rfl rfl rfl rfl rfl ⟨rfl, rfl, rfl, rfl, rfl⟩ rfl rfl rfl rfl rfl (by kernel_rfl) Tryz.func3 (by kernel_rfl)
    (of_decide_eq_true (by kernel_rfl)) (by unfold Func.isWrapper; rw [if_neg (of_decide_eq_false (by kernel_rfl))]; exact ⟨rfl, rfl⟩)
    (fun os started H enc _ => known_lifted os started H enc)
theorem known_card : Rows.LayoutsKnownCardSaid :=
  Claim7.holds_tied_plain_at .later [] [.data] true (true, "df1959a2318382bb92074abfa2bc69c74d18cf94375fe3b24e4ccf490c945f91") false
    known_holds (fun _ h => by cases h) (by kernel_rfl) (fun _ h => by cases h) layoutsKnown_row_tie rfl ⟨rfl, rfl⟩ (by kernel_rfl) rfl
    (fun f fn hf hfn => by
      obtain rfl : f = 3 := Option.some.inj ((show Tryz.prog.funcNamed "paternoster/paternosterlaw34.LayoutsKnown" = some 3 by kernel_rfl).symm.trans hf) |>.symm
      obtain rfl : fn = Tryz.f3 := (Option.some.inj (Tryz.func3.symm.trans hfn)).symm
      exact ⟨by kernel_rfl, fun j t ht => by
        rw [Tryz.params3] at ht
        simp at ht⟩)
    (by kernel_rfl)
end Go.Proofs.YtfhplbpjpmaoiaaGreatDoor
