/- SnapshotsMeets: what meets a viewport is told for all numbers, as the definition says; nothing that was there is changed. No condition beyond the row. -/
import Derived.Laws.IdiomArrays
import Derived.Test.YthhhghfnhbocnaaGreatDoorCards
import Derived.SevenTiedAt
import Derived.Test.YthhhghfnhbocnaaGreatDoorP16
import Derived.Test.YthhhghfnhbocnaaGreatDoorP20
import Derived.Test.YthhhghfnhbocnaaGreatDoorP23
import Derived.Test.YthhhghfnhbocnaaGreatDoorP24
set_option linter.unusedSimpArgs false
set_option linter.unusedVariables false
set_option linter.constructorNameAsVariable false
set_option linter.unnecessarySimpa false
namespace Go.Proofs.YthhhghfnhbocnaaGreatDoor
open Go.ChangeShapes Go.WideShapes Go.ChangeAt Go.WideMaps Go.WideElems Go.RowKit Go.Deep
theorem c2 : Tryz.prog.cellsOf 2 = 1 := by kernel_rfl
theorem c22 : Tryz.prog.cellsOf 22 = 4 := by kernel_rfl
theorem okWide_array {P : Program} {W : World} {r : Reach} {b0 : Nat} {k e : TypeId} {n : Nat} {v : Value} (hu : P.underlying k = some (.array n e)) (h : Value.okWide P W r b0 k v) : ∃ xs : Array Value, v = .agg xs ∧ xs.size = P.cellsOf k := by
  simp only [Value.okWide, hu] at h
  obtain ⟨cs, h1, h2, _⟩ := h
  exact ⟨cs, h1, h2⟩
theorem agg_four {cs : Array Value} (h : cs.size = 4) : ∃ a b c d, cs = #[a, b, c, d] := by
  obtain ⟨l⟩ := cs
  match l, h with
  | [a, b, c, d], _ => exact ⟨a, b, c, d, rfl⟩
theorem door_met (os : Os) (args : Array Value) : laidMetH Tryz.prog laid1 ((World.doorLaid Tryz.prog 400 os).forCall (fun _ _ => 0) ⟨#[], args, []⟩).memory :=
  laidMetH_of_parts3 (fuel := 8) (laidMet_of_run' 8 (by kernel_rfl) (by kernel_rfl)) (by kernel_rfl) (by kernel_rfl)
set_option maxRecDepth 100000 in
theorem meets_lifted (os : Os) (started : os.Started) (H : Type) (enc : TypeId × Value → H) :
    ReturnsInHanded {} Tryz.checked os 3 .any (fun w args => (Rows.snapshotsMeetsSpec.pre enc Tryz.prog Tryz.f3 [] false w args ∧ laidMetH Tryz.prog laid1 w) ∧ sizedMet enc Tryz.prog Tryz.f3 (OpenSpec.ofChange Rows.snapshotsMeetsSpec) false w args)
      (Rows.snapshotsMeetsSpec.post enc Tryz.prog Tryz.f3 false true false false) := by
  refine returnsInHanded_of_change_and (C := Tryz.checked) (X := fun w _ => laidMetH Tryz.prog laid1 w) (fun _ _ _ hh h => h.of_heap hh) own started (by kernel_rfl) Tryz.func3
    (ChangeSpec.witness_shaped (enc := enc) (C := Tryz.checked) (os := os) (X := fun w _ => laidMetH Tryz.prog laid1 w) false (World.doorLaid Tryz.prog 400 os) #[.agg #[.int .i64 0, .int .i64 0, .int .i64 0, .int .i64 0]] 8 rfl (World.shaped_of_RefB (by kernel_rfl) (by kernel_rfl)) (by kernel_rfl) (by kernel_rfl) (by kernel_rfl) (door_met os _)) ?_
  intro W base args ds gs before hval0 hW _ _ hL _
  have hval : ∀ (j : Nat) t v, Tryz.f3.params[j]? = some t → args[j]? = some v → Value.okWide Tryz.prog W .any base t v := hval0
  have hW' := hW
  obtain ⟨p, q, hA0, hV, rfl, hfz, hnd⟩ := hW
  have hA : DataW.TrodAll enc Tryz.prog W 0 (fun _ => true) true Tryz.f3.params.toList args.toList ds p := hA0
  rw [Tryz.params3] at hA hval
  obtain ⟨v0, d0, rfl, rfl, t0⟩ := trodAll_one hA
  obtain ⟨rfl, rfl⟩ := trodVars_none hV
  obtain ⟨cs0, rfl, hs0⟩ := okWide_array Tryz.underlying22 (hval 0 22 v0 rfl rfl)
  rw [c22] at hs0
  obtain ⟨xa, xb, xc, xd, rfl⟩ := agg_four hs0
  have k0 := t0
  obtain ⟨fu0, hf0⟩ := t0
  obtain ⟨y0, y1, y2, y3, n, _, h0, h1, h2, h3⟩ := trod_array4 Tryz.underlying22 c2 (show DataW.trod enc Tryz.prog W 0 (fun _ => true) true fu0 22 [xa, xb, xc, xd] = some (d0, p) from hf0)
  obtain ⟨a, ea, _, wa⟩ := DataW.trod_int Tryz.underlying2 h0
  obtain ⟨b, eb, _, wb⟩ := DataW.trod_int Tryz.underlying2 h1
  obtain ⟨c, ec, _, wc⟩ := DataW.trod_int Tryz.underlying2 h2
  obtain ⟨d, ed, _, wd⟩ := DataW.trod_int Tryz.underlying2 h3
  obtain rfl : xa = .int .i64 a := by simpa using ea
  obtain rfl : xb = .int .i64 b := by simpa using eb
  obtain rfl : xc = .int .i64 c := by simpa using ec
  obtain rfl : xd = .int .i64 d := by simpa using ed
  simp only [List.append_nil] at hW'
  have hlt := hW'.lt
  refine (Ev.Lay.meets_calls (of_laid hL) (bounds_i64 wa) (bounds_i64 wb) (bounds_i64 wc) (bounds_i64 wd)).mono fun e W' ⟨he, hB⟩ => ?_
  subst he
  refine ⟨_, rfl, _, _, _, [], p, [], by simpa using hW', ?_, ?_, ?_, hB.frame _, fun h => by cases h⟩
  · exact trodAll_mk1 (shut_bool Tryz.underlying4 true)
  · exact trodAll_mk1 (Below.trod laidOut (by kernel_rfl) (of_decide_eq_true (by kernel_rfl)) k0 hB (fun y hy => hlt y (by simp [hy])))
  · rfl
theorem meets_holds : Rows.SnapshotsMeetsSaid :=
  OpenClaim.holds_of_wide 3 Tryz.f3 rfl rfl rfl rfl rfl rfl rfl ⟨rfl, rfl, rfl, rfl, rfl⟩ rfl rfl rfl rfl rfl ji Tryz.func3 jh
    (of_decide_eq_true (by kernel_rfl)) jj
    (fun os started H enc _ => meets_lifted os started H enc)
theorem meets_card : Rows.SnapshotsMeetsCardSaid :=
  Claim7.holds_tied_plain_at .later [] [.data, .data, .data] true (true, "945ccd373a565ad676907d0c06803ff84c55f22ba87e273e86ee60155b68577d") true
    meets_holds (fun _ h => by cases h) pa (fun _ h => by cases h) snapshotsMeets_row_tie rfl ⟨rfl, rfl⟩ pb rfl
    (fun f fn hf hfn => by
      obtain rfl : f = 3 := Option.some.inj (pc.symm.trans hf) |>.symm
      obtain rfl : fn = Tryz.f3 := (Option.some.inj (Tryz.func3.symm.trans hfn)).symm
      exact ⟨pd, fun j t ht => by
        rw [Tryz.params3] at ht
        have h3 : t = 22 := by
          rcases j with _ | j
          · simpa using ht.symm
          · simp at ht
        subst h3
        exact pe0⟩)
    pg
end Go.Proofs.YthhhghfnhbocnaaGreatDoor
