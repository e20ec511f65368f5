/- SnapshotsDiffer: two snapshots that differ in one place are told apart, and where, as the definition says. No condition beyond the row. -/
import Derived.Laws.IdiomArrays
import Derived.Test.YthhhghfnhbocnaaGreatDoorCards
import Derived.SevenTiedAt
import Derived.Test.YthhhghfnhbocnaaGreatDoorQTl
import Derived.Test.YthhhghfnhbocnaaGreatDoorQRw
import Derived.Test.YthhhghfnhbocnaaGreatDoorQTi
import Derived.Test.YthhhghfnhbocnaaGreatDoorQSj
import Derived.Test.YthhhghfnhbocnaaGreatDoorQSd
set_option linter.unusedSimpArgs false
set_option linter.unusedVariables false
set_option linter.constructorNameAsVariable false
set_option linter.unnecessarySimpa false
namespace Go.Proofs.YthhhghfnhbocnaaGreatDoor
open Go.ChangeShapes Go.WideShapes Go.ChangeAt Go.WideMaps Go.WideElems Go.RowKit Go.Deep
open Go.Ev (TU HasR V)
open Go.Ev.Lay (Dt Dw DtH DwH R64)
theorem arr_list {cs : Array Value} : ∃ l : List Value, cs = l.toArray := ⟨cs.toList, by simp⟩
theorem door_met (os : Os) (args : Array Value) : laidMetH Tryz.prog laid1 ((World.doorLaid Tryz.prog 400 os).forCall (fun _ _ => 0) ⟨#[], args, []⟩).memory :=
  laidMetH_of_parts3 (fuel := 8) (laidMet_of_run' 8 (by kernel_rfl) (by kernel_rfl)) (by kernel_rfl) (by kernel_rfl)
theorem three_list {l : List Value} (h : l.length = 3) : ∃ a b c, l = [a, b, c] := by
  match l, h with
  | [a, b, c], _ => exact ⟨a, b, c, rfl⟩
section
variable {H : Type} {enc : TypeId × Value → H} {W : World}
theorem el3 (n : Nat) (cs : List Value) (y : DataW H × List MemPlace) (h : DataW.trod enc Tryz.prog W 0 (fun _ => true) true n 50 cs = some y) : ∃ a b c : Nat, a < 256 ∧ b < 256 ∧ c < 256 ∧ cs = [.int .u8 (a : Int), .int .u8 (b : Int), .int .u8 (c : Int)] := by
  obtain ⟨xs, m1, rfl, _, hlen, hn, he⟩ := DataW.trod_array Tryz.underlying50 h
  rw [s50] at hlen
  rw [s5] at he
  have get : ∀ i, i < 3 → ∃ k : Nat, k < 256 ∧ cs[i]? = some (.int .u8 (k : Int)) := by
    intro i hi
    have hx : xs[i]? = some (xs[i]'(by omega)) := List.getElem?_eq_getElem _
    obtain ⟨k0, e0, _, w0⟩ := DataW.trod_int Tryz.underlying5 ((he i hi).trans hx)
    have b0 := bounds_u8 w0
    obtain ⟨kk, rfl⟩ : ∃ n : Nat, k0 = n := ⟨k0.toNat, by omega⟩
    rw [Nat.mul_one] at e0
    exact ⟨kk, by omega, take_one e0⟩
  obtain ⟨a, ha, ea⟩ := get 0 (by omega)
  obtain ⟨b, hb, eb⟩ := get 1 (by omega)
  obtain ⟨c, hc, ec⟩ := get 2 (by omega)
  refine ⟨a, b, c, ha, hb, hc, ?_⟩
  obtain ⟨v0, v1, v2, rfl⟩ := three_list hlen
  obtain rfl : v0 = _ := by simpa using ea
  obtain rfl : v1 = _ := by simpa using eb
  obtain rfl : v2 = _ := by simpa using ec
  rfl
end
set_option maxRecDepth 100000 in
theorem differ_lifted (os : Os) (started : os.Started) (H : Type) (enc : TypeId × Value → H) :
    ReturnsInHanded {} Tryz.checked os 5 .any (fun w args => (Rows.snapshotsDifferSpec.pre enc Tryz.prog Tryz.f5 [] false w args ∧ laidMetH Tryz.prog laid1 w) ∧ sizedMet enc Tryz.prog Tryz.f5 (OpenSpec.ofChange Rows.snapshotsDifferSpec) false w args)
      (Rows.snapshotsDifferSpec.post enc Tryz.prog Tryz.f5 false true false false) := by
  refine returnsInHanded_of_change_and (C := Tryz.checked) (X := fun w _ => laidMetH Tryz.prog laid1 w) (fun _ _ _ hh h => h.of_heap hh) own started (by kernel_rfl) Tryz.func5
    (ChangeSpec.witness_shaped (enc := enc) (C := Tryz.checked) (os := os) (X := fun w _ => laidMetH Tryz.prog laid1 w) false (World.doorLaid Tryz.prog 400 os) #[.agg #[.int .i64 0, .slice none 0 0, .slice none 0 0], .agg #[.int .u8 0, .int .u8 0, .int .u8 0], .agg #[.int .u64 0, .int .i64 0, .int .i64 0, .int .u8 0, .int .u8 0, .slice none 0 0]] 8 rfl (World.shaped_of_RefB (by kernel_rfl) (by kernel_rfl)) (by kernel_rfl) (by kernel_rfl) (by kernel_rfl) (door_met os _)) ?_
  intro W base args ds gs before hval0 hW _ hsz hL _
  have hval : ∀ (j : Nat) t v, Tryz.f5.params[j]? = some t → args[j]? = some v → Value.okWide Tryz.prog W .any base t v := hval0
  have hW' := hW
  obtain ⟨p, q, hA0, hV, rfl, hfz, hnd⟩ := hW
  have hA : DataW.TrodAll enc Tryz.prog W 0 (fun _ => true) true Tryz.f5.params.toList args.toList ds p := hA0
  have hsz' : (DataW.weightsEach Tryz.prog (Tryz.f5.params.toList ++ []) (ds ++ gs)).all (· ≤ reachBytes) = true := hsz
  rw [Tryz.params5] at hA hval hsz'
  obtain ⟨v0, v1, v2, d0, d1, d2, p0, p1, p2, rfl, rfl, rfl, t0, t1, t2⟩ := trodAll_three hA
  obtain ⟨rfl, rfl⟩ := trodVars_none hV
  obtain ⟨cs0, rfl, hs0⟩ := okWide_struct Tryz.underlying32 (hval 0 32 v0 rfl rfl)
  have hv1 := hval 1 50 v1 rfl rfl
  simp only [Value.okWide, Tryz.underlying50] at hv1
  obtain ⟨cs1, rfl, hs1, _⟩ := hv1
  obtain ⟨cs2, rfl, hs2⟩ := okWide_struct Tryz.underlying55 (hval 2 55 v2 rfl rfl)
  obtain ⟨xs, rfl⟩ := @arr_list cs0
  obtain ⟨zs, rfl⟩ := @arr_list cs1
  obtain ⟨ys, rfl⟩ := @arr_list cs2
  have k0 := t0
  have k1 := t1
  have k2 := t2
  have ws : ∀ w ∈ d0.weights Tryz.prog 32 ++ (d1.weights Tryz.prog 50 ++ d2.weights Tryz.prog 55), w ≤ reachBytes := fun w m => by
    have := List.all_eq_true.1 hsz' w (by simp only [List.append_nil, DataW.weightsEach, List.mem_append] at m ⊢; simpa using m)
    simpa using this
  obtain ⟨fu0, hf0⟩ := t0
  obtain ⟨x, Ms, Cs, lx, T, r, ho⟩ := tellT (p := 2) (show DataW.trod enc Tryz.prog W 0 (fun _ => true) true fu0 32 xs = some (d0, p0) from hf0) (fun b off hm => hfz b off (by simp [hm])) (fun w m => ws w (by simp [m]))
  obtain ⟨fu1, hf1⟩ := t1
  obtain ⟨z0, z1, z2, hz0, hz1, hz2, ez⟩ := el3 fu1 zs (d1, p1) hf1
  subst ez
  obtain ⟨fu2, hf2⟩ := t2
  obtain ⟨o, Ms', Cs', T', r', _⟩ := elW fu2 ys (d2, p2) hf2 (fun b off hm => hfz b off (by simp [hm])) (fun w m => ws w (by simp [m])) (2 + Ms.length)
  simp only [List.append_nil] at hW'
  have hlt := hW'.lt
  refine (Ev.Lay.differ_calls (of_laid hL) (T.app T') lx (fun h _ hr => ⟨r h hr.left, r' h (by rw [T.l]; exact hr.right)⟩) hz1 ho).mono fun e W' ⟨he, hB⟩ => ?_
  subst he
  refine ⟨_, rfl, _, _, _, [], p0 ++ (p1 ++ p2), [], hW', ?_, ?_, ?_, hB.frame _, fun h => by cases h⟩
  · exact trodAll_mk1 (shut_bool Tryz.underlying4 true)
  · exact trodAll_mk3 (Below.trod laidOut (by kernel_rfl) (of_decide_eq_true (by kernel_rfl)) k0 hB (fun y hy => hlt y (by simp [hy]))) (Below.trod laidOut (by kernel_rfl) (of_decide_eq_true (by kernel_rfl)) k1 hB (fun y hy => hlt y (by simp [hy]))) (Below.trod laidOut (by kernel_rfl) (of_decide_eq_true (by kernel_rfl)) k2 hB (fun y hy => hlt y (by simp [hy])))
  · rfl
theorem differ_holds : Rows.SnapshotsDifferSaid :=
  OpenClaim.holds_of_wide 5 Tryz.f5 rfl rfl rfl rfl rfl rfl rfl ⟨rfl, rfl, rfl, rfl, rfl⟩ rfl rfl rfl rfl rfl ji Tryz.func5 jh
    (of_decide_eq_true (by kernel_rfl)) jj
    (fun os started H enc _ => differ_lifted os started H enc)
theorem differ_card : Rows.SnapshotsDifferCardSaid :=
  Claim7.holds_tied_plain_at .later [] [.data, .data, .data] true (true, "945ccd373a565ad676907d0c06803ff84c55f22ba87e273e86ee60155b68577d") true
    differ_holds (fun _ h => by cases h) pa (fun _ h => by cases h) snapshotsDiffer_row_tie rfl ⟨rfl, rfl⟩ pb rfl
    (fun f fn hf hfn => by
      obtain rfl : f = 5 := Option.some.inj (pc.symm.trans hf) |>.symm
      obtain rfl : fn = Tryz.f5 := (Option.some.inj (Tryz.func5.symm.trans hfn)).symm
      exact ⟨pd, fun j t ht => by
        rw [Tryz.params5] at ht
        have h3 : t = 32 ∨ t = 50 ∨ t = 55 := by
          rcases j with _ | _ | _ | j
          · left; simpa using ht.symm
          · right; left; simpa using ht.symm
          · right; right; simpa using ht.symm
          · simp at ht
        rcases h3 with rfl | rfl | rfl
        · exact pe0
        · exact pe1
        · exact pe2⟩)
    pg
end Go.Proofs.YthhhghfnhbocnaaGreatDoor
