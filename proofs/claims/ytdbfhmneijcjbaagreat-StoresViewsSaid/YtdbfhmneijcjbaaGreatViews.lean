/- StoresViews returns true whatever the input: for every list that the definition draws, every index and every key. -/
import Derived.Test.YtdbfhmneijcjbaaGreatP13
import Derived.Test.YtdbfhmneijcjbaaGreatP16
set_option linter.unusedSimpArgs false
set_option linter.unusedVariables false
set_option linter.constructorNameAsVariable false
set_option linter.unnecessarySimpa false
open Go.RowKit
namespace Go.Ev.Lay
open Go.Proofs.YtdbfhmneijcjbaaGreat (gq4 gb8)
theorem qK {α : Type} {g : α → List lV} {f : α → List V} (e : ∀ a, (g a).map cV = f a) (L : List α) : (L.flatMap g).map cV = L.flatMap f := by
  rw [List.map_flatMap]
  exact congrArg (fun F => L.flatMap F) (funext e)
theorem CI {α : Type} {l : List α} (h : l.length = 2) : ∃ a b, l = [a, b] := by
  match l, h with
  | [a, b], _ => exact ⟨a, b, rfl⟩
theorem views_calls {W : World} {x y : Value} {k key : Nat} {z : Int} {L : List (Nat × Nat × Nat × Nat)} {M : List Nat} (hk : k < 256) (hkey : key < 18446744073709551616) (cx : tp W x 4 L.length (L.flatMap gq4)) (hL : ∀ q ∈ L, q.1 < 256 ∧ q.2.1 < 256 ∧ q.2.2.1 < 256 ∧ q.2.2.2 < 256)
    (cy : tp W y 1 M.length (M.flatMap gb8)) (hM : ∀ n ∈ M, n < 256) :
    Calls Go.Proofs.Tryz.prog 6 #[.agg #[x, y, .int .u8 (k : Int)], .int .i64 z, .int .u64 (key : Int)] W fun e W' => e = .returned (.bool true) ∧ Below W.heap.size W W' := by
  obtain ⟨vs, Ms, Cs, l1, l2, l3, r1, r2, r3, r4⟩ := Ek (W := W) [(x, 4, L.length, L.flatMap gq4), (y, 1, M.length, M.flatMap gb8)] 2 (by simp [cx, cy])
  obtain ⟨v0, v1, rfl⟩ := CI l1
  have hlen : Ms.length = Cs.length := by rw [l2, l3]
  have H : HRel (mS Ms) (hS Cs) W := HO hlen r2
  have hG : Glob KP 0 (mS Ms) := by
    refine ⟨fun g hg => absurd hg (Nat.not_lt_zero g), fun p loc g hp hlp => ?_⟩
    obtain ⟨i, rfl, h⟩ := jk hp
    have hi := (List.getElem?_eq_some_iff.1 h).1
    rw [(r2 i loc _ h (List.getElem?_eq_getElem (by omega))).1] at hlp; cases hlp
  have rr := r1 (mS Ms) (fun i loc h => GP h)
  have ss := r3 (hS Cs) (fun i c h => EE h)
  have a0 : ARecs q4 4 (hS Cs) v0 L := by have := ss 0 v0 _ rfl rfl; rw [qK (f := q4) fun _ => rfl] at this; exact this
  have a1 : ARecs b8 1 (hS Cs) v1 M := by have := ss 1 v1 _ rfl rfl; rw [qK (f := b8) fun _ => rfl] at this; exact this
  obtain ⟨u, h', e, rfl, F⟩ := nm (i := z) ED a0 hL a1 hM hk hkey
  obtain ⟨_, SS⟩ := (HU _ _ _ _ _ e).1 (by decide)
  obtain ⟨_, e0, q0⟩ := rr 0 v0 rfl
  obtain ⟨_, e1, q1⟩ := rr 1 v1 rfl
  cases e0; cases e1
  have rel : VsRel (mS Ms) [.agg [v0, v1, .int .u8 (k : Int)], .int .i64 z, .int .u64 (key : Int)] [.agg #[x, y, .int .u8 (k : Int)], .int .i64 z, .int .u64 (key : Int)] :=
    ⟨_, _, rfl, ⟨[x, y, .int .u8 (k : Int)], rfl, x, [y, .int .u8 (k : Int)], rfl, q0, y, [.int .u8 (k : Int)], rfl, q1, _, [], rfl, rfl, rfl⟩, _, _, rfl, rfl, _, _, rfl, rfl, rfl⟩
  refine (SS (mS Ms) W _ rel H hG).1.mono ?_
  rintro e' W' ⟨yv, m', he, ry, H', E⟩
  have : yv = .bool true := ry
  subst this
  refine ⟨he, wE H H' E fun p loc hp' => ?_⟩
  obtain ⟨i, rfl, h1⟩ := jk hp'
  have hi := (List.getElem?_eq_some_iff.1 h1).1
  obtain ⟨c', hc'⟩ : ∃ c', Cs[i]? = some c' := ⟨_, List.getElem?_eq_getElem (by omega)⟩
  have rs := EE hc'
  exact ⟨c', .inr rs, .inr (F.ro _ _ rs), (r2 i loc c' h1 hc').2.1, r4 c' (List.mem_of_getElem? hc')⟩
end Go.Ev.Lay
namespace Go.Proofs.YtdbfhmneijcjbaaGreat
open Go.ChangeShapes Go.WideShapes Go.ChangeAt Go.WideMaps Go.WideElems Go.RowKit Go.Deep
open Go.Ev (tp lV cX)
set_option maxRecDepth 100000 in
theorem rJ (os : Os) (started : os.Started) (H : Type) (enc : TypeId × Value → H) :
    ReturnsInHanded {} Tryz.checked os 6 .any (Rows.storesViewsSpec.pre6 enc Tryz.prog Tryz.f6 [] false)
      (Rows.storesViewsSpec.post enc Tryz.prog Tryz.f6 false true false false) := by
  refine returnsInHanded_of_change (C := Tryz.checked) own started (by kernel_rfl) Tryz.func6
    (ChangeSpec.witness6 (enc := enc) (C := Tryz.checked) false ⟨#[], #[.agg #[.slice none 0 0, .slice none 0 0, .int .u8 0], .int .i64 0, .int .u64 0], []⟩ 8 (by kernel_rfl) (by kernel_rfl) (by kernel_rfl) (by kernel_rfl)) ?_
  intro W base args ds gs before hval0 hW _ _
  have hval : ∀ (j : Nat) t v, Tryz.f6.params[j]? = some t → args[j]? = some v → Value.okWide Tryz.prog W .any base t v := hval0
  have hW' := hW
  obtain ⟨p, q, hA0, hV, rfl, hfz, hnd⟩ := hW
  have hA : DataW.TrodAll enc Tryz.prog W 0 (fun _ => true) true Tryz.f6.params.toList args.toList ds p := hA0
  rw [Tryz.params6] at hA hval
  obtain ⟨v0, v1, v2, d0, d1, d2, p0, p1, p2, rfl, rfl, rfl, t0, t1, t2⟩ := trodAll_three hA
  obtain ⟨rfl, rfl⟩ := trodVars_none hV
  obtain ⟨cs0, rfl, hs0⟩ := okWide_struct Tryz.underlying60 (hval 0 60 v0 rfl rfl)
  rw [c60] at hs0
  obtain ⟨xa, xb, xc, rfl⟩ := zL hs0
  obtain ⟨z, rfl⟩ := okWide_int Tryz.underlying3 (hval 1 3 v1 rfl rfl)
  obtain ⟨y, rfl⟩ := okWide_int Tryz.underlying38 (hval 2 38 v2 rfl rfl)
  have k0 := t0
  have k1 := t1
  have k2 := t2
  obtain ⟨fu0, hf0⟩ := t0
  obtain ⟨u, v, k, L, M, ec, hk, cx, hL, cy, hM⟩ := Hq hf0 (fun b off hm => hfz b off (by simp [hm]))
  have ec' : [xa, xb, xc] = [u, v, .int .u8 (k : Int)] := ec
  simp only [List.cons.injEq, and_true] at ec'
  obtain ⟨rfl, rfl, rfl⟩ := ec'
  obtain ⟨fu2, hf2⟩ := t2
  obtain ⟨ky, e2, _, w2⟩ := DataW.trod_int Tryz.underlying38 (show DataW.trod enc Tryz.prog W 0 (fun _ => true) true fu2 38 [.int .u64 y] = some (d2, p2) from hf2)
  have b2 := bounds_u64 w2
  obtain rfl : y = ky := by simpa using e2
  obtain ⟨key, rfl⟩ : ∃ n : Nat, y = n := ⟨y.toNat, by omega⟩
  simp only [List.append_nil] at hW'
  have hlt := hW'.lt
  refine (Ev.Lay.views_calls hk (by omega) cx hL cy hM).mono fun e W' ⟨he, hB⟩ => ?_
  subst he
  refine ⟨_, rfl, _, _, _, [], p0 ++ (p1 ++ p2), [], hW', ?_, ?_, ?_, hB.frame _, fun h => by cases h⟩
  · exact trodAll_mk1 (shut_bool Tryz.underlying4 true)
  · exact trodAll_mk3 (Below.trod sq (by kernel_rfl) (of_decide_eq_true (by kernel_rfl)) k0 hB (fun y hy => hlt y (by simp [hy]))) (Below.trod sq (by kernel_rfl) (of_decide_eq_true (by kernel_rfl)) k1 hB (fun y hy => hlt y (by simp [hy]))) (Below.trod sq (by kernel_rfl) (of_decide_eq_true (by kernel_rfl)) k2 hB (fun y hy => hlt y (by simp [hy])))
  · rfl
theorem ja : laidOutB Tryz.pinned.checked.prog = true := by kernel_rfl
theorem jb : mapsRowed Tryz.pinned.checked.prog = true := by kernel_rfl
theorem jc : Program.stopsHeard Tryz.pinned.checked.prog = true := by kernel_rfl
theorem jd : Program.mayEnter Tryz.pinned.checked.prog = true := by kernel_rfl
theorem je : Program.unfollowed Tryz.pinned.checked.prog 6 = true := by kernel_rfl
theorem jf : Program.recurses Tryz.pinned.checked.prog 6 = true := by kernel_rfl
theorem jg : Program.varsNamed Tryz.pinned.checked.prog 6 = [] := by kernel_rfl
theorem jh : joinedFacts Tryz.pinned.checked.prog 6 Tryz.f6 Rows.storesViewsSpec Rows.storesViewsRow = true := by
  unfold joinedFacts
  rw [ja, jb, jc, jd, je, jf, jg]
  kernel_rfl
theorem ji : Tryz.pinned.checked.prog.funcNamed Rows.storesViewsRow.func = some 6 := by kernel_rfl
theorem jj : Tryz.f6.isWrapper Tryz.pinned.checked.prog Rows.storesViewsRow.wrapper Rows.storesViewsRow.mainSum := by
  unfold Func.isWrapper; rw [if_neg (of_decide_eq_false (by kernel_rfl))]; exact ⟨rfl, rfl⟩
theorem views_holds : Rows.StoresViewsSaid :=
  OpenClaim.holds_of_wide 6 Tryz.f6 rfl rfl rfl rfl rfl rfl rfl ⟨rfl, rfl, rfl, rfl, rfl⟩ rfl rfl rfl rfl rfl ji Tryz.func6 jh
    (of_decide_eq_true (by kernel_rfl)) jj
    (fun os started H enc _ => rJ os started H enc)
end Go.Proofs.YtdbfhmneijcjbaaGreat
