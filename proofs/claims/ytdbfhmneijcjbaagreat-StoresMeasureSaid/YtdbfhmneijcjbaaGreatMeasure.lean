/- StoresMeasure returns true whatever the input: for every list that the definition draws and every table of heights. -/
import Derived.Test.YtdbfhmneijcjbaaGreatP13
import Derived.Test.YtdbfhmneijcjbaaGreatP16
set_option linter.unusedSimpArgs false
set_option linter.unusedVariables false
set_option linter.constructorNameAsVariable false
open Go.RowKit
namespace Go.Ev.Lay
open Go.Proofs.YtdbfhmneijcjbaaGreat (gq4 gb8)
def ght (x : Nat × Int) : List k7 := [(.u64, (x.1 : Int)), (.i64, x.2)]
theorem lO {α : Type} {g : α → List k7} {f : α → List V} (e : ∀ a, (g a).map cV = f a) (L : List α) : (L.flatMap g).map cV = L.flatMap f := by
  rw [List.map_flatMap]
  exact congrArg (fun F => L.flatMap F) (funext e)
theorem ye {α : Type} {l : List α} (h : l.length = 3) : ∃ a b c, l = [a, b, c] := by
  match l, h with
  | [a, b, c], _ => exact ⟨a, b, c, rfl⟩
theorem meas_calls {W : World} {x y z : Value} {k : Nat} {L : List (Nat × Nat × Nat × Nat)} {M : List Nat} {T : List (Nat × Int)} (hk : k < 256) (cx : pP W x 4 L.length (L.flatMap gq4)) (hL : ∀ q ∈ L, q.1 < 256 ∧ q.2.1 < 256 ∧ q.2.2.1 < 256 ∧ q.2.2.2 < 256)
    (cy : pP W y 1 M.length (M.flatMap gb8)) (hM : ∀ n ∈ M, n < 256) (cz : pP W z 2 T.length (T.flatMap ght)) (hT : ∀ x ∈ T, x.1 < 18446744073709551616 ∧ -9223372036854775808 ≤ x.2 ∧ x.2 ≤ 9223372036854775807) :
    Calls Go.Proofs.Tryz.prog 4 #[.agg #[x, y, .int .u8 (k : Int)], z] W fun e W' => e = .returned (.bool true) ∧ Below W.heap.size W W' := by
  obtain ⟨vs, Ms, Cs, l1, l2, l3, r1, r2, r3, r4⟩ := Ee (W := W) [(x, 4, L.length, L.flatMap gq4), (y, 1, M.length, M.flatMap gb8), (z, 2, T.length, T.flatMap ght)] 2 (by simp [cx, cy, cz])
  obtain ⟨v0, v1, v2, rfl⟩ := ye l1
  have hlen : Ms.length = Cs.length := by rw [l2, l3]
  have H : HRel (mS Ms) (hS Cs) W := HI hlen r2
  have hG : Glob KP 0 (mS Ms) := by
    refine ⟨fun g hg => absurd hg (Nat.not_lt_zero g), fun p loc g hp hlp => ?_⟩
    obtain ⟨i, rfl, h⟩ := jc hp
    have hi := (List.getElem?_eq_some_iff.1 h).1
    rw [(r2 i loc _ h (List.getElem?_eq_getElem (by omega))).1] at hlp; cases hlp
  have rr := r1 (mS Ms) (fun i loc h => GH h)
  have ss := r3 (hS Cs) (fun i c h => Ez h)
  have a0 : ARecs q4 4 (hS Cs) v0 L := by have := ss 0 v0 _ rfl rfl; rw [lO (f := q4) fun _ => rfl] at this; exact this
  have a1 : ARecs b8 1 (hS Cs) v1 M := by have := ss 1 v1 _ rfl rfl; rw [lO (f := b8) fun _ => rfl] at this; exact this
  have a2 : ARecs htC 2 (hS Cs) v2 T := by have := ss 2 v2 _ rfl rfl; rw [lO (f := htC) fun _ => rfl] at this; exact this
  obtain ⟨u, h', e, rfl, F⟩ := lh Ey a0 hL a1 hM hk a2 hT
  obtain ⟨_, SS⟩ := (HN _ _ _ _ _ e).1 (by decide)
  obtain ⟨_, e0, q0⟩ := rr 0 v0 rfl
  obtain ⟨_, e1, q1⟩ := rr 1 v1 rfl
  obtain ⟨_, e2, q2⟩ := rr 2 v2 rfl
  cases e0; cases e1; cases e2
  have rel : VsRel (mS Ms) [.agg [v0, v1, .int .u8 (k : Int)], v2] [.agg #[x, y, .int .u8 (k : Int)], z] :=
    ⟨_, _, rfl, ⟨[x, y, .int .u8 (k : Int)], rfl, x, [y, .int .u8 (k : Int)], rfl, q0, y, [.int .u8 (k : Int)], rfl, q1, _, [], rfl, rfl, rfl⟩, _, _, rfl, q2, rfl⟩
  refine (SS (mS Ms) W _ rel H hG).1.mono ?_
  rintro e' W' ⟨yv, m', he, ry, H', E⟩
  have : yv = .bool true := ry
  subst this
  refine ⟨he, wj H H' E fun p loc hp' => ?_⟩
  obtain ⟨i, rfl, h1⟩ := jc hp'
  have hi := (List.getElem?_eq_some_iff.1 h1).1
  obtain ⟨c', hc'⟩ : ∃ c', Cs[i]? = some c' := ⟨_, List.getElem?_eq_getElem (by omega)⟩
  have rs := Ez hc'
  exact ⟨c', .inr rs, .inr (F.ro _ _ rs), (r2 i loc c' h1 hc').2.1, r4 c' (List.mem_of_getElem? hc')⟩
end Go.Ev.Lay
namespace Go.Proofs.YtdbfhmneijcjbaaGreat
open Go.ChangeShapes Go.WideShapes Go.ChangeAt Go.WideMaps Go.WideElems Go.RowKit Go.Deep
open Go.Ev (pP k7 cX)
open Go.Ev.Lay (ght)
theorem c49 : Tryz.prog.cellsOf 49 = 2 := by kernel_rfl
theorem c38 : Tryz.prog.cellsOf 38 = 1 := by kernel_rfl
theorem c2 : Tryz.prog.cellsOf 2 = 1 := by kernel_rfl
theorem two {α : Type} {l : List α} (h : l.length = 2) : ∃ a b, l = [a, b] := by
  match l, h with
  | [a, b], _ => exact ⟨a, b, rfl⟩
theorem elH {H : Type} {enc : TypeId × Value → H} {W : World} (n : Nat) (cs : List Value) (y : DataW H × List MemPlace) (h : DataW.trod enc Tryz.prog W 0 (fun _ => true) true n 49 cs = some y) :
    ∃ x : Nat × Int, (x.1 < 18446744073709551616 ∧ -9223372036854775808 ≤ x.2 ∧ x.2 ≤ 9223372036854775807) ∧ cs = (ght x).map cX := by
  obtain ⟨y0, y1, n1, _, hl, h0, h1⟩ := trod_struct2 Tryz.underlying49 h
  rw [c49] at hl
  obtain ⟨v0, v1, rfl⟩ := two hl
  have h0' : DataW.trod enc Tryz.prog W 0 (fun _ => true) true n1 38 (([v0, v1].drop 0).take (Tryz.prog.cellsOf 38)) = some y0 := h0
  have h1' : DataW.trod enc Tryz.prog W 0 (fun _ => true) true n1 2 (([v0, v1].drop 1).take (Tryz.prog.cellsOf 2)) = some y1 := h1
  rw [c38] at h0'
  rw [c2] at h1'
  obtain ⟨k0, e0, _, w0⟩ := DataW.trod_int Tryz.underlying38 h0'
  obtain ⟨k1, e1, _, w1⟩ := DataW.trod_int Tryz.underlying2 h1'
  have b0 := bounds_u64 w0
  have b1 := bounds_i64 w1
  obtain ⟨kk, rfl⟩ : ∃ n : Nat, k0 = n := ⟨k0.toNat, by omega⟩
  have e0' : v0 = .int .u64 (kk : Int) := by have : [v0] = [.int .u64 (kk : Int)] := e0; simpa using this
  have e1' : v1 = .int .i64 k1 := by have : [v1] = [.int .i64 k1] := e1; simpa using this
  subst e0' e1'
  exact ⟨(kk, k1), ⟨by simp only []; omega, b1.1, b1.2⟩, rfl⟩
set_option maxRecDepth 100000 in
theorem nW (os : Os) (started : os.Started) (H : Type) (enc : TypeId × Value → H) :
    ReturnsInHanded {} Tryz.checked os 4 .any (Rows.storesMeasureSpec.pre6 enc Tryz.prog Tryz.f4 [] false)
      (Rows.storesMeasureSpec.post enc Tryz.prog Tryz.f4 false true false false) := by
  refine returnsInHanded_of_change (C := Tryz.checked) own started (by kernel_rfl) Tryz.func4
    (ChangeSpec.witness6 (enc := enc) (C := Tryz.checked) false ⟨#[], #[.agg #[.slice none 0 0, .slice none 0 0, .int .u8 0], .slice none 0 0], []⟩ 8 (by kernel_rfl) (by kernel_rfl) (by kernel_rfl) (by kernel_rfl)) ?_
  intro W base args ds gs before hval0 hW _ _
  have hval : ∀ (j : Nat) t v, Tryz.f4.params[j]? = some t → args[j]? = some v → Value.okWide Tryz.prog W .any base t v := hval0
  have hW' := hW
  obtain ⟨p, q, hA0, hV, rfl, hfz, hnd⟩ := hW
  have hA : DataW.TrodAll enc Tryz.prog W 0 (fun _ => true) true Tryz.f4.params.toList args.toList ds p := hA0
  rw [Tryz.params4] at hA hval
  obtain ⟨v0, v1, d0, d1, p0, p1, rfl, rfl, rfl, t0, t1⟩ := trodAll_two hA
  obtain ⟨rfl, rfl⟩ := trodVars_none hV
  obtain ⟨cs0, rfl, hs0⟩ := okWide_struct Tryz.underlying60 (hval 0 60 v0 rfl rfl)
  rw [c60] at hs0
  obtain ⟨xa, xb, xc, rfl⟩ := zy hs0
  obtain ⟨sa, sl, sc, rfl⟩ := okWide_slice Tryz.underlying50 (hval 1 50 v1 rfl rfl)
  have k0 := t0
  have k1 := t1
  obtain ⟨fu0, hf0⟩ := t0
  obtain ⟨u, v, k, L, M, ec, hk, cx, hL, cy, hM⟩ := Hk hf0 (fun b off hm => hfz b off (by simp [hm]))
  have ec' : [xa, xb, xc] = [u, v, .int .u8 (k : Int)] := ec
  simp only [List.cons.injEq, and_true] at ec'
  obtain ⟨rfl, rfl, rfl⟩ := ec'
  obtain ⟨fu1, hf1⟩ := t1
  obtain ⟨T, cz, hT⟩ := BD Tryz.underlying50 c49 (by omega) (fun _ => rfl) elH (show DataW.trod enc Tryz.prog W 0 (fun _ => true) true fu1 50 [.slice sa sl sc] = some (d1, p1) from hf1) (fun b off hm => hfz b off (by simp [hm]))
  simp only [List.append_nil] at hW'
  have hlt := hW'.lt
  refine (Ev.Lay.meas_calls hk cx hL cy hM cz hT).mono fun e W' ⟨he, hB⟩ => ?_
  subst he
  refine ⟨_, rfl, _, _, _, [], p0 ++ p1, [], hW', ?_, ?_, ?_, hB.frame _, fun h => by cases h⟩
  · exact trodAll_mk1 (shut_bool Tryz.underlying4 true)
  · exact trodAll_mk2 (Below.trod wT (by kernel_rfl) (of_decide_eq_true (by kernel_rfl)) k0 hB (fun y hy => hlt y (by simp [hy]))) (Below.trod wT (by kernel_rfl) (of_decide_eq_true (by kernel_rfl)) k1 hB (fun y hy => hlt y (by simp [hy])))
  · rfl
theorem ja : laidOutB Tryz.pinned.checked.prog = true := by kernel_rfl
theorem jb : mapsRowed Tryz.pinned.checked.prog = true := by kernel_rfl
theorem jc : Program.stopsHeard Tryz.pinned.checked.prog = true := by kernel_rfl
theorem jd : Program.mayEnter Tryz.pinned.checked.prog = true := by kernel_rfl
theorem je : Program.unfollowed Tryz.pinned.checked.prog 4 = true := by kernel_rfl
theorem jf : Program.recurses Tryz.pinned.checked.prog 4 = true := by kernel_rfl
theorem jg : Program.varsNamed Tryz.pinned.checked.prog 4 = [] := by kernel_rfl
theorem jh : joinedFacts Tryz.pinned.checked.prog 4 Tryz.f4 Rows.storesMeasureSpec Rows.storesMeasureRow = true := by
  unfold joinedFacts
  rw [ja, jb, jc, jd, je, jf, jg]
  kernel_rfl
theorem ji : Tryz.pinned.checked.prog.funcNamed Rows.storesMeasureRow.func = some 4 := by kernel_rfl
theorem jj : Tryz.f4.isWrapper Tryz.pinned.checked.prog Rows.storesMeasureRow.wrapper Rows.storesMeasureRow.mainSum := by
  unfold Func.isWrapper; rw [if_neg (of_decide_eq_false (by kernel_rfl))]; exact ⟨rfl, rfl⟩
theorem measure_holds : Rows.StoresMeasureSaid :=
  OpenClaim.holds_of_wide 4 Tryz.f4 rfl rfl rfl rfl rfl rfl rfl ⟨rfl, rfl, rfl, rfl, rfl⟩ rfl rfl rfl rfl rfl ji Tryz.func4 jh
    (of_decide_eq_true (by kernel_rfl)) jj
    (fun os started H enc _ => nW os started H enc)
end Go.Proofs.YtdbfhmneijcjbaaGreat
