/- An evaluator of the program, and contracts over it: TxY to TxY. -/
import Derived.Test.YthhhghfnhbocnaaGreatDoorP11
import Derived.Test.YthhhghfnhbocnaaGreatDoorQSy
set_option linter.unusedSimpArgs false
set_option linter.unusedVariables false
set_option linter.constructorNameAsVariable false
set_option linter.unnecessarySimpa false
open Go.RowKit
namespace Go.Ev
theorem VsRel.split {m : M} : ∀ {a b : List V} {z : List Value}, VsRel m (a ++ b) z → ∃ x y, z = x ++ y ∧ VsRel m a x ∧ VsRel m b y
  | [], _, z, h => ⟨[], z, rfl, rfl, h⟩
  | v :: a, b, z, h => by
    obtain ⟨v', vs', rfl, h1, h2⟩ := h
    obtain ⟨x, y, rfl, h3, h4⟩ := VsRel.split h2
    exact ⟨v' :: x, y, rfl, ⟨v', x, rfl, h1, h3⟩, h4⟩
/-- it is no row of u64 alone -/
def NU (c : List V) : Prop := ∃ v ∈ c, ∀ n, v ≠ .int .u64 n
/-- values of the world, told by values and blocks, none of which is a row of u64 alone -/
structure TU (W : World) (p : Nat) (vs : List V) (xs : List Value) (Ms : List (Option Loc)) (Cs : List (List V)) : Prop extends Tell W p vs xs Ms Cs where
  u : ∀ c ∈ Cs, NU c
section
variable {W : World} {p : Nat} {vs vs' : List V} {xs xs' : List Value} {Ms Ms' : List (Option Loc)} {Cs Cs' : List (List V)}
theorem TU.app (s : TU W p vs xs Ms Cs) (t : TU W (p + Ms.length) vs' xs' Ms' Cs') : TU W p (vs ++ vs') (xs ++ xs') (Ms ++ Ms') (Cs ++ Cs') :=
  ⟨s.toTell.app t.toTell, fun c hc => (List.mem_append.1 hc).elim (s.u c) (t.u c)⟩
theorem TU.flat (h : ∀ m, VsRel m vs xs) (x : ∀ u ∈ vs, VEx u) : TU W p vs xs [] [] := ⟨Tell.flat h x, by simp⟩
theorem TU.arr {b off n k cap : Nat} {C : Array Value} {ty : TypeId} {fz : Nat × Nat} (hC : W.heap[b]? = some (.cells C ty fz)) (hsz : off + n * k ≤ C.size) (hfz : ∀ i : Nat, i < n * k → ¬ (fz.1 ≤ off + i ∧ off + i < fz.2))
    (hx : ∀ (i : Nat) x, xs[i]? = some x → C[off + i]? = some x) (lx : vs.length = n * k) (hcap : n ≤ cap) (nu : NU vs) (t : TU W (p + 1) vs xs Ms Cs) :
    TU W p [.slice p 0 n cap] [.slice (some ⟨b, off, none⟩) n cap] (some ⟨b, off, n * k, none⟩ :: Ms) (vs :: Cs) :=
  ⟨t.toTell.arr hC hsz hfz hx lx hcap, fun c hc => by
    rcases List.mem_cons.1 hc with rfl | hc
    · exact nu
    · exact t.u c hc⟩
end
theorem tu_list {W : World} {α : Type} {f : α → List V} {Φ : Heap → α → Prop} {Q : α → Prop} : ∀ (ys : List (List Value)) (p : Nat), (∀ y ∈ ys, ∀ p, ∃ a Ms Cs, TU W p (f a) y Ms Cs ∧ (∀ h, HasR h p Cs → Φ h a) ∧ Q a) →
    ∃ (L : List α) (Ms : List (Option Loc)) (Cs : List (List V)), L.length = ys.length ∧ TU W p (L.flatMap f) ys.flatten Ms Cs ∧ (∀ h, HasR h p Cs → ∀ a ∈ L, Φ h a) ∧ ∀ a ∈ L, Q a
  | [], p, _ => ⟨[], [], [], rfl, TU.flat (fun _ => rfl) (by simp), by simp, by simp⟩
  | y :: ys, p, hy => by
    obtain ⟨a, Ms, Cs, t, ph, q⟩ := hy y (by simp) p
    obtain ⟨L, Ms', Cs', ll, t', ph', q'⟩ := tu_list ys (p + Ms.length) fun y m => hy y (by simp [m])
    refine ⟨a :: L, Ms ++ Ms', Cs ++ Cs', by simp [ll], t.app t', fun h hr x hx => ?_, fun x hx => ?_⟩
    · rcases List.mem_cons.1 hx with rfl | hx
      · exact ph h hr.left
      · exact ph' h (by rw [t.l]; exact hr.right) x hx
    · rcases List.mem_cons.1 hx with rfl | hx
      · exact q
      · exact q' x hx
namespace Lay
noncomputable def hU (Cs : List (List V)) : Heap := ⟨put ((T.e : T Blk).set 0 (.row tab10 0 0)) Cs 2, 2 + Cs.length, (T.e : T (Nat × Nat)).set 1 (1, 0), .e⟩
def mU (Ms : List (Option Loc)) : M := fun p => if p = 0 then some ⟨0, 0, 20, none⟩ else if 2 ≤ p then (Ms[p - 2]?).join else none
section
variable {Cs : List (List V)} {Ms : List (Option Loc)}
theorem hU_at {i : Nat} {c : List V} (h : Cs[i]? = some c) : (hU Cs).bl.get (2 + i) = some (.row c 1 0) := by
  have hi := (List.getElem?_eq_some_iff.1 h).1
  show (put _ Cs 2).get (2 + i) = _
  rw [put_get, if_pos (by omega), show 2 + i - 2 = i by omega, h]; rfl
theorem hU_0 : (hU Cs).bl.get 0 = some (.row tab10 0 0) := by
  show (put _ Cs 2).get 0 = _
  rw [put_get, if_neg (by omega), T.get_set_self]
theorem hU_1 : (hU Cs).bl.get 1 = none := by
  show (put _ Cs 2).get 1 = _
  rw [put_get, if_neg (by omega), T.get_set_ne _ _ (by omega)]; rfl
theorem hU_far {p : Nat} (h : 2 + Cs.length ≤ p) : (hU Cs).bl.get p = none := by
  show (put _ Cs 2).get p = _
  rw [put_get, if_neg (by omega), T.get_set_ne _ _ (by omega)]; rfl
theorem hU_f1 : (hU Cs).fams.get 1 = some (1, 0) := by show ((T.e : T (Nat × Nat)).set 1 (1, 0)).get 1 = _; exact T.get_set_self _ _ _
theorem hU_f {p : Nat} (h : p ≠ 1) : (hU Cs).fams.get p = none := by show ((T.e : T (Nat × Nat)).set 1 (1, 0)).get p = none; rw [T.get_set_ne _ _ h]; rfl
theorem hU_wf : WF (hU Cs) := fun p hp => ⟨hU_far hp, hU_f (by have : 2 + Cs.length ≤ p := hp; omega)⟩
theorem hU_pl : Pl (hU Cs) 0 tab10 := ⟨⟨0, hU_0⟩, hU_f (by omega)⟩
theorem hU_rs {i : Nat} {c : List V} (h : Cs[i]? = some c) : Rs (hU Cs) (2 + i) c := ⟨1, 0, 1, hU_at h, hU_f1, hU_1, by show 1 < 2 + Cs.length; omega⟩
theorem mU_some {p : Nat} {loc : Loc} (h : mU Ms p = some loc) : (p = 0 ∧ loc = ⟨0, 0, 20, none⟩) ∨ ∃ i, p = 2 + i ∧ Ms[i]? = some (some loc) := by
  unfold mU at h
  by_cases c : p = 0
  · rw [if_pos c] at h; cases h; exact .inl ⟨c, rfl⟩
  · rw [if_neg c] at h
    by_cases d : 2 ≤ p
    · rw [if_pos d] at h
      refine .inr ⟨p - 2, by omega, ?_⟩
      cases e : Ms[p - 2]? with
      | none => rw [e] at h; cases h
      | some o => rw [e] at h; cases o with
        | none => cases h
        | some l => cases h; rfl
    · rw [if_neg d] at h; cases h
theorem mU_at {i : Nat} {loc : Loc} (h : Ms[i]? = some (some loc)) : mU Ms (2 + i) = some loc := by
  unfold mU
  rw [if_neg (by omega), if_pos (by omega), show 2 + i - 2 = i by omega, h]; rfl
/-- an array that is no row of u64 alone does not stand in the variable -/
theorem arr_ne {W : World} (t : Tab W) {m : M} {loc : Loc} {c : List V} (a : ArrM W m loc c) (nu : NU c) : loc.block ≠ 0 := by
  intro e
  obtain ⟨C', ty', hC', hs', hc'⟩ := t
  obtain ⟨_, hl, C, ty, fz, h1, h2, h3, _⟩ := a
  rw [e, hC'] at h1; cases h1
  obtain ⟨v, hv, ne⟩ := nu
  obtain ⟨i, hi⟩ := List.getElem?_of_mem hv
  obtain ⟨x, e1, r⟩ := h3 i v hi
  have hlt := (List.getElem?_eq_some_iff.1 hi).1
  have ht : tabN[loc.base + i]? = some (tabN[loc.base + i]'(by show loc.base + i < 20; omega)) := List.getElem?_eq_getElem _
  rw [hc' _ _ ht] at e1
  cases e1
  cases v <;> simp [VRel] at r
  rename_i k n
  exact ne n (by rw [r.1])
theorem relU {W : World} (t : Tab W) (hl : Ms.length = Cs.length) (nu : ∀ c ∈ Cs, NU c) (he : ∀ (i : Nat) loc c, Ms[i]? = some (some loc) → Cs[i]? = some c → ArrM W (mU Ms) loc c) : HRel (mU Ms) (hU Cs) W := by
  have cget : ∀ (i : Nat) loc, Ms[i]? = some (some loc) → ∃ c, Cs[i]? = some c := fun i loc h => by
    have := (List.getElem?_eq_some_iff.1 h).1
    exact ⟨_, List.getElem?_eq_getElem (by omega)⟩
  refine ⟨⟨⟨?_, hU_wf⟩, ?_, ?_, ?_⟩, fun p ty n hp => by cases hp⟩
  · intro p c f k hp
    by_cases q : p = 0
    · subst q; rw [hU_0] at hp; cases hp; rw [hU_f (by omega)]
    · by_cases q1 : p = 1
      · subst q1; rw [hU_1] at hp; cases hp
      · by_cases q2 : p < 2 + Cs.length
        · have hc : Cs[p - 2]? = some (Cs[p - 2]'(by omega)) := List.getElem?_eq_getElem (by omega)
          have := hU_at hc
          rw [show 2 + (p - 2) = p by omega, hp] at this
          cases this
          rw [hU_f1]; exact Nat.le_refl _
        · rw [hU_far (by omega)] at hp; cases hp
  · intro p loc hp
    rcases mU_some hp with ⟨rfl, rfl⟩ | ⟨i, rfl, h⟩
    · obtain ⟨C', ty', hC', hs', hc'⟩ := t
      refine ⟨_, hU_0, fun _ => ⟨C', ty', (0, 0), hC', by simp only []; omega, by decide, fun i v hi => ?_, fun i _ => by simp⟩⟩
      obtain ⟨n, hn, rfl⟩ := tab10_get hi
      exact ⟨_, by rw [Nat.zero_add]; exact hc' i n hn, rfl⟩
    · obtain ⟨c, hc⟩ := cget i loc h
      obtain ⟨_, hcl, C, ty, fz, h1, h2, h3, h4⟩ := he i loc c h hc
      exact ⟨_, hU_at hc, fun _ => ⟨C, ty, fz, h1, h2, by omega, h3, h4⟩⟩
  · intro p loc hp
    rcases mU_some hp with ⟨rfl, rfl⟩ | ⟨i, rfl, h⟩
    · obtain ⟨C', ty', hC', _⟩ := t
      exact (Array.getElem?_eq_some_iff.1 hC').1
    · obtain ⟨c, hc⟩ := cget i loc h
      obtain ⟨_, _, C, ty, fz, h1, _⟩ := he i loc c h hc
      exact (Array.getElem?_eq_some_iff.1 h1).1
  · intro p q lp lq hp hq hbl hne
    rcases mU_some hp with ⟨rfl, rfl⟩ | ⟨i, rfl, h⟩ <;> rcases mU_some hq with ⟨rfl, rfl⟩ | ⟨j, rfl, h'⟩
    · exact absurd rfl hne
    · obtain ⟨c, hc⟩ := cget j lq h'
      exact absurd hbl.symm (arr_ne t (he j lq c h' hc) (nu c (List.mem_of_getElem? hc)))
    · obtain ⟨c, hc⟩ := cget i lp h
      exact absurd hbl (arr_ne t (he i lp c h hc) (nu c (List.mem_of_getElem? hc)))
    · obtain ⟨c, hc⟩ := cget i lp h
      obtain ⟨c', hc'⟩ := cget j lq h'
      refine ⟨c, c', 1, 0, 0, hU_at hc, hU_at hc', fun e hf => ?_⟩
      rw [hU_f1] at hf
      simp only [Option.some.injEq, Prod.mk.injEq] at hf
      omega
end
theorem text_calls {W : World} (t : Tab W) {xs : List Value} {x : Dt} {k : Nat} {Ms : List (Option Loc)} {Cs : List (List V)} (U : TU W 2 x.cells xs Ms Cs)
    (ra : ∀ h, WF h → HasR h 2 Cs → DtH h x) (hk : k < 256) (ho : R64 x.off) :
    Calls Go.Proofs.Tryz.prog 4 #[.agg xs.toArray, .int .u8 (k : Int)] W fun e W' => e = .returned (.bool true) ∧ Below W.heap.size W W' := by
  have T := U.toTell
  have has : Has (mU Ms) 2 Ms := fun i loc h => mU_at h
  have H : HRel (mU Ms) (hU Cs) W := relU t T.l U.u (T.a _ has)
  have hlen := T.l
  have hG : Glob KP 1 (mU Ms) := by
    refine ⟨fun g hg => ⟨20, by have : g = 0 := (by omega); subst this; rfl⟩, fun p loc g hp hlp => ?_⟩
    rcases mU_some hp with ⟨rfl, rfl⟩ | ⟨i, rfl, h⟩
    · cases hlp
    · have hi := (List.getElem?_eq_some_iff.1 h).1
      have := (T.a _ has i loc _ h (List.getElem?_eq_getElem (by omega))).1
      rw [this] at hlp; cases hlp
  have dx := ra (hU Cs) hU_wf fun i c h => hU_rs h
  obtain ⟨u, h', e, rfl, F⟩ := snapshotsText_ok (k := k) hU_wf ⟨⟨0, hU_0⟩, hU_f (by omega)⟩ (show 0 < 2 + Cs.length by omega) dx ho hk
  obtain ⟨_, SS⟩ := (goOK _ _ _ _ _ e).1 (by decide)
  have rel : VsRel (mU Ms) [.agg x.cells, .int .u8 (k : Int)] [.agg xs.toArray, .int .u8 (k : Int)] :=
    ⟨_, _, rfl, ⟨xs, rfl, T.v _ has⟩, _, _, rfl, rfl, rfl⟩
  refine (SS (mU Ms) W _ rel H hG).1.mono ?_
  rintro e' W' ⟨yv, m', he, ry, H', E⟩
  have : yv = .bool true := ry
  subst this
  refine ⟨he, below_ex H H' E fun p loc hp' => ?_⟩
  rcases mU_some hp' with ⟨rfl, rfl⟩ | ⟨i, rfl, h1⟩
  · refine ⟨tab10, .inl hU_pl.own, .inl (F.pl 0 tab10 (by simp) hU_pl).own, rfl, fun v hv => ?_⟩
    obtain ⟨i, hi, hv⟩ := List.getElem_of_mem hv
    obtain ⟨n, _, e⟩ := tab10_get (i := i) (v := v) (by rw [← hv]; exact List.getElem?_eq_getElem hi)
    rw [e]; exact VEx.int _ _
  · have hi := (List.getElem?_eq_some_iff.1 h1).1
    obtain ⟨c', hc'⟩ : ∃ c', Cs[i]? = some c' := ⟨_, List.getElem?_eq_getElem (by omega)⟩
    have rs := hU_rs hc'
    exact ⟨c', .inr rs, .inr (F.ro _ _ rs), (T.a _ has i loc c' h1 hc').2.1, T.e c' (List.mem_of_getElem? hc')⟩
end Lay
end Go.Ev
