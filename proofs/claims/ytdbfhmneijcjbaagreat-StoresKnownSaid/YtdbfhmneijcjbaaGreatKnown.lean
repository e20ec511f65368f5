/- The function StoresKnown (it takes nothing) returns true, and changes nothing that was there. The walk: an evaluator of the program, proved sound for every order of evaluation and every capacity that the runtime may choose, and contracts of the program functions proved over it. -/
import Derived.Below
import Derived.Test.YtdbfhmneijcjbaaGreatRows
import Derived.ProofKit
import Derived.OpenShut
import Derived.Test.YtdbfhmneijcjbaaGreatP13
import Derived.Test.YtdbfhmneijcjbaaGreatP15
set_option linter.unusedSimpArgs false
set_option linter.unusedVariables false
set_option linter.constructorNameAsVariable false
open Go.RowKit
namespace Go.Ev
theorem Rdb.rd {h : Heap} {b : Nat} {c : List V} (o : Rdb h b c) : ∃ f k, h.bl.get b = some (.row c f k) ∧ rd h b f k = true := by
  rcases o with ⟨f, k, e, x⟩ | ⟨f, k, ow, e1, e2, _⟩
  · exact ⟨f, k, e, rd_owner (by rcases x with ⟨a, _⟩ | a; exact .inl a; exact .inr a)⟩
  · refine ⟨f, k, e1, ?_⟩
    unfold Ev.rd
    rw [e2]
    simp
theorem HRel.cellsR {m : M} {h : Heap} {w : World} (H : HRel m h w) {p : Nat} {loc : Loc} {c : List V} (hm : m p = some loc) (o : Rdb h p c) :
    ∃ C el fz, w.heap[loc.block]? = some (.cells C el fz) ∧ loc.base + loc.room ≤ C.size ∧ ∀ (i : Nat) v, c[i]? = some v → ∃ x, C[loc.base + i]? = some x ∧ VRel m v x := by
  obtain ⟨f, k, e, r⟩ := o.rd
  obtain ⟨b, hb, rel⟩ := H.blk p loc hm
  rw [e] at hb; cases hb
  obtain ⟨C, el, fz, a1, a2, _, a4, _⟩ := rel r
  exact ⟨C, el, fz, a1, a2, a4⟩
/-- a value that stands for one value of the model's -/
def Det (v : V) : Prop := ∀ m m' x x', Le m m' → VRel m v x → VRel m' v x' → x = x'
/-- nothing that was there has changed -/
theorem below_det {m m' : M} {h h' : Heap} {w w' : World} (H : HRel m h w) (H' : HRel m' h' w') (E : Ext m h w m' h' w')
    (flat : ∀ p loc, m p = some loc → ∃ c, Rdb h p c ∧ Rdb h' p c ∧ c.length = loc.room ∧ ∀ v ∈ c, Det v) : Below w.heap.size w w' := by
  refine ⟨E.os, E.tape, E.output, E.size, fun b hb => ?_⟩
  by_cases cc : ∃ p loc, m p = some loc ∧ loc.block = b
  · obtain ⟨p, loc, hp, rfl⟩ := cc
    obtain ⟨cs, o, o', len, ints⟩ := flat p loc hp
    obtain ⟨C, el, fz, hC, hsz, hcell⟩ := H.cellsR hp o
    obtain ⟨x', hx', k⟩ := E.out loc.block hb _ hC
    cases x' with
    | cells C' el' fz' =>
      obtain ⟨rfl, rfl, ksz, kout⟩ := k
      rw [hx', hC]
      have : C' = C := by
        apply Array.ext_getElem?
        intro j
        by_cases cv : Cov m loc.block j
        · obtain ⟨q, lq, hq, hbq, j1, j2⟩ := cv
          obtain ⟨cq, oq, oq', lenq, intq⟩ := flat q lq hq
          obtain ⟨C1, el1, fz1, hC1, _, hc1⟩ := H.cellsR hq oq
          obtain ⟨C2, el2, fz2, hC2, _, hc2⟩ := H'.cellsR (E.le _ _ hq) oq'
          rw [hbq] at hC1 hC2
          rw [hC] at hC1; cases hC1
          rw [hx'] at hC2; cases hC2
          have hlt : j - lq.base < cq.length := by omega
          have hd := intq cq[j - lq.base] (List.getElem_mem hlt)
          obtain ⟨x1, e1, r1⟩ := hc1 (j - lq.base) _ (List.getElem?_eq_getElem hlt)
          obtain ⟨x2, e2, r2⟩ := hc2 (j - lq.base) _ (List.getElem?_eq_getElem hlt)
          have := hd m m' x1 x2 E.le r1 r2
          rw [show lq.base + (j - lq.base) = j by omega] at e1 e2
          rw [e1, e2, this]
        · exact kout j cv
      rw [this]
    | _ => simp at k
  · exact E.keep b (fun p loc hp e => cc ⟨p, loc, hp, e⟩) hb
namespace Lay
theorem Known_calls {W : World} : Calls Go.Proofs.Tryz.prog 3 #[] W fun e W' => e = .returned (.bool true) ∧ Below W.heap.size W W' := by
  have h0_wf : WF h0 := (mN_rel W).wf.2
  obtain ⟨u, h', e, rfl⟩ := known_ok h0_wf
  obtain ⟨_, S⟩ := (goOK _ _ _ _ _ e).1 (by decide)
  refine (S mN W [] rfl (mN_rel W) mN_glob).1.mono fun e W' ⟨y, m', he, ry, H', E⟩ => ?_
  have : y = .bool true := ry
  subst this
  exact ⟨he, below_det (mN_rel W) H' E fun p loc hp => by cases hp⟩
end Lay
end Go.Ev
namespace Go.Proofs.YtdbfhmneijcjbaaGreat
open Go.ChangeShapes Go.WideShapes Go.ChangeAt Go.RowKit
theorem own : ownKnob Tryz.prog.godebug = none := by kernel_rfl
set_option maxRecDepth 100000 in
theorem known_lifted (os : Os) (started : os.Started) (H : Type) (enc : TypeId × Value → H) :
    ReturnsInHanded {} Tryz.checked os 3 .any (Rows.storesKnownSpec.pre6 enc Tryz.prog Tryz.f3 [] false)
      (Rows.storesKnownSpec.post enc Tryz.prog Tryz.f3 false true false false) := by
  refine returnsInHanded_of_change (C := Tryz.checked) own started (by kernel_rfl) Tryz.func3
    (ChangeSpec.witness6 (enc := enc) (C := Tryz.checked) false ⟨#[], #[], []⟩ 8 (by kernel_rfl) (by kernel_rfl) (by kernel_rfl) (by kernel_rfl)) ?_
  intro W base args ds gs before hval0 hW _ _
  have hW' := hW
  obtain ⟨p, q, hA0, hV, rfl, hfz, hnd⟩ := hW
  have hA : DataW.TrodAll enc Tryz.prog W 0 (fun _ => true) true Tryz.f3.params.toList args.toList ds p := hA0
  rw [Tryz.params3] at hA
  obtain ⟨rfl, rfl, rfl⟩ := trodAll_none hA
  obtain ⟨rfl, rfl⟩ := trodVars_none hV
  refine Ev.Lay.Known_calls.mono fun e W' ⟨he, hB⟩ => ?_
  subst he
  refine ⟨_, rfl, _, _, _, [], [], [], hW', ?_, ?_, ?_, hB.frame _, fun h => by cases h⟩
  · exact trodAll_mk1 (shut_bool Tryz.underlying4 true)
  · exact trodAll_mk0
  · rfl
theorem ja : laidOutB Tryz.pinned.checked.prog = true := by kernel_rfl
theorem jb : mapsRowed Tryz.pinned.checked.prog = true := by kernel_rfl
theorem jc : Program.stopsHeard Tryz.pinned.checked.prog = true := by kernel_rfl
theorem jd : Program.mayEnter Tryz.pinned.checked.prog = true := by kernel_rfl
theorem je : Program.unfollowed Tryz.pinned.checked.prog 3 = true := by kernel_rfl
theorem jf : Program.recurses Tryz.pinned.checked.prog 3 = true := by kernel_rfl
theorem jg : Program.varsNamed Tryz.pinned.checked.prog 3 = [] := by kernel_rfl
theorem jh : joinedFacts Tryz.pinned.checked.prog 3 Tryz.f3 Rows.storesKnownSpec Rows.storesKnownRow = true := by
  unfold joinedFacts
  rw [ja, jb, jc, jd, je, jf, jg]
  kernel_rfl
theorem ji : Tryz.pinned.checked.prog.funcNamed Rows.storesKnownRow.func = some 3 := by kernel_rfl
theorem jj : Tryz.f3.isWrapper Tryz.pinned.checked.prog Rows.storesKnownRow.wrapper Rows.storesKnownRow.mainSum := by
  unfold Func.isWrapper; rw [if_neg (of_decide_eq_false (by kernel_rfl))]; exact ⟨rfl, rfl⟩
theorem known_holds : Rows.StoresKnownSaid :=
  OpenClaim.holds_of_wide 3 Tryz.f3 rfl rfl rfl rfl rfl rfl rfl ⟨rfl, rfl, rfl, rfl, rfl⟩ rfl rfl rfl rfl rfl ji Tryz.func3 jh
    (of_decide_eq_true (by kernel_rfl)) jj
    (fun os started H enc _ => known_lifted os started H enc)
end Go.Proofs.YtdbfhmneijcjbaaGreat
