/- An evaluator of the program, and contracts over it: KnLv to KnLv. -/
import Derived.Test.YtdbfhmneijcjbaaGreatP14
set_option linter.unusedSimpArgs false
set_option linter.unusedVariables false
set_option linter.constructorNameAsVariable false
set_option linter.unnecessarySimpa false
namespace Go.Ev
theorem Kept.mono {m m' : M} {b : Nat} {o o' : Option Obj} (a : Kept m b o o') (h : ∀ j, Cov m b j → Cov m' b j) : Kept m' b o o' := by
  intro x hx
  obtain ⟨x', hx', a⟩ := a x hx
  refine ⟨x', hx', ?_⟩
  cases x with
  | cells c t fr =>
    cases x' with
    | cells c' t' fr' => exact ⟨a.1, a.2.1, a.2.2.1, fun j hj => a.2.2.2 j fun q => hj (h j q)⟩
    | _ => simp at a
  | map es k =>
    cases x' with
    | map es' k' => trivial
    | _ => simp at a
  | loop r =>
    cases x' with
    | loop r' => trivial
    | _ => simp at a
  | stringIter z k =>
    cases x' with
    | stringIter z' k' => trivial
    | _ => simp at a
  | _ => simp at a; subst a; rfl
namespace Lay
noncomputable def FL : T IFn := F.set 15 fn15
noncomputable def h0 : Heap := ⟨.e, 4, .e⟩
noncomputable def GH : Bool := match evF (fun _ _ _ => none) FL 60 15 [] h0 with
  | some (.bool true, _) => true
  | _ => false
theorem yG : GH = true := by decide +kernel
theorem HW : yn Go.Proofs.Tryz.prog 0 FL := by
  intro f fn h
  unfold FL at h
  rw [T.get_set] at h
  by_cases c : f = 15
  · rw [if_pos c] at h; cases h; subst c; exact FG
  · rw [if_neg c] at h; exact EF f fn h
theorem yP : ∃ h1, evF (fun _ _ _ => none) FL 60 15 [] h0 = some (.bool true, h1) := by
  have r := yG
  unfold GH at r
  split at r
  · rename_i h e
    exact ⟨h, e⟩
  · cases r
abbrev KP : LG → Prop := LOK Go.Proofs.Tryz.prog 0
def mN : M := fun _ => none
theorem AR (w : World) : HRel mN h0 w := by
  have g : ∀ p, h0.bl.get p = none := fun p => rfl
  refine ⟨⟨?_, ?_⟩, ?_, ?_, ?_⟩
  · intro p c f k' hp; rw [g p] at hp; cases hp
  · intro p hp; exact ⟨g p, rfl⟩
  · intro p loc hp; cases hp
  · intro p loc hp; cases hp
  · intro p q lp lq hp; cases hp
theorem xf : Glob KP 0 mN := ⟨fun g hg => absurd hg (Nat.not_lt_zero g), fun p loc g hp => by cases hp⟩
theorem GU : dE Go.Proofs.Tryz.prog KP 0 lov := by
  intro f vs h v h' e
  unfold lov at e
  split at e
  case isFalse => cases e
  rename_i c
  obtain ⟨rfl, rfl⟩ := c
  cases e
  obtain ⟨h1, run⟩ := yP
  obtain ⟨info, S⟩ := (qD (P := Go.Proofs.Tryz.prog) (G := 0) (ov := fun _ _ _ => none) (fun _ _ _ _ _ e => by cases e) HW 60 15 [] h0 _ h1 run).1 (by decide)
  refine ⟨fun _ => ⟨info, fun m w args ha H hG => ?_⟩, fun q => absurd q (by decide)⟩
  have ea : args = [] := ha
  subst ea
  have key : ∀ e w', jE mN h0 w (.bool true) h1 e w' → jE m h w (.bool true) h e w' := by
   rintro e w' ⟨x, m1, he, rx, H1, E⟩
   refine ⟨x, m, he, rx, ?_, ?_⟩
   · refine ⟨H.wf, fun p loc hp => ?_, fun p loc hp => Nat.lt_of_lt_of_le (H.inb p loc hp) E.size, H.sep⟩
     obtain ⟨b, hbb, rb⟩ := H.blk p loc hp
     exact ⟨b, hbb, rb.mono (fun _ _ x => x) (fun _ _ _ _ x => x) (E.keep loc.block (fun q lq hq => by cases hq) (H.inb p loc hp))⟩
   · have cv : ∀ b j, Cov mN b j → Cov m b j := by
       rintro b j ⟨p, loc, hp, _⟩
       cases hp
     refine ⟨fun _ _ x => x, fun _ _ a b => by simp [a] at b, Nat.le_refl _, fun _ _ _ => rfl, E.size, fun b hb hlt => E.keep b (fun q lq hq => by cases hq) hlt, E.os, E.tape, E.output, fun _ _ _ x => x, fun b hb => (E.out b hb).mono (cv b), fun _ _ a b => by simp [a] at b⟩
  exact ⟨(S mN w [] rfl (AR w) xf).1.mono key, fun u => CallsDIn.mono ((S mN w [] rfl (AR w) xf).2 u) (fun e u' w' q => ⟨q.1, key e w' q.2⟩)⟩
theorem HU : dE Go.Proofs.Tryz.prog KP 0 go := Bm GU EF
end Lay
end Go.Ev
