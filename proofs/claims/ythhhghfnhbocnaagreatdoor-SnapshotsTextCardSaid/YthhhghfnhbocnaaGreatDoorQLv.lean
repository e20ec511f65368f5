/- An evaluator of the program, and contracts over it: SmLv to SmLv. -/
import Derived.Test.YthhhghfnhbocnaaGreatDoorQFn
import Derived.Test.YthhhghfnhbocnaaGreatDoorQS
set_option linter.unusedSimpArgs false
set_option linter.unusedVariables false
set_option linter.constructorNameAsVariable false
set_option linter.unnecessarySimpa false
namespace Go.Ev
namespace Lay
theorem fn45OK : chkFn Go.Proofs.Tryz.prog 1 45 fn45 = true := by decide +kernel
theorem fqOK : FnsOK Go.Proofs.Tryz.prog 1 F45w := by
  intro f fn h
  unfold F45w at h
  rw [T.get_set] at h
  by_cases c : f = 45
  · rw [if_pos c] at h; cases h; subst c; exact fn45OK
  · rw [if_neg c] at h; exact fnsOK f fn h
theorem of_run {s : Stg} (r : rnS s = true) : ∃ v h, evF (fun _ _ _ => none) F45w 60 s.f s.args s.heap = some (v, h) ∧ s.left v h = true := by
  unfold rnS at r
  rw [evFF_eq] at r
  split at r
  · rename_i v h e
    exact ⟨v, h, e, r⟩
  · cases r
abbrev KP : LG → Prop := LOK Go.Proofs.Tryz.prog 1
theorem stOK {s : Stg} (f : s.fine 1 = true) (r : rnS s = true) : CallsOK Go.Proofs.Tryz.prog KP 1 s.call := by
  obtain ⟨v, h, e, l⟩ := of_run r
  exact Stg.callOK (evF_sound (P := Go.Proofs.Tryz.prog) (G := 1) (ov := fun _ _ _ => none) (fun _ _ _ _ _ e => by cases e) fqOK 60) s f e l
noncomputable def sov : CallF := orC st1.call st2.call
theorem sovOK : CallsOK Go.Proofs.Tryz.prog KP 1 sov := orC_ok (stOK fine1 run1) (stOK fine2 run2)
noncomputable def FL : T IFn := (F45w.set 8 fn8).del 59
noncomputable def runL : Bool := match evFF sov FL 60 8 [] h0 with
  | some (.bool true, h) => kept0 h
  | _ => false
theorem runL_true : runL = true := by decide +kernel
theorem flOK : FnsOK Go.Proofs.Tryz.prog 1 FL := by
  intro f fn h
  unfold FL at h
  rw [T.get_del] at h
  by_cases d : f = 59
  · rw [if_pos d] at h; cases h
  rw [if_neg d, T.get_set] at h
  by_cases c : f = 8
  · rw [if_pos c] at h; cases h; subst c; exact fn8OK
  · rw [if_neg c] at h; exact fqOK f fn h
abbrev Kp (h : Heap) : Prop := (∃ k, h.bl.get 0 = some (.row tab10 0 k)) ∧ h.fams.get 0 = none
theorem kept_of {h : Heap} (r : kept0 h = true) : Kp h := by
  unfold kept0 at r
  split at r
  · rename_i c f k hb hf
    simp only [Bool.and_eq_true] at r
    have e1 := vEq_eq _ _ r.1
    have e2 := Nat.eq_of_beq_eq_true r.2
    cases e1; subst e2
    exact ⟨⟨k, hb⟩, hf⟩
  · cases r
theorem lives_run : ∃ h1, evF sov FL 60 8 [] h0 = some (.bool true, h1) ∧ Kp h1 := by
  have r := runL_true
  unfold runL at r
  rw [evFF_eq] at r
  split at r
  · rename_i h e
    exact ⟨h, e, kept_of r⟩
  · cases r
theorem quoted_run {w : List UInt8} (hw : w ∈ words) : ∃ h1, evF (fun _ _ _ => none) F45w 60 45 [.str w] h0 = some (.str (quo w), h1) ∧ Kp h1 := by
  have r := List.all_eq_true.1 runQ_all w hw
  unfold runQ at r
  rw [evFF_eq] at r
  split at r
  · rename_i v h e
    simp only [Bool.and_eq_true] at r
    obtain rfl := vEq_eq _ _ r.1
    exact ⟨h, e, kept_of r.2⟩
  · cases r
theorem tabc_rel (m m' : M) (v : V) (x : Value) (h : v ∈ tab10) (r : VRel m v x) : VRel m' v x := by
  simp only [tab10, List.mem_map] at h
  obtain ⟨n, _, rfl⟩ := h
  exact r
open Classical in
/-- one call alone, at each heap in which the variable lies -/
noncomputable def one (f : Nat) (vs : List V) (v : V) : CallF := fun f' vs' h => if f' = f ∧ vs' = vs ∧ Tb h then some (v, h) else none
theorem one_ok {ov : CallF} {F' : T IFn} (ho : CallsOK Go.Proofs.Tryz.prog KP 1 ov) (hF : FnsOK Go.Proofs.Tryz.prog 1 F') {f : Nat} {vs : List V} {v : V} {h1 : Heap} (run : evF ov F' 60 f vs h0 = some (v, h1)) (kp : Kp h1)
    (lt : f < YB) (ra : ∀ m m' args, VsRel m vs args → VsRel m' vs args) (rv : ∀ m m' x, VRel m v x → VRel m' v x) : CallsOK Go.Proofs.Tryz.prog KP 1 (one f vs v) := by
  intro f' vs' h v' h' e
  unfold one at e
  split at e
  case isFalse => cases e
  rename_i c
  obtain ⟨rfl, rfl, pl⟩ := c
  cases e
  obtain ⟨⟨k1, b1⟩, f1⟩ := kp
  obtain ⟨info, S⟩ := (evF_sound (P := Go.Proofs.Tryz.prog) (G := 1) (ov := ov) ho hF 60 _ _ h0 _ h1 run).1 lt
  refine ⟨fun _ => ⟨info, fun m w args ha H hG => ?_⟩, fun q => absurd lt (Nat.not_lt.2 q)⟩
  obtain ⟨⟨k, hb⟩, hf⟩ := pl
  obtain ⟨r, hr⟩ := hG.1 0 (by omega)
  obtain ⟨m0, hm0⟩ : ∃ m0 : M, m0 = fun p => if p = 0 then some ⟨0, 0, r, none⟩ else none := ⟨_, rfl⟩
  have z0 : m0 0 = some ⟨0, 0, r, none⟩ := by rw [hm0]; rfl
  have z1 : ∀ p loc, m0 p = some loc → p = 0 ∧ loc = ⟨0, 0, r, none⟩ := by
    intro p loc hp
    rw [hm0] at hp
    by_cases c : p = 0
    · simp only [if_pos c, Option.some.injEq] at hp; exact ⟨c, hp.symm⟩
    · simp [if_neg c] at hp
  obtain ⟨bk, hbk, rel⟩ := H.blk 0 _ hr
  rw [hb] at hbk; cases hbk
  have rd0 : rd h 0 0 k = true := by unfold rd; rw [hf]
  obtain ⟨C, el, fz, hC, c1, c2, c3, c4⟩ := rel rd0
  have g0 : h0.bl.get 0 = some (.row tab10 0 0) := by unfold h0; rw [T.get_set_self]
  have gn : ∀ p, p ≠ 0 → h0.bl.get p = none := fun p hp => by unfold h0; rw [T.get_set_ne _ _ hp]; rfl
  have H0 : HRel m0 h0 w := by
    refine ⟨⟨⟨?_, ?_⟩, ?_, ?_, ?_⟩, fun p ty n hp => by cases hp⟩
    · intro p c f k' hp
      by_cases q : p = 0
      · subst q; rw [g0] at hp; cases hp; rfl
      · rw [gn p q] at hp; cases hp
    · intro p hp
      have hp1 : 1 ≤ p := hp
      exact ⟨gn p (by omega), rfl⟩
    · intro p loc hp
      obtain ⟨rfl, rfl⟩ := z1 p loc hp
      exact ⟨_, g0, fun _ => ⟨C, el, fz, hC, c1, c2, fun i v hi => by
        obtain ⟨x, hx, rx⟩ := c3 i v hi
        exact ⟨x, hx, tabc_rel m m0 v x (List.mem_of_getElem? hi) rx⟩, c4⟩⟩
    · intro p loc hp
      obtain ⟨rfl, rfl⟩ := z1 p loc hp
      exact H.inb 0 _ hr
    · intro p q lp lq hp hq _ hne
      exact absurd ((z1 p lp hp).1.trans (z1 q lq hq).1.symm) hne
  have G0 : Glob KP 1 m0 := ⟨fun g hg => ⟨r, by have : g = 0 := (by omega); subst this; exact z0⟩, fun p loc g hp hl => by rw [(z1 p loc hp).2] at hl; cases hl⟩
  have key : ∀ e w', Post m0 h0 w v h1 e w' → Post m h w v h e w' := by
   rintro e w' ⟨x, m1, he, rx, H1, E⟩
   refine ⟨x, m, he, rv _ _ _ rx, ?_, ?_⟩
   · have only : ∀ p loc, m p = some loc → loc.block = 0 → p = 0 := by
       intro p loc hp hl
       by_cases q : p = 0
       · exact q
       · obtain ⟨cp, cq, f, kp, kq, a1, a2, _⟩ := H.sep p 0 loc _ hp hr hl q
         rw [hb] at a2; cases a2
         have := H.wf.fam _ _ _ _ a1
         rw [hf] at this
         exact this.symm
     refine ⟨⟨H.wf, fun p loc hp => ?_, fun p loc hp => Nat.lt_of_lt_of_le (H.inb p loc hp) E.size, H.sep⟩, fun p ty n hp => ?_⟩
     rotate_left
     · obtain ⟨loc, C, fz, a1, a2, a3, a4⟩ := H.tg p ty n hp
       obtain ⟨x', hx, hk⟩ := E.out loc.block (H.inb p loc a1) _ a3
       cases x' with
       | cells C' ty' fz' =>
         obtain ⟨r1, _, r3, _⟩ := hk
         subst r1
         exact ⟨loc, C', fz', a1, a2, hx, a4.imp id fun e => r3.trans e⟩
       | _ => simp at hk
     by_cases hl : loc.block = 0
     · have := only p loc hp hl
       subst this
       rw [hr] at hp; cases hp
       refine ⟨_, hb, fun _ => ?_⟩
       obtain ⟨bk, hbk, rel1⟩ := H1.blk 0 _ (E.le _ _ z0)
       rw [b1] at hbk; cases hbk
       obtain ⟨C', el', fz', hC', d1, d2, d3, d4⟩ := rel1 (by unfold rd; rw [f1])
       exact ⟨C', el', fz', hC', d1, d2, fun i v hi => by
         obtain ⟨x, hx, rx⟩ := d3 i v hi
         exact ⟨x, hx, tabc_rel m1 m v x (List.mem_of_getElem? hi) rx⟩, d4⟩
     · obtain ⟨b, hbb, rb⟩ := H.blk p loc hp
       exact ⟨b, hbb, rb.mono (fun _ _ x => x) (fun _ _ _ _ x => x) (E.keep loc.block (fun q lq hq => by obtain ⟨rfl, rfl⟩ := z1 q lq hq; exact fun e => hl e.symm) (H.inb p loc hp))⟩
   · have cv : ∀ b j, Cov m0 b j → Cov m b j := by
       rintro b j ⟨p, loc, hp, q1, q2, q3⟩
       obtain ⟨rfl, rfl⟩ := z1 p loc hp
       exact ⟨0, _, hr, q1, q2, q3⟩
     refine ⟨fun _ _ x => x, fun _ _ a b => by simp [a] at b, Nat.le_refl _, fun _ _ _ => rfl, E.size, fun b hb hlt => E.keep b (fun q lq hq => by obtain ⟨rfl, rfl⟩ := z1 q lq hq; exact hb 0 _ hr) hlt, E.os, E.tape, E.output, fun _ _ _ x => x, fun b hb => (E.out b hb).mono (cv b), fun _ _ a b => by simp [a] at b⟩
  exact ⟨(S m0 w args (ra _ _ _ ha) H0 G0).1.mono key, fun u => CallsDIn.mono ((S m0 w args (ra _ _ _ ha) H0 G0).2 u) (fun e u' w' q => ⟨q.1, key e w' q.2⟩)⟩
theorem lovOK : CallsOK Go.Proofs.Tryz.prog KP 1 lov := by
  intro f vs h v h' e
  unfold lov at e
  split at e
  · rename_i c
    obtain ⟨h1, run, kp⟩ := lives_run
    exact one_ok sovOK flOK run kp (by decide) (fun _ _ _ a => a) (fun _ _ _ a => a) f vs h v h' (by unfold one; rw [if_pos c]; exact e)
  split at e
  case isFalse => cases e
  rename_i c
  obtain ⟨rfl, tb⟩ := c
  split at e
  · split at e
    · rename_i hw
      obtain ⟨h1, run, kp⟩ := quoted_run hw
      exact one_ok (fun _ _ _ _ _ e => by cases e) fqOK run kp (by decide) (fun _ _ _ a => a) (fun _ _ _ a => a) 45 _ h v h' (by unfold one; rw [if_pos ⟨rfl, rfl, tb⟩]; exact e)
    · cases e
  · cases e
theorem goOK : CallsOK Go.Proofs.Tryz.prog KP 1 go := ev_sound lovOK fnsOK
end Lay
end Go.Ev
