/- An evaluator of the program, and contracts over it: EvU to EvZa. -/
import Derived.Test.YthhhghfnhbocnaaGreatDoorP03
set_option linter.unusedSimpArgs false
set_option linter.unusedVariables false
set_option linter.constructorNameAsVariable false
set_option linter.unnecessarySimpa false
namespace Go.Ev
variable {K : LG → Prop}
theorem look_bump (σ : Sg) (t : Nat) : look (bump σ) t = (look σ t).map bumpS := by
  induction σ with
  | nil => rfl
  | cons p r ih =>
    obtain ⟨d, s⟩ := p
    simp only [bump, look]
    by_cases h : d = t
    · rw [if_pos h, if_pos h]; rfl
    · rw [if_neg h, if_neg h]; exact ih
theorem look_unset (d : Nat) (σ : Sg) (t : Nat) : look (unset d σ) t = (look σ t).map (unsetS d t) := by
  induction σ with
  | nil => rfl
  | cons p r ih =>
    obtain ⟨e, s⟩ := p
    simp only [unset, look]
    by_cases h : e = t
    · subst h; rw [if_pos rfl, if_pos rfl]; rfl
    · rw [if_neg h, if_neg h]; exact ih
theorem put_getD (a : Act) (d : Nat) (x : Value) (t : Nat) (hd : d < a.tmps.size) : (a.put (some d) x).tmps.getD t undef = if t = d then x else a.tmps.getD t undef := by
  simp only [Act.put, Array.getD_eq_getD_getElem?]
  by_cases h : t = d
  · subst h; rw [if_pos rfl]; simp [hd]
  · rw [if_neg h, Array.getElem?_setIfInBounds_ne (by omega)]
theorem put_size (a : Act) (d : Option Nat) (x : Value) : (a.put d x).tmps.size = a.tmps.size := by
  cases d <;> simp [Act.put]
theorem evO_bump {G : Nat} {s : Src} {y : Opd} {loc : List V} {env : T V} {u v : V} (h : srcOK G (bumpS s) y = true) (e : evO (u :: loc) env y = some v) :
    ∃ y', srcOK G s y' = true ∧ evO loc env y' = some v := by
  cases s with
  | l k =>
    simp only [bumpS] at h
    cases y with
    | l j =>
      simp only [srcOK] at h
      have := Nat.eq_of_beq_eq_true h; subst this
      exact ⟨.l k, by simp [srcOK], e⟩
    | _ => simp [srcOK] at h
  | v s =>
    refine ⟨y, h, ?_⟩
    simp only [bumpS] at h
    cases y <;> simp [srcOK] at h
    exact e
  | x o =>
    refine ⟨y, h, ?_⟩
    simp only [bumpS, srcOK] at h
    cases y with
    | l k => cases o <;> simp [conOK] at h
    | v s => cases o <;> simp [conOK] at h
    | c x => exact e
    | g n => exact e
  | bad => simp [bumpS, srcOK] at h
theorem evO_unset {G : Nat} {d t : Nat} {s : Src} {y : Opd} {loc : List V} {env : T V} {u v : V} (h : srcOK G (unsetS d t s) y = true) (e : evO loc (env.set d u) y = some v) :
    t ≠ d ∧ srcOK G s y = true ∧ evO loc env y = some v := by
  cases s with
  | l k =>
    simp only [unsetS] at h
    by_cases c : t = d
    · rw [if_pos c] at h; simp [srcOK] at h
    · rw [if_neg c] at h
      refine ⟨c, h, ?_⟩
      cases y <;> simp [srcOK] at h
      exact e
  | v s =>
    simp only [unsetS] at h
    by_cases c : t = d ∨ s = d
    · rw [if_pos c] at h; simp [srcOK] at h
    · rw [if_neg c] at h
      refine ⟨fun q => c (.inl q), h, ?_⟩
      cases y <;> simp [srcOK] at h
      subst h
      show env.get s = some v
      rw [← T.get_set_ne env u (fun q => c (.inr q))]; exact e
  | x o =>
    simp only [unsetS] at h
    by_cases c : t = d
    · rw [if_pos c] at h; simp [srcOK] at h
    · rw [if_neg c] at h
      refine ⟨c, h, ?_⟩
      simp only [srcOK] at h
      cases y with
      | l k => cases o <;> simp [conOK] at h
      | v s => cases o <;> simp [conOK] at h
      | c x => exact e
      | g n => exact e
  | bad =>
    simp only [unsetS] at h
    by_cases c : t = d <;> simp [c, srcOK] at h
def nextL (loc : List V) (v : V) : Option Nat → List V
  | none => v :: loc
  | some _ => loc
noncomputable def nextE (env : T V) (v : V) : Option Nat → T V
  | none => env
  | some d => env.set d v
theorem after_sound {C : Cx} {m m' : M} (hle : Le m m') {loc : List V} {env : T V} {a : Act} {σ : Sg} (hI : Inv C.G m loc env a σ) (hE : ERel C m env a) {d s : Option Nat} (hd : dstOK C d s = true)
    {v : V} {x : Value} (r : VRel m' v x) : Inv C.G m' (nextL loc v s) (nextE env v s) (a.put d x) (after σ d s) ∧ ERel C m' (nextE env v s) (a.put d x) := by
  have bumpI : ∀ t s', look (bump σ) t = some s' → ∀ y u, srcOK C.G s' y = true → evO (v :: loc) env y = some u → VRel m' u (a.tmps.getD t undef) := by
    intro t s' hs y u hy he
    rw [look_bump] at hs
    cases hl : look σ t with
    | none => rw [hl] at hs; cases hs
    | some s0 =>
      rw [hl] at hs; cases hs
      obtain ⟨y', h1, h2⟩ := evO_bump hy he
      exact VRel.mono hle _ _ (hI t s0 hl y' u h1 h2)
  unfold dstOK at hd
  split at hd
  · refine ⟨bumpI, hE.1, fun s u hs => (hE.2.1 s u hs).imp id fun q => ⟨q.1, VRel.mono hle _ _ q.2⟩, hE.2.2⟩
  · rename_i d
    simp only [Bool.and_eq_true, Bool.not_eq_true', Nat.blt_eq] at hd
    have hlt : d < a.tmps.size := by rw [hE.1]; exact hd.2
    refine ⟨?_, by rw [put_size]; exact hE.1, fun s u hs => ?_, hE.2.2⟩
    · intro t s' hs y u hy he
      simp only [after, look] at hs
      rw [put_getD a d x t hlt]
      by_cases c : d = t
      · rw [if_pos c] at hs; cases hs
        rw [if_pos c.symm]
        cases y <;> simp [srcOK] at hy
        subst hy
        cases he; exact r
      · rw [if_neg c] at hs
        rw [if_neg (Ne.symm c)]
        exact bumpI t s' hs y u hy he
    · rcases hE.2.1 s u hs with q | ⟨h1, h2⟩
      · exact .inl q
      refine .inr ⟨h1, ?_⟩
      rw [put_getD a d x s hlt, if_neg (by intro q; subst q; rw [h1] at hd; simp at hd)]
      exact VRel.mono hle _ _ h2
  · rename_i d e
    simp only [Bool.and_eq_true, Nat.blt_eq] at hd
    have := Nat.eq_of_beq_eq_true hd.1.1; subst this
    have hlt : d < a.tmps.size := by rw [hE.1]; exact hd.2
    refine ⟨?_, by rw [put_size]; exact hE.1, fun s u hs => ?_, hE.2.2⟩
    · intro t s' hs y u hy he
      simp only [after] at hs
      rw [look_unset] at hs
      cases hl : look σ t with
      | none => rw [hl] at hs; cases hs
      | some s0 =>
        rw [hl] at hs; cases hs
        obtain ⟨hne, h1, h2⟩ := evO_unset hy he
        rw [put_getD a d x t hlt, if_neg hne]
        exact VRel.mono hle _ _ (hI t s0 hl y u h1 h2)
    · simp only [nextE] at hs
      rw [T.get_set] at hs
      rw [put_getD a d x s hlt]
      by_cases c : s = d
      · rw [if_pos c] at hs; cases hs
        rw [if_pos c]; subst c; exact .inr ⟨hd.1.2, r⟩
      · rw [if_neg c] at hs
        rw [if_neg c]
        exact (hE.2.1 s u hs).imp id fun q => ⟨q.1, VRel.mono hle _ _ q.2⟩
  · cases hd
theorem guard_sound {C : Cx} {m : M} {loc : List V} {env : T V} {a : Act} {σ : Sg} {ops : Array Oper} (hG : Glob K C.G m) (hI : Inv C.G m loc env a σ) (hE : ERel C m env a) {o : Oper} {s : Option (Opd × Bool)}
    (hc : chkG C σ ops o.guard s = true) {b : Bool} (e : evG loc env s = some b) : Region.wanted o (yielded ops a.tmps) = b := by
  unfold Region.wanted
  unfold chkG at hc
  split at hc
  · rename_i hg; rw [hg]; cases e; rfl
  · rename_i j want x want' hg
    rw [hg]
    simp only [Bool.and_eq_true, beq_iff_eq] at hc
    obtain ⟨rfl, hc⟩ := hc
    split at hc
    · rename_i d hd
      simp only [Bool.and_eq_true, Nat.blt_eq] at hc
      unfold evG at e
      simp only [] at e
      split at e
      · rename_i c hx
        cases e
        have hr := opd_sound hG hI hE hc.2 hx
        simp only [VRel, Act.eval] at hr
        have hlt : d < a.tmps.size := by rw [hE.1]; exact hc.1
        have : a.tmps[d]? = some (.bool c) := by
          rw [Array.getD_eq_getD_getElem?, Array.getElem?_eq_getElem hlt] at hr
          rw [Array.getElem?_eq_getElem hlt]
          simpa using hr
        simp only [yielded, hd, Option.bind_some, this]
        cases c <;> cases want <;> rfl
      · rename_i c hx
        cases e
        have hr := opd_sound hG hI hE hc.2 hx
        simp only [VRel, Act.eval] at hr
        obtain ⟨c', hr, _⟩ := hr
        have hlt : d < a.tmps.size := by rw [hE.1]; exact hc.1
        have : a.tmps[d]? = some (.tuple c'.toArray) := by
          rw [Array.getD_eq_getD_getElem?, Array.getElem?_eq_getElem hlt] at hr
          rw [Array.getElem?_eq_getElem hlt]
          simpa using hr
        simp only [yielded, hd, Option.bind_some, this]
        cases want <;> rfl
      · cases e
    · cases hc
  · cases hc
theorem alias_sound {C : Cx} {m : M} {loc : List V} {env : T V} {a : Act} {σ : Sg} {ops : Array Oper} (hG : Glob K C.G m) (hI : Inv C.G m loc env a σ) (hE : ERel C m env a) {o : Oper} {p : Nat × Src}
    (h : aliasOf C σ ops o = some p) : ∃ x, o.op = .move x ∧ o.guard = none ∧ o.dst = some p.1 ∧ Inv C.G m loc env (a.put o.dst (a.eval x)) (p :: σ) ∧ ERel C m env (a.put o.dst (a.eval x)) := by
  unfold aliasOf at h
  split at h
  · rename_i x d hop hgd hds
    split at h
    · rename_i hcd
      simp only [Bool.and_eq_true, Bool.not_eq_true', Nat.blt_eq] at hcd
      have hlt : d < a.tmps.size := by rw [hE.1]; exact hcd.2
      have hE' : ERel C m env (a.put (some d) (a.eval x)) := by
        refine ⟨by rw [put_size]; exact hE.1, fun s u hs => ?_, hE.2.2⟩
        rcases hE.2.1 s u hs with q | ⟨h1, h2⟩
        · exact .inl q
        refine .inr ⟨h1, ?_⟩
        rw [put_getD a d _ s hlt, if_neg (by intro q; subst q; rw [h1] at hcd; simp at hcd)]
        exact h2
      have hI' : ∀ s0 : Src, (∀ y v, srcOK C.G s0 y = true → evO loc env y = some v → VRel m v (a.eval x)) → Inv C.G m loc env (a.put (some d) (a.eval x)) ((d, s0) :: σ) := by
        intro s0 hs0 t s' hs y u hy he
        simp only [look] at hs
        rw [put_getD a d _ t hlt]
        by_cases c : d = t
        · rw [if_pos c] at hs; cases hs
          rw [if_pos c.symm]
          exact hs0 y u hy he
        · rw [if_neg c] at hs
          rw [if_neg (Ne.symm c)]
          exact hI t s' hs y u hy he
      split at h
      · rename_i t
        split at h
        · rename_i s hl
          split at h
          · cases h
          · cases h
            exact ⟨_, hop, hgd, hds, by rw [hds]; exact hI' _ (fun y v hy he => hI t _ hl y v hy he), by rw [hds]; exact hE'⟩
        · rename_i s hl
          cases h
          exact ⟨_, hop, hgd, hds, by rw [hds]; exact hI' _ (fun y v hy he => hI t _ hl y v hy he), by rw [hds]; exact hE'⟩
        · rename_i hl
          split at h
          · cases h
            have key : ∀ y v, srcOK C.G (.v t) y = true → evO loc env y = some v → VRel m v (a.eval (.tmp t)) := by
              intro y v hy he
              cases y <;> simp [srcOK] at hy
              subst hy
              rename_i hcc
              simp only [Bool.and_eq_true] at hcc
              exact hE.var hcc.1 he
            exact ⟨_, hop, hgd, hds, by rw [hds]; exact hI' _ key, by rw [hds]; exact hE'⟩
          · cases h
      · cases h
        exact ⟨_, hop, hgd, hds, by rw [hds]; exact hI' _ (fun y v hy he => con_sound hG hy he), by rw [hds]; exact hE'⟩
    · cases h
  · cases h
theorem put_defers (a : Act) (d : Option Nat) (x : Value) : (a.put d x).defers = a.defers := by cases d <;> rfl
theorem evSteps_cons (call : CallF) (s : IStep) (l : List IStep) (loc : List V) (env : T V) (h : Heap) : evSteps call (s :: l) loc env h =
    match evG loc env s.gd with
      | some true => (match evOp call loc env h s.op with
        | some (v, h) => evSteps call l (nextL loc v s.dst) (nextE env v s.dst) h
        | none => .fail)
      | some false => evSteps call l (nextL loc (.tup []) s.dst) (nextE env (.tup []) s.dst) h
      | none => .fail := by
  show (match evG loc env s.gd with
      | some true => (match evOp call loc env h s.op with
        | some (v, h) => fV v fun v => (match s.dst with
          | none => evSteps call l (v :: loc) env h
          | some d => evSteps call l loc (env.set d v) h)
        | none => .fail)
      | some false => (match s.dst with
        | none => evSteps call l (.tup [] :: loc) env h
        | some d => evSteps call l loc (env.set d (.tup [])) h)
      | none => .fail) = _
  cases evG loc env s.gd with
  | none => rfl
  | some b =>
    cases b
    · cases s.dst <;> rfl
    · simp only []
      cases evOp call loc env h s.op with
      | none => rfl
      | some p =>
        obtain ⟨v, h'⟩ := p
        simp only [fV_eq]
        cases s.dst <;> rfl
def DefR (m : M) (v : V) (d : Deferred) : Prop := ∃ f first caps args A C', v = .tup (.func (.func f) first caps :: args) ∧ f < YB ∧
  d = { target := .fn (.func f) (List.toArray C'), args := List.toArray A } ∧ VsRel m (first ++ args) A ∧ VsRel m caps C'
def DsL (B : Nat) (m : M) (w : World) : List Deferred → List V → Prop
  | [], vs => vs = []
  | d :: ds, vs => ((∃ r, d = { target := .collected r, args := #[] } ∧ B ≤ r ∧ w.heap[r]? = some (.deferred (some [])) ∧ Off m r ∧ ∀ d' ∈ ds, d'.target ≠ .collected r) ∧ DsL B m w ds vs) ∨
      ∃ v vs', vs = v :: vs' ∧ DefR m v d ∧ DsL B m w ds vs'
def DsR (C : Cx) (B : Nat) (m : M) (w : World) (env : T V) (ds : List Deferred) : Prop :=
  (C.df = true → ∃ l, dsL (env.get DSL) = some l ∧ DsL B m w ds l) ∧ (C.df = false → DsL B m w ds [])
theorem DefR.mono {m m' : M} (l : Le m m') {v : V} {d : Deferred} : DefR m v d → DefR m' v d
  | ⟨f, first, caps, args, A, C', h1, h2, h3, h4, h5⟩ => ⟨f, first, caps, args, A, C', h1, h2, h3, VsRel.mono l _ _ h4, VsRel.mono l _ _ h5⟩
theorem DsL.ext {B : Nat} {m m' : M} {h h' : Heap} {w w' : World} (E : Ext m h w m' h' w') : ∀ {ds : List Deferred} {vs : List V}, DsL B m w ds vs → DsL B m' w' ds vs
  | [], _, e => e
  | _ :: _, _, .inl ⟨⟨r, h1, h2, h3, h4, h5⟩, t⟩ =>
    have hlt := (Array.getElem?_eq_some_iff.1 h3).1
    .inl ⟨⟨r, h1, h2, (E.keep r h4 hlt).trans h3, h4.ext E hlt, h5⟩, DsL.ext E t⟩
  | _ :: _, _, .inr ⟨v, vs', e, d, t⟩ => .inr ⟨v, vs', e, d.mono E.le, DsL.ext E t⟩
theorem DsL.put {B : Nat} {m : M} {w : World} {r : Nat} {x : Obj} : ∀ {ds : List Deferred} {vs : List V}, (∀ d ∈ ds, d.target ≠ .collected r) → DsL B m w ds vs → DsL B m (w.putObj r x) ds vs
  | [], _, _, e => e
  | d :: ds, _, hn, .inl ⟨⟨r', h1, h2, h3, h4, h5⟩, t⟩ =>
    .inl ⟨⟨r', h1, h2, (World.putObj_heap_other (fun e => hn d (by simp) (by rw [h1, e]))).trans h3, h4, h5⟩, DsL.put (fun d' hd => hn d' (by simp [hd])) t⟩
  | d :: ds, _, hn, .inr ⟨v, vs', e, q, t⟩ => .inr ⟨v, vs', e, q, DsL.put (fun d' hd => hn d' (by simp [hd])) t⟩
theorem DsR.ext {C : Cx} {B : Nat} {m m' : M} {h h' : Heap} {w w' : World} (E : Ext m h w m' h' w') {env : T V} {ds : List Deferred} (D : DsR C B m w env ds) : DsR C B m' w' env ds :=
  ⟨fun q => let ⟨l, a, b⟩ := D.1 q; ⟨l, a, b.ext E⟩, fun q => (D.2 q).ext E⟩
theorem DsR.congr {C : Cx} {B : Nat} {m : M} {w : World} {env env' : T V} {ds : List Deferred} (e : env'.get DSL = env.get DSL) (D : DsR C B m w env ds) : DsR C B m w env' ds :=
  ⟨fun q => by rw [e]; exact D.1 q, D.2⟩
theorem DsR.push {C : Cx} {B : Nat} {m : M} {w : World} {env : T V} {ds : List Deferred} (D : DsR C B m w env ds) {r : Nat} (h1 : B ≤ r) (h2 : w.heap[r]? = some (.deferred (some []))) (h3 : Off m r) (h4 : ∀ d ∈ ds, d.target ≠ .collected r) :
    DsR C B m w env ({ target := .collected r, args := #[] } :: ds) :=
  ⟨fun q => let ⟨l, a, b⟩ := D.1 q; ⟨l, a, .inl ⟨⟨r, rfl, h1, h2, h3, h4⟩, b⟩⟩, fun q => .inl ⟨⟨r, rfl, h1, h2, h3, h4⟩, D.2 q⟩⟩
theorem df_notin {C : Cx} {m : M} {env : T V} {a : Act} (hE : ERel C m env a) {d s : Option Nat} (hd : dstOK C d s = true) (v : V) : (nextE env v s).get DSL = env.get DSL := by
  cases s with
  | none => rfl
  | some t =>
    cases d with
    | none => cases hd
    | some d =>
      simp only [dstOK, Bool.and_eq_true] at hd
      have := Nat.eq_of_beq_eq_true hd.1.1; subst this
      simp only [nextE]
      rw [T.get_set_ne]
      intro q
      rw [← q, hE.2.2] at hd
      simp at hd
theorem steps_sound {P : Program} {C : Cx} {call : CallF} (hcall : CallsOK P K C.G call) {ops : Array Oper} {Q : Exit → Act → World → Prop} {ro : Option Nat} {B : Nat} (hro : C.df = true → ro = none) :
    ∀ (os : List Oper) (i : Nat) (steps : List IStep) (σ : Sg) (loc : List V) (env : T V) (h : Heap) (m : M) (a : Act) (w : World) (ex : Ex) (env' : T V) (h' : Heap),
      ops.toList.drop i = os → chkSteps P C ops os steps σ = true → Glob K C.G m → Inv C.G m loc env a σ → ERel C m env a → HRel m h w → DsR C B m w env a.defers →
      evSteps call steps loc env h = .ok ex env' h' →
      (∀ a' w' m', ex = .norm → ERel C m' env' a' → HRel m' h' w' → Ext m h w m' h' w' → DsR C B m' w' env' a'.defers → Q .normal a' w') →
      wpOpsIn (FR ro) 0 P ops Q (List.range' i os.length) a w := by
  intro os
  induction os with
  | nil =>
    intro i steps σ loc env h m a w ex env' h' hdrop hchk hG hI hE H hD e hQ
    cases steps with
    | nil =>
      cases e
      exact hQ a w m rfl hE H (Ext.refl _ _ _) hD
    | cons s l => simp [chkSteps] at hchk
  | cons o os ih =>
    intro i steps σ loc env h m a w ex env' h' hdrop hchk hG hI hE H hD e hQ
    have hoi : ops[i]? = some o := by
      have : (ops.toList.drop i)[0]? = some o := by rw [hdrop]; rfl
      rw [List.getElem?_drop] at this
      simpa using this
    have hdrop' : ops.toList.drop (i + 1) = os := by
      rw [← List.drop_drop, hdrop]; rfl
    simp only [List.length_cons, List.range'_succ]
    rw [wpOpsIn_cons]
    unfold wpOpIn
    rw [hoi]
    simp only []
    unfold chkSteps at hchk
    split at hchk
    · rename_i p hal
      obtain ⟨x, hop, hgd, hds, hI', hE'⟩ := alias_sound hG hI hE hal
      have hw : Region.wanted o (yielded ops a.tmps) = true := by unfold Region.wanted; rw [hgd]
      rw [if_pos hw]
      refine ⟨fun _ _ => trivial, ?_⟩
      show o.uponIn (FR ro) 0 P a _ Q ((o.semAt ro a.eval).run P w)
      have hr : (o.semAt ro a.eval).run P w = .ok (.value (a.eval x)) w := by
        rw [Oper.semAt_eq ro a.eval o (fun c hcc => by rw [hop] at hcc; cases hcc)]; simp [execOp, hop]
      rw [hr]
      exact ih (i + 1) steps (p :: σ) loc env h m _ w ex env' h' hdrop' hchk hG hI' hE' H (by rw [put_defers]; exact hD) e hQ
    · split at hchk
      · cases hchk
      · rename_i s rest
        simp only [Bool.or_eq_true, Bool.and_eq_true] at hchk
        rw [evSteps_cons] at e
        rcases hchk with ⟨⟨⟨hcg, hco⟩, hcd⟩, hrest⟩ | ⟨hcf, hrest⟩
        · cases hg : evG loc env s.gd with
          | none => rw [hg] at e; cases e
          | some b =>
            rw [hg] at e
            have hw := guard_sound hG hI hE hcg hg
            cases b
            · simp only [] at e
              rw [if_neg (by rw [hw]; simp)]
              refine ⟨fun _ _ => trivial, ?_⟩
              obtain ⟨hI', hE'⟩ := after_sound (fun _ _ x => x) hI hE hcd (v := .tup []) (x := undef) ⟨[], rfl, rfl⟩
              exact ih (i + 1) rest _ _ _ h m _ w ex env' h' hdrop' hrest hG hI' hE' H (by rw [put_defers]; exact hD.congr (df_notin hE hcd _)) e hQ
            · simp only [] at e
              rw [if_pos hw]
              cases hop : evOp call loc env h s.op with
              | none => rw [hop] at e; cases e
              | some p =>
                obtain ⟨v, h1⟩ := p
                rw [hop] at e
                simp only [] at e
                refine op_sound hcall hG (fun o y v h1 h2 => opd_sound hG hI hE h1 h2) H hco hop (fun x w' m' r H' E' => ?_)
                obtain ⟨hI', hE'⟩ := after_sound E'.le hI hE hcd r
                exact ih (i + 1) rest _ _ _ h1 m' _ w' ex env' h' hdrop' hrest (hG.ext E') hI' hE' H' (by rw [put_defers]; exact (hD.ext E').congr (df_notin hE hcd _)) e
                  (fun a' w'' m'' h1 h2 h3 h4 h5 => hQ a' w'' m'' h1 h2 h3 (E'.trans h4) h5)
        · -- a deferred call
          unfold chkDf at hcf
          simp only [Bool.and_eq_true] at hcf
          obtain ⟨⟨⟨⟨hdf, hsd⟩, hod⟩, hgd⟩, hop⟩ := hcf
          split at hop
          · rename_i x xs hsop
            split at hop
            · rename_i y args ts hy
              simp only [Bool.and_eq_true] at hop
              split at hsd
              · rename_i d hsd'
                have := Nat.eq_of_beq_eq_true hsd; subst this
                split at hod
                · rename_i hod'
                  split at hgd
                  · rename_i g1 g2
                    have hro' := hro hdf
                    subst hro'
                    have hw : Region.wanted o (yielded ops a.tmps) = true := by unfold Region.wanted; rw [g1]
                    rw [if_pos hw]
                    rw [g2, hsop] at e
                    simp only [evG, evOp] at e
                    split at e
                    · rename_i v h1 hev
                      split at hev
                      · rename_i f first caps hx
                        split at hev
                        · rename_i vs hvs
                          split at hev
                          · rename_i l0 hl0
                            cases hlt : Nat.blt f YB
                            · rw [hlt] at hev; cases hev
                            · rw [hlt] at hev; simp only [cond_true, Option.some.injEq, Prod.mk.injEq] at hev
                              obtain ⟨rfl, rfl⟩ := hev
                              have hO : OpdS C m σ loc env a := fun o y v h1 h2 => opd_sound hG hI hE h1 h2
                              have hv := opds_sound hO _ _ _ hop.2 hvs
                              obtain ⟨f', c', hfe, rf, rc⟩ := hO _ _ _ hop.1 hx
                              refine ⟨fun _ _ => trivial, ?_⟩
                              show o.uponIn (FR none) 0 P a _ Q ((o.semAt none a.eval).run P w)
                              have hr : (o.semAt none a.eval).run P w = .ok (.defer { target := .fn (.func f) (List.toArray c'), args := List.toArray (f' ++ args.toList.map a.eval) }) w := by
                                have q : args.map a.eval = List.toArray (args.toList.map a.eval) := Array.ext' (by simp)
                                rw [Oper.semAt_none]
                                simp only [execOp, hy, resolve, hfe, Deferred.ofValue, Sem.run_bind, Sem.run_pure, Result.andThen_ok]
                                rw [show (List.toArray f' ++ args.map a.eval) = List.toArray (f' ++ args.toList.map a.eval) by simp [q]]
                              rw [hr]
                              show wpOpsIn (FR none) 0 P ops Q (List.range' (i + 1) os.length) (Act.put _ o.dst undef) w
                              rw [hod', hsd'] at *
                              have hI' : Inv C.G m loc (env.set DSL (.agg (.tup (.func (.func f) first caps :: vs) :: l0))) { a with defers := { target := .fn (.func f) (List.toArray c'), args := List.toArray (f' ++ args.toList.map a.eval) } :: a.defers } (bump0 σ) := by
                                intro t s' hs y u hy he
                                unfold bump0 at hs
                                rw [look_unset] at hs
                                cases hl : look σ t with
                                | none => rw [hl] at hs; cases hs
                                | some s0 =>
                                  rw [hl] at hs; cases hs
                                  obtain ⟨hne, h1, h2⟩ := evO_unset hy he
                                  exact hI t s0 hl y u h1 h2
                              have hE' : ERel C m (env.set DSL (.agg (.tup (.func (.func f) first caps :: vs) :: l0))) { a with defers := { target := .fn (.func f) (List.toArray c'), args := List.toArray (f' ++ args.toList.map a.eval) } :: a.defers } := by
                                refine ⟨hE.1, fun s u hs => ?_, hE.2.2⟩
                                rw [T.get_set] at hs
                                by_cases c : s = DSL
                                · exact .inl c
                                · rw [if_neg c] at hs; exact hE.2.1 s u hs
                              refine ih (i + 1) rest (bump0 σ) loc _ h m _ w ex env' h' hdrop' hrest hG hI' hE' H ?_ e hQ
                              obtain ⟨l1, hl1, D⟩ := hD.1 hdf
                              rw [hl0] at hl1; cases hl1
                              exact ⟨fun _ => ⟨_, by rw [T.get_set_self]; rfl, .inr ⟨_, _, rfl, ⟨f, first, caps, vs, _, c', rfl, (Nat.blt_eq ..).mp hlt, rfl, VsRel.append rf hv, rc⟩, D⟩⟩, fun q => absurd (hdf.symm.trans q) (by simp)⟩
                          · cases hev
                        · cases hev
                      · cases hev
                    · cases e
                  · cases hgd
                · cases hod
              · cases hsd
            · cases hop
          · cases hop
def Canon (call : CallF) (env : T V) : List DS → List V → Heap → List V → List Heap → Prop
  | [], _, _, vs, hp => vs = [] ∧ hp = []
  | s :: l, loc, h, vs, hp => ∃ v vs' h', vs = v :: vs' ∧
      (((∃ c, s.2 = some (v, c) ∧ lateOK loc env s.1.op v c = true) ∧ h' = h) ∨ (s.2 = none ∧ evG loc env s.1.gd = some true ∧ evOp call loc env h s.1.op = some (v, h')) ∨ (s.2 = none ∧ evG loc env s.1.gd = some false ∧ v = .tup [] ∧ h' = h)) ∧
      ((effS s = true ∧ ∃ hp', hp = h' :: hp' ∧ Canon call env l (v :: loc) h' vs' hp') ∨ (effS s = false ∧ h' = h ∧ Canon call env l (v :: loc) h vs' hp))
theorem evOp_same {call : CallF} {loc : List V} {env : T V} {h h' : Heap} {o : IOp} {v : V} (he : eff o = false) (e : evOp call loc env h o = some (v, h')) : h' = h := by
  cases o <;> simp [eff] at he <;> simp only [evOp] at e
  all_goals
    split at e
    · split at e
      · cases e; rfl
      · cases e
    · cases e
theorem evOp_pure {call : CallF} {loc : List V} {env : T V} {h h' : Heap} {k : PK} {xs : List Opd} {v : V} (e : evOp call loc env h (.p k xs) = some (v, h')) (g : Heap) : evOp call loc env g (.p k xs) = some (v, g) := by
  simp only [evOp] at e ⊢
  split at e
  · rename_i vs hvs
    split at e
    · rename_i u hu
      cases e; rfl
    · cases e
  · cases e
theorem evDr_cons (call : CallF) (env : T V) (s : DS) (l : List DS) (loc : List V) (hs : List Heap) (h : Heap) : evDr call env (s :: l) loc hs h = match s.2 with
      | some (u, c) => bif lateOK loc env s.1.op u c then evDr call env l (u :: loc) hs h else none
      | none => (match evG loc env s.1.gd with
        | some true => (match evOp call loc env h s.1.op with
          | some (v, h') => fV v fun v => bif eff s.1.op then evDr call env l (v :: loc) (h' :: hs) h' else evDr call env l (v :: loc) hs h
          | none => none)
        | some false => bif eff s.1.op then evDr call env l (.tup [] :: loc) (h :: hs) h else evDr call env l (.tup [] :: loc) hs h
        | none => none) := rfl
theorem canon_of {call : CallF} {env : T V} : ∀ (l : List DS) (loc : List V) (hs : List Heap) (h : Heap) (locF : List V) (hsF : List Heap), evDr call env l loc hs h = some (locF, hsF) →
    ∃ vs hp, Canon call env l loc h vs hp ∧ locF = vs.reverse ++ loc ∧ hsF = hp.reverse ++ hs
  | [], loc, hs, h, locF, hsF, e => by cases e; exact ⟨[], [], ⟨rfl, rfl⟩, rfl, rfl⟩
  | (s, some (u, cs)) :: l, loc, hs, h, locF, hsF, e => by
    rw [evDr_cons] at e
    simp only [] at e
    cases hl : lateOK loc env s.op u cs
    · rw [hl] at e; cases e
    · rw [hl] at e; simp only [cond_true] at e
      obtain ⟨vs, hp, c, rfl, rfl⟩ := canon_of l _ _ _ _ _ e
      exact ⟨u :: vs, hp, ⟨u, vs, h, rfl, .inl ⟨⟨cs, rfl, hl⟩, rfl⟩, .inr ⟨rfl, rfl, c⟩⟩, by simp, rfl⟩
  | (s, none) :: l, loc, hs, h, locF, hsF, e => by
    rw [evDr_cons] at e
    simp only [] at e
    cases hg : evG loc env s.gd with
    | none => rw [hg] at e; cases e
    | some b =>
      rw [hg] at e
      cases b
      · simp only [] at e
        cases he : eff s.op
        · rw [he] at e; simp only [cond_false] at e
          obtain ⟨vs, hp, c, rfl, rfl⟩ := canon_of l _ _ _ _ _ e
          exact ⟨.tup [] :: vs, hp, ⟨.tup [], vs, h, rfl, .inr (.inr ⟨rfl, hg, rfl, rfl⟩), .inr ⟨he, rfl, c⟩⟩, by simp, rfl⟩
        · rw [he] at e; simp only [cond_true] at e
          obtain ⟨vs, hp, c, rfl, rfl⟩ := canon_of l _ _ _ _ _ e
          exact ⟨.tup [] :: vs, h :: hp, ⟨.tup [], vs, h, rfl, .inr (.inr ⟨rfl, hg, rfl, rfl⟩), .inl ⟨he, hp, rfl, c⟩⟩, by simp, by simp⟩
      · simp only [] at e
        cases ho : evOp call loc env h s.op with
        | none => rw [ho] at e; cases e
        | some p =>
          obtain ⟨v, h'⟩ := p
          rw [ho] at e
          simp only [fV_eq] at e
          cases he : eff s.op
          · rw [he] at e; simp only [cond_false] at e
            obtain ⟨vs, hp, c, rfl, rfl⟩ := canon_of l _ _ _ _ _ e
            have := evOp_same he ho; subst this
            exact ⟨v :: vs, hp, ⟨v, vs, h', rfl, .inr (.inl ⟨rfl, hg, ho⟩), .inr ⟨he, rfl, c⟩⟩, by simp, rfl⟩
          · rw [he] at e; simp only [cond_true] at e
            obtain ⟨vs, hp, c, rfl, rfl⟩ := canon_of l _ _ _ _ _ e
            exact ⟨v :: vs, h' :: hp, ⟨v, vs, h', rfl, .inr (.inl ⟨rfl, hg, ho⟩), .inl ⟨he, hp, rfl, c⟩⟩, by simp, by simp⟩
def effs (l : List DS) (i : Nat) : Nat := ((l.take i).filter effS).length
theorem canon_at {call : CallF} {env : T V} : ∀ (l : List DS) (loc : List V) (h : Heap) (vs : List V) (hp : List Heap), Canon call env l loc h vs hp →
    vs.length = l.length ∧ hp.length = effs l l.length ∧ ∀ (i : Nat) s, l[i]? = some s → ∃ v hb ha, vs[i]? = some v ∧ (h :: hp)[effs l i]? = some hb ∧
      (((∃ c, s.2 = some (v, c) ∧ lateOK ((vs.take i).reverse ++ loc) env s.1.op v c = true) ∧ ha = hb) ∨ (s.2 = none ∧ evG ((vs.take i).reverse ++ loc) env s.1.gd = some true ∧ evOp call ((vs.take i).reverse ++ loc) env hb s.1.op = some (v, ha)) ∨ (s.2 = none ∧ evG ((vs.take i).reverse ++ loc) env s.1.gd = some false ∧ v = .tup [] ∧ ha = hb)) ∧
      (effS s = true → (h :: hp)[effs l i + 1]? = some ha) ∧ (effS s = false → ha = hb)
  | [], loc, h, vs, hp, c => by
    obtain ⟨rfl, rfl⟩ := c
    refine ⟨rfl, rfl, fun i s hi => by simp at hi⟩
  | s :: l, loc, h, vs, hp, c => by
    obtain ⟨v, vs', h', rfl, hv, hc⟩ := c
    rcases hc with ⟨he, hp', rfl, c⟩ | ⟨he, rfl, c⟩
    · obtain ⟨l1, l2, l3⟩ := canon_at l (v :: loc) h' vs' hp' c
      refine ⟨by simp [l1], by simp [effs, he] at l2 ⊢; exact l2, fun i t hi => ?_⟩
      cases i with
      | zero =>
        simp at hi; subst hi
        refine ⟨v, h, h', rfl, by simp [effs], by simpa using hv, fun _ => by simp [effs], fun q => by rw [he] at q; cases q⟩
      | succ i =>
        obtain ⟨u, hb, ha, a1, a2, a3, a4, a5⟩ := l3 i t (by simpa using hi)
        refine ⟨u, hb, ha, by simpa using a1, ?_, by simpa using a3, fun q => ?_, a5⟩
        · simpa [effs, he] using a2
        · simpa [effs, he] using a4 q
    · obtain ⟨l1, l2, l3⟩ := canon_at l (v :: loc) h' vs' hp c
      refine ⟨by simp [l1], by simp [effs, he] at l2 ⊢; exact l2, fun i t hi => ?_⟩
      cases i with
      | zero =>
        simp at hi; subst hi
        refine ⟨v, h', h', rfl, by simp [effs], by simpa using hv, fun q => (by rw [he] at q; cases q), fun _ => rfl⟩
      | succ i =>
        obtain ⟨u, hb, ha, a1, a2, a3, a4, a5⟩ := l3 i t (by simpa using hi)
        refine ⟨u, hb, ha, by simpa using a1, ?_, by simpa using a3, fun q => ?_, a5⟩
        · simpa [effs, he] using a2
        · simpa [effs, he] using a4 q
theorem lay_length {call : CallF} {env : T V} {late : List Nat} : ∀ (l : List IStep) (i : Nat) (loc : List V) (h : Heap) (r : List DS) (h' : Heap), lay call env late l i loc h = some (r, h') → r.length = l.length
  | [], i, loc, h, r, h', e => by simp only [lay, Option.some.injEq, Prod.mk.injEq] at e; obtain ⟨rfl, _⟩ := e; rfl
  | s :: l, i, loc, h, r, h', e => by
    simp only [lay] at e
    cases hc : late.contains i
    · rw [hc] at e; simp only [cond_false] at e
      split at e
      · rename_i r' h2 h3
        cases e; simp [lay_length l _ _ _ _ _ h3]
      · cases e
    · rw [hc] at e; simp only [cond_true] at e
      split at e
      · split at e
        · rename_i r' h2 h3
          cases e; simp [lay_length l _ _ _ _ _ h3]
        · cases e
      · cases e
theorem lid_lateV (id : Nat) (k : Option (Nat × Nat)) : lid (lateV id k) = id := by cases k <;> rfl
theorem lay_at {call : CallF} {env : T V} {late : List Nat} : ∀ (l : List IStep) (i : Nat) (loc : List V) (h : Heap) (r : List DS) (h' : Heap), lay call env late l i loc h = some (r, h') →
    (∀ (j : Nat) s, l[j]? = some s → (late.contains (i + j) = false ∧ r[j]? = some (s, none)) ∨
      (late.contains (i + j) = true ∧ ∃ u c, r[j]? = some (s, some (u, c)) ∧ h.next ≤ lid u ∧ lid u < h'.next ∧ h'.bl.get (lid u) = some (.row c (lid u) 0))) ∧
    (∀ (j k : Nat) s t u v cu cv, j < k → r[j]? = some (s, some (u, cu)) → r[k]? = some (t, some (v, cv)) → lid u < lid v) ∧ (∀ (j : Nat) s u cu, r[j]? = some (s, some (u, cu)) → h.next ≤ lid u) ∧
    h.next ≤ h'.next ∧ (∀ p, p < h.next → h'.bl.get p = h.bl.get p) ∧ ∀ m w, HRel m h w → HRel m h' w
  | [], i, loc, h, r, h', e => by
    simp only [lay, Option.some.injEq, Prod.mk.injEq] at e; obtain ⟨rfl, rfl⟩ := e
    exact ⟨fun j s hj => by simp at hj, fun j k s t u v _ _ _ hj => by simp at hj, fun j s u _ hj => by simp at hj, Nat.le_refl _, fun _ _ => rfl, fun _ _ H => H⟩
  | s :: l, i, loc, h, r, h', e => by
    simp only [lay] at e
    cases hc : late.contains i
    · rw [hc] at e; simp only [cond_false] at e
      split at e
      · rename_i r' h2 h3
        cases e
        obtain ⟨a3, a4, a5, a1, a2, a6⟩ := lay_at l _ _ _ _ _ h3
        refine ⟨fun j t hj => ?_, fun j k s' t u v cu cv hjk hj hk => ?_, fun j s' u cu hj => ?_, a1, a2, a6⟩
        · cases j with
          | zero => simp at hj; subst hj; exact .inl ⟨by simpa using hc, rfl⟩
          | succ j =>
            rcases a3 j t (by simpa using hj) with ⟨b1, b2⟩ | ⟨b1, u, c, b2, b3⟩
            · exact .inl ⟨by rw [show i + (j + 1) = i + 1 + j by omega]; exact b1, by simpa using b2⟩
            · exact .inr ⟨by rw [show i + (j + 1) = i + 1 + j by omega]; exact b1, u, c, by simpa using b2, b3⟩
        · cases j with
          | zero => simp at hj
          | succ j => cases k with
            | zero => omega
            | succ k => exact a4 j k s' t u v cu cv (by omega) (by simpa using hj) (by simpa using hk)
        · cases j with
          | zero => simp at hj
          | succ j => exact a5 j s' u cu (by simpa using hj)
      · cases e
    · rw [hc] at e; simp only [cond_true] at e
      split at e
      · rename_i c kk hlc
        split at e
        · rename_i r' h2 h3
          cases e
          obtain ⟨a3, a4, a5, a1, a2, a6⟩ := lay_at l _ _ _ _ _ h3
          have hnx : (halloc h c).next = h.next + 1 := rfl
          rw [hnx] at a1 a2 a5
          have hlid := lid_lateV h.next kk
          refine ⟨fun j t hj => ?_, fun j k s' t u v cu cv hjk hj hk => ?_, fun j s' u cu hj => ?_, by omega, fun p hp => ?_, fun m w H => a6 m w ?_⟩
          · cases j with
            | zero =>
              simp at hj; subst hj
              refine .inr ⟨by simpa using hc, lateV h.next kk, c, rfl, by omega, by omega, ?_⟩
              rw [hlid, a2 _ (by omega), halloc, T.get_set_self]
            | succ j =>
              rcases a3 j t (by simpa using hj) with ⟨b1, b2⟩ | ⟨b1, u, c', b2, b5, b6, b7⟩
              · exact .inl ⟨by rw [show i + (j + 1) = i + 1 + j by omega]; exact b1, by simpa using b2⟩
              · rw [hnx] at b5
                exact .inr ⟨by rw [show i + (j + 1) = i + 1 + j by omega]; exact b1, u, c', by simpa using b2, by omega, b6, b7⟩
          · cases j with
            | zero =>
              simp at hj
              obtain ⟨rfl, rfl, rfl⟩ := hj
              cases k with
              | zero => omega
              | succ k => have := a5 k t v cv (by simpa using hk); rw [hlid]; omega
            | succ j => cases k with
              | zero => omega
              | succ k => exact a4 j k s' t u v cu cv (by omega) (by simpa using hj) (by simpa using hk)
          · cases j with
            | zero => simp at hj; obtain ⟨rfl, rfl, rfl⟩ := hj; rw [hlid]; exact Nat.le_refl _
            | succ j => have := a5 j s' u cu (by simpa using hj); omega
          · rw [a2 p (by omega), halloc, T.get_set_ne _ _ (by omega)]
          · have hold : ∀ p loc, m p = some loc → p ≠ h.next := fun p loc hp q => by subst q; rw [H.unmapped (Nat.le_refl _)] at hp; cases hp
            refine ⟨⟨⟨?_, ?_⟩, ?_, H.inb, ?_⟩, H.tg⟩
            · intro p cp f k hp
              show match h.fams.get f with | none => f = p | some (_, e) => k ≤ e
              rw [halloc, T.get_set] at hp
              by_cases q : p = h.next
              · rw [if_pos q] at hp; cases hp
                rw [(H.wf.fresh h.next (Nat.le_refl _)).2]; exact q.symm
              · rw [if_neg q] at hp; exact H.wf.fam _ _ _ _ hp
            · intro p hp
              have hp' : h.next + 1 ≤ p := hp
              refine ⟨?_, (H.wf.fresh p (by omega)).2⟩
              rw [halloc, T.get_set_ne _ _ (by omega)]
              exact (H.wf.fresh p (by omega)).1
            · intro p loc hp
              obtain ⟨b, hb, rb⟩ := H.blk p loc hp
              exact ⟨b, by rw [halloc, T.get_set_ne _ _ (hold p loc hp)]; exact hb, rb.mono (fun _ _ x => x) (fun _ _ _ _ x => x) rfl⟩
            · intro p q lp lq hp hq he hne
              obtain ⟨cp, cq, f, kp, kq, b1, b2, b3⟩ := H.sep p q lp lq hp hq he hne
              exact ⟨cp, cq, f, kp, kq, by rw [halloc, T.get_set_ne _ _ (hold p lp hp)]; exact b1, by rw [halloc, T.get_set_ne _ _ (hold q lq hq)]; exact b2, b3⟩
        · cases e
      · cases e
def markL (late : List Nat) : List IStep → Nat → List DS
  | [], _ => []
  | s :: l, i => (s, bif late.contains i then some (.nilp, []) else none) :: markL late l (i + 1)
theorem markL_effS {call : CallF} {env : T V} {late : List Nat} : ∀ (l : List IStep) (i : Nat) (loc : List V) (h : Heap) (r : List DS) (h' : Heap), lay call env late l i loc h = some (r, h') → (markL late l i).map effS = r.map effS
  | [], i, loc, h, r, h', e => by simp only [lay, Option.some.injEq, Prod.mk.injEq] at e; obtain ⟨rfl, _⟩ := e; rfl
  | s :: l, i, loc, h, r, h', e => by
    simp only [lay] at e
    cases hc : late.contains i
    · rw [hc] at e; simp only [cond_false] at e
      split at e
      · rename_i r' h2 h3
        cases e; simp only [markL, hc, cond_false, List.map_cons, markL_effS l _ _ _ _ _ h3]
      · cases e
    · rw [hc] at e; simp only [cond_true] at e
      split at e
      · split at e
        · rename_i r' h2 h3
          cases e; simp only [markL, hc, cond_true, List.map_cons, markL_effS l _ _ _ _ _ h3]; rfl
        · cases e
      · cases e
def bef (B : List Nat) (i j : Nat) : Bool := Nat.testBit (B.getD i 0) j
def chkB (ops : Array Oper) (B : List Nat) : Bool :=
  (List.range ops.size).all fun i => (List.range ops.size).all fun j => !bef B i j ||
    (match ops[i]? with
      | some o => o.after.toList.any fun e => Region.binds .any e && Nat.blt e.on i && (Nat.beq e.on j || bef B e.on j)
      | none => false)
def rankOK (md : Region.Mode) (ops : Array Oper) (R : Nat → Nat) : Bool :=
  (List.range ops.size).all fun i => match ops[i]? with
    | some o => o.after.toList.all fun e => !Region.binds md e || (Nat.blt (R e.on) (R i) && Nat.blt e.on ops.size)
    | none => false
def chkEdges (ops : Array Oper) (R : List Nat) : Bool := rankOK .any ops id && rankOK .text ops id && rankOK .gc ops (fun i => R.getD i 0)
def sigFrom (ops : Array Oper) (B : List Nat) (i : Nat) : List Nat → Sg
  | [] => []
  | j :: js => match (ops[j]?).bind (·.dst) with
    | some t => if bef B i j then (t, .l (i - 1 - j)) :: sigFrom ops B i js
                else if i = j ∨ bef B j i = true then sigFrom ops B i js
                else (t, .bad) :: sigFrom ops B i js
    | none => sigFrom ops B i js
def sig (ops : Array Oper) (B : List Nat) (i : Nat) : Sg := sigFrom ops B i (List.range ops.size)
def isLd : IOp → Bool
  | .ld _ _ _ => true
  | .lk _ _ _ _ => true
  | .b2s _ => true
  | _ => false
def effIx (l : List DS) : List Nat := (List.range l.length).filter fun i => match l[i]? with | some s => effS s | none => false
def readOK (l : List DS) (B : List Nat) (reads : List (Nat × Nat × Nat)) (i : Nat) : Bool :=
  reads.any fun (r : Nat × Nat × Nat) => Nat.beq r.1 i && Nat.ble r.2.1 ((effIx l).filter fun e => bef B i e).length && Nat.ble ((effIx l).length - ((effIx l).filter fun e => bef B e i).length) r.2.2
def dstsOK (C : Cx) (ops : Array Oper) (sets : List (Nat × Nat)) : Bool :=
  ((List.range ops.size).all fun i => match (ops[i]?).bind (·.dst) with
    | some t => Nat.blt t C.N && (!C.vars.contains t || sets.contains (t, i)) && (List.range ops.size).all (fun j => Nat.beq i j || (match (ops[j]?).bind (·.dst) with | some u => !Nat.beq t u | none => true))
    | none => true) &&
  sets.all fun (p : Nat × Nat) => Nat.blt p.2 ops.size && C.vars.contains p.1 && (match (ops[p.2]?).bind (·.dst) with | some t => Nat.beq t p.1 | none => false)
def chkD (P : Program) (C : Cx) (ops : Array Oper) (l : List IStep) (late B R : List Nat) (reads : List (Nat × Nat × Nat)) (sets : List (Nat × Nat)) : Bool :=
  Nat.beq ops.size l.length && chkEdges ops R && chkB ops B && dstsOK C ops sets &&
  ((List.range ops.size).all fun i => match ops[i]?, l[i]? with
    | some o, some s => chkG C (sig ops B i) ops o.guard s.gd && chkOp P C (sig ops B i) o s.op && (!isLd s.op || readOK (markL late l 0) B reads i) && (!late.contains i || o.guard.isNone)
    | _, _ => false) &&
  ((effIx (markL late l 0)).all fun i => (effIx (markL late l 0)).all fun j => !Nat.blt i j || bef B j i)
theorem range_all {n : Nat} {p : Nat → Bool} (h : (List.range n).all p = true) {i : Nat} (hi : i < n) : p i = true := List.all_eq_true.1 h i (by simpa using hi)
abbrev dn (L : Array Bool) (i : Nat) : Prop := L.getD i false = true
theorem bef_done {ops : Array Oper} {B : List Nat} (hB : chkB ops B = true) {L : Array Bool} (hcl : ∀ i o, ops[i]? = some o → dn L i → ∀ e ∈ o.after, Region.binds .any e = true → dn L e.on) :
    ∀ (i : Nat) o, ops[i]? = some o → (∀ e ∈ o.after, Region.binds .any e = true → dn L e.on) → ∀ j, bef B i j = true → j < ops.size → dn L j := by
  intro i
  induction i using Nat.strongRecOn with
  | _ i ih =>
    intro o ho hed j hb hj
    have hi : i < ops.size := (Array.getElem?_eq_some_iff.1 ho).1
    have h1 := range_all (range_all hB hi) hj
    simp only [hb, Bool.not_true, Bool.false_or, ho] at h1
    obtain ⟨e, he, h2⟩ := List.any_eq_true.1 h1
    simp only [Bool.and_eq_true, Nat.blt_eq, Bool.or_eq_true] at h2
    have hde := hed e (by simpa using he) h2.1.1
    rcases h2.2 with q | q
    · have := Nat.eq_of_beq_eq_true q; subst this; exact hde
    · have hle : e.on < ops.size := by have := h2.1.2; omega
      exact ih e.on h2.1.2 _ (Array.getElem?_eq_getElem hle) (hcl e.on _ (Array.getElem?_eq_getElem hle) hde) j q hj
theorem look_sig {ops : Array Oper} {B : List Nat} {i : Nat} : ∀ (js : List Nat) t s, look (sigFrom ops B i js) t = some s → ∃ j, j ∈ js ∧ (ops[j]?).bind (·.dst) = some t ∧ ((bef B i j = true ∧ s = .l (i - 1 - j)) ∨ s = .bad)
  | [], t, s, h => by simp [sigFrom, look] at h
  | j :: js, t, s, h => by
    simp only [sigFrom] at h
    split at h
    · rename_i u hu
      split at h
      · rename_i hb
        simp only [look] at h
        by_cases c : u = t
        · rw [if_pos c] at h; cases h; subst c
          exact ⟨j, by simp, hu, .inl ⟨hb, rfl⟩⟩
        · rw [if_neg c] at h
          obtain ⟨j', h1, h2⟩ := look_sig js t s h
          exact ⟨j', by simp [h1], h2⟩
      · split at h
        · obtain ⟨j', h1, h2⟩ := look_sig js t s h
          exact ⟨j', by simp [h1], h2⟩
        · simp only [look] at h
          by_cases c : u = t
          · rw [if_pos c] at h; cases h; subst c
            exact ⟨j, by simp, hu, .inr rfl⟩
          · rw [if_neg c] at h
            obtain ⟨j', h1, h2⟩ := look_sig js t s h
            exact ⟨j', by simp [h1], h2⟩
    · obtain ⟨j', h1, h2⟩ := look_sig js t s h
      exact ⟨j', by simp [h1], h2⟩
theorem look_sig_none {ops : Array Oper} {B : List Nat} {i : Nat} : ∀ (js : List Nat) t, look (sigFrom ops B i js) t = none → ∀ j ∈ js, (ops[j]?).bind (·.dst) = some t → bef B i j = false ∧ (i = j ∨ bef B j i = true)
  | [], t, h, j, hj, _ => by simp at hj
  | k :: js, t, h, j, hj, hd => by
    simp only [sigFrom] at h
    rcases List.mem_cons.1 hj with rfl | hj
    · rw [hd] at h
      simp only [] at h
      cases hb : bef B i j
      · simp only [hb, Bool.false_eq_true, if_false] at h
        by_cases c : i = j ∨ bef B j i = true
        · exact ⟨rfl, c⟩
        · rw [if_neg c] at h; simp [look] at h
      · simp [hb, look] at h
    · have : look (sigFrom ops B i js) t = none := by
        split at h
        · rename_i u hu
          split at h
          · simp only [look] at h
            by_cases c : u = t
            · rw [if_pos c] at h; cases h
            · rw [if_neg c] at h; exact h
          · split at h
            · exact h
            · simp only [look] at h
              by_cases c : u = t
              · rw [if_pos c] at h; cases h
              · rw [if_neg c] at h; exact h
        · exact h
      exact look_sig_none js t this j hj hd
noncomputable def cnt (l : List DS) (L : Array Bool) : Nat := ((effIx l).filter fun e => L.getD e false).length
theorem filter_le {α : Type} {p q : α → Bool} : ∀ (l : List α), (∀ x ∈ l, p x = true → q x = true) → (l.filter p).length ≤ (l.filter q).length
  | [], _ => by simp
  | x :: l, h => by
    have ih := filter_le l fun y hy => h y (by simp [hy])
    by_cases hp : p x = true
    · have hq := h x (by simp) hp
      simp [hp, hq]; exact ih
    · by_cases hq : q x = true
      · simp [hp, hq]; omega
      · simp [hp, hq]; exact ih
theorem filter_split {α : Type} {p q : α → Bool} : ∀ (l : List α), (∀ x ∈ l, p x = true → q x = false) → (l.filter p).length + (l.filter q).length ≤ l.length
  | [], _ => by simp
  | x :: l, h => by
    have ih := filter_split l fun y hy => h y (by simp [hy])
    by_cases hp : p x = true
    · have hq := h x (by simp) hp
      simp [hp, hq]; omega
    · by_cases hq : q x = true
      · simp [hp, hq]; omega
      · simp [hp, hq]; omega
theorem effIx_mem {l : List DS} {i : Nat} : i ∈ effIx l ↔ ∃ s, l[i]? = some s ∧ effS s = true := by
  unfold effIx
  rw [List.mem_filter]
  constructor
  · rintro ⟨_, h⟩
    split at h
    · rename_i s hs; exact ⟨s, hs, h⟩
    · cases h
  · rintro ⟨s, hs, he⟩
    have := (List.getElem?_eq_some_iff.1 hs).1
    exact ⟨by simpa using this, by rw [hs]; exact he⟩
theorem effIx_of {l : List DS} {a : Nat} (h : (match l[a]? with | some s => effS s | none => false) = true) : a ∈ effIx l := by
  rw [effIx_mem]
  split at h
  · rename_i s hs; exact ⟨s, hs, h⟩
  · cases h
theorem effIx_take (l : List DS) : ∀ i, i ≤ l.length → effs l i = ((List.range i).filter fun j => match l[j]? with | some s => effS s | none => false).length := by
  intro i
  induction i with
  | zero => intro _; simp [effs]
  | succ i ih =>
    intro hi
    have hlt : i < l.length := by omega
    rw [List.range_succ, List.filter_append, List.length_append, ← ih (by omega)]
    unfold effs
    rw [List.take_succ_eq_append_getElem hlt, List.filter_append, List.length_append]
    congr 1
    simp [List.filter_cons, hlt]
    split <;> simp
theorem cnt_eq {l : List DS} {L : Array Bool} {i : Nat} (hi : i ≤ l.length) (h1 : ∀ e ∈ effIx l, e < i → dn L e) (h2 : ∀ e ∈ effIx l, i ≤ e → ¬ dn L e) : cnt l L = effs l i := by
  rw [effIx_take l i (by omega)]
  unfold cnt effIx
  rw [List.filter_filter]
  have : ∀ n, i ≤ n → n ≤ l.length → ((List.range n).filter fun a => L.getD a false && (match l[a]? with | some s => effS s | none => false)).length = ((List.range i).filter fun j => match l[j]? with | some s => effS s | none => false).length := by
    intro n hn
    induction n with
    | zero => intro _; have : i = 0 := by omega
              subst this; rfl
    | succ n ih =>
      intro hnl
      by_cases c : i = n + 1
      · subst c
        congr 1
        apply List.filter_congr
        intro a ha
        have ha' : a < n + 1 := by simpa using ha
        cases hm : (match l[a]? with | some s => effS s | none => false)
        · simp
        · have : dn L a := h1 a (effIx_of hm) ha'
          rw [this]; rfl
      · rw [List.range_succ, List.filter_append, List.length_append, ih (by omega) (by omega)]
        have : ((List.filter (fun a => L.getD a false && (match l[a]? with | some s => effS s | none => false)) [n]).length = 0) := by
          simp only [List.filter_cons, List.filter_nil]
          cases hm : (match l[n]? with | some s => effS s | none => false)
          · simp
          · have : ¬ dn L n := h2 n (effIx_of hm) (by omega)
            have : L.getD n false = false := by simpa [dn] using this
            rw [this]; rfl
        omega
  exact this l.length (by omega) (Nat.le_refl _)
theorem effIx_map {l r : List DS} (h : l.map effS = r.map effS) : effIx l = effIx r := by
  have hl : l.length = r.length := by have := congrArg List.length h; simpa using this
  unfold effIx
  rw [hl]
  apply List.filter_congr
  intro i _
  have : (l.map effS)[i]? = (r.map effS)[i]? := by rw [h]
  rw [List.getElem?_map, List.getElem?_map] at this
  cases h1 : l[i]? <;> cases h2 : r[i]? <;> simp_all
variable {K : LG → Prop}
theorem effs_succ {l : List DS} {i : Nat} {s : DS} (hs : l[i]? = some s) (he : effS s = true) : effs l (i + 1) = effs l i + 1 := by
  have hlt := (List.getElem?_eq_some_iff.1 hs).1
  have hg : l[i] = s := by rw [List.getElem?_eq_getElem hlt] at hs; cases hs; rfl
  unfold effs
  rw [List.take_succ_eq_append_getElem hlt, List.filter_append, List.length_append, hg]
  simp [he]
theorem cnt_set_ne {l : List DS} {L : Array Bool} {i : Nat} (h : i ∉ effIx l) : cnt l (L.setIfInBounds i true) = cnt l L := by
  unfold cnt
  congr 1
  apply List.filter_congr
  intro e he
  exact getD_set_ne false (fun q => h (q ▸ he))
theorem dn_set {L : Array Bool} {i j : Nat} (hi : i < L.size) : dn (L.setIfInBounds i true) j ↔ j = i ∨ dn L j := by
  by_cases c : i = j
  · subst c
    simp [dn, hi]
  · unfold dn
    rw [getD_set_ne false c]
    constructor
    · exact fun h => .inr h
    · rintro (h | h)
      · exact absurd h.symm c
      · exact h
theorem loc_get {vals : List V} {i j : Nat} (hi : i ≤ vals.length) (hj : j < i) : ((vals.take i).reverse ++ [])[i - 1 - j]? = vals[j]? := by
  have hl : (vals.take i).length = i := by simp; omega
  rw [List.append_nil, List.getElem?_reverse (by omega), hl, List.getElem?_take, if_pos (by omega)]
  congr 1; omega
theorem setsE_get {n : Nat} {loc : List V} : ∀ (sets : List (Nat × Nat)) (env env' : T V), setsE n loc sets env = some env' → ∀ s v, env'.get s = some v →
    (∃ i, (s, i) ∈ sets ∧ loc[n - i - 1]? = some v) ∨ ((∀ i, (s, i) ∉ sets) ∧ env.get s = some v)
  | [], env, env', e, s, v, h => by cases e; exact .inr ⟨by simp, h⟩
  | (t, i) :: r, env, env', e, s, v, h => by
    simp only [setsE] at e
    split at e
    · rename_i u hu
      rcases setsE_get r _ _ e s v h with ⟨j, hj, hv⟩ | ⟨hn, hv⟩
      · exact .inl ⟨j, by simp [hj], hv⟩
      · rw [T.get_set] at hv
        by_cases c : s = t
        · subst c; rw [if_pos rfl] at hv; cases hv
          exact .inl ⟨i, by simp, hu⟩
        · rw [if_neg c] at hv
          exact .inr ⟨fun j hj => by
            rcases List.mem_cons.1 hj with q | q
            · cases q; exact c rfl
            · exact hn j q, hv⟩
    · cases e
theorem rdAll_get {call : CallF} {loc : List V} {env : T V} {o : IOp} {v : V} : ∀ (hs : List Heap), rdAll call loc env o v hs = true → ∀ g ∈ hs, ∃ g', evOp call loc env g o = some (v, g')
  | [], _, g, hg => by simp at hg
  | h :: hs, hr, g, hg => by
    simp only [rdAll, Bool.and_eq_true] at hr
    rcases List.mem_cons.1 hg with rfl | hg
    · obtain ⟨h1, _⟩ := hr
      split at h1
      · rename_i u g' hu
        have := vEq_eq _ _ h1; subst this
        exact ⟨g', hu⟩
      · cases h1
    · exact rdAll_get hs hr.2 g hg
section
variable {P : Program} {C : Cx} {call : CallF} {ops : Array Oper} {l : List DS} {B : List Nat} {reads : List (Nat × Nat × Nat)} {sets : List (Nat × Nat)}
structure DI (C : Cx) (ops : Array Oper) (l : List DS) (env : T V) (vals : List V) (Hs : List Heap) (m0 : M) (h : Heap) (w0 : World) (a0 : Act) (L : Array Bool) (a : Act) (w : World) (m : M) (hk : Heap) : Prop where
  lsz : L.size = ops.size
  closed : ∀ i o, ops[i]? = some o → dn L i → ∀ e ∈ o.after, Region.binds .any e = true → dn L e.on
  size : a.tmps.size = C.N
  defers : a.defers = a0.defers
  old : ∀ t, (∀ i, dn L i → (ops[i]?).bind (·.dst) ≠ some t) → a.tmps.getD t undef = a0.tmps.getD t undef
  at_ : Hs[cnt l L]? = some hk
  rel : HRel m hk w
  ext : Ext m0 h w0 m hk w
  vals : ∀ i v t, dn L i → vals[i]? = some v → (ops[i]?).bind (·.dst) = some t → VRel m v (a.tmps.getD t undef)
  unm : ∀ (i : Nat) s u c, l[i]? = some (s, some (u, c)) → ¬ dn L i → m (lid u) = none ∧ hk.bl.get (lid u) = some (.row c (lid u) 0) ∧ lid u < hk.next
theorem DI.next {env : T V} {vals : List V} {Hs : List Heap} {m0 m m' : M} {h hk hk' : Heap} {w0 w w' : World} {a0 a : Act} {L : Array Bool} (D : DI C ops l env vals Hs m0 h w0 a0 L a w m hk)
    (hds : dstsOK C ops sets = true) {i : Nat} {o : Oper} (ho : ops[i]? = some o) (hni : ¬ dn L i) (hed : ∀ e ∈ o.after, Region.binds .any e = true → dn L e.on) {v : V} {x : Value} (hv : vals[i]? = some v) (r : VRel m' v x)
    (H' : HRel m' hk' w') (hle : Le m m') (E0 : Ext m0 h w0 m' hk' w') (hat : Hs[cnt l (L.setIfInBounds i true)]? = some hk')
    (hun : ∀ (j : Nat) s u c, l[j]? = some (s, some (u, c)) → ¬ dn (L.setIfInBounds i true) j → m' (lid u) = none ∧ hk'.bl.get (lid u) = some (.row c (lid u) 0) ∧ lid u < hk'.next) :
    DI C ops l env vals Hs m0 h w0 a0 (L.setIfInBounds i true) (a.put o.dst x) w' m' hk' := by
  have hi : i < ops.size := (Array.getElem?_eq_some_iff.1 ho).1
  have hiL : i < L.size := by rw [D.lsz]; exact hi
  have hds1 := range_all (Bool.and_eq_true_iff.1 hds).1 hi
  have hoi : (ops[i]?).bind (·.dst) = o.dst := by rw [ho]; rfl
  rw [hoi] at hds1
  have hlt : ∀ t, o.dst = some t → t < a.tmps.size := by
    intro t ht; rw [ht] at hds1; simp only [Bool.and_eq_true, Nat.blt_eq] at hds1; rw [D.size]; exact hds1.1.1
  have huniq : ∀ t, o.dst = some t → ∀ j, j < ops.size → j ≠ i → (ops[j]?).bind (·.dst) ≠ some t := by
    intro t ht j hj hne hd
    rw [ht] at hds1; simp only [Bool.and_eq_true] at hds1
    have := range_all hds1.2 hj
    rw [hd] at this
    simp only [Bool.or_eq_true] at this
    rcases this with q | q
    · exact hne (Nat.eq_of_beq_eq_true q).symm
    · simp at q
  refine ⟨by simpa using D.lsz, ?_, by rw [put_size]; exact D.size, by rw [put_defers]; exact D.defers, ?_, hat, H', E0, ?_, hun⟩
  · intro j p hj hdj e he hbi
    rw [dn_set hiL] at hdj ⊢
    rcases hdj with rfl | hdj
    · rw [ho] at hj; cases hj; exact .inr (hed e he hbi)
    · exact .inr (D.closed j p hj hdj e he hbi)
  · intro t ht
    have h1 : o.dst ≠ some t := by
      have := ht i ((dn_set hiL).2 (.inl rfl)); rwa [hoi] at this
    have h2 := D.old t (fun j hj => ht j ((dn_set hiL).2 (.inr hj)))
    cases hd : o.dst with
    | none => exact h2
    | some d =>
      rw [put_getD a d x t (hlt d hd), if_neg (by intro q; subst q; exact h1 hd)]; exact h2
  · intro j u t hj hu ht
    rw [dn_set hiL] at hj
    by_cases c : j = i
    · subst c
      rw [hoi] at ht
      rw [hv] at hu; cases hu
      rw [ht, put_getD a t x t (hlt t ht), if_pos rfl]; exact r
    · have hdj : dn L j := hj.resolve_left c
      have := D.vals j u t hdj hu ht
      cases hd : o.dst with
      | none => exact VRel.mono hle _ _ this
      | some d =>
        have hjlt : j < ops.size := by
          rcases Nat.lt_or_ge j ops.size with q | q
          · exact q
          · rw [Array.getElem?_eq_none q] at ht; cases ht
        rw [put_getD a d x t (hlt d hd), if_neg (by intro q; subst q; exact huniq t hd j hjlt c ht)]
        exact VRel.mono hle _ _ this
theorem DI.unm_next {env : T V} {vals : List V} {Hs : List Heap} {m0 m m' : M} {h hk hk' : Heap} {w0 w w' : World} {a0 a : Act} {L : Array Bool} (D : DI C ops l env vals Hs m0 h w0 a0 L a w m hk)
    {i : Nat} (hi : i < L.size) (E' : Ext m hk w m' hk' w') : ∀ (j : Nat) s u c, l[j]? = some (s, some (u, c)) → ¬ dn (L.setIfInBounds i true) j →
      m' (lid u) = none ∧ hk'.bl.get (lid u) = some (.row c (lid u) 0) ∧ lid u < hk'.next := by
  intro j s u c hj hnd
  obtain ⟨b1, b2, b3⟩ := D.unm j s u c hj (fun hd => hnd ((dn_set hi).2 (.inr hd)))
  refine ⟨?_, (E'.phan _ b1 b3).trans b2, Nat.lt_of_lt_of_le b3 E'.next⟩
  cases hm : m' (lid u) with
  | none => rfl
  | some loc => have := (E'.new _ _ hm b1).1; omega
theorem HRel.materialize {m : M} {h : Heap} {w : World} (H : HRel m h w) {p : Nat} {c : List V} {f k : Nat} {X : Array Value} {elem : TypeId} (hm : m p = none) (hb : h.bl.get p = some (.row c f k)) (hX : VsRel m c X.toList) :
    HRel (mset m p ⟨w.heap.size, 0, X.size, none⟩) h (w.alloc (.cells X elem)) := by
  have hle : Le m (mset m p ⟨w.heap.size, 0, X.size, none⟩) := by
    intro q l hq
    rw [mset_ne]
    · exact hq
    · intro e; subst e; rw [hm] at hq; cases hq
  have hXl := hX.length
  refine ⟨⟨H.wf, ?_, ?_, ?_⟩, fun q ty n hp => let ⟨loc, C, fz, a, b, c, d⟩ := H.tg q ty n hp; ⟨loc, C, fz, hle _ _ a, b, (heap_alloc_old w _ _ (H.inb q loc a)).trans c, d⟩⟩
  · intro q loc hq
    by_cases e : q = p
    · subst e
      rw [mset_self] at hq; cases hq
      refine ⟨_, hb, fun _ => ⟨X, elem, (0, 0), heap_alloc_new w _, by simp, by simp at hXl; simp only []; omega, fun i v hi => ?_, fun i _ => by simp⟩⟩
      obtain ⟨x, hx, rx⟩ := hX.get i v hi
      exact ⟨x, by simpa using hx, VRel.mono hle _ _ rx⟩
    · rw [mset_ne _ _ e] at hq
      obtain ⟨b, hb', r⟩ := H.blk q loc hq
      exact ⟨b, hb', r.mono hle (fun _ _ _ _ x => x) (heap_alloc_old w _ _ (H.inb q loc hq))⟩
  · intro q loc hq
    by_cases e : q = p
    · subst e; rw [mset_self] at hq; cases hq; simp
    · rw [mset_ne _ _ e] at hq; have := H.inb q loc hq; simp; omega
  · intro q r lq lr hq hr he hne
    by_cases e : q = p
    · subst e
      rw [mset_self] at hq; cases hq
      rw [mset_ne _ _ (Ne.symm hne)] at hr
      have := H.inb r lr hr
      simp only [] at he; omega
    · rw [mset_ne _ _ e] at hq
      by_cases e2 : r = p
      · subst e2
        rw [mset_self] at hr; cases hr
        have := H.inb q lq hq
        simp only [] at he; omega
      · rw [mset_ne _ _ e2] at hr
        exact H.sep q r lq lr hq hr he hne
theorem late_run {m : M} {env : T V} {loc : List V} {a : Act} {σ : Sg} (hO : OpdS C m σ loc env a) {o : Oper} {op : IOp} {c : List V} {k : Option (Nat × Nat)} (hco : chkOp P C σ o op = true) (hlc : lateC loc env op = some (c, k)) (w : World) :
    ∃ x X elem, (execOp a.eval o).run P w = .ok (.value x) (w.alloc (.cells X elem)) ∧ VsRel m c X.toList ∧ ∀ id m', m' id = some ⟨w.heap.size, 0, X.size, none⟩ → VRel m' (lateV id k) x := by
  unfold lateC at hlc
  split at hlc
  · rename_i zero
    cases hlc
    simp only [chkOp, chkOp0, Bool.and_eq_true] at hco
    replace hco := hco.2
    unfold chkAlloc at hco
    split at hco
    · rename_i t hy
      obtain ⟨z, hz, hv⟩ := run_zero (w := w) hco
      have hnr := newRow_run (P := P) (w := w) z.cells t
      refine ⟨.pointer (some ⟨w.heap.size, 0, none⟩), z.cells, t, ?_, vsis_rel m _ _ hv, fun id m' hm => ⟨_, hm, rfl⟩⟩
      simp [execOp, hy, Instr.alloc, hz, newVar, hnr]
    · cases hco
  · rename_i x
    split at hlc
    · rename_i v hv
      cases hlc
      simp only [chkOp, chkOp0, Bool.and_eq_true] at hco
      replace hco := hco.2
      have hvr := opds_sound hO _ _ _ hco.2 (evOs_one hv)
      obtain ⟨hcb, _⟩ := hco
      unfold chkBox at hcb
      split at hcb
      · rename_i t ad hy
        obtain ⟨y, e, ry⟩ := one_of hvr
        rw [hy] at e; simp [Op.operands] at e
        have hnr := newRow_run (P := P) (w := w) y.cells t
        refine ⟨.pointer (some ⟨w.heap.size, 0, none⟩), y.cells, t, ?_, ry.cells, fun id m' hm => ⟨_, hm, rfl⟩⟩
        simp [execOp, hy, e, Instr.box, newVar, hnr]
      · cases hcb
    · cases hlc
  · rename_i zero places len xs
    split at hlc
    · rename_i vs hvs
      split at hlc
      · rename_i c' hf
        cases hlc
        simp only [chkOp, chkOp0, Bool.and_eq_true] at hco
        replace hco := hco.2
        have hvr := opds_sound hO _ _ _ hco.2 hvs
        obtain ⟨X, elem, h1, h2⟩ := abslice_run (P := P) (m := m) (w := w) hco.1 hvr hf
        exact ⟨_, X, elem, h1, h2, fun id m' hm => ⟨_, hm, Nat.le_refl _, rfl⟩⟩
      · cases hlc
    · cases hlc
  · rename_i zero bytes x y
    split at hlc
    · rename_i lv hl
      split at hlc
      · rename_i cv hcv
        split at hlc
        · rename_i n kk hn
          cases hlc
          simp only [chkOp, chkOp0, Bool.and_eq_true] at hco
          replace hco := hco.2
          have hvr := opds_sound hO _ _ _ hco.2 (evOs_two hl hcv)
          obtain ⟨X, elem, h1, h2, h3⟩ := amake_run (P := P) (m := m) (w := w) hco.1 hvr hn
          exact ⟨_, X, elem, h1, h2, fun id m' hm => ⟨_, hm, h3, rfl⟩⟩
        · cases hlc
      · cases hlc
    · cases hlc
  · cases hlc
theorem DI.opds {vals : List V} {Hs : List Heap} {m0 m : M} {h hk : Heap} {w0 w : World} {a0 a : Act} {L : Array Bool} {env : T V} (D : DI C ops l env vals Hs m0 h w0 a0 L a w m hk)
    (hG : Glob K C.G m0) (hE : ERel C m0 env a0) (hB : chkB ops B = true) (hlen : vals.length = ops.size)
    {i : Nat} {o : Oper} (ho : ops[i]? = some o) (hni : ¬ dn L i) (hed : ∀ e ∈ o.after, Region.binds .any e = true → dn L e.on) : OpdS C m (sig ops B i) ((vals.take i).reverse ++ []) env a := by
  have hi : i < ops.size := (Array.getElem?_eq_some_iff.1 ho).1
  have hG' := hG.ext D.ext
  intro od y v hok ev
  unfold opdOK at hok
  split at hok
  · rename_i t
    split at hok
    · rename_i s hs
      obtain ⟨j, hj, hd, hcase⟩ := look_sig _ _ _ hs
      have hj' : j < ops.size := by simpa using hj
      rcases hcase with ⟨hb, rfl⟩ | rfl
      · have hdj := bef_done hB D.closed i o ho hed j hb hj'
        cases y <;> simp [srcOK] at hok
        subst hok
        have hji : j < i := by
          have h1 := range_all (range_all hB hi) hj'
          simp only [hb, Bool.not_true, Bool.false_or, ho] at h1
          obtain ⟨e, he, h2⟩ := List.any_eq_true.1 h1
          simp only [Bool.and_eq_true, Nat.blt_eq, Bool.or_eq_true] at h2
          have h21 := h2.1.2
          rcases h2.2 with q | q
          · have := Nat.eq_of_beq_eq_true q; omega
          · -- j comes before e.on, which comes before i
            have key : ∀ k, k < ops.size → ∀ j, j < ops.size → bef B k j = true → j < k := by
              intro k
              induction k using Nat.strongRecOn with
              | _ k ih =>
                intro hk j hj hb
                have h1 := range_all (range_all hB hk) hj
                simp only [hb, Bool.not_true, Bool.false_or] at h1
                split at h1
                · obtain ⟨e, he, h2⟩ := List.any_eq_true.1 h1
                  simp only [Bool.and_eq_true, Nat.blt_eq, Bool.or_eq_true] at h2
                  rcases h2.2 with q | q
                  · have := Nat.eq_of_beq_eq_true q; have := h2.1.2; omega
                  · have := h2.1.2; have := ih e.on h2.1.2 (by omega) j hj q; omega
                · cases h1
            have := key e.on (by omega) j hj' q; omega
        have ev' : ((vals.take i).reverse ++ [])[i - 1 - j]? = some v := by rw [← nth_eq]; exact ev
        rw [loc_get (by omega) hji] at ev'
        exact D.vals j v t hdj ev' hd
      · cases y <;> simp [srcOK] at hok
    · rename_i hs
      split at hok
      · rename_i s
        simp only [Bool.and_eq_true] at hok
        have := Nat.eq_of_beq_eq_true hok.1; subst this
        have hold := D.old s (fun j hj hd => by
          have hj' : j < ops.size := by
            rcases Nat.lt_or_ge j ops.size with q | q
            · exact q
            · rw [Array.getElem?_eq_none q] at hd; cases hd
          obtain ⟨_, hc⟩ := look_sig_none _ _ hs j (by simpa using hj') hd
          rcases hc with rfl | hc
          · exact hni hj
          · exact hni (bef_done hB D.closed j _ (Array.getElem?_eq_getElem hj') (D.closed j _ (Array.getElem?_eq_getElem hj') hj) i hc hi))
        show VRel m v (a.tmps.getD s undef)
        rw [hold]
        exact VRel.mono D.ext.le _ _ (hE.var hok.2 ev)
      · cases hok
  · exact con_sound hG' hok ev
end
variable {K : LG → Prop}
section
variable {P : Program} {C : Cx} {call : CallF} {ops : Array Oper} {dl : List DS} {l : List IStep} {late B R : List Nat} {reads : List (Nat × Nat × Nat)} {sets : List (Nat × Nat)}
theorem DI.guard {vals : List V} {Hs : List Heap} {m0 m : M} {h hk : Heap} {w0 w : World} {a0 a : Act} {L : Array Bool} {env : T V} (D : DI C ops dl env vals Hs m0 h w0 a0 L a w m hk) {σ : Sg} {loc : List V}
    (hO : OpdS C m σ loc env a) {o : Oper} {s : Option (Opd × Bool)} (hc : chkG C σ ops o.guard s = true) {b : Bool} (e : evG loc env s = some b) : Region.wanted o (yielded ops a.tmps) = b := by
  unfold Region.wanted
  unfold chkG at hc
  split at hc
  · rename_i hg; rw [hg]; cases e; rfl
  · rename_i j want x want' hg
    rw [hg]
    simp only [Bool.and_eq_true, beq_iff_eq] at hc
    obtain ⟨rfl, hc⟩ := hc
    split at hc
    · rename_i d hd
      simp only [Bool.and_eq_true, Nat.blt_eq] at hc
      unfold evG at e
      simp only [] at e
      split at e
      · rename_i c hx
        cases e
        have hr := hO _ _ _ hc.2 hx
        simp only [VRel, Act.eval] at hr
        have hlt : d < a.tmps.size := by rw [D.size]; exact hc.1
        have : a.tmps[d]? = some (.bool c) := by
          rw [Array.getD_eq_getD_getElem?, Array.getElem?_eq_getElem hlt] at hr
          rw [Array.getElem?_eq_getElem hlt]
          simpa using hr
        simp only [yielded, hd, Option.bind_some, this]
        cases c <;> cases want <;> rfl
      · rename_i c hx
        cases e
        have hr := hO _ _ _ hc.2 hx
        simp only [VRel, Act.eval] at hr
        obtain ⟨c', hr, _⟩ := hr
        have hlt : d < a.tmps.size := by rw [D.size]; exact hc.1
        have : a.tmps[d]? = some (.tuple c'.toArray) := by
          rw [Array.getD_eq_getD_getElem?, Array.getElem?_eq_getElem hlt] at hr
          rw [Array.getElem?_eq_getElem hlt]
          simpa using hr
        simp only [yielded, hd, Option.bind_some, this]
        cases want <;> rfl
      · cases e
    · cases hc
  · cases hc
theorem unlisted_set {n : Nat} {L : Array Bool} {i : Nat} (hi : i < n) (hL : L.size = n) (hni : ¬ dn L i) :
    ((List.range n).filter fun j => !(L.setIfInBounds i true).getD j false).length < ((List.range n).filter fun j => !L.getD j false).length := by
  have hsub : ∀ j ∈ List.range n, (!(L.setIfInBounds i true).getD j false) = true → (!L.getD j false) = true := by
    intro j _ hj
    by_cases c : i = j
    · subst c
      have : (L.setIfInBounds i true).getD i false = true := (dn_set (by omega)).2 (.inl rfl)
      rw [this] at hj; cases hj
    · rw [getD_set_ne false c] at hj; exact hj
  -- the two lists differ at i
  have key : ∀ (js : List Nat), (∀ j ∈ js, (!(L.setIfInBounds i true).getD j false) = true → (!L.getD j false) = true) → i ∈ js →
      (js.filter fun j => !(L.setIfInBounds i true).getD j false).length < (js.filter fun j => !L.getD j false).length := by
    intro js
    induction js with
    | nil => intro _ h; simp at h
    | cons k js ih =>
      intro hs hm
      by_cases c : k = i
      · subst c
        have h1 : (L.setIfInBounds k true).getD k false = true := (dn_set (by omega)).2 (.inl rfl)
        have h2 : L.getD k false = false := by simpa [dn] using hni
        have := filter_le js (p := fun j => !(L.setIfInBounds k true).getD j false) (q := fun j => !L.getD j false) (fun j hj => hs j (by simp [hj]))
        simp only [List.filter_cons, h1, h2, Bool.not_true, Bool.not_false, Bool.false_eq_true, if_false, if_true, List.length_cons]
        omega
      · have hm' : i ∈ js := by rcases List.mem_cons.1 hm with q | q; · exact absurd q.symm c
                                · exact q
        have ih' := ih (fun j hj => hs j (by simp [hj])) hm'
        have e1 : (L.setIfInBounds i true).getD k false = L.getD k false := getD_set_ne false (Ne.symm c)
        simp only [List.filter_cons, e1]
        split
        · simp only [List.length_cons]; omega
        · exact ih'
  exact key _ hsub (by simpa using hi)
theorem binds_of_any {md : Region.Mode} {e : Edge} (h : Region.binds .any e = true) : Region.binds md e = true := by
  unfold Region.binds at h ⊢
  split at h <;> simp_all
theorem all_done {md : Region.Mode} {L : Array Bool} {R : Nat → Nat} (hed : rankOK md ops R = true) (hL : L.size = ops.size) (hr : Region.ready md ops L = []) : ∀ i, i < ops.size → dn L i := by
  have key : ∀ r i, R i = r → i < ops.size → dn L i := by
    intro r
    induction r using Nat.strongRecOn with
    | _ r ih =>
      intro i hri hi
      by_cases c : dn L i
      · exact c
      · exfalso
        have hm : i ∈ Region.ready md ops L := by
          rw [mem_ready]
          refine ⟨?_, ops[i], Array.getElem?_eq_getElem hi, fun e he hb => ?_⟩
          · have : L.getD i false = false := by simpa [dn] using c
            rw [Array.getD_eq_getD_getElem?, Array.getElem?_eq_getElem (by omega)] at this ⊢
            simpa using this
          · have h1 := range_all hed hi
            rw [Array.getElem?_eq_getElem hi] at h1
            have h2 := List.all_eq_true.1 h1 e (by simpa using he)
            simp only [hb, Bool.not_true, Bool.false_or, Bool.and_eq_true, Nat.blt_eq] at h2
            exact ih (R e.on) (by omega) e.on rfl h2.2
        rw [hr] at hm; simp at hm
  exact fun i hi => key (R i) i rfl hi
theorem setsE_df {C : Cx} {ops : Array Oper} {n : Nat} {loc : List V} (hV : C.vars.contains DSL = false) {sets0 : List (Nat × Nat)}
    (hs : (sets0.all fun (p : Nat × Nat) => Nat.blt p.2 ops.size && C.vars.contains p.1 && (match (ops[p.2]?).bind (·.dst) with | some t => Nat.beq t p.1 | none => false)) = true) :
    ∀ (sets : List (Nat × Nat)) (env env' : T V), (∀ p, p ∈ sets → p ∈ sets0) → setsE n loc sets env = some env' → env'.get DSL = env.get DSL
  | [], env, env', _, e => by cases e; rfl
  | (t, i) :: r, env, env', hi, e => by
    simp only [setsE] at e
    split at e
    · rename_i u hu
      rw [setsE_df hV hs r _ _ (fun p hp => hi p (by simp [hp])) e, T.get_set_ne]
      intro q
      have := List.all_eq_true.1 hs (t, i) (hi _ (by simp))
      simp only [Bool.and_eq_true] at this
      rw [← q, hV] at this
      simp at this
    · cases e
theorem dops_sound (hcall : CallsOK P K C.G call) (hc : chkD P C ops l late B R reads sets = true) {Q : Exit → Act → World → Prop} {env : T V} {h0 : Heap} {m0 : M} {a0 : Act} {w0 : World} {ex : Ex} {env' : T V} {h' : Heap} {id : Nat}
    (hG : Glob K C.G m0) (hE : ERel C m0 env a0) (H0 : HRel m0 h0 w0) (e : evD call l late reads sets env h0 = .ok ex env' h')
    (hL : ∀ a' w' m', ex = .norm → ERel C m' env' a' → HRel m' h' w' → Ext m0 h0 w0 m' h' w' → a'.defers = a0.defers → env'.get DSL = env.get DSL → Q .normal a' w') {ro : Option Nat} : (Code.region id ops true).wpIn (FR ro) 0 P Q a0 w0 := by
  unfold chkD at hc
  simp only [Bool.and_eq_true] at hc
  obtain ⟨⟨⟨⟨⟨hsz, hedge⟩, hB⟩, hds⟩, hone⟩, hchain⟩ := hc
  have hsz := Nat.eq_of_beq_eq_true hsz
  unfold evD at e
  split at e
  · cases e
  rename_i dl h hlay
  obtain ⟨y1, y2, _, y4, y5, y6⟩ := lay_at l 0 [] h0 dl h hlay
  have hdl := lay_length l 0 [] h0 dl h hlay
  have heffm : effIx (markL late l 0) = effIx dl := effIx_map (markL_effS l 0 [] h0 dl h hlay)
  have hstart : Ext m0 h0 w0 m0 h w0 := ⟨fun _ _ x => x, fun _ _ a b => by simp [a] at b, y4, fun p _ hp => y5 p hp, Nat.le_refl _, fun _ _ _ => rfl, rfl, rfl, rfl, fun _ _ _ x => x, fun _ _ => Kept.refl _ _ _, fun _ _ a b => by simp [a] at b⟩
  rw [heffm] at hchain
  split at e
  · rename_i loc hs hdr
    cases hrd : reads.all (rdOK call env l loc hs)
    · rw [hrd] at e; cases e
    · rw [hrd] at e; simp only [cond_true] at e
      obtain ⟨vals, hp, hcan, hloc, hhs⟩ := canon_of dl [] [h] h loc hs hdr
      obtain ⟨hvl, hpl, hat⟩ := canon_at dl [] h vals hp hcan
      have hvl' : vals.length = ops.size := by omega
      split at e
      · rename_i env1 h1 hs1 hset
        simp only [Out.ok.injEq] at e
        obtain ⟨rfl, rfl, rfl⟩ := e
        -- the last heap
        have hlast : (h :: hp)[effs dl dl.length]? = some h1 := by
          rw [← hpl]
          have : hp.reverse ++ [h] = (h :: hp).reverse := by simp
          rw [this] at hhs
          have hh : (h :: hp).reverse[0]? = some h1 := by rw [← hhs]; rfl
          rw [List.getElem?_reverse (by simp)] at hh
          simpa using hh
        refine wpIn_region_draw fun t => ?_
        have main : ∀ (md : Region.Mode) (R' : Nat → Nat), rankOK md ops R' = true → ∀ (fuel : Nat) (L : Array Bool) (a : Act) (w : World), (∃ m hk, DI C ops dl env vals (h :: hp) m0 h0 w0 a0 L a w m hk) →
            ((List.range ops.size).filter fun i => !L.getD i false).length ≤ fuel → wpAnyIn (FR ro) 0 P md ops Q fuel L a w := by
          intro md R' hrank
          have fin : ∀ (L : Array Bool) (a : Act) (w : World), (∃ m hk, DI C ops dl env vals (h :: hp) m0 h0 w0 a0 L a w m hk) → (∀ i, i < ops.size → dn L i) → Q .normal a w := by
            rintro L a w ⟨m, hk, D⟩ hall
            have hcnt : cnt dl L = effs dl dl.length := cnt_eq (Nat.le_refl _) (fun e he hlt => hall e (by omega)) (fun e he hge => by
              obtain ⟨s, hs, _⟩ := effIx_mem.1 he
              have := (List.getElem?_eq_some_iff.1 hs).1; omega)
            have hkk := D.at_
            rw [hcnt, hlast] at hkk
            cases hkk
            refine hL a w m rfl ⟨D.size, fun s v hs => ?_, hE.2.2⟩ D.rel D.ext D.defers (setsE_df hE.2.2 (Bool.and_eq_true_iff.1 hds).2 sets env env1 (fun _ x => x) hset)
            rcases setsE_get sets env env1 hset s v hs with ⟨i, hi, hv⟩ | ⟨hn, hv⟩
            · have hsi := List.all_eq_true.1 (Bool.and_eq_true_iff.1 hds).2 (s, i) hi
              simp only [Bool.and_eq_true, Nat.blt_eq] at hsi
              obtain ⟨⟨hlt, hvar⟩, hd⟩ := hsi
              refine .inr ⟨hvar, ?_⟩
              split at hd
              · rename_i u hu
                have := Nat.eq_of_beq_eq_true hd; subst this
                refine D.vals i v u (hall i hlt) ?_ hu
                rw [hloc] at hv
                rw [List.append_nil, List.getElem?_reverse (by omega)] at hv
                rw [← hv]; congr 1; omega
              · cases hd
            · rcases hE.2.1 s v hv with q | ⟨h2, h3⟩
              · exact .inl q
              refine .inr ⟨h2, ?_⟩
              rw [D.old s (fun i hi hd => by
                have hlt : i < ops.size := by
                  rcases Nat.lt_or_ge i ops.size with q | q
                  · exact q
                  · rw [Array.getElem?_eq_none q] at hd; cases hd
                have h4 := range_all (Bool.and_eq_true_iff.1 hds).1 hlt
                rw [hd] at h4
                simp only [Bool.and_eq_true, Bool.or_eq_true] at h4
                rcases h4.1.2 with q | q
                · rw [h2] at q; simp at q
                · exact hn i (by simpa using q))]
              exact VRel.mono D.ext.le _ _ h3
          intro fuel
          induction fuel with
          | zero =>
            intro L a w hD hf
            have hall : ∀ i, i < ops.size → dn L i := by
              intro i hi
              by_cases c : dn L i
              · exact c
              · exfalso
                have : i ∈ ((List.range ops.size).filter fun i => !L.getD i false) := by
                  rw [List.mem_filter]; exact ⟨by simpa using hi, by simpa [dn] using c⟩
                have := List.length_pos_of_mem this
                omega
            refine ⟨?_, fin L a w hD hall⟩
            cases hr : Region.ready md ops L with
            | nil => rfl
            | cons i r =>
              exfalso
              have hm : i ∈ Region.ready md ops L := by rw [hr]; simp
              obtain ⟨h2, o, h3, _⟩ := mem_ready.1 hm
              have hi : i < ops.size := (Array.getElem?_eq_some_iff.1 h3).1
              have := hall i hi
              unfold dn at this
              obtain ⟨m, hk, D⟩ := hD
              rw [Array.getD_eq_getD_getElem?, Array.getElem?_eq_getElem (by rw [D.lsz]; exact hi)] at this h2
              simp at this h2
              rw [this] at h2; cases h2
          | succ fuel ih =>
            intro L a w hD hf
            refine ⟨fun hr => ?_, fun i hi => ?_⟩
            · obtain ⟨m, hk, D⟩ := hD
              exact fin L a w ⟨m, hk, D⟩ (all_done hrank D.lsz hr)
            · obtain ⟨m, hk, D⟩ := hD
              obtain ⟨hli, o, ho, hbin⟩ := mem_ready.1 hi
              have hilt : i < ops.size := (Array.getElem?_eq_some_iff.1 ho).1
              have hni : ¬ dn L i := by
                unfold dn
                rw [Array.getD_eq_getD_getElem?, Array.getElem?_eq_getElem (by rw [D.lsz]; exact hilt)] at hli ⊢
                simp at hli ⊢; exact hli
              have hed : ∀ e ∈ o.after, Region.binds .any e = true → dn L e.on := fun e he hb => hbin e he (binds_of_any hb)
              have hO := D.opds hG hE hB hvl' ho hni hed
              have hG' := hG.ext D.ext
              have hone_i := range_all hone hilt
              have hlt' : i < l.length := by omega
              rw [ho, List.getElem?_eq_getElem hlt'] at hone_i
              simp only [Bool.and_eq_true] at hone_i
              obtain ⟨⟨⟨hcg, hco⟩, hcr⟩, hcl⟩ := hone_i
              have hltd : i < dl.length := by omega
              have hdi : dl[i]? = some dl[i] := List.getElem?_eq_getElem hltd
              obtain ⟨v, hb, ha, hv, hhb, hrun, hef, hnef⟩ := hat i dl[i] hdi
              have hfst : dl[i].1 = l[i] := by
                rcases y1 i l[i] (List.getElem?_eq_getElem hlt') with ⟨_, q⟩ | ⟨_, u, c, q, _⟩
                · exact congrArg Prod.fst (Option.some.inj (hdi.symm.trans q))
                · exact congrArg Prod.fst (Option.some.inj (hdi.symm.trans q))
              have hunl := unlisted_set hilt D.lsz hni
              have hiL : i < L.size := by rw [D.lsz]; exact hilt
              have go : ∀ x w' m' hk', VRel m' v x → HRel m' hk' w' → Ext m hk w m' hk' w' → (h :: hp)[cnt dl (L.setIfInBounds i true)]? = some hk' →
                  wpAnyIn (FR ro) 0 P md ops Q fuel (L.setIfInBounds i true) (a.put o.dst x) w' :=
                fun x w' m' hk' r H' E' hcn => ih _ _ _ ⟨m', hk', D.next hds ho hni hed hv r H' E'.le (D.ext.trans E') hcn (D.unm_next hiL E')⟩ (by omega)
              -- the effects that are done
              have heffcnt : effS dl[i] = true → cnt dl L = effs dl i ∧ cnt dl (L.setIfInBounds i true) = effs dl i + 1 := by
                intro he
                have hmem : i ∈ effIx dl := effIx_mem.2 ⟨dl[i], hdi, he⟩
                have pair : ∀ p q, p ∈ effIx dl → q ∈ effIx dl → p < q → bef B q p = true := by
                  intro p q hp' hq' hlt
                  have := List.all_eq_true.1 (List.all_eq_true.1 hchain p hp') q hq'
                  have hb' : Nat.blt p q = true := by rw [Nat.blt_eq]; exact hlt
                  simpa [hb'] using this
                have lt_of : ∀ p, p ∈ effIx dl → p < ops.size := by
                  intro p hp'
                  obtain ⟨s, hs, _⟩ := effIx_mem.1 hp'
                  have := (List.getElem?_eq_some_iff.1 hs).1; omega
                have h1 : ∀ p ∈ effIx dl, p < i → dn L p := fun p hp' hlt => bef_done hB D.closed i o ho hed p (pair p i hp' hmem hlt) (lt_of p hp')
                have h2 : ∀ p ∈ effIx dl, i < p → ¬ dn L p := fun p hp' hlt hd =>
                  hni (bef_done hB D.closed p _ (Array.getElem?_eq_getElem (lt_of p hp')) (D.closed p _ (Array.getElem?_eq_getElem (lt_of p hp')) hd) i (pair i p hmem hp' hlt) hilt)
                refine ⟨cnt_eq (by omega) h1 (fun p hp' hle => ?_), ?_⟩
                · rcases Nat.lt_or_eq_of_le hle with q | q
                  · exact h2 p hp' q
                  · subst q; exact hni
                · rw [← effs_succ hdi he]
                  refine cnt_eq (by omega) (fun p hp' hlt => ?_) (fun p hp' hle hd => ?_)
                  · rw [dn_set hiL]
                    by_cases c : p = i
                    · exact .inl c
                    · exact .inr (h1 p hp' (by omega))
                  · rw [dn_set hiL] at hd
                    rcases hd with q | q
                    · omega
                    · exact h2 p hp' (by omega) q
              have hnoeff : effS dl[i] = false → cnt dl (L.setIfInBounds i true) = cnt dl L := fun he =>
                cnt_set_ne (fun hm => by obtain ⟨s, hs, h2⟩ := effIx_mem.1 hm; rw [hdi] at hs; cases hs; rw [he] at h2; cases h2)
              unfold wpOpIn
              rw [ho]
              simp only []
              rcases hrun with ⟨hlt1, hhab⟩ | ⟨hsn, hgt, hop⟩ | ⟨hsn, hgf, hvu, hha⟩
              · -- a late block
                rcases y1 i l[i] (List.getElem?_eq_getElem hlt') with ⟨_, q⟩ | ⟨q0, u, c, q, hu2, hu3, hu4⟩
                · obtain ⟨c1, hc1, _⟩ := hlt1
                  rw [Option.some.inj (hdi.symm.trans q)] at hc1; cases hc1
                · have hdu : dl[i] = (l[i], some (u, c)) := Option.some.inj (hdi.symm.trans q)
                  obtain ⟨c1, hc1, hlok⟩ := hlt1
                  rw [hdu] at hc1 hlok
                  simp only [Option.some.injEq, Prod.mk.injEq] at hc1
                  obtain ⟨rfl, rfl⟩ := hc1
                  unfold lateOK at hlok
                  split at hlok
                  case h_2 => cases hlok
                  rename_i c2 k2 hlc
                  simp only [Bool.and_eq_true] at hlok
                  have hc2 := vsEq_eq _ _ hlok.1
                  have hu1 := vEq_eq _ _ hlok.2
                  subst hc2
                  rw [Nat.zero_add] at q0
                  rw [q0] at hcl
                  have hgn : o.guard = none := by simpa using hcl
                  have hw : Region.wanted o (yielded ops a.tmps) = true := by unfold Region.wanted; rw [hgn]
                  rw [if_pos hw]
                  obtain ⟨b1, b2, b3⟩ := D.unm i l[i] u c (by rw [hdi, hdu]) hni
                  obtain ⟨x, X, elem, hrun, hX, hval⟩ := late_run (P := P) hO hco hlc w
                  refine ⟨fun _ _ => trivial, ?_⟩
                  show o.uponIn (FR ro) 0 P a _ Q ((o.semAt ro a.eval).run P w)
                  rw [Oper.semAt_eq ro a.eval o (fun c' hcc => by simp only [chkOp, Bool.and_eq_true] at hco; rw [hcc] at hco; exact absurd hco.1 (by simp [notDf])), hrun]
                  have hes : effS dl[i] = false := by rw [hdu]; rfl
                  have H' := D.rel.materialize (elem := elem) b1 b2 hX
                  have hle : Le m (mset m (lid u) ⟨w.heap.size, 0, X.size, none⟩) := by
                    intro q l' hq
                    rw [mset_ne]
                    · exact hq
                    · intro e'; subst e'; rw [b1] at hq; cases hq
                  have E0 : Ext m0 h0 w0 (mset m (lid u) ⟨w.heap.size, 0, X.size, none⟩) hk (w.alloc (.cells X elem)) := by
                    refine ⟨fun p l' hp => hle _ _ (D.ext.le _ _ hp), ?_, D.ext.next, D.ext.phan, ?_, ?_, D.ext.os, D.ext.tape, D.ext.output, fun b i hb x => D.ext.cov b i hb (Cov.new m _ _ rfl b i (Nat.lt_of_lt_of_le hb D.ext.size) x), fun b hb => by
                      have := D.ext.size
                      rw [heap_alloc_old w _ _ (by omega)]; exact D.ext.out b hb, fun p l' hp hn0 => by
                      by_cases e' : p = lid u
                      · subst e'; rw [mset_self] at hp; cases hp; rfl
                      · rw [mset_ne _ _ e'] at hp; exact D.ext.lps _ _ hp hn0⟩
                    · intro p l' hp hn0
                      by_cases e' : p = lid u
                      · subst e'; rw [mset_self] at hp; cases hp
                        exact ⟨hu2, .inl D.ext.size⟩
                      · rw [mset_ne _ _ e'] at hp; exact D.ext.new _ _ hp hn0
                    · have := D.ext.size; simp; omega
                    · intro b hb1 hb2
                      have := D.ext.size
                      rw [heap_alloc_old w _ _ (by omega)]
                      exact D.ext.keep b hb1 hb2
                  refine ih _ _ _ ⟨_, hk, D.next hds ho hni hed hv ?_ H' hle E0 (by rw [hnoeff hes]; exact D.at_) ?_⟩ (by omega)
                  · have e := hval (lid u) (mset m (lid u) ⟨w.heap.size, 0, X.size, none⟩) (mset_self _ _ _)
                    rw [← hu1] at e; exact e
                  · intro j s' u' c' hj hnd
                    have hji : j ≠ i := fun e' => hnd ((dn_set hiL).2 (.inl e'))
                    obtain ⟨g1, g2, g3⟩ := D.unm j s' u' c' hj (fun hd => hnd ((dn_set hiL).2 (.inr hd)))
                    have hne : lid u' ≠ lid u := by
                      rcases Nat.lt_or_gt_of_ne hji with q' | q'
                      · have := y2 j i s' l[i] u' u _ _ q' hj (by rw [hdi, hdu]); omega
                      · have := y2 i j l[i] s' u u' _ _ q' (by rw [hdi, hdu]) hj; omega
                    exact ⟨by rw [mset_ne _ _ hne]; exact g1, g2, g3⟩
              · rw [hfst] at hgt hop
                rw [if_pos (D.guard hO hcg hgt)]
                have hes : effS dl[i] = eff l[i].op := by unfold effS; rw [hsn, hfst]
                cases he : eff l[i].op
                · -- it reads, or reckons
                  have hcn := hnoeff (hes.trans he)
                  have hop' : evOp call ((vals.take i).reverse ++ []) env hk l[i].op = some (v, hk) := by
                    have hcase : (∃ k xs, l[i].op = .p k xs) ∨ isLd l[i].op = true := by
                      cases hio : l[i].op with
                      | p k xs => exact .inl ⟨k, xs, rfl⟩
                      | ld n ia x => exact .inr rfl
                      | lk a b c d => exact .inr rfl
                      | b2s a => exact .inr rfl
                      | _ => rw [hio] at he; simp [eff] at he
                    rcases hcase with ⟨k, xs, hio⟩ | hio
                    · rw [hio] at hop ⊢; exact evOp_pure hop hk
                    · have hro : readOK (markL late l 0) B reads i = true := by rw [hio] at hcr; simpa using hcr
                      obtain ⟨r, hr, hr2⟩ := List.any_eq_true.1 hro
                      obtain ⟨ri, lo, hi'⟩ := r
                      rw [heffm] at hr2
                      simp only [Bool.and_eq_true] at hr2
                      obtain ⟨⟨q1, q2⟩, q3⟩ := hr2
                      have q1 := Nat.eq_of_beq_eq_true q1
                      subst q1
                      have q2 := Nat.le_of_ble_eq_true q2
                      have q3 := Nat.le_of_ble_eq_true q3
                      have lt_of : ∀ p, p ∈ effIx dl → p < ops.size := by
                        intro p hp'
                        obtain ⟨s, hs, _⟩ := effIx_mem.1 hp'
                        have := (List.getElem?_eq_some_iff.1 hs).1; omega
                      have c1 : ((effIx dl).filter fun e => bef B ri e).length ≤ cnt dl L := filter_le _ (fun p hp' hb' => bef_done hB D.closed ri o ho hed p hb' (lt_of p hp'))
                      have c2 : cnt dl L + ((effIx dl).filter fun e => bef B e ri).length ≤ (effIx dl).length := filter_split _ (fun p hp' hd => by
                        cases hbb : bef B p ri
                        · rfl
                        · exact absurd (bef_done hB D.closed p _ (Array.getElem?_eq_getElem (lt_of p hp')) (D.closed p _ (Array.getElem?_eq_getElem (lt_of p hp')) hd) ri hbb hilt) hni)
                      have hrk := List.all_eq_true.1 hrd _ hr
                      unfold rdOK at hrk
                      simp only [List.getElem?_eq_getElem hlt'] at hrk
                      have hdrop : loc.drop (l.length - ri - 1) = v :: ((vals.take ri).reverse ++ []) := by
                        rw [hloc]
                        have hvr : vals[ri]? = some v := hv
                        have hrl : ri < vals.length := by omega
                        have e1 : vals.take (ri + 1) = vals.take ri ++ [v] := by
                          rw [List.take_succ_eq_append_getElem hrl]
                          rw [List.getElem?_eq_getElem hrl] at hvr; cases hvr; rfl
                        have e2 : (vals.reverse ++ []).drop (l.length - ri - 1) = (vals.take (ri + 1)).reverse := by
                          rw [List.append_nil, List.drop_reverse]; congr 2; omega
                        rw [e2, e1]; simp
                      rw [hdrop] at hrk
                      simp only [hgt] at hrk
                      have hmem : hk ∈ (((h1 :: hs1).reverse.drop lo).take (hi' + 1 - lo)) := by
                        have hrev : (h1 :: hs1).reverse = h :: hp := by rw [hhs]; simp
                        rw [hrev]
                        have hget := D.at_
                        have : ((((h :: hp).drop lo).take (hi' + 1 - lo)))[cnt dl L - lo]? = some hk := by
                          rw [List.getElem?_take, if_pos (by omega), List.getElem?_drop, show lo + (cnt dl L - lo) = cnt dl L by omega]; exact hget
                        exact List.mem_of_getElem? this
                      obtain ⟨g', hg'⟩ := rdAll_get _ hrk hk hmem
                      have := evOp_same he hg'; subst this
                      exact hg'
                  refine op_sound hcall hG' hO D.rel hco hop' (fun x w' m' r H' E' => go x w' m' hk r H' E' ?_)
                  rw [hcn]; exact D.at_
                · -- it has an effect
                  obtain ⟨e1, e2⟩ := heffcnt (hes.trans he)
                  have hkb : hk = hb := by have := D.at_; rw [e1, hhb] at this; cases this; rfl
                  subst hkb
                  refine op_sound hcall hG' hO D.rel hco hop (fun x w' m' r H' E' => go x w' m' ha r H' E' ?_)
                  rw [e2]; exact hef (hes.trans he)
              · rw [hfst] at hgf
                have hes : effS dl[i] = eff l[i].op := by unfold effS; rw [hsn, hfst]
                rw [if_neg (by rw [D.guard hO hcg hgf]; simp)]
                refine ⟨fun _ _ => trivial, ?_⟩
                refine go undef w m hk ?_ D.rel (Ext.refl _ _ _) ?_
                · rw [hvu]; exact ⟨[], rfl, rfl⟩
                · cases he : eff l[i].op
                  · rw [hnoeff (hes.trans he)]; exact D.at_
                  · obtain ⟨e1, e2⟩ := heffcnt (hes.trans he)
                    have hkb : hk = hb := by have := D.at_; rw [e1, hhb] at this; cases this; rfl
                    rw [e2, hkb, ← hha]; exact hef (hes.trans he)
        have start : ∀ md R', rankOK md ops R' = true → ∀ t, wpOpsIn (FR ro) 0 P ops Q (Region.linearise md ops t) a0 { w0 with drawn := w0.drawn + 1 } := by
          intro md R' hrank t
          refine wpAnyIn_sound ops.size t _ a0 _ (main md R' hrank ops.size _ a0 _ ⟨m0, h, ?_⟩ (by
            have := List.length_filter_le (fun i => !(Array.replicate ops.size false).getD i false) (List.range ops.size)
            simpa using this))
          have hnone : ∀ i, ¬ dn (Array.replicate ops.size false) i := by
            intro i hi
            unfold dn at hi
            rw [Array.getD_eq_getD_getElem?] at hi
            by_cases c : i < ops.size
            · simp [c] at hi
            · simp [c] at hi
          refine ⟨by simp, fun i o _ hd => absurd hd (hnone i), hE.1, rfl, fun t _ => rfl, ?_, (y6 m0 w0 H0).congr rfl, hstart.trans (Ext.drew m0 h w0), fun i v t hd => absurd hd (hnone i), ?_⟩
          have : cnt dl (Array.replicate ops.size false) = 0 := by
            unfold cnt
            rw [List.length_eq_zero_iff, List.filter_eq_nil_iff]
            intro e _; exact hnone e
          · rw [this]; rfl
          · intro i s u c hi _
            have hil : i < l.length := by have := (List.getElem?_eq_some_iff.1 hi).1; omega
            rcases y1 i l[i] (List.getElem?_eq_getElem hil) with ⟨_, q⟩ | ⟨_, u', c', q, hu2, hu3, hu4⟩
            · rw [hi] at q; cases q
            · rw [hi] at q; cases q
              refine ⟨?_, hu4, hu3⟩
              exact H0.unmapped hu2
        unfold chkEdges at hedge
        simp only [Bool.and_eq_true] at hedge
        unfold Region.schedule
        split
        · exact start .any _ hedge.1.1 t
        · split
          · exact start .text _ hedge.1.2 _
          · exact start .gc _ hedge.2 _
      · cases e
  · cases e
end
end Go.Ev
