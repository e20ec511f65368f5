/- An evaluator of the program, and contracts over it: EvW to EvWc. -/
import Derived.Test.YtdbfhmneijcjbaaGreatP03
set_option linter.unusedSimpArgs false
set_option linter.unusedVariables false
set_option linter.constructorNameAsVariable false
namespace Go.Ev
def chkRs (P : Program) (vars : List Nat) : List ResultVar → List RV → Bool
 | [], [] => true
 | .tmp t :: rs, .t s :: qs => Nat.beq t s && vars.contains t && chkRs P vars rs qs
 | .cell a t :: rs, .c s n ia :: qs => Nat.beq a s && vars.contains a && sizeIs P t n && aggIs P t ia && chkRs P vars rs qs
 | _, _ => false
def chkB0 (P : Program) (G : Nat) (vars : List Nat) (n : Nat) (b : IC) (c : Code) : Bool :=
 match b with
 | .wd b => chkC P ⟨G, vars, n, true⟩ b c
 | b => chkC P ⟨G, vars, n, false⟩ b c
def chkFn (P : Program) (G : Nat) (f : Nat) (fn : IFn) : Bool :=
 match P.funcs[f]? with
 | some fd => (match fd.body with
  | some c => chkB0 P G fn.vars fd.ntmps fn.body c && !fn.vars.contains DSL && Nat.blt f YB && (List.range fn.nargs).all (fun i => fn.vars.contains i) && Nat.ble fn.nargs fd.ntmps && chkRs P fn.vars fd.results.toList fn.results && !(fd.name == "runtime.NumGoroutine")
  | none => false)
 | none => false
def FnsOK (P : Program) (G : Nat) (F : T IFn) : Prop := ∀ f fn, F.get f = some fn → chkFn P G f fn = true
theorem bindA_cons (v : V) (vs : List V) (i : Nat) (en : T V) : bindA (v :: vs) i en = bindA vs (i + 1) (en.set i v) := rfl
theorem bindA_get : ∀ (vs : List V) (i : Nat) (en : T V) (s : Nat), (bindA vs i en).get s = if i ≤ s ∧ s < i + vs.length then vs[s - i]? else en.get s
 | [], i, en, s => by rw [if_neg (by simp)]; rfl
 | v :: vs, i, en, s => by
  rw [bindA_cons, bindA_get vs (i + 1), T.gs]
  simp only [List.length_cons]
  by_cases c : s = i
  · subst c; rw [if_neg (by omega), if_pos rfl, if_pos (by omega)]; simp
  · by_cases d : i + 1 ≤ s ∧ s < i + 1 + vs.length
    · rw [if_pos d, if_pos (by omega), show s - i = (s - (i + 1)) + 1 by omega]; simp
    · rw [if_neg d, if_neg c, if_neg (by omega)]
section
variable {P : Program} {C : Cx} {m : M} {h : Heap} {w : World} {env : T V} {a : Act}
def resOf (tmps : Array Value) : ResultVar → Sem Value
 | .tmp t => pure (tmps.getD t undef)
 | .cell a t => do loadVar t (← asAddr (tmps.getD a undef))
theorem results_sound (H : HRel m h w) (hE : ERel C m env a) : ∀ (rs : List ResultVar) (qs : List RV) (vs : List V), chkRs P C.vars rs qs = true → evRs env h qs = some vs →
 ∃ xs, (rs.mapM (resOf a.tmps)).run P w = .ok xs w ∧ VsRel m vs xs
 | [], [], vs, _, e => by cases e; exact ⟨[], rfl, rfl⟩
 | [], _ :: _, _, hc, _ => by simp [chkRs] at hc
 | r :: rs, [], _, hc, _ => by cases r <;> simp [chkRs] at hc
 | .tmp t :: rs, .c _ _ _ :: qs, _, hc, _ => by simp [chkRs] at hc
 | .cell _ _ :: rs, .t _ :: qs, _, hc, _ => by simp [chkRs] at hc
 | .tmp t :: rs, .t s :: qs, vs, hc, e => by
  simp only [chkRs, Bool.and_eq_true] at hc
  have := Nat.eq_of_beq_eq_true hc.1.1; subst this
  simp only [evRs, evR] at e
  cases h1 : env.get t with
  | none => rw [h1] at e; cases e
  | some v =>
   rw [h1] at e
   simp only [] at e
   cases h2 : evRs env h qs with
   | none => rw [h2] at e; cases e
   | some us =>
    rw [h2] at e; cases e
    obtain ⟨xs, hx, rx⟩ := results_sound H hE rs qs us hc.2 h2
    refine ⟨a.tmps.getD t undef :: xs, ?_, ⟨_, _, rfl, hE.var hc.1.2 h1, rx⟩⟩
    simp only [List.mapM_cons, Sem.run_bind, resOf, Sem.run_pure, Result.andThen_ok, hx]
 | .cell ad t :: rs, .c s n ia :: qs, vs, hc, e => by
  simp only [chkRs, Bool.and_eq_true] at hc
  obtain ⟨⟨⟨⟨h0, hva⟩, hsz⟩, hag⟩, hc⟩ := hc
  have := Nat.eq_of_beq_eq_true h0; subst this
  simp only [evRs, evR] at e
  cases h1 : env.get ad with
  | none => rw [h1] at e; cases e
  | some p =>
   rw [h1] at e
   simp only [] at e
   cases h3 : aload h n ia p with
   | none => rw [h3] at e; cases e
   | some v =>
    rw [h3] at e
    simp only [] at e
    cases h2 : evRs env h qs with
    | none => rw [h2] at e; cases e
    | some us =>
     rw [h2] at e; cases e
     obtain ⟨xs, hx, rx⟩ := results_sound H hE rs qs us hc h2
     have hp := hE.var hva h1
     unfold aload at h3
     split at h3
     · rename_i b k
       obtain ⟨loc, hm, hpe⟩ := hp
       cases ia
       · simp only [cond_false] at h3
         obtain ⟨x, hx1, rx1⟩ := H.load1 hm h3
         refine ⟨x :: xs, ?_, ⟨_, _, rfl, rx1, rx⟩⟩
         simp only [List.mapM_cons, Sem.run_bind, resOf, hpe, asAddr, loadVar, run_agg hag, Sem.run_pure, Result.andThen_ok, Bool.false_eq_true, if_false, run_load, hx1, hx]
       · simp only [cond_true] at h3
         cases h4 : hload h b k n with
         | none => rw [h4] at h3; cases h3
         | some ws =>
          rw [h4] at h3; cases h3
          obtain ⟨ys, hy, ry, _⟩ := H.load P hm h4
          refine ⟨.agg (List.toArray ys) :: xs, ?_, ⟨_, _, rfl, ⟨_, rfl, ry⟩, rx⟩⟩
          simp only [List.mapM_cons, Sem.run_bind, resOf, hpe, asAddr, loadVar, run_agg hag, run_size hsz, Sem.run_pure, Result.andThen_ok, if_true, hy, hx]
     · cases h3
theorem results_run {fd : Func} {tmps : Array Value} {xs : List Value} (hx : (fd.results.toList.mapM (resOf tmps)).run P w = .ok xs w) :
 (results fd tmps).run P w = .ok (if h : xs.length = 1 then xs[0] else .tuple (List.toArray xs)) w := by
 have e : results fd tmps = (do let vs ← fd.results.mapM (resOf tmps); pure (if h : vs.size = 1 then vs[0] else .tuple vs)) := by
  unfold results
  congr 1
 rw [e]
 simp only [Sem.run_bind, Array.mapM_eq_mapM_toList, Sem.run_map, hx, Result.andThen_ok, Sem.run_pure]
 congr 1
end
section
variable {P : Program} {F : Fence} {n : Nat}
theorem leaves_kind {fn : Func} {tmps : Array Value} {R : Ending → World → Prop} : ∀ (ds : List Deferred) (u : FrameMode) (w : World) (fr : Frame)
 (cs : List Frame), fr.mode = u → fr.defers = ds → fr.tmps = tmps → P.funcs[fr.fn]? = some fn → F.fn fr.fn → F.room (cs.length + 1 + n) → LeavesInM F n P fn tmps R ds u w →
 ∃ e w' fr', R e w' ∧ ComesIn (Machine.fenced P F) P (lone fr cs w) (lone fr' cs w') e ∧ fr'.fn = fr.fn ∧ fr'.kind = fr.kind ∧ fr'.going P w' e := by
 intro ds
 induction ds with
 | nil =>
  intro u w fr cs hu hd ht hf hb hroom h
  cases u with
  | run => exact h.elim
  | returning =>
   obtain ⟨v, hr, hR⟩ := h
   exact ⟨.returned v, w, fr, hR, StepsIn.refl _, rfl, rfl, hu, hd, fn, hf, ht ▸ hr⟩
  | panicking chain => exact ⟨.panicked chain, w, fr, h, StepsIn.refl _, rfl, rfl, hu, hd, fn, hf⟩
 | cons d ds ih =>
  intro u w fr cs hu hd ht hf hb hroom h
  obtain ⟨hrun, h⟩ := h
  rcases h with ⟨r, w', htar, htake, hrest⟩ | ⟨hn, fv, cap, f, args, htar, hinv, hlead, hFf, hcall⟩
  · have h1 := step_collected (cs := cs) (hu ▸ hrun) hd htar htake
    have i1 : (lone fr cs w).fenced P F := fenced_out hb hroom (hu ▸ hrun) hd (fun g hg => by rw [htar] at hg; simp [Target.leads] at hg)
    obtain ⟨e', w'', fr', hR', hs', hfn', hl'⟩ := ih u w' { fr with defers := [] ++ ds } cs hu rfl ht hf hb hroom hrest
    exact ⟨e', w'', fr', hR', ComesIn.of_steps (.one i1 h1) hs', hfn', hl'⟩
  · have h1 := step_defer (cs := cs) (hu ▸ hrun) hd htar hinv
    have i1 : (lone fr cs w).fenced P F := fenced_out hb hroom (hu ▸ hrun) hd hlead
    have hroom' : F.room (({ fr with defers := ds } :: cs).length + 1 + (n - 1)) := Fence.room_enter hroom hn
    obtain ⟨e, u', w', frX, hR, hsteps, hkX, hfX, hgo⟩ := hcall { fr with defers := ds } cs hu hroom'
    cases e with
    | outgrown => exact ⟨.outgrown, w', fr, hR, Outgrown.of_steps (.one h1) hsteps, rfl, rfl, trivial⟩
    | returned v =>
     have i2 : (lone frX ({ { fr with defers := ds } with mode := u' } :: cs) w').fenced P F := fenced_going (n := n - 1) (hfX ▸ hFf) hroom' hgo
     have h2 := step_going_returned (c := { { fr with defers := ds } with mode := u' }) (cs := cs) hkX hgo
     obtain ⟨e', w'', fr', hR', hs', hfn', hl'⟩ := ih (settle u') w' { { { fr with defers := ds } with mode := u' } with mode := settle u' } cs rfl rfl ht hf hb hroom hR
     exact ⟨e', w'', fr', hR', ComesIn.of_steps (.head i1 h1 (StepsIn.trans hsteps (.one i2 h2))) hs', hfn', hl'⟩
    | panicked chain =>
     have i2 : (lone frX ({ { fr with defers := ds } with mode := u' } :: cs) w').fenced P F := fenced_going (n := n - 1) (hfX ▸ hFf) hroom' hgo
     have h2 := step_going_panicked (c := { { fr with defers := ds } with mode := u' }) (cs := cs) hgo
     obtain ⟨e', w'', fr', hR', hs', hfn', hl'⟩ := ih (raised u' chain) w' { { { fr with defers := ds } with mode := u' } with mode := raised u' chain } cs rfl rfl ht hf hb hroom hR
     exact ⟨e', w'', fr', hR', ComesIn.of_steps (.head i1 h1 (StepsIn.trans hsteps (.one i2 h2))) hs', hfn', hl'⟩
theorem callsDIn_of_wp_marks {f : FuncId} {fn : Func} {c : Code} {args : Array Value} {u : FrameMode} {w : World} {R : Ending → World → Prop}
 (hf : P.funcs[f]? = some fn) (hb : fn.body = some c) (hF : F.fn f)
 (h : c.wpIn F n P (bodyPostM F n P fn R) { tmps := args ++ Array.replicate (fn.ntmps - args.size) undef, defers := [] } w) (hro : F.round = none := by rfl) :
 CallsDIn F n P f args u w fun e u' w' => u' = u ∧ R e w' := by
 refine ⟨hF, fun c₀ cs hu hr => ?_⟩
 let b : Frame := { (default : Frame) with fn := f, kind := .deferred, roundOf := none }
 have henter : Frame.enter P f args .deferred =
  b.atR { tmps := args ++ Array.replicate (fn.ntmps - args.size) undef, defers := [] } [.code c] := by
  simp [Frame.enter, Frame.atR, hf, hb, b]
 have hc : ({ c₀ with mode := u } : Frame) = c₀ := by subst hu; rfl
 obtain ⟨e, a', w', hq, harr⟩ := h b [] (c₀ :: cs) hro.symm hF hr
 rw [← henter] at harr
 cases e with
 | normal =>
  obtain ⟨e', w'', fr', hR, hs, hfn, hk, hl⟩ := leaves_kind a'.defers .returning w' { b.atR a' [] with mode := .returning } (c₀ :: cs) rfl rfl rfl hf hF hr hq
  exact ⟨e', u, w'', fr', ⟨rfl, hR⟩, (by rw [hc]; exact ComesIn.of_steps (StepsIn.trans harr (.one (fenced_calm (fr := b.atR a' []) hF hr rfl) (stepR_end rfl))) hs), hk, hfn, hl⟩
 | ret =>
  obtain ⟨todo, hs₀⟩ := harr.1 rfl
  obtain ⟨e', w'', fr', hR, hs, hfn, hk, hl⟩ := leaves_kind a'.defers .returning w' { b.atR a' todo with mode := .returning } (c₀ :: cs) rfl rfl rfl hf hF hr hq
  exact ⟨e', u, w'', fr', ⟨rfl, hR⟩, (by rw [hc]; exact ComesIn.of_steps hs₀ hs), hk, hfn, hl⟩
 | panic chain =>
  obtain ⟨todo, hs₀⟩ := harr
  obtain ⟨e', w'', fr', hR, hs, hfn, hk, hl⟩ := leaves_kind a'.defers (.panicking chain) w' { b.atR a' todo with mode := .panicking chain } (c₀ :: cs) rfl rfl rfl hf hF hr hq
  exact ⟨e', u, w'', fr', ⟨rfl, hR⟩, (by rw [hc]; exact ComesIn.of_steps hs₀ hs), hk, hfn, hl⟩
 | exit id => exact hq.elim
 | goto l => exact hq.elim
 | outgrown => exact ⟨.outgrown, u, w', b, ⟨rfl, hq⟩, harr.resolve_left (by simp [b]), rfl, rfl, trivial⟩
end
section
variable {P : Program} {fd : Func} {tmps : Array Value} {R : Ending → World → Prop} {B : Nat} {m0 : M} {h0 : Heap} {w0 : World} {m : M} {h : Heap}
theorem leaves_marks (hB : w0.heap.size ≤ B) {rest : List Deferred} : ∀ (ds : List Deferred) (w : World), Marks B m w (ds ++ rest) → HRel m h w → Ext m0 h0 w0 m h w →
 (∀ w', HRel m h w' → Ext m0 h0 w0 m h w' → Marks B m w' rest → LeavesInM Fence.wide 0 P fd tmps R rest .returning w') → LeavesInM Fence.wide 0 P fd tmps R (ds ++ rest) .returning w
 | [], w, hM, H, E, hr => hr w H E hM
 | d :: ds, w, ⟨⟨r, h1, h2, h3, h4, h5⟩, t⟩, H, E, hr =>
  ⟨by simp, .inl ⟨r, _, by rw [h1], run_takeDeferred h3, leaves_marks hB ds _ (t.put h5) (H.putOff h4 _) (E.putOff (by omega) _) hr⟩⟩
theorem leaves_marks2 (hB : w0.heap.size ≤ B) {d : Deferred} {d2 : List Deferred} : ∀ (ds : List Deferred) (w : World), Marks B m w (ds ++ d2) → HRel m h w → Ext m0 h0 w0 m h w →
 (∀ w', HRel m h w' → Ext m0 h0 w0 m h w' → Marks B m w' d2 → LeavesInM Fence.wide 0 P fd tmps R (d :: d2) .returning w') → LeavesInM Fence.wide 0 P fd tmps R (ds ++ d :: d2) .returning w
 | [], w, hM, H, E, hr => hr w H E hM
 | x :: ds, w, ⟨⟨r, h1, h2, h3, h4, h5⟩, t⟩, H, E, hr =>
  ⟨by simp, .inl ⟨r, _, by rw [h1], run_takeDeferred h3, leaves_marks2 hB ds _ (Marks.put h5 t) (H.putOff h4 _) (E.putOff (by omega) _) hr⟩⟩
end
theorem bindP_rel {C : Cx} {m : M} (hV : C.vars.contains DSL = false) : ∀ (ps : List Nat) (vs : List V) (env : T V) (tm : Array Value) (xs : List Value), VsRel m vs xs → vs.length = ps.length → tm.size = C.N → (∀ p ∈ ps, C.vars.contains p = true ∧ p < C.N) →
 (∀ s v, env.get s = some v → s = DSL ∨ (C.vars.contains s = true ∧ VRel m v (tm.getD s undef))) →
 ERel C m (bindP ps vs env) { tmps := (ps.zip xs).foldl (fun t (p : Nat × Value) => t.setIfInBounds p.1 p.2) tm, defers := [] }
 | [], [], env, tm, xs, _, _, hs, _, he => ⟨hs, he, hV⟩
 | [], _ :: _, _, _, _, _, hl, _, _, _ => by simp at hl
 | _ :: _, [], _, _, _, _, hl, _, _, _ => by simp at hl
 | p :: ps, v :: vs, env, tm, _, ⟨x, xs, rfl, rx, rxs⟩, hl, hs, hp, he => by
  have hpp := hp p (by simp)
  simp only [bindP, List.zip_cons_cons, List.foldl_cons]
  refine bindP_rel hV ps vs (env.set p v) (tm.setIfInBounds p x) xs rxs (by simpa using hl) (by simpa using hs) (fun q hq => hp q (by simp [hq])) (fun s u hu => ?_)
  rw [T.gs] at hu
  by_cases c : s = p
  · rw [if_pos c] at hu; cases hu
    subst c
    refine .inr ⟨hpp.1, ?_⟩
    rw [Array.getD_eq_getD_getElem?, Array.getElem?_setIfInBounds_self_of_lt (by omega)]
    exact rx
  · rw [if_neg c] at hu
    refine (he s u hu).imp id fun q => ⟨q.1, ?_⟩
    rw [Array.getD_eq_getD_getElem?, Array.getElem?_setIfInBounds_ne (Ne.symm c), ← Array.getD_eq_getD_getElem?]
    exact q.2
theorem jumpOf_post {P : Program} {l : Nat} {R : Ending → World → Prop} {ex : Ex} {a : Act} {w : World}
 (h : ∀ jump, (jump = match ex with | .norm => none | ex => some (jumpOf ex)) → ∃ v w', (Instr.endRound l jump).run P w = .ok v w' ∧ R (.returned v) w') : roundPost P l R (exitOf ex) a w := by
 cases ex <;> exact h _ rfl
theorem round_sound {P : Program} {G : Nat} {call : CallF} (hcall : CallsOK P (LOK P G) G call) {b : Nat} {vs : List V} {h h' : Heap} {v : V} (e : evY (evC call) b vs h = some (v, h')) :
 ∀ m w (args : List Value) loc, m b = some loc → VsRel m vs args → HRel m h w → Glob (LOK P G) G m →
 ∃ r : Loop, w.heap[loc.block]? = some (.loop r) ∧ args.length = r.params.size ∧
  RoundIn Fence.wide 0 P loc.block r.fn ((r.params.zip (List.toArray args)).foldl (fun tmps (t, a) => tmps.setIfInBounds t a) r.tmps) r.assign r.body w (Post m h w v h') := by
 intro m w args loc hm hv H hG
 unfold evY at e
 split at e
 · rename_i ps as bd env hb
   cases hl : Nat.beq vs.length ps.length
   · rw [hl] at e; cases e
   · rw [hl] at e; simp only [cond_true] at e
     have hlen := Nat.eq_of_beq_eq_true hl
     obtain ⟨g, hg, g1, g2, g3, hr, henv⟩ := H.loop hm hb
     subst g1; subst g2; subst g3
     obtain ⟨k1, k2, k3, k4, k5, k6⟩ := hG.2 b loc g hm hg
     have hpsz : g.r.params.size = g.ps.length := by rw [← k3]; simp
     refine ⟨_, hr, by rw [hv.length, hlen]; exact hpsz.symm, ?_⟩
     split at e
     · rename_i env1 h1 hev1
       split at e
       · rename_i ps1 as1 bd1 en1 p1 hb1
         split at e
         · rename_i ex env2 h2 hev2
           split at e
           · rename_i ps2 as2 bd2 en2 st2 pe2 hb2
             have hzip : ((g.r.params.zip (List.toArray args)).foldl (fun tmps (t, a) => tmps.setIfInBounds t a) g.r.tmps) = (g.ps.zip args).foldl (fun t (p : Nat × Value) => t.setIfInBounds p.1 p.2) g.r.tmps := by
              rw [← Array.foldl_toList, Array.toList_zip, k3]
             have hE := bindP_rel (C := ⟨G, g.vars, g.N, false⟩) k6 g.ps vs env g.r.tmps args hv hlen k4 k5 henv
             refine roundIn_of_wpIn (F := Fence.wide) trivial ?_
             have hC0 : Cir (LOK P G) ⟨G, g.vars, g.N, false⟩ (some loc.block) 0 m h w (bindP g.ps vs env) { tmps := (g.ps.zip args).foldl (fun t (p : Nat × Value) => t.setIfInBounds p.1 p.2) g.r.tmps, defers := [] } :=
              ⟨hG, hE, H, trivial, Nat.zero_le _, fun l hl => by cases hl; exact ⟨_, hr⟩⟩
             rw [hzip]
             refine code_sound (C := ⟨G, g.vars, g.N, false⟩) (ro := some loc.block) (B := 0) hcall (fun _ x => x) (fun q => by cases q) g.as g.r.assign k1 _ _ h m _ w .norm env1 h1 hC0 hev1 (fun a1 w1 m1 hC1 E1 => ?_)
             have hm1 := E1.le _ _ hm
             obtain ⟨g', hg', _, _, _, hr1, _⟩ := hC1.h.loop hm1 hb1
             rw [hg] at hg'; cases hg'
             obtain ⟨H1', E1'⟩ := hC1.h.setL hm1 hb1 hg 1 p1
             refine ⟨_, run_beginRound hr1 rfl, ?_⟩
             have hC1' : Cir (LOK P G) ⟨G, g.vars, g.N, false⟩ (some loc.block) 0 m1 (hset h1 b (.lp ps1 as1 bd1 en1 1 p1)) (w1.putObj loc.block (.loop { g.r with state := lst 1, pending := p1.map jumpOf })) env1 a1 :=
              ⟨hC1.g, hC1.e, H1', hC1.d.ext E1', Nat.zero_le _, hC1.r.ext E1'⟩
             refine code_sound (C := ⟨G, g.vars, g.N, false⟩) (ro := some loc.block) (B := 0) hcall (fun _ x => x) (fun q => by cases q) g.bd g.r.body k2 _ _ _ m1 a1 _ ex env2 h2 hC1' hev2 (fun a2 w2 m2 hC2 E2 => ?_)
             have hm2 := E2.le _ _ hm1
             obtain ⟨g', hg', _, _, _, hr2, _⟩ := hC2.h.loop hm2 hb2
             rw [hg] at hg'; cases hg'
             refine jumpOf_post fun jump hj => ?_
             have hend := run_endRound (P := P) jump hr2
             refine ⟨_, _, hend, ?_⟩
             cases ex with
             | norm =>
              simp only [Option.some.injEq, Prod.mk.injEq] at e
              obtain ⟨rfl, rfl⟩ := e
              obtain ⟨H3, E3⟩ := hC2.h.setL hm2 hb2 hg 0 none
              subst hj
              exact ⟨_, m2, rfl, rfl, H3, (E1.trans E1').trans (E2.trans E3)⟩
             | ret =>
              simp only [Option.some.injEq, Prod.mk.injEq] at e
              obtain ⟨rfl, rfl⟩ := e
              obtain ⟨H3, E3⟩ := hC2.h.setL hm2 hb2 hg 2 (some .ret)
              subst hj
              exact ⟨_, m2, rfl, rfl, H3, (E1.trans E1').trans (E2.trans E3)⟩
             | exit id =>
              simp only [Option.some.injEq, Prod.mk.injEq] at e
              obtain ⟨rfl, rfl⟩ := e
              obtain ⟨H3, E3⟩ := hC2.h.setL hm2 hb2 hg 2 (some (.exit id))
              subst hj
              exact ⟨_, m2, rfl, rfl, H3, (E1.trans E1').trans (E2.trans E3)⟩
             | goto t =>
              simp only [Option.some.injEq, Prod.mk.injEq] at e
              obtain ⟨rfl, rfl⟩ := e
              obtain ⟨H3, E3⟩ := hC2.h.setL hm2 hb2 hg 2 (some (.goto t))
              subst hj
              exact ⟨_, m2, rfl, rfl, H3, (E1.trans E1').trans (E2.trans E3)⟩
           · cases e
         · cases e
       · cases e
     · cases e
 · cases e
theorem ERel.mono {C : Cx} {m m' : M} (l : Le m m') {env : T V} {a : Act} (hE : ERel C m env a) : ERel C m' env a :=
 ⟨hE.1, fun s v hs => (hE.2.1 s v hs).imp id fun q => ⟨q.1, VRel.mono l _ _ q.2⟩, hE.2.2⟩
theorem end_sound {P : Program} {G : Nat} {call : CallF} (hcall : CallsOK P (LOK P G) G call) {C : Cx} (hCG : C.G = G) {fd : Func} {rvs : List RV} (hrs : chkRs P C.vars fd.results.toList rvs = true) {m m' : M} {h h0 h1 h' : Heap} {w w' : World} {env : T V} {a : Act} {v : V} {ex : Ex}
 (hC : Cir (LOK P G) C none w.heap.size m' h0 w' env a) (E : Ext m h w m' h0 w') (hend : (C.df = true → evEnd call ex env h0 = .ok ex env h1) ∧ (C.df = false → h1 = h0))
 (hres : (match evRs env h1 rvs with
  | some [v] => fV v fun v => some (v, h1)
  | some vs => some (.tup vs, h1)
  | none => none) = some (v, h')) : LeavesInM Fence.wide 0 P fd a.tmps (Post m h w v h') a.defers .returning w' := by
 have fin : ∀ mf wf, HRel mf h1 wf → Ext m h w mf h1 wf → ERel C mf env a → LeavesInM Fence.wide 0 P fd a.tmps (Post m h w v h') [] .returning wf := by
  intro mf wf Hf Ef hEf
  cases hr : evRs env h1 rvs with
  | none => rw [hr] at hres; cases hres
  | some us =>
   rw [hr] at hres
   obtain ⟨xs, hx, rx⟩ := results_sound (P := P) Hf hEf _ _ _ hrs hr
   refine ⟨_, results_run hx, _, mf, rfl, ?_⟩
   have hxl := rx.length
   match us, hres, rx, hxl with
   | [], hres, rx, hxl =>
    simp only [Option.some.injEq, Prod.mk.injEq] at hres
    obtain ⟨rfl, rfl⟩ := hres
    rw [dif_neg (by simp at hxl; simp [hxl])]
    exact ⟨⟨xs, rfl, rx⟩, Hf, Ef⟩
   | [u], hres, rx, hxl =>
    simp only [fV_eq, Option.some.injEq, Prod.mk.injEq] at hres
    obtain ⟨rfl, rfl⟩ := hres
    rw [dif_pos (by simpa using hxl)]
    obtain ⟨x, rfl, r1⟩ := one_of rx
    exact ⟨r1, Hf, Ef⟩
   | u1 :: u2 :: us, hres, rx, hxl =>
    simp only [Option.some.injEq, Prod.mk.injEq] at hres
    obtain ⟨rfl, rfl⟩ := hres
    rw [dif_neg (by simp at hxl; omega)]
    exact ⟨⟨xs, rfl, rx⟩, Hf, Ef⟩
 have hD := hC.d
 have noC : Marks w.heap.size m' w' a.defers → h1 = h0 → LeavesInM Fence.wide 0 P fd a.tmps (Post m h w v h') a.defers .returning w' := by
  rintro hM rfl
  have := leaves_marks (P := P) (fd := fd) (tmps := a.tmps) (R := Post m h w v h') (B := w.heap.size) (m0 := m) (h0 := h) (w0 := w) (m := m') (h := h1) (Nat.le_refl _) (rest := []) a.defers w' (by simpa using hM) hC.h E (fun w'' H'' E'' _ => fin m' w'' H'' E'' hC.e)
  simpa using this
 unfold DsR at hD
 split at hD
 · rename_i dv hdf hdv
   obtain ⟨d1, d, d2, hds, ⟨f, first, caps, args, A, C', rfl, hfy, hd, ra, rc⟩, hM⟩ := hD
   have he := hend.1 hdf
   unfold evEnd at he
   rw [hdv] at he
   simp only [] at he
   split at he
   · rename_i u h2 hcl
     simp only [Out.ok.injEq, true_and] at he
     subst he
     rw [hds]
     refine leaves_marks2 (m0 := m) (h0 := h) (w0 := w) (m := m') (h := h0) (Nat.le_refl _) d1 w' hM hC.h E (fun w1 H1 E1 hM1 => ?_)
     obtain ⟨hf, hcc⟩ := (hcall f _ _ u h2 hcl).1 hfy
     have hargs : VsRel m' (first ++ args ++ caps) (A ++ C') := VsRel.append ra rc
     have hcd := (hcc m' w1 _ hargs H1 (hCG ▸ hC.g)).2 .returning
     refine ⟨by simp, .inr ⟨fun q => absurd q (by simp [Fence.wide]), .func f, List.toArray C', f, List.toArray (A ++ C'), by rw [hd], ?_, fun _ _ => trivial, ?_⟩⟩
     · rw [hd]
       simp only [invoke]
       rw [show (List.toArray A ++ List.toArray C') = List.toArray (A ++ C') by simp]
       exact run_callFunc hf
     · refine CallsDIn.mono hcd ?_
       rintro en u' w2 ⟨rfl, x, m2, rfl, rx, H2, E2⟩
       have hM2 := hM1.ext E2
       have := leaves_marks (P := P) (fd := fd) (tmps := a.tmps) (R := Post m h w v h') (B := w.heap.size) (m0 := m) (h0 := h) (w0 := w) (m := m2) (h := h2) (Nat.le_refl _) (rest := []) d2 w2 (by simpa using hM2) H2 (E1.trans E2) (fun w3 H3 E3 _ => fin m2 w3 H3 E3 (hC.e.mono E2.le))
       simpa [settle] using this
   · cases he
 · rename_i hn
   refine noC hD ?_
   cases hdf : C.df
   · exact hend.2 hdf
   · have hnone : env.get DSL = none := by
      cases q : env.get DSL with
      | none => rfl
      | some v => exact absurd q (hn v hdf)
     have he := hend.1 hdf
     unfold evEnd at he
     rw [hnone] at he
     simp only [Out.ok.injEq, true_and] at he
     exact he.symm
theorem evF_sound {P : Program} {G : Nat} {F : T IFn} {ov : CallF} (hov : CallsOK P (LOK P G) G ov) (hF : FnsOK P G F) : ∀ n, CallsOK P (LOK P G) G (evF ov F n) := by
 intro n
 induction n with
 | zero => intro f vs h v h' e; cases e
 | succ n ih =>
  intro f vs h v h' e
  have e' : (match F.get f with
   | some fn => bif Nat.beq vs.length fn.nargs then
    (match evC (evF ov F n) fn.body (bindA vs 0 .e) h with
     | .ok .norm env h => (match evRs env h fn.results with
      | some [v] => fV v fun v => some (v, h)
      | some vs => some (.tup vs, h)
      | none => none)
     | .ok .ret env h => (match evRs env h fn.results with
      | some [v] => fV v fun v => some (v, h)
      | some vs => some (.tup vs, h)
      | none => none)
     | _ => none)
    else none
   | none => bif Nat.ble YB f then evY (evC (evF ov F n)) (f - YB) vs h else ov f vs h) = some (v, h') := e
  cases hg : F.get f with
  | none =>
   rw [hg] at e'
   simp only [] at e'
   cases hy : Nat.ble YB f
   · rw [hy] at e'; simp only [cond_false] at e'
     refine ⟨(hov f vs h v h' e').1, fun q => ?_⟩
     have := Nat.ble_eq_true_of_le q
     rw [hy] at this; cases this
   · rw [hy] at e'; simp only [cond_true] at e'
     have hle := Nat.le_of_ble_eq_true hy
     exact ⟨fun q => absurd q (by omega), fun _ => round_sound ih e'⟩
  | some fn =>
   rw [hg] at e'
   simp only [] at e'
   cases hl : Nat.beq vs.length fn.nargs
   · rw [hl] at e'; cases e'
   · rw [hl] at e'; simp only [cond_true] at e'
     have hlen := Nat.eq_of_beq_eq_true hl
     have hc := hF f fn hg
     unfold chkFn at hc
     split at hc
     · rename_i fd hfd
       split at hc
       · rename_i c hbody
         simp only [Bool.and_eq_true, Bool.not_eq_true', Nat.blt_eq] at hc
         obtain ⟨⟨⟨⟨⟨⟨hcc, hvd⟩, hfy⟩, hargs⟩, hnt⟩, hrs⟩, hname⟩ := hc
         have hnt := Nat.le_of_ble_eq_true hnt
         refine ⟨fun _ => ⟨⟨fd, hfd, by rw [hbody]; rfl, hname⟩, fun m w args hv H hG => ?_⟩, fun q => absurd q (by omega)⟩
         have hal := hv.length
         have hwp : c.wpIn Fence.wide 0 P (bodyPostM Fence.wide 0 P fd (Post m h w v h')) { tmps := List.toArray args ++ Array.replicate (fd.ntmps - (List.toArray args).size) undef, defers := [] } w := by
          have hE : ∀ df, ERel ⟨G, fn.vars, fd.ntmps, df⟩ m (bindA vs 0 .e) { tmps := List.toArray args ++ Array.replicate (fd.ntmps - (List.toArray args).size) undef, defers := [] } := by
           intro df
           refine ⟨by simp; omega, fun s u hs => ?_, hvd⟩
           rw [bindA_get] at hs
           split at hs
           · rename_i hr
             simp only [Nat.sub_zero, Nat.zero_add] at hs hr
             obtain ⟨x, hx, rx⟩ := hv.get s u hs
             refine .inr ⟨List.all_eq_true.1 hargs s (by simp; omega), ?_⟩
             have : (List.toArray args ++ Array.replicate (fd.ntmps - (List.toArray args).size) undef).getD s undef = x := by
              rw [Array.getD_eq_getD_getElem?, Array.getElem?_append_left (by simp; omega)]
              simp [hx]
             rw [this]; exact rx
           · cases hs
          have hDF : (bindA vs 0 .e).get DSL = none := by
           cases q : (bindA vs 0 .e).get DSL with
           | none => rfl
           | some u =>
            rw [bindA_get] at q
            split at q
            · rename_i hr
              have := List.all_eq_true.1 hargs DSL (by simp; omega)
              rw [hvd] at this; cases this
            · cases q
          have hC : ∀ df, Cir (LOK P G) ⟨G, fn.vars, fd.ntmps, df⟩ none w.heap.size m h w (bindA vs 0 .e) { tmps := List.toArray args ++ Array.replicate (fd.ntmps - (List.toArray args).size) undef, defers := [] } :=
           fun df => ⟨hG, hE df, H, by unfold DsR; rw [hDF]; cases df <;> exact trivial, Nat.le_refl _, fun l hl => by cases hl⟩
          have fin : ∀ ex env1 h1, (ex = .norm ∨ ex = .ret) → evC (evF ov F n) fn.body (bindA vs 0 .e) h = .ok ex env1 h1 →
           (match evRs env1 h1 fn.results with
            | some [v] => fV v fun v => some (v, h1)
            | some vs => some (.tup vs, h1)
            | none => none) = some (v, h') →
           c.wpIn Fence.wide 0 P (bodyPostM Fence.wide 0 P fd (Post m h w v h')) { tmps := List.toArray args ++ Array.replicate (fd.ntmps - (List.toArray args).size) undef, defers := [] } w := by
           intro ex env1 h1 hex hev hres
           unfold chkB0 at hcc
           split at hcc
           · rename_i b hb
             rw [hb] at hev
             have hev' : (match evC (evF ov F n) b (bindA vs 0 .e) h with
              | .ok .norm env h => evEnd (evF ov F n) .norm env h
              | .ok .ret env h => evEnd (evF ov F n) .ret env h
              | _ => .fail) = Out.ok ex env1 h1 := hev
             have hh : ∃ h0, evC (evF ov F n) b (bindA vs 0 .e) h = .ok ex env1 h0 ∧ evEnd (evF ov F n) ex env1 h0 = .ok ex env1 h1 := by
              have key : ∀ ex0 env0 h0, evEnd (evF ov F n) ex0 env0 h0 = .ok ex env1 h1 → ex0 = ex ∧ env0 = env1 := by
               intro ex0 env0 h0 q
               unfold evEnd at q
               split at q
               · cases q; exact ⟨rfl, rfl⟩
               · split at q
                 · cases q; exact ⟨rfl, rfl⟩
                 · cases q
               · cases q
              split at hev'
              · rename_i env0 h0 q
                obtain ⟨rfl, rfl⟩ := key _ _ _ hev'
                exact ⟨h0, q, hev'⟩
              · rename_i env0 h0 q
                obtain ⟨rfl, rfl⟩ := key _ _ _ hev'
                exact ⟨h0, q, hev'⟩
              · cases hev'
             obtain ⟨h0, q1, q2⟩ := hh
             refine code_sound (C := ⟨G, fn.vars, fd.ntmps, true⟩) (ro := none) ih (fun _ x => x) (fun _ => rfl) b c hcc _ _ h m _ w ex env1 h0 (hC true) q1 (fun a' w' m' hC' E' => ?_)
             have := end_sound (C := ⟨G, fn.vars, fd.ntmps, true⟩) ih rfl hrs hC' E' ⟨fun _ => q2, fun q => by cases q⟩ hres
             rcases hex with rfl | rfl
             · exact this
             · exact this
           · refine code_sound (C := ⟨G, fn.vars, fd.ntmps, false⟩) (ro := none) ih (fun _ x => x) (fun _ => rfl) fn.body c hcc _ _ h m _ w ex env1 h1 (hC false) hev (fun a' w' m' hC' E' => ?_)
             have := end_sound (C := ⟨G, fn.vars, fd.ntmps, false⟩) (ex := ex) ih rfl hrs hC' E' ⟨fun q => (by cases q), fun _ => rfl⟩ hres
             rcases hex with rfl | rfl
             · exact this
             · exact this
          split at e'
          · rename_i env1 h1 hev; exact fin .norm env1 h1 (.inl rfl) hev e'
          · rename_i env1 h1 hev; exact fin .ret env1 h1 (.inr rfl) hev e'
          · cases e'
         exact ⟨callsIn_wide.1 (callsIn_of_wp_marks hfd hbody trivial hwp), fun u => callsDIn_of_wp_marks hfd hbody trivial hwp⟩
       · cases hc
     · cases hc
def Evt (c : Nat → CallF) (f : Nat) (vs : List V) (h : Heap) (r : V × Heap) : Prop := ∃ n, ∀ m, n ≤ m → c m f vs h = some r
theorem Evt.uniq {c : Nat → CallF} {f : Nat} {vs : List V} {h : Heap} {r s : V × Heap} (a : Evt c f vs h r) (b : Evt c f vs h s) : r = s := by
 obtain ⟨n, hn⟩ := a
 obtain ⟨k, hk⟩ := b
 have e := hn (max n k) (Nat.le_max_left _ _)
 rw [hk (max n k) (Nat.le_max_right _ _)] at e
 cases e; rfl
section
variable {c : Nat → CallF} {L : CallF}
def Lim (c : Nat → CallF) (L : CallF) : Prop := ∀ f vs h r, L f vs h = some r → Evt c f vs h r
theorem evOp_lim (hL : Lim c L) {loc : List V} {env : T V} {h : Heap} {o : IOp} {r : V × Heap} (e : evOp L loc env h o = some r) :
 ∃ n, ∀ m, n ≤ m → evOp (c m) loc env h o = some r := by
 cases o
 case cf f xs =>
  simp only [evOp] at e ⊢
  cases hx : evOs loc env xs with
  | none => rw [hx] at e; cases e
  | some vs => rw [hx] at e; exact hL _ _ _ _ e
 case cv x xs =>
  simp only [evOp] at e ⊢
  split at e
  · split at e
    · rename_i f first caps h1 _ vs h2
      cases hb : Nat.blt f YB
      · rw [hb] at e; cases e
      · rw [hb] at e; simp only [cond_true] at e ⊢
        exact hL _ _ _ _ e
    · cases e
  · split at e
    · exact hL _ _ _ _ e
    · cases e
  · cases e
 all_goals exact ⟨0, fun m _ => e⟩
theorem evSteps_lim (hL : Lim c L) : ∀ (l : List IStep) (loc : List V) (env : T V) (h : Heap) {e : Ex} {env' : T V} {h' : Heap}, evSteps L l loc env h = .ok e env' h' →
 ∃ n, ∀ m, n ≤ m → evSteps (c m) l loc env h = .ok e env' h' := by
 intro l
 induction l with
 | nil => intro loc env h e env' h' x; exact ⟨0, fun m _ => x⟩
 | cons s l ih =>
  intro loc env h e env' h' x
  rw [evSteps_cons] at x
  simp only [evSteps_cons]
  split at x
  · rename_i hg
    split at x
    · rename_i v h1 ho
      obtain ⟨n, hn⟩ := evOp_lim hL ho
      obtain ⟨k, hk⟩ := ih _ _ _ x
      refine ⟨max n k, fun m hm => ?_⟩
      rw [hn m (by omega)]; exact hk m (by omega)
    · cases x
  · exact ih _ _ _ x
  · cases x
theorem guess_indep (a b : CallF) (loc : List V) (env : T V) (h : Heap) (s : IStep) : guess a loc env h s = guess b loc env h s := by
 obtain ⟨g, o, d⟩ := s
 cases o <;> rfl
theorem lay_indep (a b : CallF) (env : T V) (late : List Nat) : ∀ (l : List IStep) (i : Nat) (loc : List V) (h : Heap), lay a env late l i loc h = lay b env late l i loc h := by
 intro l
 induction l with
 | nil => intro i loc h; rfl
 | cons s l ih =>
  intro i loc h
  simp only [lay, guess_indep a b, ih]
theorem evDr_cons2 (call : CallF) (env : T V) (s : DS) (l : List DS) (loc : List V) (hs : List Heap) (h : Heap) : evDr call env (s :: l) loc hs h =
      match s.2 with
      | some (u, c) => bif lateOK loc env s.1.op u c then evDr call env l (u :: loc) hs h else none
      | none =>
       match evG loc env s.1.gd with
       | some true => match evOp call loc env h s.1.op with
        | some (v, h') => bif eff s.1.op then evDr call env l (v :: loc) (h' :: hs) h' else evDr call env l (v :: loc) hs h
        | none => none
       | some false => bif eff s.1.op then evDr call env l (.tup [] :: loc) (h :: hs) h else evDr call env l (.tup [] :: loc) hs h
       | none => none := by
 show (match s.2 with
  | some (u, c) => bif lateOK loc env s.1.op u c then evDr call env l (u :: loc) hs h else none
  | none =>
   match evG loc env s.1.gd with
   | some true => match evOp call loc env h s.1.op with
    | some (v, h') => fV v fun v => bif eff s.1.op then evDr call env l (v :: loc) (h' :: hs) h' else evDr call env l (v :: loc) hs h
    | none => none
   | some false => bif eff s.1.op then evDr call env l (.tup [] :: loc) (h :: hs) h else evDr call env l (.tup [] :: loc) hs h
   | none => none) = _
 simp only [fV_eq]
theorem evDr_lim (hL : Lim c L) (env : T V) : ∀ (l : List DS) (loc : List V) (hs : List Heap) (h : Heap) {r : List V × List Heap}, evDr L env l loc hs h = some r →
 ∃ n, ∀ m, n ≤ m → evDr (c m) env l loc hs h = some r := by
 intro l
 induction l with
 | nil => intro loc hs h r x; exact ⟨0, fun m _ => x⟩
 | cons s l ih =>
  intro loc hs h r x
  rw [evDr_cons2] at x
  simp only [evDr_cons2]
  obtain ⟨s1, s2⟩ := s
  cases s2 with
  | some uc =>
   obtain ⟨u, cs⟩ := uc
   simp only [] at x ⊢
   cases hl : lateOK loc env s1.op u cs
   · rw [hl] at x; cases x
   · rw [hl] at x
     simp only [cond_true] at x ⊢
     exact ih _ _ _ x
  | none =>
   simp only [] at x ⊢
   split at x
   · rename_i hg
     split at x
     · rename_i v h1 ho
       obtain ⟨n, hn⟩ := evOp_lim hL ho
       cases he : eff s1.op
       · rw [he] at x
         simp only [cond_false] at x
         obtain ⟨k, hk⟩ := ih _ _ _ x
         refine ⟨max n k, fun m hm => ?_⟩
         rw [hn m (by omega)]; simp only [cond_false]; exact hk m (by omega)
       · rw [he] at x
         simp only [cond_true] at x
         obtain ⟨k, hk⟩ := ih _ _ _ x
         refine ⟨max n k, fun m hm => ?_⟩
         rw [hn m (by omega)]; simp only [cond_true]; exact hk m (by omega)
     · cases x
   · rename_i hg
     cases he : eff s1.op
     · rw [he] at x
       simp only [cond_false] at x ⊢
       exact ih _ _ _ x
     · rw [he] at x
       simp only [cond_true] at x ⊢
       exact ih _ _ _ x
   · cases x
theorem rdAll_lim (hL : Lim c L) (loc : List V) (env : T V) (o : IOp) (v : V) : ∀ (hs : List Heap), rdAll L loc env o v hs = true →
 ∃ n, ∀ m, n ≤ m → rdAll (c m) loc env o v hs = true := by
 intro hs
 induction hs with
 | nil => intro _; exact ⟨0, fun _ _ => rfl⟩
 | cons h hs ih =>
  intro x
  simp only [rdAll, Bool.and_eq_true] at x ⊢
  obtain ⟨a, b⟩ := x
  obtain ⟨k, hk⟩ := ih b
  split at a
  · rename_i u _ ho
    obtain ⟨n, hn⟩ := evOp_lim hL ho
    refine ⟨max n k, fun m hm => ⟨?_, hk m (by omega)⟩⟩
    rw [hn m (by omega)]; exact a
  · cases a
theorem rdOK_lim (hL : Lim c L) (env : T V) (l : List IStep) (loc : List V) (hs : List Heap) (r : Nat × Nat × Nat) (x : rdOK L env l loc hs r = true) :
 ∃ n, ∀ m, n ≤ m → rdOK (c m) env l loc hs r = true := by
 obtain ⟨i, lo, hi⟩ := r
 simp only [rdOK] at x ⊢
 split at x
 · rename_i s v loc' _ _
   split at x
   · rename_i hg
     obtain ⟨n, hn⟩ := rdAll_lim hL _ _ _ _ _ x
     exact ⟨n, fun m hm => hn m hm⟩
   · rename_i hg
     exact ⟨0, fun m _ => rfl⟩
 · cases x
theorem all_lim (hL : Lim c L) (env : T V) (l : List IStep) (loc : List V) (hs : List Heap) : ∀ (rs : List (Nat × Nat × Nat)), rs.all (rdOK L env l loc hs) = true →
 ∃ n, ∀ m, n ≤ m → rs.all (rdOK (c m) env l loc hs) = true := by
 intro rs
 induction rs with
 | nil => intro _; exact ⟨0, fun _ _ => rfl⟩
 | cons r rs ih =>
  intro x
  simp only [List.all_cons, Bool.and_eq_true] at x ⊢
  obtain ⟨n, hn⟩ := rdOK_lim hL _ _ _ _ _ x.1
  obtain ⟨k, hk⟩ := ih x.2
  exact ⟨max n k, fun m hm => ⟨hn m (by omega), hk m (by omega)⟩⟩
theorem evD_lim (hL : Lim c L) {l : List IStep} {late : List Nat} {reads : List (Nat × Nat × Nat)} {sets : List (Nat × Nat)} {env : T V} {h : Heap} {e : Ex} {env' : T V} {h' : Heap}
 (x : evD L l late reads sets env h = .ok e env' h') : ∃ n, ∀ m, n ≤ m → evD (c m) l late reads sets env h = .ok e env' h' := by
 unfold evD at x ⊢
 simp only [lay_indep _ L]
 split at x
 · cases x
 · rename_i dl h1 hl
   split at x
   · rename_i loc hs hd
     obtain ⟨n, hn⟩ := evDr_lim hL _ _ _ _ _ hd
     cases ha : reads.all (rdOK L env l loc hs)
     · rw [ha] at x; cases x
     · rw [ha] at x
       obtain ⟨k, hk⟩ := all_lim hL _ _ _ _ _ ha
       refine ⟨max n k, fun m hm => ?_⟩
       rw [hn m (by omega)]
       simp only []
       rw [hk m (by omega)]
       exact x
   · cases x
def BLim (b : T V → Heap → Out) (bs : Nat → T V → Heap → Out) : Prop := ∀ env h e env' h', b env h = .ok e env' h' → ∃ n, ∀ m, n ≤ m → bs m env h = .ok e env' h'
theorem dbl_lim {b : T V → Heap → Out} {bs : Nat → T V → Heap → Out} (hb : BLim b bs) (k : Nat) : BLim (dbl b k) (fun m => dbl (bs m) k) := by
 induction k with
 | zero => exact hb
 | succ k ih =>
  intro env h e env' h' x
  have eq : ∀ (f : T V → Heap → Out), dbl f (k + 1) env h = match dbl f k env h with
   | .ok .norm env h => dbl f k env h
   | r => r := fun _ => rfl
  rw [eq] at x
  simp only [eq]
  split at x
  · rename_i env1 h1 h2
    obtain ⟨n, hn⟩ := ih _ _ _ _ _ h2
    obtain ⟨j, hj⟩ := ih _ _ _ _ _ x
    refine ⟨max n j, fun m hm => ?_⟩
    have a := hn m (by omega)
    have b := hj m (by omega)
    simp only [] at a b
    rw [a]
    exact b
  · rename_i h2
    obtain ⟨n, hn⟩ := ih _ _ _ _ _ x
    refine ⟨n, fun m hm => ?_⟩
    have a := hn m hm
    simp only [] at a
    rw [a]
    cases e with
    | norm => exact absurd x (h2 env' h')
    | _ => rfl
theorem evC_lim (hL : Lim c L) : ∀ (k : IC), BLim (evC L k) (fun m => evC (c m) k) := by
 intro k
 induction k with
 | skip => intro env h e env' h' x; exact ⟨0, fun m _ => x⟩
 | ops l => intro env h e env' h' x; exact evSteps_lim hL l [] env h x
 | seq a b iha ihb =>
  intro env h e env' h' x
  have eq : ∀ f : CallF, evC f (.seq a b) env h = match evC f a env h with
   | .ok .norm env h => evC f b env h
   | r => r := fun _ => rfl
  rw [eq] at x
  simp only [eq]
  split at x
  · rename_i env1 h1 h2
    obtain ⟨n, hn⟩ := iha _ _ _ _ _ h2
    obtain ⟨j, hj⟩ := ihb _ _ _ _ _ x
    refine ⟨max n j, fun m hm => ?_⟩
    have a := hn m (by omega)
    have b := hj m (by omega)
    simp only [] at a b
    rw [a]
    exact b
  · rename_i h2
    obtain ⟨n, hn⟩ := iha _ _ _ _ _ x
    refine ⟨n, fun m hm => ?_⟩
    have a := hn m hm
    simp only [] at a
    rw [a]
    cases e with
    | norm => exact absurd x (h2 env' h')
    | _ => rfl
 | cond o a b iha ihb =>
  intro env h e env' h' x
  have eq : ∀ f : CallF, evC f (.cond o a b) env h = match evO [] env o with
   | some (.bool t) => bif t then evC f a env h else evC f b env h
   | _ => .fail := fun _ => rfl
  rw [eq] at x
  simp only [eq]
  split at x
  · rename_i t ht
    cases t
    · exact ihb _ _ _ _ _ x
    · exact iha _ _ _ _ _ x
  · cases x
 | block id a iha =>
  intro env h e env' h' x
  have eq : ∀ f : CallF, evC f (.block id a) env h = match evC f a env h with
   | .ok (.exit i) env h => bif Nat.beq i id then .ok .norm env h else .ok (.exit i) env h
   | r => r := fun _ => rfl
  rw [eq] at x
  simp only [eq]
  split at x
  · rename_i i env1 h1 h2
    obtain ⟨n, hn⟩ := iha _ _ _ _ _ h2
    refine ⟨n, fun m hm => ?_⟩
    have a := hn m hm
    simp only [] at a
    rw [a]
    exact x
  · rename_i h2
    obtain ⟨n, hn⟩ := iha _ _ _ _ _ x
    refine ⟨n, fun m hm => ?_⟩
    have a := hn m hm
    simp only [] at a
    rw [a]
    cases e with
    | exit i => exact absurd x (h2 i env' h')
    | _ => rfl
 | loop a iha =>
  intro env h e env' h' x
  have eq : ∀ f : CallF, evC f (.loop a) env h = match dbl (evC f a) 24 env h with
   | .ok .norm _ _ => .fail
   | r => r := fun _ => rfl
  rw [eq] at x
  simp only [eq]
  split at x
  · cases x
  · rename_i h2
    obtain ⟨n, hn⟩ := dbl_lim iha 24 _ _ _ _ _ x
    refine ⟨n, fun m hm => ?_⟩
    have a := hn m hm
    simp only [] at a
    rw [a]
    cases e with
    | norm => exact absurd x (h2 env' h')
    | _ => rfl
 | exit i => intro env h e env' h' x; exact ⟨0, fun m _ => x⟩
 | ret => intro env h e env' h' x; exact ⟨0, fun m _ => x⟩
 | scope a l r iha ihr =>
  intro env h e env' h' x
  have eq : ∀ f : CallF, evC f (.scope a l r) env h = match evC f a env h with
   | .ok (.goto i) env h => bif Nat.beq i l then
    (match dbl (fun env h => match evC f r env h with
     | .ok (.goto i) env h => bif Nat.beq i l then .ok .norm env h else .ok (.goto i) env h
     | .ok .norm env h => .ok (.goto l) env h
     | r => r) 24 env h with
     | .ok .norm _ _ => .fail
     | .ok (.goto i) env h => bif Nat.beq i l then .ok .norm env h else .fail
     | r => r)
    else .fail
   | r => r := fun _ => rfl
  have hin : BLim (fun env h => match evC L r env h with
            | .ok (.goto i) env h => bif Nat.beq i l then .ok .norm env h else .ok (.goto i) env h
            | .ok .norm env h => .ok (.goto l) env h
            | r => r) (fun m env h => match evC (c m) r env h with
            | .ok (.goto i) env h => bif Nat.beq i l then .ok .norm env h else .ok (.goto i) env h
            | .ok .norm env h => .ok (.goto l) env h
            | r => r) := by
   intro env h e env' h' y
   simp only [] at y ⊢
   split at y
   · rename_i i env1 h1 h2
     obtain ⟨n, hn⟩ := ihr _ _ _ _ _ h2
     refine ⟨n, fun m hm => ?_⟩
     have a := hn m hm
     simp only [] at a
     rw [a]
     exact y
   · rename_i env1 h1 h2
     obtain ⟨n, hn⟩ := ihr _ _ _ _ _ h2
     refine ⟨n, fun m hm => ?_⟩
     have a := hn m hm
     simp only [] at a
     rw [a]
     exact y
   · rename_i h2 h3
     obtain ⟨n, hn⟩ := ihr _ _ _ _ _ y
     refine ⟨n, fun m hm => ?_⟩
     have a := hn m hm
     simp only [] at a
     rw [a]
     cases e with
     | norm => exact absurd y (h3 env' h')
     | goto i => exact absurd y (h2 i env' h')
     | _ => rfl
  rw [eq] at x
  simp only [eq]
  split at x
  · rename_i i env1 h1 h2
    obtain ⟨n, hn⟩ := iha _ _ _ _ _ h2
    cases hb : Nat.beq i l
    · rw [hb] at x; cases x
    · rw [hb] at x
      simp only [cond_true] at x
      split at x
      · cases x
      · rename_i j env2 h3 h4
        obtain ⟨k, hk⟩ := dbl_lim hin 24 _ _ _ _ _ h4
        refine ⟨max n k, fun m hm => ?_⟩
        have a := hn m (by omega)
        have b := hk m (by omega)
        simp only [] at a b
        rw [a]
        simp only [hb, cond_true]
        rw [b]
        exact x
      · rename_i h3 h4
        obtain ⟨k, hk⟩ := dbl_lim hin 24 _ _ _ _ _ x
        refine ⟨max n k, fun m hm => ?_⟩
        have a := hn m (by omega)
        have b := hk m (by omega)
        simp only [] at a b
        rw [a]
        simp only [hb, cond_true]
        rw [b]
        cases e with
        | norm => exact absurd x (h3 env' h')
        | goto i => exact absurd x (h4 i env' h')
        | _ => rfl
  · rename_i h2
    obtain ⟨n, hn⟩ := iha _ _ _ _ _ x
    refine ⟨n, fun m hm => ?_⟩
    have a := hn m hm
    simp only [] at a
    rw [a]
    cases e with
    | goto i => exact absurd x (h2 i env' h')
    | _ => rfl
 | goto l => intro env h e env' h' x; exact ⟨0, fun m _ => x⟩
 | dops l late B R reads sets => intro env h e env' h' x; exact evD_lim hL x
 | bad => intro env h e env' h' x; cases x
 | rf g ps as bd iha ihb =>
  intro env h e env' h' x
  have eq : ∀ f : CallF, evC f (.rf g ps as bd) env h = match evO [] env g with
   | some (.func (.func f0) first caps) => bif Nat.blt f0 YB then
    (match f f0 (first ++ [.yld h.next] ++ caps) (hnew h (.lp ps as bd env 0 none)) with
     | some (_, h2) => (match h2.bl.get h.next with
      | some (.lp _ _ _ _ st pend) => bif Nat.beq st 1 then .fail else .ok (match pend with | some ex => ex | none => .norm) env (hset h2 h.next .dead)
      | _ => .fail)
     | none => .fail)
    else .fail
   | _ => .fail := fun _ => rfl
  rw [eq] at x
  simp only [eq]
  split at x
  · rename_i f0 first caps hg
    cases hb : Nat.blt f0 YB
    · rw [hb] at x; cases x
    · rw [hb] at x; simp only [cond_true] at x ⊢
      split at x
      · rename_i u h2 hc
        obtain ⟨n, hn⟩ := hL _ _ _ _ hc
        refine ⟨n, fun m hm => ?_⟩
        rw [hn m hm]
        exact x
      · cases x
  · cases x
 | wd a iha =>
  intro env h e env' h' x
  have eq : ∀ f : CallF, evC f (.wd a) env h = match evC f a env h with
   | .ok .norm env h => evEnd f .norm env h
   | .ok .ret env h => evEnd f .ret env h
   | _ => .fail := fun _ => rfl
  rw [eq] at x
  simp only [eq]
  have fin : ∀ ex env1 h1, evEnd L ex env1 h1 = .ok e env' h' → ∃ n, ∀ m, n ≤ m → evEnd (c m) ex env1 h1 = .ok e env' h' := by
   intro ex env1 h1 q
   unfold evEnd at q ⊢
   split at q
   · exact ⟨0, fun _ _ => q⟩
   · split at q
     · rename_i hc
       obtain ⟨n, hn⟩ := hL _ _ _ _ hc
       refine ⟨n, fun m hm => ?_⟩
       rw [hn m hm]
       exact q
     · cases q
   · cases q
  split at x
  · rename_i env1 h1 h2
    obtain ⟨n, hn⟩ := iha _ _ _ _ _ h2
    obtain ⟨j, hj⟩ := fin _ _ _ x
    refine ⟨max n j, fun m hm => ?_⟩
    have a := hn m (by omega)
    simp only [] at a
    rw [a]
    exact hj m (by omega)
  · rename_i env1 h1 h2
    obtain ⟨n, hn⟩ := iha _ _ _ _ _ h2
    obtain ⟨j, hj⟩ := fin _ _ _ x
    refine ⟨max n j, fun m hm => ?_⟩
    have a := hn m (by omega)
    simp only [] at a
    rw [a]
    exact hj m (by omega)
  · cases x
end
open Classical in
noncomputable def ev (ov : CallF) (F : T IFn) : CallF := fun f vs h =>
 if x : ∃ r, Evt (evF ov F) f vs h r then some (Classical.choose x) else none
theorem ev_evt {ov : CallF} {F : T IFn} : Lim (evF ov F) (ev ov F) := by
 intro f vs h r e
 unfold ev at e
 split at e
 · rename_i x
   cases e
   exact Classical.choose_spec x
 · cases e
theorem evt_ev {ov : CallF} {F : T IFn} {f : Nat} {vs : List V} {h : Heap} {r : V × Heap} (e : Evt (evF ov F) f vs h r) : ev ov F f vs h = some r := by
 have x : ∃ r, Evt (evF ov F) f vs h r := ⟨r, e⟩
 unfold ev
 rw [dif_pos x]
 exact congrArg some ((Classical.choose_spec x).uniq e)
theorem ev_sound {P : Program} {G : Nat} {F : T IFn} {ov : CallF} (hov : CallsOK P (LOK P G) G ov) (hF : FnsOK P G F) : CallsOK P (LOK P G) G (ev ov F) := by
 intro f vs h v h' e
 obtain ⟨n, hn⟩ := ev_evt _ _ _ _ e
 exact evF_sound hov hF n f vs h v h' (hn n (Nat.le_refl n))
def packV : List V → V
 | [v] => v
 | vs => .tup vs
theorem ev_body {ov : CallF} {F : T IFn} {f : Nat} {fn : IFn} {vs : List V} {h h' : Heap} {e : Ex} {env : T V} {rs : List V} (hf : F.get f = some fn) (hn : Nat.beq vs.length fn.nargs = true)
 (hb : evC (ev ov F) fn.body (bindA vs 0 .e) h = .ok e env h') (he : e = .norm ∨ e = .ret) (hr : evRs env h' fn.results = some rs) : ev ov F f vs h = some (packV rs, h') := by
 refine evt_ev ?_
 obtain ⟨n, hn'⟩ := evC_lim ev_evt fn.body _ _ _ _ _ hb
 refine ⟨n + 1, fun m hm => ?_⟩
 obtain ⟨k, rfl⟩ : ∃ k, m = k + 1 := ⟨m - 1, by omega⟩
 have eq : evF ov F (k + 1) f vs h = match F.get f with
  | some fn => bif Nat.beq vs.length fn.nargs then
   (match evC (evF ov F k) fn.body (bindA vs 0 .e) h with
    | .ok .norm env h => match evRs env h fn.results with
     | some [v] => fV v fun v => some (v, h)
     | some vs => some (.tup vs, h)
     | none => none
    | .ok .ret env h => match evRs env h fn.results with
     | some [v] => fV v fun v => some (v, h)
     | some vs => some (.tup vs, h)
     | none => none
    | _ => none)
   else none
  | none => bif Nat.ble YB f then evY (evC (evF ov F k)) (f - YB) vs h else ov f vs h := rfl
 have hk := hn' k (by omega)
 simp only [] at hk
 have fin : (match evRs env h' fn.results with
             | some [v] => fV v fun v => some (v, h')
             | some vs => some (.tup vs, h')
             | none => none) = some (packV rs, h') := by
  rw [hr]
  simp only [fV_eq]
  cases rs with
  | nil => rfl
  | cons a t => cases t with
   | nil => rfl
   | cons b t => rfl
 rw [eq, hf]
 simp only [hn, cond_true]
 rw [hk]
 rcases he with rfl | rfl <;> exact fin
theorem ev_ov {ov : CallF} {F : T IFn} {f : Nat} {vs : List V} {h : Heap} {r : V × Heap} (hf : F.get f = none) (hy : Nat.ble YB f = false) (e : ov f vs h = some r) : ev ov F f vs h = some r := by
 refine evt_ev ⟨1, fun m hm => ?_⟩
 obtain ⟨k, rfl⟩ : ∃ k, m = k + 1 := ⟨m - 1, by omega⟩
 show (match F.get f with
  | some fn => _
  | none => bif Nat.ble YB f then _ else ov f vs h) = _
 rw [hf]
 simp only [hy, cond_false]
 exact e
section
variable {call : CallF} {env : T V} {h : Heap} {loc : List V}
def OQ (o : Option (V × Heap)) (K : V → Heap → Prop) : Prop := ∃ v h, o = some (v, h) ∧ K v h
theorem OQ_some (v : V) (h : Heap) (K : V → Heap → Prop) : OQ (some (v, h)) K ↔ K v h :=
 ⟨fun ⟨_, _, e, k⟩ => by cases e; exact k, fun k => ⟨v, h, rfl, k⟩⟩
def VQ (o : Option V) (K : V → Heap → Prop) (h : Heap) : Prop := ∃ v, o = some v ∧ K v h
theorem VQ_some (v : V) (K : V → Heap → Prop) (h : Heap) : VQ (some v) K h ↔ K v h :=
 ⟨fun ⟨_, e, k⟩ => by cases e; exact k, fun k => ⟨v, rfl, k⟩⟩
def HQ (o : Option Heap) (K : V → Heap → Prop) : Prop := ∃ h, o = some h ∧ K (.tup []) h
theorem HQ_some (h : Heap) (K : V → Heap → Prop) : HQ (some h) K ↔ K (.tup []) h :=
 ⟨fun ⟨_, e, k⟩ => by cases e; exact k, fun k => ⟨h, rfl, k⟩⟩
theorem OQ.mono {o : Option (V × Heap)} {K K' : V → Heap → Prop} (a : OQ o K) (b : ∀ v h, K v h → K' v h) : OQ o K' := by
 obtain ⟨v, h, e, k⟩ := a; exact ⟨v, h, e, b _ _ k⟩
theorem evO_l (k : Nat) : evO loc env (.l k) = nth loc k := rfl
theorem evO_v (s : Nat) : evO loc env (.v s) = env.get s := rfl
theorem evO_c (x : V) : evO loc env (.c x) = some x := rfl
theorem evO_g (n : Nat) : evO loc env (.g n) = some (.ptr n 0) := rfl
def consO (a : Option V) (b : Option (List V)) : Option (List V) := match a, b with
 | some v, some vs => some (v :: vs)
 | _, _ => none
theorem consO_some (v : V) (vs : List V) : consO (some v) (some vs) = some (v :: vs) := rfl
theorem evOs_nil : evOs loc env [] = some [] := rfl
theorem evOs_c (x : Opd) (xs : List Opd) : evOs loc env (x :: xs) = consO (evO loc env x) (evOs loc env xs) := by
 show Option.rec (motive := fun _ => Option (List V)) none (fun v => Option.rec (motive := fun _ => Option (List V)) none (fun vs => some (v :: vs)) (evOs loc env xs)) (evO loc env x) = _
 cases evO loc env x <;> cases evOs loc env xs <;> rfl
theorem nth_zero (v : V) (l : List V) : nth (v :: l) 0 = some v := rfl
theorem nth_succ (v : V) (l : List V) (k : Nat) : nth (v :: l) (k + 1) = nth l k := rfl
theorem bindA_nil (i : Nat) (en : T V) : bindA [] i en = en := rfl
def PQ (k : PK) (o : Option (List V)) (K : V → Heap → Prop) (h : Heap) : Prop := ∃ vs, o = some vs ∧ VQ (aP k vs) K h
theorem PQ_some (k : PK) (vs : List V) (K : V → Heap → Prop) : PQ k (some vs) K h ↔ VQ (aP k vs) K h :=
 ⟨fun ⟨_, e, k⟩ => by cases e; exact k, fun k => ⟨vs, rfl, k⟩⟩
theorem op_p (k : PK) (xs : List Opd) (K : V → Heap → Prop) : OQ (evOp call loc env h (.p k xs)) K ↔ PQ k (evOs loc env xs) K h := by
 simp only [evOp, OQ, PQ, VQ]
 cases evOs loc env xs with
 | none => simp
 | some vs => cases hx : aP k vs with
  | none => simp [hx]
  | some v => simp [hx, and_assoc]
def LQ (h : Heap) (n : Nat) (ia : Bool) (o : Option V) (K : V → Heap → Prop) : Prop := ∃ p, o = some p ∧ VQ (aload h n ia p) K h
theorem LQ_some (n : Nat) (ia : Bool) (p : V) (K : V → Heap → Prop) : LQ h n ia (some p) K ↔ VQ (aload h n ia p) K h :=
 ⟨fun ⟨_, e, k⟩ => by cases e; exact k, fun k => ⟨p, rfl, k⟩⟩
theorem op_ld (n : Nat) (ia : Bool) (x : Opd) (K : V → Heap → Prop) : OQ (evOp call loc env h (.ld n ia x)) K ↔ LQ h n ia (evO loc env x) K := by
 simp only [evOp, OQ, LQ, VQ]
 cases evO loc env x with
 | none => simp
 | some p => cases hx : aload h n ia p with
  | none => simp [hx]
  | some v => simp [hx, and_assoc]
def SQ (h : Heap) (n : Nat) (o u : Option V) (K : V → Heap → Prop) : Prop := ∃ p v, o = some p ∧ u = some v ∧ HQ (astore h n p v) K
theorem SQ_some (n : Nat) (p v : V) (K : V → Heap → Prop) : SQ h n (some p) (some v) K ↔ HQ (astore h n p v) K :=
 ⟨fun ⟨_, _, e, e2, k⟩ => by cases e; cases e2; exact k, fun k => ⟨p, v, rfl, rfl, k⟩⟩
theorem op_st (n : Nat) (x y : Opd) (K : V → Heap → Prop) : OQ (evOp call loc env h (.st n x y)) K ↔ SQ h n (evO loc env x) (evO loc env y) K := by
 simp only [evOp, OQ, SQ, HQ]
 cases evO loc env x with
 | none => simp
 | some p => cases evO loc env y with
  | none => simp
  | some v => cases hx : astore h n p v with
   | none => simp [hx]
   | some h' => simp [hx, and_assoc]
theorem op_al (zero : List V) (K : V → Heap → Prop) : OQ (evOp call loc env h (.al zero)) K ↔ K (.ptr h.next 0) (halloc h zero) := by
 simp only [evOp, OQ_some]
def BQ (o : Option V) (K : V → Heap → Prop) (h : Heap) : Prop := ∃ v, o = some v ∧ K (.ptr h.next 0) (halloc h v.cells)
theorem BQ_some (v : V) (K : V → Heap → Prop) : BQ (some v) K h ↔ K (.ptr h.next 0) (halloc h v.cells) :=
 ⟨fun ⟨_, e, k⟩ => by cases e; exact k, fun k => ⟨v, rfl, k⟩⟩
theorem op_bx (x : Opd) (K : V → Heap → Prop) : OQ (evOp call loc env h (.bx x)) K ↔ BQ (evO loc env x) K h := by
 simp only [evOp, OQ, BQ]
 cases evO loc env x with
 | none => simp
 | some v => simp [and_assoc]
def BsQ (h : Heap) (zero : List V) (places : List (Nat × Nat)) (len : Nat) (o : Option (List V)) (K : V → Heap → Prop) : Prop := ∃ vs, o = some vs ∧ OQ (abslice h zero places len vs) K
theorem BsQ_some (zero : List V) (places : List (Nat × Nat)) (len : Nat) (vs : List V) (K : V → Heap → Prop) : BsQ h zero places len (some vs) K ↔ OQ (abslice h zero places len vs) K :=
 ⟨fun ⟨_, e, k⟩ => by cases e; exact k, fun k => ⟨vs, rfl, k⟩⟩
theorem op_bs (zero : List V) (places : List (Nat × Nat)) (len : Nat) (xs : List Opd) (K : V → Heap → Prop) :
 OQ (evOp call loc env h (.bs zero places len xs)) K ↔ BsQ h zero places len (evOs loc env xs) K := by
 simp only [evOp, OQ, BsQ]
 cases evOs loc env xs with
 | none => simp
 | some vs => simp
def TwoQ (f : V → V → Option (V × Heap)) (a b : Option V) (K : V → Heap → Prop) : Prop := ∃ x y, a = some x ∧ b = some y ∧ OQ (f x y) K
theorem TwoQ_some (f : V → V → Option (V × Heap)) (x y : V) (K : V → Heap → Prop) : TwoQ f (some x) (some y) K ↔ OQ (f x y) K :=
 ⟨fun ⟨_, _, e, e2, k⟩ => by cases e; cases e2; exact k, fun k => ⟨x, y, rfl, rfl, k⟩⟩
theorem op_mk (zero : List V) (bytes : Nat) (x y : Opd) (K : V → Heap → Prop) :
 OQ (evOp call loc env h (.mk zero bytes x y)) K ↔ TwoQ (amake h zero bytes) (evO loc env x) (evO loc env y) K := by
 simp only [evOp, OQ, TwoQ]
 cases evO loc env x with
 | none => simp
 | some l => cases evO loc env y with
  | none => simp
  | some c => simp
theorem op_ap (esz bytes : Nat) (x y : Opd) (K : V → Heap → Prop) :
 OQ (evOp call loc env h (.ap esz bytes x y)) K ↔ TwoQ (aapp h esz bytes) (evO loc env x) (evO loc env y) K := by
 simp only [evOp, OQ, TwoQ]
 cases evO loc env x with
 | none => simp
 | some l => cases evO loc env y with
  | none => simp
  | some c => simp
theorem op_cp (esz : Nat) (x y : Opd) (K : V → Heap → Prop) :
 OQ (evOp call loc env h (.cp esz x y)) K ↔ TwoQ (acopy h esz) (evO loc env x) (evO loc env y) K := by
 simp only [evOp, OQ, TwoQ]
 cases evO loc env x with
 | none => simp
 | some l => cases evO loc env y with
  | none => simp
  | some c => simp
def CfQ (call : CallF) (f : Nat) (o : Option (List V)) (h : Heap) (K : V → Heap → Prop) : Prop := ∃ vs, o = some vs ∧ OQ (call f vs h) K
theorem CfQ_some (f : Nat) (vs : List V) (K : V → Heap → Prop) : CfQ call f (some vs) h K ↔ OQ (call f vs h) K :=
 ⟨fun ⟨_, e, k⟩ => by cases e; exact k, fun k => ⟨vs, rfl, k⟩⟩
theorem op_cf (f : Nat) (xs : List Opd) (K : V → Heap → Prop) : OQ (evOp call loc env h (.cf f xs)) K ↔ CfQ call f (evOs loc env xs) h K := by
 simp only [evOp, OQ, CfQ]
 cases evOs loc env xs with
 | none => simp
 | some vs => simp
def FQ (call : CallF) (h : Heap) (o : Option V) (vs : Option (List V)) (K : V → Heap → Prop) : Prop :=
 ∃ us, vs = some us ∧ ((∃ f first caps, o = some (.func (.func f) first caps) ∧ f < 1099511627776 ∧ OQ (call f (first ++ us ++ caps) h) K) ∨ (∃ b, o = some (.yld b) ∧ OQ (call (YB + b) us h) K))
theorem FQ_some (f : Nat) (first caps us : List V) (K : V → Heap → Prop) : FQ call h (some (.func (.func f) first caps)) (some us) K ↔ (f < 1099511627776 ∧ OQ (call f (first ++ us ++ caps) h) K) :=
 ⟨fun ⟨_, e2, k⟩ => (by
  cases e2
  rcases k with ⟨_, _, _, e, k⟩ | ⟨_, e, _⟩
  · cases e; exact k
  · cases e), fun k => ⟨us, rfl, .inl ⟨f, first, caps, rfl, k⟩⟩⟩
theorem op_cv (x : Opd) (xs : List Opd) (K : V → Heap → Prop) : OQ (evOp call loc env h (.cv x xs)) K ↔ FQ call h (evO loc env x) (evOs loc env xs) K := by
 simp only [evOp, OQ, FQ]
 constructor
 · rintro ⟨v, h', e, k⟩
   split at e
   · rename_i f first caps hx
     cases hy : evOs loc env xs with
     | none => rw [hy] at e; cases e
     | some us =>
      rw [hy] at e
      simp only [] at e
      cases hb : Nat.blt f YB
      · rw [hb] at e; cases e
      · rw [hb] at e; simp only [cond_true] at e
        exact ⟨us, rfl, .inl ⟨f, first, caps, hx, (Nat.blt_eq ..).mp hb, v, h', e, k⟩⟩
   · rename_i b hx
     cases hy : evOs loc env xs with
     | none => rw [hy] at e; cases e
     | some us => rw [hy] at e; exact ⟨us, rfl, .inr ⟨b, hx, v, h', e, k⟩⟩
   · cases e
 · rintro ⟨us, e2, ⟨f, first, caps, e1, hf, v, h', e, k⟩ | ⟨b, e1, v, h', e, k⟩⟩
   · refine ⟨v, h', ?_, k⟩
     rw [e1, e2]
     have hb : Nat.blt f YB = true := (Nat.blt_eq ..).mpr hf
     simp only [hb, cond_true]
     exact e
   · refine ⟨v, h', ?_, k⟩
     rw [e1, e2]
     exact e
def ClrQ (h : Heap) (zero : List V) (o : Option V) (K : V → Heap → Prop) : Prop := ∃ v, o = some v ∧ OQ (aclr h zero v) K
theorem ClrQ_some (zero : List V) (v : V) (K : V → Heap → Prop) : ClrQ h zero (some v) K ↔ OQ (aclr h zero v) K :=
 ⟨fun ⟨_, e, k⟩ => by cases e; exact k, fun k => ⟨v, rfl, k⟩⟩
theorem op_clr (zero : List V) (x : Opd) (K : V → Heap → Prop) : OQ (evOp call loc env h (.clr zero x)) K ↔ ClrQ h zero (evO loc env x) K := by
 simp only [evOp, OQ, ClrQ]
 cases evO loc env x with
 | none => simp
 | some d => simp
def WS (call : CallF) (l : List IStep) (loc : List V) (env : T V) (h : Heap) (Q : T V → Heap → Prop) : Prop := ∃ env' h', evSteps call l loc env h = .ok .norm env' h' ∧ Q env' h'
theorem WS_nil (Q : T V → Heap → Prop) : WS call [] loc env h Q ↔ Q env h :=
 ⟨fun ⟨_, _, e, q⟩ => by cases e; exact q, fun q => ⟨env, h, rfl, q⟩⟩
def kl (call : CallF) (l : List IStep) (loc : List V) (env : T V) (Q : T V → Heap → Prop) : V → Heap → Prop := fun v h => WS call l (v :: loc) env h Q
def kv (call : CallF) (l : List IStep) (loc : List V) (env : T V) (d : Nat) (Q : T V → Heap → Prop) : V → Heap → Prop := fun v h => WS call l loc (env.set d v) h Q
theorem kl_app (l : List IStep) (Q : T V → Heap → Prop) (v : V) : kl call l loc env Q v h ↔ WS call l (v :: loc) env h Q := Iff.rfl
theorem kv_app (l : List IStep) (d : Nat) (Q : T V → Heap → Prop) (v : V) : kv call l loc env d Q v h ↔ WS call l loc (env.set d v) h Q := Iff.rfl
theorem WS_l (o : IOp) (l : List IStep) (Q : T V → Heap → Prop) : WS call (⟨none, o, none⟩ :: l) loc env h Q ↔ OQ (evOp call loc env h o) (kl call l loc env Q) := by
 simp only [WS, evSteps_cons, evG, OQ, kl]
 cases evOp call loc env h o with
 | none => simp
 | some r => obtain ⟨v, h'⟩ := r; simp [nextL, nextE, and_assoc]
theorem WS_v (o : IOp) (d : Nat) (l : List IStep) (Q : T V → Heap → Prop) : WS call (⟨none, o, some d⟩ :: l) loc env h Q ↔ OQ (evOp call loc env h o) (kv call l loc env d Q) := by
 simp only [WS, evSteps_cons, evG, OQ, kv]
 cases evOp call loc env h o with
 | none => simp
 | some r => obtain ⟨v, h'⟩ := r; simp [nextL, nextE, and_assoc]
def GQ (o : Option V) (want : Bool) (A B : Prop) : Prop := (∃ b, o = some (.bool b) ∧ if b = want then A else B) ∨ ((∃ l, o = some (.tup l)) ∧ B)
theorem GQ_some (b want : Bool) (A B : Prop) : GQ (some (.bool b)) want A B ↔ if b = want then A else B :=
 ⟨fun x => (by
  rcases x with ⟨_, e, k⟩ | ⟨⟨_, e⟩, _⟩
  · cases e; exact k
  · cases e), fun k => .inl ⟨b, rfl, k⟩⟩
theorem GQ_tup (t : List V) (want : Bool) (A B : Prop) : GQ (some (.tup t)) want A B ↔ B :=
 ⟨fun x => (by
  rcases x with ⟨_, e, k⟩ | ⟨_, k⟩
  · cases e
  · exact k), fun k => .inr ⟨⟨t, rfl⟩, k⟩⟩
def GS (o : Option V) (want : Bool) (call : CallF) (p : IOp) (l : List IStep) (loc : List V) (env : T V) (h : Heap) (Q : T V → Heap → Prop) : Prop :=
 GQ o want (OQ (evOp call loc env h p) (kl call l loc env Q)) (WS call l (.tup [] :: loc) env h Q)
theorem GS_some (b want : Bool) (p : IOp) (l : List IStep) (Q : T V → Heap → Prop) : GS (some (.bool b)) want call p l loc env h Q ↔
 if b = want then OQ (evOp call loc env h p) (kl call l loc env Q) else WS call l (.tup [] :: loc) env h Q := GQ_some _ _ _ _
theorem GS_tup (t : List V) (want : Bool) (p : IOp) (l : List IStep) (Q : T V → Heap → Prop) : GS (some (.tup t)) want call p l loc env h Q ↔ WS call l (.tup [] :: loc) env h Q := GQ_tup _ _ _ _
def GV (o : Option V) (want : Bool) (call : CallF) (p : IOp) (d : Nat) (l : List IStep) (loc : List V) (env : T V) (h : Heap) (Q : T V → Heap → Prop) : Prop :=
 GQ o want (OQ (evOp call loc env h p) (kv call l loc env d Q)) (WS call l loc (env.set d (.tup [])) h Q)
theorem GV_some (b want : Bool) (p : IOp) (d : Nat) (l : List IStep) (Q : T V → Heap → Prop) : GV (some (.bool b)) want call p d l loc env h Q ↔
 if b = want then OQ (evOp call loc env h p) (kv call l loc env d Q) else WS call l loc (env.set d (.tup [])) h Q := GQ_some _ _ _ _
theorem GV_tup (t : List V) (want : Bool) (p : IOp) (d : Nat) (l : List IStep) (Q : T V → Heap → Prop) : GV (some (.tup t)) want call p d l loc env h Q ↔ WS call l loc (env.set d (.tup [])) h Q := GQ_tup _ _ _ _
theorem WS_g (x : Opd) (want : Bool) (o : IOp) (l : List IStep) (Q : T V → Heap → Prop) : WS call (⟨some (x, want), o, none⟩ :: l) loc env h Q ↔ GS (evO loc env x) want call o l loc env h Q := by
 simp only [WS, evSteps_cons, evG, OQ, GQ, GS, kl]
 cases evO loc env x with
 | none => simp
 | some b =>
  cases b with
  | bool b =>
   have hb : (!(xor b want)) = decide (b = want) := by cases b <;> cases want <;> rfl
   simp only [hb]
   by_cases hw : b = want
   · simp only [hw, decide_true]
     cases evOp call loc env h o with
     | none => simp
     | some r => obtain ⟨v, h'⟩ := r; simp [nextL, nextE, and_assoc]
   · simp only [hw, decide_false]
     simp [hw, nextL, nextE]
  | tup t => simp [nextL, nextE]
  | _ => simp
theorem WS_gv (x : Opd) (want : Bool) (o : IOp) (d : Nat) (l : List IStep) (Q : T V → Heap → Prop) : WS call (⟨some (x, want), o, some d⟩ :: l) loc env h Q ↔ GV (evO loc env x) want call o d l loc env h Q := by
 simp only [WS, evSteps_cons, evG, OQ, GQ, GV, kv]
 cases evO loc env x with
 | none => simp
 | some b =>
  cases b with
  | bool b =>
   have hb : (!(xor b want)) = decide (b = want) := by cases b <;> cases want <;> rfl
   simp only [hb]
   by_cases hw : b = want
   · simp only [hw, decide_true]
     cases evOp call loc env h o with
     | none => simp
     | some r => obtain ⟨v, h'⟩ := r; simp [nextL, nextE, and_assoc]
   · simp only [hw, decide_false]
     simp [hw, nextL, nextE]
  | tup t => simp [nextL, nextE]
  | _ => simp
def W (call : CallF) (c : IC) (env : T V) (h : Heap) (Q : Ex → T V → Heap → Prop) : Prop := ∃ e env' h', evC call c env h = .ok e env' h' ∧ Q e env' h'
def thenQ (call : CallF) (b : IC) (Q : Ex → T V → Heap → Prop) : Ex → T V → Heap → Prop := fun e env h => match e with
 | .norm => W call b env h Q
 | e => Q e env h
theorem thenQ_norm (b : IC) (Q : Ex → T V → Heap → Prop) : thenQ call b Q .norm env h ↔ W call b env h Q := Iff.rfl
theorem thenQ_ret (b : IC) (Q : Ex → T V → Heap → Prop) : thenQ call b Q .ret env h ↔ Q .ret env h := Iff.rfl
theorem thenQ_exit (b : IC) (i : Nat) (Q : Ex → T V → Heap → Prop) : thenQ call b Q (.exit i) env h ↔ Q (.exit i) env h := Iff.rfl
theorem thenQ_goto (b : IC) (i : Nat) (Q : Ex → T V → Heap → Prop) : thenQ call b Q (.goto i) env h ↔ Q (.goto i) env h := Iff.rfl
theorem W_skip (Q : Ex → T V → Heap → Prop) : W call .skip env h Q ↔ Q .norm env h :=
 ⟨fun ⟨_, _, _, e, q⟩ => by cases e; exact q, fun q => ⟨_, _, _, rfl, q⟩⟩
theorem W_ret (Q : Ex → T V → Heap → Prop) : W call .ret env h Q ↔ Q .ret env h :=
 ⟨fun ⟨_, _, _, e, q⟩ => by cases e; exact q, fun q => ⟨_, _, _, rfl, q⟩⟩
theorem W_exit (i : Nat) (Q : Ex → T V → Heap → Prop) : W call (.exit i) env h Q ↔ Q (.exit i) env h :=
 ⟨fun ⟨_, _, _, e, q⟩ => by cases e; exact q, fun q => ⟨_, _, _, rfl, q⟩⟩
theorem W_goto (i : Nat) (Q : Ex → T V → Heap → Prop) : W call (.goto i) env h Q ↔ Q (.goto i) env h :=
 ⟨fun ⟨_, _, _, e, q⟩ => by cases e; exact q, fun q => ⟨_, _, _, rfl, q⟩⟩
theorem W.mono {c : IC} {Q Q' : Ex → T V → Heap → Prop} (a : W call c env h Q) (b : ∀ e env h, Q e env h → Q' e env h) : W call c env h Q' := by
 obtain ⟨e, env', h', x, q⟩ := a; exact ⟨e, env', h', x, b _ _ _ q⟩
theorem evC_seq (a b : IC) : evC call (.seq a b) env h = match evC call a env h with
      | .ok .norm env h => evC call b env h
      | r => r := rfl
theorem W_seq (a b : IC) (Q : Ex → T V → Heap → Prop) : W call (.seq a b) env h Q ↔ W call a env h (thenQ call b Q) := by
 constructor
 · rintro ⟨e, env', h', x, q⟩
   rw [evC_seq] at x
   split at x
   · rename_i env1 h1 h2
     exact ⟨.norm, env1, h1, h2, e, env', h', x, q⟩
   · rename_i h2
     refine ⟨e, env', h', x, ?_⟩
     cases e with
     | norm => exact absurd x (h2 env' h')
     | _ => exact q
 · rintro ⟨e, env1, h1, x, q⟩
   cases e with
   | norm =>
    obtain ⟨e, env', h', y, q⟩ := q
    exact ⟨e, env', h', by rw [evC_seq, x]; exact y, q⟩
   | _ => exact ⟨_, env1, h1, by rw [evC_seq, x], q⟩
def condQ (o : Option V) (call : CallF) (a b : IC) (env : T V) (h : Heap) (Q : Ex → T V → Heap → Prop) : Prop := ∃ t, o = some (.bool t) ∧ if t = true then W call a env h Q else W call b env h Q
theorem condQ_some (t : Bool) (a b : IC) (Q : Ex → T V → Heap → Prop) : condQ (some (.bool t)) call a b env h Q ↔ if t = true then W call a env h Q else W call b env h Q :=
 ⟨fun ⟨_, e, k⟩ => by cases e; exact k, fun k => ⟨t, rfl, k⟩⟩
theorem W_cond (x : Opd) (a b : IC) (Q : Ex → T V → Heap → Prop) : W call (.cond x a b) env h Q ↔ condQ (evO [] env x) call a b env h Q := by
 have eq : evC call (.cond x a b) env h = match evO [] env x with
  | some (.bool t) => bif t then evC call a env h else evC call b env h
  | _ => .fail := rfl
 constructor
 · rintro ⟨e, env', h', y, q⟩
   rw [eq] at y
   split at y
   · rename_i t ht
     refine ⟨t, ht, ?_⟩
     cases t
     · exact ⟨e, env', h', y, q⟩
     · exact ⟨e, env', h', y, q⟩
   · cases y
 · rintro ⟨t, ht, k⟩
   cases t
   · obtain ⟨e, env', h', y, q⟩ := k
     exact ⟨e, env', h', by rw [eq, ht]; exact y, q⟩
   · obtain ⟨e, env', h', y, q⟩ := k
     exact ⟨e, env', h', by rw [eq, ht]; exact y, q⟩
def blockQ (id : Nat) (Q : Ex → T V → Heap → Prop) : Ex → T V → Heap → Prop := fun e env h => match e with
 | .exit i => if i = id then Q .norm env h else Q (.exit i) env h
 | e => Q e env h
theorem blockQ_norm (id : Nat) (Q : Ex → T V → Heap → Prop) : blockQ id Q .norm env h ↔ Q .norm env h := Iff.rfl
theorem blockQ_ret (id : Nat) (Q : Ex → T V → Heap → Prop) : blockQ id Q .ret env h ↔ Q .ret env h := Iff.rfl
theorem blockQ_goto (id i : Nat) (Q : Ex → T V → Heap → Prop) : blockQ id Q (.goto i) env h ↔ Q (.goto i) env h := Iff.rfl
theorem blockQ_exit (id i : Nat) (Q : Ex → T V → Heap → Prop) : blockQ id Q (.exit i) env h ↔ if i = id then Q .norm env h else Q (.exit i) env h := Iff.rfl
theorem W_block (id : Nat) (a : IC) (Q : Ex → T V → Heap → Prop) : W call (.block id a) env h Q ↔ W call a env h (blockQ id Q) := by
 have eq : evC call (.block id a) env h = match evC call a env h with
  | .ok (.exit i) env h => bif Nat.beq i id then .ok .norm env h else .ok (.exit i) env h
  | r => r := rfl
 constructor
 · rintro ⟨e, env', h', x, q⟩
   rw [eq] at x
   split at x
   · rename_i i env1 h1 h2
     refine ⟨_, _, _, h2, ?_⟩
     rw [blockQ_exit]
     by_cases hi : i = id
     · subst hi; simp at x; obtain ⟨rfl, rfl, rfl⟩ := x; simpa using q
     · rw [if_neg hi]
       have : Nat.beq i id = false := by cases hb : Nat.beq i id; rfl; exact absurd (Nat.eq_of_beq_eq_true hb) hi
       rw [this] at x; cases x; exact q
   · rename_i h2
     refine ⟨e, env', h', x, ?_⟩
     cases e with
     | exit i => exact absurd x (h2 i env' h')
     | _ => exact q
 · rintro ⟨e, env1, h1, x, q⟩
   cases e with
   | exit i =>
    rw [blockQ_exit] at q
    by_cases hi : i = id
    · rw [if_pos hi] at q
      exact ⟨.norm, env1, h1, by rw [eq, x]; subst hi; simp, q⟩
    · rw [if_neg hi] at q
      have : Nat.beq i id = false := by cases hb : Nat.beq i id; rfl; exact absurd (Nat.eq_of_beq_eq_true hb) hi
      exact ⟨.exit i, env1, h1, by rw [eq, x]; simp only [this, cond_false], q⟩
   | _ => exact ⟨_, env1, h1, by rw [eq, x], q⟩
theorem W_ops (l : List IStep) (Q : Ex → T V → Heap → Prop) : W call (.ops l) env h Q ↔ WS call l [] env h (Q .norm) := by
 constructor
 · rintro ⟨e, env', h', x, q⟩
   have hn : ∀ (l : List IStep) (loc : List V) (env : T V) (h : Heap), evSteps call l loc env h = .ok e env' h' → e = .norm := by
    intro l
    induction l with
    | nil => intro loc env h x; cases x; rfl
    | cons s l ih =>
     intro loc env h x
     rw [evSteps_cons] at x
     split at x
     · split at x
       · exact ih _ _ _ x
       · cases x
     · exact ih _ _ _ x
     · cases x
   have := hn _ _ _ _ x
   subst this
   exact ⟨env', h', x, q⟩
 · rintro ⟨env', h', x, q⟩
   exact ⟨_, _, _, x, q⟩
noncomputable def itr (body : T V → Heap → Out) : Nat → T V → Heap → Out
 | 0, env, h => .ok .norm env h
 | n + 1, env, h => match body env h with
  | .ok .norm env h => itr body n env h
  | r => r
theorem itr_add (body : T V → Heap → Out) : ∀ (a b : Nat) (env : T V) (h : Heap), itr body (a + b) env h = match itr body a env h with
 | .ok .norm env h => itr body b env h
 | r => r := by
 intro a
 induction a with
 | zero => intro b env h; simp [itr]
 | succ a ih =>
  intro b env h
  rw [Nat.succ_add]
  simp only [itr]
  cases body env h with
  | fail => rfl
  | ok e env1 h1 => cases e with
   | norm => exact ih b env1 h1
   | _ => rfl
theorem dbl_itr (body : T V → Heap → Out) (k : Nat) : ∀ (env : T V) (h : Heap), dbl body k env h = itr body (2 ^ k) env h := by
 induction k with
 | zero =>
  intro env h
  show body env h = itr body 1 env h
  simp only [itr]
  cases body env h with
  | fail => rfl
  | ok e env1 h1 => cases e <;> rfl
 | succ k ih =>
  intro env h
  show (match dbl body k env h with
   | .ok .norm env h => dbl body k env h
   | r => r) = _
  rw [Nat.pow_succ, Nat.mul_two, itr_add, ih]
  cases itr body (2 ^ k) env h with
  | fail => rfl
  | ok e env1 h1 => cases e with
   | norm => exact ih env1 h1
   | _ => rfl
def roundQ (I : Nat → T V → Heap → Prop) (k : Nat) (Q : Ex → T V → Heap → Prop) : Ex → T V → Heap → Prop := fun e env h => match e with
 | .norm => ∃ k', k' < k ∧ I k' env h
 | e => Q e env h
theorem roundQ_norm (I : Nat → T V → Heap → Prop) (k : Nat) (Q : Ex → T V → Heap → Prop) : roundQ I k Q .norm env h ↔ ∃ k', k' < k ∧ I k' env h := Iff.rfl
theorem roundQ_ret (I : Nat → T V → Heap → Prop) (k : Nat) (Q : Ex → T V → Heap → Prop) : roundQ I k Q .ret env h ↔ Q .ret env h := Iff.rfl
theorem roundQ_exit (I : Nat → T V → Heap → Prop) (k i : Nat) (Q : Ex → T V → Heap → Prop) : roundQ I k Q (.exit i) env h ↔ Q (.exit i) env h := Iff.rfl
theorem roundQ_goto (I : Nat → T V → Heap → Prop) (k i : Nat) (Q : Ex → T V → Heap → Prop) : roundQ I k Q (.goto i) env h ↔ Q (.goto i) env h := Iff.rfl
theorem itr_I {body : T V → Heap → Out} (I : Nat → T V → Heap → Prop) (Q : Ex → T V → Heap → Prop)
 (hr : ∀ k env h, I k env h → ∃ e env' h', body env h = .ok e env' h' ∧ roundQ I k Q e env' h') :
 ∀ (n k : Nat) (env : T V) (h : Heap), I k env h → k < n → ∃ e env' h', itr body n env h = .ok e env' h' ∧ e ≠ .norm ∧ Q e env' h' := by
 intro n
 induction n with
 | zero => intro k env h _ hk; omega
 | succ n ih =>
  intro k env h hI hk
  obtain ⟨e, env1, h1, x, q⟩ := hr k env h hI
  simp only [itr, x]
  cases e with
  | norm =>
   obtain ⟨k', hk', q⟩ := q
   exact ih k' env1 h1 q (by omega)
  | _ => exact ⟨_, _, _, rfl, by simp, q⟩
theorem W_loop {body : IC} {Q : Ex → T V → Heap → Prop} (I : Nat → T V → Heap → Prop) (n : Nat) (hn : n < 16777216) (h0 : I n env h)
 (hr : ∀ k env h, I k env h → W call body env h (roundQ I k Q)) : W call (.loop body) env h Q := by
 have eq : evC call (.loop body) env h = match dbl (evC call body) 24 env h with
  | .ok .norm _ _ => .fail
  | r => r := rfl
 obtain ⟨e, env', h', x, ne, q⟩ := itr_I I Q hr (2 ^ 24) n env h h0 (by simpa using hn)
 refine ⟨e, env', h', ?_, q⟩
 rw [eq, dbl_itr, x]
 cases e with
 | norm => exact absurd rfl ne
 | _ => rfl
theorem W_scope {c r : IC} {l : Nat} {Q : Ex → T V → Heap → Prop} (I : Nat → T V → Heap → Prop) (n : Nat) (hn : n < 16777216)
 (h0 : W call c env h (fun e env' h' => match e with
  | .goto i => i = l ∧ I n env' h'
  | e => Q e env' h'))
 (hr : ∀ k env h, I k env h → W call r env h (fun e env' h' => match e with
  | .goto i => i = l ∧ ∃ k', k' < k ∧ I k' env' h'
  | e => Q e env' h')) : W call (.scope c l r) env h Q := by
 have eq : evC call (.scope c l r) env h = match evC call c env h with
  | .ok (.goto i) env h => bif Nat.beq i l then
   (match dbl (fun env h => match evC call r env h with
    | .ok (.goto i) env h => bif Nat.beq i l then .ok .norm env h else .ok (.goto i) env h
    | .ok .norm env h => .ok (.goto l) env h
    | r => r) 24 env h with
    | .ok .norm _ _ => .fail
    | .ok (.goto i) env h => bif Nat.beq i l then .ok .norm env h else .fail
    | r => r)
   else .fail
  | r => r := rfl
 obtain ⟨e, env1, h1, x, q⟩ := h0
 cases e with
 | goto i =>
  obtain ⟨rfl, q⟩ := q
  obtain ⟨e, env', h', y, ne, q⟩ := itr_I (body := fun env h => match evC call r env h with
            | .ok (.goto j) env h => bif Nat.beq j i then .ok .norm env h else .ok (.goto j) env h
            | .ok .norm env h => .ok (.goto i) env h
            | r => r) I (fun e env' h' => match e with
             | .goto j => j = i ∧ Q .norm env' h'
             | e => Q e env' h') (fun k env h hI => by
   obtain ⟨e, env2, h2, z, q⟩ := hr k env h hI
   simp only [z]
   cases e with
   | norm => exact ⟨_, _, _, rfl, rfl, q⟩
   | goto j =>
    obtain ⟨rfl, k', hk, q⟩ := q
    exact ⟨.norm, env2, h2, by simp, k', hk, q⟩
   | _ => exact ⟨_, _, _, rfl, q⟩) (2 ^ 24) n env1 h1 q (by simpa using hn)
  cases e with
  | norm => exact absurd rfl ne
  | goto j =>
   obtain ⟨rfl, q⟩ := q
   refine ⟨.norm, env', h', ?_, q⟩
   rw [eq, x]
   simp only [Nat.beq_refl, cond_true, dbl_itr]
   rw [y]
   simp
  | ret =>
   refine ⟨.ret, env', h', ?_, q⟩
   rw [eq, x]
   simp only [Nat.beq_refl, cond_true, dbl_itr]
   rw [y]
  | exit j =>
   refine ⟨.exit j, env', h', ?_, q⟩
   rw [eq, x]
   simp only [Nat.beq_refl, cond_true, dbl_itr]
   rw [y]
 | norm => exact ⟨_, _, _, by rw [eq, x], q⟩
 | ret => exact ⟨_, _, _, by rw [eq, x], q⟩
 | exit j => exact ⟨_, _, _, by rw [eq, x], q⟩
theorem lay_nil (l : List IStep) : ∀ (i : Nat) (loc : List V) (h : Heap), lay call env [] l i loc h = some (l.map fun s => (s, none), h) := by
 induction l with
 | nil => intro i loc h; rfl
 | cons s l ih => intro i loc h; simp [lay, ih]
def WD (call : CallF) (env : T V) (l : List DS) (loc : List V) (hs : List Heap) (h : Heap) (K : List V → List Heap → Prop) : Prop :=
 ∃ loc' hs', evDr call env l loc hs h = some (loc', hs') ∧ K loc' hs'
theorem WD_nil (hs : List Heap) (K : List V → List Heap → Prop) : WD call env [] loc hs h K ↔ K loc hs :=
 ⟨fun ⟨_, _, e, k⟩ => by cases e; exact k, fun k => ⟨_, _, rfl, k⟩⟩
def kd (call : CallF) (env : T V) (l : List DS) (loc : List V) (hs : List Heap) (h : Heap) (e : Bool) (K : List V → List Heap → Prop) : V → Heap → Prop := fun v h' =>
 if e = true then WD call env l (v :: loc) (h' :: hs) h' K else WD call env l (v :: loc) hs h K
theorem kd_t (l : List DS) (hs : List Heap) (h0 : Heap) (K : List V → List Heap → Prop) (v : V) : kd call env l loc hs h0 true K v h ↔ WD call env l (v :: loc) (h :: hs) h K := by simp [kd]
theorem kd_f (l : List DS) (hs : List Heap) (h0 : Heap) (K : List V → List Heap → Prop) (v : V) : kd call env l loc hs h0 false K v h ↔ WD call env l (v :: loc) hs h0 K := by simp [kd]
theorem WD_s (o : IOp) (l : List DS) (hs : List Heap) (K : List V → List Heap → Prop) : WD call env ((⟨none, o, none⟩, none) :: l) loc hs h K ↔
 OQ (evOp call loc env h o) (kd call env l loc hs h (eff o) K) := by
 simp only [WD, evDr_cons2, evG, OQ, kd]
 cases evOp call loc env h o with
 | none => simp
 | some r => obtain ⟨v, h'⟩ := r; cases eff o <;> simp [and_assoc]
def GD (o : Option V) (want : Bool) (call : CallF) (env : T V) (p : IOp) (l : List DS) (loc : List V) (hs : List Heap) (h : Heap) (e : Bool) (K : List V → List Heap → Prop) : Prop :=
 GQ o want (OQ (evOp call loc env h p) (kd call env l loc hs h e K)) (if e = true then WD call env l (.tup [] :: loc) (h :: hs) h K else WD call env l (.tup [] :: loc) hs h K)
theorem GD_some (b want : Bool) (p : IOp) (l : List DS) (hs : List Heap) (e : Bool) (K : List V → List Heap → Prop) : GD (some (.bool b)) want call env p l loc hs h e K ↔
 if b = want then OQ (evOp call loc env h p) (kd call env l loc hs h e K) else (if e = true then WD call env l (.tup [] :: loc) (h :: hs) h K else WD call env l (.tup [] :: loc) hs h K) := GQ_some _ _ _ _
theorem GD_tup (t : List V) (want : Bool) (p : IOp) (l : List DS) (hs : List Heap) (e : Bool) (K : List V → List Heap → Prop) : GD (some (.tup t)) want call env p l loc hs h e K ↔
 (if e = true then WD call env l (.tup [] :: loc) (h :: hs) h K else WD call env l (.tup [] :: loc) hs h K) := GQ_tup _ _ _ _
theorem WD_g (x : Opd) (want : Bool) (o : IOp) (l : List DS) (hs : List Heap) (K : List V → List Heap → Prop) : WD call env ((⟨some (x, want), o, none⟩, none) :: l) loc hs h K ↔
 GD (evO loc env x) want call env o l loc hs h (eff o) K := by
 simp only [WD, evDr_cons2, evG, OQ, GQ, GD, kd]
 cases evO loc env x with
 | none => simp
 | some b =>
  cases b with
  | bool b =>
   have hb : (!(xor b want)) = decide (b = want) := by cases b <;> cases want <;> rfl
   simp only [hb]
   by_cases hw : b = want
   · simp only [hw, decide_true]
     cases evOp call loc env h o with
     | none => simp
     | some r => obtain ⟨v, h'⟩ := r; cases eff o <;> simp [and_assoc]
   · simp only [hw, decide_false]
     cases eff o <;> simp [hw]
  | tup t => cases eff o <;> simp
  | _ => simp
theorem WD_late (s : IStep) (u : V) (c : List V) (l : List DS) (hs : List Heap) (K : List V → List Heap → Prop) : WD call env ((s, some (u, c)) :: l) loc hs h K ↔
 lateOK loc env s.op u c = true ∧ WD call env l (u :: loc) hs h K := by
 simp only [WD, evDr_cons2]
 cases lateOK loc env s.op u c <;> simp
def DE (call : CallF) (l : List IStep) (reads : List (Nat × Nat × Nat)) (sets : List (Nat × Nat)) (env : T V) (Q : T V → Heap → Prop) (loc : List V) (hs : List Heap) : Prop :=
 reads.all (rdOK call env l loc hs) = true ∧ ∃ env' h' hs', setsE l.length loc sets env = some env' ∧ hs = h' :: hs' ∧ Q env' h'
theorem W_dopsl (l : List IStep) (late B R : List Nat) (reads : List (Nat × Nat × Nat)) (sets : List (Nat × Nat)) (Q : Ex → T V → Heap → Prop) {dl : List DS} {h1 : Heap} (hl : lay call env late l 0 [] h = some (dl, h1)) :
 WD call env dl [] [h1] h1 (DE call l reads sets env (Q .norm)) → W call (.dops l late B R reads sets) env h Q := by
 rintro ⟨loc, hs, e, hr, env', h', hs', hset, rfl, q⟩
 refine ⟨.norm, env', h', ?_, q⟩
 show evD call l late reads sets env h = _
 unfold evD
 simp only [hl, e, hr, cond_true, hset]
theorem rdAll_nil (o : IOp) (v : V) : rdAll call loc env o v [] = true ↔ True := by simp [rdAll]
def kr (v : V) : V → Heap → Prop := fun u _ => vEq u v = true
theorem kr_app (v u : V) : kr v u h ↔ vEq u v = true := Iff.rfl
theorem rdAll_cons (o : IOp) (v : V) (hs : List Heap) : rdAll call loc env o v (h :: hs) = true ↔ OQ (evOp call loc env h o) (kr v) ∧ rdAll call loc env o v hs = true := by
 simp only [rdAll, OQ, Bool.and_eq_true, kr]
 cases evOp call loc env h o with
 | none => simp
 | some r => obtain ⟨u, h'⟩ := r; simp [and_assoc]
mutual
theorem vEq_self : ∀ (v : V), vEq v v = true
 | .bool b => by cases b <;> rfl
 | .int k n => by simp only [vEq, ieq_eq]; cases k <;> simp [kbeq]
 | .str s => by simp [vEq]
 | .nilp => rfl
 | .ptr _ _ => by simp [vEq]
 | .nils => rfl
 | .slice _ _ _ _ => by simp [vEq]
 | .sliceU _ _ _ _ => by simp [vEq]
 | .sliceE => rfl
 | .nilm => rfl
 | .map _ => by simp [vEq]
 | .yld _ => by simp [vEq]
 | .sliceZ _ _ => by simp [vEq]
 | .nilf => rfl
 | .func _ a c => by simp [vEq, vsEq_self a, vsEq_self c]
 | .nili => rfl
 | .iface _ v => by simp [vEq, vEq_self v]
 | .agg l => by simp [vEq, vsEq_self l]
 | .tup l => by simp [vEq, vsEq_self l]
theorem vsEq_self : ∀ (v : List V), vsEq v v = true
 | [] => rfl
 | v :: l => by simp [vsEq, vEq_self v, vsEq_self l]
end
theorem setsE_nil (n : Nat) : setsE n loc [] env = some env := rfl
theorem setsE_cons (n s i : Nat) (r : List (Nat × Nat)) : setsE n loc ((s, i) :: r) env = match nth loc (n - i - 1) with
 | some v => setsE n loc r (env.set s v)
 | none => none := by
 rw [nth_eq]; rfl
def Does (call : CallF) (f : Nat) (vs : List V) (h : Heap) (R : V → Heap → Prop) : Prop := OQ (call f vs h) R
theorem OQ_does {f : Nat} {vs : List V} {R K : V → Heap → Prop} (d : Does call f vs h R) (k : ∀ v h', R v h' → K v h') : OQ (call f vs h) K := d.mono k
def RsQ (o : Option (List V)) (R : V → Heap → Prop) (h : Heap) : Prop := ∃ vs, o = some vs ∧ R (packV vs) h
theorem RsQ_some (vs : List V) (R : V → Heap → Prop) : RsQ (some vs) R h ↔ R (packV vs) h :=
 ⟨fun ⟨_, e, k⟩ => by cases e; exact k, fun k => ⟨vs, rfl, k⟩⟩
def RetQ (rs : List RV) (R : V → Heap → Prop) : Ex → T V → Heap → Prop := fun e env h => (e = .norm ∨ e = .ret) ∧ RsQ (evRs env h rs) R h
theorem RetQ_norm (rs : List RV) (R : V → Heap → Prop) : RetQ rs R .norm env h ↔ RsQ (evRs env h rs) R h := by simp [RetQ]
theorem RetQ_ret (rs : List RV) (R : V → Heap → Prop) : RetQ rs R .ret env h ↔ RsQ (evRs env h rs) R h := by simp [RetQ]
theorem evRs_nil : evRs env h [] = some [] := rfl
theorem evRs_t (s : Nat) (rs : List RV) : evRs env h (.t s :: rs) = consO (env.get s) (evRs env h rs) := by
 simp only [evRs, evR]
 cases env.get s with
 | none => rfl
 | some v => cases evRs env h rs <;> rfl
theorem evRs_c (s n : Nat) (ia : Bool) (rs : List RV) : evRs env h (.c s n ia :: rs) = consO ((env.get s).bind fun v => aload h n ia v) (evRs env h rs) := by
 simp only [evRs, evR]
 cases env.get s with
 | none => rfl
 | some p =>
  simp only [Option.bind_some]
  cases aload h n ia p with
  | none => rfl
  | some v => cases evRs env h rs <;> rfl
theorem packV_nil : packV [] = .tup [] := rfl
theorem packV_one (v : V) : packV [v] = v := rfl
theorem packV_two (v u : V) (l : List V) : packV (v :: u :: l) = .tup (v :: u :: l) := rfl
theorem does_fn {ov : CallF} {F : T IFn} {f : Nat} {fn : IFn} {vs : List V} {R : V → Heap → Prop} (hf : F.get f = some fn) (hn : Nat.beq vs.length fn.nargs = true)
 (hw : W (ev ov F) fn.body (bindA vs 0 .e) h (RetQ fn.results R)) : Does (ev ov F) f vs h R := by
 obtain ⟨e, env', h', x, he, rs, hr, q⟩ := hw
 exact ⟨_, _, ev_body hf hn x he hr, q⟩
end
theorem kbeq_self (k : IntKind) : kbeq k k = true := by simp [kbeq]
theorem aP_mv (x : V) : aP .mv [x] = some x := rfl
theorem aP_pick (c : Bool) (a b : V) : aP .pick [.bool c, a, b] = some (bif c then a else b) := rfl
theorem aP_nilck (b o : Nat) : aP .nilck [.ptr b o] = some (.ptr b o) := rfl
theorem aP_nilckf (f : Nat) (x y : List V) : aP .nilck [.func (.func f) x y] = some (.func (.func f) x y) := rfl
theorem aP_add (k : IntKind) (a b : Int) : aP (.ib .add) [.int k a, .int k b] = some (.int k (fwrap k (a + b))) := by simp only [aP, kbeq_self, cond_true, ibin]; rfl
theorem aP_sub (k : IntKind) (a b : Int) : aP (.ib .sub) [.int k a, .int k b] = some (.int k (fwrap k (a - b))) := by simp only [aP, kbeq_self, cond_true, ibin]; rfl
theorem aP_mul (k : IntKind) (a b : Int) : aP (.ib .mul) [.int k a, .int k b] = some (.int k (fwrap k (a * b))) := by simp only [aP, kbeq_self, cond_true, ibin]; rfl
theorem aP_quo (k : IntKind) (a b : Int) (h : b ≠ 0) : aP (.ib .quo) [.int k a, .int k b] = some (.int k (fwrap k (a.tdiv b))) := by
 have : ieq b 0 = false := by rw [ieq_eq]; simpa using h
 simp only [aP, kbeq_self, cond_true, ibin, this, cond_false]
theorem aP_rem (k : IntKind) (a b : Int) (h : b ≠ 0) : aP (.ib .rem) [.int k a, .int k b] = some (.int k (a.tmod b)) := by
 have : ieq b 0 = false := by rw [ieq_eq]; simpa using h
 simp only [aP, kbeq_self, cond_true, ibin, this, cond_false]
theorem aP_eql (k : IntKind) (a b : Int) : aP (.ib .eql) [.int k a, .int k b] = some (.bool (decide (a = b))) := by simp only [aP, kbeq_self, cond_true, ibin, ieq_eq]; rfl
theorem aP_neq (k : IntKind) (a b : Int) : aP (.ib .neq) [.int k a, .int k b] = some (.bool (!decide (a = b))) := by simp only [aP, kbeq_self, cond_true, ibin, ieq_eq]; rfl
theorem aP_lss (k : IntKind) (a b : Int) : aP (.ib .lss) [.int k a, .int k b] = some (.bool (decide (a < b))) := by simp only [aP, kbeq_self, cond_true, ibin, ilt_eq]
theorem aP_gtr (k : IntKind) (a b : Int) : aP (.ib .gtr) [.int k a, .int k b] = some (.bool (decide (b < a))) := by simp only [aP, kbeq_self, cond_true, ibin, ilt_eq]
theorem aP_leq (k : IntKind) (a b : Int) : aP (.ib .leq) [.int k a, .int k b] = some (.bool (decide (a ≤ b))) := by
 simp only [aP, kbeq_self, cond_true, ibin, ilt_eq]; congr 2; rw [Bool.eq_iff_iff]; simp
theorem aP_geq (k : IntKind) (a b : Int) : aP (.ib .geq) [.int k a, .int k b] = some (.bool (decide (b ≤ a))) := by
 simp only [aP, kbeq_self, cond_true, ibin, ilt_eq]; congr 2; rw [Bool.eq_iff_iff]; simp
theorem aP_not (b : Bool) : aP .not [.bool b] = some (.bool (!b)) := rfl
theorem aP_neg (k : IntKind) (n : Int) : aP .neg [.int k n] = some (.int k (fwrap k (0 - n))) := rfl
theorem aP_bbe (a b : Bool) : aP (.bb false) [.bool a, .bool b] = some (.bool (decide (a = b))) := by cases a <;> cases b <;> rfl
theorem aP_bbn (a b : Bool) : aP (.bb true) [.bool a, .bool b] = some (.bool (!decide (a = b))) := by cases a <;> cases b <;> rfl
theorem aP_faddr (off b o : Nat) : aP (.faddr off) [.ptr b o] = some (.ptr b (o + off)) := rfl
theorem aP_ext (i : Nat) (l : List V) : aP (.ext i) [.tup l] = nth l i := rfl
theorem aP_field1 (off n : Nat) (l : List V) : aP (.field off n false) [.agg l] = nth l off := rfl
theorem aP_fieldA (off n : Nat) (l : List V) : aP (.field off n true) [.agg l] = (takeL n (dropL l off)).map .agg := rfl
theorem aP_mkf (fn : Fn) (n : Nat) (vs : List V) : aP (.mkf fn n) vs = (takeL n vs).map fun f => .func fn f (dropL vs n) := rfl
theorem aP_build (zero : List V) (places : List (Nat × Nat)) (vs : List V) : aP (.build zero places) vs = (afill zero places vs).map .agg := rfl
theorem aP_mn (k k' : IntKind) (a b : Int) : aP .mn [.int k a, .int k' b] = some (.int k (min a b)) := by
 simp only [aP, ilt_eq]
 congr 2
 by_cases h : b < a
 · simp only [h, decide_true, cond_true]; omega
 · simp only [h, decide_false, cond_false]; omega
theorem aP_mx (k k' : IntKind) (a b : Int) : aP .mx [.int k a, .int k' b] = some (.int k (max a b)) := by
 simp only [aP, ilt_eq]
 congr 2
 by_cases h : a < b
 · simp only [h, decide_true, cond_true]; omega
 · simp only [h, decide_false, cond_false]; omega
theorem aP_conv (k k' : IntKind) (n : Int) : aP (.conv k) [.int k' n] = some (.int k (fwrap k n)) := rfl
theorem aP_lenN : aP .lenS [.nils] = some (.int .i64 0) := rfl
theorem aP_lenS (b o len cap : Nat) : aP .lenS [.slice b o len cap] = some (.int .i64 len) := rfl
theorem aP_lenU (b o len cap : Nat) : aP .lenS [.sliceU b o len cap] = some (.int .i64 len) := rfl
theorem aP_lenE : aP .lenS [.sliceE] = some (.int .i64 0) := rfl
theorem aP_lenArr (n : Nat) (v : V) : aP (.lenArr n) [v] = some (.int .i64 n) := rfl
theorem aP_capN : aP .capS [.nils] = some (.int .i64 0) := rfl
theorem aP_capS (b o len cap : Nat) : aP .capS [.slice b o len cap] = some (.int .i64 cap) := rfl
theorem aP_ixS (esz b o len cap : Nat) (k : IntKind) (i : Int) (h0 : 0 ≤ i) (h1 : i < len) : aP (.ixs esz) [.slice b o len cap, .int k i] = some (.ptr b (o + i.toNat * esz)) := by
 obtain ⟨n, rfl⟩ : ∃ n : Nat, i = n := ⟨i.toNat, by omega⟩
 have : Nat.blt n len = true := by simp only [Nat.blt_eq]; omega
 simp only [aP, aidx]
 show Option.map _ (bif Nat.blt n len then some n else none) = _
 rw [this]; rfl
theorem aP_ixU (esz b o len cap : Nat) (k : IntKind) (i : Int) (h0 : 0 ≤ i) (h1 : i < len) : aP (.ixs esz) [.sliceU b o len cap, .int k i] = some (.ptr b (o + i.toNat * esz)) := by
 obtain ⟨n, rfl⟩ : ∃ n : Nat, i = n := ⟨i.toNat, by omega⟩
 have : Nat.blt n len = true := by simp only [Nat.blt_eq]; omega
 simp only [aP, aidx]
 show Option.map _ (bif Nat.blt n len then some n else none) = _
 rw [this]; rfl
theorem aP_ixa (esz b o len : Nat) (k : IntKind) (i : Int) (h0 : 0 ≤ i) (h1 : i < len) : aP (.ixa len esz) [.ptr b o, .int k i] = some (.ptr b (o + i.toNat * esz)) := by
 obtain ⟨n, rfl⟩ : ∃ n : Nat, i = n := ⟨i.toNat, by omega⟩
 have : Nat.blt n len = true := by simp only [Nat.blt_eq]; omega
 simp only [aP, aidx]
 show Option.map _ (bif Nat.blt n len then some n else none) = _
 rw [this]; rfl
theorem aP_shl (k k' : IntKind) (a b : Int) (h : 0 ≤ b) : aP (.sh true) [.int k a, .int k' b] = some (.int k (fwrap k (a * (2 ^ (min b.toNat k.bits) : Nat)))) := by
 obtain ⟨n, rfl⟩ : ∃ n : Nat, b = n := ⟨b.toNat, by omega⟩
 rfl
theorem aP_shr (k k' : IntKind) (a b : Int) (h : 0 ≤ b) : aP (.sh false) [.int k a, .int k' b] = some (.int k (a.fdiv (2 ^ (min b.toNat k.bits) : Nat))) := by
 obtain ⟨n, rfl⟩ : ∃ n : Nat, b = n := ⟨b.toNat, by omega⟩
 rfl
def pv : Option Nat → V
 | none => .nilp
 | some b => .ptr b 0
theorem pv_none : pv none = .nilp := rfl
theorem pv_some (b : Nat) : pv (some b) = .ptr b 0 := rfl
theorem pv_one (o : Option Nat) : (pv o).one = true := by cases o <;> rfl
theorem cells_one {v : V} (h : v.one = true) : v.cells = [v] := by cases v <;> first | rfl | (simp [V.one] at h)
theorem pv_cells (o : Option Nat) : (pv o).cells = [pv o] := cells_one (pv_one o)
theorem aP_nilp (ne : Bool) (o : Option Nat) : aP (.nil 0 ne) [pv o, .nilp] = some (.bool (bif ne then o.isSome else o.isNone)) := by cases o <;> cases ne <;> rfl
theorem aP_nil_np (b o : Nat) (ne : Bool) : aP (.nil 0 ne) [.ptr b o, .nilp] = some (.bool ne) := by cases ne <;> rfl
theorem aP_nil_nn (ne : Bool) : aP (.nil 0 ne) [.nilp, .nilp] = some (.bool (!ne)) := by cases ne <;> rfl
theorem afill_nil (c : List V) : afill c [] [] = some c := rfl
theorem afill_cons (c : List V) (off size : Nat) (ps : List (Nat × Nat)) (v : V) (vs : List V) (h : v.cells.length = size) (h0 : 0 < size) :
 afill c ((off, size) :: ps) (v :: vs) = (updO c off v.cells).bind fun c' => afill c' ps vs := by
 subst h
 simp only [afill]
 have : Nat.blt 0 v.cells.length = true := by simpa [Nat.blt_eq] using h0
 rw [this]
 simp only [Nat.beq_refl, Bool.and_self, cond_true]
 cases updO c off v.cells <;> rfl
theorem afill_c (c : List V) (off size : Nat) (ps : List (Nat × Nat)) (v : V) (vs : List V) :
 afill c ((off, size) :: ps) (v :: vs) = if v.cells.length = size then if 0 < size then (updO c off v.cells).bind fun c' => afill c' ps vs else none else none := by
 by_cases h : v.cells.length = size
 · rw [if_pos h]
   by_cases h0 : 0 < size
   · rw [if_pos h0, afill_cons _ _ _ _ _ _ h h0]
   · rw [if_neg h0]
     have : Nat.blt 0 size = false := by cases hb : Nat.blt 0 size; rfl; rw [Nat.blt_eq] at hb; exact absurd hb h0
     simp [afill, this]
 · rw [if_neg h]
   have : Nat.beq v.cells.length size = false := by cases hb : Nat.beq v.cells.length size; rfl; exact absurd (Nat.eq_of_beq_eq_true hb) h
   simp [afill, this]
theorem cells_int (k : IntKind) (n : Int) : (V.int k n).cells = [.int k n] := rfl
theorem cells_bool (b : Bool) : (V.bool b).cells = [.bool b] := rfl
theorem cells_str (b : List UInt8) : (V.str b).cells = [.str b] := rfl
theorem cells_ptr (b o : Nat) : (V.ptr b o).cells = [.ptr b o] := rfl
theorem cells_nilp : V.nilp.cells = [.nilp] := rfl
theorem cells_nils : V.nils.cells = [.nils] := rfl
theorem cells_slice (b o l c : Nat) : (V.slice b o l c).cells = [.slice b o l c] := rfl
theorem cells_sliceU (b o l c : Nat) : (V.sliceU b o l c).cells = [.sliceU b o l c] := rfl
theorem cells_func (f : Fn) (a b : List V) : (V.func f a b).cells = [.func f a b] := rfl
theorem cells_nilf : V.nilf.cells = [.nilf] := rfl
theorem cells_agg (l : List V) : (V.agg l).cells = l := rfl
theorem fwrap_i64 (n : Int) (h1 : -9223372036854775808 ≤ n) (h2 : n ≤ 9223372036854775807) : fwrap .i64 n = n := by
 rw [fwrap_eq]; simp only [IntKind.wrap, IntKind.bits, IntKind.signed]; simp; omega
theorem fwrap_u64 (n : Int) (h1 : 0 ≤ n) (h2 : n ≤ 18446744073709551615) : fwrap .u64 n = n := by
 rw [fwrap_eq]; simp only [IntKind.wrap, IntKind.bits, IntKind.signed]; simp; omega
def WF (h : Heap) : Prop := ∀ p, h.next ≤ p → h.bl.get p = none ∧ h.fams.get p = none
def Own (h : Heap) (b : Nat) (c : List V) : Prop := ∃ f k, h.bl.get b = some (.row c f k) ∧ ((h.fams.get f = none ∧ f = b) ∨ ∃ e, h.fams.get f = some (b, e))
theorem Own.uniq {h : Heap} {b : Nat} {c c' : List V} (a : Own h b c) (a' : Own h b c') : c = c' := by
 obtain ⟨f, k, e, _⟩ := a
 obtain ⟨f', k', e', _⟩ := a'
 rw [e] at e'; cases e'; rfl
theorem Own.lt {h : Heap} {b : Nat} {c : List V} (a : Own h b c) (w : WF h) : b < h.next := by
 obtain ⟨f, k, e, _⟩ := a
 rcases Nat.lt_or_ge b h.next with x | x
 · exact x
 · rw [(w b x).1] at e; cases e
theorem Own.cells {h : Heap} {b : Nat} {c : List V} (a : Own h b c) : cellsAt h b = some c := by
 obtain ⟨f, k, e, x⟩ := a
 simp only [cellsAt, e, rd]
 rcases x with ⟨x, rfl⟩ | ⟨e', x⟩
 · rw [x]; rfl
 · rw [x]; simp
theorem Own.ld1 {h : Heap} {b : Nat} {c : List V} (a : Own h b c) (o : Nat) : hload1 h b o = nth c o := by
 simp only [hload1, a.cells]
theorem Own.ld {h : Heap} {b : Nat} {c : List V} (a : Own h b c) (o n : Nat) : hload h b o n = takeL n (dropL c o) := by
 simp only [hload, a.cells]
theorem aload_ptr1 (h : Heap) (n b o : Nat) : aload h n false (.ptr b o) = hload1 h b o := rfl
theorem aload_ptrA (h : Heap) (n b o : Nat) : aload h n true (.ptr b o) = (hload h b o n).map .agg := rfl
theorem dropL_zero (l : List V) : dropL l 0 = l := by rw [dropL_eq]; rfl
theorem dropL_succ (v : V) (l : List V) (n : Nat) : dropL (v :: l) (n + 1) = dropL l n := rfl
def Pl (h : Heap) (b : Nat) (c : List V) : Prop := (∃ k, h.bl.get b = some (.row c b k)) ∧ h.fams.get b = none
theorem Pl.own {h : Heap} {b : Nat} {c : List V} (a : Pl h b c) : Own h b c := by
 obtain ⟨⟨k, e⟩, f⟩ := a
 exact ⟨b, k, e, .inl ⟨f, rfl⟩⟩
def isLp : Blk → Bool
 | .lp _ _ _ _ _ _ => true
 | .mp _ _ => true
 | _ => false
def Rs (h : Heap) (b : Nat) (c : List V) : Prop := ∃ f k ow, h.bl.get b = some (.row c f k) ∧ h.fams.get f = some (ow, k) ∧ h.bl.get ow = none ∧ ow < h.next
theorem Rs.set {h : Heap} {b : Nat} {c : List V} (r : Rs h b c) {b' : Nat} {c0 c1 : List V} {f0 k0 k1 : Nat} (e : h.bl.get b' = some (.row c0 f0 k0)) (x : (h.fams.get f0 = none) ∨ ∃ e', h.fams.get f0 = some (b', e')) (F' : T (Nat × Nat)) (hF : F' = h.fams ∨ ∃ y, F' = h.fams.set f0 y) (n' : Nat) (hn : h.next ≤ n') :
 Rs ⟨h.bl.set b' (.row c1 f0 k1), n', F'⟩ b c := by
 obtain ⟨f, k, ow, e1, e2, e3, e4⟩ := r
 have hff : f ≠ f0 := by
  rintro rfl
  rcases x with x | ⟨e', x⟩
  · rw [e2] at x; cases x
  · rw [e2] at x; cases x; rw [e3] at e; cases e
 have hb : b ≠ b' := by rintro rfl; rw [e1] at e; cases e; exact hff rfl
 have ho : ow ≠ b' := by rintro rfl; rw [e3] at e; cases e
 refine ⟨f, k, ow, ?_, ?_, ?_, by show ow < n'; omega⟩
 · show (h.bl.set b' _).get b = _; rw [T.get_set_ne _ _ hb]; exact e1
 · show F'.get f = _
   rcases hF with rfl | ⟨y, rfl⟩
   · exact e2
   · rw [T.get_set_ne _ _ hff]; exact e2
 · show (h.bl.set b' _).get ow = _; rw [T.get_set_ne _ _ ho]; exact e3
theorem Rs.new {h : Heap} {b : Nat} {c : List V} (r : Rs h b c) (w : WF h) (k : Blk) : Rs ⟨h.bl.set h.next k, h.next + 1, h.fams⟩ b c := by
 obtain ⟨f, k', ow, e1, e2, e3, e4⟩ := r
 have hb : b ≠ h.next := by rintro rfl; rw [(w _ (Nat.le_refl _)).1] at e1; cases e1
 refine ⟨f, k', ow, ?_, e2, ?_, by show ow < h.next + 1; omega⟩
 · show (h.bl.set _ _).get b = _; rw [T.get_set_ne _ _ hb]; exact e1
 · show (h.bl.set _ _).get ow = _; rw [T.get_set_ne _ _ (by omega)]; exact e3
structure Fr (S : List Nat) (h h' : Heap) : Prop where
 next : h.next ≤ h'.next
 wf : WF h'
 own : ∀ b c, b ∉ S → Own h b c → Own h' b c
 pl : ∀ b c, b ∉ S → Pl h b c → Pl h' b c
 lp : ∀ b x, isLp x = true → h.bl.get b = some x → h'.bl.get b = some x
 ro : ∀ b c, Rs h b c → Rs h' b c
theorem Fr.refl {S : List Nat} {h : Heap} (w : WF h) : Fr S h h := ⟨Nat.le_refl _, w, fun _ _ _ x => x, fun _ _ _ x => x, fun _ _ _ x => x, fun _ _ x => x⟩
theorem Fr.trans {S S' T : List Nat} {h h1 h2 : Heap} (a : Fr S h h1) (b : Fr S' h1 h2) (w : WF h) (hs : ∀ x, x ∈ S → x ∈ T ∨ h.next ≤ x) (hs' : ∀ x, x ∈ S' → x ∈ T ∨ h.next ≤ x) : Fr T h h2 where
 next := Nat.le_trans a.next b.next
 wf := b.wf
 lp := fun x k hk o => b.lp x k hk (a.lp x k hk o)
 ro := fun x c r => b.ro x c (a.ro x c r)
 own := fun x c hx o => by
  have := o.lt w
  refine b.own x c (fun m => ?_) (a.own x c (fun m => ?_) o)
  · rcases hs' x m with y | y
    · exact hx y
    · omega
  · rcases hs x m with y | y
    · exact hx y
    · omega
 pl := fun x c hx o => by
  have := o.own.lt w
  refine b.pl x c (fun m => ?_) (a.pl x c (fun m => ?_) o)
  · rcases hs' x m with y | y
    · exact hx y
    · omega
  · rcases hs x m with y | y
    · exact hx y
    · omega
theorem Fr.then {h h1 h2 : Heap} (a : Fr [] h h1) (b : Fr [] h1 h2) : Fr [] h h2 where
 next := Nat.le_trans a.next b.next
 wf := b.wf
 lp := fun x k hk o => b.lp x k hk (a.lp x k hk o)
 ro := fun x c r => b.ro x c (a.ro x c r)
 own := fun x c _ o => b.own x c (by simp) (a.own x c (by simp) o)
 pl := fun x c _ o => b.pl x c (by simp) (a.pl x c (by simp) o)
theorem Fr.get {h h' : Heap} (a : Fr [] h h') {b : Nat} {c : List V} (o : Own h b c) : Own h' b c := a.own b c (by simp) o
theorem WF.halloc {h : Heap} (w : WF h) (c : List V) : WF (halloc h c) := by
 intro p hp
 have hp' : h.next + 1 ≤ p := hp
 have := w p (by omega)
 exact ⟨by show (h.bl.set _ _).get p = none; rw [T.get_set_ne _ _ (by omega)]; exact this.1, this.2⟩
theorem Own.new {h : Heap} (w : WF h) (c : List V) : Own (halloc h c) h.next c :=
 ⟨h.next, 0, T.get_set_self _ _ _, .inl ⟨(w h.next (Nat.le_refl _)).2, rfl⟩⟩
theorem Own.halloc {h : Heap} {b : Nat} {c : List V} (o : Own h b c) (w : WF h) (d : List V) : Own (halloc h d) b c := by
 have := o.lt w
 obtain ⟨f, k, e, x⟩ := o
 exact ⟨f, k, by show (h.bl.set _ _).get b = _; rw [T.get_set_ne _ _ (by omega)]; exact e, x⟩
theorem Fr.halloc {h : Heap} (w : WF h) (c : List V) : Fr [] h (halloc h c) := ⟨Nat.le_succ _, w.halloc c, fun _ _ _ o => o.halloc w c, fun b d _ o => by
 have := o.own.lt w
 obtain ⟨⟨k, e⟩, f⟩ := o
 exact ⟨⟨k, by show (h.bl.set _ _).get b = _; rw [T.get_set_ne _ _ (by omega)]; exact e⟩, f⟩, fun b x _ e => by
 have : b ≠ h.next := by rintro rfl; rw [(w _ (Nat.le_refl _)).1] at e; cases e
 show (h.bl.set _ _).get b = _; rw [T.get_set_ne _ _ this]; exact e, fun b x r => r.new w _⟩
theorem halloc_next (h : Heap) (c : List V) : (Ev.halloc h c).next = h.next + 1 := rfl
theorem own_store {h : Heap} {b o : Nat} {c c' vs : List V} (w : WF h) (a : Own h b c) (h1 : onesB vs = true) (hu : updO c o vs = some c') :
 ∃ h', hstore h b o vs = some h' ∧ Own h' b c' ∧ Fr [b] h h' ∧ h'.next = h.next := by
 have hb := a.lt w
 obtain ⟨f, k, e, x⟩ := a
 simp only [hstore, e, h1, cond_true, hu]
 rcases x with ⟨x, rfl⟩ | ⟨e', x⟩
 · rw [x]
   refine ⟨_, rfl, ⟨f, k, T.get_set_self _ _ _, .inl ⟨x, rfl⟩⟩, ⟨Nat.le_refl _, ?_, ?_, ?_, fun q y hy ey => by
    have : q ≠ f := by intro eq; rw [eq, e] at ey; cases ey; cases hy
    show (h.bl.set _ _).get q = _; rw [T.get_set_ne _ _ this]; exact ey, fun q y r => r.set e (.inl x) _ (.inl rfl) _ (Nat.le_refl _)⟩, rfl⟩
   · intro p hp
     have hp' : h.next ≤ p := hp
     have := w p hp'
     exact ⟨by show (h.bl.set _ _).get p = none; rw [T.get_set_ne _ _ (by omega)]; exact this.1, this.2⟩
   · rintro q d hq ⟨f1, k1, e1, x1⟩
     simp at hq
     exact ⟨f1, k1, by show (h.bl.set _ _).get q = _; rw [T.get_set_ne _ _ hq]; exact e1, x1⟩
   · rintro q d hq ⟨⟨k1, e1⟩, x1⟩
     simp at hq
     exact ⟨⟨k1, by show (h.bl.set _ _).get q = _; rw [T.get_set_ne _ _ hq]; exact e1⟩, x1⟩
 · rw [x]
   simp only [Nat.beq_refl, cond_true]
   refine ⟨_, rfl, ⟨f, k, T.get_set_self _ _ _, .inr ⟨e' + 1, T.get_set_self _ _ _⟩⟩, ⟨Nat.le_refl _, ?_, ?_, ?_, fun q y hy ey => by
    have : q ≠ b := by intro eq; rw [eq, e] at ey; cases ey; cases hy
    show (h.bl.set _ _).get q = _; rw [T.get_set_ne _ _ this]; exact ey, fun q y r => r.set e (.inr ⟨_, x⟩) _ (.inr ⟨_, rfl⟩) _ (Nat.le_refl _)⟩, rfl⟩
   · intro p hp
     have hp' : h.next ≤ p := hp
     have := w p hp'
     refine ⟨by show (h.bl.set _ _).get p = none; rw [T.get_set_ne _ _ (by omega)]; exact this.1, ?_⟩
     show (h.fams.set _ _).get p = none
     by_cases hpf : p = f
     · subst hpf; rw [this.2] at x; cases x
     · rw [T.get_set_ne _ _ hpf]; exact this.2
   · rintro q d hq ⟨f1, k1, e1, x1⟩
     simp at hq
     refine ⟨f1, k1, by show (h.bl.set _ _).get q = _; rw [T.get_set_ne _ _ hq]; exact e1, ?_⟩
     have hf : f1 ≠ f := by
      rintro rfl
      rcases x1 with ⟨x1, _⟩ | ⟨e2, x1⟩
      · rw [x] at x1; cases x1
      · rw [x] at x1; cases x1; exact hq rfl
     show ((h.fams.set f (b, e' + 1)).get f1 = none ∧ _) ∨ ∃ e, (h.fams.set f (b, e' + 1)).get f1 = some (q, e)
     rw [T.get_set_ne _ _ hf]
     exact x1
   · rintro q d hq ⟨⟨k1, e1⟩, x1⟩
     simp at hq
     refine ⟨⟨k1, by show (h.bl.set _ _).get q = _; rw [T.get_set_ne _ _ hq]; exact e1⟩, ?_⟩
     show (h.fams.set f (b, e' + 1)).get q = none
     rw [T.get_set_ne _ _ (by rintro rfl; rw [x] at x1; cases x1)]
     exact x1
theorem astore_ptr {h : Heap} {n b o : Nat} {v : V} (e : v.cells.length = n) : astore h n (.ptr b o) v = hstore h b o v.cells := by
 subst e; simp [astore]
theorem store_step {h : Heap} {n b o : Nat} {v : V} {c c' : List V} {K : V → Heap → Prop} (w : WF h) (a : Own h b c) (e : v.cells.length = n) (h1 : onesB v.cells = true) (hu : updO c o v.cells = some c')
 (k : ∀ h', Own h' b c' → Fr [b] h h' → h'.next = h.next → K (.tup []) h') : HQ (astore h n (.ptr b o) v) K := by
 obtain ⟨h', e1, o1, f1, n1⟩ := own_store w a h1 hu
 exact ⟨h', by rw [astore_ptr e]; exact e1, k h' o1 f1 n1⟩
theorem updO_at : ∀ (c : List V) (o : Nat) (vs : List V), o + vs.length ≤ c.length → updO c o vs = some (c.take o ++ vs ++ c.drop (o + vs.length))
 | [], o, vs, h => by
  have : vs = [] := by cases vs <;> simp at h ⊢
  subst this
  cases o <;> simp [updO_nil]
 | x :: l, 0, [], h => by simp [updO_zero_nil]
 | x :: l, 0, v :: vs, h => by
  rw [updO_zero_cons, updO_at l 0 vs (by simp at h ⊢; omega)]
  simp [Nat.add_comm]
 | x :: l, o + 1, vs, h => by
  rw [updO_succ, updO_at l o vs (by simp at h ⊢; omega)]
  simp [Nat.succ_add]
theorem updO_set1 (c : List V) (o : Nat) (v : V) (h : o < c.length) : updO c o [v] = some (c.set o v) := by
 rw [updO_at c o [v] (by simp; omega)]
 congr 1
 rw [List.set_eq_take_append_cons_drop, if_pos h]
 simp
theorem onesB_nil : onesB [] = true := rfl
theorem onesB_cons (v : V) (l : List V) : onesB (v :: l) = (v.one && onesB l) := rfl
theorem takeL_at (c : List V) (n : Nat) (h : n ≤ c.length) : takeL n c = some (c.take n) := by
 induction n generalizing c with
 | zero => simp [takeL_zero]
 | succ n ih => cases c with
  | nil => simp at h
  | cons x l => rw [takeL_cons, ih l (by simpa using h)]; simp
def Sl (h : Heap) (esz : Nat) (v : V) (n : Nat) (cs : List V) : Prop :=
 cs.length = n * esz ∧ match v with
 | .nils => n = 0
 | .sliceE => n = 0
 | .slice b o len cap => len = n ∧ n ≤ cap ∧ ∃ c, Own h b c ∧ o + n * esz ≤ c.length ∧ cs = (c.drop o).take (n * esz)
 | .sliceU b o len e => len = n ∧ e = esz ∧ ∃ c, Own h b c ∧ o + n * esz ≤ c.length ∧ cs = (c.drop o).take (n * esz)
 | _ => False
theorem Sl.fr {h h' : Heap} {esz : Nat} {v : V} {n : Nat} {cs : List V} (a : Sl h esz v n cs) (f : Fr [] h h') : Sl h' esz v n cs := by
 obtain ⟨hl, a⟩ := a
 refine ⟨hl, ?_⟩
 cases v with
 | slice b o l k => obtain ⟨h1, h2, c, o, x⟩ := a; exact ⟨h1, h2, c, f.get o, x⟩
 | sliceU b o l k => obtain ⟨h1, h2, c, o, x⟩ := a; exact ⟨h1, h2, c, f.get o, x⟩
 | _ => exact a
theorem Sl.len {h : Heap} {esz : Nat} {v : V} {n : Nat} {cs : List V} (a : Sl h esz v n cs) : aP .lenS [v] = some (.int .i64 n) := by
 obtain ⟨hl, a⟩ := a
 cases v with
 | slice b o l k => obtain ⟨rfl, _⟩ := a; rfl
 | sliceU b o l k => obtain ⟨rfl, _⟩ := a; rfl
 | nils => have a : n = 0 := a; subst a; rfl
 | sliceE => have a : n = 0 := a; subst a; rfl
 | _ => exact a.elim
theorem Sl.one {h : Heap} {esz : Nat} {v : V} {n : Nat} {cs : List V} (a : Sl h esz v n cs) : v.one = true := by
 obtain ⟨hl, a⟩ := a
 cases v with
 | slice b o l k => rfl
 | sliceU b o l k => rfl
 | nils => rfl
 | sliceE => rfl
 | _ => exact a.elim
theorem Sl.ix {h : Heap} {esz : Nat} {v : V} {n : Nat} {cs : List V} (a : Sl h esz v n cs) (k : IntKind) (i : Int) (h0 : 0 ≤ i) (h1 : i < n) :
 ∃ b o, aP (.ixs esz) [v, .int k i] = some (.ptr b o) ∧ (∀ j, j < esz → hload1 h b (o + j) = cs[i.toNat * esz + j]?) ∧ hload h b o esz = some ((cs.drop (i.toNat * esz)).take esz) := by
 obtain ⟨hl, a⟩ := a
 obtain ⟨m, rfl⟩ : ∃ m : Nat, i = m := ⟨i.toNat, by omega⟩
 have hm : m < n := by omega
 have hmul : m * esz + esz ≤ n * esz := by rw [← Nat.succ_mul]; exact Nat.mul_le_mul_right _ hm
 have main : ∀ (b o : Nat) (c : List V), Own h b c → o + n * esz ≤ c.length → cs = (c.drop o).take (n * esz) →
  (∀ j, j < esz → hload1 h b (o + m * esz + j) = cs[m * esz + j]?) ∧ hload h b (o + m * esz) esz = some ((cs.drop (m * esz)).take esz) := by
  intro b o c hc hlen e
  subst e
  constructor
  · intro j hj
    rw [hc.ld1, nth_eq, List.getElem?_take, if_pos (by omega), List.getElem?_drop]
    congr 1; omega
  · rw [hc.ld, dropL_eq, takeL_at _ _ (by simp; omega), List.drop_take, List.drop_drop, List.take_take]
    congr 2
    omega
 cases v with
 | slice b o l q =>
  obtain ⟨rfl, _, c, hc, hlen, e⟩ := a
  exact ⟨b, o + m * esz, aP_ixS _ _ _ _ _ _ _ h0 h1, main b o c hc hlen e⟩
 | sliceU b o l q =>
  obtain ⟨rfl, rfl, c, hc, hlen, e⟩ := a
  exact ⟨b, o + m * q, aP_ixU _ _ _ _ _ _ _ h0 h1, main b o c hc hlen e⟩
 | nils => have a : n = 0 := a; omega
 | sliceE => have a : n = 0 := a; omega
 | _ => exact a.elim
section
variable {call : CallF} {env : T V} {h : Heap} {loc : List V}
def EQ (o : Option (T V)) (K : T V → Prop) : Prop := ∃ en, o = some en ∧ K en
theorem EQ_some (en : T V) (K : T V → Prop) : EQ (some en) K ↔ K en := ⟨fun ⟨_, x, k⟩ => by cases x; exact k, fun k => ⟨en, rfl, k⟩⟩
def HdQ (hs : List Heap) (K : Heap → Prop) : Prop := match hs with
 | [] => False
 | h :: _ => K h
theorem HdQ_cons (hs : List Heap) (K : Heap → Prop) : HdQ (h :: hs) K ↔ K h := Iff.rfl
theorem DE_iff (l : List IStep) (reads : List (Nat × Nat × Nat)) (sets : List (Nat × Nat)) (Q : T V → Heap → Prop) (hs : List Heap) : DE call l reads sets env Q loc hs ↔
 reads.all (rdOK call env l loc hs) = true ∧ EQ (setsE l.length loc sets env) fun env' => HdQ hs fun h' => Q env' h' := by
 simp only [DE, EQ]
 constructor
 · rintro ⟨a, env', h', hs', e, rfl, q⟩; exact ⟨a, env', e, q⟩
 · rintro ⟨a, env', e, q⟩
   cases hs with
   | nil => exact q.elim
   | cons h' hs' => exact ⟨a, env', h', hs', e, rfl, q⟩
def GR (o : Option V) (want : Bool) (A : Prop) : Prop := match o with
 | some (.bool b) => if b = want then A else True
 | _ => True
theorem GR_tup (t : List V) (want : Bool) (A : Prop) : GR (some (.tup t)) want A ↔ True := Iff.rfl
theorem GR_some (b want : Bool) (A : Prop) : GR (some (.bool b)) want A ↔ if b = want then A else True := Iff.rfl
def RD (call : CallF) (env : T V) (s : Option IStep) (loc : List V) (hs : List Heap) : Prop := match s, loc with
 | some t, v :: l => (match t.gd with
  | none => rdAll call l env t.op v hs = true
  | some (x, want) => GR (evO l env x) want (rdAll call l env t.op v hs = true))
 | _, _ => False
theorem RD_n (o : IOp) (d : Option Nat) (v : V) (l : List V) (hs : List Heap) : RD call env (some ⟨none, o, d⟩) (v :: l) hs ↔ rdAll call l env o v hs = true := Iff.rfl
theorem RD_g (x : Opd) (want : Bool) (o : IOp) (d : Option Nat) (v : V) (l : List V) (hs : List Heap) : RD call env (some ⟨some (x, want), o, d⟩) (v :: l) hs ↔ GR (evO l env x) want (rdAll call l env o v hs = true) := Iff.rfl
theorem rd_iff (l : List IStep) (hs : List Heap) (i lo hi : Nat) : rdOK call env l loc hs (i, lo, hi) = true ↔ RD call env l[i]? (loc.drop (l.length - i - 1)) ((hs.reverse.drop lo).take (hi + 1 - lo)) := by
 simp only [rdOK]
 cases l[i]? with
 | none => simp [RD]
 | some t => cases loc.drop (l.length - i - 1) with
  | nil => simp [RD]
  | cons v l' =>
   obtain ⟨gd, o, d⟩ := t
   cases gd with
   | none => simp [RD, evG]
   | some g =>
    obtain ⟨x, want⟩ := g
    simp only [RD, evG, GR]
    cases evO l' env x with
    | none => simp
    | some b =>
     cases b with
     | bool b => cases b <;> cases want <;> simp
     | _ => simp
def RAll (call : CallF) (env : T V) (l : List IStep) (loc : List V) (hs : List Heap) : List (Nat × Nat × Nat) → Prop
 | [] => True
 | (i, lo, hi) :: rs => RD call env l[i]? (loc.drop (l.length - i - 1)) ((hs.reverse.drop lo).take (hi + 1 - lo)) ∧ RAll call env l loc hs rs
theorem RAll_nil (l : List IStep) (hs : List Heap) : RAll call env l loc hs [] ↔ True := Iff.rfl
theorem RAll_cons (l : List IStep) (hs : List Heap) (i lo hi : Nat) (rs : List (Nat × Nat × Nat)) : RAll call env l loc hs ((i, lo, hi) :: rs) ↔
 RD call env l[i]? (loc.drop (l.length - i - 1)) ((hs.reverse.drop lo).take (hi + 1 - lo)) ∧ RAll call env l loc hs rs := Iff.rfl
theorem RAll_iff {l : List IStep} {hs : List Heap} : ∀ {rs : List (Nat × Nat × Nat)}, rs.all (rdOK call env l loc hs) = true ↔ RAll call env l loc hs rs
 | [] => by simp [RAll]
 | (i, lo, hi) :: rs => by simp only [List.all_cons, Bool.and_eq_true, rd_iff, RAll_cons, RAll_iff (rs := rs)]
def DF (call : CallF) (l : List IStep) (reads : List (Nat × Nat × Nat)) (sets : List (Nat × Nat)) (env : T V) (Q : T V → Heap → Prop) (loc : List V) (hs : List Heap) : Prop :=
 RAll call env l loc hs reads ∧ EQ (setsE l.length loc sets env) fun env' => HdQ hs fun h' => Q env' h'
theorem WD.mono {l : List DS} {hs : List Heap} {K K' : List V → List Heap → Prop} (a : WD call env l loc hs h K) (b : ∀ x y, K x y → K' x y) : WD call env l loc hs h K' := by
 obtain ⟨x, y, e, k⟩ := a; exact ⟨x, y, e, b _ _ k⟩
def LayQ (o : Option (List DS × Heap)) (K : List DS → Heap → Prop) : Prop := ∃ l h, o = some (l, h) ∧ K l h
theorem LayQ_some (l : List DS) (h : Heap) (K : List DS → Heap → Prop) : LayQ (some (l, h)) K ↔ K l h :=
 ⟨fun ⟨_, _, e, k⟩ => by cases e; exact k, fun k => ⟨_, _, rfl, k⟩⟩
theorem W_dl (l : List IStep) (late B R : List Nat) (reads : List (Nat × Nat × Nat)) (sets : List (Nat × Nat)) (Q : Ex → T V → Heap → Prop) :
 W call (.dops l late B R reads sets) env h Q ↔ LayQ (lay call env late l 0 [] h) fun dl h1 => WD call env dl [] [h1] h1 (DF call l reads sets env (Q .norm)) := by
 constructor
 · rintro ⟨e, env', h', x, q⟩
   have x : evD call l late reads sets env h = .ok e env' h' := x
   unfold evD at x
   split at x
   · cases x
   · rename_i dl h1 hl
     refine ⟨dl, h1, hl, ?_⟩
     split at x
     · rename_i loc hs hd
       refine ⟨loc, hs, hd, ?_⟩
       cases ha : reads.all (rdOK call env l loc hs)
       · rw [ha] at x; cases x
       · rw [ha] at x
         simp only [cond_true] at x
         split at x
         · rename_i env1 h2 hs2 hse
           cases x
           exact ⟨RAll_iff.1 ha, _, hse, q⟩
         · cases x
     · cases x
 · rintro ⟨dl, h1, hl, x⟩
   refine W_dopsl _ _ _ _ _ _ _ hl (x.mono ?_)
   rintro loc hs ⟨a, b⟩
   exact (DE_iff _ _ _ _ _).2 ⟨RAll_iff.2 a, b⟩
theorem W_d (l : List IStep) (B R : List Nat) (reads : List (Nat × Nat × Nat)) (sets : List (Nat × Nat)) (Q : Ex → T V → Heap → Prop) :
 W call (.dops l [] B R reads sets) env h Q ↔ WD call env (l.map fun s => (s, none)) [] [h] h (DF call l reads sets env (Q .norm)) := by
 rw [W_dl, lay_nil, LayQ_some]
def SEv (o : Option V) (K : V → Option (T V)) : Option (T V) := match o with
 | some v => K v
 | none => none
theorem SEv_some (v : V) (K : V → Option (T V)) : SEv (some v) K = K v := rfl
theorem setsE_c (n s i : Nat) (r : List (Nat × Nat)) : setsE n loc ((s, i) :: r) env = SEv (nth loc (n - i - 1)) fun v => setsE n loc r (env.set s v) := by
 rw [setsE_cons]; unfold SEv; cases nth loc (n - i - 1) <;> rfl
end
end Go.Ev
