/- An evaluator of the program, and contracts over it: EvZa to EvLa. -/
import Derived.Test.YthhhghfnhbocnaaGreatDoorP03
set_option linter.unusedSimpArgs false
set_option linter.unusedVariables false
set_option linter.constructorNameAsVariable false
set_option linter.unnecessarySimpa false
namespace Go.Ev
variable {K : LG → Prop}
section
variable {P : Program} {C : Cx} {call : CallF} {ops : Array Oper} {dl : List DS} {l : List IStep} {late B R : List Nat} {reads : List (Nat × Nat × Nat)} {sets : List (Nat × Nat)}
theorem DI.guard {vals : List V} {Hs : List Heap} {m0 m : M} {h hk : Heap} {w0 w : World} {a0 a : Act} {L : Array Bool} {env : T V} (D : DI C ops dl env vals Hs m0 h w0 a0 L a w m hk) {σ : Sg} {loc : List V}
    (hO : OpdS C m σ loc env a) {o : Oper} {s : Option (Opd × Bool)} (hc : chkG C σ ops o.guard s = true) {b : Bool} (e : evG loc env s = some b) : Region.wanted o (yielded ops a.tmps) = b := by
  unfold Region.wanted
  unfold chkG at hc
  split at hc
  · rename_i hg; rw [hg]; cases e; rfl
  · rename_i j want x want' hg
    rw [hg]
    simp only [Bool.and_eq_true, beq_iff_eq] at hc
    obtain ⟨rfl, hc⟩ := hc
    split at hc
    · rename_i d hd
      simp only [Bool.and_eq_true, Nat.blt_eq] at hc
      unfold evG at e
      simp only [] at e
      split at e
      · rename_i c hx
        cases e
        have hr := hO _ _ _ hc.2 hx
        simp only [VRel, Act.eval] at hr
        have hlt : d < a.tmps.size := by rw [D.size]; exact hc.1
        have : a.tmps[d]? = some (.bool c) := by
          rw [Array.getD_eq_getD_getElem?, Array.getElem?_eq_getElem hlt] at hr
          rw [Array.getElem?_eq_getElem hlt]
          simpa using hr
        simp only [yielded, hd, Option.bind_some, this]
        cases c <;> cases want <;> rfl
      · rename_i c hx
        cases e
        have hr := hO _ _ _ hc.2 hx
        simp only [VRel, Act.eval] at hr
        obtain ⟨c', hr, _⟩ := hr
        have hlt : d < a.tmps.size := by rw [D.size]; exact hc.1
        have : a.tmps[d]? = some (.tuple c'.toArray) := by
          rw [Array.getD_eq_getD_getElem?, Array.getElem?_eq_getElem hlt] at hr
          rw [Array.getElem?_eq_getElem hlt]
          simpa using hr
        simp only [yielded, hd, Option.bind_some, this]
        cases want <;> rfl
      · cases e
    · cases hc
  · cases hc
theorem unlisted_set {n : Nat} {L : Array Bool} {i : Nat} (hi : i < n) (hL : L.size = n) (hni : ¬ dn L i) :
    ((List.range n).filter fun j => !(L.setIfInBounds i true).getD j false).length < ((List.range n).filter fun j => !L.getD j false).length := by
  have hsub : ∀ j ∈ List.range n, (!(L.setIfInBounds i true).getD j false) = true → (!L.getD j false) = true := by
    intro j _ hj
    by_cases c : i = j
    · subst c
      have : (L.setIfInBounds i true).getD i false = true := (dn_set (by omega)).2 (.inl rfl)
      rw [this] at hj; cases hj
    · rw [getD_set_ne false c] at hj; exact hj
  -- the two lists differ at i
  have key : ∀ (js : List Nat), (∀ j ∈ js, (!(L.setIfInBounds i true).getD j false) = true → (!L.getD j false) = true) → i ∈ js →
      (js.filter fun j => !(L.setIfInBounds i true).getD j false).length < (js.filter fun j => !L.getD j false).length := by
    intro js
    induction js with
    | nil => intro _ h; simp at h
    | cons k js ih =>
      intro hs hm
      by_cases c : k = i
      · subst c
        have h1 : (L.setIfInBounds k true).getD k false = true := (dn_set (by omega)).2 (.inl rfl)
        have h2 : L.getD k false = false := by simpa [dn] using hni
        have := filter_le js (p := fun j => !(L.setIfInBounds k true).getD j false) (q := fun j => !L.getD j false) (fun j hj => hs j (by simp [hj]))
        simp only [List.filter_cons, h1, h2, Bool.not_true, Bool.not_false, Bool.false_eq_true, if_false, if_true, List.length_cons]
        omega
      · have hm' : i ∈ js := by rcases List.mem_cons.1 hm with q | q; · exact absurd q.symm c
                                · exact q
        have ih' := ih (fun j hj => hs j (by simp [hj])) hm'
        have e1 : (L.setIfInBounds i true).getD k false = L.getD k false := getD_set_ne false (Ne.symm c)
        simp only [List.filter_cons, e1]
        split
        · simp only [List.length_cons]; omega
        · exact ih'
  exact key _ hsub (by simpa using hi)
theorem binds_of_any {md : Region.Mode} {e : Edge} (h : Region.binds .any e = true) : Region.binds md e = true := by
  unfold Region.binds at h ⊢
  split at h <;> simp_all
theorem all_done {md : Region.Mode} {L : Array Bool} {R : Nat → Nat} (hed : rankOK md ops R = true) (hL : L.size = ops.size) (hr : Region.ready md ops L = []) : ∀ i, i < ops.size → dn L i := by
  have key : ∀ r i, R i = r → i < ops.size → dn L i := by
    intro r
    induction r using Nat.strongRecOn with
    | _ r ih =>
      intro i hri hi
      by_cases c : dn L i
      · exact c
      · exfalso
        have hm : i ∈ Region.ready md ops L := by
          rw [mem_ready]
          refine ⟨?_, ops[i], Array.getElem?_eq_getElem hi, fun e he hb => ?_⟩
          · have : L.getD i false = false := by simpa [dn] using c
            rw [Array.getD_eq_getD_getElem?, Array.getElem?_eq_getElem (by omega)] at this ⊢
            simpa using this
          · have h1 := range_all hed hi
            rw [Array.getElem?_eq_getElem hi] at h1
            have h2 := List.all_eq_true.1 h1 e (by simpa using he)
            simp only [hb, Bool.not_true, Bool.false_or, Bool.and_eq_true, Nat.blt_eq] at h2
            exact ih (R e.on) (by omega) e.on rfl h2.2
        rw [hr] at hm; simp at hm
  exact fun i hi => key (R i) i rfl hi
theorem setsE_df {C : Cx} {ops : Array Oper} {n : Nat} {loc : List V} (hV : C.vars.contains DSL = false) {sets0 : List (Nat × Nat)}
    (hs : (sets0.all fun (p : Nat × Nat) => Nat.blt p.2 ops.size && C.vars.contains p.1 && (match (ops[p.2]?).bind (·.dst) with | some t => Nat.beq t p.1 | none => false)) = true) :
    ∀ (sets : List (Nat × Nat)) (env env' : T V), (∀ p, p ∈ sets → p ∈ sets0) → setsE n loc sets env = some env' → env'.get DSL = env.get DSL
  | [], env, env', _, e => by cases e; rfl
  | (t, i) :: r, env, env', hi, e => by
    simp only [setsE] at e
    split at e
    · rename_i u hu
      rw [setsE_df hV hs r _ _ (fun p hp => hi p (by simp [hp])) e, T.get_set_ne]
      intro q
      have := List.all_eq_true.1 hs (t, i) (hi _ (by simp))
      simp only [Bool.and_eq_true] at this
      rw [← q, hV] at this
      simp at this
    · cases e
theorem dops_sound (hcall : CallsOK P K C.G call) (hc : chkD P C ops l late B R reads sets = true) {Q : Exit → Act → World → Prop} {env : T V} {h0 : Heap} {m0 : M} {a0 : Act} {w0 : World} {ex : Ex} {env' : T V} {h' : Heap} {id : Nat}
    (hG : Glob K C.G m0) (hE : ERel C m0 env a0) (H0 : HRel m0 h0 w0) (e : evD call l late reads sets env h0 = .ok ex env' h')
    (hL : ∀ a' w' m', ex = .norm → ERel C m' env' a' → HRel m' h' w' → Ext m0 h0 w0 m' h' w' → a'.defers = a0.defers → env'.get DSL = env.get DSL → Q .normal a' w') {ro : Option Nat} : (Code.region id ops true).wpIn (FR ro) 0 P Q a0 w0 := by
  unfold chkD at hc
  simp only [Bool.and_eq_true] at hc
  obtain ⟨⟨⟨⟨⟨hsz, hedge⟩, hB⟩, hds⟩, hone⟩, hchain⟩ := hc
  have hsz := Nat.eq_of_beq_eq_true hsz
  unfold evD at e
  split at e
  · cases e
  rename_i dl h hlay
  obtain ⟨y1, y2, _, y4, y5, y6⟩ := lay_at l 0 [] h0 dl h hlay
  have hdl := lay_length l 0 [] h0 dl h hlay
  have heffm : effIx (markL late l 0) = effIx dl := effIx_map (markL_effS l 0 [] h0 dl h hlay)
  have hstart : Ext m0 h0 w0 m0 h w0 := ⟨fun _ _ x => x, fun _ _ a b => by simp [a] at b, y4, fun p _ hp => y5 p hp, Nat.le_refl _, fun _ _ _ => rfl, rfl, rfl, rfl, fun _ _ _ x => x, fun _ _ => Kept.refl _ _ _, fun _ _ a b => by simp [a] at b⟩
  rw [heffm] at hchain
  split at e
  · rename_i loc hs hdr
    cases hrd : reads.all (rdOK call env l loc hs)
    · rw [hrd] at e; cases e
    · rw [hrd] at e; simp only [cond_true] at e
      obtain ⟨vals, hp, hcan, hloc, hhs⟩ := canon_of dl [] [h] h loc hs hdr
      obtain ⟨hvl, hpl, hat⟩ := canon_at dl [] h vals hp hcan
      have hvl' : vals.length = ops.size := by omega
      split at e
      · rename_i env1 h1 hs1 hset
        simp only [Out.ok.injEq] at e
        obtain ⟨rfl, rfl, rfl⟩ := e
        -- the last heap
        have hlast : (h :: hp)[effs dl dl.length]? = some h1 := by
          rw [← hpl]
          have : hp.reverse ++ [h] = (h :: hp).reverse := by simp
          rw [this] at hhs
          have hh : (h :: hp).reverse[0]? = some h1 := by rw [← hhs]; rfl
          rw [List.getElem?_reverse (by simp)] at hh
          simpa using hh
        refine wpIn_region_draw fun t => ?_
        have main : ∀ (md : Region.Mode) (R' : Nat → Nat), rankOK md ops R' = true → ∀ (fuel : Nat) (L : Array Bool) (a : Act) (w : World), (∃ m hk, DI C ops dl env vals (h :: hp) m0 h0 w0 a0 L a w m hk) →
            ((List.range ops.size).filter fun i => !L.getD i false).length ≤ fuel → wpAnyIn (FR ro) 0 P md ops Q fuel L a w := by
          intro md R' hrank
          have fin : ∀ (L : Array Bool) (a : Act) (w : World), (∃ m hk, DI C ops dl env vals (h :: hp) m0 h0 w0 a0 L a w m hk) → (∀ i, i < ops.size → dn L i) → Q .normal a w := by
            rintro L a w ⟨m, hk, D⟩ hall
            have hcnt : cnt dl L = effs dl dl.length := cnt_eq (Nat.le_refl _) (fun e he hlt => hall e (by omega)) (fun e he hge => by
              obtain ⟨s, hs, _⟩ := effIx_mem.1 he
              have := (List.getElem?_eq_some_iff.1 hs).1; omega)
            have hkk := D.at_
            rw [hcnt, hlast] at hkk
            cases hkk
            refine hL a w m rfl ⟨D.size, fun s v hs => ?_, hE.2.2⟩ D.rel D.ext D.defers (setsE_df hE.2.2 (Bool.and_eq_true_iff.1 hds).2 sets env env1 (fun _ x => x) hset)
            rcases setsE_get sets env env1 hset s v hs with ⟨i, hi, hv⟩ | ⟨hn, hv⟩
            · have hsi := List.all_eq_true.1 (Bool.and_eq_true_iff.1 hds).2 (s, i) hi
              simp only [Bool.and_eq_true, Nat.blt_eq] at hsi
              obtain ⟨⟨hlt, hvar⟩, hd⟩ := hsi
              refine .inr ⟨hvar, ?_⟩
              split at hd
              · rename_i u hu
                have := Nat.eq_of_beq_eq_true hd; subst this
                refine D.vals i v u (hall i hlt) ?_ hu
                rw [hloc] at hv
                rw [List.append_nil, List.getElem?_reverse (by omega)] at hv
                rw [← hv]; congr 1; omega
              · cases hd
            · rcases hE.2.1 s v hv with q | ⟨h2, h3⟩
              · exact .inl q
              refine .inr ⟨h2, ?_⟩
              rw [D.old s (fun i hi hd => by
                have hlt : i < ops.size := by
                  rcases Nat.lt_or_ge i ops.size with q | q
                  · exact q
                  · rw [Array.getElem?_eq_none q] at hd; cases hd
                have h4 := range_all (Bool.and_eq_true_iff.1 hds).1 hlt
                rw [hd] at h4
                simp only [Bool.and_eq_true, Bool.or_eq_true] at h4
                rcases h4.1.2 with q | q
                · rw [h2] at q; simp at q
                · exact hn i (by simpa using q))]
              exact VRel.mono D.ext.le _ _ h3
          intro fuel
          induction fuel with
          | zero =>
            intro L a w hD hf
            have hall : ∀ i, i < ops.size → dn L i := by
              intro i hi
              by_cases c : dn L i
              · exact c
              · exfalso
                have : i ∈ ((List.range ops.size).filter fun i => !L.getD i false) := by
                  rw [List.mem_filter]; exact ⟨by simpa using hi, by simpa [dn] using c⟩
                have := List.length_pos_of_mem this
                omega
            refine ⟨?_, fin L a w hD hall⟩
            cases hr : Region.ready md ops L with
            | nil => rfl
            | cons i r =>
              exfalso
              have hm : i ∈ Region.ready md ops L := by rw [hr]; simp
              obtain ⟨h2, o, h3, _⟩ := mem_ready.1 hm
              have hi : i < ops.size := (Array.getElem?_eq_some_iff.1 h3).1
              have := hall i hi
              unfold dn at this
              obtain ⟨m, hk, D⟩ := hD
              rw [Array.getD_eq_getD_getElem?, Array.getElem?_eq_getElem (by rw [D.lsz]; exact hi)] at this h2
              simp at this h2
              rw [this] at h2; cases h2
          | succ fuel ih =>
            intro L a w hD hf
            refine ⟨fun hr => ?_, fun i hi => ?_⟩
            · obtain ⟨m, hk, D⟩ := hD
              exact fin L a w ⟨m, hk, D⟩ (all_done hrank D.lsz hr)
            · obtain ⟨m, hk, D⟩ := hD
              obtain ⟨hli, o, ho, hbin⟩ := mem_ready.1 hi
              have hilt : i < ops.size := (Array.getElem?_eq_some_iff.1 ho).1
              have hni : ¬ dn L i := by
                unfold dn
                rw [Array.getD_eq_getD_getElem?, Array.getElem?_eq_getElem (by rw [D.lsz]; exact hilt)] at hli ⊢
                simp at hli ⊢; exact hli
              have hed : ∀ e ∈ o.after, Region.binds .any e = true → dn L e.on := fun e he hb => hbin e he (binds_of_any hb)
              have hO := D.opds hG hE hB hvl' ho hni hed
              have hG' := hG.ext D.ext
              have hone_i := range_all hone hilt
              have hlt' : i < l.length := by omega
              rw [ho, List.getElem?_eq_getElem hlt'] at hone_i
              simp only [Bool.and_eq_true] at hone_i
              obtain ⟨⟨⟨hcg, hco⟩, hcr⟩, hcl⟩ := hone_i
              have hltd : i < dl.length := by omega
              have hdi : dl[i]? = some dl[i] := List.getElem?_eq_getElem hltd
              obtain ⟨v, hb, ha, hv, hhb, hrun, hef, hnef⟩ := hat i dl[i] hdi
              have hfst : dl[i].1 = l[i] := by
                rcases y1 i l[i] (List.getElem?_eq_getElem hlt') with ⟨_, q⟩ | ⟨_, u, c, q, _⟩
                · exact congrArg Prod.fst (Option.some.inj (hdi.symm.trans q))
                · exact congrArg Prod.fst (Option.some.inj (hdi.symm.trans q))
              have hunl := unlisted_set hilt D.lsz hni
              have hiL : i < L.size := by rw [D.lsz]; exact hilt
              have go : ∀ x w' m' hk', VRel m' v x → HRel m' hk' w' → Ext m hk w m' hk' w' → (h :: hp)[cnt dl (L.setIfInBounds i true)]? = some hk' →
                  wpAnyIn (FR ro) 0 P md ops Q fuel (L.setIfInBounds i true) (a.put o.dst x) w' :=
                fun x w' m' hk' r H' E' hcn => ih _ _ _ ⟨m', hk', D.next hds ho hni hed hv r H' E'.le (D.ext.trans E') hcn (D.unm_next hiL E')⟩ (by omega)
              -- the effects that are done
              have heffcnt : effS dl[i] = true → cnt dl L = effs dl i ∧ cnt dl (L.setIfInBounds i true) = effs dl i + 1 := by
                intro he
                have hmem : i ∈ effIx dl := effIx_mem.2 ⟨dl[i], hdi, he⟩
                have pair : ∀ p q, p ∈ effIx dl → q ∈ effIx dl → p < q → bef B q p = true := by
                  intro p q hp' hq' hlt
                  have := List.all_eq_true.1 (List.all_eq_true.1 hchain p hp') q hq'
                  have hb' : Nat.blt p q = true := by rw [Nat.blt_eq]; exact hlt
                  simpa [hb'] using this
                have lt_of : ∀ p, p ∈ effIx dl → p < ops.size := by
                  intro p hp'
                  obtain ⟨s, hs, _⟩ := effIx_mem.1 hp'
                  have := (List.getElem?_eq_some_iff.1 hs).1; omega
                have h1 : ∀ p ∈ effIx dl, p < i → dn L p := fun p hp' hlt => bef_done hB D.closed i o ho hed p (pair p i hp' hmem hlt) (lt_of p hp')
                have h2 : ∀ p ∈ effIx dl, i < p → ¬ dn L p := fun p hp' hlt hd =>
                  hni (bef_done hB D.closed p _ (Array.getElem?_eq_getElem (lt_of p hp')) (D.closed p _ (Array.getElem?_eq_getElem (lt_of p hp')) hd) i (pair i p hmem hp' hlt) hilt)
                refine ⟨cnt_eq (by omega) h1 (fun p hp' hle => ?_), ?_⟩
                · rcases Nat.lt_or_eq_of_le hle with q | q
                  · exact h2 p hp' q
                  · subst q; exact hni
                · rw [← effs_succ hdi he]
                  refine cnt_eq (by omega) (fun p hp' hlt => ?_) (fun p hp' hle hd => ?_)
                  · rw [dn_set hiL]
                    by_cases c : p = i
                    · exact .inl c
                    · exact .inr (h1 p hp' (by omega))
                  · rw [dn_set hiL] at hd
                    rcases hd with q | q
                    · omega
                    · exact h2 p hp' (by omega) q
              have hnoeff : effS dl[i] = false → cnt dl (L.setIfInBounds i true) = cnt dl L := fun he =>
                cnt_set_ne (fun hm => by obtain ⟨s, hs, h2⟩ := effIx_mem.1 hm; rw [hdi] at hs; cases hs; rw [he] at h2; cases h2)
              unfold wpOpIn
              rw [ho]
              simp only []
              rcases hrun with ⟨hlt1, hhab⟩ | ⟨hsn, hgt, hop⟩ | ⟨hsn, hgf, hvu, hha⟩
              · -- a late block
                rcases y1 i l[i] (List.getElem?_eq_getElem hlt') with ⟨_, q⟩ | ⟨q0, u, c, q, hu2, hu3, hu4⟩
                · obtain ⟨c1, hc1, _⟩ := hlt1
                  rw [Option.some.inj (hdi.symm.trans q)] at hc1; cases hc1
                · have hdu : dl[i] = (l[i], some (u, c)) := Option.some.inj (hdi.symm.trans q)
                  obtain ⟨c1, hc1, hlok⟩ := hlt1
                  rw [hdu] at hc1 hlok
                  simp only [Option.some.injEq, Prod.mk.injEq] at hc1
                  obtain ⟨rfl, rfl⟩ := hc1
                  unfold lateOK at hlok
                  split at hlok
                  case h_2 => cases hlok
                  rename_i c2 k2 hlc
                  simp only [Bool.and_eq_true] at hlok
                  have hc2 := vsEq_eq _ _ hlok.1
                  have hu1 := vEq_eq _ _ hlok.2
                  subst hc2
                  rw [Nat.zero_add] at q0
                  rw [q0] at hcl
                  have hgn : o.guard = none := by simpa using hcl
                  have hw : Region.wanted o (yielded ops a.tmps) = true := by unfold Region.wanted; rw [hgn]
                  rw [if_pos hw]
                  obtain ⟨b1, b2, b3⟩ := D.unm i l[i] u c (by rw [hdi, hdu]) hni
                  obtain ⟨x, X, elem, hrun, hX, hval⟩ := late_run (P := P) hO hco hlc w
                  refine ⟨fun _ _ => trivial, ?_⟩
                  show o.uponIn (FR ro) 0 P a _ Q ((o.semAt ro a.eval).run P w)
                  rw [Oper.semAt_eq ro a.eval o (fun c' hcc => by simp only [chkOp, Bool.and_eq_true] at hco; rw [hcc] at hco; exact absurd hco.1 (by simp [notDf])), hrun]
                  have hes : effS dl[i] = false := by rw [hdu]; rfl
                  have H' := D.rel.materialize (elem := elem) b1 b2 hX
                  have hle : Le m (mset m (lid u) ⟨w.heap.size, 0, X.size, none⟩) := by
                    intro q l' hq
                    rw [mset_ne]
                    · exact hq
                    · intro e'; subst e'; rw [b1] at hq; cases hq
                  have E0 : Ext m0 h0 w0 (mset m (lid u) ⟨w.heap.size, 0, X.size, none⟩) hk (w.alloc (.cells X elem)) := by
                    refine ⟨fun p l' hp => hle _ _ (D.ext.le _ _ hp), ?_, D.ext.next, D.ext.phan, ?_, ?_, D.ext.os, D.ext.tape, D.ext.output, fun b i hb x => D.ext.cov b i hb (Cov.new m _ _ rfl b i (Nat.lt_of_lt_of_le hb D.ext.size) x), fun b hb => by
                      have := D.ext.size
                      rw [heap_alloc_old w _ _ (by omega)]; exact D.ext.out b hb, fun p l' hp hn0 => by
                      by_cases e' : p = lid u
                      · subst e'; rw [mset_self] at hp; cases hp; rfl
                      · rw [mset_ne _ _ e'] at hp; exact D.ext.lps _ _ hp hn0⟩
                    · intro p l' hp hn0
                      by_cases e' : p = lid u
                      · subst e'; rw [mset_self] at hp; cases hp
                        exact ⟨hu2, .inl D.ext.size⟩
                      · rw [mset_ne _ _ e'] at hp; exact D.ext.new _ _ hp hn0
                    · have := D.ext.size; simp; omega
                    · intro b hb1 hb2
                      have := D.ext.size
                      rw [heap_alloc_old w _ _ (by omega)]
                      exact D.ext.keep b hb1 hb2
                  refine ih _ _ _ ⟨_, hk, D.next hds ho hni hed hv ?_ H' hle E0 (by rw [hnoeff hes]; exact D.at_) ?_⟩ (by omega)
                  · have e := hval (lid u) (mset m (lid u) ⟨w.heap.size, 0, X.size, none⟩) (mset_self _ _ _)
                    rw [← hu1] at e; exact e
                  · intro j s' u' c' hj hnd
                    have hji : j ≠ i := fun e' => hnd ((dn_set hiL).2 (.inl e'))
                    obtain ⟨g1, g2, g3⟩ := D.unm j s' u' c' hj (fun hd => hnd ((dn_set hiL).2 (.inr hd)))
                    have hne : lid u' ≠ lid u := by
                      rcases Nat.lt_or_gt_of_ne hji with q' | q'
                      · have := y2 j i s' l[i] u' u _ _ q' hj (by rw [hdi, hdu]); omega
                      · have := y2 i j l[i] s' u u' _ _ q' (by rw [hdi, hdu]) hj; omega
                    exact ⟨by rw [mset_ne _ _ hne]; exact g1, g2, g3⟩
              · rw [hfst] at hgt hop
                rw [if_pos (D.guard hO hcg hgt)]
                have hes : effS dl[i] = eff l[i].op := by unfold effS; rw [hsn, hfst]
                cases he : eff l[i].op
                · -- it reads, or reckons
                  have hcn := hnoeff (hes.trans he)
                  have hop' : evOp call ((vals.take i).reverse ++ []) env hk l[i].op = some (v, hk) := by
                    have hcase : (∃ k xs, l[i].op = .p k xs) ∨ isLd l[i].op = true := by
                      cases hio : l[i].op with
                      | p k xs => exact .inl ⟨k, xs, rfl⟩
                      | ld n ia x => exact .inr rfl
                      | lk a b c d => exact .inr rfl
                      | b2s a => exact .inr rfl
                      | _ => rw [hio] at he; simp [eff] at he
                    rcases hcase with ⟨k, xs, hio⟩ | hio
                    · rw [hio] at hop ⊢; exact evOp_pure hop hk
                    · have hro : readOK (markL late l 0) B reads i = true := by rw [hio] at hcr; simpa using hcr
                      obtain ⟨r, hr, hr2⟩ := List.any_eq_true.1 hro
                      obtain ⟨ri, lo, hi'⟩ := r
                      rw [heffm] at hr2
                      simp only [Bool.and_eq_true] at hr2
                      obtain ⟨⟨q1, q2⟩, q3⟩ := hr2
                      have q1 := Nat.eq_of_beq_eq_true q1
                      subst q1
                      have q2 := Nat.le_of_ble_eq_true q2
                      have q3 := Nat.le_of_ble_eq_true q3
                      have lt_of : ∀ p, p ∈ effIx dl → p < ops.size := by
                        intro p hp'
                        obtain ⟨s, hs, _⟩ := effIx_mem.1 hp'
                        have := (List.getElem?_eq_some_iff.1 hs).1; omega
                      have c1 : ((effIx dl).filter fun e => bef B ri e).length ≤ cnt dl L := filter_le _ (fun p hp' hb' => bef_done hB D.closed ri o ho hed p hb' (lt_of p hp'))
                      have c2 : cnt dl L + ((effIx dl).filter fun e => bef B e ri).length ≤ (effIx dl).length := filter_split _ (fun p hp' hd => by
                        cases hbb : bef B p ri
                        · rfl
                        · exact absurd (bef_done hB D.closed p _ (Array.getElem?_eq_getElem (lt_of p hp')) (D.closed p _ (Array.getElem?_eq_getElem (lt_of p hp')) hd) ri hbb hilt) hni)
                      have hrk := List.all_eq_true.1 hrd _ hr
                      unfold rdOK at hrk
                      simp only [List.getElem?_eq_getElem hlt'] at hrk
                      have hdrop : loc.drop (l.length - ri - 1) = v :: ((vals.take ri).reverse ++ []) := by
                        rw [hloc]
                        have hvr : vals[ri]? = some v := hv
                        have hrl : ri < vals.length := by omega
                        have e1 : vals.take (ri + 1) = vals.take ri ++ [v] := by
                          rw [List.take_succ_eq_append_getElem hrl]
                          rw [List.getElem?_eq_getElem hrl] at hvr; cases hvr; rfl
                        have e2 : (vals.reverse ++ []).drop (l.length - ri - 1) = (vals.take (ri + 1)).reverse := by
                          rw [List.append_nil, List.drop_reverse]; congr 2; omega
                        rw [e2, e1]; simp
                      rw [hdrop] at hrk
                      simp only [hgt] at hrk
                      have hmem : hk ∈ (((h1 :: hs1).reverse.drop lo).take (hi' + 1 - lo)) := by
                        have hrev : (h1 :: hs1).reverse = h :: hp := by rw [hhs]; simp
                        rw [hrev]
                        have hget := D.at_
                        have : ((((h :: hp).drop lo).take (hi' + 1 - lo)))[cnt dl L - lo]? = some hk := by
                          rw [List.getElem?_take, if_pos (by omega), List.getElem?_drop, show lo + (cnt dl L - lo) = cnt dl L by omega]; exact hget
                        exact List.mem_of_getElem? this
                      obtain ⟨g', hg'⟩ := rdAll_get _ hrk hk hmem
                      have := evOp_same he hg'; subst this
                      exact hg'
                  refine op_sound hcall hG' hO D.rel hco hop' (fun x w' m' r H' E' => go x w' m' hk r H' E' ?_)
                  rw [hcn]; exact D.at_
                · -- it has an effect
                  obtain ⟨e1, e2⟩ := heffcnt (hes.trans he)
                  have hkb : hk = hb := by have := D.at_; rw [e1, hhb] at this; cases this; rfl
                  subst hkb
                  refine op_sound hcall hG' hO D.rel hco hop (fun x w' m' r H' E' => go x w' m' ha r H' E' ?_)
                  rw [e2]; exact hef (hes.trans he)
              · rw [hfst] at hgf
                have hes : effS dl[i] = eff l[i].op := by unfold effS; rw [hsn, hfst]
                rw [if_neg (by rw [D.guard hO hcg hgf]; simp)]
                refine ⟨fun _ _ => trivial, ?_⟩
                refine go undef w m hk ?_ D.rel (Ext.refl _ _ _) ?_
                · rw [hvu]; exact ⟨[], rfl, rfl⟩
                · cases he : eff l[i].op
                  · rw [hnoeff (hes.trans he)]; exact D.at_
                  · obtain ⟨e1, e2⟩ := heffcnt (hes.trans he)
                    have hkb : hk = hb := by have := D.at_; rw [e1, hhb] at this; cases this; rfl
                    rw [e2, hkb, ← hha]; exact hef (hes.trans he)
        have start : ∀ md R', rankOK md ops R' = true → ∀ t, wpOpsIn (FR ro) 0 P ops Q (Region.linearise md ops t) a0 { w0 with drawn := w0.drawn + 1 } := by
          intro md R' hrank t
          refine wpAnyIn_sound ops.size t _ a0 _ (main md R' hrank ops.size _ a0 _ ⟨m0, h, ?_⟩ (by
            have := List.length_filter_le (fun i => !(Array.replicate ops.size false).getD i false) (List.range ops.size)
            simpa using this))
          have hnone : ∀ i, ¬ dn (Array.replicate ops.size false) i := by
            intro i hi
            unfold dn at hi
            rw [Array.getD_eq_getD_getElem?] at hi
            by_cases c : i < ops.size
            · simp [c] at hi
            · simp [c] at hi
          refine ⟨by simp, fun i o _ hd => absurd hd (hnone i), hE.1, rfl, fun t _ => rfl, ?_, (y6 m0 w0 H0).congr rfl, hstart.trans (Ext.drew m0 h w0), fun i v t hd => absurd hd (hnone i), ?_⟩
          have : cnt dl (Array.replicate ops.size false) = 0 := by
            unfold cnt
            rw [List.length_eq_zero_iff, List.filter_eq_nil_iff]
            intro e _; exact hnone e
          · rw [this]; rfl
          · intro i s u c hi _
            have hil : i < l.length := by have := (List.getElem?_eq_some_iff.1 hi).1; omega
            rcases y1 i l[i] (List.getElem?_eq_getElem hil) with ⟨_, q⟩ | ⟨_, u', c', q, hu2, hu3, hu4⟩
            · rw [hi] at q; cases q
            · rw [hi] at q; cases q
              refine ⟨?_, hu4, hu3⟩
              exact H0.unmapped hu2
        unfold chkEdges at hedge
        simp only [Bool.and_eq_true] at hedge
        unfold Region.schedule
        split
        · exact start .any _ hedge.1.1 t
        · split
          · exact start .text _ hedge.1.2 _
          · exact start .gc _ hedge.2 _
      · cases e
  · cases e
end
variable {K : LG → Prop}
def natsEq:List Nat→List Nat→Bool
  |[],[]=>true
  |a::l,b::r=>Nat.beq a b&&natsEq l r
  |_,_=>false
theorem natsEq_eq:∀{l r:List Nat},natsEq l r=true→l=r
  |[],[],_=>rfl
  |[],_::_,h=>by cases h
  |_::_,[],h=>by cases h
  |a::l,b::r,h=>by
    simp only[natsEq,Bool.and_eq_true]at h;rw[Nat.eq_of_beq_eq_true h.1,natsEq_eq h.2]
def chkC(P:Program)(C:Cx):IC→Code→Bool
  |.skip,.skip=>true
  |.skip,.label _=>true
  |.ops l,.region _ ops false=>chkSteps P C ops ops.toList l []
  |.seq a b,.seq x y=>chkC P C a x&&chkC P C b y
  |.cond x a b,.cond c t e=>opdOK C [] c x&&chkC P C a t&&chkC P C b e
  |.block id c,.block id' c'=>Nat.beq id id'&&chkC P C c c'
  |.loop c,.loop c'=>chkC P C c c'
  |.exit id,.exit id'=>Nat.beq id id'
  |.ret,.ret=>true
  |.scope c l r,.scope c'=>chkC P C c c'&&(match findLabel c' l with
    |some r'=>chkC P C r r'
    |none=>false)
  |.goto l,.goto l'=>Nat.beq l l'
  |.dops l late B R reads sets,.region _ ops true=>chkD P C ops l late B R reads sets
  |.bad,_=>true
  |.rf g ps a b,.rangeFunc g' ps' a' b'=>opdOK C [] g' g&&natsEq ps'.toList ps&&ps.all (fun p=>C.vars.contains p&&Nat.blt p C.N)&&chkC P {C with df:=false} a a'&&chkC P {C with df:=false} b b'
  |_,_=>false
def exitOf:Ex→Exit
  |.norm=>.normal
  |.ret=>.ret
  |.exit id=>.exit id
  |.goto l=>.goto l
section
variable {P : Program} {Q : Exit → Act → World → Prop} {a : Act} {w : World} {ro : Option Nat}
theorem room_FR(n:Nat):(FR ro).room n:=fun _ h=>by simp[Fence.wide]at h
theorem stepR_scope'{b:Frame}{c:Code}{k:List Item}{cs:List Frame}:
    step P (lone (b.atR a (.code (.scope c)::k)) cs w)=.next (lone (b.atR a (.code c::.inScope c::k)) cs w):=
  step_lone_go (by simp[stepG,stepG.exec,Frame.atR])
theorem stepR_inScope'{b:Frame}{c:Code}{k:List Item}{cs:List Frame}:
    step P (lone (b.atR a (.inScope c::k)) cs w)=.next (lone (b.atR a k) cs w):=
  step_lone_go (by simp[stepG,stepG.exec,Frame.atR])
theorem calmF{fr:Frame}{cs:List Frame}(ha:fr.about P w=none):(lone fr cs w).fenced P (FR ro):=fenced_calm (n:=0) trivial (room_FR _) ha
/-- code x that runs inside the scope c -/
def InScope(ro:Option Nat)(P:Program)(c x:Code)(Q:Exit→Act→World→Prop)(a:Act)(w:World):Prop:=
  ∀(b:Frame)(k:List Item)(cs:List Frame),b.roundOf=ro→∃e a' w',Q e a' w'∧ArrivesIn (Machine.fenced P (FR ro)) P (lone (b.atR a (.code x::.inScope c::k)) cs w) b k cs e a' w'
theorem wp_scope_in{c:Code}(h:InScope ro P c c Q a w):(Code.scope c).wpIn (FR ro) 0 P Q a w:=fun b k cs hro _ _=>
  let⟨e,a',w',q,r⟩:=h b k cs hro;⟨e,a',w',q,.of_steps (.one (calmF rfl) stepR_scope') r⟩
theorem inScope_of{c x:Code}(h:x.wpIn (FR ro) 0 P (fun e a' w'=>match e with
    |.goto l=>(match findLabel c l with
      |some r=>InScope ro P c r Q a' w'
      |none=>Q (.goto l) a' w')
    |e=>Q e a' w') a w):InScope ro P c x Q a w:=by
  intro b k cs hro;obtain⟨e,a₁,w₁,hq,harr⟩:=h b (.inScope c::k) cs hro trivial (room_FR _);cases e with
  |normal=>exact⟨.normal,a₁,w₁,hq,StepsIn.trans harr (.one (calmF rfl) stepR_inScope')⟩
  |exit id=>exact⟨.exit id,a₁,w₁,hq,fun k' hk=>harr.1 k' (by simpa[exitTo]using hk),fun hr hk=>harr.2 hr (by simpa[exitTo]using hk)⟩
  |goto l=>
    simp only[]at hq;cases hf:findLabel c l with
    |none=>
      rw[hf]at hq;exact⟨.goto l,a₁,w₁,hq,fun k' hk=>harr.1 k' (by simp[gotoIn,hf,hk]),fun hr hk=>harr.2 hr (by simp[gotoIn,hf,hk])⟩
    |some r=>
      rw[hf]at hq;obtain⟨e,a₂,w₂,hq₂,harr₂⟩:=hq b k cs hro;exact⟨e,a₂,w₂,hq₂,.of_steps (harr.1 _ (by simp[gotoIn,hf])) harr₂⟩
  |ret=>exact⟨.ret,a₁,w₁,hq,harr⟩
  |panic ch=>exact⟨.panic ch,a₁,w₁,hq,harr⟩
  |outgrown=>exact⟨.outgrown,a₁,w₁,hq,harr⟩
/-- a loop, from a round on -/
def InLoop(ro:Option Nat)(P:Program)(c:Code)(Q:Exit→Act→World→Prop)(a:Act)(w:World):Prop:=
  ∀(b:Frame)(k:List Item)(cs:List Frame),b.roundOf=ro→∃e a' w',Q e a' w'∧ArrivesIn (Machine.fenced P (FR ro)) P (lone (b.atR a (.code c::.inLoop c::k)) cs w) b k cs e a' w'
theorem wp_loop_in{c:Code}(h:InLoop ro P c Q a w):(Code.loop c).wpIn (FR ro) 0 P Q a w:=fun b k cs hro _ _=>
  let⟨e,a',w',q,r⟩:=h b k cs hro;⟨e,a',w',q,.of_steps (.one (calmF rfl) stepR_loop) r⟩
theorem inLoop_of{c:Code}(h:c.wpIn (FR ro) 0 P (Exit.then (InLoop ro P c Q) Q) a w):InLoop ro P c Q a w:=by
  intro b k cs hro;obtain⟨e,a₁,w₁,hq,harr⟩:=h b (.inLoop c::k) cs hro trivial (room_FR _);cases e with
  |normal=>
    obtain⟨e₂,a₂,w₂,hq₂,harr₂⟩:=hq b k cs hro;exact⟨e₂,a₂,w₂,hq₂,.of_steps (StepsIn.trans harr (.one (calmF rfl) stepR_inLoop)) harr₂⟩
  |exit id=>exact⟨_,a₁,w₁,hq,.pass (x:=.inLoop c) rfl (fun _ _=>.inl (by simp)) harr⟩
  |goto l=>exact⟨_,a₁,w₁,hq,.pass (x:=.inLoop c) rfl (fun _ _=>.inl (by simp)) harr⟩
  |ret=>exact⟨_,a₁,w₁,hq,.pass (x:=.inLoop c) rfl (fun _ _=>.inl (by simp)) harr⟩
  |panic ch=>exact⟨_,a₁,w₁,hq,.pass (x:=.inLoop c) rfl (fun _ _=>.inl (by simp)) harr⟩
  |outgrown=>exact⟨_,a₁,w₁,hq,.pass (x:=.inLoop c) rfl (fun _ _=>.inl (by simp)) harr⟩
end
/-- the loop around, if there is one -/
def RoOK(ro:Option Nat)(w:World):Prop:=∀l,ro=some l→∃r,w.heap[l]? =some (.loop r)
theorem RoOK.ext{ro:Option Nat}{m m':M}{h h':Heap}{w w':World}(a:RoOK ro w)(E:Ext m h w m' h' w'):RoOK ro w':=by
  intro l hl;obtain⟨r,hr⟩:=a l hl;obtain⟨x',h1,h2⟩:=E.out l (Array.getElem?_eq_some_iff.1 hr).1 _ hr;cases x' with
  |loop r'=>exact⟨r',h1⟩
  |_=>cases h2
/-- what is known wherever code runs -/
structure Cir(K:LG→Prop)(C:Cx)(ro:Option Nat)(B:Nat)(m:M)(h:Heap)(w:World)(env:T V)(a:Act):Prop where
  g:Glob K C.G m
  e:ERel C m env a
  h:HRel m h w
  d:DsR C B m w env a.defers
  b:B≤w.heap.size
  r:RoOK ro w
/-- what a run of code has to lead to -/
def Leads(K:LG→Prop)(C:Cx)(ro:Option Nat)(B:Nat)(m:M)(h:Heap)(w:World)(R:Act→World→Prop)(env':T V)(h':Heap):Prop:=
  ∀a' w' m',Cir K C ro B m' h' w' env' a'→Ext m h w m' h' w'→R a' w'
/-- a run of the evaluator tells a run of the model -/
def Runs(K:LG→Prop)(C:Cx)(ro:Option Nat)(B:Nat)(ev:T V→Heap→Out)(W:(Exit→Act→World→Prop)→Act→World→Prop):Prop:=
  ∀(Q:Exit→Act→World→Prop) env h m a w ex env' h',Cir K C ro B m h w env a→ev env h=.ok ex env' h'→
    Leads K C ro B m h w (Q (exitOf ex)) env' h'→W Q a w
theorem dbl_zero(body:T V→Heap→Out)(env:T V)(h:Heap):dbl body 0 env h=body env h:=rfl
theorem dbl_succ(body:T V→Heap→Out)(k:Nat)(env:T V)(h:Heap):dbl body (k+1) env h=match dbl body k env h with
    |.ok .norm env h=>dbl body k env h
    |r=>r:=rfl
theorem loop_sound{P:Program}{C:Cx}{ro:Option Nat}{B:Nat}{body:T V→Heap→Out}{c:Code}(hb:Runs K C ro B body (fun Q a w=>c.wpIn (FR ro) 0 P Q a w))(Q:Exit→Act→World→Prop):
    ∀(k:Nat) env h m a w ex env' h',Cir K C ro B m h w env a→dbl body k env h=.ok ex env' h'→
      Leads K C ro B m h w (Exit.then (InLoop ro P c Q) Q (exitOf ex)) env' h'→InLoop ro P c Q a w:=by
  intro k;induction k with
  |zero=>
    intro env h m a w ex env' h' hC e hL;exact inLoop_of (hb _ env h m a w ex env' h' hC e hL)
  |succ k ih=>
    intro env h m a w ex env' h' hC e hL;rw[dbl_succ]at e;cases h1:dbl body k env h with
    |fail=>rw[h1]at e;cases e
    |ok ex1 env1 h2=>
      rw[h1]at e;cases ex1 with
      |norm=>
        simp only[]at e;refine ih env h m a w .norm env1 h2 hC h1 (fun a' w' m' hC' E'=>?_);exact ih env1 h2 m' a' w' ex env' h' hC' e (fun a'' w'' m'' hC'' E''=>hL a'' w'' m'' hC'' (E'.trans E''))
      |ret=>simp only[]at e;cases e;exact ih env h m a w _ _ _ hC h1 hL
      |exit id=>simp only[]at e;cases e;exact ih env h m a w _ _ _ hC h1 hL
      |goto l=>simp only[]at e;cases e;exact ih env h m a w _ _ _ hC h1 hL
def scopeQ(ro:Option Nat)(P:Program)(c:Code)(Q:Exit→Act→World→Prop):Exit→Act→World→Prop:=fun e a' w'=>match e with
    |.goto l=>(match findLabel c l with
      |some r=>InScope ro P c r Q a' w'
      |none=>Q (.goto l) a' w')
    |e=>Q e a' w'
noncomputable def swapL(l:Nat)(r:T V→Heap→Out):T V→Heap→Out:=fun env h=>match r env h with
  |.ok (.goto i) env h=>bif Nat.beq i l then .ok .norm env h else .ok (.goto i) env h
  |.ok .norm env h=>.ok (.goto l) env h
  |r=>r
def dec(l:Nat):Ex→Exit
  |.norm=>.goto l
  |.goto i=>if i=l then .normal else .goto i
  |.ret=>.ret
  |.exit id=>.exit id
theorem jumps_sound{P:Program}{C:Cx}{ro:Option Nat}{B:Nat}{body:T V→Heap→Out}{c r:Code}{l:Nat}(hf:findLabel c l=some r)(hb:Runs K C ro B body (fun Q a w=>r.wpIn (FR ro) 0 P Q a w))(Q:Exit→Act→World→Prop):
    ∀(k:Nat) env h m a w ex env' h',Cir K C ro B m h w env a→dbl (swapL l body) k env h=.ok ex env' h'→
      Leads K C ro B m h w (scopeQ ro P c Q (dec l ex)) env' h'→InScope ro P c r Q a w:=by
  intro k;induction k with
  |zero=>
    intro env h m a w ex env' h' hC e hL;rw[dbl_zero]at e;unfold swapL at e;cases h1:body env h with
    |fail=>rw[h1]at e;cases e
    |ok ex1 env1 h2=>
      rw[h1]at e;have fin:exitOf ex1=dec l ex→env1=env'→h2=h'→InScope ro P c r Q a w:=by
        rintro e1 rfl rfl;refine inScope_of (hb (scopeQ ro P c Q) env h m a w ex1 env1 h2 hC h1 ?_);rw[e1];exact hL
      cases ex1 with
      |norm=>simp only[]at e;cases e;exact fin (by simp[dec,exitOf]) rfl rfl
      |ret=>simp only[]at e;cases e;exact fin rfl rfl rfl
      |exit id=>simp only[]at e;cases e;exact fin rfl rfl rfl
      |goto i=>
        simp only[]at e;cases hb:Nat.beq i l
        ·rw[hb]at e;simp only[cond_false]at e;cases e;exact fin (by
           have:i≠l:=by intro q;subst q;simp at hb
           simp[dec,exitOf,this]) rfl rfl
        ·rw[hb]at e;simp only[cond_true]at e;cases e;exact fin (by have:=Nat.eq_of_beq_eq_true hb;subst this;rfl) rfl rfl
  |succ k ih=>
    intro env h m a w ex env' h' hC e hL;rw[dbl_succ]at e;cases h1:dbl (swapL l body) k env h with
    |fail=>rw[h1]at e;cases e
    |ok ex1 env1 h2=>
      rw[h1]at e;cases ex1 with
      |norm=>
        simp only[]at e;refine ih env h m a w .norm env1 h2 hC h1 (fun a' w' m' hC' E'=>?_);simp only[dec,scopeQ,hf];exact ih env1 h2 m' a' w' ex env' h' hC' e (fun a'' w'' m'' hC'' E''=>hL a'' w'' m'' hC'' (E'.trans E''))
      |ret=>simp only[]at e;cases e;exact ih env h m a w _ _ _ hC h1 hL
      |exit id=>simp only[]at e;cases e;exact ih env h m a w _ _ _ hC h1 hL
      |goto l=>simp only[]at e;cases e;exact ih env h m a w _ _ _ hC h1 hL
/-- what is known of a loop's code -/
def LOK(P:Program)(G:Nat)(g:LG):Prop:=
  chkC P ⟨G,g.vars,g.N,false⟩ g.as g.r.assign=true∧chkC P ⟨G,g.vars,g.N,false⟩ g.bd g.r.body=true∧g.r.params.toList=g.ps∧g.r.tmps.size=g.N∧
  (∀p∈g.ps,g.vars.contains p=true∧p<g.N)∧g.vars.contains DSL=false
theorem DsL.fresh{B:Nat}{m:M}{w:World}:∀{ds:List Deferred}{vs:List V},DsL B m w ds vs→∀d∈ds,d.target≠.collected w.heap.size
  |[],_,_,d,hd=>by simp at hd
  |x::l,vs,D,d,hd=>by
    rcases D with⟨⟨r,h1,h2,h3,_⟩,t⟩|⟨v,vs',_,⟨f,first,caps,args,A,C',_,_,hq,_⟩,t⟩
    ·rcases List.mem_cons.1 hd with rfl|hd
     ·rw[h1];intro q;simp only[Target.collected.injEq]at q;have:=(Array.getElem?_eq_some_iff.1 h3).1;omega
     ·exact DsL.fresh t d hd
    ·rcases List.mem_cons.1 hd with rfl|hd
     ·rw[hq];intro q;cases q
     ·exact DsL.fresh t d hd
theorem DsR.fresh{C:Cx}{B:Nat}{m:M}{w:World}{env:T V}{ds:List Deferred}(D:DsR C B m w env ds):∀d∈ds,d.target≠.collected w.heap.size:=by
  cases hdf:C.df
  ·exact(D.2 hdf).fresh
  ·obtain⟨l,_,q⟩:=D.1 hdf;exact q.fresh
theorem run_enterLoop_inner{P:Program}{w:World}{fn:FuncId}{tmps:Array Value}{ps:Array Tmp}{assign body:Code}{l:Nat}{r:Loop}(h:w.heap[l]? =some (.loop r)):
    (Instr.enterLoop fn tmps ps assign body (some l)).run P w=
      .ok (w.heap.size,[]) (w.alloc (.loop {state:=.ready,pending:=none,fn,tmps,params:=ps,assign,body,defers:=r.defers})):=by
  unfold Instr.enterLoop;simp only[Sem.run_bind,run_getLoop h,run_newObj_alloc,Result.andThen,Sem.run_pure]
/-- entering a range over a function -/
theorem enter_loop{P:Program}{C:Cx}{ro:Option Nat}{B:Nat}{m:M}{h:Heap}{w:World}{env:T V}{a:Act}(hC:Cir K C ro B m h w env a)(fn:FuncId)(ps:Array Tmp)(assign body:Code):
    ∃(l:Nat)(mark:List Deferred)(w1:World)(df:Nat),(Instr.enterLoop fn a.tmps ps assign body ro).run P w=.ok (l,mark) w1∧
      (∀i,i<w.heap.size→w1.heap[i]? =w.heap[i]?)∧w.heap.size≤l∧w.heap.size≤w1.heap.size∧w1.os=w.os∧w1.tape=w.tape∧w1.output=w.output∧
      w1.heap[l]? =some (.loop {state:=.ready,pending:=none,fn,tmps:=a.tmps,params:=ps,assign,body,defers:=df})∧
      (mark=[]∨(mark=[{target:=.collected w.heap.size,args:= #[]}]∧w1.heap[w.heap.size]? =some (.deferred (some []))∧l≠w.heap.size)):=by
  cases ro with
  |none=>
    refine⟨w.heap.size+1,_,_,w.heap.size,run_enterLoop_outer fn a.tmps ps assign body,fun i hi=>?_,by omega,by simp;omega,rfl,rfl,rfl,?_,.inr ⟨rfl,?_,by omega⟩⟩
    ·rw[heap_alloc_old _ _ _ (by simp;omega),heap_alloc_old _ _ _ hi]
    ·have:=World.alloc_heap_new (w.alloc (.deferred (some []))) (.loop {state:=.ready,pending:=none,fn,tmps:=a.tmps,params:=ps,assign,body,defers:=w.heap.size});rwa[World.size_alloc]at this
    ·rw[heap_alloc_old _ _ _ (by simp)];exact World.alloc_heap_new w _
  |some lo=>
    obtain⟨r,hr⟩:=hC.r lo rfl;refine⟨w.heap.size,_,_,r.defers,run_enterLoop_inner hr,fun i hi=>heap_alloc_old _ _ _ hi,Nat.le_refl _,by simp,rfl,rfl,rfl,World.alloc_heap_new w _,.inl rfl⟩
theorem code_sound{P:Program}{C:Cx}{ro:Option Nat}{B:Nat}{call:CallF}(hcall:CallsOK P K C.G call)(hK:∀g,LOK P C.G g→K g)(hro:C.df=true→ro=none):∀(ic:IC)(c:Code),chkC P C ic c=true→Runs K C ro B (evC call ic) (fun Q a w=>c.wpIn (FR ro) 0 P Q a w):=by
  intro ic;induction ic with
  |skip=>
    intro c hc Q env h m a w ex env' h' hC e hL;cases e;cases c<;>simp[chkC]at hc
    ·exact wpIn_skip (hL a w m hC (Ext.refl _ _ _))
    ·exact wpIn_label (hL a w m hC (Ext.refl _ _ _))
  |ops l=>
    intro c hc Q env h m a w ex env' h' hC e hL;have e':evSteps call l [] env h=.ok ex env' h':=e;cases c with
    |region id ops dr=>
      cases dr with
      |true=>simp[chkC]at hc
      |false=>
        refine wpIn_region ?_;have hs:=steps_sound hcall (Q:=Q) hro ops.toList 0 l [] [] env h m a w ex env' h' (by simp) hc hC.g (fun t s hs=>by simp[look]at hs) hC.e hC.h hC.d e'
          (fun a' w' m' hx hE' H' E' hd=>by subst hx;exact hL a' w' m' ⟨hC.g.ext E',hE',H',hd,Nat.le_trans hC.b E'.size,hC.r.ext E'⟩ E')
        simpa[List.range_eq_range']using hs
    |_=>simp[chkC]at hc
  |seq x y ihx ihy=>
    intro c hc Q env h m a w ex env' h' hC e hL;cases c<;>simp[chkC]at hc;rename_i c1 c2;have e':(match evC call x env h with|.ok .norm env h=>evC call y env h|r=>r)=.ok ex env' h':=e
    refine wpIn_seq ?_;cases h1:evC call x env h with
    |fail=>rw[h1]at e';cases e'
    |ok ex1 env1 h2=>
      rw[h1]at e';refine ihx c1 hc.1 _ env h m a w ex1 env1 h2 hC h1 (fun a' w' m' hC' E'=>?_);cases ex1 with
      |norm=>
        simp only[]at e';exact ihy c2 hc.2 Q env1 h2 m' a' w' ex env' h' hC' e' (fun a'' w'' m'' hC'' E''=>hL a'' w'' m'' hC'' (E'.trans E''))
      |ret=>simp only[]at e';cases e';exact hL a' w' m' hC' E'
      |exit id=>simp only[]at e';cases e';exact hL a' w' m' hC' E'
      |goto l=>simp only[]at e';cases e';exact hL a' w' m' hC' E'
  |cond x y z ihy ihz=>
    intro c hc Q env h m a w ex env' h' hC e hL;cases c<;>simp[chkC]at hc;rename_i co c1 c2;have e':(match evO [] env x with|some (.bool t)=>bif t then evC call y env h else evC call z env h|_=>.fail)=.ok ex env' h':=e
    split at e'
    ·rename_i t ht;have hr:=opd_sound hC.g (σ:=[]) (fun t s hs=>by simp[look]at hs) hC.e hc.1.1 ht;simp only[VRel]at hr;refine wpIn_cond (t:=t) hr ?_;cases t
     ·simp only[cond_false]at e';exact ihz c2 hc.2 Q env h m a w ex env' h' hC e' hL
     ·simp only[cond_true]at e';exact ihy c1 hc.1.2 Q env h m a w ex env' h' hC e' hL
    ·cases e'
  |block id x ih=>
    intro c hc Q env h m a w ex env' h' hC e hL;cases c<;>simp[chkC]at hc;rename_i id' c1;obtain⟨hid,hc⟩:=hc;subst hid;have e':(match evC call x env h with|.ok (.exit i) env h=>bif Nat.beq i id then .ok .norm env h else .ok (.exit i) env h|r=>r)=Out.ok ex env' h':=e
    refine wpIn_block ?_;cases h1:evC call x env h with
    |fail=>rw[h1]at e';cases e'
    |ok ex1 env1 h2=>
      rw[h1]at e';refine ih c1 hc _ env h m a w ex1 env1 h2 hC h1 (fun a' w' m' hC' E'=>?_);cases ex1 with
      |norm=>simp only[]at e';cases e';exact hL a' w' m' hC' E'
      |ret=>simp only[]at e';cases e';exact hL a' w' m' hC' E'
      |goto l=>simp only[]at e';cases e';exact hL a' w' m' hC' E'
      |exit i=>
        simp only[]at e';cases hb:Nat.beq i id
        ·rw[hb]at e';simp only[cond_false]at e';cases e';have:i≠id:=by intro q;subst q;simp at hb
         simp only[exitOf,Exit.inBlock,if_neg this];exact hL a' w' m' hC' E'
        ·rw[hb]at e';simp only[cond_true]at e';cases e';have:=Nat.eq_of_beq_eq_true hb;subst this;simp only[exitOf,Exit.inBlock,if_true];exact hL a' w' m' hC' E'
  |loop x ih=>
    intro c hc Q env h m a w ex env' h' hC e hL;cases c<;>simp[chkC]at hc;rename_i c1;have e':(match dbl (evC call x) 48 env h with|.ok .norm _ _=>.fail|r=>r)=Out.ok ex env' h':=e
    refine wp_loop_in ?_;cases h1:dbl (evC call x) 48 env h with
    |fail=>rw[h1]at e';cases e'
    |ok ex1 env1 h2=>
      rw[h1]at e';refine loop_sound (ih c1 hc) Q 48 env h m a w ex1 env1 h2 hC h1 (fun a' w' m' hC' E'=>?_);cases ex1 with
      |norm=>cases e'
      |ret=>simp only[]at e';cases e';exact hL a' w' m' hC' E'
      |exit i=>simp only[]at e';cases e';exact hL a' w' m' hC' E'
      |goto l=>simp only[]at e';cases e';exact hL a' w' m' hC' E'
  |exit id=>
    intro c hc Q env h m a w ex env' h' hC e hL;cases c<;>simp[chkC]at hc;subst hc;cases e;exact wpIn_exit (hL a w m hC (Ext.refl _ _ _))
  |ret=>
    intro c hc Q env h m a w ex env' h' hC e hL;cases c<;>simp[chkC]at hc;cases e;exact wpIn_ret (hL a w m hC (Ext.refl _ _ _))
  |scope x l r ihx ihr=>
    intro c hc Q env h m a w ex env' h' hC e hL;cases c<;>simp only[chkC,Bool.false_eq_true]at hc;rename_i c1;simp only[Bool.and_eq_true]at hc;obtain⟨hc1,hc2⟩:=hc;split at hc2
    ·rename_i r' hf;have e':(match evC call x env h with
       |.ok (.goto i) env h=>bif Nat.beq i l then
           (match dbl (swapL l (evC call r)) 48 env h with
             |.ok .norm _ _=>.fail
             |.ok (.goto i) env h=>bif Nat.beq i l then .ok .norm env h else .fail
             |r=>r)
         else .fail
       |r=>r)=Out.ok ex env' h':=e
     refine wp_scope_in (inScope_of ?_);cases h1:evC call x env h with
     |fail=>rw[h1]at e';cases e'
     |ok ex1 env1 h2=>
       rw[h1]at e';refine ihx c1 hc1 (scopeQ ro P c1 Q) env h m a w ex1 env1 h2 hC h1 (fun a' w' m' hC' E'=>?_);cases ex1 with
       |norm=>simp only[]at e';cases e';exact hL a' w' m' hC' E'
       |ret=>simp only[]at e';cases e';exact hL a' w' m' hC' E'
       |exit i=>simp only[]at e';cases e';exact hL a' w' m' hC' E'
       |goto i=>
         simp only[]at e';cases hb:Nat.beq i l
         ·rw[hb]at e';cases e'
         ·rw[hb]at e';simp only[cond_true]at e';have:=Nat.eq_of_beq_eq_true hb;subst this;simp only[exitOf,scopeQ,hf];cases h3:dbl (swapL i (evC call r)) 48 env1 h2 with
          |fail=>rw[h3]at e';cases e'
          |ok ex2 env2 h4=>
            rw[h3]at e';refine jumps_sound hf (ihr r' hc2) Q 48 env1 h2 m' a' w' ex2 env2 h4 hC' h3 (fun a'' w'' m'' hC'' E''=>?_);have hE3:=E'.trans E'';cases ex2 with
            |norm=>cases e'
            |ret=>simp only[]at e';cases e';exact hL a'' w'' m'' hC'' hE3
            |exit j=>simp only[]at e';cases e';exact hL a'' w'' m'' hC'' hE3
            |goto j=>
              simp only[]at e';cases hj:Nat.beq j i
              ·rw[hj]at e';cases e'
              ·rw[hj]at e';simp only[cond_true]at e';cases e';have:=Nat.eq_of_beq_eq_true hj;subst this;simp only[dec,if_true,scopeQ];exact hL a'' w'' m'' hC'' hE3
    ·cases hc2
  |goto l=>
    intro c hc Q env h m a w ex env' h' hC e hL;cases c<;>simp[chkC]at hc;subst hc;cases e;exact wpIn_goto (hL a w m hC (Ext.refl _ _ _))
  |dops l late B' R reads sets=>
    intro c hc Q env h m a w ex env' h' hC e hL;cases c with
    |region id ops dr=>
      cases dr with
      |false=>simp[chkC]at hc
      |true=>exact dops_sound hcall hc hC.g hC.e hC.h e (fun a' w' m' hx hE' H' E' hd hde=>by
          subst hx;exact hL a' w' m' ⟨hC.g.ext E',hE',H',by rw[hd];exact(hC.d.ext E').congr hde,Nat.le_trans hC.b E'.size,hC.r.ext E'⟩ E')
    |_=>simp[chkC]at hc
  |bad=>
    intro c hc Q env h m a w ex env' h' hC e hL;cases e
  |wd x ih=>
    intro c hc;cases c<;>simp[chkC]at hc
  |rf g ps as bd iha ihb=>
    intro c hc Q env h m a w ex env' h' hC e hL;cases c<;>simp only[chkC,Bool.false_eq_true]at hc;rename_i g' ps' as' bd';simp only[Bool.and_eq_true]at hc;obtain⟨⟨⟨⟨hcg,hps⟩,hpv⟩,hca⟩,hcb⟩:=hc;have e':(match evO [] env g with
      |some (.func (.func f) first caps)=>bif Nat.blt f YB then
          (match call f (first++[.yld h.next]++caps) (hnew h (.lp ps as bd env 0 none))with
            |some (_,h2)=>(match h2.bl.get h.next with
              |some (.lp _ _ _ _ st pend)=>bif Nat.beq st 1 then .fail else .ok (match pend with|some ex=>ex|none=>.norm) env (hset h2 h.next .dead)
              |_=>.fail)
            |none=>.fail)
        else .fail
      |_=>.fail)=Out.ok ex env' h':=e
    split at e'
    ·rename_i f first caps hg
     cases hlt:Nat.blt f YB
     ·rw[hlt]at e';cases e'
     ·rw[hlt]at e';simp only[cond_true]at e';split at e'
      ·rename_i u h2 hcl;split at e'
       ·rename_i ps2 as2 bd2 en2 st pend hb2;cases hst:Nat.beq st 1
        ·rw[hst]at e';simp only[cond_false,Out.ok.injEq]at e';obtain⟨rfl,rfl,rfl⟩:=e';have hgv:=opd_sound hC.g (σ:=[]) (fun t s hs=>by simp[look]at hs) hC.e hcg hg;obtain⟨f',c',hfe,rf,rc⟩:=hgv;refine wpIn_rangeFunc ?_;intro fn _;obtain⟨l,mark,w1,df,hent,hk,hge,hsz,hos,htp,hou,hrec,hmark⟩:=enter_loop (P:=P) hC fn ps' as' bd';have hGL:∃G0:LG,G0={r:={state:=.ready,pending:=none,fn,tmps:=a.tmps,params:=ps',assign:=as',body:=bd',defers:=df},ps:=ps,as:=as,bd:=bd,vars:=C.vars,N:=C.N}:=⟨_,rfl⟩;obtain⟨G0,hG0⟩:=hGL;have hLOK:LOK P C.G G0:=by
           rw[hG0];refine⟨hca,hcb,natsEq_eq hps,hC.e.1,fun p hp=>?_,hC.e.2.2⟩;have:=List.all_eq_true.1 hpv p hp;simpa using this
         have H1:HRel (mset m h.next ⟨l,0,0,some G0⟩) (hnew h (.lp ps as bd env 0 none)) w1:=by
           have:=hC.h.allocL (w1:=w1) (L:=l) (g:=G0) (env:=env) hk hge (by rw[hG0];exact hrec) (by rw[hG0];exact hC.e.2.1);rw[hG0]at this⊢;exact this
         have hle1:=hC.h.le_mset ⟨l,0,0,some G0⟩;have hGl1:Glob K C.G (mset m h.next ⟨l,0,0,some G0⟩):=by
           refine⟨fun g hg=>let⟨r,hr⟩:=hC.g.1 g hg;⟨r,hle1 _ _ hr⟩,fun p loc g hp hl=>?_⟩;by_cases q:p=h.next
           ·subst q;rw[mset_self]at hp;cases hp;simp only[Option.some.injEq]at hl;subst hl;exact hK _ hLOK
           ·rw[mset_ne _ _ q]at hp;exact hC.g.2 p loc g hp hl
         have hlt':=(Nat.blt_eq ..).mp hlt;obtain⟨hf,hcc⟩:=(hcall f _ _ u h2 hcl).1 hlt';have hargs:VsRel (mset m h.next ⟨l,0,0,some G0⟩) (first++[.yld h.next]++caps) (f'++[.func (.yield l) #[] #[]]++c'):=
           VsRel.append (VsRel.append (VsRel.mono hle1 _ _ rf) ⟨_,_,rfl,⟨_,mset_self _ _ _,rfl⟩,rfl⟩) (VsRel.mono hle1 _ _ rc)
         have hcalls:=(hcc _ w1 _ hargs H1 hGl1).1;refine⟨l,mark,w1,{target:=.fn (.func f) (List.toArray c'),args:=List.toArray (f'++[.func (.yield l) #[] #[]])},w1,f,List.toArray (f'++[.func (.yield l) #[] #[]]++c'),w1,hent,?_,fun _ _=>trivial,?_,fun q=>absurd q (by simp[Fence.wide]),?_⟩
         ·simp only[rangeCall,resolve,hfe,Deferred.ofValue,Sem.run_bind,Sem.run_pure,Result.andThen_ok];congr 1;simp[Act.eval]
         ·simp only[invoke];rw[show(List.toArray (f'++[Value.func (.yield l) #[] #[]])++List.toArray c')=List.toArray (f'++[.func (.yield l) #[] #[]]++c') by simp];exact run_callFunc hf
         ·have hcl2:CallsIn Fence.wide 0 P f (List.toArray (f'++[.func (.yield l) #[] #[]]++c')) w1 (Post (mset m h.next ⟨l,0,0,some G0⟩) (hnew h (.lp ps as bd env 0 none)) w1 u h2):=callsIn_wide.2 hcalls;refine CallsIn.mono (F:=FR ro) (n:=0) hcl2 ?_;rintro en w3 ⟨x,m2,rfl,rx,H2,E2⟩;have hm2:=E2.le h.next _ (mset_self m h.next ⟨l,0,0,some G0⟩);obtain⟨g2,hg2,_,_,_,hr2,_⟩:=H2.loop hm2 hb2;have hnb:(lst st)≠.busy:=by
            intro q;match st,hst,q with
            |0,_,q=>cases q
            |1,hst,_=>cases hst
            |2,_,q=>cases q
            |n+3,_,q=>cases q
          have hend:=run_endLoop (P:=P) hr2 hnb;refine⟨_,_,hend,?_⟩;have H3:=H2.endL hm2 hb2 (.loop {({g2.r with state:=lst st,pending:=pend.map jumpOf}:Loop)with state:=.exhausted});have E3:=Ext.loop (o:=.loop {({g2.r with state:=lst st,pending:=pend.map jumpOf}:Loop)with state:=.exhausted}) hC.h hk hge hsz hos htp hou E2;have hD3:DsR C B (mset m2 h.next ⟨l,0,0,none⟩) (w3.putObj l (.loop {({g2.r with state:=lst st,pending:=pend.map jumpOf}:Loop)with state:=.exhausted})) env (mark++a.defers):=by
            have hD:=hC.d.ext E3;rcases hmark with rfl|⟨rfl,hmk,hlne⟩
            ·exact hD
            ·have hoff1:Off (mset m h.next ⟨l,0,0,some G0⟩) w.heap.size:=by
               intro p loc hp;by_cases q:p=h.next
               ·subst q;rw[mset_self]at hp;cases hp;exact hlne
               ·rw[mset_ne _ _ q]at hp;have:=hC.h.inb p loc hp;omega
             have hltm:=(Array.getElem?_eq_some_iff.1 hmk).1;refine hD.push hC.b ?_ ?_ hC.d.fresh
             ·rw[World.putObj_heap_other (Ne.symm hlne)];exact(E2.keep _ hoff1 hltm).trans hmk
             ·intro p loc hp;by_cases q:p=h.next
              ·subst q;rw[mset_self]at hp;cases hp;exact hlne
              ·rw[mset_ne _ _ q]at hp;exact hoff1.ext E2 hltm p loc hp
          have hC3:Cir K C ro B (mset m2 h.next ⟨l,0,0,none⟩) (hset h2 h.next .dead) (w3.putObj l (.loop {({g2.r with state:=lst st,pending:=pend.map jumpOf}:Loop)with state:=.exhausted})) env {a with defers:=mark++a.defers}:=
            ⟨hC.g.ext E3,⟨hC.e.1,fun s v hs=>(hC.e.2.1 s v hs).imp id fun q=>⟨q.1,VRel.mono E3.le _ _ q.2⟩,hC.e.2.2⟩,H3,hD3,Nat.le_trans hC.b E3.size,hC.r.ext E3⟩
          have fin:=hL _ _ _ hC3 E3;cases pend with
          |none=>exact fin
          |some ex=>
            cases ex with
            |norm=>exact wpIn_skip fin
            |ret=>exact wpIn_ret fin
            |exit id=>exact wpIn_exit fin
            |goto t=>exact wpIn_goto fin
        ·rw[hst]at e';cases e'
       ·cases e'
      ·cases e'
    ·cases e'
def chkRs(P:Program)(vars:List Nat):List ResultVar→List RV→Bool
  |[],[]=>true
  |.tmp t::rs,.t s::qs=>Nat.beq t s&&vars.contains t&&chkRs P vars rs qs
  |.cell a t::rs,.c s n ia::qs=>Nat.beq a s&&vars.contains a&&sizeIs P t n&&aggIs P t ia&&chkRs P vars rs qs
  |_,_=>false
/-- a function's body; with a deferred call, or without -/
def chkB0(P:Program)(G:Nat)(vars:List Nat)(n:Nat)(b:IC)(c:Code):Bool:=
  match b with
  |.wd b=>chkC P ⟨G,vars,n,true⟩ b c
  |b=>chkC P ⟨G,vars,n,false⟩ b c
def chkFn(P:Program)(G:Nat)(f:Nat)(fn:IFn):Bool:=
  match P.funcs[f]? with
  |some fd=>(match fd.body with
    |some c=>chkB0 P G fn.vars fd.ntmps fn.body c&& !fn.vars.contains DSL&&Nat.blt f YB&&(List.range fn.nargs).all (fun i=>fn.vars.contains i)&&Nat.ble fn.nargs fd.ntmps&&chkRs P fn.vars fd.results.toList fn.results&& !(fd.name== "runtime.NumGoroutine")
    |none=>false)
  |none=>false
def FnsOK(P:Program)(G:Nat)(F:T IFn):Prop:=∀f fn,F.get f=some fn→chkFn P G f fn=true
theorem bindA_cons(v:V)(vs:List V)(i:Nat)(en:T V):bindA (v::vs) i en=bindA vs (i+1) (en.set i v):=rfl
theorem bindA_get:∀(vs:List V)(i:Nat)(en:T V)(s:Nat),(bindA vs i en).get s=if i≤s∧s<i+vs.length then vs[s-i]? else en.get s
  |[],i,en,s=>by rw[if_neg (by simp)];rfl
  |v::vs,i,en,s=>by
    rw[bindA_cons,bindA_get vs (i+1),T.get_set];simp only[List.length_cons];by_cases c:s=i
    ·subst c;rw[if_neg (by omega),if_pos rfl,if_pos (by omega)];simp
    ·by_cases d:i+1≤s∧s<i+1+vs.length
     ·rw[if_pos d,if_pos (by omega),show s-i=(s-(i+1))+1 by omega];simp
     ·rw[if_neg d,if_neg c,if_neg (by omega)]
section
variable {P : Program} {C : Cx} {m : M} {h : Heap} {w : World} {env : T V} {a : Act}
def resOf(tmps:Array Value):ResultVar→Sem Value
  |.tmp t=>pure (tmps.getD t undef)
  |.cell a t=>do loadVar t (←asAddr (tmps.getD a undef))
theorem results_sound(H:HRel m h w)(hE:ERel C m env a):∀(rs:List ResultVar)(qs:List RV)(vs:List V),chkRs P C.vars rs qs=true→evRs env h qs=some vs→
    ∃xs,(rs.mapM (resOf a.tmps)).run P w=.ok xs w∧VsRel m vs xs
  |[],[],vs,_,e=>by cases e;exact⟨[],rfl,rfl⟩
  |[],_::_,_,hc,_=>by simp[chkRs]at hc
  |r::rs,[],_,hc,_=>by cases r<;>simp[chkRs]at hc
  |.tmp t::rs,.c _ _ _::qs,_,hc,_=>by simp[chkRs]at hc
  |.cell _ _::rs,.t _::qs,_,hc,_=>by simp[chkRs]at hc
  |.tmp t::rs,.t s::qs,vs,hc,e=>by
    simp only[chkRs,Bool.and_eq_true]at hc;have:=Nat.eq_of_beq_eq_true hc.1.1;subst this;simp only[evRs,evR]at e;cases h1:env.get t with
    |none=>rw[h1]at e;cases e
    |some v=>
      rw[h1]at e;simp only[]at e;cases h2:evRs env h qs with
      |none=>rw[h2]at e;cases e
      |some us=>
        rw[h2]at e;cases e;obtain⟨xs,hx,rx⟩:=results_sound H hE rs qs us hc.2 h2;refine⟨a.tmps.getD t undef::xs,?_,⟨_,_,rfl,hE.var hc.1.2 h1,rx⟩⟩;simp only[List.mapM_cons,Sem.run_bind,resOf,Sem.run_pure,Result.andThen_ok,hx]
  |.cell ad t::rs,.c s n ia::qs,vs,hc,e=>by
    simp only[chkRs,Bool.and_eq_true]at hc;obtain⟨⟨⟨⟨h0,hva⟩,hsz⟩,hag⟩,hc⟩:=hc;have:=Nat.eq_of_beq_eq_true h0;subst this;simp only[evRs,evR]at e;cases h1:env.get ad with
    |none=>rw[h1]at e;cases e
    |some p=>
      rw[h1]at e;simp only[]at e;cases h3:aload h n ia p with
      |none=>rw[h3]at e;cases e
      |some v=>
        rw[h3]at e;simp only[]at e;cases h2:evRs env h qs with
        |none=>rw[h2]at e;cases e
        |some us=>
          rw[h2]at e;cases e;obtain⟨xs,hx,rx⟩:=results_sound H hE rs qs us hc h2;have hp:=hE.var hva h1;unfold aload at h3;split at h3
          ·rename_i b k;obtain⟨loc,hm,hpe⟩:=hp;cases ia
           ·simp only[cond_false]at h3;obtain⟨x,hx1,rx1⟩:=H.load1 hm h3;refine⟨x::xs,?_,⟨_,_,rfl,rx1,rx⟩⟩;simp only[List.mapM_cons,Sem.run_bind,resOf,hpe,asAddr,loadVar,run_agg hag,Sem.run_pure,Result.andThen_ok,Bool.false_eq_true,if_false,run_load,hx1,hx]
           ·simp only[cond_true]at h3;cases h4:hload h b k n with
            |none=>rw[h4]at h3;cases h3
            |some ws=>
              rw[h4]at h3;cases h3;obtain⟨ys,hy,ry,_⟩:=H.load P hm h4;refine⟨.agg (List.toArray ys)::xs,?_,⟨_,_,rfl,⟨_,rfl,ry⟩,rx⟩⟩;simp only[List.mapM_cons,Sem.run_bind,resOf,hpe,asAddr,loadVar,run_agg hag,run_size hsz,Sem.run_pure,Result.andThen_ok,if_true,hy,hx]
          ·cases h3
theorem results_run{fd:Func}{tmps:Array Value}{xs:List Value}(hx:(fd.results.toList.mapM (resOf tmps)).run P w=.ok xs w):
    (results fd tmps).run P w=.ok (if h:xs.length=1 then xs[0]else .tuple (List.toArray xs)) w:=by
  have e:results fd tmps=(do let vs ←fd.results.mapM (resOf tmps);pure (if h:vs.size=1 then vs[0]else .tuple vs)):=by
    unfold results;congr 1
  rw[e];simp only[Sem.run_bind,Array.mapM_eq_mapM_toList,Sem.run_map,hx,Result.andThen_ok,Sem.run_pure];congr 1
end
section
variable {P : Program} {F : Fence} {n : Nat}
theorem leaves_kind{fn:Func}{tmps:Array Value}{R:Ending→World→Prop}:∀(ds:List Deferred)(u:FrameMode)(w:World)(fr:Frame)
    (cs:List Frame),fr.mode=u→fr.defers=ds→fr.tmps=tmps→P.funcs[fr.fn]? =some fn→F.fn fr.fn→F.room (cs.length+1+n)→LeavesInM F n P fn tmps R ds u w→
    ∃e w' fr',R e w'∧ComesIn (Machine.fenced P F) P (lone fr cs w) (lone fr' cs w') e∧fr'.fn=fr.fn∧fr'.kind=fr.kind∧fr'.going P w' e:=by
  intro ds;induction ds with
  |nil=>
    intro u w fr cs hu hd ht hf hb hroom h;cases u with
    |run=>exact h.elim
    |returning=>
      obtain⟨v,hr,hR⟩:=h;exact⟨.returned v,w,fr,hR,StepsIn.refl _,rfl,rfl,hu,hd,fn,hf,ht▸hr⟩
    |panicking chain=>exact⟨.panicked chain,w,fr,h,StepsIn.refl _,rfl,rfl,hu,hd,fn,hf⟩
  |cons d ds ih=>
    intro u w fr cs hu hd ht hf hb hroom h;obtain⟨hrun,h⟩:=h;rcases h with⟨r,w',htar,htake,hrest⟩|⟨hn,fv,cap,f,args,htar,hinv,hlead,hFf,hcall⟩
    ·have h1:=step_collected (cs:=cs) (hu▸hrun) hd htar htake;have i1:(lone fr cs w).fenced P F:=fenced_out hb hroom (hu▸hrun) hd (fun g hg=>by rw[htar]at hg;simp[Target.leads]at hg);obtain⟨e',w'',fr',hR',hs',hfn',hl'⟩:=ih u w' {fr with defers:=[]++ds} cs hu rfl ht hf hb hroom hrest;exact⟨e',w'',fr',hR',ComesIn.of_steps (.one i1 h1) hs',hfn',hl'⟩
    ·have h1:=step_defer (cs:=cs) (hu▸hrun) hd htar hinv;have i1:(lone fr cs w).fenced P F:=fenced_out hb hroom (hu▸hrun) hd hlead;have hroom':F.room (({fr with defers:=ds}::cs).length+1+(n-1)):=Fence.room_enter hroom hn;obtain⟨e,u',w',frX,hR,hsteps,hkX,hfX,hgo⟩:=hcall {fr with defers:=ds} cs hu hroom';cases e with
     |outgrown=>exact⟨.outgrown,w',fr,hR,Outgrown.of_steps (.one h1) hsteps,rfl,rfl,trivial⟩
     |returned v=>
       have i2:(lone frX ({{fr with defers:=ds}with mode:=u'}::cs) w').fenced P F:=fenced_going (n:=n-1) (hfX▸hFf) hroom' hgo;have h2:=step_going_returned (c:={{fr with defers:=ds}with mode:=u'}) (cs:=cs) hkX hgo;obtain⟨e',w'',fr',hR',hs',hfn',hl'⟩:=ih (settle u') w' {{{fr with defers:=ds}with mode:=u'}with mode:=settle u'} cs rfl rfl ht hf hb hroom hR;exact⟨e',w'',fr',hR',ComesIn.of_steps (.head i1 h1 (StepsIn.trans hsteps (.one i2 h2))) hs',hfn',hl'⟩
     |panicked chain=>
       have i2:(lone frX ({{fr with defers:=ds}with mode:=u'}::cs) w').fenced P F:=fenced_going (n:=n-1) (hfX▸hFf) hroom' hgo;have h2:=step_going_panicked (c:={{fr with defers:=ds}with mode:=u'}) (cs:=cs) hgo;obtain⟨e',w'',fr',hR',hs',hfn',hl'⟩:=ih (raised u' chain) w' {{{fr with defers:=ds}with mode:=u'}with mode:=raised u' chain} cs rfl rfl ht hf hb hroom hR;exact⟨e',w'',fr',hR',ComesIn.of_steps (.head i1 h1 (StepsIn.trans hsteps (.one i2 h2))) hs',hfn',hl'⟩
theorem callsDIn_of_wp_marks{f:FuncId}{fn:Func}{c:Code}{args:Array Value}{u:FrameMode}{w:World}{R:Ending→World→Prop}
    (hf:P.funcs[f]? =some fn) (hb:fn.body=some c) (hF:F.fn f)
    (h:c.wpIn F n P (bodyPostM F n P fn R) {tmps:=args++Array.replicate (fn.ntmps-args.size) undef,defers:=[]} w) (hro:F.round=none:=by rfl):
    CallsDIn F n P f args u w fun e u' w'=>u'=u∧R e w':=by
  refine⟨hF,fun c₀ cs hu hr=>?_⟩;let b:Frame:={(default:Frame)with fn:=f,kind:=.deferred,roundOf:=none};have henter:Frame.enter P f args .deferred=
      b.atR {tmps:=args++Array.replicate (fn.ntmps-args.size) undef,defers:=[]} [.code c]:=by
    simp[Frame.enter,Frame.atR,hf,hb,b]
  have hc:({c₀ with mode:=u}:Frame)=c₀:=by subst hu;rfl
  obtain⟨e,a',w',hq,harr⟩:=h b [] (c₀::cs) hro.symm hF hr;rw[←henter]at harr;cases e with
  |normal=>
    obtain⟨e',w'',fr',hR,hs,hfn,hk,hl⟩:=leaves_kind a'.defers .returning w' {b.atR a' []with mode:=.returning} (c₀::cs) rfl rfl rfl hf hF hr hq;exact⟨e',u,w'',fr',⟨rfl,hR⟩,(by rw[hc];exact ComesIn.of_steps (StepsIn.trans harr (.one (fenced_calm (fr:=b.atR a' []) hF hr rfl) (stepR_end rfl))) hs),hk,hfn,hl⟩
  |ret=>
    obtain⟨todo,hs₀⟩:=harr.1 rfl;obtain⟨e',w'',fr',hR,hs,hfn,hk,hl⟩:=leaves_kind a'.defers .returning w' {b.atR a' todo with mode:=.returning} (c₀::cs) rfl rfl rfl hf hF hr hq;exact⟨e',u,w'',fr',⟨rfl,hR⟩,(by rw[hc];exact ComesIn.of_steps hs₀ hs),hk,hfn,hl⟩
  |panic chain=>
    obtain⟨todo,hs₀⟩:=harr;obtain⟨e',w'',fr',hR,hs,hfn,hk,hl⟩:=leaves_kind a'.defers (.panicking chain) w' {b.atR a' todo with mode:=.panicking chain} (c₀::cs) rfl rfl rfl hf hF hr hq;exact⟨e',u,w'',fr',⟨rfl,hR⟩,(by rw[hc];exact ComesIn.of_steps hs₀ hs),hk,hfn,hl⟩
  |exit id=>exact hq.elim
  |goto l=>exact hq.elim
  |outgrown=>exact⟨.outgrown,u,w',b,⟨rfl,hq⟩,harr.resolve_left (by simp[b]),rfl,rfl,trivial⟩
end
/-- marks and deferred calls -/
theorem leaves_ds{P:Program}{G:Nat}{call:CallF}(hcall:CallsOK P (LOK P G) G call){fd:Func}{tmps:Array Value}{R:Ending→World→Prop}{B:Nat}{m0:M}{h0:Heap}{w0:World}(hB:w0.heap.size≤B):
    ∀(ds:List Deferred)(vs:List V)(m:M)(h:Heap)(w:World)(h1:Heap),DsL B m w ds vs→HRel m h w→Glob (LOK P G) G m→Ext m0 h0 w0 m h w→evDs call vs h=some h1→
    (∀m' w',HRel m' h1 w'→Ext m0 h0 w0 m' h1 w'→Le m m'→LeavesInM Fence.wide 0 P fd tmps R [] .returning w')→LeavesInM Fence.wide 0 P fd tmps R ds .returning w
  |[],vs,m,h,w,h1,hM,H,hG,E,e,hr=>by
    have hM:vs=[]:=hM;subst hM;cases e;exact hr m w H E (fun _ _ x=>x)
  |d::ds,vs,m,h,w,h1,.inl ⟨⟨r,q1,q2,q3,q4,q5⟩,t⟩,H,hG,E,e,hr=>
    ⟨by simp,.inl ⟨r,_,by rw[q1],run_takeDeferred q3,leaves_ds hcall hB ds vs m h _ h1 (t.put q5) (H.putOff q4 _) hG (E.putOff (by omega) _) e hr⟩⟩
  |d::ds,vs,m,h,w,h1,.inr ⟨v,vs',hvs,⟨f,first,caps,args,A,C',hv,hfy,hd,ra,rc⟩,t⟩,H,hG,E,e,hr=>by
    subst hvs;subst hv;unfold evDs at e;split at e
    ·rename_i u h2 hcl;obtain⟨hf,hcc⟩:=(hcall f _ _ u h2 hcl).1 hfy;have hcd:=(hcc m w _ (VsRel.append ra rc) H hG).2 .returning;refine⟨by simp,.inr ⟨fun q=>absurd q (by simp[Fence.wide]),.func f,List.toArray C',f,List.toArray (A++C'),by rw[hd],?_,fun _ _=>trivial,?_⟩⟩
     ·rw[hd];simp only[invoke];rw[show(List.toArray A++List.toArray C')=List.toArray (A++C') by simp];exact run_callFunc hf
     ·refine CallsDIn.mono hcd ?_;rintro en u' w2 ⟨rfl,x,m2,rfl,rx,H2,E2⟩;have:=leaves_ds hcall hB (fd:=fd) (tmps:=tmps) (R:=R) ds vs' m2 h2 w2 h1 (t.ext E2) H2 (hG.ext E2) (E.trans E2) e (fun m' w' a b c=>hr m' w' a b (fun p l q=>c p l (E2.le p l q)));simpa[settle]using this
    ·cases e
theorem bindP_rel{C:Cx}{m:M}(hV:C.vars.contains DSL=false):∀(ps:List Nat)(vs:List V)(env:T V)(tm:Array Value)(xs:List Value),VsRel m vs xs→vs.length=ps.length→tm.size=C.N→(∀p∈ps,C.vars.contains p=true∧p<C.N)→
    (∀s v,env.get s=some v→s=DSL∨(C.vars.contains s=true∧VRel m v (tm.getD s undef)))→
    ERel C m (bindP ps vs env) {tmps:=(ps.zip xs).foldl (fun t (p:Nat×Value)=>t.setIfInBounds p.1 p.2) tm,defers:=[]}
  |[],[],env,tm,xs,_,_,hs,_,he=>⟨hs,he,hV⟩
  |[],_::_,_,_,_,_,hl,_,_,_=>by simp at hl
  |_::_,[],_,_,_,_,hl,_,_,_=>by simp at hl
  |p::ps,v::vs,env,tm,_,⟨x,xs,rfl,rx,rxs⟩,hl,hs,hp,he=>by
    have hpp:=hp p (by simp);simp only[bindP,List.zip_cons_cons,List.foldl_cons];refine bindP_rel hV ps vs (env.set p v) (tm.setIfInBounds p x) xs rxs (by simpa using hl) (by simpa using hs) (fun q hq=>hp q (by simp[hq])) (fun s u hu=>?_);rw[T.get_set]at hu;by_cases c:s=p
    ·rw[if_pos c]at hu;cases hu;subst c;refine .inr ⟨hpp.1,?_⟩;rw[Array.getD_eq_getD_getElem?,Array.getElem?_setIfInBounds_self_of_lt (by omega)];exact rx
    ·rw[if_neg c]at hu;refine(he s u hu).imp id fun q=>⟨q.1,?_⟩;rw[Array.getD_eq_getD_getElem?,Array.getElem?_setIfInBounds_ne (Ne.symm c),←Array.getD_eq_getD_getElem?];exact q.2
theorem jumpOf_post{P:Program}{l:Nat}{R:Ending→World→Prop}{ex:Ex}{a:Act}{w:World}
    (h:∀jump,(jump=match ex with|.norm=>none|ex=>some (jumpOf ex))→∃v w',(Instr.endRound l jump).run P w=.ok v w'∧R (.returned v) w'):roundPost P l R (exitOf ex) a w:=by
  cases ex<;>exact h _ rfl
/-- a round -/
theorem round_sound{P:Program}{G:Nat}{call:CallF}(hcall:CallsOK P (LOK P G) G call){b:Nat}{vs:List V}{h h':Heap}{v:V}(e:evY (evC call) b vs h=some (v,h')):
    ∀m w (args:List Value) loc,m b=some loc→VsRel m vs args→HRel m h w→Glob (LOK P G) G m→
    ∃r:Loop,w.heap[loc.block]? =some (.loop r)∧args.length=r.params.size∧
      RoundIn Fence.wide 0 P loc.block r.fn ((r.params.zip (List.toArray args)).foldl (fun tmps (t,a)=>tmps.setIfInBounds t a) r.tmps) r.assign r.body w (Post m h w v h'):=by
  intro m w args loc hm hv H hG;unfold evY at e;split at e
  ·rename_i ps as bd env hb;cases hl:Nat.beq vs.length ps.length
   ·rw[hl]at e;cases e
   ·rw[hl]at e;simp only[cond_true]at e;have hlen:=Nat.eq_of_beq_eq_true hl;obtain⟨g,hg,g1,g2,g3,hr,henv⟩:=H.loop hm hb;subst g1;subst g2;subst g3;obtain⟨k1,k2,k3,k4,k5,k6⟩:=hG.2 b loc g hm hg;have hpsz:g.r.params.size=g.ps.length:=by rw[←k3];simp
    refine⟨_,hr,by rw[hv.length,hlen];exact hpsz.symm,?_⟩;split at e
    ·rename_i env1 h1 hev1;split at e
     ·rename_i ps1 as1 bd1 en1 p1 hb1;split at e
      ·rename_i ex env2 h2 hev2;split at e
       ·rename_i ps2 as2 bd2 en2 st2 pe2 hb2;have hzip:((g.r.params.zip (List.toArray args)).foldl (fun tmps (t,a)=>tmps.setIfInBounds t a) g.r.tmps)=(g.ps.zip args).foldl (fun t (p:Nat×Value)=>t.setIfInBounds p.1 p.2) g.r.tmps:=by
          rw[←Array.foldl_toList,Array.toList_zip,k3]
        have hE:=bindP_rel (C:=⟨G,g.vars,g.N,false⟩) k6 g.ps vs env g.r.tmps args hv hlen k4 k5 henv;refine roundIn_of_wpIn (F:=Fence.wide) trivial ?_;have hC0:Cir (LOK P G) ⟨G,g.vars,g.N,false⟩ (some loc.block) 0 m h w (bindP g.ps vs env) {tmps:=(g.ps.zip args).foldl (fun t (p:Nat×Value)=>t.setIfInBounds p.1 p.2) g.r.tmps,defers:=[]}:=
          ⟨hG,hE,H,⟨fun q=>absurd q (by simp),fun _=>rfl⟩,Nat.zero_le _,fun l hl=>by cases hl;exact⟨_,hr⟩⟩
        rw[hzip];refine code_sound (C:=⟨G,g.vars,g.N,false⟩) (ro:=some loc.block) (B:=0) hcall (fun _ x=>x) (fun q=>by cases q) g.as g.r.assign k1 _ _ h m _ w .norm env1 h1 hC0 hev1 (fun a1 w1 m1 hC1 E1=>?_);have hm1:=E1.le _ _ hm;obtain⟨g',hg',_,_,_,hr1,_⟩:=hC1.h.loop hm1 hb1;rw[hg]at hg';cases hg';obtain⟨H1',E1'⟩:=hC1.h.setL hm1 hb1 hg 1 p1;refine⟨_,run_beginRound hr1 rfl,?_⟩;have hC1':Cir (LOK P G) ⟨G,g.vars,g.N,false⟩ (some loc.block) 0 m1 (hset h1 b (.lp ps1 as1 bd1 en1 1 p1)) (w1.putObj loc.block (.loop {g.r with state:=lst 1,pending:=p1.map jumpOf})) env1 a1:=
          ⟨hC1.g,hC1.e,H1',hC1.d.ext E1',Nat.zero_le _,hC1.r.ext E1'⟩
        refine code_sound (C:=⟨G,g.vars,g.N,false⟩) (ro:=some loc.block) (B:=0) hcall (fun _ x=>x) (fun q=>by cases q) g.bd g.r.body k2 _ _ _ m1 a1 _ ex env2 h2 hC1' hev2 (fun a2 w2 m2 hC2 E2=>?_);have hm2:=E2.le _ _ hm1;obtain⟨g',hg',_,_,_,hr2,_⟩:=hC2.h.loop hm2 hb2;rw[hg]at hg';cases hg';refine jumpOf_post fun jump hj=>?_;have hend:=run_endRound (P:=P) jump hr2;refine⟨_,_,hend,?_⟩;cases ex with
        |norm=>
          simp only[Option.some.injEq,Prod.mk.injEq]at e;obtain⟨rfl,rfl⟩:=e;obtain⟨H3,E3⟩:=hC2.h.setL hm2 hb2 hg 0 none;subst hj;exact⟨_,m2,rfl,rfl,H3,(E1.trans E1').trans (E2.trans E3)⟩
        |ret=>
          simp only[Option.some.injEq,Prod.mk.injEq]at e;obtain⟨rfl,rfl⟩:=e;obtain⟨H3,E3⟩:=hC2.h.setL hm2 hb2 hg 2 (some .ret);subst hj;exact⟨_,m2,rfl,rfl,H3,(E1.trans E1').trans (E2.trans E3)⟩
        |exit id=>
          simp only[Option.some.injEq,Prod.mk.injEq]at e;obtain⟨rfl,rfl⟩:=e;obtain⟨H3,E3⟩:=hC2.h.setL hm2 hb2 hg 2 (some (.exit id));subst hj;exact⟨_,m2,rfl,rfl,H3,(E1.trans E1').trans (E2.trans E3)⟩
        |goto t=>
          simp only[Option.some.injEq,Prod.mk.injEq]at e;obtain⟨rfl,rfl⟩:=e;obtain⟨H3,E3⟩:=hC2.h.setL hm2 hb2 hg 2 (some (.goto t));subst hj;exact⟨_,m2,rfl,rfl,H3,(E1.trans E1').trans (E2.trans E3)⟩
       ·cases e
      ·cases e
     ·cases e
    ·cases e
  ·cases e
theorem ERel.mono{C:Cx}{m m':M}(l:Le m m'){env:T V}{a:Act}(hE:ERel C m env a):ERel C m' env a:=
  ⟨hE.1,fun s v hs=>(hE.2.1 s v hs).imp id fun q=>⟨q.1,VRel.mono l _ _ q.2⟩,hE.2.2⟩
/-- a function's end: its deferred call, and its results -/
theorem end_sound{P:Program}{G:Nat}{call:CallF}(hcall:CallsOK P (LOK P G) G call){C:Cx}(hCG:C.G=G){fd:Func}{rvs:List RV}(hrs:chkRs P C.vars fd.results.toList rvs=true){m m':M}{h h0 h1 h':Heap}{w w':World}{env:T V}{a:Act}{v:V}{ex:Ex}
    (hC:Cir (LOK P G) C none w.heap.size m' h0 w' env a) (E:Ext m h w m' h0 w') (hend:(C.df=true→evEnd call ex env h0=.ok ex env h1)∧(C.df=false→h1=h0))
    (hres:(match evRs env h1 rvs with
      |some [v]=>fV v fun v=>some (v,h1)
      |some vs=>some (.tup vs,h1)
      |none=>none)=some (v,h')):LeavesInM Fence.wide 0 P fd a.tmps (Post m h w v h') a.defers .returning w':=by
  have fin:∀mf wf,HRel mf h1 wf→Ext m h w mf h1 wf→ERel C mf env a→LeavesInM Fence.wide 0 P fd a.tmps (Post m h w v h') [] .returning wf:=by
    intro mf wf Hf Ef hEf;cases hr:evRs env h1 rvs with
    |none=>rw[hr]at hres;cases hres
    |some us=>
      rw[hr]at hres;obtain⟨xs,hx,rx⟩:=results_sound (P:=P) Hf hEf _ _ _ hrs hr;refine⟨_,results_run hx,_,mf,rfl,?_⟩;have hxl:=rx.length;match us,hres,rx,hxl with
      |[],hres,rx,hxl=>
        simp only[Option.some.injEq,Prod.mk.injEq]at hres;obtain⟨rfl,rfl⟩:=hres;rw[dif_neg (by simp at hxl;simp[hxl])];exact⟨⟨xs,rfl,rx⟩,Hf,Ef⟩
      |[u],hres,rx,hxl=>
        simp only[fV_eq,Option.some.injEq,Prod.mk.injEq]at hres;obtain⟨rfl,rfl⟩:=hres;rw[dif_pos (by simpa using hxl)];obtain⟨x,rfl,r1⟩:=one_of rx;exact⟨r1,Hf,Ef⟩
      |u1::u2::us,hres,rx,hxl=>
        simp only[Option.some.injEq,Prod.mk.injEq]at hres;obtain⟨rfl,rfl⟩:=hres;rw[dif_neg (by simp at hxl;omega)];exact⟨⟨xs,rfl,rx⟩,Hf,Ef⟩
  have hD:=hC.d;cases hdf:C.df
  ·have hh:=hend.2 hdf;rw[hh]at fin;exact leaves_ds hcall (Nat.le_refl _) a.defers [] m' h0 w' h0 (hD.2 hdf) hC.h (hCG▸hC.g) E rfl (fun mf wf Hf Ef l=>fin mf wf Hf Ef (hC.e.mono l))
  ·have he:=hend.1 hdf;obtain⟨l,hl,D⟩:=hD.1 hdf;unfold evEnd at he;rw[hl]at he;simp only[]at he;split at he
   ·rename_i h2 hds;simp only[Out.ok.injEq,true_and]at he;subst he;exact leaves_ds hcall (Nat.le_refl _) a.defers l m' h0 w' _ D hC.h (hCG▸hC.g) E hds (fun mf wf Hf Ef q=>fin mf wf Hf Ef (hC.e.mono q))
   ·cases he
theorem evF_sound{P:Program}{G:Nat}{F:T IFn}{ov:CallF}(hov:CallsOK P (LOK P G) G ov)(hF:FnsOK P G F):∀n,CallsOK P (LOK P G) G (evF ov F n):=by
  intro n;induction n with
  |zero=>intro f vs h v h' e;cases e
  |succ n ih=>
    intro f vs h v h' e;have e':(match F.get f with
      |some fn=>bif Nat.beq vs.length fn.nargs then
          (match evC (evF ov F n) fn.body (bindA vs 0 .e) h with
            |.ok .norm env h=>(match evRs env h fn.results with
              |some [v]=>fV v fun v=>some (v,h)
              |some vs=>some (.tup vs,h)
              |none=>none)
            |.ok .ret env h=>(match evRs env h fn.results with
              |some [v]=>fV v fun v=>some (v,h)
              |some vs=>some (.tup vs,h)
              |none=>none)
            |_=>none)
        else none
      |none=>bif Nat.ble YB f then evY (evC (evF ov F n)) (f-YB) vs h else ov f vs h)=some (v,h'):=e
    cases hg:F.get f with
    |none=>
      rw[hg]at e';simp only[]at e';cases hy:Nat.ble YB f
      ·rw[hy]at e';simp only[cond_false]at e';refine⟨(hov f vs h v h' e').1,fun q=>?_⟩;have:=Nat.ble_eq_true_of_le q;rw[hy]at this;cases this
      ·rw[hy]at e';simp only[cond_true]at e';have hle:=Nat.le_of_ble_eq_true hy;exact⟨fun q=>absurd q (by omega),fun _=>round_sound ih e'⟩
    |some fn=>
      rw[hg]at e';simp only[]at e';cases hl:Nat.beq vs.length fn.nargs
      ·rw[hl]at e';cases e'
      ·rw[hl]at e';simp only[cond_true]at e';have hlen:=Nat.eq_of_beq_eq_true hl;have hc:=hF f fn hg;unfold chkFn at hc;split at hc
       ·rename_i fd hfd;split at hc
        ·rename_i c hbody;simp only[Bool.and_eq_true,Bool.not_eq_true',Nat.blt_eq]at hc;obtain⟨⟨⟨⟨⟨⟨hcc,hvd⟩,hfy⟩,hargs⟩,hnt⟩,hrs⟩,hname⟩:=hc;have hnt:=Nat.le_of_ble_eq_true hnt;refine⟨fun _=>⟨⟨fd,hfd,by rw[hbody];rfl,hname⟩,fun m w args hv H hG=>?_⟩,fun q=>absurd q (by omega)⟩;have hal:=hv.length;have hwp:c.wpIn Fence.wide 0 P (bodyPostM Fence.wide 0 P fd (Post m h w v h')) {tmps:=List.toArray args++Array.replicate (fd.ntmps-(List.toArray args).size) undef,defers:=[]} w:=by
           have hE:∀df,ERel ⟨G,fn.vars,fd.ntmps,df⟩ m (bindA vs 0 .e) {tmps:=List.toArray args++Array.replicate (fd.ntmps-(List.toArray args).size) undef,defers:=[]}:=by
             intro df;refine⟨by simp;omega,fun s u hs=>?_,hvd⟩;rw[bindA_get]at hs;split at hs
             ·rename_i hr;simp only[Nat.sub_zero,Nat.zero_add]at hs hr;obtain⟨x,hx,rx⟩:=hv.get s u hs;refine .inr ⟨List.all_eq_true.1 hargs s (by simp;omega),?_⟩;have:(List.toArray args++Array.replicate (fd.ntmps-(List.toArray args).size) undef).getD s undef=x:=by
                rw[Array.getD_eq_getD_getElem?,Array.getElem?_append_left (by simp;omega)];simp[hx]
              rw[this];exact rx
             ·cases hs
           have hDF:(bindA vs 0 .e).get DSL=none:=by
             cases q:(bindA vs 0 .e).get DSL with
             |none=>rfl
             |some u=>
               rw[bindA_get]at q;split at q
               ·rename_i hr;have:=List.all_eq_true.1 hargs DSL (by simp;omega);rw[hvd]at this;cases this
               ·cases q
           have hC:∀df,Cir (LOK P G) ⟨G,fn.vars,fd.ntmps,df⟩ none w.heap.size m h w (bindA vs 0 .e) {tmps:=List.toArray args++Array.replicate (fd.ntmps-(List.toArray args).size) undef,defers:=[]}:=
             fun df=>⟨hG,hE df,H,⟨fun _=>⟨[],by rw[hDF];rfl,rfl⟩,fun _=>rfl⟩,Nat.le_refl _,fun l hl=>by cases hl⟩
           have fin:∀ex env1 h1,(ex=.norm∨ex=.ret)→evC (evF ov F n) fn.body (bindA vs 0 .e) h=.ok ex env1 h1→
               (match evRs env1 h1 fn.results with
                 |some [v]=>fV v fun v=>some (v,h1)
                 |some vs=>some (.tup vs,h1)
                 |none=>none)=some (v,h')→
               c.wpIn Fence.wide 0 P (bodyPostM Fence.wide 0 P fd (Post m h w v h')) {tmps:=List.toArray args++Array.replicate (fd.ntmps-(List.toArray args).size) undef,defers:=[]} w:=by
             intro ex env1 h1 hex hev hres;unfold chkB0 at hcc;split at hcc
             ·rename_i b hb;rw[hb]at hev;have hev':(match evC (evF ov F n) b (bindA vs 0 .e) h with
                |.ok .norm env h=>evEnd (evF ov F n) .norm env h
                |.ok .ret env h=>evEnd (evF ov F n) .ret env h
                |_=>.fail)=Out.ok ex env1 h1:=hev
              have hh:∃h0,evC (evF ov F n) b (bindA vs 0 .e) h=.ok ex env1 h0∧evEnd (evF ov F n) ex env1 h0=.ok ex env1 h1:=by
                have key:∀ex0 env0 h0,evEnd (evF ov F n) ex0 env0 h0=.ok ex env1 h1→ex0=ex∧env0=env1:=by
                  intro ex0 env0 h0 q;unfold evEnd at q;split at q
                  ·split at q
                   ·cases q;exact⟨rfl,rfl⟩
                   ·cases q
                  ·cases q
                split at hev'
                ·rename_i env0 h0 q;obtain⟨rfl,rfl⟩:=key _ _ _ hev';exact⟨h0,q,hev'⟩
                ·rename_i env0 h0 q;obtain⟨rfl,rfl⟩:=key _ _ _ hev';exact⟨h0,q,hev'⟩
                ·cases hev'
              obtain⟨h0,q1,q2⟩:=hh;refine code_sound (C:=⟨G,fn.vars,fd.ntmps,true⟩) (ro:=none) ih (fun _ x=>x) (fun _=>rfl) b c hcc _ _ h m _ w ex env1 h0 (hC true) q1 (fun a' w' m' hC' E'=>?_);have:=end_sound (C:=⟨G,fn.vars,fd.ntmps,true⟩) ih rfl hrs hC' E' ⟨fun _=>q2,fun q=>by cases q⟩ hres;rcases hex with rfl|rfl
              ·exact this
              ·exact this
             ·refine code_sound (C:=⟨G,fn.vars,fd.ntmps,false⟩) (ro:=none) ih (fun _ x=>x) (fun _=>rfl) fn.body c hcc _ _ h m _ w ex env1 h1 (hC false) hev (fun a' w' m' hC' E'=>?_);have:=end_sound (C:=⟨G,fn.vars,fd.ntmps,false⟩) (ex:=ex) ih rfl hrs hC' E' ⟨fun q=>(by cases q),fun _=>rfl⟩ hres;rcases hex with rfl|rfl
              ·exact this
              ·exact this
           split at e'
           ·rename_i env1 h1 hev;exact fin .norm env1 h1 (.inl rfl) hev e'
           ·rename_i env1 h1 hev;exact fin .ret env1 h1 (.inr rfl) hev e'
           ·cases e'
         exact⟨callsIn_wide.1 (callsIn_of_wp_marks hfd hbody trivial hwp),fun u=>callsDIn_of_wp_marks hfd hbody trivial hwp⟩
        ·cases hc
       ·cases hc
def Evt(c:Nat→CallF)(f:Nat)(vs:List V)(h:Heap)(r:V×Heap):Prop:=∃n,∀m,n≤m→c m f vs h=some r
theorem Evt.uniq{c:Nat→CallF}{f:Nat}{vs:List V}{h:Heap}{r s:V×Heap}(a:Evt c f vs h r)(b:Evt c f vs h s):r=s:=by
  obtain⟨n,hn⟩:=a;obtain⟨k,hk⟩:=b;have e:=hn (max n k) (Nat.le_max_left _ _);rw[hk (max n k) (Nat.le_max_right _ _)]at e;cases e;rfl
section
variable {c : Nat → CallF} {L : CallF}
def Lim(c:Nat→CallF)(L:CallF):Prop:=∀f vs h r,L f vs h=some r→Evt c f vs h r
theorem evOp_lim(hL:Lim c L){loc:List V}{env:T V}{h:Heap}{o:IOp}{r:V×Heap}(e:evOp L loc env h o=some r):
    ∃n,∀m,n≤m→evOp (c m) loc env h o=some r:=by
  cases o;case cf f xs=>
    simp only[evOp]at e⊢;cases hx:evOs loc env xs with
    |none=>rw[hx]at e;cases e
    |some vs=>rw[hx]at e;exact hL _ _ _ _ e
  case cv x xs=>
    simp only[evOp]at e⊢;split at e
    ·split at e
     ·rename_i f first caps h1 _ vs h2
      cases hb:Nat.blt f YB
      ·rw[hb]at e;cases e
      ·rw[hb]at e;simp only[cond_true]at e⊢;exact hL _ _ _ _ e
     ·cases e
    ·split at e
     ·exact hL _ _ _ _ e
     ·cases e
    ·cases e
  case iv tab x xs=>
    simp only[evOp]at e⊢;split at e
    ·split at e
     ·split at e
      ·rename_i f hf;cases hb:Nat.blt f YB
       ·rw[hb]at e;cases e
       ·rw[hb]at e;simp only[cond_true]at e⊢;exact hL _ _ _ _ e
      ·cases e
     ·cases e
    ·cases e
  all_goals exact⟨0,fun m _=>e⟩
theorem evDs_lim(hL:Lim c L):∀(l:List V)(h:Heap){h':Heap},evDs L l h=some h'→∃n,∀m,n≤m→evDs (c m) l h=some h'
  |[],h,_,e=>⟨0,fun _ _=>e⟩
  |x::l,h,h',e=>by
    unfold evDs at e;split at e
    ·rename_i q;cases q
    ·rename_i f first caps args l' _ q
     cases q;split at e
     ·rename_i u h1 hc;obtain⟨n,hn⟩:=hL _ _ _ _ hc;obtain⟨k,hk⟩:=evDs_lim hL _ _ e;refine⟨max n k,fun m hm=>?_⟩;unfold evDs;rw[hn m (by omega)];exact hk m (by omega)
     ·cases e
    ·cases e
theorem evSteps_lim(hL:Lim c L):∀(l:List IStep)(loc:List V)(env:T V)(h:Heap){e:Ex}{env':T V}{h':Heap},evSteps L l loc env h=.ok e env' h'→
    ∃n,∀m,n≤m→evSteps (c m) l loc env h=.ok e env' h':=by
  intro l;induction l with
  |nil=>intro loc env h e env' h' x;exact⟨0,fun m _=>x⟩
  |cons s l ih=>
    intro loc env h e env' h' x;rw[evSteps_cons]at x;simp only[evSteps_cons];split at x
    ·rename_i hg;split at x
     ·rename_i v h1 ho;obtain⟨n,hn⟩:=evOp_lim hL ho;obtain⟨k,hk⟩:=ih _ _ _ x;refine⟨max n k,fun m hm=>?_⟩;rw[hn m (by omega)];exact hk m (by omega)
     ·cases x
    ·exact ih _ _ _ x
    ·cases x
theorem guess_indep(a b:CallF)(loc:List V)(env:T V)(h:Heap)(s:IStep):guess a loc env h s=guess b loc env h s:=by
  obtain⟨g,o,d⟩:=s;cases o<;>rfl
theorem lay_indep(a b:CallF)(env:T V)(late:List Nat):∀(l:List IStep)(i:Nat)(loc:List V)(h:Heap),lay a env late l i loc h=lay b env late l i loc h:=by
  intro l;induction l with
  |nil=>intro i loc h;rfl
  |cons s l ih=>
    intro i loc h;simp only[lay,guess_indep a b,ih]
theorem evDr_nil(call:CallF)(env:T V)(loc:List V)(hs:List Heap)(h:Heap):evDr call env [] loc hs h=some (loc,hs):=rfl
theorem evDr_cons2(call:CallF)(env:T V)(s:DS)(l:List DS)(loc:List V)(hs:List Heap)(h:Heap):evDr call env (s::l) loc hs h=
      match s.2 with
      |some (u,c)=>bif lateOK loc env s.1.op u c then evDr call env l (u::loc) hs h else none
      |none=>
        match evG loc env s.1.gd with
        |some true=>match evOp call loc env h s.1.op with
          |some (v,h')=>bif eff s.1.op then evDr call env l (v::loc) (h'::hs) h' else evDr call env l (v::loc) hs h
          |none=>none
        |some false=>bif eff s.1.op then evDr call env l (.tup []::loc) (h::hs) h else evDr call env l (.tup []::loc) hs h
        |none=>none:=by
  show(match s.2 with
      |some (u,c)=>bif lateOK loc env s.1.op u c then evDr call env l (u::loc) hs h else none
      |none=>
        match evG loc env s.1.gd with
        |some true=>match evOp call loc env h s.1.op with
          |some (v,h')=>fV v fun v=>bif eff s.1.op then evDr call env l (v::loc) (h'::hs) h' else evDr call env l (v::loc) hs h
          |none=>none
        |some false=>bif eff s.1.op then evDr call env l (.tup []::loc) (h::hs) h else evDr call env l (.tup []::loc) hs h
        |none=>none)=_
  simp only[fV_eq]
theorem evDr_lim(hL:Lim c L)(env:T V):∀(l:List DS)(loc:List V)(hs:List Heap)(h:Heap){r:List V×List Heap},evDr L env l loc hs h=some r→
    ∃n,∀m,n≤m→evDr (c m) env l loc hs h=some r:=by
  intro l;induction l with
  |nil=>intro loc hs h r x;exact⟨0,fun m _=>x⟩
  |cons s l ih=>
    intro loc hs h r x;rw[evDr_cons2]at x;simp only[evDr_cons2];obtain⟨s1,s2⟩:=s;cases s2 with
    |some uc=>
      obtain⟨u,cs⟩:=uc;simp only[]at x⊢;cases hl:lateOK loc env s1.op u cs
      ·rw[hl]at x;cases x
      ·rw[hl]at x;simp only[cond_true]at x⊢;exact ih _ _ _ x
    |none=>
      simp only[]at x⊢;split at x
      ·rename_i hg;split at x
       ·rename_i v h1 ho;obtain⟨n,hn⟩:=evOp_lim hL ho;cases he:eff s1.op
        ·rw[he]at x;simp only[cond_false]at x;obtain⟨k,hk⟩:=ih _ _ _ x;refine⟨max n k,fun m hm=>?_⟩;rw[hn m (by omega)];simp only[cond_false];exact hk m (by omega)
        ·rw[he]at x;simp only[cond_true]at x;obtain⟨k,hk⟩:=ih _ _ _ x;refine⟨max n k,fun m hm=>?_⟩;rw[hn m (by omega)];simp only[cond_true];exact hk m (by omega)
       ·cases x
      ·rename_i hg;cases he:eff s1.op
       ·rw[he]at x;simp only[cond_false]at x⊢;exact ih _ _ _ x
       ·rw[he]at x;simp only[cond_true]at x⊢;exact ih _ _ _ x
      ·cases x
theorem rdAll_lim(hL:Lim c L)(loc:List V)(env:T V)(o:IOp)(v:V):∀(hs:List Heap),rdAll L loc env o v hs=true→
    ∃n,∀m,n≤m→rdAll (c m) loc env o v hs=true:=by
  intro hs;induction hs with
  |nil=>intro _;exact⟨0,fun _ _=>rfl⟩
  |cons h hs ih=>
    intro x;simp only[rdAll,Bool.and_eq_true]at x⊢;obtain⟨a,b⟩:=x;obtain⟨k,hk⟩:=ih b;split at a
    ·rename_i u _ ho;obtain⟨n,hn⟩:=evOp_lim hL ho;refine⟨max n k,fun m hm=>⟨?_,hk m (by omega)⟩⟩;rw[hn m (by omega)];exact a
    ·cases a
theorem rdOK_lim(hL:Lim c L)(env:T V)(l:List IStep)(loc:List V)(hs:List Heap)(r:Nat×Nat×Nat)(x:rdOK L env l loc hs r=true):
    ∃n,∀m,n≤m→rdOK (c m) env l loc hs r=true:=by
  obtain⟨i,lo,hi⟩:=r;simp only[rdOK]at x⊢;split at x
  ·rename_i s v loc' _ _;split at x
   ·rename_i hg;obtain⟨n,hn⟩:=rdAll_lim hL _ _ _ _ _ x;exact⟨n,fun m hm=>hn m hm⟩
   ·rename_i hg;exact⟨0,fun m _=>rfl⟩
  ·cases x
theorem all_lim(hL:Lim c L)(env:T V)(l:List IStep)(loc:List V)(hs:List Heap):∀(rs:List (Nat×Nat×Nat)),rs.all (rdOK L env l loc hs)=true→
    ∃n,∀m,n≤m→rs.all (rdOK (c m) env l loc hs)=true:=by
  intro rs;induction rs with
  |nil=>intro _;exact⟨0,fun _ _=>rfl⟩
  |cons r rs ih=>
    intro x;simp only[List.all_cons,Bool.and_eq_true]at x⊢;obtain⟨n,hn⟩:=rdOK_lim hL _ _ _ _ _ x.1;obtain⟨k,hk⟩:=ih x.2;exact⟨max n k,fun m hm=>⟨hn m (by omega),hk m (by omega)⟩⟩
theorem evD_lim(hL:Lim c L){l:List IStep}{late:List Nat}{reads:List (Nat×Nat×Nat)}{sets:List (Nat×Nat)}{env:T V}{h:Heap}{e:Ex}{env':T V}{h':Heap}
    (x:evD L l late reads sets env h=.ok e env' h'):∃n,∀m,n≤m→evD (c m) l late reads sets env h=.ok e env' h':=by
  unfold evD at x⊢;simp only[lay_indep _ L];split at x
  ·cases x
  ·rename_i dl h1 hl;split at x
   ·rename_i loc hs hd;obtain⟨n,hn⟩:=evDr_lim hL _ _ _ _ _ hd;cases ha:reads.all (rdOK L env l loc hs)
    ·rw[ha]at x;cases x
    ·rw[ha]at x;obtain⟨k,hk⟩:=all_lim hL _ _ _ _ _ ha;refine⟨max n k,fun m hm=>?_⟩;rw[hn m (by omega)];simp only[];rw[hk m (by omega)];exact x
   ·cases x
/-- a stretch of code in the limit -/
def BLim(b:T V→Heap→Out)(bs:Nat→T V→Heap→Out):Prop:=∀env h e env' h',b env h=.ok e env' h'→∃n,∀m,n≤m→bs m env h=.ok e env' h'
theorem dbl_lim{b:T V→Heap→Out}{bs:Nat→T V→Heap→Out}(hb:BLim b bs)(k:Nat):BLim (dbl b k) (fun m=>dbl (bs m) k):=by
  induction k with
  |zero=>exact hb
  |succ k ih=>
    intro env h e env' h' x;have eq:∀(f:T V→Heap→Out),dbl f (k+1) env h=match dbl f k env h with
      |.ok .norm env h=>dbl f k env h
      |r=>r:=fun _=>rfl
    rw[eq]at x;simp only[eq];split at x
    ·rename_i env1 h1 h2;obtain⟨n,hn⟩:=ih _ _ _ _ _ h2;obtain⟨j,hj⟩:=ih _ _ _ _ _ x;refine⟨max n j,fun m hm=>?_⟩;have a:=hn m (by omega);have b:=hj m (by omega);simp only[]at a b;rw[a];exact b
    ·rename_i h2;obtain⟨n,hn⟩:=ih _ _ _ _ _ x;refine⟨n,fun m hm=>?_⟩;have a:=hn m hm;simp only[]at a;rw[a];cases e with
     |norm=>exact absurd x (h2 env' h')
     |_=>rfl
theorem evC_lim(hL:Lim c L):∀(k:IC),BLim (evC L k) (fun m=>evC (c m) k):=by
  intro k;induction k with
  |skip=>intro env h e env' h' x;exact⟨0,fun m _=>x⟩
  |ops l=>intro env h e env' h' x;exact evSteps_lim hL l [] env h x
  |seq a b iha ihb=>
    intro env h e env' h' x;have eq:∀f:CallF,evC f (.seq a b) env h=match evC f a env h with
      |.ok .norm env h=>evC f b env h
      |r=>r:=fun _=>rfl
    rw[eq]at x;simp only[eq];split at x
    ·rename_i env1 h1 h2;obtain⟨n,hn⟩:=iha _ _ _ _ _ h2;obtain⟨j,hj⟩:=ihb _ _ _ _ _ x;refine⟨max n j,fun m hm=>?_⟩;have a:=hn m (by omega);have b:=hj m (by omega);simp only[]at a b;rw[a];exact b
    ·rename_i h2;obtain⟨n,hn⟩:=iha _ _ _ _ _ x;refine⟨n,fun m hm=>?_⟩;have a:=hn m hm;simp only[]at a;rw[a];cases e with
     |norm=>exact absurd x (h2 env' h')
     |_=>rfl
  |cond o a b iha ihb=>
    intro env h e env' h' x;have eq:∀f:CallF,evC f (.cond o a b) env h=match evO [] env o with
      |some (.bool t)=>bif t then evC f a env h else evC f b env h
      |_=>.fail:=fun _=>rfl
    rw[eq]at x;simp only[eq];split at x
    ·rename_i t ht;cases t
     ·exact ihb _ _ _ _ _ x
     ·exact iha _ _ _ _ _ x
    ·cases x
  |block id a iha=>
    intro env h e env' h' x;have eq:∀f:CallF,evC f (.block id a) env h=match evC f a env h with
      |.ok (.exit i) env h=>bif Nat.beq i id then .ok .norm env h else .ok (.exit i) env h
      |r=>r:=fun _=>rfl
    rw[eq]at x;simp only[eq];split at x
    ·rename_i i env1 h1 h2;obtain⟨n,hn⟩:=iha _ _ _ _ _ h2;refine⟨n,fun m hm=>?_⟩;have a:=hn m hm;simp only[]at a;rw[a];exact x
    ·rename_i h2;obtain⟨n,hn⟩:=iha _ _ _ _ _ x;refine⟨n,fun m hm=>?_⟩;have a:=hn m hm;simp only[]at a;rw[a];cases e with
     |exit i=>exact absurd x (h2 i env' h')
     |_=>rfl
  |loop a iha=>
    intro env h e env' h' x;have eq:∀f:CallF,evC f (.loop a) env h=match dbl (evC f a) 48 env h with
      |.ok .norm _ _=>.fail
      |r=>r:=fun _=>rfl
    rw[eq]at x;simp only[eq];split at x
    ·cases x
    ·rename_i h2;obtain⟨n,hn⟩:=dbl_lim iha 48 _ _ _ _ _ x;refine⟨n,fun m hm=>?_⟩;have a:=hn m hm;simp only[]at a;rw[a];cases e with
     |norm=>exact absurd x (h2 env' h')
     |_=>rfl
  |exit i=>intro env h e env' h' x;exact⟨0,fun m _=>x⟩
  |ret=>intro env h e env' h' x;exact⟨0,fun m _=>x⟩
  |scope a l r iha ihr=>
    intro env h e env' h' x;have eq:∀f:CallF,evC f (.scope a l r) env h=match evC f a env h with
      |.ok (.goto i) env h=>bif Nat.beq i l then
          (match dbl (fun env h=>match evC f r env h with
              |.ok (.goto i) env h=>bif Nat.beq i l then .ok .norm env h else .ok (.goto i) env h
              |.ok .norm env h=>.ok (.goto l) env h
              |r=>r) 48 env h with
            |.ok .norm _ _=>.fail
            |.ok (.goto i) env h=>bif Nat.beq i l then .ok .norm env h else .fail
            |r=>r)
        else .fail
      |r=>r:=fun _=>rfl
    have hin:BLim (fun env h=>match evC L r env h with
              |.ok (.goto i) env h=>bif Nat.beq i l then .ok .norm env h else .ok (.goto i) env h
              |.ok .norm env h=>.ok (.goto l) env h
              |r=>r) (fun m env h=>match evC (c m) r env h with
              |.ok (.goto i) env h=>bif Nat.beq i l then .ok .norm env h else .ok (.goto i) env h
              |.ok .norm env h=>.ok (.goto l) env h
              |r=>r):=by
      intro env h e env' h' y;simp only[]at y⊢;split at y
      ·rename_i i env1 h1 h2;obtain⟨n,hn⟩:=ihr _ _ _ _ _ h2;refine⟨n,fun m hm=>?_⟩;have a:=hn m hm;simp only[]at a;rw[a];exact y
      ·rename_i env1 h1 h2;obtain⟨n,hn⟩:=ihr _ _ _ _ _ h2;refine⟨n,fun m hm=>?_⟩;have a:=hn m hm;simp only[]at a;rw[a];exact y
      ·rename_i h2 h3;obtain⟨n,hn⟩:=ihr _ _ _ _ _ y;refine⟨n,fun m hm=>?_⟩;have a:=hn m hm;simp only[]at a;rw[a];cases e with
       |norm=>exact absurd y (h3 env' h')
       |goto i=>exact absurd y (h2 i env' h')
       |_=>rfl
    rw[eq]at x;simp only[eq];split at x
    ·rename_i i env1 h1 h2;obtain⟨n,hn⟩:=iha _ _ _ _ _ h2;cases hb:Nat.beq i l
     ·rw[hb]at x;cases x
     ·rw[hb]at x;simp only[cond_true]at x;split at x
      ·cases x
      ·rename_i j env2 h3 h4;obtain⟨k,hk⟩:=dbl_lim hin 48 _ _ _ _ _ h4;refine⟨max n k,fun m hm=>?_⟩;have a:=hn m (by omega);have b:=hk m (by omega);simp only[]at a b;rw[a];simp only[hb,cond_true];rw[b];exact x
      ·rename_i h3 h4;obtain⟨k,hk⟩:=dbl_lim hin 48 _ _ _ _ _ x;refine⟨max n k,fun m hm=>?_⟩;have a:=hn m (by omega);have b:=hk m (by omega);simp only[]at a b;rw[a];simp only[hb,cond_true];rw[b];cases e with
       |norm=>exact absurd x (h3 env' h')
       |goto i=>exact absurd x (h4 i env' h')
       |_=>rfl
    ·rename_i h2;obtain⟨n,hn⟩:=iha _ _ _ _ _ x;refine⟨n,fun m hm=>?_⟩;have a:=hn m hm;simp only[]at a;rw[a];cases e with
     |goto i=>exact absurd x (h2 i env' h')
     |_=>rfl
  |goto l=>intro env h e env' h' x;exact⟨0,fun m _=>x⟩
  |dops l late B R reads sets=>intro env h e env' h' x;exact evD_lim hL x
  |bad=>intro env h e env' h' x;cases x
  |rf g ps as bd iha ihb=>
    intro env h e env' h' x;have eq:∀f:CallF,evC f (.rf g ps as bd) env h=match evO [] env g with
      |some (.func (.func f0) first caps)=>bif Nat.blt f0 YB then
          (match f f0 (first++[.yld h.next]++caps) (hnew h (.lp ps as bd env 0 none))with
            |some (_,h2)=>(match h2.bl.get h.next with
              |some (.lp _ _ _ _ st pend)=>bif Nat.beq st 1 then .fail else .ok (match pend with|some ex=>ex|none=>.norm) env (hset h2 h.next .dead)
              |_=>.fail)
            |none=>.fail)
        else .fail
      |_=>.fail:=fun _=>rfl
    rw[eq]at x;simp only[eq];split at x
    ·rename_i f0 first caps hg
     cases hb:Nat.blt f0 YB
     ·rw[hb]at x;cases x
     ·rw[hb]at x;simp only[cond_true]at x⊢;split at x
      ·rename_i u h2 hc;obtain⟨n,hn⟩:=hL _ _ _ _ hc;refine⟨n,fun m hm=>?_⟩;rw[hn m hm];exact x
      ·cases x
    ·cases x
  |wd a iha=>
    intro env h e env' h' x;have eq:∀f:CallF,evC f (.wd a) env h=match evC f a env h with
      |.ok .norm env h=>evEnd f .norm env h
      |.ok .ret env h=>evEnd f .ret env h
      |_=>.fail:=fun _=>rfl
    rw[eq]at x;simp only[eq];have fin:∀ex env1 h1,evEnd L ex env1 h1=.ok e env' h'→∃n,∀m,n≤m→evEnd (c m) ex env1 h1=.ok e env' h':=by
      intro ex env1 h1 q;unfold evEnd at q⊢;split at q
      ·split at q
       ·rename_i hds;obtain⟨n,hn⟩:=evDs_lim hL _ _ hds;refine⟨n,fun m hm=>?_⟩;rw[hn m hm];exact q
       ·cases q
      ·cases q
    split at x
    ·rename_i env1 h1 h2;obtain⟨n,hn⟩:=iha _ _ _ _ _ h2;obtain⟨j,hj⟩:=fin _ _ _ x;refine⟨max n j,fun m hm=>?_⟩;have a:=hn m (by omega);simp only[]at a;rw[a];exact hj m (by omega)
    ·rename_i env1 h1 h2;obtain⟨n,hn⟩:=iha _ _ _ _ _ h2;obtain⟨j,hj⟩:=fin _ _ _ x;refine⟨max n j,fun m hm=>?_⟩;have a:=hn m (by omega);simp only[]at a;rw[a];exact hj m (by omega)
    ·cases x
theorem evY_lim(hL:Lim c L){b:Nat}{vs:List V}{h:Heap}{r:V×Heap}(e:evY (evC L) b vs h=some r):∃n,∀m,n≤m→evY (evC (c m)) b vs h=some r:=by
  unfold evY at e⊢;split at e
  ·rename_i ps as bd env hb;cases hl:Nat.beq vs.length ps.length
   ·rw[hl]at e;cases e
   ·rw[hl]at e;simp only[cond_true,hb,hl]at e⊢;split at e
    ·rename_i env1 h1 hev;obtain⟨n,hn⟩:=evC_lim hL as _ _ _ _ _ hev;split at e
     ·rename_i ps1 as1 bd1 en1 p1 hb1;split at e
      ·rename_i ex env2 h2 hev2;obtain⟨j,hj⟩:=evC_lim hL bd _ _ _ _ _ hev2;refine⟨max n j,fun m hm=>?_⟩;have a:=hn m (by omega);have b:=hj m (by omega);simp only[]at a b;rw[a];simp only[hb1];rw[b];exact e
      ·cases e
     ·cases e
    ·cases e
  ·cases e
end
open Classical in
/-- the evaluator, whatever its depth -/
noncomputable def ev(ov:CallF)(F:T IFn):CallF:=fun f vs h=>
  if x:∃r,Evt (evF ov F) f vs h r then some (Classical.choose x)else none
theorem ev_evt{ov:CallF}{F:T IFn}:Lim (evF ov F) (ev ov F):=by
  intro f vs h r e;unfold ev at e;split at e
  ·rename_i x;cases e;exact Classical.choose_spec x
  ·cases e
theorem evt_ev{ov:CallF}{F:T IFn}{f:Nat}{vs:List V}{h:Heap}{r:V×Heap}(e:Evt (evF ov F) f vs h r):ev ov F f vs h=some r:=by
  have x:∃r,Evt (evF ov F) f vs h r:=⟨r,e⟩;unfold ev;rw[dif_pos x];exact congrArg some ((Classical.choose_spec x).uniq e)
theorem ev_sound{P:Program}{G:Nat}{F:T IFn}{ov:CallF}(hov:CallsOK P (LOK P G) G ov)(hF:FnsOK P G F):CallsOK P (LOK P G) G (ev ov F):=by
  intro f vs h v h' e;obtain⟨n,hn⟩:=ev_evt _ _ _ _ e;exact evF_sound hov hF n f vs h v h' (hn n (Nat.le_refl n))
def packV:List V→V
  |[v]=>v
  |vs=>.tup vs
theorem ev_body{ov:CallF}{F:T IFn}{f:Nat}{fn:IFn}{vs:List V}{h h':Heap}{e:Ex}{env:T V}{rs:List V}(hf:F.get f=some fn)(hn:Nat.beq vs.length fn.nargs=true)
    (hb:evC (ev ov F) fn.body (bindA vs 0 .e) h=.ok e env h') (he:e=.norm∨e=.ret) (hr:evRs env h' fn.results=some rs):ev ov F f vs h=some (packV rs,h'):=by
  refine evt_ev ?_;obtain⟨n,hn'⟩:=evC_lim ev_evt fn.body _ _ _ _ _ hb;refine⟨n+1,fun m hm=>?_⟩;obtain⟨k,rfl⟩:∃k,m=k+1:=⟨m-1,by omega⟩;have eq:evF ov F (k+1) f vs h=match F.get f with
      |some fn=>bif Nat.beq vs.length fn.nargs then
          (match evC (evF ov F k) fn.body (bindA vs 0 .e) h with
            |.ok .norm env h=>match evRs env h fn.results with
              |some [v]=>fV v fun v=>some (v,h)
              |some vs=>some (.tup vs,h)
              |none=>none
            |.ok .ret env h=>match evRs env h fn.results with
              |some [v]=>fV v fun v=>some (v,h)
              |some vs=>some (.tup vs,h)
              |none=>none
            |_=>none)
        else none
      |none=>bif Nat.ble YB f then evY (evC (evF ov F k)) (f-YB) vs h else ov f vs h:=rfl
  have hk:=hn' k (by omega);simp only[]at hk;have fin:(match evRs env h' fn.results with
              |some [v]=>fV v fun v=>some (v,h')
              |some vs=>some (.tup vs,h')
              |none=>none)=some (packV rs,h'):=by
    rw[hr];simp only[fV_eq];cases rs with
    |nil=>rfl
    |cons a t=>cases t with
      |nil=>rfl
      |cons b t=>rfl
  rw[eq,hf];simp only[hn,cond_true];rw[hk];rcases he with rfl|rfl<;>exact fin
theorem ev_ov{ov:CallF}{F:T IFn}{f:Nat}{vs:List V}{h:Heap}{r:V×Heap}(hf:F.get f=none)(hy:Nat.ble YB f=false)(e:ov f vs h=some r):ev ov F f vs h=some r:=by
  refine evt_ev ⟨1,fun m hm=>?_⟩;obtain⟨k,rfl⟩:∃k,m=k+1:=⟨m-1,by omega⟩;show(match F.get f with
      |some fn=>_
      |none=>bif Nat.ble YB f then _ else ov f vs h)=_
  rw[hf];simp only[hy,cond_false];exact e
theorem ev_yield{ov:CallF}{F:T IFn}{b:Nat}{vs:List V}{h:Heap}{r:V×Heap}(hf:F.get (YB+b)=none)(e:evY (evC (ev ov F)) b vs h=some r):ev ov F (YB+b) vs h=some r:=by
  obtain⟨n,hn⟩:=evY_lim ev_evt e;refine evt_ev ⟨n+1,fun m hm=>?_⟩;obtain⟨k,rfl⟩:∃k,m=k+1:=⟨m-1,by omega⟩;show(match F.get (YB+b)with
      |some fn=>_
      |none=>bif Nat.ble YB (YB+b)then evY (evC (evF ov F k)) (YB+b-YB) vs h else ov (YB+b) vs h)=_
  rw[hf];simp only[Nat.ble_eq_true_of_le (Nat.le_add_right YB b),cond_true,Nat.add_sub_cancel_left];exact hn k (by omega)
end Go.Ev
