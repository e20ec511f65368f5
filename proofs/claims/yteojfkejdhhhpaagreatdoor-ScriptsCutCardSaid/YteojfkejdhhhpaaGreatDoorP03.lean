/- An evaluator of the program, and contracts over it: EvZa to EvWa. -/
import Derived.Test.YteojfkejdhhhpaaGreatDoorP02
set_option linter.unusedSimpArgs false
set_option linter.unusedVariables false
set_option linter.constructorNameAsVariable false
set_option linter.unnecessarySimpa false
noncomputable section
namespace Go.Ev
variable {K : LG -> Prop}
section
variable {P : Program} {C : Cx} {call : aD} {ops : Array Oper} {dl : List DS} {l : List IStep} {late B R : List Nat} {reads : List (Nat × Nat × Nat)} {sets : List (Nat × Nat)}
theorem DI.guard{vals:List V}{Hs:List Heap}{m0 m:M}{h hk:Heap}{w0 w:World}{a0 a:Act}{L:Array Bool}{env:T V}(D:DI C ops dl env vals Hs m0 h w0 a0 L a w m hk){σ:Sg}{loc:List V}
 (hO:uK C m σ loc env a) {o:Oper} {s:Option (Opd×Bool)} (hc:An C σ ops o.guard s=true) {b:Bool} (e:evG loc env s=some b):Region.wanted o (yielded ops a.tmps)=b:=by
 unfold Region.wanted;unfold An at hc;split at hc
 ·rename_i hg;rw[hg];cases e;rfl
 ·rename_i j want x want' hg;rw[hg];simp only[Bool.and_eq_true,beq_iff_eq]at hc;obtain⟨rfl,hc⟩:=hc;split at hc
  ·rename_i d hd;simp only[Bool.and_eq_true,Nat.blt_eq]at hc;unfold evG at e;simp only[]at e;split at e
   ·rename_i c hx;cases e;have hr:=hO _ _ _ hc.2 hx;simp only[VRel,Act.eval]at hr;have hlt:d<a.tmps.size:=by rw[D.size];exact hc.1
    have:a.tmps[d]? =some (.bool c):=by
     rw[Array.getD_eq_getD_getElem?,Array.getElem?_eq_getElem hlt]at hr;rw[Array.getElem?_eq_getElem hlt];simpa using hr
    simp only[yielded,hd,Option.bind_some,this];cases c<;>cases want<;>rfl
   ·rename_i c hx;cases e;have hr:=hO _ _ _ hc.2 hx;simp only[VRel,Act.eval]at hr;obtain⟨c',hr,_⟩:=hr;have hlt:d<a.tmps.size:=by rw[D.size];exact hc.1
    have:a.tmps[d]? =some (.tuple c'.toArray):=by
     rw[Array.getD_eq_getD_getElem?,Array.getElem?_eq_getElem hlt]at hr;rw[Array.getElem?_eq_getElem hlt];simpa using hr
    simp only[yielded,hd,Option.bind_some,this];cases want<;>rfl
   ·cases e
  ·cases hc
 ·cases hc
theorem xf {n : Nat} {L : Array Bool} {i : Nat} (hi : i < n) (hL : L.size = n) (hni : ¬ dn L i) :
    ((List.range n).filter fun j => !(L.setIfInBounds i true).getD j false).length < ((List.range n).filter fun j => !L.getD j false).length := by
  have hsub : ∀ j ∈ List.range n, (!(L.setIfInBounds i true).getD j false) = true -> (!L.getD j false) = true := by
    intro j _ hj
    by_cases c : i = j
    · subst c
      have : (L.setIfInBounds i true).getD i false = true := (ga oM).2 (.inl rfl)
      rw [this] at hj; cases hj
    · rw [getD_set_ne false c] at hj; exact hj
  -- the two lists differ at i
  have key : ∀ (js : List Nat), (∀ j ∈ js, (!(L.setIfInBounds i true).getD j false) = true -> (!L.getD j false) = true) -> i ∈ js ->
      (js.filter fun j => !(L.setIfInBounds i true).getD j false).length < (js.filter fun j => !L.getD j false).length := by
    intro js
    induction js with
    | nil => intro _ h; simp at h
    | cons k js ih =>
      intro hs hm
      by_cases c : k = i
      · subst c
        have h1 : (L.setIfInBounds k true).getD k false = true := (ga oM).2 (.inl rfl)
        have h2 : L.getD k false = false := by simpa [dn] using hni
        have := pD js (p := fun j => !(L.setIfInBounds k true).getD j false) (q := fun j => !L.getD j false) (fun j hj => hs j (by simp [hj]))
        simp only [SD, h1, h2, Tp, Bool.not_false, QQ, if_false, if_true, QB]
        omega
      · have hm' : i ∈ js := by rcases Qy.1 hm with q | q; · exact absurd q.symm c
                                · exact q
        have ih' := ih (fun j hj => hs j (by simp [hj])) hm'
        have e1 : (L.setIfInBounds i true).getD k false = L.getD k false := getD_set_ne false (Sx c)
        simp only [SD, e1]
        split
        · simp only [QB]; omega
        · exact ih'
  exact key _ hsub (eV hi)
theorem yC{Z:Region.Mode}{e:Edge}(h:Region.binds .any e=true):Region.binds Z e=true:=by
 unfold Region.binds at h|-;split at h<;>simp_all
theorem Jc{U:Region.Mode}{L:Array Bool}{R:Nat->Nat}(J:pj U ops R=true)(hL:L.size=ops.size)(hr:Region.ready U ops L=[]):∀i,i<ops.size->dn L i:=by
 have key:∀r i,R i=r->i<ops.size->dn L i:=by
  intro r;induction r using Nat.strongRecOn with
  |_ r ih=>
   intro i ab Z;by_cases c:dn L i
   ·exact c
   ·exfalso;have hm:i∈Region.ready U ops L:=by
     rw[mem_ready];refine⟨?_,ops[i],QK Z,fun e he hb=>?_⟩
     ·have:L.getD i false=false:=by simpa[dn]using c
      rw[Rh,QK oM]at this|-;simpa using this
     ·have D:=dg J Z;rw[QK Z]at D;have I:=QM.1 D e (eV he);simp only[hb,Tp,SR,be,QJ]at I;exact ih (R e.on) oM e.on rfl I.2
    rw[hr]at hm;simp at hm
 exact fun i Z=>key (R i) i rfl Z
theorem zf{C:Cx}{ops:Array Oper}{n:Nat}{loc:List V}(hV:C.vars.contains DSL=false){sets0:List (Nat×Nat)}
 (hs:(sets0.all fun(p:Nat×Nat)=>Nat.blt p.2 ops.size&&C.vars.contains p.1&&(match(ops[p.2]?).bind (·.dst)with|some t=>Nat.beq t p.1|none=>false))=true):
 ∀(sets:List (Nat×Nat))(env env':T V),(∀p,p∈sets→p∈sets0)→hJ n loc sets env=some env'→env'.get DSL=env.get DSL
 |[],env,env',_,e=>by cases e;rfl
 |(t,i)::r,env,env',hi,e=>by
  simp only[hJ]at e;split at e
  ·rename_i u hu;rw[zf hV hs r _ _ (fun p hp=>hi p iX) e,T.get_set_ne];intro q;have:=List.all_eq_true.1 hs (t,i) (hi _ iS);simp only[Bool.and_eq_true]at this;rw[←q,hV]at this;simp at this
  ·cases e
def qQ(l:List IStep)(i:Nat):Bool:=(l.drop (i+1)).all fun s=> !eff s.op
def KU(call:aD)(l:List IStep)(late:List Nat)(reads:List (Nat×Nat×Nat))(env:T V)(h0:Heap)(i:Nat):Option (V×Heap):=
 match lay call env late l 0 [] h0 with
 |none=>none
 |some (dl,h)=>match gU call env dl [] [h] h with
  |some (loc,hs)=>bif reads.all (kZ call env l loc hs)then(match loc[l.length-i-1]?,hs with
   |some v,h'::_=>some (v,h')
   |_,_=>none)else none
  |none=>none
theorem qn{ro ip:Option Nat}{Q:Exit→Act→World→Prop}{env:T V}{h0:Heap}{m0:M}{a0:Act}{w0:World}
 (hopS:∀(m:M)(h h':Heap)(w:World)(σ:Sg)(loc:List V)(a:Act)(o:Oper)(i:Nat)(s:IStep)(v:V),Glob K C.G m→uK C m σ loc env a→HRel m h w→Ext m0 h0 w0 m h w→a.defers=a0.defers→l[i]? =some s→
  gA P C σ o s.op=true→aM call loc env h s.op=some (v,h')→(eff s.op=true→qQ l i=true→KU call l late reads env h0 i=some (v,h'))→
  ∀(K0:Act→World→Prop),(ip=some i∨∀x w' m',VRel m' v x→HRel m' h' w'→Ext m h w m' h' w'→K0 (a.put o.dst x) w')→o.wpIn (FR ro) 0 P a w K0 Q)
 (hip:∀p,ip=some p→p<ops.size∧late.contains p=false∧∃s,l[p]? =some s∧s.gd=none)
 (hc:FJ P C ops l late B R reads sets=true) {ex:Ex} {env':T V} {h':Heap} {id:Nat}
 (hG:Glob K C.G m0) (hE:ERel C m0 env a0) (H0:HRel m0 h0 w0) (e:evD call l late reads sets env h0=.ok ex env' h')
 (hL:ip=none→∀a' w' m',ex=.norm→ERel C m' env' a'→HRel m' h' w'→Ext m0 h0 w0 m' h' w'→a'.defers=a0.defers→env'.get DSL=env.get DSL→Q .normal a' w'):(Code.region id ops true).wpIn (FR ro) 0 P Q a0 w0:=by
 unfold FJ at hc;simp only[Bool.and_eq_true]at hc;obtain⟨⟨⟨⟨⟨hsz,hedge⟩,hB⟩,hds⟩,hone⟩,hchain⟩:=hc;have hsz:=Nat.eq_of_beq_eq_true hsz;unfold evD at e;split at e
 ·cases e
 rename_i dl h hlay;obtain⟨y1,y2,_,y4,y5,y6⟩:=Bu l 0 [] h0 dl h hlay;have hdl:=mu l 0 [] h0 dl h hlay;have heffm:=Fp (mr l 0 [] h0 dl h hlay);have hstart:Ext m0 h0 w0 m0 h w0:=⟨fun _ _ x=>x,fun _ _ a b=>by simp[a]at b,y4,fun p _ hp=>y5 p hp,Nat.le_refl _,fun _ _ _=>rfl,rfl,rfl,rfl,fun _ _ _ x=>x,fun _ _=>Kept.refl _ _ _,fun _ _ a b=>by simp[a]at b⟩;rw[heffm]at hchain;split at e
 ·rename_i loc hs hdr;cases hrd:reads.all (kZ call env l loc hs)
  ·rw[hrd]at e;cases e
  ·rw[hrd]at e;simp only[cond_true]at e;obtain⟨vals,hp,hcan,hloc,hhs⟩:=iZ dl [] [h] h loc hs hdr;obtain⟨hvl,hpl,hat⟩:=tU dl [] h vals hp hcan;have hvl':vals.length=ops.size:=oM
   split at e
   ·rename_i env1 h1 hs1 hset;simp only[Out.ok.injEq]at e;obtain⟨rfl,rfl,rfl⟩:=e
    -- the last heap
    have hlast:(h::hp)[fP dl dl.length]? =some h1:=by
     rw[←hpl];have:hp.reverse++[h]=(h::hp).reverse:=by simp
     rw[this]at hhs;have hh:(h::hp).reverse[0]? =some h1:=by rw[←hhs];rfl
     rw[List.getElem?_reverse iS]at hh;simpa using hh
    refine wpIn_region_draw fun t=>?_;have main:∀(md:Region.Mode)(R':Nat→Nat),pj md ops R'=true→∀(fuel:Nat)(L:Array Bool)(a:Act)(w:World),(∃m hk,DI C ops dl env vals (h::hp) m0 h0 w0 a0 L a w m hk)→(∀p,ip=some p→¬dn L p)→
     ((List.range ops.size).filter fun i=> !L.getD i false).length≤fuel→wpAnyIn (FR ro) 0 P md ops Q fuel L a w:=by
     intro md R' hrank;have fin:∀(L:Array Bool)(a:Act)(w:World),(∃m hk,DI C ops dl env vals (h::hp) m0 h0 w0 a0 L a w m hk)→(∀p,ip=some p→¬dn L p)→(∀i,i<ops.size→dn L i)→Q .normal a w:=by
      rintro L a w ⟨m,hk,D⟩ hnp hall;have hno:ip=none:=by
       cases hq:ip with
       |none=>rfl
       |some p=>exact absurd (hall p (hip p hq).1) (hnp p hq)
      have hcnt:cnt dl L=fP dl dl.length:=BS (Nat.le_refl _) (fun e he hlt=>hall e oM) (fun e he hge=>by
       obtain⟨s,hs,_⟩:=gL.1 he;have:=(List.getElem?_eq_some_iff.1 hs).1;omega)
      have hkk:=D.at_;rw[hcnt,hlast]at hkk;cases hkk;refine hL hno a w m rfl ⟨D.size,fun s v hs=>?_,hE.2.2⟩ D.rel D.ext D.defers (zf hE.2.2 (Bool.and_eq_true_iff.1 hds).2 sets env env1 (fun _ x=>x) hset);rcases uV sets env env1 hset s v hs with⟨i,hi,hv⟩|⟨hn,hv⟩
      ·have hsi:=List.all_eq_true.1 (Bool.and_eq_true_iff.1 hds).2 (s,i) hi;simp only[Bool.and_eq_true,Nat.blt_eq]at hsi;obtain⟨⟨hlt,hvar⟩,hd⟩:=hsi;refine .inr ⟨hvar,?_⟩;split at hd
       ·rename_i u hu;have:=Nat.eq_of_beq_eq_true hd;subst this;refine D.vals i v u (hall i hlt) ?_ hu;rw[hloc]at hv;rw[List.append_nil,List.getElem?_reverse oM]at hv;rw[←hv];congr 1;omega
       ·cases hd
      ·rcases hE.2.1 s v hv with q|⟨h2,h3⟩
       ·exact .inl q
       refine .inr ⟨h2,?_⟩;rw[D.old s (fun i hi hd=>by
        have hlt:i<ops.size:=by
         rcases Nat.lt_or_ge i ops.size with q|q
         ·exact q
         ·rw[Array.getElem?_eq_none q]at hd;cases hd
        have h4:=dg (Bool.and_eq_true_iff.1 hds).1 hlt;rw[hd]at h4;simp only[Bool.and_eq_true,Bool.or_eq_true]at h4;rcases h4.1.2 with q|q
        ·rw[h2]at q;simp at q
        ·exact hn i (eV q))]
       exact VRel.mono D.ext.le _ _ h3
     intro fuel;induction fuel with
     |zero=>
      intro L a w hD hnp hf;have hall:∀i,i<ops.size→dn L i:=by
       intro i hi;by_cases c:dn L i
       ·exact c
       ·exfalso;have:i∈((List.range ops.size).filter fun i=> !L.getD i false):=by
         rw[List.mem_filter];exact⟨by simpa using hi,by simpa[dn]using c⟩
        have:=List.length_pos_of_mem this;omega
      refine⟨?_,fin L a w hD hnp hall⟩;cases hr:Region.ready md ops L with
      |nil=>rfl
      |cons i r=>
       exfalso;have hm:i∈Region.ready md ops L:=by rw[hr];simp
       obtain⟨h2,o,h3,_⟩:=mem_ready.1 hm;have hi:=(Array.getElem?_eq_some_iff.1 h3).1;have:=hall i hi;unfold dn at this;obtain⟨m,hk,D⟩:=hD;rw[Array.getD_eq_getD_getElem?,Array.getElem?_eq_getElem (by rw[D.lsz];exact hi)]at this h2;simp at this h2;rw[this]at h2;cases h2
     |succ fuel ih=>
      intro L a w hD hnp hf;refine⟨fun hr=>?_,fun i hi=>?_⟩
      ·obtain⟨m,hk,D⟩:=hD;exact fin L a w ⟨m,hk,D⟩ hnp (Jc hrank D.lsz hr)
      ·obtain⟨m,hk,D⟩:=hD;obtain⟨hli,o,ho,hbin⟩:=mem_ready.1 hi;have hilt:=(Array.getElem?_eq_some_iff.1 ho).1;have hni:¬dn L i:=by
        unfold dn;rw[Array.getD_eq_getD_getElem?,Array.getElem?_eq_getElem (by rw[D.lsz];exact hilt)]at hli⊢;simp at hli⊢;exact hli
       have hed:=fun e he hb=>hbin e he (yC hb);have hO:=D.opds hG hE hB hvl' ho hni hed;have hG':=hG.ext D.ext;have hone_i:=dg hone hilt;have hlt':i<l.length:=oM
       rw[ho,List.getElem?_eq_getElem hlt']at hone_i;simp only[Bool.and_eq_true]at hone_i;obtain⟨⟨⟨hcg,hco⟩,hcr⟩,hcl⟩:=hone_i;have hltd:i<dl.length:=oM
       have hdi:=List.getElem?_eq_getElem hltd;obtain⟨v,hb,ha,hv,hhb,hrun,hef,hnef⟩:=hat i dl[i] hdi;have hfst:dl[i].1=l[i]:=by
        rcases y1 i l[i] (List.getElem?_eq_getElem hlt')with⟨_,q⟩|⟨_,u,c,q,_⟩
        ·exact congrArg Prod.fst (Option.some.inj (hdi.symm.trans q))
        ·exact congrArg Prod.fst (Option.some.inj (hdi.symm.trans q))
       have hunl:=xf hilt D.lsz hni;have hiL:i<L.size:=by rw[D.lsz];exact hilt
       have hnpi:ip≠some i→∀p,ip=some p→¬dn (L.setIfInBounds i true) p:=fun hne p hp' hd=>by
        rw[ga hiL]at hd;rcases hd with q|q
        ·subst q;exact hne hp'
        ·exact hnp p hp' q
       have go:ip≠some i→∀x w' m' hk',VRel m' v x→HRel m' hk' w'→Ext m hk w m' hk' w'→(h::hp)[cnt dl (L.setIfInBounds i true)]? =some hk'→
        wpAnyIn (FR ro) 0 P md ops Q fuel (L.setIfInBounds i true) (a.put o.dst x) w':=
        fun hne x w' m' hk' r H' E' hcn=>ih _ _ _ ⟨m',hk',D.next hds ho hni hed hv r H' E'.le (D.ext.trans E') hcn (D.unm_next hiL E')⟩ (hnpi hne) oM
       -- the effects that are done
       have heffcnt:eT dl[i]=true→cnt dl L=fP dl i∧cnt dl (L.setIfInBounds i true)=fP dl i+1:=by
        intro he;have hmem:=gL.2 ⟨dl[i],hdi,he⟩;have pair:∀p q,p∈dV dl→q∈dV dl→p<q→bef B q p=true:=by
         intro p q hp' hq' hlt;have:=List.all_eq_true.1 (List.all_eq_true.1 hchain p hp') q hq';have hb':Nat.blt p q=true:=by rw[Nat.blt_eq];exact hlt
         simpa[hb']using this
        have lt_of:∀p,p∈dV dl→p<ops.size:=by
         intro p hp';obtain⟨s,hs,_⟩:=gL.1 hp';have:=(List.getElem?_eq_some_iff.1 hs).1;omega
        have h1:=fun p hp' hlt=>jk hB D.closed i o ho hed p (pair p i hp' hmem hlt) (lt_of p hp');have h2:=fun p hp' hlt hd=>
         hni (jk hB D.closed p _ (Array.getElem?_eq_getElem (lt_of p hp')) (D.closed p _ (Array.getElem?_eq_getElem (lt_of p hp')) hd) i (pair i p hmem hp' hlt) hilt)
        refine⟨BS oM h1 (fun p hp' hle=>?_),?_⟩
        ·rcases Nat.lt_or_eq_of_le hle with q|q
         ·exact h2 p hp' q
         ·subst q;exact hni
        ·rw[←wq hdi he];refine BS oM (fun p hp' hlt=>?_) (fun p hp' hle hd=>?_)
         ·rw[ga hiL];by_cases c:p=i
          ·exact .inl c
          ·exact .inr (h1 p hp' oM)
         ·rw[ga hiL]at hd;rcases hd with q|q
          ·omega
          ·exact h2 p hp' oM q
       have hnoeff:eT dl[i]=false→cnt dl (L.setIfInBounds i true)=cnt dl L:=fun he=>
        BR (fun hm=>by obtain⟨s,hs,h2⟩:=gL.1 hm;rw[hdi]at hs;cases hs;rw[he]at h2;cases h2)
       unfold wpOpIn;rw[ho];simp only[];rcases hrun with⟨hlt1,hhab⟩|⟨hsn,hgt,hop⟩|⟨hsn,hgf,hvu,hha⟩
       ·
        rcases y1 i l[i] (List.getElem?_eq_getElem hlt')with⟨_,q⟩|⟨q0,u,c,q,hu2,hu3,hu4⟩
        ·obtain⟨c1,hc1,_⟩:=hlt1;rw[Option.some.inj (hdi.symm.trans q)]at hc1;cases hc1
        ·have hdu:=Option.some.inj (hdi.symm.trans q);obtain⟨c1,hc1,hlok⟩:=hlt1;rw[hdu]at hc1 hlok;simp only[Option.some.injEq,Prod.mk.injEq]at hc1;obtain⟨rfl,rfl⟩:=hc1;unfold cL at hlok;split at hlok;case h_2=>cases hlok
         rename_i c2 k2 hlc;simp only[Bool.and_eq_true]at hlok;have hc2:=ju _ _ hlok.1;have hu1:=wY _ _ hlok.2;subst hc2;rw[Nat.zero_add]at q0;have hne:ip≠some i:=fun hq=>by rw[(hip i hq).2.1]at q0;cases q0
         rw[q0]at hcl;have hgn:o.guard=none:=by simpa using hcl
         have hw:Region.wanted o (yielded ops a.tmps)=true:=by unfold Region.wanted;rw[hgn]
         rw[if_pos hw];obtain⟨b1,b2,b3⟩:=D.unm i l[i] u c (by rw[hdi,hdu]) hni;obtain⟨x,X,elem,hrun,hX,hval⟩:=HW (P:=P) hO hco hlc w;refine⟨fun _ _=>trivial,?_⟩;show o.uponIn (FR ro) 0 P a _ Q ((o.semAt ro a.eval).run P w);rw[Oper.semAt_eq ro a.eval o (fun c' hcc=>by simp only[gA,Bool.and_eq_true]at hco;rw[hcc]at hco;exact absurd hco.1 (by simp[Md])),hrun];have hes:eT dl[i]=false:=by rw[hdu];rfl
         have H':=D.rel.materialize (elem:=elem) b1 b2 hX;have hle:Le m (ir m (lid u) ⟨w.heap.size,0,X.size,none⟩):=by
          intro q l' hq;rw[aK]
          ·exact hq
          ·intro e';subst e';rw[b1]at hq;cases hq
         have E0:Ext m0 h0 w0 (ir m (lid u) ⟨w.heap.size,0,X.size,none⟩) hk (w.alloc (.cells X elem)):=by
          refine⟨fun p l' hp=>hle _ _ (D.ext.le _ _ hp),?_,D.ext.next,D.ext.phan,?_,?_,D.ext.os,D.ext.tape,D.ext.output,fun b i hb x=>D.ext.cov b i hb (Cov.new m _ _ rfl b i (Nat.lt_of_lt_of_le hb D.ext.size) x),fun b hb=>by
           have:=D.ext.size;rw[heap_alloc_old w _ _ oM];exact D.ext.out b hb,fun p l' hp hn0=>by
           by_cases e':p=lid u
           ·subst e';rw[aC]at hp;cases hp;rfl
           ·rw[aK _ _ e']at hp;exact D.ext.lps _ _ hp hn0⟩
          ·intro p l' hp hn0;by_cases e':p=lid u
           ·subst e';rw[aC]at hp;cases hp;exact⟨hu2,.inl D.ext.size⟩
           ·rw[aK _ _ e']at hp;exact D.ext.new _ _ hp hn0
          ·have:=D.ext.size;simp;omega
          ·intro b hb1 hb2;have:=D.ext.size;rw[heap_alloc_old w _ _ oM];exact D.ext.keep b hb1 hb2
         refine ih _ _ _ ⟨_,hk,D.next hds ho hni hed hv ?_ H' hle E0 (by rw[hnoeff hes];exact D.at_) ?_⟩ (hnpi hne) oM
         ·have e:=hval (lid u) (ir m (lid u) ⟨w.heap.size,0,X.size,none⟩) (aC _ _ _);rw[←hu1]at e;exact e
         ·intro j s' u' c' hj hnd;have hji:=fun e'=>hnd ((ga hiL).2 (.inl e'));obtain⟨g1,g2,g3⟩:=D.unm j s' u' c' hj (fun hd=>hnd ((ga hiL).2 (.inr hd)));have hne:lid u'≠lid u:=by
           rcases Nat.lt_or_gt_of_ne hji with q'|q'
           ·have:=y2 j i s' l[i] u' u _ _ q' hj (by rw[hdi,hdu]);omega
           ·have:=y2 i j l[i] s' u u' _ _ q' (by rw[hdi,hdu]) hj;omega
          exact⟨by rw[aK _ _ hne];exact g1,g2,g3⟩
       ·rw[hfst]at hgt hop;rw[if_pos (D.guard hO hcg hgt)];have hes:eT dl[i]=eff l[i].op:=by unfold eT;rw[hsn,hfst]
        cases he:eff l[i].op
        ·
         have hcn:=hnoeff (hes.trans he);have hop':aM call ((vals.take i).reverse++[]) env hk l[i].op=some (v,hk):=by
          have hcase:(∃k xs,l[i].op=.p k xs)∨OS l[i].op=true:=by
           cases hio:l[i].op with
           |p k xs=>exact .inl ⟨k,xs,rfl⟩
           |ld n ia x=>exact .inr rfl
           |b2s a=>exact .inr rfl
           |_=>rw[hio]at he;simp[eff]at he
          rcases hcase with⟨k,xs,hio⟩|hio
          ·rw[hio]at hop⊢;exact Fi hop hk
          ·have hro:Hi (pX late l 0) B reads i=true:=by rw[hio]at hcr;simpa using hcr
           obtain⟨r,hr,hr2⟩:=List.any_eq_true.1 hro;obtain⟨ri,lo,hi'⟩:=r;rw[heffm]at hr2;simp only[Bool.and_eq_true]at hr2;obtain⟨⟨q1,q2⟩,q3⟩:=hr2;have q1:=Nat.eq_of_beq_eq_true q1;subst q1;have q2:=Nat.le_of_ble_eq_true q2;have q3:=Nat.le_of_ble_eq_true q3;have lt_of:∀p,p∈dV dl→p<ops.size:=by
            intro p hp';obtain⟨s,hs,_⟩:=gL.1 hp';have:=(List.getElem?_eq_some_iff.1 hs).1;omega
           have c1:((dV dl).filter fun e=>bef B ri e).length≤cnt dl L:=pD _ (fun p hp' hb'=>jk hB D.closed ri o ho hed p hb' (lt_of p hp'));have c2:cnt dl L+((dV dl).filter fun e=>bef B e ri).length≤(dV dl).length:=mT _ (fun p hp' hd=>by
            cases hbb:bef B p ri
            ·rfl
            ·exact absurd (jk hB D.closed p _ (Array.getElem?_eq_getElem (lt_of p hp')) (D.closed p _ (Array.getElem?_eq_getElem (lt_of p hp')) hd) ri hbb hilt) hni)
           have hrk:=List.all_eq_true.1 hrd _ hr;unfold kZ at hrk;simp only[List.getElem?_eq_getElem hlt']at hrk;have hdrop:loc.drop (l.length-ri-1)=v::((vals.take ri).reverse++[]):=by
            rw[hloc];have hvr:=hv;have hrl:ri<vals.length:=oM
            have e1:vals.take (ri+1)=vals.take ri++[v]:=by
             rw[List.take_succ_eq_append_getElem hrl];rw[List.getElem?_eq_getElem hrl]at hvr;cases hvr;rfl
            have e2:(vals.reverse++[]).drop (l.length-ri-1)=(vals.take (ri+1)).reverse:=by
             rw[List.append_nil,List.drop_reverse];congr 2;omega
            rw[e2,e1];simp
           rw[hdrop]at hrk;simp only[hgt]at hrk;have hmem:hk∈(((h1::hs1).reverse.drop lo).take (hi'+1-lo)):=by
            have hrev:(h1::hs1).reverse=h::hp:=by rw[hhs];simp
            rw[hrev];have hget:=D.at_;have:((((h::hp).drop lo).take (hi'+1-lo)))[cnt dl L-lo]? =some hk:=by
             rw[List.getElem?_take,if_pos oM,List.getElem?_drop,(oM:lo+(cnt dl L-lo)=cnt dl L)];exact hget
            exact List.mem_of_getElem? this
           obtain⟨g',hg'⟩:=vj _ hrk hk hmem;have:=wj he hg';subst this;exact hg'
         have hpart:=hopS _ _ _ _ _ _ _ _ i _ _ hG' hO D.rel D.ext D.defers (List.getElem?_eq_getElem hlt') hco hop' (fun q=>by rw[he]at q;cases q) (wpAnyIn (FR ro) 0 P md ops Q fuel (L.setIfInBounds i true));by_cases hq:ip=some i
         ·exact hpart (.inl hq)
         refine hpart (.inr fun x w' m' r H' E'=>go hq x w' m' hk r H' E' ?_);rw[hcn];exact D.at_
        ·
         obtain⟨e1,e2⟩:=heffcnt (hes.trans he);have hkb:hk=hb:=by have:=D.at_;rw[e1,hhb]at this;cases this;rfl
         subst hkb;have hlk:qQ l i=true→KU call l late reads env h0 i=some (v,ha):=by
          intro q;have hz:(dl.drop (i+1)).filter eT=[]:=by
           rw[List.filter_eq_nil_iff];intro s hs;obtain⟨j,hj,hjs⟩:=List.getElem_of_mem hs;rw[List.getElem_drop]at hjs;have hjl:i+1+j<l.length:=by rw[List.length_drop]at hj;omega
           have hq:=List.all_eq_true.1 q l[i+1+j] (List.mem_of_getElem? (i:=j) (by rw[List.getElem?_drop,List.getElem?_eq_getElem hjl]));have hdj:dl[i+1+j]? =some s:=by rw[←hjs];exact List.getElem?_eq_getElem oM
           rcases y1 _ _ (List.getElem?_eq_getElem hjl)with⟨_,z⟩|⟨_,u,c,z,_⟩
           ·rw[hdj]at z;have z:=Option.some.inj z;subst z;simpa[eT]using hq
           ·rw[hdj]at z;have z:=Option.some.inj z;subst z;simp[eT]
          have hee:fP dl dl.length=fP dl i+1:=by
           rw[←wq hdi (hes.trans he)];unfold fP;rw[List.take_length];conv=>lhs;rw[←List.take_append_drop (i+1) dl]
           rw[List.filter_append,hz,List.append_nil]
          have h6:=hef (hes.trans he);rw[←hee,hlast]at h6;cases h6;unfold KU;simp only[hlay,hdr,hrd,cond_true];have h7:loc[l.length-i-1]? =some v:=by
           rw[hloc,List.append_nil,List.getElem?_reverse oM,←hv];congr 1;omega
          rw[h7]
         have hpart:=hopS _ _ _ _ _ _ _ _ i _ _ hG' hO D.rel D.ext D.defers (List.getElem?_eq_getElem hlt') hco hop (fun _=>hlk) (wpAnyIn (FR ro) 0 P md ops Q fuel (L.setIfInBounds i true));by_cases hq:ip=some i
         ·exact hpart (.inl hq)
         refine hpart (.inr fun x w' m' r H' E'=>go hq x w' m' ha r H' E' ?_);rw[e2];exact hef (hes.trans he)
       ·rw[hfst]at hgf;have hes:eT dl[i]=eff l[i].op:=by unfold eT;rw[hsn,hfst]
        rw[if_neg (by rw[D.guard hO hcg hgf];simp)];refine⟨fun _ _=>trivial,?_⟩;have hne:ip≠some i:=fun hq=>by
         obtain⟨_,_,s,hs,hgn⟩:=hip i hq;rw[List.getElem?_eq_getElem hlt']at hs;cases hs;rw[hgn]at hgf;cases hgf
        refine go hne undef w m hk ?_ D.rel (Ext.refl _ _ _) ?_
        ·rw[hvu];exact⟨[],rfl,rfl⟩
        ·cases he:eff l[i].op
         ·rw[hnoeff (hes.trans he)];exact D.at_
         ·obtain⟨e1,e2⟩:=heffcnt (hes.trans he);have hkb:hk=hb:=by have:=D.at_;rw[e1,hhb]at this;cases this;rfl
          rw[e2,hkb,←hha];exact hef (hes.trans he)
    have start:∀md R',pj md ops R'=true→∀t,wpOpsIn (FR ro) 0 P ops Q (Region.linearise md ops t) a0 {w0 with drawn:=w0.drawn+1}:=by
     intro md R' hrank t;have hnone:∀i,¬dn (Array.replicate ops.size false) i:=by
      intro i hi;unfold dn at hi;rw[Array.getD_eq_getD_getElem?]at hi;by_cases c:i<ops.size
      ·simp[c]at hi
      ·simp[c]at hi
     refine wpAnyIn_sound ops.size t _ a0 _ (main md R' hrank ops.size _ a0 _ ⟨m0,h,?_⟩ (fun p _=>hnone p) (by
      have:=List.length_filter_le (fun i=> !(Array.replicate ops.size false).getD i false) (List.range ops.size);simpa using this))
     refine⟨iS,fun i o _ hd=>absurd hd (hnone i),hE.1,rfl,fun t _=>rfl,?_,(y6 m0 w0 H0).congr rfl,hstart.trans (Ext.drew m0 h w0),fun i v t hd=>absurd hd (hnone i),?_⟩;have:cnt dl (Array.replicate ops.size false)=0:=by
      unfold cnt;rw[List.length_eq_zero_iff,List.filter_eq_nil_iff];intro e _;exact hnone e
     ·rw[this];rfl
     ·intro i s u c hi _;have hil:i<l.length:=by have:=(List.getElem?_eq_some_iff.1 hi).1;omega
      rcases y1 i l[i] (List.getElem?_eq_getElem hil)with⟨_,q⟩|⟨_,u',c',q,hu2,hu3,hu4⟩
      ·rw[hi]at q;cases q
      ·rw[hi]at q;cases q;refine⟨?_,hu4,hu3⟩;exact H0.unmapped hu2
    unfold Ao at hedge;simp only[Bool.and_eq_true]at hedge;unfold Region.schedule;split
    ·exact start .any _ hedge.1.1 t
    ·split
     ·exact start .text _ hedge.1.2 _
     ·exact start .gc _ hedge.2 _
   ·cases e
 ·cases e
theorem BM(hcall:b9 P K C.G call)(hc:FJ P C ops l late B R reads sets=true){Q:Exit->Act->World->Prop}{env:T V}{h0:Heap}{m0:M}{a0:Act}{w0:World}{ex:Ex}{env':T V}{h':Heap}{id:Nat}
 (hG:Glob K C.G m0) (hE:ERel C m0 env a0) (H0:HRel m0 h0 w0) (e:evD call l late reads sets env h0=.ok ex env' h')
 (hL:∀a' w' m',ex=.norm->ERel C m' env' a'->HRel m' h' w'->Ext m0 h0 w0 m' h' w'->a'.defers=a0.defers->env'.get DSL=env.get DSL->Q .normal a' w') {ro:Option Nat}:(Code.region id ops true).wpIn (FR ro) 0 P Q a0 w0:=
 qn (ip:=none) (fun _ _ _ _ _ _ _ _ _ _ _ hG hO H _ _ _ hco hop _ _ hK=>mL hcall hG hO H hco hop (hK.resolve_left (fun q=>by cases q))) (fun _ q=>by cases q) hc hG hE H0 e (fun _=>hL)
end
variable {K : LG -> Prop}
def dH(P:Program)(C:Cx):IC->Code->Bool
 |.skip,.skip=>true
 |.skip,.label _=>true
 |.ops l,.region _ ops false=>eQ P C ops ops.toList l []
 |.seq a b,.seq x y=>dH P C a x&&dH P C b y
 |.cond x a b,.cond c t e=>lI C [] c x&&dH P C a t&&dH P C b e
 |.block id c,.block id' c'=>Nat.beq id id'&&dH P C c c'
 |.loop c,.loop c'=>dH P C c c'
 |.exit id,.exit id'=>Nat.beq id id'
 |.ret,.ret=>true
 |.scope c l r,.scope c'=>dH P C c c'&&(match findLabel c' l with
  |some r'=>dH P C r r'
  |none=>false)
 |.goto l,.goto l'=>Nat.beq l l'
 |.dops l late R reads sets,.region _ ops true=>FJ P C ops l late (bOf ops) R reads sets
 |.bad,_=>true
 |_,_=>false
def j7:Ex->Exit
 |.norm=>.normal
 |.ret=>.ret
 |.exit id=>.exit id
 |.goto l=>.goto l
section
variable {P : Program} {Q : Exit -> Act -> World -> Prop} {a : Act} {w : World} {ro : Option Nat}
theorem xn(n:Nat):(FR ro).room n:=fun _ h=>by simp[Fence.wide]at h
theorem xi{b:Frame}{c:Code}{k:List Item}{cs:List Frame}:
 step P (lone (b.atR a (.code (.scope c)::k)) cs w)=.next (lone (b.atR a (.code c::.inScope c::k)) cs w):=
 step_lone_go (by simp[stepG,stepG.exec,Frame.atR])
theorem rI{b:Frame}{c:Code}{k:List Item}{cs:List Frame}:
 step P (lone (b.atR a (.inScope c::k)) cs w)=.next (lone (b.atR a k) cs w):=
 step_lone_go (by simp[stepG,stepG.exec,Frame.atR])
theorem Do{fr:Frame}{cs:List Frame}(ha:fr.about P w=none):(lone fr cs w).fenced P (FR ro):=fenced_calm (n:=0) trivial (xn _) ha
def kY(ro:Option Nat)(P:Program)(c x:Code)(Q:Exit->Act->World->Prop)(a:Act)(w:World):Prop:=
 ∀(b:Frame)(k:List Item)(cs:List Frame),b.roundOf=ro->∃e a' w',Q e a' w'/\ArrivesIn (Machine.fenced P (FR ro)) P (lone (b.atR a (.code x::.inScope c::k)) cs w) b k cs e a' w'
theorem yL{c:Code}(h:kY ro P c c Q a w):(Code.scope c).wpIn (FR ro) 0 P Q a w:=fun b k cs hro _ _=>
 let⟨e,a',w',q,r⟩:=h b k cs hro;⟨e,a',w',q,.of_steps (.one (Do rfl) xi) r⟩
theorem s6{c x:Code}(h:x.wpIn (FR ro) 0 P (fun e a' w'=>match e with
 |.goto l=>(match findLabel c l with
  |some r=>kY ro P c r Q a' w'
  |none=>Q (.goto l) a' w')
 |e=>Q e a' w') a w):kY ro P c x Q a w:=by
 intro b k cs ad;obtain⟨e,U,R,I,Z⟩:=h b (.inScope c::k) cs ad trivial (xn _);cases e with
 |normal=>exact⟨.normal,U,R,I,StepsIn.trans Z (.one (Do rfl) rI)⟩
 |exit id=>exact⟨.exit id,U,R,I,fun k' D=>Z.1 k' (by simpa[exitTo]using D),fun hr D=>Z.2 hr (by simpa[exitTo]using D)⟩
 |goto l=>
  simp only[]at I;cases hf:findLabel c l with
  |none=>
   rw[hf]at I;exact⟨.goto l,U,R,I,fun k' D=>Z.1 k' (by simp[gotoIn,hf,D]),fun hr D=>Z.2 hr (by simp[gotoIn,hf,D])⟩
  |some r=>
   rw[hf]at I;obtain⟨e,aj,ah,ab,J⟩:=I b k cs ad;exact⟨e,aj,ah,ab,.of_steps (Z.1 _ (by simp[gotoIn,hf])) J⟩
 |ret=>exact⟨.ret,U,R,I,Z⟩
 |panic ch=>exact⟨.panic ch,U,R,I,Z⟩
 |outgrown=>exact⟨.outgrown,U,R,I,Z⟩
def uC(ro:Option Nat)(P:Program)(c:Code)(Q:Exit->Act->World->Prop)(a:Act)(w:World):Prop:=
 ∀(b:Frame)(k:List Item)(cs:List Frame),b.roundOf=ro->∃e a' w',Q e a' w'/\ArrivesIn (Machine.fenced P (FR ro)) P (lone (b.atR a (.code c::.inLoop c::k)) cs w) b k cs e a' w'
theorem AK{c:Code}(h:uC ro P c Q a w):(Code.loop c).wpIn (FR ro) 0 P Q a w:=fun b k cs hro _ _=>
 let⟨e,a',w',q,r⟩:=h b k cs hro;⟨e,a',w',q,.of_steps (.one (Do rfl) stepR_loop) r⟩
theorem EY{c:Code}(h:c.wpIn (FR ro) 0 P (Exit.then (uC ro P c Q) Q) a w):uC ro P c Q a w:=by
 intro b k cs ab;obtain⟨e,U,R,D,Z⟩:=h b (.inLoop c::k) cs ab trivial (xn _);cases e with
 |normal=>
  obtain⟨ah,aj,ad,I,J⟩:=D b k cs ab;exact⟨ah,aj,ad,I,.of_steps (StepsIn.trans Z (.one (Do rfl) stepR_inLoop)) J⟩
 |exit id=>exact⟨_,U,R,D,.pass (x:=.inLoop c) rfl (fun _ _=>.inl iS) Z⟩
 |goto l=>exact⟨_,U,R,D,.pass (x:=.inLoop c) rfl (fun _ _=>.inl iS) Z⟩
 |ret=>exact⟨_,U,R,D,.pass (x:=.inLoop c) rfl (fun _ _=>.inl iS) Z⟩
 |panic ch=>exact⟨_,U,R,D,.pass (x:=.inLoop c) rfl (fun _ _=>.inl iS) Z⟩
 |outgrown=>exact⟨_,U,R,D,.pass (x:=.inLoop c) rfl (fun _ _=>.inl iS) Z⟩
end
def RoOK(ro:Option Nat)(w:World):Prop:=∀l,ro=some l->∃r,w.heap[l]? =some (.loop r)
theorem RoOK.ext{ro:Option Nat}{m J:M}{h h':Heap}{w w':World}(a:RoOK ro w)(E:Ext m h w J h' w'):RoOK ro w':=by
 intro l D;obtain⟨r,Z⟩:=a l D;obtain⟨I,R,U⟩:=E.out l (Rw.1 Z).1 _ Z;cases I with
 |loop r'=>exact⟨r',R⟩
 |_=>cases U
structure Cir(K:LG->Prop)(C:Cx)(ro:Option Nat)(B:Nat)(m:M)(h:Heap)(w:World)(env:T V)(a:Act):Prop where
 g:Glob K C.G m
 e:ERel C m env a
 h:HRel m h w
 d:DsR C B m w env a.defers
 b:B<=w.heap.size
 r:RoOK ro w
def JN(K:LG->Prop)(C:Cx)(ro:Option Nat)(B:Nat)(m:M)(h:Heap)(w:World)(R:Act->World->Prop)(env':T V)(h':Heap):Prop:=
 ∀a' w' m',Cir K C ro B m' h' w' env' a'->Ext m h w m' h' w'->R a' w'
def NX(K:LG->Prop)(C:Cx)(ro:Option Nat)(B:Nat)(ev:T V->Heap->Out)(W:(Exit->Act->World->Prop)->Act->World->Prop):Prop:=
 ∀(Q:Exit->Act->World->Prop) env h m a w ex env' h',Cir K C ro B m h w env a->ev env h=.ok ex env' h'->
  JN K C ro B m h w (Q (j7 ex)) env' h'->W Q a w
theorem II(body:T V->Heap->Out)(env:T V)(h:Heap):dbl body 0 env h=body env h:=rfl
theorem Ag(body:T V->Heap->Out)(k:Nat)(env:T V)(h:Heap):dbl body (k+1) env h=match dbl body k env h with
 |.ok .norm env h=>dbl body k env h
 |r=>r:=rfl
theorem Bp{P:Program}{C:Cx}{ro:Option Nat}{B:Nat}{body:T V->Heap->Out}{c:Code}(J:NX K C ro B body (fun Q a w=>c.wpIn (FR ro) 0 P Q a w))(Q:Exit->Act->World->Prop):
 ∀(k:Nat) env h m a w ex env' h',Cir K C ro B m h w env a->dbl body k env h=.ok ex env' h'->
  JN K C ro B m h w (Exit.then (uC ro P c Q) Q (j7 ex)) env' h'->uC ro P c Q a w:=by
 intro k;induction k with
 |zero=>
  intro env h m a w ex env' h' Z e hL;exact EY (J _ env h m a w ex env' h' Z e hL)
 |succ k ih=>
  intro env h m a w ex env' h' Z e hL;rw[Ag]at e;cases U:dbl body k env h with
  |fail=>rw[U]at e;cases e
  |ok R env1 h2=>
   rw[U]at e;cases R with
   |norm=>
    simp only[]at e;refine ih env h m a w .norm env1 h2 Z U (fun a' w' m' hC' E'=>?_);exact yat
   |ret=>simp only[]at e;cases e;exact ih env h m a w _ _ _ Z U hL
   |exit id=>simp only[]at e;cases e;exact ih env h m a w _ _ _ Z U hL
   |goto l=>simp only[]at e;cases e;exact ih env h m a w _ _ _ Z U hL
def oW(ro:Option Nat)(P:Program)(c:Code)(Q:Exit->Act->World->Prop):Exit->Act->World->Prop:=fun e a' w'=>match e with
 |.goto l=>(match findLabel c l with
  |some r=>kY ro P c r Q a' w'
  |none=>Q (.goto l) a' w')
 |e=>Q e a' w'
def yW(l:Nat)(r:T V->Heap->Out):T V->Heap->Out:=fun env h=>match r env h with
 |.ok (.goto i) env h=>bif Nat.beq i l then .ok .norm env h else .ok (.goto i) env h
 |.ok .norm env h=>.ok (.goto l) env h
 |r=>r
def dec(l:Nat):Ex->Exit
 |.norm=>.goto l
 |.goto i=>if i=l then .normal else .goto i
 |.ret=>.ret
 |.exit id=>.exit id
theorem zI{P:Program}{C:Cx}{ro:Option Nat}{B:Nat}{body:T V->Heap->Out}{c r:Code}{l:Nat}(hf:findLabel c l=some r)(R:NX K C ro B body (fun Q a w=>r.wpIn (FR ro) 0 P Q a w))(Q:Exit->Act->World->Prop):
 ∀(k:Nat) env h m a w ex env' h',Cir K C ro B m h w env a->dbl (yW l body) k env h=.ok ex env' h'->
  JN K C ro B m h w (oW ro P c Q (dec l ex)) env' h'->kY ro P c r Q a w:=by
 intro k;induction k with
 |zero=>
  intro env h m a w ex env' h' J e hL;rw[II]at e;unfold yW at e;cases U:body env h with
  |fail=>rw[U]at e;cases e
  |ok Z env1 h2=>
   rw[U]at e;have fin:j7 Z=dec l ex->env1=env'->h2=h'->kY ro P c r Q a w:=by
    rintro I rfl rfl;refine s6 (R (oW ro P c Q) env h m a w Z env1 h2 J U ?_);rw[I];exact hL
   cases Z with
   |norm=>simp only[]at e;cases e;exact fin (by simp[dec,j7]) rfl rfl
   |ret=>simp only[]at e;cases e;exact fin rfl rfl rfl
   |exit id=>simp only[]at e;cases e;exact fin rfl rfl rfl
   |goto i=>
    simp only[]at e;cases R:Nat.beq i l
    ·rw[R]at e;simp only[cond_false]at e;cases e;exact fin (by
      have:i≠l:=by intro q;subst q;simp at R
      simp[dec,j7,this]) rfl rfl
    ·rw[R]at e;simp only[cond_true]at e;cases e;exact fin (by have:=py R;subst this;rfl) rfl rfl
 |succ k ih=>
  intro env h m a w ex env' h' J e hL;rw[Ag]at e;cases U:dbl (yW l body) k env h with
  |fail=>rw[U]at e;cases e
  |ok Z env1 h2=>
   rw[U]at e;cases Z with
   |norm=>
    simp only[]at e;refine ih env h m a w .norm env1 h2 J U (fun a' w' m' hC' E'=>?_);simp only[dec,oW,hf];exact yat
   |ret=>simp only[]at e;cases e;exact ih env h m a w _ _ _ J U hL
   |exit id=>simp only[]at e;cases e;exact ih env h m a w _ _ _ J U hL
   |goto l=>simp only[]at e;cases e;exact ih env h m a w _ _ _ J U hL
def LOK(P:Program)(G:Nat)(g:LG):Prop:=
 dH P ⟨G,g.vars,g.N,false⟩ g.as g.r.assign=true/\dH P ⟨G,g.vars,g.N,false⟩ g.bd g.r.body=true/\g.r.params.toList=g.ps/\g.r.tmps.size=g.N/\
 (∀p∈g.ps,g.vars.contains p=true/\p<g.N)/\g.vars.contains DSL=false
theorem DsL.fresh{B:Nat}{m:M}{w:World}:∀{ds:List Deferred}{vs:List V},DsL B m w ds vs->∀d∈ds,d.target≠.collected w.heap.size
 |[],_,_,d,hd=>by simp at hd
 |x::l,vs,D,d,hd=>by
  rcases D with⟨⟨r,h1,h2,h3,_⟩,t⟩|⟨v,vs',_,⟨f,first,caps,args,A,C',_,_,hq,_⟩,t⟩
  ·rcases Qy.1 hd with rfl|hd
   ·grind
   ·exact DsL.fresh t d hd
  ·rcases Qy.1 hd with rfl|hd
   ·grind
   ·exact DsL.fresh t d hd
theorem DsR.fresh{C:Cx}{B:Nat}{m:M}{w:World}{env:T V}{U:List Deferred}(D:DsR C B m w env U):∀d∈U,d.target≠.collected w.heap.size:=by
 cases Z:C.df
 ·exact(D.2 Z).fresh
 ·obtain⟨l,_,q⟩:=D.1 Z;exact q.fresh
theorem jD{P:Program}{C:Cx}{ro:Option Nat}{B:Nat}{call:aD}(aj:b9 P K C.G call)(hK:∀g,LOK P C.G g->K g)(a2:C.df=true->ro=none):∀(ic:IC)(c:Code),dH P C ic c=true->NX K C ro B (evC call ic) (fun Q a w=>c.wpIn (FR ro) 0 P Q a w):=by
 intro ic;induction ic with
 |skip=>
  intro c J Q env h m a w ex U h' D e hL;cases e;cases c<;>simp[dH]at J
  ·exact wpIn_skip (hL a w m D (Sa _ _ _))
  ·exact wpIn_label (hL a w m D (Sa _ _ _))
 |ops l=>
  intro c J Q env h m a w ex U h' D e hL;have Z:dN call l [] env h=.ok ex U h':=e;cases c with
  |region id ops dr=>
   cases dr with
   |true=>simp[dH]at J
   |false=>
    refine wpIn_region ?_;have hs:=yZ aj (Q:=Q) a2 ops.toList 0 l [] [] env h m a w ex U h' iS J D.g (fun t s hs=>by simp[eM]at hs) D.e D.h D.d Z
     (fun a' w' m' hx aE H' E' hd=>by subst hx;exact hL a' w' m' ⟨D.g.ext E',aE,H',hd,QY D.b E'.size,D.r.ext E'⟩ E')
    simpa[List.range_eq_range']using hs
  |_=>simp[dH]at J
 |seq x y ihx ihy=>
  intro c J Q env h m a w ex U h' D e hL;cases c<;>simp[dH]at J;rename_i c1 c2;have Z:(match evC call x env h with|.ok .norm env h=>evC call y env h|r=>r)=.ok ex U h':=e
  refine wpIn_seq ?_;cases h1:evC call x env h with
  |fail=>rw[h1]at Z;cases Z
  |ok ad ab h2=>
   rw[h1]at Z;refine ihx c1 J.1 _ env h m a w ad ab h2 D h1 (fun a' w' m' I E'=>?_);cases ad with
   |norm=>
    simp only[]at Z;exact ihy c2 J.2 Q ab h2 m' a' w' ex U h' I Z (fun ax ao ak ah aF=>hL ax ao ak ah (E'.trans aF))
   |ret=>simp only[]at Z;cases Z;exact hL a' w' m' I E'
   |exit id=>simp only[]at Z;cases Z;exact hL a' w' m' I E'
   |goto l=>simp only[]at Z;cases Z;exact hL a' w' m' I E'
 |cond x y z ihy ihz=>
  intro c J Q env h m a w ex U h' D e hL;cases c<;>simp[dH]at J;rename_i co c1 c2;have Z:(match evO [] env x with|some (.bool t)=>bif t then evC call y env h else evC call z env h|_=>.fail)=.ok ex U h':=e
  split at Z
  ·rename_i t ht;have hr:=eW D.g (σ:=[]) (fun t s hs=>by simp[eM]at hs) D.e J.1.1 ht;simp only[VRel]at hr;refine wpIn_cond (t:=t) hr ?_;cases t
   ·simp only[cond_false]at Z;exact ihz c2 J.2 Q env h m a w ex U h' D Z hL
   ·simp only[cond_true]at Z;exact ihy c1 J.1.2 Q env h m a w ex U h' D Z hL
  ·cases Z
 |block id x ih=>
  intro c J Q env h m a w ex U h' D e hL;cases c<;>simp[dH]at J;rename_i a5 c1;obtain⟨a4,J⟩:=J;subst a4;have Z:(match evC call x env h with|.ok (.exit i) env h=>bif Nat.beq i id then .ok .norm env h else .ok (.exit i) env h|r=>r)=Out.ok ex U h':=e
  refine wpIn_block ?_;cases h1:evC call x env h with
  |fail=>rw[h1]at Z;cases Z
  |ok ad ab h2=>
   rw[h1]at Z;refine ih c1 J _ env h m a w ad ab h2 D h1 (fun a' w' m' I E'=>?_);cases ad with
   |norm=>simp only[]at Z;cases Z;exact hL a' w' m' I E'
   |ret=>simp only[]at Z;cases Z;exact hL a' w' m' I E'
   |goto l=>simp only[]at Z;cases Z;exact hL a' w' m' I E'
   |exit i=>
    simp only[]at Z;cases hb:Nat.beq i id
    ·rw[hb]at Z;simp only[cond_false]at Z;cases Z;have:i≠id:=by intro q;subst q;simp at hb
     simp only[j7,Exit.inBlock,if_neg this];exact hL a' w' m' I E'
    ·rw[hb]at Z;simp only[cond_true]at Z;cases Z;have:=py hb;subst this;simp only[j7,Exit.inBlock,if_true];exact hL a' w' m' I E'
 |loop x ih=>
  intro c J Q env h m a w ex U h' D e hL;cases c<;>simp[dH]at J;rename_i c1;have Z:(match dbl (evC call x) 48 env h with|.ok .norm _ _=>.fail|r=>r)=Out.ok ex U h':=e
  refine AK ?_;cases h1:dbl (evC call x) 48 env h with
  |fail=>rw[h1]at Z;cases Z
  |ok ad ab h2=>
   rw[h1]at Z;refine Bp (ih c1 J) Q 48 env h m a w ad ab h2 D h1 (fun a' w' m' I E'=>?_);cases ad with
   |norm=>cases Z
   |ret=>simp only[]at Z;cases Z;exact hL a' w' m' I E'
   |exit i=>simp only[]at Z;cases Z;exact hL a' w' m' I E'
   |goto l=>simp only[]at Z;cases Z;exact hL a' w' m' I E'
 |exit id=>
  intro c J Q env h m a w ex U h' D e hL;cases c<;>simp[dH]at J;subst J;cases e;exact wpIn_exit (hL a w m D (Sa _ _ _))
 |ret=>
  intro c J Q env h m a w ex U h' D e hL;cases c<;>simp[dH]at J;cases e;exact wpIn_ret (hL a w m D (Sa _ _ _))
 |scope x l r ihx ihr=>
  intro c J Q env h m a w ex U h' D e hL;cases c<;>simp only[dH,QQ]at J;rename_i c1;simp only[be]at J;obtain⟨a1,aA⟩:=J;split at aA
  ·rename_i r' hf;have Z:(match evC call x env h with
    |.ok (.goto i) env h=>bif Nat.beq i l then
     (match dbl (yW l (evC call r)) 48 env h with
      |.ok .norm _ _=>.fail
      |.ok (.goto i) env h=>bif Nat.beq i l then .ok .norm env h else .fail
      |r=>r)
     else .fail
    |r=>r)=Out.ok ex U h':=e
   refine yL (s6 ?_);cases h1:evC call x env h with
   |fail=>rw[h1]at Z;cases Z
   |ok ad ab h2=>
    rw[h1]at Z;refine ihx c1 a1 (oW ro P c1 Q) env h m a w ad ab h2 D h1 (fun a' w' m' I E'=>?_);cases ad with
    |norm=>simp only[]at Z;cases Z;exact hL a' w' m' I E'
    |ret=>simp only[]at Z;cases Z;exact hL a' w' m' I E'
    |exit i=>simp only[]at Z;cases Z;exact hL a' w' m' I E'
    |goto i=>
     simp only[]at Z;cases hb:Nat.beq i l
     ·grind
     ·rw[hb]at Z;simp only[cond_true]at Z;have:=py hb;subst this;simp only[j7,oW,hf];cases h3:dbl (yW i (evC call r)) 48 ab h2 with
      |fail=>rw[h3]at Z;cases Z
      |ok a0 env2 h4=>
       rw[h3]at Z;refine zI hf (ihr r' aA) Q 48 ab h2 m' a' w' a0 env2 h4 I h3 (fun ax ao ak ah aF=>?_);have aR:=E'.trans aF;cases a0 with
       |norm=>cases Z
       |ret=>simp only[]at Z;cases Z;exact hL ax ao ak ah aR
       |exit j=>simp only[]at Z;cases Z;exact hL ax ao ak ah aR
       |goto j=>
        simp only[]at Z;cases hj:Nat.beq j i
        ·grind
        ·rw[hj]at Z;simp only[cond_true]at Z;cases Z;have:=py hj;subst this;simp only[dec,if_true,oW];exact hL ax ao ak ah aR
  ·cases aA
 |goto l=>
  intro c J Q env h m a w ex U h' D e hL;cases c<;>simp[dH]at J;subst J;cases e;exact wpIn_goto (hL a w m D (Sa _ _ _))
 |dops l late R reads sets=>
  intro c J Q env h m a w ex U h' D e hL;cases c with
  |region id ops dr=>
   cases dr with
   |false=>simp[dH]at J
   |true=>exact BM aj J D.g D.e D.h e (fun a' w' m' hx aE H' E' hd a3=>by
    subst hx;exact hL a' w' m' ⟨D.g.ext E',aE,H',by rw[hd];exact(D.d.ext E').congr a3,QY D.b E'.size,D.r.ext E'⟩ E')
  |_=>simp[dH]at J
 |bad=>
  intro c J Q env h m a w ex U h' D e hL;cases e
 |wd x ih=>
  intro c J;cases c<;>simp[dH]at J
def iV(P:Program)(vars:List Nat):List ResultVar->List RV->Bool
 |[],[]=>true
 |.tmp t::rs,.t s::qs=>Nat.beq t s&&vars.contains t&&iV P vars rs qs
 |.cell a t::rs,.c s n ia::qs=>Nat.beq a s&&vars.contains a&&dQ P t n&&qE P t ia&&iV P vars rs qs
 |_,_=>false
def Dn(P:Program)(G:Nat)(vars:List Nat)(n:Nat)(b:IC)(c:Code):Bool:=
 match b with
 |.wd b=>dH P ⟨G,vars,n,true⟩ b c
 |b=>dH P ⟨G,vars,n,false⟩ b c
def nw(P:Program)(G:Nat)(f:Nat)(fn:IFn):Bool:=
 match P.funcs[f]? with
 |some fd=>(match fd.body with
  |some c=>Dn P G fn.vars fd.ntmps fn.body c&& !fn.vars.contains DSL&&Nat.blt f YB&&(List.range fn.nargs).all (fun i=>fn.vars.contains i)&&Nat.ble fn.nargs fd.ntmps&&iV P fn.vars fd.results.toList fn.results&& !(fd.name== "runtime.NumGoroutine")
  |none=>false)
 |none=>false
def DT(P:Program)(G:Nat)(F:T IFn):Prop:=∀f fn,F.get f=some fn->nw P G f fn=true
theorem mA(v:V)(vs:List V)(i:Nat)(en:T V):fA (v::vs) i en=fA vs (i+1) (en.set i v):=rfl
theorem pM:∀(vs:List V)(i:Nat)(en:T V)(s:Nat),(fA vs i en).get s=if i<=s/\s<i+vs.length then vs[s-i]? else en.get s
 |[],i,en,s=>by rw[if_neg iS];rfl
 |v::vs,i,en,s=>by
  rw[mA,pM vs (i+1),RP];simp only[QB];by_cases c:s=i
  ·grind
  ·grind
section
variable {P : Program} {C : Cx} {m : M} {h : Heap} {w : World} {env : T V} {a : Act}
def ve(tmps:Array Value):ResultVar->Sem Value
 |.tmp t=>pure (tmps.getD t undef)
 |.cell a t=>do loadVar t (<-asAddr (tmps.getD a undef))
theorem ij(H:HRel m h w)(hE:ERel C m env a):∀(rs:List ResultVar)(qs:List RV)(vs:List V),iV P C.vars rs qs=true→fg env h qs=some vs→
 ∃xs,(rs.mapM (ve a.tmps)).run P w=.ok xs w∧VsRel m vs xs
 |[],[],vs,_,e=>by cases e;exact⟨[],rfl,rfl⟩
 |[],_::_,_,hc,_=>by simp[iV]at hc
 |r::rs,[],_,hc,_=>by cases r<;>simp[iV]at hc
 |.tmp t::rs,.c _ _ _::qs,_,hc,_=>by simp[iV]at hc
 |.cell _ _::rs,.t _::qs,_,hc,_=>by simp[iV]at hc
 |.tmp t::rs,.t s::qs,vs,hc,e=>by
  simp only[iV,Bool.and_eq_true]at hc;have:=Nat.eq_of_beq_eq_true hc.1.1;subst this;simp only[fg,evR]at e;cases h1:env.get t with
  |none=>rw[h1]at e;cases e
  |some v=>
   rw[h1]at e;simp only[]at e;cases h2:fg env h qs with
   |none=>rw[h2]at e;cases e
   |some us=>
    rw[h2]at e;cases e;obtain⟨xs,hx,rx⟩:=ij H hE rs qs us hc.2 h2;refine⟨a.tmps.getD t undef::xs,?_,⟨_,_,rfl,hE.var hc.1.2 h1,rx⟩⟩;simp only[List.mapM_cons,Sem.run_bind,ve,Sem.run_pure,Result.andThen_ok,hx]
 |.cell ad t::rs,.c s n ia::qs,vs,hc,e=>by
  simp only[iV,Bool.and_eq_true]at hc;obtain⟨⟨⟨⟨h0,hva⟩,hsz⟩,hag⟩,hc⟩:=hc;have:=Nat.eq_of_beq_eq_true h0;subst this;simp only[fg,evR]at e;cases h1:env.get ad with
  |none=>rw[h1]at e;cases e
  |some p=>
   rw[h1]at e;simp only[]at e;cases h3:jm h n ia p with
   |none=>rw[h3]at e;cases e
   |some v=>
    rw[h3]at e;simp only[]at e;cases h2:fg env h qs with
    |none=>rw[h2]at e;cases e
    |some us=>
     rw[h2]at e;cases e;obtain⟨xs,hx,rx⟩:=ij H hE rs qs us hc h2;have hp:=hE.var hva h1;unfold jm at h3;split at h3
     ·rename_i b k;obtain⟨loc,hm,hpe⟩:=hp;cases ia
      ·simp only[cond_false]at h3;obtain⟨x,hx1,rx1⟩:=H.load1 hm h3;refine⟨x::xs,?_,⟨_,_,rfl,rx1,rx⟩⟩;simp only[List.mapM_cons,Sem.run_bind,ve,hpe,asAddr,loadVar,jz hag,Sem.run_pure,Result.andThen_ok,Bool.false_eq_true,if_false,run_load,hx1,hx]
      ·simp only[cond_true]at h3;cases h4:aH h b k n with
       |none=>rw[h4]at h3;cases h3
       |some ws=>
        rw[h4]at h3;cases h3;obtain⟨ys,hy,ry,_⟩:=H.load P hm h4;refine⟨.agg (List.toArray ys)::xs,?_,⟨_,_,rfl,⟨_,rfl,ry⟩,rx⟩⟩;simp only[List.mapM_cons,Sem.run_bind,ve,hpe,asAddr,loadVar,jz hag,cH hsz,Sem.run_pure,Result.andThen_ok,if_true,hy,hx]
     ·cases h3
theorem zh{fd:Func}{tmps:Array Value}{Z:List Value}(hx:(fd.results.toList.mapM (ve tmps)).run P w=.ok Z w):
 (results fd tmps).run P w=.ok (if h:Z.length=1 then Z[0]else .tuple (List.toArray Z)) w:=by
 have e:results fd tmps=(do let vs <-fd.results.mapM (ve tmps);pure (if h:vs.size=1 then vs[0]else .tuple vs)):=by
  unfold results;congr 1
 rw[e];simp only[Qz,Array.mapM_eq_mapM_toList,Sem.run_map,hx,Qr,QL];congr 1
end
section
variable {P : Program} {F : Fence} {n : Nat}
theorem pY{fn:Func}{tmps:Array Value}{R:Ending->World->Prop}:∀(J:List Deferred)(u:FrameMode)(w:World)(fr:Frame)
 (cs:List Frame),fr.mode=u->fr.defers=J->fr.tmps=tmps->P.funcs[fr.fn]? =some fn->F.fn fr.fn->F.room (cs.length+1+n)->LeavesInM F n P fn tmps R J u w->
 ∃e w' fr',R e w'/\ComesIn (Machine.fenced P F) P (lone fr cs w) (lone fr' cs w') e/\fr'.fn=fr.fn/\fr'.kind=fr.kind/\fr'.going P w' e:=by
 intro J;induction J with
 |nil=>
  intro u w fr cs hu hd ht hf hb Z h;cases u with
  |run=>exact h.elim
  |returning=>
   obtain⟨v,hr,hR⟩:=h;exact⟨.returned v,w,fr,hR,StepsIn.refl _,rfl,rfl,hu,hd,fn,hf,ht▸hr⟩
  |panicking chain=>exact⟨.panicked chain,w,fr,h,StepsIn.refl _,rfl,rfl,hu,hd,fn,hf⟩
 |cons d J ih=>
  intro u w fr cs hu hd ht hf hb Z h;obtain⟨D,h⟩:=h;rcases h with⟨r,w',I,aj,ah⟩|⟨hn,fv,cap,f,args,I,aA,ak,ax,ad⟩
  ·have h1:=step_collected (cs:=cs) (hu▸D) hd I aj;have i1:(lone fr cs w).fenced P F:=fenced_out hb Z (hu▸D) hd (fun g hg=>by rw[I]at hg;simp[Target.leads]at hg);obtain⟨e',w'',fr',hR',hs',hfn',hl'⟩:=ih u w' {fr with defers:=[]++J} cs hu rfl ht hf hb Z ah;exact⟨e',w'',fr',hR',ComesIn.of_steps (.one i1 h1) hs',hfn',hl'⟩
  ·have h1:=step_defer (cs:=cs) (hu▸D) hd I aA;have i1:=fenced_out hb Z (hu▸D) hd ak;have U:F.room (({fr with defers:=J}::cs).length+1+(n-1)):=Fence.room_enter Z hn;obtain⟨e,u',w',frX,hR,hsteps,aE,ao,ab⟩:=ad {fr with defers:=J} cs hu U;cases e with
   |outgrown=>exact⟨.outgrown,w',fr,hR,Outgrown.of_steps (.one h1) hsteps,rfl,rfl,trivial⟩
   |returned v=>
    have i2:(lone frX ({{fr with defers:=J}with mode:=u'}::cs) w').fenced P F:=fenced_going (n:=n-1) (ao▸ax) U ab;have h2:=step_going_returned (c:={{fr with defers:=J}with mode:=u'}) (cs:=cs) aE ab;obtain⟨e',w'',fr',hR',hs',hfn',hl'⟩:=ih (settle u') w' {{{fr with defers:=J}with mode:=u'}with mode:=settle u'} cs rfl rfl ht hf hb Z hR;exact yau
   |panicked chain=>
    have i2:(lone frX ({{fr with defers:=J}with mode:=u'}::cs) w').fenced P F:=fenced_going (n:=n-1) (ao▸ax) U ab;have h2:=step_going_panicked (c:={{fr with defers:=J}with mode:=u'}) (cs:=cs) ab;obtain⟨e',w'',fr',hR',hs',hfn',hl'⟩:=ih (raised u' chain) w' {{{fr with defers:=J}with mode:=u'}with mode:=raised u' chain} cs rfl rfl ht hf hb Z hR;exact yau
end
theorem gJ{P:Program}{fd:Func}{tmps:Array Value}{R:Ending->World->Prop}{B:Nat}{m0:M}{h0:Heap}{w0:World}{u:FrameMode}(hu:u≠.run)(hB:w0.heap.size<=B):
 ∀(ds:List Deferred)(vs:List V)(m:M)(h:Heap)(w:World),DsL B m w ds vs->HRel m h w->Ext m0 h0 w0 m h w->
 (∀ds' w',((ds'=[]/\vs=[])\/∃d ds'' v vs',ds'=d::ds''/\vs=v::vs'/\DefR m v d/\DsL B m w' ds'' vs')->HRel m h w'->Ext m0 h0 w0 m h w'->LeavesInM Fence.wide 0 P fd tmps R ds' u w')->
 LeavesInM Fence.wide 0 P fd tmps R ds u w
 |[],vs,m,h,w,hM,H,E,k=>k [] w (.inl ⟨rfl,hM⟩) H E
 |d::ds,vs,m,h,w,.inl ⟨⟨r,q1,q2,q3,q4,q5⟩,t⟩,H,E,k=>
  ⟨hu,.inl ⟨r,_,by rw[q1],run_takeDeferred q3,gJ hu hB ds vs m h _ (t.put q5) (H.putOff q4 _) (E.putOff oM _) k⟩⟩
 |d::ds,vs,m,h,w,.inr ⟨v,vs',hvs,hd,t⟩,H,E,k=>k (d::ds) w (.inr ⟨d,ds,v,vs',rfl,hvs,hd,t⟩) H E
theorem ERel.mono{C:Cx}{m m':M}(l:Le m m'){env:T V}{a:Act}(hE:ERel C m env a):ERel C m' env a:=
 ⟨hE.1,fun s v hs=>(hE.2.1 s v hs).imp id fun q=>⟨q.1,RJ l _ _ q.2⟩,hE.2.2⟩
theorem yg{P:Program}{C:Cx}{fd:Func}{J:List RV}(ab:iV P C.vars fd.results.toList J=true){m mf:M}{h I h':Heap}{w wf:World}{env:T V}{a:Act}{v:V}
 (Z:(match fg env I J with
  |some [v]=>fV v fun v=>some (v,I)
  |some vs=>some (.tup vs,I)
  |none=>none)=some (v,h')) (D:HRel mf I wf) (Ef:Ext m h w mf I wf) (ad:ERel C mf env a):LeavesInM Fence.wide 0 P fd a.tmps (mC m h w v h') [] .returning wf:=by
 cases hr:fg env I J with
 |none=>rw[hr]at Z;cases Z
 |some us=>
  rw[hr]at Z;obtain⟨xs,hx,R⟩:=ij (P:=P) D ad _ _ _ ab hr;refine⟨_,zh hx,_,mf,rfl,?_⟩;have U:=R.length;match us,Z,R,U with
  |[],Z,R,U=>
   simp only[QA,Re]at Z;obtain⟨rfl,rfl⟩:=Z;rw[dif_neg (by simp at U;simp[U])];exact⟨⟨xs,rfl,R⟩,D,Ef⟩
  |[u],Z,R,U=>
   simp only[zU,QA,Re]at Z;obtain⟨rfl,rfl⟩:=Z;rw[dif_pos (eV U)];obtain⟨x,rfl,r1⟩:=bJ R;exact⟨r1,D,Ef⟩
  |u1::u2::us,Z,R,U=>
   simp only[QA,Re]at Z;obtain⟨rfl,rfl⟩:=Z;rw[dif_neg (by simp at U;omega)];exact⟨⟨xs,rfl,R⟩,D,Ef⟩
theorem kR{P:Program}{G:Nat}{fn:IFn}{fd:Func}{vs:List V}{m:M}{h:Heap}{w:World}{args:List Value}(D:VsRel m vs args)(H:HRel m h w)(hG:Glob (LOK P G) G m)(R:fn.vars.contains DSL=false)
 (Z:(List.range fn.nargs).all (fun i=>fn.vars.contains i)=true) (ab:fn.nargs<=fd.ntmps) (I:vs.length=fn.nargs) (df:Bool):
 Cir (LOK P G) ⟨G,fn.vars,fd.ntmps,df⟩ none w.heap.size m h w (fA vs 0 .e) {tmps:=List.toArray args++Array.replicate (fd.ntmps-(List.toArray args).size) undef,defers:=[]}:=by
 have ad:=D.length;have J:(fA vs 0 .e).get DSL=none:=by
  cases q:(fA vs 0 .e).get DSL with
  |none=>rfl
  |some u=>
   rw[pM]at q;split at q
   ·grind
   ·cases q
 refine⟨hG,⟨by simp;omega,fun s u U=>?_,R⟩,H,⟨fun _=>⟨[],by rw[J];rfl,rfl⟩,fun _=>rfl⟩,pi _,fun l hl=>by cases hl⟩;rw[pM]at U;split at U
 ·rename_i hr;simp only[Sh,Rc]at U hr;obtain⟨x,hx,rx⟩:=D.get s u U;refine .inr ⟨QM.1 Z s oO,?_⟩;have:(List.toArray args++Array.replicate (fd.ntmps-(List.toArray args).size) undef).getD s undef=x:=by
   rw[Rh,Sy oO];simp[hx]
  rw[this];exact rx
 ·cases U
theorem pF{P:Program}{G:Nat}{F:T IFn}{ov:aD}(ao:b9 P (LOK P G) G ov)(hF:DT P G F):∀n,b9 P (LOK P G) G (evF ov F n):=by
 intro n;induction n with
 |zero=>intro f vs h v h' e;cases e
 |succ n ih=>
  intro f vs h v h' e;have e':(match F.get f with
   |some fn=>bif Nat.beq vs.length fn.nargs then
    (match evC (evF ov F n) fn.body (fA vs 0 .e) h with
     |.ok .norm env h=>(match fg env h fn.results with
      |some [v]=>fV v fun v=>some (v,h)
      |some vs=>some (.tup vs,h)
      |none=>none)
     |.ok .ret env h=>(match fg env h fn.results with
      |some [v]=>fV v fun v=>some (v,h)
      |some vs=>some (.tup vs,h)
      |none=>none)
     |_=>none)
    else none
   |none=>ov f vs h)=some (v,h'):=e
  cases hg:F.get f with
  |none=>
   rw[hg]at e';exact ao f vs h v h' e'
  |some fn=>
   rw[hg]at e';simp only[]at e';cases hl:Nat.beq vs.length fn.nargs
   ·grind
   ·rw[hl]at e';simp only[cond_true]at e';have ah:=py hl;have U:=hF f fn hg;unfold nw at U;split at U
    ·rename_i fd hfd;split at U
     ·rename_i c hbody;simp only[be,RA,QJ]at U;obtain⟨⟨⟨⟨⟨⟨ab,ak⟩,aF⟩,D⟩,R⟩,ax⟩,I⟩:=U;have R:=Qt R;refine fun _=>⟨⟨fd,hfd,by rw[hbody];rfl,I⟩,fun m w args hv H hG=>?_⟩;have hC:=kR (P:=P) (G:=G) (fd:=fd) hv H hG ak D R ah false;have fin:∀ex Z J,(ex=.norm\/ex=.ret)->evC (evF ov F n) fn.body (fA vs 0 .e) h=.ok ex Z J->
       (match fg Z J fn.results with
        |some [v]=>fV v fun v=>some (v,J)
        |some vs=>some (.tup vs,J)
        |none=>none)=some (v,h')->
       c.wpIn Fence.wide 0 P (bodyPostM Fence.wide 0 P fd (mC m h w v h')) {tmps:=List.toArray args++Array.replicate (fd.ntmps-(List.toArray args).size) undef,defers:=[]} w:=by
       intro ex Z J aA ad aj;unfold Dn at ab;split at ab
       ·rename_i b hb;rw[hb]at ad;cases ad
       ·refine jD (C:=⟨G,fn.vars,fd.ntmps,false⟩) (ro:=none) ih (fun _ x=>x) (fun _=>rfl) fn.body c ab _ _ h m _ w ex Z J hC ad (fun a' w' m' hC' E'=>?_);have:LeavesInM Fence.wide 0 P fd a'.tmps (mC m h w v h') a'.defers .returning w':=by
         refine gJ iS (pi _) a'.defers [] m' J w' (hC'.d.2 rfl) hC'.h E' (fun aE w2 q H2 E2=>?_);rcases q with⟨rfl,_⟩|⟨_,_,_,_,_,q,_⟩
         ·exact yg ax aj H2 E2 hC'.e
         ·cases q
        rcases aA with rfl|rfl
        ·exact this
        ·exact this
      have hwp:c.wpIn Fence.wide 0 P (bodyPostM Fence.wide 0 P fd (mC m h w v h')) {tmps:=List.toArray args++Array.replicate (fd.ntmps-(List.toArray args).size) undef,defers:=[]} w:=by grind
      exact ybo
     ·cases U
    ·cases U
def Evt(c:Nat->aD)(f:Nat)(vs:List V)(h:Heap)(r:V×Heap):Prop:=∃n,∀m,n<=m->c m f vs h=some r
theorem Evt.uniq{c:Nat->aD}{f:Nat}{vs:List V}{h:Heap}{r s:V×Heap}(a:Evt c f vs h r)(b:Evt c f vs h s):r=s:=by
 obtain⟨n,Z⟩:=a;obtain⟨k,U⟩:=b;have e:=Z (max n k) (Nat.le_max_left _ _);rw[U (max n k) (Nat.le_max_right _ _)]at e;cases e;rfl
section
variable {c : Nat -> aD} {L : aD}
def Lim(c:Nat->aD)(L:aD):Prop:=∀f vs h r,L f vs h=some r->Evt c f vs h r
theorem th(R:Lim c L){loc:List V}{env:T V}{h:Heap}{o:IOp}{r:V×Heap}(e:aM L loc env h o=some r):
 ∃n,∀m,n<=m->aM (c m) loc env h o=some r:=by
 cases o;case cf f U=>
  simp only[aM]at e|-;cases hx:eF loc env U with
  |none=>rw[hx]at e;cases e
  |some vs=>rw[hx]at e;exact R _ _ _ _ e
 case cv x U=>
  simp only[aM]at e|-;split at e
  ·split at e
   ·rename_i f first Z D _ vs I
    cases J:Nat.blt f YB
    ·grind
    ·rw[J]at e;simp only[cond_true]at e|-;exact R _ _ _ _ e
   ·cases e
  ·cases e
 all_goals exact⟨0,fun m _=>e⟩
theorem zV(I:Lim c L):∀(l:List IStep)(loc:List V)(env:T V)(h:Heap){e:Ex}{Z:T V}{h':Heap},dN L l loc env h=.ok e Z h'->
 ∃n,∀m,n<=m->dN (c m) l loc env h=.ok e Z h':=by
 intro l;induction l with
 |nil=>intro loc env h e Z h' x;exact⟨0,fun m _=>x⟩
 |cons s l ih=>
  intro loc env h e Z h' x;rw[cQ]at x;simp only[cQ];split at x
  ·rename_i D;split at x
   ·rename_i v h1 R;obtain⟨n,J⟩:=th I R;obtain⟨k,U⟩:=ih _ _ _ x;refine⟨max n k,fun m hm=>?_⟩;rw[J m oM];exact U m oM
   ·cases x
  ·exact ih _ _ _ x
  ·cases x
theorem zR(a b:aD)(loc:List V)(env:T V)(h:Heap)(s:IStep):v8 a loc env h s=v8 b loc env h s:=by
 obtain⟨g,o,d⟩:=s;cases o<;>rfl
theorem EP(a b:aD)(env:T V)(Z:List Nat):∀(l:List IStep)(i:Nat)(loc:List V)(h:Heap),lay a env Z l i loc h=lay b env Z l i loc h:=by
 intro l;induction l with
 |nil=>intro i loc h;rfl
 |cons s l ih=>
  intro i loc h;simp only[lay,zR a b,ih]
theorem gR(call:aD)(env:T V)(s:DS)(l:List DS)(loc:List V)(Z:List Heap)(h:Heap):gU call env (s::l) loc Z h=
      match s.2 with
      |some (u,c)=>bif cL loc env s.1.op u c then gU call env l (u::loc) Z h else none
      |none=>
       match evG loc env s.1.gd with
       |some true=>match aM call loc env h s.1.op with
        |some (v,h')=>bif eff s.1.op then gU call env l (v::loc) (h'::Z) h' else gU call env l (v::loc) Z h
        |none=>none
       |some false=>bif eff s.1.op then gU call env l (.tup []::loc) (h::Z) h else gU call env l (.tup []::loc) Z h
       |none=>none:=by
 show(match s.2 with
  |some (u,c)=>bif cL loc env s.1.op u c then gU call env l (u::loc) Z h else none
  |none=>
   match evG loc env s.1.gd with
   |some true=>match aM call loc env h s.1.op with
    |some (v,h')=>fV v fun v=>bif eff s.1.op then gU call env l (v::loc) (h'::Z) h' else gU call env l (v::loc) Z h
    |none=>none
   |some false=>bif eff s.1.op then gU call env l (.tup []::loc) (h::Z) h else gU call env l (.tup []::loc) Z h
   |none=>none)=_
 simp only[zU]
theorem Iz(hL:Lim c L)(env:T V):∀(l:List DS)(loc:List V)(U:List Heap)(h:Heap){r:List V×List Heap},gU L env l loc U h=some r->
 ∃n,∀m,n<=m->gU (c m) env l loc U h=some r:=by
 intro l;induction l with
 |nil=>intro loc U h r x;exact⟨0,fun m _=>x⟩
 |cons s l ih=>
  intro loc U h r x;rw[gR]at x;simp only[gR];obtain⟨J,s2⟩:=s;cases s2 with
  |some uc=>
   obtain⟨u,cs⟩:=uc;simp only[]at x|-;cases hl:cL loc env J.op u cs
   ·grind
   ·rw[hl]at x;simp only[cond_true]at x|-;exact ih _ _ _ x
  |none=>
   simp only[]at x|-;split at x
   ·rename_i D;split at x
    ·rename_i v h1 ho;obtain⟨n,I⟩:=th hL ho;cases Z:eff J.op
     ·rw[Z]at x;simp only[cond_false]at x;obtain⟨k,R⟩:=ih _ _ _ x;refine⟨max n k,fun m hm=>?_⟩;rw[I m oM];simp only[cond_false];exact R m oM
     ·rw[Z]at x;simp only[cond_true]at x;obtain⟨k,R⟩:=ih _ _ _ x;refine⟨max n k,fun m hm=>?_⟩;rw[I m oM];simp only[cond_true];exact R m oM
    ·cases x
   ·rename_i D;cases Z:eff J.op
    ·rw[Z]at x;simp only[cond_false]at x|-;exact ih _ _ _ x
    ·rw[Z]at x;simp only[cond_true]at x|-;exact ih _ _ _ x
   ·cases x
theorem Et(I:Lim c L)(loc:List V)(env:T V)(o:IOp)(v:V):∀(Z:List Heap),gz L loc env o v Z=true->
 ∃n,∀m,n<=m->gz (c m) loc env o v Z=true:=by
 intro Z;induction Z with
 |nil=>intro _;exact⟨0,fun _ _=>rfl⟩
 |cons h Z ih=>
  intro x;simp only[gz,be]at x|-;obtain⟨a,b⟩:=x;obtain⟨k,R⟩:=ih b;split at a
  ·rename_i u _ J;obtain⟨n,U⟩:=th I J;refine⟨max n k,fun m hm=>⟨?_,R m oM⟩⟩;rw[U m oM];exact a
  ·cases a
theorem Hk(J:Lim c L)(env:T V)(l:List IStep)(loc:List V)(Z:List Heap)(r:Nat×Nat×Nat)(x:kZ L env l loc Z r=true):
 ∃n,∀m,n<=m->kZ (c m) env l loc Z r=true:=by
 obtain⟨i,lo,I⟩:=r;simp only[kZ]at x|-;split at x
 ·rename_i s v loc' _ _;split at x
  ·rename_i R;obtain⟨n,U⟩:=Et J _ _ _ _ _ x;exact⟨n,fun m hm=>U m hm⟩
  ·rename_i R;exact⟨0,fun m _=>rfl⟩
 ·cases x
theorem Ls(R:Lim c L)(env:T V)(l:List IStep)(loc:List V)(Z:List Heap):∀(rs:List (Nat×Nat×Nat)),rs.all (kZ L env l loc Z)=true->
 ∃n,∀m,n<=m->rs.all (kZ (c m) env l loc Z)=true:=by
 intro rs;induction rs with
 |nil=>intro _;exact⟨0,fun _ _=>rfl⟩
 |cons r rs ih=>
  intro x;simp only[Su,be]at x|-;obtain⟨n,U⟩:=Hk R _ _ _ _ _ x.1;obtain⟨k,J⟩:=ih x.2;exact⟨max n k,fun m hm=>⟨U m oM,J m oM⟩⟩
theorem KT(D:Lim c L){l:List IStep}{R:List Nat}{Z:List (Nat×Nat×Nat)}{J:List (Nat×Nat)}{env:T V}{h:Heap}{e:Ex}{U:T V}{h':Heap}
 (x:evD L l R Z J env h=.ok e U h'):∃n,∀m,n<=m->evD (c m) l R Z J env h=.ok e U h':=by
 unfold evD at x|-;simp only[EP _ L];split at x
 ·cases x
 ·rename_i dl h1 hl;split at x
  ·rename_i loc hs hd;obtain⟨n,hn⟩:=Iz D _ _ _ _ _ hd;cases I:Z.all (kZ L env l loc hs)
   ·grind
   ·rw[I]at x;obtain⟨k,hk⟩:=Ls D _ _ _ _ _ I;refine⟨max n k,fun m hm=>?_⟩;rw[hn m oM];simp only[];rw[hk m oM];exact x
  ·cases x
def LF(b:T V->Heap->Out)(bs:Nat->T V->Heap->Out):Prop:=∀env h e env' h',b env h=.ok e env' h'->∃n,∀m,n<=m->bs m env h=.ok e env' h'
theorem yr{b:T V->Heap->Out}{bs:Nat->T V->Heap->Out}(U:LF b bs)(k:Nat):LF (dbl b k) (fun m=>dbl (bs m) k):=by
 induction k with
 |zero=>exact U
 |succ k ih=>
  intro env h e env' h' x;have eq:∀(f:T V->Heap->Out),dbl f (k+1) env h=match dbl f k env h with
   |.ok .norm env h=>dbl f k env h
   |r=>r:=fun _=>rfl
  rw[eq]at x;simp only[eq];split at x
  ·rename_i Z R h2;obtain⟨n,hn⟩:=ih _ _ _ _ _ h2;obtain⟨j,hj⟩:=ih _ _ _ _ _ x;exact yaJ
  ·rename_i h2;obtain⟨n,hn⟩:=ih _ _ _ _ _ x;exact yB
theorem KW(hL:Lim c L):∀(k:IC),LF (evC L k) (fun m=>evC (c m) k):=by
 intro k;induction k with
 |skip=>intro env h e env' h' x;exact⟨0,fun m _=>x⟩
 |ops l=>intro env h e env' h' x;exact zV hL l [] env h x
 |seq a b iha ihb=>
  intro env h e env' h' x;have eq:∀f:aD,evC f (.seq a b) env h=match evC f a env h with
   |.ok .norm env h=>evC f b env h
   |r=>r:=fun _=>rfl
  rw[eq]at x;simp only[eq];split at x
  ·rename_i Z I h2;obtain⟨n,hn⟩:=iha _ _ _ _ _ h2;obtain⟨j,hj⟩:=ihb _ _ _ _ _ x;exact yaJ
  ·rename_i h2;obtain⟨n,hn⟩:=iha _ _ _ _ _ x;exact yB
 |cond o a b iha ihb=>
  intro env h e env' h' x;have eq:∀f:aD,evC f (.cond o a b) env h=match evO [] env o with
   |some (.bool t)=>bif t then evC f a env h else evC f b env h
   |_=>.fail:=fun _=>rfl
  rw[eq]at x;simp only[eq];split at x
  ·rename_i t ht;cases t
   ·exact ihb _ _ _ _ _ x
   ·exact iha _ _ _ _ _ x
  ·cases x
 |block id a iha=>
  intro env h e env' h' x;have eq:∀f:aD,evC f (.block id a) env h=match evC f a env h with
   |.ok (.exit i) env h=>bif Nat.beq i id then .ok .norm env h else .ok (.exit i) env h
   |r=>r:=fun _=>rfl
  rw[eq]at x;simp only[eq];split at x
  ·rename_i i Z I h2;obtain⟨n,hn⟩:=iha _ _ _ _ _ h2;refine⟨n,fun m hm=>?_⟩;have a:=hn m hm;simp only[]at a;rw[a];exact x
  ·rename_i h2;obtain⟨n,hn⟩:=iha _ _ _ _ _ x;refine⟨n,fun m hm=>?_⟩;have a:=hn m hm;simp only[]at a;rw[a];cases e with
   |exit i=>exact absurd x (h2 i env' h')
   |_=>rfl
 |loop a iha=>
  intro env h e env' h' x;have eq:∀f:aD,evC f (.loop a) env h=match dbl (evC f a) 48 env h with
   |.ok .norm _ _=>.fail
   |r=>r:=fun _=>rfl
  rw[eq]at x;simp only[eq];split at x
  ·cases x
  ·rename_i h2;obtain⟨n,hn⟩:=yr iha 48 _ _ _ _ _ x;exact yB
 |exit i=>intro env h e env' h' x;exact⟨0,fun m _=>x⟩
 |ret=>intro env h e env' h' x;exact⟨0,fun m _=>x⟩
 |scope a l r iha ihr=>
  intro env h e env' h' x;have eq:∀f:aD,evC f (.scope a l r) env h=match evC f a env h with
   |.ok (.goto i) env h=>bif Nat.beq i l then
    (match dbl (fun env h=>match evC f r env h with
     |.ok (.goto i) env h=>bif Nat.beq i l then .ok .norm env h else .ok (.goto i) env h
     |.ok .norm env h=>.ok (.goto l) env h
     |r=>r) 48 env h with
     |.ok .norm _ _=>.fail
     |.ok (.goto i) env h=>bif Nat.beq i l then .ok .norm env h else .fail
     |r=>r)
    else .fail
   |r=>r:=fun _=>rfl
  have U:LF (fun env h=>match evC L r env h with
            |.ok (.goto i) env h=>bif Nat.beq i l then .ok .norm env h else .ok (.goto i) env h
            |.ok .norm env h=>.ok (.goto l) env h
            |r=>r) (fun m env h=>match evC (c m) r env h with
            |.ok (.goto i) env h=>bif Nat.beq i l then .ok .norm env h else .ok (.goto i) env h
            |.ok .norm env h=>.ok (.goto l) env h
            |r=>r):=by
   intro env h e env' h' y;simp only[]at y|-;split at y
   ·rename_i i Z I h2;exact yar
   ·rename_i Z I h2;exact yar
   ·rename_i h2 J;obtain⟨n,hn⟩:=ihr _ _ _ _ _ y;refine⟨n,fun m hm=>?_⟩;have a:=hn m hm;simp only[]at a;rw[a];cases e with
    |norm=>exact absurd y (J env' h')
    |goto i=>exact absurd y (h2 i env' h')
    |_=>rfl
  rw[eq]at x;simp only[eq];split at x
  ·rename_i i Z I h2;obtain⟨n,hn⟩:=iha _ _ _ _ _ h2;cases hb:Nat.beq i l
   ·grind
   ·rw[hb]at x;simp only[cond_true]at x;split at x
    ·cases x
    ·rename_i j ab J h4;obtain⟨k,D⟩:=yr U 48 _ _ _ _ _ h4;refine⟨max n k,fun m hm=>?_⟩;have a:=hn m oM;have b:=D m oM;simp only[]at a b;rw[a];simp only[hb,cond_true];rw[b];exact x
    ·rename_i J h4;obtain⟨k,D⟩:=yr U 48 _ _ _ _ _ x;refine⟨max n k,fun m hm=>?_⟩;have a:=hn m oM;have b:=D m oM;simp only[]at a b;rw[a];simp only[hb,cond_true];rw[b];cases e with
     |norm=>exact absurd x (J env' h')
     |goto i=>exact absurd x (h4 i env' h')
     |_=>rfl
  ·rename_i h2;obtain⟨n,hn⟩:=iha _ _ _ _ _ x;refine⟨n,fun m hm=>?_⟩;have a:=hn m hm;simp only[]at a;rw[a];cases e with
   |goto i=>exact absurd x (h2 i env' h')
   |_=>rfl
 |goto l=>intro env h e env' h' x;exact⟨0,fun m _=>x⟩
 |dops l late R reads sets=>intro env h e env' h' x;exact KT hL x
 |bad=>intro env h e env' h' x;cases x
 |wd a iha=>intro env h e env' h' x;cases x
end
open Classical in
def ev(ov:aD)(F:T IFn):aD:=fun f vs h=>
 if x:∃r,Evt (evF ov F) f vs h r then some (Classical.choose x)else none
theorem It{ov:aD}{F:T IFn}:Lim (evF ov F) (ev ov F):=by
 intro f vs h r e;unfold ev at e;split at e
 ·grind
 ·cases e
theorem Iq{ov:aD}{F:T IFn}{f:Nat}{vs:List V}{h:Heap}{r:V×Heap}(e:Evt (evF ov F) f vs h r):ev ov F f vs h=some r:=by
 have x:∃r,Evt (evF ov F) f vs h r:=⟨r,e⟩;unfold ev;rw[dif_pos x];exact congrArg some ((Classical.choose_spec x).uniq e)
theorem Ir{P:Program}{G:Nat}{F:T IFn}{ov:aD}(Z:b9 P (LOK P G) G ov)(U:DT P G F):b9 P (LOK P G) G (ev ov F):=by
 intro f vs h v h' e;obtain⟨n,R⟩:=It _ _ _ _ e;exact pF Z U n f vs h v h' (R n (pi n))
def sB:List V->V
 |[v]=>v
 |vs=>.tup vs
theorem KS{ov:aD}{F:T IFn}{f:Nat}{fn:IFn}{vs:List V}{h h':Heap}{e:Ex}{env:T V}{rs:List V}(hf:F.get f=some fn)(J:Nat.beq vs.length fn.nargs=true)
 (I:evC (ev ov F) fn.body (fA vs 0 .e) h=.ok e env h') (R:e=.norm\/e=.ret) (D:fg env h' fn.results=some rs):ev ov F f vs h=some (sB rs,h'):=by
 refine Iq ?_;obtain⟨n,Z⟩:=KW It fn.body _ _ _ _ _ I;refine⟨n+1,fun m hm=>?_⟩;obtain⟨k,rfl⟩:∃k,m=k+1:=⟨m-1,oM⟩;have eq:evF ov F (k+1) f vs h=match F.get f with
  |some fn=>bif Nat.beq vs.length fn.nargs then
   (match evC (evF ov F k) fn.body (fA vs 0 .e) h with
    |.ok .norm env h=>match fg env h fn.results with
     |some [v]=>fV v fun v=>some (v,h)
     |some vs=>some (.tup vs,h)
     |none=>none
    |.ok .ret env h=>match fg env h fn.results with
     |some [v]=>fV v fun v=>some (v,h)
     |some vs=>some (.tup vs,h)
     |none=>none
    |_=>none)
   else none
  |none=>ov f vs h:=rfl
 have U:=Z k oM;simp only[]at U;have fin:(match fg env h' fn.results with
             |some [v]=>fV v fun v=>some (v,h')
             |some vs=>some (.tup vs,h')
             |none=>none)=some (sB rs,h'):=by
  rw[D];simp only[zU];cases rs with
  |nil=>rfl
  |cons a t=>cases t with
   |nil=>rfl
   |cons b t=>rfl
 rw[eq,hf];simp only[J,cond_true];rw[U];rcases R with rfl|rfl<;>exact fin
theorem O7{ov:aD}{F:T IFn}{f:Nat}{vs:List V}{h:Heap}{r:V×Heap}(hf:F.get f=none)(Z:Nat.ble YB f=false)(e:ov f vs h=some r):ev ov F f vs h=some r:=by
 refine Iq ⟨1,fun m hm=>?_⟩;obtain⟨k,rfl⟩:∃k,m=k+1:=⟨m-1,oM⟩;show(match F.get f with
  |some fn=>_
  |none=>ov f vs h)=_
 rw[hf];exact e
theorem exS{α:Type}{v:α}{P:α->Prop}:(∃x,some v=some x/\P x)↔P v:=⟨fun⟨_,e,k⟩=>by cases e;exact k,fun k=>⟨v,rfl,k⟩⟩
section
variable {call : aD} {env : T V} {h : Heap} {loc : List V}
def OQ(o:Option (V×Heap))(K:V->Heap->Prop):Prop:=∃v h,o=some (v,h)/\K v h
theorem cD(v:V)(h:Heap)(K:V->Heap->Prop):OQ (some (v,h)) K↔K v h:=
 ⟨fun⟨_,_,e,k⟩=>by cases e;exact k,fun k=>⟨v,h,rfl,k⟩⟩
def VQ(o:Option V)(K:V->Heap->Prop)(h:Heap):Prop:=∃v,o=some v/\K v h
theorem DH(v:V)(K:V->Heap->Prop)(h:Heap):VQ (some v) K h↔K v h:=exS
def HQ(o:Option Heap)(K:V->Heap->Prop):Prop:=∃h,o=some h/\K (.tup []) h
theorem DN(h:Heap)(K:V->Heap->Prop):HQ (some h) K↔K (.tup []) h:=exS
theorem OQ.mono{o:Option (V×Heap)}{K Z:V->Heap->Prop}(a:OQ o K)(b:∀v h,K v h->Z v h):OQ o Z:=by
 obtain⟨v,h,e,k⟩:=a;exact⟨v,h,e,b _ _ k⟩
theorem qj(k:Nat):evO loc env (.l k)=nth loc k:=rfl
theorem jN(s:Nat):evO loc env (.v s)=env.get s:=rfl
theorem Dg(x:V):evO loc env (.c x)=some x:=rfl
theorem Mq(n:Nat):evO loc env (.g n)=some (.ptr n 0):=rfl
def Dk(a:Option V)(b:Option (List V)):Option (List V):=match a,b with
 |some v,some vs=>some (v::vs)
 |_,_=>none
theorem cZ(v:V)(vs:List V):Dk (some v) (some vs)=some (v::vs):=rfl
theorem eN:eF loc env []=some []:=rfl
theorem iv(x:Opd)(Z:List Opd):eF loc env (x::Z)=Dk (evO loc env x) (eF loc env Z):=by
 show Option.rec (motive:=fun _=>Option (List V)) none (fun v=>Option.rec (motive:=fun _=>Option (List V)) none (fun vs=>some (v::vs)) (eF loc env Z)) (evO loc env x)=_;cases evO loc env x<;>cases eF loc env Z<;>rfl
theorem fM(v:V)(l:List V):nth (v::l) 0=some v:=rfl
theorem sG(v:V)(l:List V)(k:Nat):nth (v::l) (k+1)=nth l k:=rfl
theorem wL(i:Nat)(en:T V):fA [] i en=en:=rfl
def PQ(k:PK)(o:Option (List V))(K:V->Heap->Prop)(h:Heap):Prop:=∃vs,o=some vs/\VQ (aP k vs) K h
theorem DL(k:PK)(vs:List V)(K:V->Heap->Prop):PQ k (some vs) K h↔VQ (aP k vs) K h:=exS
theorem Ot(k:PK)(Z:List Opd)(K:V->Heap->Prop):OQ (aM call loc env h (.p k Z)) K↔PQ k (eF loc env Z) K h:=by
 simp only[aM,OQ,PQ,VQ];cases eF loc env Z with
 |none=>simp
 |some vs=>cases hx:aP k vs with
  |none=>simp[hx]
  |some v=>simp[hx,and_assoc]
def LQ(h:Heap)(n:Nat)(ia:Bool)(o:Option V)(K:V->Heap->Prop):Prop:=∃p,o=some p/\VQ (jm h n ia p) K h
theorem DM(n:Nat)(ia:Bool)(p:V)(K:V->Heap->Prop):LQ h n ia (some p) K↔VQ (jm h n ia p) K h:=exS
theorem LT(n:Nat)(Z:Bool)(x:Opd)(K:V->Heap->Prop):OQ (aM call loc env h (.ld n Z x)) K↔LQ h n Z (evO loc env x) K:=by
 simp only[aM,OQ,LQ,VQ];cases evO loc env x with
 |none=>simp
 |some p=>cases hx:jm h n Z p with
  |none=>simp[hx]
  |some v=>simp[hx,and_assoc]
def SQ(h:Heap)(n:Nat)(o u:Option V)(K:V->Heap->Prop):Prop:=∃p v,o=some p/\u=some v/\HQ (gm h n p v) K
theorem DJ(n:Nat)(p v:V)(K:V->Heap->Prop):SQ h n (some p) (some v) K↔HQ (gm h n p v) K:=
 ⟨fun⟨_,_,e,e2,k⟩=>by cases e;cases e2;exact k,fun k=>⟨p,v,rfl,rfl,k⟩⟩
theorem LR(n:Nat)(x y:Opd)(K:V->Heap->Prop):OQ (aM call loc env h (.st n x y)) K↔SQ h n (evO loc env x) (evO loc env y) K:=by
 simp only[aM,OQ,SQ,HQ];cases evO loc env x with
 |none=>simp
 |some p=>cases evO loc env y with
  |none=>simp
  |some v=>cases hx:gm h n p v with
   |none=>simp[hx]
   |some h'=>simp[hx,and_assoc]
theorem L9(zero:List V)(K:V->Heap->Prop):OQ (aM call loc env h (.al zero)) K↔K (.ptr h.next 0) (halloc h zero):=by
 simp only[aM,cD]
def BQ(o:Option V)(K:V->Heap->Prop)(h:Heap):Prop:=∃v,o=some v/\K (.ptr h.next 0) (halloc h v.cells)
theorem D4(v:V)(K:V->Heap->Prop):BQ (some v) K h↔K (.ptr h.next 0) (halloc h v.cells):=exS
theorem LY(x:Opd)(K:V->Heap->Prop):OQ (aM call loc env h (.bx x)) K↔BQ (evO loc env x) K h:=by
 simp only[aM,OQ,BQ];cases evO loc env x with
 |none=>simp
 |some v=>simp[and_assoc]
def BsQ(h:Heap)(zero:List V)(places:List (Nat×Nat))(len:Nat)(o:Option (List V))(K:V->Heap->Prop):Prop:=∃vs,o=some vs/\OQ (jI h zero places len vs) K
theorem AJ(zero:List V)(places:List (Nat×Nat))(len:Nat)(vs:List V)(K:V->Heap->Prop):BsQ h zero places len (some vs) K↔OQ (jI h zero places len vs) K:=exS
theorem LZ(zero:List V)(Z:List (Nat×Nat))(len:Nat)(U:List Opd)(K:V->Heap->Prop):
 OQ (aM call loc env h (.bs zero Z len U)) K↔BsQ h zero Z len (eF loc env U) K:=by
 simp only[aM,OQ,BsQ];cases eF loc env U with
 |none=>simp
 |some vs=>simp
def Cl(f:V->V->Option (V×Heap))(a b:Option V)(K:V->Heap->Prop):Prop:=∃x y,a=some x/\b=some y/\OQ (f x y) K
theorem wR(f:V->V->Option (V×Heap))(x y:V)(K:V->Heap->Prop):Cl f (some x) (some y) K↔OQ (f x y) K:=
 ⟨fun⟨_,_,e,e2,k⟩=>by cases e;cases e2;exact k,fun k=>⟨x,y,rfl,rfl,k⟩⟩
theorem LS(zero:List V)(bytes:Nat)(x y:Opd)(K:V→Heap→Prop):
 OQ (aM call loc env h (.mk zero bytes x y)) K↔Cl (Ay h zero bytes) (evO loc env x) (evO loc env y) K:=by
 simp only[aM,OQ,Cl];cases evO loc env x with
 |none=>simp
 |some l=>cases evO loc env y with
  |none=>simp
  |some c=>simp
theorem L6(esz bytes:Nat)(x y:Opd)(K:V→Heap→Prop):
 OQ (aM call loc env h (.ap esz bytes x y)) K↔Cl (dK h esz bytes) (evO loc env x) (evO loc env y) K:=by
 simp only[aM,OQ,Cl];cases evO loc env x with
 |none=>simp
 |some l=>cases evO loc env y with
  |none=>simp
  |some c=>simp
theorem LW(esz:Nat)(x y:Opd)(K:V→Heap→Prop):
 OQ (aM call loc env h (.cp esz x y)) K↔Cl (AB h esz) (evO loc env x) (evO loc env y) K:=by
 simp only[aM,OQ,Cl];cases evO loc env x with
 |none=>simp
 |some l=>cases evO loc env y with
  |none=>simp
  |some c=>simp
def CfQ(call:aD)(f:Nat)(o:Option (List V))(h:Heap)(K:V->Heap->Prop):Prop:=∃vs,o=some vs/\OQ (call f vs h) K
theorem AI(f:Nat)(vs:List V)(K:V->Heap->Prop):CfQ call f (some vs) h K↔OQ (call f vs h) K:=exS
theorem LX(f:Nat)(Z:List Opd)(K:V->Heap->Prop):OQ (aM call loc env h (.cf f Z)) K↔CfQ call f (eF loc env Z) h K:=by
 simp only[aM,OQ,CfQ];cases eF loc env Z with
 |none=>simp
 |some vs=>simp
def FQ(call:aD)(h:Heap)(o:Option V)(vs:Option (List V))(K:V->Heap->Prop):Prop:=
 ∃us,vs=some us/\∃f first caps,o=some (.func (.func f) first caps)/\f<1099511627776/\OQ (call f (first++us++caps) h) K
theorem DU(f:Nat)(first caps us:List V)(K:V->Heap->Prop):FQ call h (some (.func (.func f) first caps)) (some us) K↔(f<1099511627776/\OQ (call f (first++us++caps) h) K):=
 ⟨fun⟨_,e2,_,_,_,e,k⟩=>(by cases e2;cases e;exact k),fun k=>⟨us,rfl,f,first,caps,rfl,k⟩⟩
theorem LU(x:Opd)(R:List Opd)(K:V->Heap->Prop):OQ (aM call loc env h (.cv x R)) K↔FQ call h (evO loc env x) (eF loc env R) K:=by
 simp only[aM,OQ,FQ];constructor
 ·rintro⟨v,h',e,k⟩;split at e
  ·rename_i f first Z hx
   cases J:eF loc env R with
   |none=>rw[J]at e;cases e
   |some us=>
    rw[J]at e;simp only[]at e;cases U:Nat.blt f YB
    ·grind
    ·rw[U]at e;simp only[cond_true]at e;exact⟨us,rfl,f,first,Z,hx,(QJ ..).mp U,v,h',e,k⟩
  ·cases e
 ·rintro⟨us,D,f,first,Z,I,hf,v,h',e,k⟩;refine⟨v,h',?_,k⟩;rw[I,D];have U:Nat.blt f YB=true:=(QJ ..).mpr hf;simp only[U,cond_true];exact e
def Ql(h:Heap)(zero:List V)(o:Option V)(K:V->Heap->Prop):Prop:=∃v,o=some v/\OQ (Pe h zero v) K
theorem wT(zero:List V)(v:V)(K:V->Heap->Prop):Ql h zero (some v) K↔OQ (Pe h zero v) K:=exS
def WS(call:aD)(l:List IStep)(loc:List V)(env:T V)(h:Heap)(Q:T V->Heap->Prop):Prop:=∃env' h',dN call l loc env h=.ok .norm env' h'/\Q env' h'
theorem JA(Q:T V->Heap->Prop):WS call [] loc env h Q↔Q env h:=
 ⟨fun⟨_,_,e,q⟩=>by cases e;exact q,fun q=>⟨env,h,rfl,q⟩⟩
def kl(call:aD)(l:List IStep)(loc:List V)(env:T V)(Q:T V->Heap->Prop):V->Heap->Prop:=fun v h=>WS call l (v::loc) env h Q
def kv(call:aD)(l:List IStep)(loc:List V)(env:T V)(d:Nat)(Q:T V->Heap->Prop):V->Heap->Prop:=fun v h=>WS call l loc (env.set d v) h Q
theorem H5(l:List IStep)(Q:T V->Heap->Prop)(v:V):kl call l loc env Q v h↔WS call l (v::loc) env h Q:=Sm
theorem HY(l:List IStep)(d:Nat)(Q:T V->Heap->Prop)(v:V):kv call l loc env d Q v h↔WS call l loc (env.set d v) h Q:=Sm
theorem Pg(o:IOp)(l:List IStep)(Q:T V->Heap->Prop):WS call (⟨none,o,none⟩::l) loc env h Q↔OQ (aM call loc env h o) (kl call l loc env Q):=by
 simp only[WS,cQ,evG,OQ,kl];exact yaO
theorem Pf(o:IOp)(d:Nat)(l:List IStep)(Q:T V->Heap->Prop):WS call (⟨none,o,some d⟩::l) loc env h Q↔OQ (aM call loc env h o) (kv call l loc env d Q):=by
 simp only[WS,cQ,evG,OQ,kv];exact yaO
def GQ(o:Option V)(want:Bool)(A B:Prop):Prop:=(∃b,o=some (.bool b)/\if b=want then A else B)\/((∃l,o=some (.tup l))/\B)
theorem oF(b want:Bool)(A B:Prop):GQ (some (.bool b)) want A B↔if b=want then A else B:=
 ⟨fun x=>(by
  rcases x with⟨_,e,k⟩|⟨⟨_,e⟩,_⟩
  ·cases e;exact k
  ·cases e),fun k=>.inl ⟨b,rfl,k⟩⟩
theorem Cn(t:List V)(want:Bool)(A B:Prop):GQ (some (.tup t)) want A B↔B:=
 ⟨fun x=>(by
  rcases x with⟨_,e,k⟩|⟨_,k⟩
  ·cases e
  ·exact k),fun k=>.inr ⟨⟨t,rfl⟩,k⟩⟩
def GS(o:Option V)(want:Bool)(call:aD)(p:IOp)(l:List IStep)(loc:List V)(env:T V)(h:Heap)(Q:T V->Heap->Prop):Prop:=
 GQ o want (OQ (aM call loc env h p) (kl call l loc env Q)) (WS call l (.tup []::loc) env h Q)
theorem DP(b want:Bool)(p:IOp)(l:List IStep)(Q:T V->Heap->Prop):GS (some (.bool b)) want call p l loc env h Q↔
 if b=want then OQ (aM call loc env h p) (kl call l loc env Q)else WS call l (.tup []::loc) env h Q:=oF _ _ _ _
theorem JP(t:List V)(want:Bool)(p:IOp)(l:List IStep)(Q:T V->Heap->Prop):GS (some (.tup t)) want call p l loc env h Q↔WS call l (.tup []::loc) env h Q:=Cn _ _ _ _
def GV(o:Option V)(want:Bool)(call:aD)(p:IOp)(d:Nat)(l:List IStep)(loc:List V)(env:T V)(h:Heap)(Q:T V->Heap->Prop):Prop:=
 GQ o want (OQ (aM call loc env h p) (kv call l loc env d Q)) (WS call l loc (env.set d (.tup [])) h Q)
theorem DO(b want:Bool)(p:IOp)(d:Nat)(l:List IStep)(Q:T V->Heap->Prop):GV (some (.bool b)) want call p d l loc env h Q↔
 if b=want then OQ (aM call loc env h p) (kv call l loc env d Q)else WS call l loc (env.set d (.tup [])) h Q:=oF _ _ _ _
theorem JO(t:List V)(want:Bool)(p:IOp)(d:Nat)(l:List IStep)(Q:T V->Heap->Prop):GV (some (.tup t)) want call p d l loc env h Q↔WS call l loc (env.set d (.tup [])) h Q:=Cn _ _ _ _
theorem Ph(x:Opd)(want:Bool)(o:IOp)(l:List IStep)(Q:T V->Heap->Prop):WS call (⟨some (x,want),o,none⟩::l) loc env h Q↔GS (evO loc env x) want call o l loc env h Q:=by
 simp only[WS,cQ,evG,OQ,GQ,GS,kl];exact ym
theorem ME(x:Opd)(want:Bool)(o:IOp)(d:Nat)(l:List IStep)(Q:T V->Heap->Prop):WS call (⟨some (x,want),o,some d⟩::l) loc env h Q↔GV (evO loc env x) want call o d l loc env h Q:=by
 simp only[WS,cQ,evG,OQ,GQ,GV,kv];exact ym
def W(call:aD)(c:IC)(env:T V)(h:Heap)(Q:Ex->T V->Heap->Prop):Prop:=∃e env' h',evC call c env h=.ok e env' h'/\Q e env' h'
def yU(call:aD)(b:IC)(Q:Ex->T V->Heap->Prop):Ex->T V->Heap->Prop:=fun e env h=>match e with
 |.norm=>W call b env h Q
 |e=>Q e env h
theorem ru(b:IC)(Q:Ex->T V->Heap->Prop):yU call b Q .norm env h↔W call b env h Q:=Sm
theorem uQ(b:IC)(Q:Ex->T V->Heap->Prop):yU call b Q .ret env h↔Q .ret env h:=Sm
theorem rD(b:IC)(i:Nat)(Q:Ex->T V->Heap->Prop):yU call b Q (.exit i) env h↔Q (.exit i) env h:=Sm
theorem rA(b:IC)(i:Nat)(Q:Ex->T V->Heap->Prop):yU call b Q (.goto i) env h↔Q (.goto i) env h:=Sm
theorem Jw(Q:Ex->T V->Heap->Prop):W call .skip env h Q↔Q .norm env h:=
 ⟨fun⟨_,_,_,e,q⟩=>by cases e;exact q,fun q=>⟨_,_,_,rfl,q⟩⟩
theorem MB(Q:Ex->T V->Heap->Prop):W call .ret env h Q↔Q .ret env h:=
 ⟨fun⟨_,_,_,e,q⟩=>by cases e;exact q,fun q=>⟨_,_,_,rfl,q⟩⟩
theorem Jy(i:Nat)(Q:Ex->T V->Heap->Prop):W call (.exit i) env h Q↔Q (.exit i) env h:=
 ⟨fun⟨_,_,_,e,q⟩=>by cases e;exact q,fun q=>⟨_,_,_,rfl,q⟩⟩
theorem Jx(i:Nat)(Q:Ex->T V->Heap->Prop):W call (.goto i) env h Q↔Q (.goto i) env h:=
 ⟨fun⟨_,_,_,e,q⟩=>by cases e;exact q,fun q=>⟨_,_,_,rfl,q⟩⟩
theorem W.mono{c:IC}{Q Q':Ex->T V->Heap->Prop}(a:W call c env h Q)(b:∀e env h,Q e env h->Q' e env h):W call c env h Q':=by
 obtain⟨e,Z,h',x,q⟩:=a;exact⟨e,Z,h',x,b _ _ _ q⟩
theorem yd(a b:IC):evC call (.seq a b) env h=match evC call a env h with
      |.ok .norm env h=>evC call b env h
      |r=>r:=rfl
theorem MA(a b:IC)(Q:Ex->T V->Heap->Prop):W call (.seq a b) env h Q↔W call a env h (yU call b Q):=by
 constructor
 ·rintro⟨e,Z,h',x,q⟩;rw[yd]at x;split at x
  ·rename_i U R J;exact⟨.norm,U,R,J,e,Z,h',x,q⟩
  ·rename_i J;refine⟨e,Z,h',x,?_⟩;cases e with
   |norm=>exact absurd x (J Z h')
   |_=>exact q
 ·rintro⟨e,U,R,x,q⟩;cases e with
  |norm=>
   obtain⟨e,Z,h',y,q⟩:=q;exact⟨e,Z,h',by rw[yd,x];exact y,q⟩
  |_=>exact⟨_,U,R,by rw[yd,x],q⟩
def Mv(o:Option V)(call:aD)(a b:IC)(env:T V)(h:Heap)(Q:Ex->T V->Heap->Prop):Prop:=∃t,o=some (.bool t)/\if t=true then W call a env h Q else W call b env h Q
theorem tz(t:Bool)(a b:IC)(Q:Ex->T V->Heap->Prop):Mv (some (.bool t)) call a b env h Q↔if t=true then W call a env h Q else W call b env h Q:=
 ⟨fun⟨_,e,k⟩=>by cases e;exact k,fun k=>⟨t,rfl,k⟩⟩
theorem Jz(x:Opd)(a b:IC)(Q:Ex->T V->Heap->Prop):W call (.cond x a b) env h Q↔Mv (evO [] env x) call a b env h Q:=by
 have eq:evC call (.cond x a b) env h=match evO [] env x with
  |some (.bool t)=>bif t then evC call a env h else evC call b env h
  |_=>.fail:=rfl
 constructor
 ·rintro⟨e,env',h',y,q⟩;rw[eq]at y;split at y
  ·rename_i t ht;refine⟨t,ht,?_⟩;cases t
   ·exact⟨e,env',h',y,q⟩
   ·exact⟨e,env',h',y,q⟩
  ·cases y
 ·rintro⟨t,ht,k⟩;cases t
  ·exact ybl
  ·exact ybl
def uh(id:Nat)(Q:Ex->T V->Heap->Prop):Ex->T V->Heap->Prop:=fun e env h=>match e with
 |.exit i=>if i=id then Q .norm env h else Q (.exit i) env h
 |e=>Q e env h
theorem qA(id:Nat)(Q:Ex->T V->Heap->Prop):uh id Q .norm env h↔Q .norm env h:=Sm
theorem uf(id:Nat)(Q:Ex->T V->Heap->Prop):uh id Q .ret env h↔Q .ret env h:=Sm
theorem qB(id i:Nat)(Q:Ex->T V->Heap->Prop):uh id Q (.goto i) env h↔Q (.goto i) env h:=Sm
theorem ii(id i:Nat)(Q:Ex->T V->Heap->Prop):uh id Q (.exit i) env h↔if i=id then Q .norm env h else Q (.exit i) env h:=Sm
theorem DG(id:Nat)(a:IC)(Q:Ex->T V->Heap->Prop):W call (.block id a) env h Q↔W call a env h (uh id Q):=by
 have eq:evC call (.block id a) env h=match evC call a env h with
  |.ok (.exit i) env h=>bif Nat.beq i id then .ok .norm env h else .ok (.exit i) env h
  |r=>r:=rfl
 constructor
 ·rintro⟨e,U,h',x,q⟩;rw[eq]at x;split at x
  ·rename_i i Z J I;refine⟨_,_,_,I,?_⟩;rw[ii];by_cases R:i=id
   ·subst R;simp at x;obtain⟨rfl,rfl,rfl⟩:=x;simpa using q
   ·rw[if_neg R];have:Nat.beq i id=false:=by cases hb:Nat.beq i id;rfl;exact absurd (py hb) R
    rw[this]at x;cases x;exact q
  ·rename_i I;refine⟨e,U,h',x,?_⟩;cases e with
   |exit i=>exact absurd x (I i U h')
   |_=>exact q
 ·rintro⟨e,Z,J,x,q⟩;cases e with
  |exit i=>
   rw[ii]at q;by_cases R:i=id
   ·rw[if_pos R]at q;exact⟨.norm,Z,J,by rw[eq,x];subst R;simp,q⟩
   ·rw[if_neg R]at q;have:Nat.beq i id=false:=by cases hb:Nat.beq i id;rfl;exact absurd (py hb) R
    exact⟨.exit i,Z,J,by rw[eq,x];simp only[this,cond_false],q⟩
  |_=>exact⟨_,Z,J,by rw[eq,x],q⟩
theorem MC(l:List IStep)(Q:Ex->T V->Heap->Prop):W call (.ops l) env h Q↔WS call l [] env h (Q .norm):=by
 constructor
 ·rintro⟨e,Z,h',x,q⟩;have U:∀(l:List IStep)(loc:List V)(env:T V)(h:Heap),dN call l loc env h=.ok e Z h'->e=.norm:=by
   intro l;induction l with
   |nil=>intro loc env h x;cases x;rfl
   |cons s l ih=>
    intro loc env h x;rw[cQ]at x;split at x
    ·grind
    ·exact ih _ _ _ x
    ·cases x
  have:=U _ _ _ _ x;subst this;exact⟨Z,h',x,q⟩
 ·rintro⟨Z,h',x,q⟩;exact⟨_,_,_,x,q⟩
def itr(body:T V->Heap->Out):Nat->T V->Heap->Out
 |0,env,h=>.ok .norm env h
 |n+1,env,h=>match body env h with
  |.ok .norm env h=>itr body n env h
  |r=>r
theorem Kz(body:T V->Heap->Out):∀(a b:Nat)(env:T V)(h:Heap),itr body (a+b) env h=match itr body a env h with
 |.ok .norm env h=>itr body b env h
 |r=>r:=by
 intro a;induction a with
 |zero=>intro b env h;simp[itr]
 |succ a ih=>
  intro b env h;rw[Nat.succ_add];simp only[itr];cases body env h with
  |fail=>rfl
  |ok e env1 h1=>cases e with
   |norm=>exact ih b env1 h1
   |_=>rfl
theorem qU(body:T V->Heap->Out)(k:Nat):∀(env:T V)(h:Heap),dbl body k env h=itr body (2^k) env h:=by
 induction k with
 |zero=>
  intro env h;show body env h=itr body 1 env h;simp only[itr];cases body env h with
  |fail=>rfl
  |ok e env1 h1=>cases e<;>rfl
 |succ k ih=>
  intro env h;show(match dbl body k env h with
   |.ok .norm env h=>dbl body k env h
   |r=>r)=_
  rw[TK,Nat.mul_two,Kz,ih];cases itr body (2^k) env h with
  |fail=>rfl
  |ok e env1 h1=>cases e with
   |norm=>exact ih env1 h1
   |_=>rfl
def mg(I:Nat->T V->Heap->Prop)(k:Nat)(Q:Ex->T V->Heap->Prop):Ex->T V->Heap->Prop:=fun e env h=>match e with
 |.norm=>∃k',k'<k/\I k' env h
 |e=>Q e env h
theorem LO(I:Nat->T V->Heap->Prop)(k:Nat)(Q:Ex->T V->Heap->Prop):mg I k Q .norm env h↔∃k',k'<k/\I k' env h:=Sm
theorem sg(I:Nat->T V->Heap->Prop)(k:Nat)(Q:Ex->T V->Heap->Prop):mg I k Q .ret env h↔Q .ret env h:=Sm
theorem pU(I:Nat->T V->Heap->Prop)(k i:Nat)(Q:Ex->T V->Heap->Prop):mg I k Q (.exit i) env h↔Q (.exit i) env h:=Sm
theorem pT(I:Nat->T V->Heap->Prop)(k i:Nat)(Q:Ex->T V->Heap->Prop):mg I k Q (.goto i) env h↔Q (.goto i) env h:=Sm
theorem Mg{body:T V->Heap->Out}(I:Nat->T V->Heap->Prop)(Q:Ex->T V->Heap->Prop)
 (R:∀k env h,I k env h->∃e env' h',body env h=.ok e env' h'/\mg I k Q e env' h'):
 ∀(n k:Nat)(env:T V)(h:Heap),I k env h->k<n->∃e env' h',itr body n env h=.ok e env' h'/\e≠.norm/\Q e env' h':=by
 intro n;induction n with
 |zero=>intro k env h _ U;omega
 |succ n ih=>
  intro k env h hI U;obtain⟨e,Z,J,x,q⟩:=R k env h hI;simp only[itr,x];cases e with
  |norm=>
   obtain⟨k',D,q⟩:=q;exact ih k' Z J q oM
  |_=>exact⟨_,_,_,rfl,iS,q⟩
theorem aw{body:IC}{Q:Ex->T V->Heap->Prop}(I:Nat->T V->Heap->Prop)(n:Nat)(U:n<281474976710656)(h0:I n env h)
 (R:∀k env h,I k env h->W call body env h (mg I k Q)):W call (.loop body) env h Q:=by
 have eq:evC call (.loop body) env h=match dbl (evC call body) 48 env h with
  |.ok .norm _ _=>.fail
  |r=>r:=rfl
 obtain⟨e,Z,h',x,ne,q⟩:=Mg I Q R (2^48) n env h h0 (eV U);refine⟨e,Z,h',?_,q⟩;rw[eq,qU,x];cases e with
 |norm=>exact absurd rfl ne
 |_=>rfl
theorem Lu{c r:IC}{l:Nat}{Q:Ex->T V->Heap->Prop}(I:Nat->T V->Heap->Prop)(n:Nat)(hn:n<281474976710656)
 (h0:W call c env h (fun e env' h'=>match e with
  |.goto i=>i=l/\I n env' h'
  |e=>Q e env' h'))
 (D:∀k env h,I k env h->W call r env h (fun e env' h'=>match e with
  |.goto i=>i=l/\∃k',k'<k/\I k' env' h'
  |e=>Q e env' h')):W call (.scope c l r) env h Q:=by
 have eq:evC call (.scope c l r) env h=match evC call c env h with
  |.ok (.goto i) env h=>bif Nat.beq i l then
   (match dbl (fun env h=>match evC call r env h with
    |.ok (.goto i) env h=>bif Nat.beq i l then .ok .norm env h else .ok (.goto i) env h
    |.ok .norm env h=>.ok (.goto l) env h
    |r=>r) 48 env h with
    |.ok .norm _ _=>.fail
    |.ok (.goto i) env h=>bif Nat.beq i l then .ok .norm env h else .fail
    |r=>r)
   else .fail
  |r=>r:=rfl
 obtain⟨e,U,h1,x,q⟩:=h0;cases e with
 |goto i=>
  obtain⟨rfl,q⟩:=q;obtain⟨e,env',h',y,ne,q⟩:=Mg (body:=fun env h=>match evC call r env h with
            |.ok (.goto j) env h=>bif Nat.beq j i then .ok .norm env h else .ok (.goto j) env h
            |.ok .norm env h=>.ok (.goto i) env h
            |r=>r) I (fun e env' h'=>match e with
             |.goto j=>j=i/\Q .norm env' h'
             |e=>Q e env' h') (fun k env h hI=>by
   obtain⟨e,Z,R,z,q⟩:=D k env h hI;simp only[z];cases e with
   |norm=>exact⟨_,_,_,rfl,rfl,q⟩
   |goto j=>
    obtain⟨rfl,k',J,q⟩:=q;exact⟨.norm,Z,R,iS,k',J,q⟩
   |_=>exact⟨_,_,_,rfl,q⟩) (2^48) n U h1 q (eV hn)
  cases e with
  |norm=>exact absurd rfl ne
  |goto j=>
   obtain⟨rfl,q⟩:=q;refine⟨.norm,env',h',?_,q⟩;rw[eq,x];simp only[Rk,cond_true,qU];rw[y];simp
  |ret=>
   refine⟨.ret,env',h',?_,q⟩;rw[eq,x];simp only[Rk,cond_true,qU];rw[y]
  |exit j=>
   refine⟨.exit j,env',h',?_,q⟩;rw[eq,x];simp only[Rk,cond_true,qU];rw[y]
 |norm=>exact⟨_,_,_,by rw[eq,x],q⟩
 |ret=>exact⟨_,_,_,by rw[eq,x],q⟩
 |exit j=>exact⟨_,_,_,by rw[eq,x],q⟩
theorem Kl(l:List IStep):∀(i:Nat)(loc:List V)(h:Heap),lay call env [] l i loc h=some (l.map fun s=>(s,none),h):=by
 induction l with
 |nil=>intro i loc h;rfl
 |cons s l ih=>intro i loc h;simp[lay,ih]
def WD(call:aD)(env:T V)(l:List DS)(loc:List V)(hs:List Heap)(h:Heap)(K:List V->List Heap->Prop):Prop:=
 ∃loc' hs',gU call env l loc hs h=some (loc',hs')/\K loc' hs'
theorem JB(hs:List Heap)(K:List V->List Heap->Prop):WD call env [] loc hs h K↔K loc hs:=
 ⟨fun⟨_,_,e,k⟩=>by cases e;exact k,fun k=>⟨_,_,rfl,k⟩⟩
def kd(call:aD)(env:T V)(l:List DS)(loc:List V)(hs:List Heap)(h:Heap)(e:Bool)(K:List V->List Heap->Prop):V->Heap->Prop:=fun v h'=>
 if e=true then WD call env l (v::loc) (h'::hs) h' K else WD call env l (v::loc) hs h K
theorem OO(l:List DS)(Z:List Heap)(h0:Heap)(K:List V->List Heap->Prop)(v:V):kd call env l loc Z h0 true K v h↔WD call env l (v::loc) (h::Z) h K:=by simp[kd]
theorem OP(l:List DS)(Z:List Heap)(h0:Heap)(K:List V->List Heap->Prop)(v:V):kd call env l loc Z h0 false K v h↔WD call env l (v::loc) Z h0 K:=by simp[kd]
theorem Pj(o:IOp)(l:List DS)(Z:List Heap)(K:List V->List Heap->Prop):WD call env ((⟨none,o,none⟩,none)::l) loc Z h K↔
 OQ (aM call loc env h o) (kd call env l loc Z h (eff o) K):=by
 simp only[WD,gR,evG,OQ,kd];cases aM call loc env h o with
 |none=>simp
 |some r=>obtain⟨v,h'⟩:=r;cases eff o<;>simp[and_assoc]
def GD(o:Option V)(want:Bool)(call:aD)(env:T V)(p:IOp)(l:List DS)(loc:List V)(hs:List Heap)(h:Heap)(e:Bool)(K:List V->List Heap->Prop):Prop:=
 GQ o want (OQ (aM call loc env h p) (kd call env l loc hs h e K)) (if e=true then WD call env l (.tup []::loc) (h::hs) h K else WD call env l (.tup []::loc) hs h K)
theorem DR(b want:Bool)(p:IOp)(l:List DS)(hs:List Heap)(e:Bool)(K:List V->List Heap->Prop):GD (some (.bool b)) want call env p l loc hs h e K↔
 if b=want then OQ (aM call loc env h p) (kd call env l loc hs h e K)else(if e=true then WD call env l (.tup []::loc) (h::hs) h K else WD call env l (.tup []::loc) hs h K):=oF _ _ _ _
theorem JR(t:List V)(want:Bool)(p:IOp)(l:List DS)(hs:List Heap)(e:Bool)(K:List V->List Heap->Prop):GD (some (.tup t)) want call env p l loc hs h e K↔
 (if e=true then WD call env l (.tup []::loc) (h::hs) h K else WD call env l (.tup []::loc) hs h K):=Cn _ _ _ _
theorem Pk(x:Opd)(Z:Bool)(o:IOp)(l:List DS)(U:List Heap)(K:List V->List Heap->Prop):WD call env ((⟨some (x,Z),o,none⟩,none)::l) loc U h K↔
 GD (evO loc env x) Z call env o l loc U h (eff o) K:=by
 simp only[WD,gR,evG,OQ,GQ,GD,kd];cases evO loc env x with
 |none=>simp
 |some b=>
  cases b with
  |bool b=>
   have R:(!(xor b Z))=decide (b=Z):=by grind
   simp only[R];by_cases J:b=Z
   ·grind
   ·grind
  |tup t=>cases eff o<;>simp
  |_=>simp
theorem cR(s:IStep)(u:V)(c:List V)(l:List DS)(Z:List Heap)(K:List V->List Heap->Prop):WD call env ((s,some (u,c))::l) loc Z h K↔
 cL loc env s.op u c=true/\WD call env l (u::loc) Z h K:=by
 simp only[WD,gR];cases cL loc env s.op u c<;>simp
def DE(call:aD)(l:List IStep)(reads:List (Nat×Nat×Nat))(sets:List (Nat×Nat))(env:T V)(Q:T V->Heap->Prop)(loc:List V)(hs:List Heap):Prop:=
 reads.all (kZ call env l loc hs)=true/\∃env' h' hs',hJ l.length loc sets env=some env'/\hs=h'::hs'/\Q env' h'
theorem Lv(l:List IStep)(U R:List Nat)(Z:List (Nat×Nat×Nat))(J:List (Nat×Nat))(Q:Ex->T V->Heap->Prop){dl:List DS}{D:Heap}(hl:lay call env U l 0 [] h=some (dl,D)):
 WD call env dl [] [D] D (DE call l Z J env (Q .norm))->W call (.dops l U R Z J) env h Q:=by
 rintro⟨loc,hs,e,hr,I,h',ab,hset,rfl,q⟩;refine⟨.norm,I,h',?_,q⟩;show evD call l U Z J env h=_;unfold evD;simp only[hl,e,hr,cond_true,hset]
theorem vh(o:IOp)(v:V):gz call loc env o v []=true↔True:=by simp[gz]
def kr(v:V):V->Heap->Prop:=fun u _=>vEq u v=true
theorem HZ(v u:V):kr v u h↔vEq u v=true:=Sm
theorem sq(o:IOp)(v:V)(Z:List Heap):gz call loc env o v (h::Z)=true↔OQ (aM call loc env h o) (kr v)/\gz call loc env o v Z=true:=by
 simp only[gz,OQ,be,kr];cases aM call loc env h o with
 |none=>simp
 |some r=>obtain⟨u,h'⟩:=r;simp[and_assoc]
mutual
theorem fL:∀(v:V),vEq v v=true
 |.bool b=>by cases b<;>rfl
 |.int k n=>by simp only[vEq,fK];cases k<;>simp[jA]
 |.str s=>by simp[vEq]
 |.nilp=>rfl
 |.ptr _ _=>by simp[vEq]
 |.nils=>rfl
 |.slice _ _ _ _=>by simp[vEq]
 |.sliceU _ _ _ _=>by simp[vEq]
 |.sliceE=>rfl
 |.nilm=>rfl
 |.map _=>by simp[vEq]
 |.yld _=>by simp[vEq]
 |.sliceZ _ _=>by simp[vEq]
 |.nilf=>rfl
 |.func _ a c=>by simp[vEq,dZ a,dZ c]
 |.nili=>rfl
 |.iface _ v=>by simp[vEq,fL v]
 |.agg l=>by simp[vEq,dZ l]
 |.tup l=>by simp[vEq,dZ l]
theorem dZ:∀(v:List V),mE v v=true
 |[]=>rfl
 |v::l=>by simp[mE,fL v,dZ l]
end
theorem uU(n:Nat):hJ n loc [] env=some env:=rfl
theorem AR(n s i:Nat)(r:List (Nat×Nat)):hJ n loc ((s,i)::r) env=match nth loc (n-i-1)with
 |some v=>hJ n loc r (env.set s v)
 |none=>none:=by
 rw[fq];rfl
def ay(call:aD)(f:Nat)(vs:List V)(h:Heap)(R:V->Heap->Prop):Prop:=OQ (call f vs h) R
theorem ae{f:Nat}{vs:List V}{R K:V->Heap->Prop}(d:ay call f vs h R)(k:∀v h',R v h'->K v h'):OQ (call f vs h) K:=d.mono k
def RsQ(o:Option (List V))(R:V->Heap->Prop)(h:Heap):Prop:=∃vs,o=some vs/\R (sB vs) h
theorem AE(vs:List V)(R:V->Heap->Prop):RsQ (some vs) R h↔R (sB vs) h:=exS
def jo(rs:List RV)(R:V->Heap->Prop):Ex->T V->Heap->Prop:=fun e env h=>(e=.norm\/e=.ret)/\RsQ (fg env h rs) R h
theorem wS(rs:List RV)(R:V->Heap->Prop):jo rs R .norm env h↔RsQ (fg env h rs) R h:=by simp[jo]
theorem AF(rs:List RV)(R:V->Heap->Prop):jo rs R .ret env h↔RsQ (fg env h rs) R h:=by simp[jo]
theorem zW:fg env h []=some []:=rfl
theorem Iv(s:Nat)(rs:List RV):fg env h (.t s::rs)=Dk (env.get s) (fg env h rs):=by
 simp only[fg,evR];cases env.get s with
 |none=>rfl
 |some v=>cases fg env h rs<;>rfl
theorem Iw(s n:Nat)(Z:Bool)(rs:List RV):fg env h (.c s n Z::rs)=Dk ((env.get s).bind fun v=>jm h n Z v) (fg env h rs):=by
 simp only[fg,evR];cases env.get s with
 |none=>rfl
 |some p=>
  simp only[QX];cases jm h n Z p with
  |none=>rfl
  |some v=>cases fg env h rs<;>rfl
theorem vy:sB []=.tup []:=rfl
theorem vx(v:V):sB [v]=v:=rfl
theorem vv(v u:V)(l:List V):sB (v::u::l)=.tup (v::u::l):=rfl
theorem aa{ov:aD}{F:T IFn}{f n:Nat}{b:IC}{rs:List RV}{vs:List V}{R:V->Heap->Prop}(J:W (ev ov F) b (fA vs 0 .e) h (jo rs R))
 (hf:F.get f=some ⟨n,b,rs⟩:=by exact rfl) (hn:Nat.beq vs.length n=true:=by exact rfl):ay (ev ov F) f vs h R:=by
 obtain⟨e,Z,h',x,U,rs,I,q⟩:=J;exact⟨_,_,KS hf hn x U I,q⟩
end
end Go.Ev
