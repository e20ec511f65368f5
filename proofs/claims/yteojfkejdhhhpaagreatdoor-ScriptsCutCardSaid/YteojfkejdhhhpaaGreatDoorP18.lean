/- An evaluator of the program, and contracts over it: SmLv to RxRw. -/
import Derived.Below
import Derived.Test.YteojfkejdhhhpaaGreatDoorRows
import Derived.ProofKit
import Derived.LaidMore
import Derived.OpenShut
import Derived.Stop.Joined
import Derived.Carry
import Derived.Test.YteojfkejdhhhpaaGreatDoorCards
import Derived.SevenTiedAt
import Derived.Deep.Slices
import Derived.Deep.Strs
import Derived.Test.YteojfkejdhhhpaaGreatDoorP06
import Derived.Test.YteojfkejdhhhpaaGreatDoorP15
import Derived.Test.YteojfkejdhhhpaaGreatDoorP17
set_option linter.unusedSimpArgs false
set_option linter.unusedVariables false
set_option linter.constructorNameAsVariable false
set_option linter.unnecessarySimpa false
noncomputable section
namespace Go.Ev
variable{g:Nat}
theorem Kept.mono{m J:M}{b:Nat}{o R:Option Obj}(a:Kept m b o R)(h:∀j,Cov m b j->Cov J b j):Kept J b o R:=by
  intro x hx;obtain⟨Z,U,a⟩:=a x hx;refine⟨Z,U,?_⟩;cases x with
  |cells c t fr=>
    cases Z with
    |cells c' t' fr'=>exact⟨a.1,a.2.1.imp id (fun⟨j,x,y,z⟩=>⟨j,x,y,h j z⟩),a.2.2.1,fun j hj=>a.2.2.2 j fun q=>hj (h j q)⟩
    |_=>simp at a
  |map es k=>
    cases Z with
    |map es' k'=>trivial
    |_=>simp at a
  |loop r=>
    cases Z with
    |loop r'=>trivial
    |_=>simp at a
  |stringIter z k=>
    cases Z with
    |stringIter z' k'=>trivial
    |_=>simp at a
  |_=>simp at a;subst a;rfl
namespace Lay
abbrev KP:LG->Prop:=LOK Go.Proofs.Tryz.prog 5
theorem qV:b9 Go.Proofs.Tryz.prog KP 5 wJ:=by
  unfold wJ;exact pF (fun _ _ _ _ _ e=>by cases e) wc 60
theorem J2:b9 Go.Proofs.Tryz.prog KP 5 CF:=
  Eu qV (xC qV (xC qV (xC qV (fun _ _ _ _ _ e=>by cases e) (wc 73 fn73 rfl)) (wc 69 fn69 rfl)) (wc 34 fn34 rfl)) Nv Or
theorem Qa:DT Go.Proofs.Tryz.prog 5 FL:=by
  intro f fn h;unfold FL at h;rw[T.get_set]at h;by_cases c:f=9
  ·rw[if_pos c]at h;cases h;subst c;exact O2
  ·rw[if_neg c]at h;exact wc f fn h
theorem Lj:Nat.testBit 5 g=true↔g=0\/g=2:=by
  constructor
  ·intro h;rcases Nat.lt_or_ge g 3 with c|c
   ·rcases(by omega:g=0\/g=1\/g=2)with rfl|rfl|rfl
    ·exact .inl rfl
    ·exact absurd h (by decide)
    ·exact .inr rfl
   ·rw[Nat.testBit_lt_two_pow (Nat.lt_of_lt_of_le (by decide:5<2^3) (Nat.pow_le_pow_right (by decide) c))]at h;cases h
  ·rintro(rfl|rfl)<;>decide
abbrev Kp(h:Heap):Prop:=∀g,g=0\/g=2->(∃k,h.bl.get g=some (.row (ff g) g k))/\h.fams.get g=none
theorem Kq{h:Heap}(r:Mf h=true):Kp h:=by
  intro g U;have r:=List.all_eq_true.1 r g (by rcases U with rfl|rfl<;>simp)
  split at r
  ·rename_i c f k R hf;simp only[Bool.and_eq_true]at r;have J:=ju _ _ r.1;have Z:=Nat.eq_of_beq_eq_true r.2;cases J;subst Z;exact⟨⟨k,R⟩,hf⟩
  ·cases r
theorem Tv.kp{h:Heap}(t:Tv h):Kp h:=by
  rintro g (rfl|rfl)
  ·exact⟨t.k,t.kf⟩
  ·exact⟨t.t,t.tf⟩
theorem EH:∃h1,evF CF FL 60 9 [] h0=some (.bool true,h1)/\Kp h1:=by
  have r:=Eo;unfold Oq at r;split at r
  ·rename_i h e;exact⟨h,e,Kq r⟩
  ·cases r
theorem yV(m Z:M)(v:V)(x:Value)(h:v∈ff g)(r:VRel m v x):VRel Z v x:=by
  match g,h with
  |0,h=>
    simp only[ff,pZ,List.mem_cons,List.mem_nil_iff,or_false]at h;rcases h with rfl|rfl|rfl|rfl|rfl|rfl|rfl|rfl<;>exact r
  |n+1,h=>
    have h:v∈bS:=h;simp only[bS,List.mem_map]at h;obtain⟨n,_,rfl⟩:=h;exact r
theorem Ii(Z:g=0\/g=2):h0.bl.get g=some (.row (ff g) g 0):=by
  rcases Z with rfl|rfl<;>simp[h0,T.get_set]
theorem CY{p:Nat}(Z:¬(p=0\/p=2)):h0.bl.get p=none:=by
  unfold h0;rw[T.get_set_ne _ _ (by omega),T.get_set_ne _ _ (by omega)];rfl
theorem OY:HWF h0:=by
  refine⟨fun p c f k Z=>?_,fun p Z=>⟨CY (by have:3<=p:=Z;omega),rfl⟩⟩;by_cases q:p=0\/p=2
  ·rw[Ii q]at Z;cases Z;rfl
  ·rw[CY q]at Z;cases Z
theorem OB:b9 Go.Proofs.Tryz.prog KP 5 lov:=by
  intro f' vs' h v' h' e;unfold lov at e;split at e;case isFalse=>cases e
  rename_i c;obtain⟨rfl,rfl,tv⟩:=c;cases e;have pl:=tv.kp;obtain⟨h1,run,kp⟩:=EH;obtain⟨info,S⟩:=pF (P:=Go.Proofs.Tryz.prog) (G:=5) (ov:=CF) J2 Qa 60 _ _ h0 _ h1 run (by decide);refine fun _=>⟨info,fun m w args ha H hG=>?_⟩;obtain⟨m0,hm0⟩:∃m0:M,m0=fun p=>if p=0∨p=2 then m p else none:=⟨_,rfl⟩;have z0:∀g,g=0∨g=2→m0 g=m g:=fun g hg=>by rw[hm0];exact if_pos hg
  have z1:∀p loc,m0 p=some loc→(p=0∨p=2)∧m p=some loc∧∃r,loc=⟨p,0,r,none⟩:=by
    intro p loc hp;rw[hm0]at hp;by_cases c:p=0∨p=2
    ·simp only[if_pos c]at hp;obtain⟨r,hr⟩:=hG.1 p (Lj.2 c);rw[hp]at hr;exact⟨c,hp,r,Option.some.inj hr⟩
    ·simp[if_neg c]at hp
  have H0:HRel m0 h0 w:=by
    refine⟨⟨OY,?_,?_,?_⟩,fun p ty n hp=>by cases hp⟩
    ·intro p loc hp;obtain⟨q,hp,r,rfl⟩:=z1 p loc hp;obtain⟨bk,hbk,rel⟩:=H.blk p _ hp;obtain⟨⟨k,hb⟩,hf⟩:=pl p q;rw[hb]at hbk;cases hbk;obtain⟨C,el,fz,hC,c1,c2,c3,c4⟩:=rel (by unfold rd;rw[hf]);exact⟨_,Ii q,fun _=>⟨C,el,fz,hC,c1,c2,fun i v hi=>by
       obtain⟨x,hx,rx⟩:=c3 i v hi;exact⟨x,hx,yV m m0 v x (List.mem_of_getElem? hi) rx⟩,c4⟩⟩
    ·intro p loc hp;exact H.inb p loc (z1 p loc hp).2.1
    ·intro p q lp lq hp hq hl hne;obtain⟨_,_,r,rfl⟩:=z1 p lp hp;obtain⟨_,_,r,rfl⟩:=z1 q lq hq;exact absurd hl hne
  have G0:Glob KP 5 m0:=⟨fun g hg=>by rw[z0 g (Lj.1 hg)];exact hG.1 g hg,fun p loc g hp hl=>by obtain⟨_,_,r,rfl⟩:=z1 p loc hp;cases hl⟩;have key:∀e w',mC m0 h0 w (.bool true) h1 e w'→mC m h w (.bool true) h e w':=by
    rintro e w' ⟨x,m1,he,rx,H1,E⟩;have only:∀p loc,m p=some loc→(loc.block=0∨loc.block=2)→p=loc.block:=by
      intro p loc hp hl;by_cases q:p=loc.block
      ·exact q
      ·obtain⟨r,hr⟩:=hG.1 _ (Lj.2 hl);obtain⟨cp,cq,f,kp,kq,a1,a2,_⟩:=H.sep p _ loc _ hp hr rfl q;obtain⟨⟨k,hb⟩,hf⟩:=pl _ hl;rw[hb]at a2;cases a2;have:=H.wf.fam _ _ _ _ a1;rw[hf]at this;exact this.symm
    refine⟨x,m,he,rx,?_,?_⟩
    ·refine⟨⟨H.wf,fun p loc hp=>?_,fun p loc hp=>Nat.lt_of_lt_of_le (H.inb p loc hp) E.size,H.sep⟩,fun p ty n hp=>?_⟩
     rotate_left
     ·obtain⟨loc,C,fz,a1,a2,a3,a4⟩:=H.tg p ty n hp;obtain⟨x',hx,hk⟩:=E.out loc.block (H.inb p loc a1) _ a3;cases x' with
      |cells C' ty' fz'=>
        obtain⟨r1,_,r3,_⟩:=hk;subst r1;exact⟨loc,C',fz',a1,a2,hx,a4.imp id fun e=>r3.trans e⟩
      |_=>simp at hk
     by_cases hl:loc.block=0∨loc.block=2
     ·have hpl:=only p loc hp hl;rw[←hpl]at hl;obtain⟨⟨k,hb⟩,hf⟩:=pl p hl;obtain⟨⟨k1,b1⟩,f1⟩:=kp p hl;refine⟨_,hb,fun _=>?_⟩;obtain⟨bk,hbk,rel1⟩:=H1.blk p _ (E.le _ _ (by rw[z0 p hl];exact hp));rw[b1]at hbk;cases hbk;obtain⟨C',el',fz',hC',d1,d2,d3,d4⟩:=rel1 (by unfold rd;rw[f1]);exact⟨C',el',fz',hC',d1,d2,fun i v hi=>by
        obtain⟨x,hx,rx⟩:=d3 i v hi;exact⟨x,hx,yV m1 m v x (List.mem_of_getElem? hi) rx⟩,d4⟩
     ·obtain⟨b,hbb,rb⟩:=H.blk p loc hp;exact⟨b,hbb,rb.mono (fun _ _ x=>x) (fun _ _ _ _ x=>x) (E.keep loc.block (fun q lq hq=>by obtain⟨q3,_,r,rfl⟩:=z1 q lq hq;intro e;exact hl (e▸q3)) (H.inb p loc hp))⟩
    ·have cv:∀b j,Cov m0 b j→Cov m b j:=by
       rintro b j ⟨p,loc,hp,q1,q2,q3⟩;exact⟨p,loc,(z1 p loc hp).2.1,q1,q2,q3⟩
     exact⟨fun _ _ x=>x,fun _ _ a b=>by simp[a]at b,Nat.le_refl _,fun _ _ _=>rfl,E.size,fun b hb hlt=>E.keep b (fun q lq hq=>hb q lq (z1 q lq hq).2.1) hlt,E.os,E.tape,E.output,fun _ _ _ x=>x,fun b hb=>(E.out b hb).mono (cv b),fun _ _ a b=>by simp[a]at b⟩
  exact(S m0 w args ha H0 G0).mono key
theorem P8:b9 Go.Proofs.Tryz.prog KP 5 go:=Ir OB wc
end Lay
end Go.Ev
open Go.RowKit
namespace Go.Ev
variable{h:Heap}{m:M}{k p:Nat}{B:List (Option Loc)}
theorem Rdb.rd{b:Nat}{c:List V}(o:Rdb h b c):∃f k,h.bl.get b=some (.row c f k)/\rd h b f k=true:=by
 rcases o with⟨f,k,e,x⟩|⟨f,k,ow,U,Z,_⟩
 ·exact⟨f,k,e,mI (by rcases x with⟨a,_⟩|a;exact .inl a;exact .inr a)⟩
 ·refine⟨f,k,U,?_⟩;unfold Ev.rd;rw[Z];simp
theorem HRel.cellsR{w:World}(H:HRel m h w){p:Nat}{loc:Loc}{c:List V}(hm:m p=some loc)(o:Rdb h p c):
 ∃C el fz,w.heap[loc.block]? =some (.cells C el fz)/\loc.base+loc.room<=C.size/\∀(i:Nat) v,c[i]? =some v->∃x,C[loc.base+i]? =some x/\VRel m v x:=by
 obtain⟨f,k,e,r⟩:=o.rd;obtain⟨b,Z,rel⟩:=H.blk p loc hm;rw[e]at Z;cases Z;obtain⟨C,el,fz,R,U,_,J,_⟩:=rel r;exact⟨C,el,fz,R,U,J⟩
def put(t:T Blk):List (List V)->Nat->T Blk
 |[],_=>t
 |c::cs,i=>put (t.set i (.row c 1 0)) cs (i+1)
theorem qL:∀(cs:List (List V))(i:Nat)(t:T Blk)(p:Nat),(put t cs i).get p=if i<=p/\p<i+cs.length then(cs[p-i]?).map (fun c=>.row c 1 0)else t.get p
 |[],i,t,p=>by rw[if_neg iS];rfl
 |c::cs,i,t,p=>by
  show(put (t.set i (.row c 1 0)) cs (i+1)).get p=_;rw[qL cs (i+1),T.get_set];simp only[List.length_cons];by_cases q:p=i
  ·grind
  ·grind
def hS(Cs:List (List V)):Heap:=⟨put T.e Cs 2,2+Cs.length,(T.e:T (Nat×Nat)).set 1 (1,0),.e⟩
section
variable {Cs : List (List V)} {Ms : List (Option Loc)}
def Qn(W:World)(loc:Loc)(c:List V):Prop:=loc.lp=none/\c.length=loc.room/\(∃C ty fz,W.heap[loc.block]? =some (.cells C ty fz)/\loc.base+loc.room<=C.size/\
 (∀(i:Nat) v,c[i]? =some v->∃k n,v=.int k n/\C[loc.base+i]? =some (.int k n))/\∀i:Nat,i<loc.room->¬(fz.1<=loc.base+i/\loc.base+i<fz.2))
end
abbrev Lz:=IntKind×Int
def cV(c:Lz):V:=.int c.1 c.2
def cX(c:Lz):Value:=.int c.1 c.2
theorem flat_len'{α β:Type}{g:α->List β}(gl:∀a,(g a).length=k):∀L:List α,(L.flatMap g).length=L.length*k
 |[]=>by simp
 |x::L=>by simp[List.flatMap_cons,flat_len' gl L,gl,Nat.succ_mul,Nat.add_comm]
def Qm(W:World)(x:Value)(k n:Nat)(cs:List Lz):Prop:=cs.length=n*k/\
 ((x=.slice none 0 0/\n=0)\/(∃a cap,x=.slice (some a) 0 cap/\n=0)\/
 ∃b off cap C t fz,x=.slice (some ⟨b,off,none⟩) n cap/\n<=cap/\0<n/\W.heap[b]? =some (.cells C t fz)/\off+n*k<=C.size/\
  (∀i:Nat,i<n*k->¬(fz.1<=off+i/\off+i<fz.2))/\∀(i:Nat) c,cs[i]? =some c->C[off+i]? =some (cX c))
theorem pick{W:World}{x:Value}{n:Nat}{cs:List Lz}(I:Qm W x k n cs)(p:Nat):∃(v:V)(D:Option Loc)(c:List V),
 (∀m:M,(∀loc,D=some loc->m p=some loc)->VRel m v x)/\(∀loc,D=some loc->Qn W loc c)/\(∀h,(D≠none->Rs h p c)->ASl h k v n (cs.map cV))/\v.one=true/\∀u∈c,∃k n,u=V.int k n:=by
 obtain⟨fl,I⟩:=I;have Z:(cs.map cV).length=n*k:=by simpa using fl
 rcases I with⟨rfl,rfl⟩|⟨a,cap,rfl,rfl⟩|⟨b,off,cap,C,ty,fz,rfl,U,ah,hC,ad,ab,R⟩
 ·exact⟨.nils,none,[],fun m _=>rfl,(fun loc h=>by cases h),fun h _=>⟨Z,rfl⟩,rfl,iS⟩
 ·exact⟨.sliceZ a cap,none,[],fun m _=>rfl,(fun loc h=>by cases h),fun h _=>⟨Z,rfl⟩,rfl,iS⟩
 ·have ci:∀(i:Nat) v,(cs.map cV)[i]? =some v->∃k n,v=.int k n/\C[off+i]? =some (.int k n):=by
   intro i v J;rw[List.getElem?_map]at J;cases e:cs[i]? with
   |none=>rw[e]at J;cases J
   |some c=>rw[e]at J;cases J;exact⟨_,_,rfl,R i c e⟩
  refine⟨.slice p 0 n cap,some ⟨b,off,n*k,none⟩,cs.map cV,fun m hm=>⟨_,hm _ rfl,U,iS⟩,?_,fun h rs=>⟨Z,rfl,U,_,.inr (rs iS),oM,by rw[List.drop_zero,List.take_of_length_le oM]⟩,rfl,?_⟩
  ·rintro loc h;cases h;exact⟨rfl,Z,C,ty,fz,hC,ad,ci,ab⟩
  ·intro u hu;obtain⟨c,_,rfl⟩:=List.mem_map.1 hu;exact⟨_,_,rfl⟩
def Has(m:M)(p:Nat)(Ms:List (Option Loc)):Prop:=∀(i:Nat) loc,Ms[i]? =some (some loc)->m (p+i)=some loc
def HasR(h:Heap)(p:Nat)(Cs:List (List V)):Prop:=∀(i:Nat) c,Cs[i]? =some c->Rs h (p+i) c
theorem Has.left{A:List (Option Loc)}(a:Has m p (A++B)):Has m p A:=fun i loc h=>a i loc (by rw[List.getElem?_append_left (List.getElem?_eq_some_iff.1 h).1];exact h)
theorem Has.right{A:List (Option Loc)}(a:Has m p (A++B)):Has m (p+A.length) B:=fun i loc h=>by
 have:=a (A.length+i) loc (by rw[List.getElem?_append_right oM,(oM:A.length+i-A.length=i)];exact h);rwa[<-Nat.add_assoc]at this
theorem HasR.left{A B:List (List V)}(a:HasR h p (A++B)):HasR h p A:=fun i c e=>a i c (by rw[List.getElem?_append_left (List.getElem?_eq_some_iff.1 e).1];exact e)
theorem HasR.right{A B:List (List V)}(a:HasR h p (A++B)):HasR h (p+A.length) B:=fun i c e=>by
 have:=a (A.length+i) c (by rw[List.getElem?_append_right oM,(oM:A.length+i-A.length=i)];exact e);rwa[<-Nat.add_assoc]at this
theorem HasR.tail{c:List V}{B:List (List V)}(a:HasR h p (c::B)):HasR h (p+1) B:=HasR.right (A:=[c]) a
theorem Has.tail{l:Option Loc}(a:Has m p (l::B)):Has m (p+1) B:=Has.right (A:=[l]) a
def Oc(W:World)(m:M)(loc:Loc)(c:List V):Prop:=loc.lp=none/\c.length=loc.room/\∃C ty fz,W.heap[loc.block]? =some (.cells C ty fz)/\loc.base+loc.room<=C.size/\
 (∀(i:Nat) v,c[i]? =some v->∃x,C[loc.base+i]? =some x/\VRel m v x)/\∀i:Nat,i<loc.room->¬(fz.1<=loc.base+i/\loc.base+i<fz.2)
def VEx(v:V):Prop:=∀(m:M) x x',VRel m v x->VRel m v x'->x=x'
theorem VEx.int(k:IntKind)(n:Int):VEx (.int k n):=fun m x x' h h'=>by simp only[VRel]at h h';rw[h,h']
theorem VEx.str(s:List UInt8):VEx (.str s):=fun m x x' h h'=>by simp only[VRel]at h h';rw[h,h']
theorem VEx.nils:VEx .nils:=fun m x x' h h'=>by simp only[VRel]at h h';rw[h,h']
theorem VEx.sliceZ(a:Addr)(c:Nat):VEx (.sliceZ a c):=fun m x x' h h'=>by simp only[VRel]at h h';rw[h,h']
theorem VEx.slice(b o l c:Nat):VEx (.slice b o l c):=fun m x x' h h'=>by
 simp only[VRel]at h h';obtain⟨p,e,_,r⟩:=h;obtain⟨p',e',_,r'⟩:=h';rw[e]at e';cases e';rw[r,r']
theorem VsRel.app{m:M}:∀{a b:List V}{x y:List Value},VsRel m a x→VsRel m b y→VsRel m (a++b) (x++y)
 |[],_,x,_,h,g=>by have:x=[]:=h;subst this;exact g
 |v::vs,_,_,_,h,g=>by
  obtain⟨v',vs',rfl,h1,h2⟩:=h;exact⟨v',vs'++_,rfl,h1,h2.app g⟩
theorem VsRel.at{m:M}:∀{a:List V}{x:List Value},VsRel m a x→∀(i:Nat) v,a[i]? =some v→∃u,x[i]? =some u∧VRel m v u
 |[],_,_,i,v,e=>by simp at e
 |v::vs,_,h,i,u,e=>by
  obtain⟨v',vs',rfl,h1,h2⟩:=h;cases i with
  |zero=>simp at e;subst e;exact⟨v',rfl,h1⟩
  |succ i=>exact h2.at i u (eV e)
structure Tell(W:World)(p:Nat)(vs:List V)(xs:List Value)(Ms:List (Option Loc))(Cs:List (List V)):Prop where
 l:Ms.length=Cs.length
 v:∀m,Has m p Ms->VsRel m vs xs
 a:∀m,Has m p Ms->∀(i:Nat) loc c,Ms[i]? =some (some loc)->Cs[i]? =some c->Oc W m loc c
 e:∀c∈Cs,∀u∈c,VEx u
 x:∀u∈vs,VEx u
section
variable {W : World} {p : Nat} {vs vs' : List V} {xs xs' : List Value} {Ms Ms' : List (Option Loc)} {Cs Cs' : List (List V)}
theorem Tell.app(s:Tell W p vs xs Ms Cs)(t:Tell W (p+Ms.length) vs' xs' Ms' Cs'):Tell W p (vs++vs') (xs++xs') (Ms++Ms') (Cs++Cs'):=by
 refine⟨by simp[s.l,t.l],fun m hm=>(s.v m hm.left).app (t.v m hm.right),fun m hm i loc c h1 h2=>?_,fun c hc=>?_,fun u hu=>?_⟩
 ·by_cases Z:i<Ms.length
  ·rw[List.getElem?_append_left Z]at h1;rw[List.getElem?_append_left (by rw[<-s.l];exact Z)]at h2;exact s.a m hm.left i loc c h1 h2
  ·rw[List.getElem?_append_right oM]at h1;rw[List.getElem?_append_right (by rw[<-s.l];omega),<-s.l]at h2;exact t.a m hm.right _ loc c h1 h2
 ·exact(List.mem_append.1 hc).elim (s.e c) (t.e c)
 ·exact(List.mem_append.1 hu).elim (s.x u) (t.x u)
theorem Tell.flat(h:∀m,VsRel m vs xs)(x:∀u∈vs,VEx u):Tell W p vs xs [] []:=⟨rfl,fun m _=>h m,fun m _ i loc c e=>by simp at e,iS,x⟩
theorem Tell.arr{b off n cap:Nat}{C:Array Value}{ty:TypeId}{U:Nat×Nat}(hC:W.heap[b]? =some (.cells C ty U))(J:off+n*k<=C.size)(I:∀i:Nat,i<n*k->¬(U.1<=off+i/\off+i<U.2))
 (hx:∀(i:Nat) x,xs[i]? =some x->C[off+i]? =some x) (D:vs.length=n*k) (Z:n<=cap) (t:Tell W (p+1) vs xs Ms Cs):
 Tell W p [.slice p 0 n cap] [.slice (some ⟨b,off,none⟩) n cap] (some ⟨b,off,n*k,none⟩::Ms) (vs::Cs):=by
 refine⟨by simp[t.l],fun m hm=>⟨_,[],rfl,⟨_,hm 0 _ rfl,Z,iS⟩,rfl⟩,fun m hm i loc c h1 h2=>?_,fun c R=>?_,fun u hu=>?_⟩
 ·cases i with
  |zero=>
   simp at h1 h2;subst h1 h2;refine⟨rfl,D,C,ty,U,hC,J,fun i v hv=>?_,I⟩;obtain⟨u,e,r⟩:=(t.v m hm.tail).at i v hv;exact⟨u,hx i u e,r⟩
  |succ i=>exact t.a m hm.tail i loc c (eV h1) (eV h2)
 ·rcases List.mem_cons.1 R with rfl|R
  ·exact t.x
  ·exact t.e c R
 ·have:=List.mem_singleton.1 hu;subst this;exact VEx.slice _ _ _ _
end
theorem I5{m':M}{h':Heap}{w w':World}(H:HRel m h w)(H':HRel m' h' w')(E:Ext m h w m' h' w')
 (flat:∀p loc,m p=some loc->∃c,Rdb h p c/\Rdb h' p c/\c.length=loc.room/\∀v∈c,VEx v):Below w.heap.size w w':=by
 refine⟨E.os,E.tape,E.output,E.size,fun b hb=>?_⟩;by_cases cc:∃p loc,m p=some loc/\loc.block=b
 ·obtain⟨p,loc,hp,rfl⟩:=cc;obtain⟨cs,o,o',len,ints⟩:=flat p loc hp;obtain⟨C,el,fz,hC,a1,aE⟩:=H.cellsR hp o;obtain⟨x',I,k⟩:=E.out loc.block hb _ hC;cases x' with
  |cells C' el' fz'=>
   obtain⟨rfl,ax,a0,ab⟩:=k;have aR:fz'=fz:=by
    rcases ax with q|⟨j,j1,j2,q,U,hq,R,j3,j4⟩
    ·exact q
    ·exfalso;obtain⟨cq,oq,D,aj,_⟩:=flat q U hq;obtain⟨f,k,e,r⟩:=D.rd;obtain⟨b,hb,rel⟩:=H'.blk q U (E.le _ _ hq);rw[e]at hb;cases hb;obtain⟨C2,aF,ak,Z,_,_,_,a5⟩:=rel r;rw[R,I]at Z;cases Z;exact a5 (j-U.base) oM ⟨oM,oM⟩
   subst aR;rw[I,hC];have:C'=C:=by
    apply Array.ext_getElem?;intro j;by_cases cv:Cov m loc.block j
    ·obtain⟨q,U,hq,R,j1,j2⟩:=cv;obtain⟨cq,oq,D,aj,ah⟩:=flat q U hq;obtain⟨C1,a3,a2,J,_,aA⟩:=H.cellsR hq oq;obtain⟨C2,aF,ak,Z,_,ao⟩:=H'.cellsR (E.le _ _ hq) D;rw[R]at J Z;rw[hC]at J;cases J;rw[I]at Z;cases Z;have ad:j-U.base<cq.length:=oM
     have ex:=ah cq[j-U.base] (List.getElem_mem ad);have ec:=List.getElem?_eq_getElem ad;obtain⟨x1,e1,r1⟩:=aA (j-U.base) _ ec;obtain⟨x2,e2,r2⟩:=ao (j-U.base) _ ec;rw[(oM:U.base+(j-U.base)=j)]at e1 e2;rw[e1,e2,ex m' x1 x2 (VRel.mono E.le _ _ r1) r2]
    ·exact ab j cv
   rw[this]
  |_=>simp at k
 ·exact E.keep b (fun p loc hp e=>cc ⟨p,loc,hp,e⟩) hb
end Go.Ev
open Go.RowKit
namespace Go.Ev
variable{g i p:Nat}
theorem VsRel.split{m:M}:∀{a b:List V}{z:List Value},VsRel m (a++b) z→∃x y,z=x++y∧VsRel m a x∧VsRel m b y
  |[],_,z,h=>⟨[],z,rfl,rfl,h⟩
  |v::a,b,z,h=>by
    obtain⟨v',vs',rfl,h1,h2⟩:=h;obtain⟨x,y,rfl,h3,h4⟩:=VsRel.split h2;exact⟨v'::x,y,rfl,⟨v',x,rfl,h1,h3⟩,h4⟩
/-- a byte is among them -/
def NU(c:List V):Prop:=∃v∈c,∃n,v=.int .u8 n
/-- values of the world, told by values and blocks, with a byte in each -/
structure TU(W:World)(p:Nat)(vs:List V)(xs:List Value)(Ms:List (Option Loc))(Cs:List (List V)):Prop extends Tell W p vs xs Ms Cs where
  u:∀c∈Cs,NU c
section
variable {W : World} {p : Nat} {vs vs' : List V} {xs xs' : List Value} {Ms Ms' : List (Option Loc)} {Cs Cs' : List (List V)}
theorem TU.app(s:TU W p vs xs Ms Cs)(t:TU W (p+Ms.length) vs' xs' Ms' Cs'):TU W p (vs++vs') (xs++xs') (Ms++Ms') (Cs++Cs'):=
  ⟨s.toTell.app t.toTell,fun c hc=>(List.mem_append.1 hc).elim (s.u c) (t.u c)⟩
theorem TU.flat(h:∀m,VsRel m vs xs)(x:∀u∈vs,VEx u):TU W p vs xs [] []:=⟨Tell.flat h x,by simp⟩
theorem TU.arr{b off n k cap:Nat}{C:Array Value}{ty:TypeId}{fz:Nat×Nat}(hC:W.heap[b]? =some (.cells C ty fz))(hsz:off+n*k<=C.size)(hfz:∀i:Nat,i<n*k->¬(fz.1<=off+i/\off+i<fz.2))
    (hx:∀(i:Nat) x,xs[i]? =some x->C[off+i]? =some x) (lx:vs.length=n*k) (hcap:n<=cap) (nu:NU vs) (t:TU W (p+1) vs xs Ms Cs):
    TU W p [.slice p 0 n cap] [.slice (some ⟨b,off,none⟩) n cap] (some ⟨b,off,n*k,none⟩::Ms) (vs::Cs):=
  ⟨t.toTell.arr hC hsz hfz hx lx hcap,fun c hc=>by
    rcases List.mem_cons.1 hc with rfl|hc
    ·exact nu
    ·exact t.u c hc⟩
end
theorem tu_list{W:World}{α:Type}{f:α→List V}{Φ:Heap→α→Prop}{Q:α→Prop}:∀(ys:List (List Value))(p:Nat),(∀y∈ys,∀p,∃a Ms Cs,TU W p (f a) y Ms Cs∧(∀h,HasR h p Cs→Φ h a)∧Q a)→
    ∃(L:List α)(Ms:List (Option Loc))(Cs:List (List V)),L.length=ys.length∧TU W p (L.flatMap f) ys.flatten Ms Cs∧(∀h,HasR h p Cs→∀a∈L,Φ h a)∧∀a∈L,Q a
  |[],p,_=>⟨[],[],[],rfl,TU.flat (fun _=>rfl) (by simp),by simp,by simp⟩
  |y::ys,p,hy=>by
    obtain⟨a,Ms,Cs,t,ph,q⟩:=hy y (by simp) p;obtain⟨L,Ms',Cs',ll,t',ph',q'⟩:=tu_list ys (p+Ms.length) fun y m=>hy y (by simp[m]);refine⟨a::L,Ms++Ms',Cs++Cs',by simp[ll],t.app t',fun h hr x hx=>?_,fun x hx=>?_⟩
    ·rcases List.mem_cons.1 hx with rfl|hx
     ·exact ph h hr.left
     ·exact ph' h (by rw[t.l];exact hr.right) x hx
    ·rcases List.mem_cons.1 hx with rfl|hx
     ·exact q
     ·exact q' x hx
namespace Lay
/-- the package's variables -/
def Tab(W:World):Prop:=∀g,g=0\/g=2->∃C t,W.heap[g]? =some (.cells C t (0,0))/\C.size=(ff g).length/\∀(i:Nat) v,(ff g)[i]? =some v->∃x,C[i]? =some x/\(∀m,VRel m v x)/\∀n,x≠.int .u8 n
theorem GI{v:V}(h:v∈ff g):VEx v:=by
  match g,h with
  |0,h=>
    simp only[ff,pZ,List.mem_cons,List.mem_nil_iff,or_false]at h;rcases h with rfl|rfl|rfl|rfl|rfl|rfl|rfl|rfl<;>exact VEx.str _
  |n+1,h=>
    have h:v∈bS:=h;simp only[bS,List.mem_map]at h;obtain⟨n,_,rfl⟩:=h;exact VEx.int _ _
def hU(Cs:List (List V)):Heap:=⟨put (((T.e:T Blk).set 0 (.row (ff 0) 0 0)).set 2 (.row (ff 2) 2 0)) Cs 3,3+Cs.length,(T.e:T (Nat×Nat)).set 1 (1,0),.e⟩
def mU(Ms:List (Option Loc)):M:=fun p=>if p=0\/p=2 then some ⟨p,0,(ff p).length,none⟩else if 3<=p then(Ms[p-3]?).join else none
section
variable {Cs : List (List V)} {Ms : List (Option Loc)}
theorem zQ{c:List V}(h:Cs[i]? =some c):(hU Cs).bl.get (3+i)=some (.row c 1 0):=by
  have Z:=(List.getElem?_eq_some_iff.1 h).1;show(put _ Cs 3).get (3+i)=_;rw[qL,if_pos (by omega),show 3+i-3=i by omega,h];rfl
theorem If(Z:g=0\/g=2):(hU Cs).bl.get g=some (.row (ff g) g 0):=by
  show(put _ Cs 3).get g=_;rw[qL,if_neg (by omega)];rcases Z with rfl|rfl
  ·rw[T.get_set_ne _ _ (by omega),T.get_set_self]
  ·rw[T.get_set_self]
theorem BE(h:¬(p=0\/p=2))(Z:p<3\/3+Cs.length<=p):(hU Cs).bl.get p=none:=by
  show(put _ Cs 3).get p=_;rw[qL,if_neg (by omega),T.get_set_ne _ _ (by omega),T.get_set_ne _ _ (by omega)];rfl
theorem Ig:(hU Cs).fams.get 1=some (1,0):=by show((T.e:T (Nat×Nat)).set 1 (1,0)).get 1=_;exact T.get_set_self _ _ _
theorem Ih(h:p≠1):(hU Cs).fams.get p=none:=by show((T.e:T (Nat×Nat)).set 1 (1,0)).get p=none;rw[T.get_set_ne _ _ h];rfl
theorem Mj:WF (hU Cs):=fun p hp=>by
  have hp:3+Cs.length<=p:=hp;exact⟨BE (by omega) (.inr hp),Ih (by omega)⟩
theorem Mm(hg:g=0\/g=2):Pl (hU Cs) g (ff g):=⟨⟨0,If hg⟩,Ih (by omega)⟩
theorem OW:Tv (hU Cs):=⟨⟨0,If (.inr rfl)⟩,Ih (by omega),⟨0,If (.inl rfl)⟩,Ih (by omega)⟩
theorem Ml{c:List V}(h:Cs[i]? =some c):Rs (hU Cs) (3+i) c:=⟨1,0,1,zQ h,Ig,BE (by omega) (.inl (by omega)),by show 1<3+Cs.length;omega⟩
theorem kO{loc:Loc}(h:mU Ms p=some loc):((p=0\/p=2)/\loc=⟨p,0,(ff p).length,none⟩)\/∃i,p=3+i/\Ms[i]? =some (some loc):=by
  unfold mU at h;by_cases c:p=0\/p=2
  ·rw[if_pos c]at h;cases h;exact .inl ⟨c,rfl⟩
  ·rw[if_neg c]at h;by_cases d:3<=p
   ·rw[if_pos d]at h;refine .inr ⟨p-3,by omega,?_⟩;cases e:Ms[p-3]? with
    |none=>rw[e]at h;cases h
    |some o=>rw[e]at h;cases o with
      |none=>cases h
      |some l=>cases h;rfl
   ·rw[if_neg d]at h;cases h
theorem OA{loc:Loc}(h:Ms[i]? =some (some loc)):mU Ms (3+i)=some loc:=by
  unfold mU;rw[if_neg (by omega),if_pos (by omega),show 3+i-3=i by omega,h];rfl
/-- an array with a byte in it does not stand in a variable -/
theorem I9{W:World}(t:Tab W){m:M}{loc:Loc}{c:List V}(a:Oc W m loc c)(nu:NU c){g:Nat}(hg:g=0\/g=2):loc.block≠g:=by
  intro e;obtain⟨C',ah,U,ab,Z⟩:=t g hg;obtain⟨_,hl,C,ty,fz,J,h2,D,_⟩:=a;rw[e,U]at J;cases J;obtain⟨v,hv,n,rfl⟩:=nu;obtain⟨i,R⟩:=List.getElem?_of_mem hv;obtain⟨x,e1,r⟩:=D i _ R;have ad:=(List.getElem?_eq_some_iff.1 R).1;have ht:(ff g)[loc.base+i]? =some ((ff g)[loc.base+i]'(by omega)):=List.getElem?_eq_getElem _;obtain⟨x',I,_,ne⟩:=Z _ _ ht;rw[e1]at I;cases I;exact ne n r
theorem PR{W:World}(t:Tab W)(hl:Ms.length=Cs.length)(nu:∀c∈Cs,NU c)(he:∀(i:Nat) loc c,Ms[i]? =some (some loc)->Cs[i]? =some c->Oc W (mU Ms) loc c):HRel (mU Ms) (hU Cs) W:=by
  have Z:∀(i:Nat) loc,Ms[i]? =some (some loc)->∃c,Cs[i]? =some c:=fun i loc h=>by
    have:=(List.getElem?_eq_some_iff.1 h).1;exact⟨_,List.getElem?_eq_getElem (by omega)⟩
  refine⟨⟨⟨?_,Mj⟩,?_,?_,?_⟩,fun p ty n R=>by cases R⟩
  ·intro p c f k R;by_cases q:p=0\/p=2
   ·rw[If q]at R;cases R;rw[Ih (by omega)]
   ·by_cases q2:p<3\/3+Cs.length<=p
    ·rw[BE q q2]at R;cases R
    ·have U:Cs[p-3]? =some (Cs[p-3]'(by omega)):=List.getElem?_eq_getElem (by omega);have:=zQ U;rw[show 3+(p-3)=p by omega,R]at this;cases this;rw[Ig];exact Nat.le_refl _
  ·intro p loc R;rcases kO R with⟨q,rfl⟩|⟨i,rfl,h⟩
   ·obtain⟨C',ab,D,ak,I⟩:=t p q;refine⟨_,If q,fun _=>⟨C',ab,(0,0),D,by simp only[];omega,Nat.le_refl _,fun i v hi=>?_,fun i _=>by simp⟩⟩;obtain⟨x,hx,rx,_⟩:=I i v hi;exact⟨x,by rw[Nat.zero_add];exact hx,rx _⟩
   ·obtain⟨c,U⟩:=Z i loc h;obtain⟨_,ao,C,ty,fz,h1,h2,h3,h4⟩:=he i loc c h U;exact⟨_,zQ U,fun _=>⟨C,ty,fz,h1,h2,by omega,h3,h4⟩⟩
  ·intro p loc R;rcases kO R with⟨q,rfl⟩|⟨i,rfl,h⟩
   ·obtain⟨C',ab,D,_⟩:=t p q;exact(Array.getElem?_eq_some_iff.1 D).1
   ·obtain⟨c,U⟩:=Z i loc h;obtain⟨_,_,C,ty,fz,h1,_⟩:=he i loc c h U;exact(Array.getElem?_eq_some_iff.1 h1).1
  ·intro p q lp lq R hq J ad;rcases kO R with⟨ah,rfl⟩|⟨i,rfl,h⟩<;>rcases kO hq with⟨aj,rfl⟩|⟨j,rfl,h'⟩
   ·exact absurd J ad
   ·obtain⟨c,U⟩:=Z j lq h';exact absurd J.symm (I9 t (he j lq c h' U) (nu c (List.mem_of_getElem? U)) ah)
   ·obtain⟨c,U⟩:=Z i lp h;exact absurd J (I9 t (he i lp c h U) (nu c (List.mem_of_getElem? U)) aj)
   ·obtain⟨c,U⟩:=Z i lp h;obtain⟨c',I⟩:=Z j lq h';refine⟨c,c',1,0,0,zQ U,zQ I,fun e hf=>?_⟩;rw[Ig]at hf;simp only[Option.some.injEq,Prod.mk.injEq]at hf;omega
end
/-- the script that is drawn, as it comes in -/
structure SIn where
  b0:Nat
  b1:Nat
  b2:Nat
  b3:Nat
  b4:Nat
  vB:V
  Bs:List B6
  vP:V
  Ps:List P14
  fl:Nat
def SIn.cells(s:SIn):List V:=c5 s.b0 s.b1 s.b2 s.b3 s.b4++[s.vB,s.vP,.int .u8 (s.fl:Int)]
structure SInH(h:Heap)(s:SIn):Prop where
  b:s.b0<256/\s.b1<256/\s.b2<256/\s.b3<256/\s.b4<256
  rB:ARecs B6.cells 6 h s.vB s.Bs
  oB:∀b∈s.Bs,b.ok
  nB:s.Bs.length<281474976710656
  rP:ARecs P14.cells 3 h s.vP s.Ps
  hP:∀p∈s.Ps,P14H h p
  fl:s.fl<256
  nP:s.Ps.length<281474976710656
theorem cut_calls{W:World}(t:Tab W){xs:List Value}{x:SIn}{n0 n1:Int}{wh:Nat}{Ms:List (Option Loc)}{D:List (List V)}(U:TU W 3 x.cells xs Ms D)
    (ra:∀h,HasR h 3 D->SInH h x) (i0:i64 n0) (i1:i64 n1) (hw:wh<256):
    Calls Go.Proofs.Tryz.prog 4 #[.agg xs.toArray,.agg #[.int .i64 n0,.int .i64 n1],.int .u8 (wh:Int)] W fun e W'=>e=.returned (.bool true)/\Below W.heap.size W W':=by
  have T:=U.toTell;have Z:Has (mU Ms) 3 Ms:=fun i loc h=>OA h;have H:HRel (mU Ms) (hU D) W:=PR t T.l U.u (T.a _ Z);have ad:=T.l;have hG:Glob KP 5 (mU Ms):=by
    refine⟨fun g hg=>⟨(ff g).length,if_pos (Lj.1 hg)⟩,fun p loc g hp I=>?_⟩;rcases kO hp with⟨_,rfl⟩|⟨i,rfl,h⟩
    ·cases I
    ·have hi:=(List.getElem?_eq_some_iff.1 h).1;have:=(T.a _ Z i loc _ h (List.getElem?_eq_getElem (by omega))).1;rw[this]at I;cases I
  have R:=ra (hU D) fun i c h=>Ml h;obtain⟨u,h',e,rfl,F⟩:=uD Mj OW R.b R.rB R.oB R.nB R.rP R.hP R.fl R.nP hw i0 i1;obtain⟨_,SS⟩:=P8 _ _ _ _ _ e (by decide);have rel:VsRel (mU Ms) [.agg x.cells,.agg [.int .i64 n0,.int .i64 n1],.int .u8 (wh:Int)] [.agg xs.toArray,.agg #[.int .i64 n0,.int .i64 n1],.int .u8 (wh:Int)]:=
    ⟨_,_,rfl,⟨xs,rfl,T.v _ Z⟩,_,_,rfl,⟨_,rfl,⟨_,_,rfl,rfl,⟨_,_,rfl,rfl,rfl⟩⟩⟩,_,_,rfl,rfl,rfl⟩
  refine(SS (mU Ms) W _ rel H hG).mono ?_;rintro e' W' ⟨yv,m',he,ry,H',E⟩;have:yv=.bool true:=ry;subst this;refine⟨he,I5 H H' E fun p loc ab=>?_⟩;rcases kO ab with⟨q,rfl⟩|⟨i,rfl,h1⟩
  ·exact⟨ff p,.inl (Mm q).own,.inl (F.pl p (ff p) (by simp) (Mm q)).own,rfl,fun v hv=>GI hv⟩
  ·have hi:=(List.getElem?_eq_some_iff.1 h1).1;obtain⟨c',J⟩:∃c',D[i]? =some c':=⟨_,List.getElem?_eq_getElem (by omega)⟩;have rs:=Ml J;exact⟨c',.inr rs,.inr (F.ro _ _ rs),(T.a _ Z i loc c' h1 J).2.1,T.e c' (List.mem_of_getElem? J)⟩
end Lay
end Go.Ev
namespace Go.Proofs.YteojfkejdhhhpaaGreatDoor
open Go
theorem la0:(List.range' 0 100).all (rowFine Tryz.prog)=true:=by kernel_rfl
theorem la1:(List.range' 100 100).all (rowFine Tryz.prog)=true:=by kernel_rfl
theorem la2:(List.range' 200 100).all (rowFine Tryz.prog)=true:=by kernel_rfl
theorem la3:(List.range' 300 100).all (rowFine Tryz.prog)=true:=by kernel_rfl
theorem la4:(List.range' 400 67).all (rowFine Tryz.prog)=true:=by kernel_rfl
theorem lsz:Tryz.prog.types.size=467:=by kernel_rfl
theorem P3:List.range 467=List.range' 0 100++(List.range' 100 100++(List.range' 200 100++(List.range' 300 100++(List.range' 400 67)))):=by kernel_rfl
theorem P4:(List.range Tryz.prog.types.size).all (rowFine Tryz.prog)=true:=by
  rw[lsz,P3];simp only[List.all_append,la0,la1,la2,la3,la4,Bool.and_self]
theorem lgl:Tryz.prog.globals.all (fun g=>decide (g.type<Tryz.prog.types.size))=true:=by rw[lsz];kernel_rfl
theorem lfn:Tryz.prog.funcs.all (fun f=>f.params.all fun t=>decide (t<Tryz.prog.types.size))=true:=by rw[lsz];kernel_rfl
theorem qR:laidOutB Tryz.prog=true:=by
  unfold laidOutB;rw[P4,lgl,lfn];rfl
end Go.Proofs.YteojfkejdhhhpaaGreatDoor
namespace Go.Proofs.YteojfkejdhhhpaaGreatDoor
open Go.ChangeShapes Go.WideShapes Go.ChangeAt Go.WideMaps Go.WideElems Go.RowKit Go.Deep
open Go.Ev (V VRel)
open Go.Ev.Lay (Tab ff pZ bS)
theorem own:ownKnob Tryz.prog.godebug=none:=by kernel_rfl
theorem gKd:Tryz.prog.globalNamed "paternoster/scripts.kinds" =some 0:=by kernel_rfl
theorem P9:Tryz.prog.globalNamed "internal/strconv.uint64pow10" =some 2:=by kernel_rfl
theorem tKd:(Tryz.prog.globals[0]?).map (·.type)=some 156:=by kernel_rfl
theorem PN:(Tryz.prog.globals[2]?).map (·.type)=some 355:=by kernel_rfl
theorem c9:Tryz.prog.cellsOf 9=1:=by kernel_rfl
theorem c56:Tryz.prog.cellsOf 56=1:=by kernel_rfl
theorem Qf:Tryz.prog.cellsOf 156=8:=by kernel_rfl
theorem Qe:Tryz.prog.cellsOf 355=20:=by kernel_rfl
abbrev sQ:List (String×DataW Unit):=[("math/bits.deBruijn32tab",Rows.laid_math_bits_deBruijn32tab),("math/bits.deBruijn64tab",Rows.laid_math_bits_deBruijn64tab),("internal/strconv.uint64pow10",Rows.laid_internal_strconv_uint64pow10),("unicode/utf8.acceptRanges",Rows.laid_unicode_utf8_acceptRanges),("strconv.ErrRange",Rows.laid_strconv_ErrRange),("strconv.ErrSyntax",Rows.laid_strconv_ErrSyntax),("paternoster/scripts.kinds",Rows.laid_paternoster_scripts_kinds),("unicode/utf8.first",Rows.laid_unicode_utf8_first)]
def HR:V->Lit
  |.str s=>.string s
  |.int k n=>.int k n
  |_=>.bool false
theorem Ko{H:Type}:(Rows.laid_paternoster_scripts_kinds:DataW H)=.agg ((ff 0).map fun v=>.lit (HR v)):=rfl
theorem HX{H:Type}:(Rows.laid_internal_strconv_uint64pow10:DataW H)=.agg ((ff 2).map fun v=>.lit (HR v)):=rfl
theorem Ok{α:Type}{l:List α}{i:Nat}{v:α}(h:(l.drop i).take 1=[v]):l[i]? =some v:=by
  have:((l.drop i).take 1)[0]? =some v:=by rw[h];rfl
  rw[List.getElem?_take,if_pos (by omega),List.getElem?_drop]at this;simpa using this
/-- one of the variables that are laid -/
theorem Gh{W:World}:∀{laid:List (String×DataW Unit)}{ps:List MemPlace},DataW.LaidVars Tryz.prog W laid ps→∀{n:String}{d:DataW Unit},(n,d)∈laid→
    ∃g t cs fuel p,Tryz.prog.globalNamed n=some g∧(Tryz.prog.globals[g]?).map (·.type)=some t∧W.var? Tryz.prog n=some cs∧DataW.trod (fun _=>()) Tryz.prog W 0 (fun _=>true) false fuel t cs.toList=some (d,p)∧∀x∈MemPlace.row ⟨g,0,none⟩ cs.size,x∈ps
  |[],_,_,_,_,m=>by cases m
  |(n0,d0)::r,ps,h,n,d,m=>by
    obtain⟨g,t,cs,fuel,p,q,h1,h2,h3,h4,h5,rfl⟩:=h;rcases List.mem_cons.1 m with e|m
    ·cases e;exact⟨g,t,cs,fuel,p,h1,h2,h3,h4,fun x hx=>by simp[hx]⟩
    ·obtain⟨g',t',cs',fuel',p',a1,a2,a3,a4,a5⟩:=Gh h5 m;exact⟨g',t',cs',fuel',p',a1,a2,a3,a4,fun x hx=>by simp[a5 x hx]⟩
theorem HE{W:World}{nm:String}{g t te:Nat}{L:List V}{d:DataW Unit}(hL:L≠[])(gn:Tryz.prog.globalNamed nm=some g)(tn:(Tryz.prog.globals[g]?).map (·.type)=some t)(hu:Tryz.prog.underlying t=some (.array L.length te))(ct:Tryz.prog.cellsOf t=L.length)(ce:Tryz.prog.cellsOf te=1)(hd:d=.agg (L.map fun v=>.lit (HR v)))
    (el:∀(n:Nat)(x:Value)(v:V)(q:List MemPlace),v∈L->DataW.trod (fun _=>()) Tryz.prog W 0 (fun _=>true) false n te [x]=some (.lit (HR v),q)->(∀m,VRel m v x)/\∀n,x≠.int .u8 n)
    {D:List (String×DataW Unit)} {ps:List MemPlace} (lv:DataW.LaidVars Tryz.prog W D ps) (hm:(nm,d)∈D) (aE:∀b off,MemPlace.cell b off∈ps->∃c t,W.heap[b]? =some (.cells c t (0,0))):
    ∃C t,W.heap[g]? =some (.cells C t (0,0))/\C.size=L.length/\∀(i:Nat) v,L[i]? =some v->∃x,C[i]? =some x/\(∀m,VRel m v x)/\∀n,x≠.int .u8 n:=by
  obtain⟨g0,t0,I,f0,p0,ak,a0,U,aj,ao⟩:=Gh lv hm;obtain rfl:=Option.some.inj (gn.symm.trans ak);obtain rfl:=Option.some.inj (tn.symm.trans a0);obtain⟨R,m1,hx,Z,hn,J⟩:∃(R:List (DataW Unit×List MemPlace))(m1:Nat),DataW.agg (R.map (·.1))=d/\I.toList.length=Tryz.prog.cellsOf t/\R.length=L.length/\∀i,i<L.length->DataW.trod (fun _=>()) Tryz.prog W 0 (fun _=>true) false m1 te ((I.toList.drop (i*Tryz.prog.cellsOf te)).take (Tryz.prog.cellsOf te))=R[i]? :=by
    obtain⟨R,m1,rfl,hx,Z,hn,J⟩:=DataW.trod_array hu aj;exact⟨R,m1,(congrArg Prod.fst hx).symm,Z,hn,J⟩
  rw[ct]at Z;rw[ce]at J;have ab:I.size=L.length:=by simpa using Z
  have a1:0<L.length:=List.length_pos_iff.2 hL;obtain⟨C,ty,hC⟩:=aE g 0 (ao _ (by rw[ab];simp[MemPlace.row];omega));have eC:C=I:=by
    unfold World.var? at U;rw[gn]at U;simp only[Option.bind_some,hC]at U;exact Option.some.inj U
  subst eC;refine⟨C,ty,hC,ab,fun i v hi=>?_⟩;have aR:i<L.length:=(List.getElem?_eq_some_iff.1 hi).1;have ah:R[i]? =some (R[i]'(by omega)):=List.getElem?_eq_getElem _;have he:=J i aR;rw[ah]at he;rw[hd]at hx;have aA:=DataW.agg.inj hx;have ad:=congrArg (fun l=>l[i]?) aA;simp only[List.getElem?_map,hi,ah,Option.map_some,Option.some.injEq]at ad;have aF:C.toList[i]? =some (C.toList[i]'(by omega)):=List.getElem?_eq_getElem _;have ax:(C.toList.drop (i*1)).take 1=[C.toList[i]'(by omega)]:=by
    rw[Nat.mul_one,List.drop_eq_getElem_cons (by omega)];rfl
  rw[ax]at he;obtain⟨a,b⟩:=el m1 _ v (R[i]'(by omega)).2 (List.mem_of_getElem? hi) (by rw[he,<-ad]);exact⟨_,by simpa using aF,a,b⟩
theorem Kb{W:World}(h:laidMetH Tryz.prog sQ W):Tab W:=by
  rw[MakeChecks.laidMetH_plain _ _ _ (by kernel_rfl)]at h;obtain⟨ps,lv,_,U⟩:=h;rintro g (rfl|rfl)
  ·exact HE (L:=ff 0) (te:=9) (by simp[ff,pZ]) gKd tKd Tryz.underlying156 Qf c9 Ko (fun n x v q m hx=>by
     obtain⟨s,e,Z,_⟩:=DataW.trod_string Tryz.underlying9 hx;obtain rfl:x=.string s:=by simpa using e
     have Z:=congrArg Prod.fst Z;simp only[ff,pZ,List.mem_cons,List.mem_nil_iff,or_false]at m;refine⟨fun R=>?_,fun n e=>by cases e⟩;rcases m with rfl|rfl|rfl|rfl|rfl|rfl|rfl|rfl<;>(simp only[HR,DataW.lit.injEq,Lit.string.injEq]at Z;simp only[VRel,Z]))
     lv (by simp) (fun b off m=>(U b off m).1)
  ·exact HE (L:=ff 2) (te:=56) (by simp[ff,bS]) P9 PN Tryz.underlying355 Qe c56 HX (fun n x v q m hx=>by
     obtain⟨k,e,Z,_⟩:=DataW.trod_int Tryz.underlying56 hx;obtain rfl:x=.int .u64 k:=by simpa using e
     have m:v∈bS:=m;simp only[bS,List.mem_map]at m;obtain⟨n,_,rfl⟩:=m;have Z:=congrArg Prod.fst Z;have Z:(DataW.lit (.int .u64 n):DataW Unit)=.lit (.int .u64 k):=Z;cases Z;exact⟨fun R=>rfl,fun n e=>by cases e⟩)
     lv (by simp) (fun b off m=>(U b off m).1)
end Go.Proofs.YteojfkejdhhhpaaGreatDoor
