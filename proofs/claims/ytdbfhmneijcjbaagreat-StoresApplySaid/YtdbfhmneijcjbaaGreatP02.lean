/- An evaluator of the program, and contracts over it: EvLp to EvZa. -/
import Derived.RangeFuncRecord
import Derived.OrdersIn
import Derived.Test.YtdbfhmneijcjbaaGreatP01
set_option linter.unusedSimpArgs false
set_option linter.unusedVariables false
set_option linter.constructorNameAsVariable false
set_option linter.unnecessarySimpa false
namespace Go.Ev
noncomputable def hnew(h:Heap)(k:Blk):Heap:=⟨h.bl.set h.next k,h.next+1,h.fams⟩
noncomputable def hset(h:Heap)(b:Nat)(k:Blk):Heap:=⟨h.bl.set b k,h.next,h.fams⟩
section
variable {P : Program} {m : M} {h : Heap} {w : World}
theorem HRel.allocL(H:HRel m h w){w1:World}{L:Nat}{g:LG}{env:T V}(hk:∀i,i<w.heap.size->w1.heap[i]? =w.heap[i]?)(ar:w.heap.size<=L)
 (hL:w1.heap[L]? =some (.loop {g.r with state:=.ready,pending:=none})) (af:∀s v,env.get s=some v->s=DSL\/(g.vars.contains s=true/\VRel m v (g.r.tmps.getD s undef))):
 HRel (eh m h.next ⟨L,0,0,some g⟩) (hnew h (.lp g.ps g.as g.bd env 0 none)) w1:=by
 have ac:=H.le_mset ⟨L,0,0,some g⟩;have ak:L<w1.heap.size:=(Tn.1 hL).1;refine⟨⟨?_,?_⟩,?_,?_,?_⟩;intro p cp f k Z;show match h.fams.get f with|none=>f=p|some (_,e)=>k<=e
 rw[hnew,TF]at Z;by_cases e:p=h.next;grind;rw[if_neg e]at Z;exact H.wf.fam _ _ _ _ Z;intro p Z;have an:h.next+1<=p:=Z;refine⟨?_,(H.wf.fresh p oM).2⟩;rw[hnew,Sd _ _ oM];exact(H.wf.fresh p oM).1;intro p K Z;by_cases e:p=h.next;subst e;rw[aA]at Z;cases Z;exact⟨.lp g.ps g.as g.bd env 0 none,by rw[hnew,SU],g,rfl,rfl,rfl,rfl,hL,fun s v hs=>(af s v hs).imp id fun q=>⟨q.1,TA ac _ _ q.2⟩⟩;rw[aE _ _ e]at Z;let⟨b,hb,r⟩:=H.blk p K Z;exact⟨b,by rw[hnew,Sd _ _ e];exact hb,r.mono ac (fun _ _ _ _ x=>x) (hk _ (H.inb p K Z))⟩;intro p K Z;by_cases e:p=h.next;subst e;rw[aA]at Z;cases Z;exact ak;rw[aE _ _ e]at Z;have:=H.inb p K Z;omega;intro p q lp lq Z hq he ae;by_cases e:p=h.next;subst e;rw[aA]at Z;cases Z;rw[aE _ _ (Ub ae)]at hq;have:=H.inb q lq hq;simp only[]at he;omega;rw[aE _ _ e]at Z;by_cases e2:q=h.next;subst e2;rw[aA]at hq;cases hq;have:=H.inb p lp Z;simp only[]at he;omega;rw[aE _ _ e2]at hq;let⟨cp,cq,f,kp,kq,a,b,d⟩:=H.sep p q lp lq Z hq he ae;exact⟨cp,cq,f,kp,kq,by rw[hnew,Sd _ _ e];exact a,by rw[hnew,Sd _ _ e2];exact b,d⟩
theorem HRel.loop(H:HRel m h w){b:Nat}{Z:Loc}(hm:m b=some Z){ps:List Nat}{as bd:IC}{env:T V}{st:Nat}{K:Option Ex}(hb:h.bl.get b=some (.lp ps as bd env st K)):
 ∃g,Z.lp=some g/\g.ps=ps/\g.as=as/\g.bd=bd/\w.heap[Z.block]? =some (.loop {g.r with state:=lst st,pending:=K.map iI})/\
  ∀s v,env.get s=some v->s=DSL\/(g.vars.contains s=true/\VRel m v (g.r.tmps.getD s undef)):=by
 let⟨bk,ac,rel⟩:=H.blk b Z hm;rw[hb]at ac;cases ac;exact rel
theorem HRel.setL(H:HRel m h w){b:Nat}{K:Loc}(hm:m b=some K){ps:List Nat}{as bd:IC}{env:T V}{st:Nat}{ar:Option Ex}(hb:h.bl.get b=some (.lp ps as bd env st ar))
 {g:LG} (hg:K.lp=some g) (ac:Nat) (Z:Option Ex):
 HRel m (hset h b (.lp ps as bd env ac Z)) (w.putObj K.block (.loop {g.r with state:=lst ac,pending:=Z.map iI}))/\
 Ext m h w m (hset h b (.lp ps as bd env ac Z)) (w.putObj K.block (.loop {g.r with state:=lst ac,pending:=Z.map iI})):=by
 have an:=H.inb b K hm;let⟨g',ax,e1,e2,e3,e4,e5⟩:=H.loop hm hb;rw[hg]at ax;cases ax;have ae:∀p lp,m p=some lp->p≠b->lp.block≠K.block:=by intro p lp hp ak af;let⟨cp,cq,f,kp,kq,a1,a2,_⟩:=H.sep p b lp K hp hm af ak;rw[hb]at a2;cases a2
 refine⟨⟨⟨?_,?_⟩,?_,?_,?_⟩,⟨fun _ _ x=>x,fun p l a c=>(by rw[a]at c;cases c),RW _,?_,iS,?_,rfl,rfl,rfl,fun _ _ _ x=>x,?_,fun _ _ a b=>by simp[a]at b⟩⟩;intro p cp f k hp;show match h.fams.get f with|none=>f=p|some (_,e)=>k<=e
 rw[hset,TF]at hp;by_cases e:p=b;grind;rw[if_neg e]at hp;exact H.wf.fam _ _ _ _ hp;intro p hp;have ay:=H.wf.fresh p hp;have az:p≠b:=by grind
 exact⟨by rw[hset,Sd _ _ az];exact ay.1,ay.2⟩;intro p lp hp;by_cases e:p=b;subst e;rw[hm]at hp;cases hp;exact⟨.lp ps as bd env ac Z,by rw[hset,SU],g,hg,e1,e2,e3,World.putObj_heap_same an,e5⟩;let⟨bk,hbk,r⟩:=H.blk p lp hp;exact⟨bk,by rw[hset,Sd _ _ e];exact hbk,r.mono (fun _ _ x=>x) (fun _ _ _ _ x=>x) (World.putObj_heap_other (ae p lp hp e))⟩;intro p lp hp;have:=H.inb p lp hp;simpa using this;intro p q lp lq hp hq af ak;let⟨cp,cq,f,kp,kq,a1,a2,a3⟩:=H.sep p q lp lq hp hq af ak;have h1:p≠b:=by grind
 have h2:q≠b:=by grind
 exact⟨cp,cq,f,kp,kq,by rw[hset,Sd _ _ h1];exact a1,by rw[hset,Sd _ _ h2];exact a2,a3⟩;intro p hn hp;have h1:p≠b:=by grind
 rw[hset,Sd _ _ h1];intro k hk a0;exact World.putObj_heap_other (fun e=>hk b K hm e.symm);intro q aH;by_cases h4:q=K.block;subst h4;intro x hx;rw[e4]at hx;cases hx;exact⟨_,World.putObj_heap_same an,trivial⟩;exact UX (World.putObj_heap_other h4)
theorem HRel.endL(H:HRel m h w){b:Nat}{loc:Loc}(hm:m b=some loc){ps:List Nat}{as bd:IC}{env:T V}{st:Nat}{pend:Option Ex}(hb:h.bl.get b=some (.lp ps as bd env st pend))(o:Obj):
 HRel (eh m b {loc with lp:=none}) (hset h b .dead) (w.putObj loc.block o):=by
 have hgeo:Geo m (eh m b {loc with lp:=none}):=by intro q l hq;by_cases e:q=b;subst e;rw[hm]at hq;cases hq;exact⟨_,aA _ _ _,rfl,rfl,rfl⟩;exact⟨l,by rw[aE _ _ e];exact hq,rfl,rfl,rfl⟩
 have hother:∀p lp,m p=some lp→p≠b→lp.block≠loc.block:=by intro p lp hp hne hbl;let⟨cp,cq,f,kp,kq,a1,a2,_⟩:=H.sep p b lp loc hp hm hbl hne;rw[hb]at a2;cases a2
 refine⟨⟨?_,?_⟩,?_,?_,?_⟩;intro p cp f k hp;show match h.fams.get f with|none=>f=p|some (_,e)=>k≤e
 rw[hset,T.get_set]at hp;by_cases e:p=b;grind;rw[if_neg e]at hp;exact H.wf.fam _ _ _ _ hp;intro p hp;have hfr:=H.wf.fresh p hp;have hpb:p≠b:=by grind
 exact⟨by rw[hset,T.get_set_ne _ _ hpb];exact hfr.1,hfr.2⟩;intro p lp hp;by_cases e:p=b;subst e;exact⟨.dead,by rw[hset,T.get_set_self],trivial⟩;rw[aE _ _ e]at hp;let⟨bk,hbk,r⟩:=H.blk p lp hp;refine⟨bk,by rw[hset,T.get_set_ne _ _ e];exact hbk,?_⟩;have hw:(w.putObj loc.block o).heap[lp.block]? =w.heap[lp.block]? :=World.putObj_heap_other (hother p lp hp e);cases bk with
 |row c f k=>intro hrd;let⟨C,el,fz,a,b',c',d,e'⟩:=r hrd;exact⟨C,el,fz,hw.trans a,b',c',fun i v hi=>let⟨x,hx,rx⟩:=d i v hi;⟨x,hx,VRel.geo hgeo _ _ rx⟩,e'⟩
 |mp es clock=>let⟨es',a,b',c⟩:=r;refine⟨es',hw.trans a,b',fun i k v n hi=>?_⟩;let⟨e',he,r1,r2,r3⟩:=c i k v n hi;exact⟨e',he,VRel.geo hgeo _ _ r1,VRel.geo hgeo _ _ r2,r3⟩
 |lp ps as bd en st pend=>let⟨g,q1,q2,q3,q4,q5,q6⟩:=r;exact⟨g,q1,q2,q3,q4,hw.trans q5,fun s v hs=>(q6 s v hs).imp id fun q=>⟨q.1,VRel.geo hgeo _ _ q.2⟩⟩
 |si s pos=>exact⟨r.1,hw.trans r.2⟩
 |dead=>trivial
 intro p lp hp;by_cases e:p=b;subst e;rw[aA]at hp;cases hp;simpa using H.inb p loc hm;rw[aE _ _ e]at hp;simpa using H.inb p lp hp;intro p q lp lq hp hq hbl hne;by_cases e:p=b;subst e;rw[aA]at hp;cases hp;rw[aE _ _ (Ne.symm hne)]at hq;exact absurd hbl.symm (hother q lq hq (Ne.symm hne));rw[aE _ _ e]at hp;by_cases e2:q=b;subst e2;rw[aA]at hq;cases hq;exact absurd hbl (hother p lp hp hne);rw[aE _ _ e2]at hq;let⟨cp,cq,f,kp,kq,a,b',d⟩:=H.sep p q lp lq hp hq hbl hne;exact⟨cp,cq,f,kp,kq,by rw[hset,T.get_set_ne _ _ e];exact a,by rw[hset,T.get_set_ne _ _ e2];exact b',d⟩
theorem Ext.loop(H:HRel m h w){w1 w2:World}{L:Nat}{g:LG}{k:Blk}{m2:M}{h2:Heap}{o:Obj}(hk:∀i,i<w.heap.size->w1.heap[i]? =w.heap[i]?)(an:w.heap.size<=L)(aH:w.heap.size<=w1.heap.size)
 (ay:w1.os=w.os) (ar:w1.tape=w.tape) (ak:w1.output=w.output) (E:Ext (eh m h.next ⟨L,0,0,some g⟩) (hnew h k) w1 m2 h2 w2):
 Ext m h w (eh m2 h.next ⟨L,0,0,none⟩) (hset h2 h.next .dead) (w2.putObj L o):=by
 have ae:∀p l,m p=some l->p≠h.next:=fun p l Z x=>by subst x;rw[H.unmapped (RW _)]at Z;cases Z
 have ac:∀b i,b<w.heap.size->Cov (eh m h.next ⟨L,0,0,some g⟩) b i->Cov m b i:=by rintro b i hb ⟨q,l,K,h1,h2,h3⟩;by_cases e:q=h.next;subst e;rw[aA]at K;cases K;simp only[]at h1;omega;rw[aE _ _ e]at K;exact⟨q,l,K,h1,h2,h3⟩
 have hnx:(hnew h k).next=h.next+1:=rfl;refine⟨?_,?_,?_,?_,?_,?_,E.os.trans ay,E.tape.trans ar,E.output.trans ak,?_,?_,?_⟩;intro p l Z;rw[aE _ _ (ae p l Z)];exact E.le p l (by rw[aE _ _ (ae p l Z)];exact Z);intro p l Z hn;by_cases e:p=h.next;subst e;rw[aA]at Z;cases Z;exact⟨RW _,.inl an⟩;rw[aE _ _ e]at Z;let⟨n1,n2⟩:=E.new p l Z (by rw[aE _ _ e];exact hn);rw[hnx]at n1;refine⟨oM,?_⟩;obtain n2|⟨q,lq,K,e2⟩:=n2;omega;by_cases e3:q=h.next;subst e3;rw[aA]at K;cases K;exact .inl (by simp only[]at e2;omega);rw[aE _ _ e3]at K;exact .inr ⟨q,lq,K,e2⟩;have:=E.next;rw[hnx]at this;show h.next<=h2.next;omega;intro p hn Z;have af:p≠h.next:=oM;show(h2.bl.set h.next .dead).get p=_;rw[Sd _ _ af,E.phan p (by rw[aE _ _ af];exact hn) oM];show(h.bl.set h.next k).get p=_;rw[Sd _ _ af];have:=E.size;simp;omega;intro b hb az;rw[World.putObj_heap_other oM,E.keep b (fun p l Z e=>?_) oM,hk b az];by_cases e2:p=h.next;subst e2;rw[aA]at Z;cases Z;simp only[]at e;omega;rw[aE _ _ e2]at Z;exact hb p l Z e;rintro b i hb ⟨q,l,K,h1,ax,h3⟩;by_cases e:q=h.next;subst e;rw[aA]at K;cases K;simp only[]at h1;omega;rw[aE _ _ e]at K;exact ac b i hb (E.cov b i oM ⟨q,l,K,h1,ax,h3⟩);intro b hb;rw[World.putObj_heap_other oM,<-hk b hb];exact(Kept.refl m b _).trans (fun j x=>ac b j hb x) (E.out b oM);intro p l Z hn;by_cases e:p=h.next;subst e;rw[aA]at Z;cases Z;rfl;rw[aE _ _ e]at Z;exact E.lps p l Z (by rw[aE _ _ e];exact hn)
end
def Off(m:M)(r:Nat):Prop:=∀p loc,m p=some loc->loc.block≠r
theorem Off.ext{m m':M}{h h':Heap}{w w':World}{r:Nat}(o:Off m r)(E:Ext m h w m' h' w')(hr:r<w.heap.size):Off m' r:=by
 intro p loc hp e;cases h0:m p with
 |some l0=>have:=E.le _ _ h0;rw[hp]at this;cases this;exact o p loc h0 e
 |none=>obtain q|⟨q,lq,hq,e2⟩:=(E.new p loc hp h0).2;omega;exact o q lq hq (e2.trans e)
theorem HRel.putOff{m:M}{h:Heap}{w:World}(H:HRel m h w){r:Nat}(o:Off m r)(x:Obj):HRel m h (w.putObj r x):=by refine⟨H.wf,fun p Z K=>?_,fun p Z K=>by simpa using H.inb p Z K,H.sep⟩;let⟨b,hb,rb⟩:=H.blk p Z K;exact⟨b,hb,rb.mono (fun _ _ x=>x) (fun _ _ _ _ x=>x) (World.putObj_heap_other (o p Z K))⟩
theorem Ext.putOff{m m':M}{h h':Heap}{w w':World}(E:Ext m h w m' h' w'){r:Nat}(hr:w.heap.size<=r)(x:Obj):Ext m h w m' h' (w'.putObj r x):=
 ⟨E.le,E.new,E.next,E.phan,by simpa using E.size,fun b hb hl=>(World.putObj_heap_other oM).trans (E.keep b hb hl),E.os,E.tape,E.output,E.cov,
  fun b hb=>by rw[World.putObj_heap_other oM];exact E.out b hb,E.lps⟩
def Marks(B:Nat)(m:M)(w:World):List Deferred->Prop
 |[]=>True
 |d::ds=>(∃r,d={target:=.collected r,args:= #[]}/\B<=r/\w.heap[r]? =some (.deferred (some []))/\Off m r/\∀d'∈ds,d'.target≠.collected r)/\Marks B m w ds
theorem Marks.ext{B:Nat}{m m':M}{h h':Heap}{w w':World}(E:Ext m h w m' h' w'):∀{ds:List Deferred},Marks B m w ds→Marks B m' w' ds
 |[],_=>trivial
 |_::_,⟨⟨r,h1,h2,h3,h4,h5⟩,t⟩=>
  have hlt:=(Array.getElem?_eq_some_iff.1 h3).1
  ⟨⟨r,h1,h2,(E.keep r h4 hlt).trans h3,h4.ext E hlt,h5⟩,Marks.ext E t⟩
theorem Marks.put{B:Nat}{m:M}{w:World}{r:Nat}{x:Obj}:∀{ds:List Deferred},(∀d∈ds,d.target≠.collected r)->Marks B m w ds->Marks B m (w.putObj r x) ds
 |[],_,_=>trivial
 |d::ds,hn,⟨⟨r',h1,h2,h3,h4,h5⟩,t⟩=>⟨⟨r',h1,h2,(World.putObj_heap_other (fun e=>hn d iS (by rw[h1,e]))).trans h3,h4,h5⟩,Marks.put (fun d' hd=>hn d' iX) t⟩
inductive Out where
 |ok (e:Ex) (env:T V) (h:Heap)
 |fail
noncomputable def evO(loc:List V)(env:T V)(x:Opd):Option V:=
 Opd.rec (motive:=fun _=>Option V) (fun k=>nth loc k) (fun s=>env.get s) (fun v=>some v) (fun n=>some (.ptr n 0)) x
noncomputable def ef(loc:List V)(env:T V)(xs:List Opd):Option (List V):=
 List.rec (motive:=fun _=>Option (List V)) (some []) (fun x _ ih=>
  Option.rec (motive:=fun _=>Option (List V)) none (fun v=>Option.rec (motive:=fun _=>Option (List V)) none (fun vs=>some (v::vs)) ih) (evO loc env x)) xs
noncomputable def fN{β:Type}(n:Nat)(k:Nat->β):β:=Nat.rec (motive:=fun _=>β) (k 0) (fun j _=>k (Nat.succ j)) n
theorem JH{β:Type}(n:Nat)(k:Nat->β):fN n k=k n:=by cases n<;>rfl
noncomputable def fI{β:Type}(n:Int)(k:Int->β):β:=Int.rec (motive:=fun _=>β) (fun a=>fN a fun a=>k (.ofNat a)) (fun a=>fN a fun a=>k (.negSucc a)) n
theorem LD{β:Type}(n:Int)(k:Int->β):fI n k=k n:=by cases n<;>simp[fI,JH]
noncomputable def fB{β:Type}(b:Bool)(k:Bool->β):β:=Bool.rec (motive:=fun _=>β) (k false) (k true) b
theorem LE{β:Type}(b:Bool)(k:Bool->β):fB b k=k b:=by cases b<;>rfl
noncomputable def fV{β:Type}(v:V)(k:V->β):β:=
 match v with
 |.bool b=>fB b fun b=>k (.bool b)
 |.int t n=>fI n fun n=>k (.int t n)
 |.ptr b o=>fN b fun b=>fN o fun o=>k (.ptr b o)
 |.slice b o l c=>fN b fun b=>fN o fun o=>fN l fun l=>fN c fun c=>k (.slice b o l c)
 |.sliceU b o l c=>fN b fun b=>fN o fun o=>fN l fun l=>fN c fun c=>k (.sliceU b o l c)
 |v=>k v
theorem yU{β:Type}(v:V)(k:V->β):fV v k=k v:=by cases v<;>simp[fV,LE,LD,JH]
abbrev aI:=Nat->List V->Heap->Option (V×Heap)
noncomputable def aO(call:aI)(loc:List V)(env:T V)(h:Heap)(o:IOp):Option (V×Heap):=
 match o with
 |.p k xs=>match ef loc env xs with
  |some vs=>match aP k vs with
   |some v=>some (v,h)
   |none=>none
  |none=>none
 |.ld n ia x=>match evO loc env x with
  |some v=>match jk h n ia v with
   |some v=>some (v,h)
   |none=>none
  |none=>none
 |.st n x y=>match evO loc env x with
  |some p=>match evO loc env y with
   |some v=>match ig h n p v with
    |some h=>some (.tup [],h)
    |none=>none
   |none=>none
  |none=>none
 |.al zero=>some (.ptr h.next 0,halloc h zero)
 |.bx x=>match evO loc env x with
  |some v=>some (.ptr h.next 0,halloc h v.cells)
  |none=>none
 |.bs zero places len xs=>match ef loc env xs with
  |some vs=>jI h zero places len vs
  |none=>none
 |.mk zero bytes x y=>match evO loc env x with
  |some l=>match evO loc env y with
   |some c=>vZ h zero bytes l c
   |none=>none
  |none=>none
 |.ap esz bytes x y=>match evO loc env x with
  |some s=>match evO loc env y with
   |some v=>jQ h esz bytes s v
   |none=>none
  |none=>none
 |.cp esz x y=>match evO loc env x with
  |some s=>match evO loc env y with
   |some v=>mB h esz s v
   |none=>none
  |none=>none
 |.cf f xs=>match ef loc env xs with
  |some vs=>call f vs h
  |none=>none
 |.cv x xs=>match evO loc env x with
  |some (.func (.func f) first caps)=>match ef loc env xs with
   |some vs=>bif Nat.blt f YB then call f (first++vs++caps) h else none
   |none=>none
  |some (.yld b)=>match ef loc env xs with
   |some vs=>call (YB+b) vs h
   |none=>none
  |_=>none
 |.mm xs=>match ef loc env xs with
  |some vs=>amm h vs
  |none=>none
 |.lk ks zero ok xs=>match ef loc env xs with
  |some [x,key]=>match alk h ks zero ok x key with
   |some v=>some (v,h)
   |none=>none
  |_=>none
 |.mu ks xs=>match ef loc env xs with
  |some [x,key,val]=>amu h ks x key val
  |_=>none
 |.clr zero x=>match evO loc env x with
  |some d=>AR h zero d
  |none=>none
 |.b2s x=>match evO loc env x with
  |some d=>match xK h d with
   |some v=>some (v,h)
   |none=>none
  |none=>none
 |.df x xs=>match evO loc env x with
  |some (.func (.func f) first caps)=>match ef loc env xs with
   |some vs=>(match env.get DSL with
    |some _=>none
    |none=>bif Nat.blt f YB then some (.tup (.func (.func f) first caps::vs),h)else none)
   |none=>none
  |_=>none
 |.it nx x=>match evO loc env x with
  |some d=>ait h nx d
  |none=>none
 |.bad=>none
noncomputable def evG(loc:List V)(env:T V)(g:Option (Opd×Bool)):Option Bool:=
 match g with
 |none=>some true
 |some (x,want)=>match evO loc env x with
  |some (.bool b)=>some (!(xor b want))
  | some (.tup _) => some false -- the guard was passed over itself
  |_=>none
noncomputable def dM(call:aI)(l:List IStep):List V->T V->Heap->Out:=
 List.rec (motive:=fun _=>List V->T V->Heap->Out) (fun _ env h=>.ok .norm env h)
  (fun s _ ih loc env h=>
   match evG loc env s.gd with
   |some true=>match aO call loc env h s.op with
    |some (v,h)=>fV v fun v=>match s.dst with
     |none=>ih (v::loc) env h
     |some d=>ih loc (env.set d v) h
    |none=>.fail
   |some false=>match s.dst with
    |none=>ih (.tup []::loc) env h
    |some d=>ih loc (env.set d (.tup [])) h
   |none=>.fail) l
def eff:IOp->Bool
 |.p _ _=>false
 |.ld _ _ _=>false
 |.lk _ _ _ _=>false
 |.b2s _=>false
 |_=>true
noncomputable def iZ(loc:List V)(env:T V)(o:IOp):Option (List V×Option (Nat×Nat)):=
 match o with
 |.al zero=>some (zero,none)
 |.bx x=>match evO loc env x with
  |some v=>some (v.cells,none)
  |none=>none
 |.bs zero places len xs=>match ef loc env xs with
  |some vs=>match dP (aU zero len) places vs with
   |some c=>some (c,some (len,len))
   |none=>none
  |none=>none
 |.mk zero bytes x y=>match evO loc env x with
  |some l=>match evO loc env y with
   |some c=>match mkN bytes l c with
    |some (n,k)=>some (aU zero k,some (n,k))
    |none=>none
   |none=>none
  |none=>none
 |_=>none
def eF(id:Nat):Option (Nat×Nat)->V
 |some (n,k)=>.slice id 0 n k
 |none=>.ptr id 0
def lid:V->Nat
 |.ptr b _=>b
 |.slice b _ _ _=>b
 |_=>0
abbrev DS:=IStep×Option (V×List V)
def fE(s:DS):Bool:=match s.2 with
 |some _=>false
 |none=>eff s.1.op
noncomputable def u9(call:aI)(loc:List V)(env:T V)(h:Heap)(s:IStep):V:=
 bif eff s.op then .tup []else match aO call loc env h s.op with
  |some (v,_)=>v
  |none=>.tup []
noncomputable def lay(call:aI)(env:T V)(late:List Nat):List IStep->Nat->List V->Heap->Option (List DS×Heap)
 |[],_,_,h=>some ([],h)
 |s::l,i,loc,h=>
  bif late.contains i then
   match iZ loc env s.op with
   |some (c,k)=>match lay call env late l (i+1) (eF h.next k::loc) (halloc h c)with
    |some (r,h')=>some ((s,some (eF h.next k,c))::r,h')
    |none=>none
   |none=>none
  else
   match lay call env late l (i+1) (u9 call loc env h s::loc) h with
   |some (r,h')=>some ((s,none)::r,h')
   |none=>none
noncomputable def cy(loc:List V)(env:T V)(o:IOp)(u:V)(c:List V):Bool:=
 match iZ loc env o with
 |some (c',k)=>mC c c'&&vEq u (eF (lid u) k)
 |none=>false
noncomputable def iq(call:aI)(env:T V)(l:List DS):List V->List Heap->Heap->Option (List V×List Heap):=
 List.rec (motive:=fun _=>List V->List Heap->Heap->Option (List V×List Heap)) (fun loc hs _=>some (loc,hs))
  (fun s _ ih loc hs h=>
   match s.2 with
   |some (u,c)=>bif cy loc env s.1.op u c then ih (u::loc) hs h else none
   |none=>
    match evG loc env s.1.gd with
    |some true=>match aO call loc env h s.1.op with
     |some (v,h')=>fV v fun v=>bif eff s.1.op then ih (v::loc) (h'::hs) h' else ih (v::loc) hs h
     |none=>none
    |some false=>bif eff s.1.op then ih (.tup []::loc) (h::hs) h else ih (.tup []::loc) hs h
    |none=>none) l
noncomputable def gy(call:aI)(loc:List V)(env:T V)(o:IOp)(v:V):List Heap->Bool
 |[]=>true
 |h::hs=>(match aO call loc env h o with
  |some (u,_)=>vEq u v
  |none=>false)&&gy call loc env o v hs
noncomputable def mK(call:aI)(env:T V)(l:List IStep)(loc:List V)(hs:List Heap)(r:Nat×Nat×Nat):Bool:=
 match r with
 |(i,lo,hi)=>match l[i]?,loc.drop (l.length-i-1)with
  |some s,v::loc'=>(match evG loc' env s.gd with
   |some true=>gy call loc' env s.op v ((hs.reverse.drop lo).take (hi+1-lo))
   |_=>true)
  |_,_=>false
noncomputable def iu(n:Nat)(loc:List V):List (Nat×Nat)->T V->Option (T V)
 |[],env=>some env
 |(s,i)::r,env=>match loc[n-i-1]? with
  |some v=>iu n loc r (env.set s v)
  |none=>none
noncomputable def evD(call:aI)(l:List IStep)(late:List Nat)(reads:List (Nat×Nat×Nat))(sets:List (Nat×Nat))(env:T V)(h0:Heap):Out:=
 match lay call env late l 0 [] h0 with
 |none=>.fail
 |some (dl,h)=>
 match iq call env dl [] [h] h with
 |some (loc,hs)=>bif reads.all (mK call env l loc hs)then
  (match iu l.length loc sets env,hs with
   |some env',h'::_=>.ok .norm env' h'
   |_,_=>.fail)
  else .fail
 |none=>.fail
noncomputable def dbl(body:T V->Heap->Out)(k:Nat):T V->Heap->Out:=
 Nat.rec (motive:=fun _=>T V->Heap->Out) body (fun _ ih env h=>match ih env h with
  |.ok .norm env h=>ih env h
  |r=>r) k
noncomputable def gR(call:aI)(e:Ex)(env:T V)(h:Heap):Out:=
 match env.get DSL with
 |none=>.ok e env h
 |some (.tup (.func (.func f) first caps::args))=>(match call f (first++args++caps) h with
  |some (_,h)=>.ok e env h
  |none=>.fail)
 |_=>.fail
noncomputable def evC(call:aI)(c:IC):T V->Heap->Out:=
 IC.rec (motive:=fun _=>T V->Heap->Out)
  (fun env h=>.ok .norm env h)
  (fun l env h=>dM call l [] env h)
  (fun _ _ a b env h=>match a env h with
   |.ok .norm env h=>b env h
   |r=>r)
  (fun x _ _ a b env h=>match evO [] env x with
   |some (.bool t)=>bif t then a env h else b env h
   |_=>.fail)
  (fun id _ c env h=>match c env h with
   |.ok (.exit i) env h=>bif Nat.beq i id then .ok .norm env h else .ok (.exit i) env h
   |r=>r)
  (fun _ c env h=>match dbl c 48 env h with
   |.ok .norm _ _=>.fail
   |r=>r)
  (fun id env h=>.ok (.exit id) env h)
  (fun env h=>.ok .ret env h)
  (fun _ l _ c r env h=>match c env h with
   |.ok (.goto i) env h=>bif Nat.beq i l then
    (match dbl (fun env h=>match r env h with
     |.ok (.goto i) env h=>bif Nat.beq i l then .ok .norm env h else .ok (.goto i) env h
     |.ok .norm env h=>.ok (.goto l) env h
     |r=>r) 48 env h with
     |.ok .norm _ _=>.fail
     |.ok (.goto i) env h=>bif Nat.beq i l then .ok .norm env h else .fail
     |r=>r)
    else .fail
   |r=>r)
  (fun l env h=>.ok (.goto l) env h)
  (fun l late _ reads sets env h=>evD call l late reads sets env h)
  (fun _ _=>.fail)
  (fun g ps as bd _ _ env h=>match evO [] env g with
   |some (.func (.func f) first caps)=>bif Nat.blt f YB then
    (match call f (first++[.yld h.next]++caps) (hnew h (.lp ps as bd env 0 none))with
     |some (_,h2)=>(match h2.bl.get h.next with
      |some (.lp _ _ _ _ st pend)=>bif Nat.beq st 1 then .fail else .ok (match pend with|some ex=>ex|none=>.norm) env (hset h2 h.next .dead)
      |_=>.fail)
     |none=>.fail)
    else .fail
   |_=>.fail)
  (fun _ c env h=>match c env h with
   |.ok .norm env h=>gR call .norm env h
   |.ok .ret env h=>gR call .ret env h
   |_=>.fail) c
noncomputable def tG:List Nat->List V->T V->T V
 |p::ps,v::vs,env=>tG ps vs (env.set p v)
 |_,_,env=>env
noncomputable def evY(run:IC->T V->Heap->Out)(b:Nat)(vs:List V)(h:Heap):Option (V×Heap):=
 match h.bl.get b with
 |some (.lp ps as bd env 0 none)=>bif Nat.beq vs.length ps.length then
  (match run as (tG ps vs env) h with
   |.ok .norm env1 h1=>(match h1.bl.get b with
    |some (.lp ps1 as1 bd1 en1 0 p1)=>(match run bd env1 (hset h1 b (.lp ps1 as1 bd1 en1 1 p1))with
     |.ok ex _ h2=>(match h2.bl.get b with
      |some (.lp ps2 as2 bd2 en2 _ _)=>(match ex with
       |.norm=>some (.bool true,hset h2 b (.lp ps2 as2 bd2 en2 0 none))
       |ex=>some (.bool false,hset h2 b (.lp ps2 as2 bd2 en2 2 (some ex))))
      |_=>none)
     |.fail=>none)
    |_=>none)
   |_=>none)
  else none
 |_=>none
inductive RV where
 |t (s:Nat)
 |c (s n:Nat) (ia:Bool)
structure IFn where
 nargs:Nat
 body:IC
 results:List RV
def vd:List IStep->List Nat
 |[]=>[]
 |s::l=>match s.dst with
  |some d=>d::vd l
  |none=>vd l
def vz:IC->List Nat
 |.ops l=>vd l
 |.seq a b|.cond _ a b|.scope a _ b=>vz a++vz b
 |.block _ a|.loop a|.wd a=>vz a
 |.dops _ _ _ _ t=>t.map Prod.fst
 |.rf _ p a b=>p++(vz a++vz b)
 |_=>[]
def IFn.vars(f:IFn):List Nat:=List.range f.nargs++vz f.body
noncomputable def evR(env:T V)(h:Heap):RV->Option V
 |.t s=>env.get s
 |.c s n ia=>match env.get s with
  |some v=>jk h n ia v
  |none=>none
noncomputable def fC(env:T V)(h:Heap):List RV->Option (List V)
 |[]=>some []
 |r::rs=>match evR env h r with
  |some v=>match fC env h rs with
   |some vs=>some (v::vs)
   |none=>none
  |none=>none
noncomputable def gA(vs:List V):Nat->T V->T V:=
 List.rec (motive:=fun _=>Nat->T V->T V) (fun _ en=>en) (fun v _ ih i en=>ih (Nat.succ i) (en.set i v)) vs
noncomputable def evF(ov:aI)(F:T IFn)(n:Nat):aI:=
 Nat.rec (motive:=fun _=>aI) (fun _ _ _=>none)
  (fun _ ih f vs h=>match F.get f with
   |some fn=>bif Nat.beq vs.length fn.nargs then
    (match evC ih fn.body (gA vs 0 .e) h with
     |.ok .norm env h=>match fC env h fn.results with
      |some [v]=>fV v fun v=>some (v,h)
      |some vs=>some (.tup vs,h)
      |none=>none
     |.ok .ret env h=>match fC env h fn.results with
      |some [v]=>fV v fun v=>some (v,h)
      |some vs=>some (.tup vs,h)
      |none=>none
     |_=>none)
    else none
   |none=>bif Nat.ble YB f then evY (evC ih) (f-YB) vs h else ov f vs h) n
inductive Src where
 |l (k:Nat)
 |v (s:Nat)
 |x (o:Operand)
 |bad
abbrev Sg:=List (Nat×Src)
def fc:Sg->Nat->Option Src
 |[],_=>none
 |(d,s)::r,t=>if d=t then some s else fc r t
def tC:Src->Src
 |.l k=>.l (k+1)
 |s=>s
def Dp:Sg->Sg
 |[]=>[]
 |(d,s)::r=>(d,tC s)::Dp r
def mF(d t:Nat):Src->Src
 |.v s=>if t=d\/s=d then .bad else .v s
 |s=>if t=d then .bad else s
def xT(d:Nat):Sg->Sg
 |[]=>[]
 |(t,s)::r=>(t,mF d t s)::xT d r
def qq(G:Nat):Operand->Opd->Bool
 |.const x,.c v=>vis v x
 |.global g,.g n=>Nat.beq g n&&Nat.blt g G
 |.func f,.c (.func (.func f') [] [])=>Nat.beq f f'
 |_,_=>false
def dg(G:Nat):Src->Opd->Bool
 |.l k,.l j=>Nat.beq k j
 |.v s,.v t=>Nat.beq s t
 |.x o,y=>qq G o y
 |_,_=>false
structure Cx where
 G:Nat
 vars:List Nat
 N:Nat
 df:Bool
def mg(C:Cx)(σ:Sg):Operand->Opd->Bool
 |.tmp t,y=>match fc σ t with
  |some s=>dg C.G s y
  |none=>match y with
   |.v s=>Nat.beq s t&&C.vars.contains t
   |_=>false
 |o,y=>qq C.G o y
def cD(C:Cx)(σ:Sg):List Operand->List Opd->Bool
 |[],[]=>true
 |o::os,y::ys=>mg C σ o y&&cD C σ os ys
 |_,_=>false
def cJ(P:Program)(C:Cx)(σ:Sg)(o:Oper):IOp->Bool
 |.p k xs=>bH P o.op k&&cD C σ o.op.operands.toList xs
 |.ld n ia x=>xv P o.op n ia&&cD C σ o.op.operands.toList [x]
 |.st n x y=>tf P o.op n&&cD C σ o.op.operands.toList [x,y]
 |.al zero=>oI P o.op zero
 |.bx x=>xx o.op&&cD C σ o.op.operands.toList [x]
 |.bs zero places len xs=>lN P o.op zero places len&&cD C σ o.op.operands.toList xs
 |.mk zero bytes x y=>oF P o.op zero bytes&&cD C σ o.op.operands.toList [x,y]
 |.ap esz bytes x y=>xA P o.op esz bytes&&cD C σ o.op.operands.toList [x,y]
 |.cp esz x y=>xw P o.op esz&&cD C σ o.op.operands.toList [x,y]
 |.cf f xs=>match o.op with
  |.call {callee:=.value (.func f'),args, .. }=>Nat.beq f f'&&cD C σ args.toList xs&&Nat.blt f YB
  |_=>false
 |.cv x xs=>match o.op with
  |.call {callee:=.value y,args, .. }=>mg C σ y x&&cD C σ args.toList xs
  |_=>false
 |.mm xs=>Gh P o.op&&cD C σ o.op.operands.toList xs
 |.lk ks zero ok xs=>Gi P o.op ks zero ok&&cD C σ o.op.operands.toList xs
 |.mu ks xs=>Gg P o.op ks&&cD C σ o.op.operands.toList xs
 |.clr zero x=>AL P o.op zero&&cD C σ o.op.operands.toList [x]
 |.b2s x=>AM P o.op&&cD C σ o.op.operands.toList [x]
 |.df _ _=>false
 |.it nx x=>Gj P o.op nx&&cD C σ o.op.operands.toList [x]
 |.bad=>true
def JA:Op->Bool
 |.defer _=>false
 |_=>true
def mw(P:Program)(C:Cx)(σ:Sg)(o:Oper)(i:IOp):Bool:=JA o.op&&cJ P C σ o i
def JN(C:Cx)(σ:Sg)(o:Oper)(s:IStep):Bool:=
 C.df&&(match s.dst with|some d=>Nat.beq d DSL|none=>false)&&(match o.dst with|none=>true|some _=>false)&&(match o.guard,s.gd with|none,none=>true|_,_=>false)&&
 (match s.op with
  |.df x xs=>(match o.op with
   |.defer {callee:=.value y,args, .. }=>mg C σ y x&&cD C σ args.toList xs
   |_=>false)
  |_=>false)
def Dm(C:Cx)(σ:Sg)(ops:Array Oper)(g:Option (Nat×Bool))(s:Option (Opd×Bool)):Bool:=
 match g,s with
 |none,none=>true
 |some (j,want),some (x,want')=>(want==want')&&(match(ops[j]?).bind (·.dst)with
  |some d=>Nat.blt d C.N&&mg C σ (.tmp d) x
  |none=>false)
 |_,_=>false
def zf(C:Cx)(d:Option Nat)(s:Option Nat):Bool:=
 match d,s with
 |none,none=>true
 |some d,none=> !C.vars.contains d&&Nat.blt d C.N
 |some d,some e=>Nat.beq d e&&C.vars.contains d&&Nat.blt d C.N
 |none,some _=>false
def zQ(σ:Sg)(d:Option Nat)(s:Option Nat):Sg:=
 match d,s with
 |none,_=>Dp σ
 |some d,none=>(d,.l 0)::Dp σ
 |some d,some _=>xT d σ
def xJ(C:Cx)(σ:Sg)(ops:Array Oper)(o:Oper):Option (Nat×Src):=
 match o.op,o.guard,o.dst with
 |.move x,none,some d=>
  if !C.vars.contains d&&Nat.blt d C.N then
   match x with
   |.tmp t=>
    match fc σ t with
    |some (.v s)=>if ops.any (fun p=>p.dst==some s)then none else some (d,.v s)
    |some s=>some (d,s)
    |none=>if C.vars.contains t&& !ops.any (fun p=>p.dst==some t)then some (d,.v t)else none
   |x=>some (d,.x x)
  else none
 |_,_,_=>none
def BS(σ:Sg):Sg:=xT DSL σ
def gZ(P:Program)(C:Cx)(ops:Array Oper):List Oper->List IStep->Sg->Bool
 |[],[],_=>true
 |[],_::_,_=>false
 |o::os,steps,σ=>
  match xJ C σ ops o with
  |some p=>gZ P C ops os steps (p::σ)
  |none=>match steps with
   |[]=>false
   |s::rest=>Dm C σ ops o.guard s.gd&&mw P C σ o s.op&&zf C o.dst s.dst&&gZ P C ops os rest (zQ σ o.dst s.dst)||(JN C σ o s&&gZ P C ops os rest (BS σ))
def Glob(K:LG->Prop)(G:Nat)(m:M):Prop:=(∀g,g<G->∃r,m g=some ⟨g,0,r,none⟩)/\∀p loc g,m p=some loc->loc.lp=some g->K g
theorem Glob.ext{K:LG->Prop}{G:Nat}{m m':M}{h h':Heap}{w w':World}(a:Glob K G m)(E:Ext m h w m' h' w'):Glob K G m':=
 ⟨fun g hg=>let⟨r,hr⟩:=a.1 g hg;⟨r,E.le _ _ hr⟩,fun p loc g hp hl=>by
  cases h0:m p with
  |some l0=>have:=E.le _ _ h0;rw[hp]at this;cases this;exact a.2 p loc g h0 hl
  |none=>rw[E.lps p loc hp h0]at hl;cases hl⟩
variable {K : LG -> Prop}
def Inv(G:Nat)(m:M)(loc:List V)(env:T V)(a:Act)(σ:Sg):Prop:=
 ∀t s,fc σ t=some s->∀y v,dg G s y=true->evO loc env y=some v->VRel m v (a.tmps.getD t undef)
def ERel(C:Cx)(m:M)(env:T V)(a:Act):Prop:=
 a.tmps.size=C.N/\(∀s v,env.get s=some v->s=DSL\/(C.vars.contains s=true/\VRel m v (a.tmps.getD s undef)))/\C.vars.contains DSL=false
theorem ERel.var{C:Cx}{m:M}{env:T V}{a:Act}(K:ERel C m env a){s:Nat}{v:V}(Z:C.vars.contains s=true)(e:env.get s=some v):VRel m v (a.tmps.getD s undef):=by obtain q|q:=K.2.1 s v e;rw[q,K.2.2]at Z;cases Z;exact q.2
theorem pS{G:Nat}{m:M}{o:Operand}{y:Opd}{Z:List V}{env:T V}{v:V}{a:Act}(hG:Glob K G m)(h:qq G o y=true)(e:evO Z env y=some v):VRel m v (a.eval o):=by unfold qq at h;split at h;cases e;exact ww m _ _ h;cases e;simp only[RU,SI]at h;have:=RY h.1;subst this;let⟨r,hr⟩:=hG.1 _ h.2;exact⟨_,hr,rfl⟩;cases e;have:=RY h;subst this;exact⟨[],[],rfl,rfl,rfl⟩;cases h
theorem gI{C:Cx}{m:M}{σ:Sg}{o:Operand}{y:Opd}{Z:List V}{env:T V}{v:V}{a:Act}(hG:Glob K C.G m)(hI:Inv C.G m Z env a σ)(hE:ERel C m env a)
 (h:mg C σ o y=true) (e:evO Z env y=some v):VRel m v (a.eval o):=by
 unfold mg at h;split at h;rename_i t;split at h;rename_i s hs;exact hI t s hs y v h e;split at h;rename_i s;simp only[RU]at h;have:=RY h.1;subst this;exact hE.var h.2 e;cases h;exact pS hG h e
theorem pQ(Z:List V)(env:T V)(x:Opd)(xs:List Opd):ef Z env (x::xs)=match evO Z env x with
 |some v=>(match ef Z env xs with|some vs=>some (v::vs)|none=>none)
 |none=>none:=by
 show Option.rec (motive:=fun _=>Option (List V)) none (fun v=>Option.rec (motive:=fun _=>Option (List V)) none (fun vs=>some (v::vs)) (ef Z env xs)) (evO Z env x)=_;cases evO Z env x with
 |none=>rfl
 |some v=>cases ef Z env xs<;>rfl
def DJ(C:Cx)(m:M)(σ:Sg)(loc:List V)(env:T V)(a:Act):Prop:=∀(o:Operand)(y:Opd)(v:V),mg C σ o y=true->evO loc env y=some v->VRel m v (a.eval o)
theorem bF{C:Cx}{m:M}{σ:Sg}{loc:List V}{env:T V}{a:Act}(hO:DJ C m σ loc env a):
 ∀(os:List Operand)(ys:List Opd)(vs:List V),cD C σ os ys=true->ef loc env ys=some vs->VsRel m vs (os.map a.eval)
 |[],[],vs,_,e=>by cases e;rfl
 |[],_::_,_,h,_=>by simp[cD]at h
 |_::_,[],_,h,_=>by simp[cD]at h
 |o::os,y::ys,vs,h,e=>by
  simp only[cD,RU]at h;rw[pQ]at e;cases h1:evO loc env y with
  |none=>rw[h1]at e;cases e
  |some v=>
   rw[h1]at e;cases h2:ef loc env ys with
   |none=>rw[h2]at e;cases e
   |some ws=>rw[h2]at e;cases e;exact⟨_,_,rfl,hO _ _ _ h.1 h1,bF hO os ys ws h.2 h2⟩
theorem sP{Z:List V}{env:T V}{x:Opd}{v:V}(h:evO Z env x=some v):ef Z env [x]=some [v]:=by rw[pQ,h];rfl
theorem yW{Z:List V}{env:T V}{x y:Opd}{v u:V}(h:evO Z env x=some v)(k:evO Z env y=some u):ef Z env [x,y]=some [v,u]:=by rw[pQ,h,sP k]
def ma(m:M)(h:Heap)(w:World)(v:V)(h':Heap):Ending->World->Prop:=fun e w'=>∃x m',e=.returned x/\VRel m' v x/\HRel m' h' w'/\Ext m h w m' h' w'
abbrev FR(ro:Option Nat):Fence:={Fence.wide with round:=ro}
def eN(P:Program)(K:LG->Prop)(G:Nat)(call:aI):Prop:=∀f vs h v h',call f vs h=some (v,h')->
 (f<YB->(∃fn,P.funcs[f]? =some fn/\fn.body.isSome=true/\(fn.name== "runtime.NumGoroutine")=false)/\
  ∀m w (args:List Value),VsRel m vs args->HRel m h w->Glob K G m->
   Calls P f (List.toArray args) w (ma m h w v h')/\∀u,CallsDIn Fence.wide 0 P f (List.toArray args) u w (fun e u' w'=>u'=u/\ma m h w v h' e w'))/\
 (YB<=f->∀m w (args:List Value) loc,m (f-YB)=some loc->VsRel m vs args->HRel m h w->Glob K G m->
  ∃r:Loop,w.heap[loc.block]? =some (.loop r)/\args.length=r.params.size/\
   RoundIn Fence.wide 0 P loc.block r.fn ((r.params.zip (List.toArray args)).foldl (fun tmps (t,a)=>tmps.setIfInBounds t a) r.tmps) r.assign r.body w (ma m h w v h'))
theorem gC{P:Program}{w:World}{f:FuncId}{Z:Array Value}(h:∃fn,P.funcs[f]? =some fn/\fn.body.isSome=true/\(fn.name== "runtime.NumGoroutine")=false):
 (callFunc f Z).run P w=.ok (.enter f Z) w:=by
 let⟨fn,hf,hb,hn⟩:=h;have K:fn.body.isNone=false:=by cases hh:fn.body<;>simp_all
 simp only[callFunc,Sq,run_program,Sa,hf,hn,K,SP,if_false,Sy]
theorem rV{P:Program}{C:Cx}{call:aI}(hcall:eN P K C.G call){m:M}{h h':Heap}{w:World}{σ:Sg}{loc:List V}{env:T V}{a:Act}{o:Oper}{i:IOp}{v:V}
 (hG:Glob K C.G m) (hO:DJ C m σ loc env a) (H:HRel m h w) (hc:mw P C σ o i=true) (e:aO call loc env h i=some (v,h')) {K0:Act→World→Prop} {Q:Exit→Act→World→Prop}
 (hK:∀x w' m',VRel m' v x→HRel m' h' w'→Ext m h w m' h' w'→K0 (a.put o.dst x) w') {ro:Option Nat}:o.wpIn (FR ro) 0 P a w K0 Q:=by
 unfold mw at hc;simp only[Bool.and_eq_true]at hc;obtain⟨hnd,hc⟩:=hc;have hsem:o.semAt ro a.eval=execOp a.eval o:=Oper.semAt_eq ro a.eval o (fun c hcc=>by rw[hcc]at hnd;cases hnd);have fin:MS P m h w o a.eval v h'→o.wpIn (FR ro) 0 P a w K0 Q:=by rintro⟨x,w',m',hg,r,H',E'⟩;refine⟨fun _ _=>trivial,?_⟩;show o.uponIn (FR ro) 0 P a K0 Q ((o.semAt ro a.eval).run P w);rw[hsem];obtain hg|⟨hg,rfl⟩:=hg;rw[hg];exact hK x w' m' r H' E';rw[hg];exact hK undef w' m' r H' E'
 have entered:∀{f:Nat}{args:List Value},(execOp a.eval o).run P w=.ok (.enter f (List.toArray args)) w→Calls P f (List.toArray args) w (ma m h w v h')→o.wpIn (FR ro) 0 P a w K0 Q:=by intro f args hr hcl;refine⟨fun _ _=>trivial,?_⟩;show o.uponIn (FR ro) 0 P a K0 Q ((o.semAt ro a.eval).run P w);rw[hsem,hr];have hcl2:CallsIn Fence.wide 0 P f (List.toArray args) w (ma m h w v h'):=callsIn_wide.2 hcl;refine⟨fun q=>absurd q (by simp[Fence.wide]),CallsIn.mono (F:=FR ro) (n:=0) hcl2 ?_⟩;rintro en w' ⟨x,m',rfl,r,H',E'⟩;exact hK x w' m' r H' E'
 have one:∀x u,cD C σ o.op.operands.toList [x]=true→evO loc env x=some u→VsRel m [u] (OV a.eval o.op):=fun x u h1 h2=>bF hO _ _ _ h1 (sP h2);have two:∀x y u t,cD C σ o.op.operands.toList [x,y]=true→evO loc env x=some u→evO loc env y=some t→VsRel m [u,t] (OV a.eval o.op):=fun x y u t h1 h2 h3=>bF hO _ _ _ h1 (yW h2 h3);unfold aO at e;split at e;rename_i k xs;simp only[cJ,Bool.and_eq_true]at hc;split at e;rename_i vs hvs;split at e;rename_i u hu;cases e;exact fin (Hw H (GF hc.1 (bF hO _ _ _ hc.2 hvs) hu));cases e;cases e;rename_i n ia x;simp only[cJ,Bool.and_eq_true]at hc;split at e;rename_i u hu;split at e;rename_i t ht;cases e;obtain⟨x,r,hr⟩:=zM (P:=P) H hc.1 (one _ _ hc.2 hu) ht;exact fin ⟨x,w,m,.inl hr,r,H,Ext.refl _ _ _⟩;cases e;cases e;rename_i n x y;simp only[cJ,Bool.and_eq_true]at hc;split at e;rename_i p hp;split at e;rename_i u hu;split at e;rename_i h2 hh2;cases e;exact fin (xF H hc.1 (two _ _ _ _ hc.2 hp hu) hh2);cases e;cases e;cases e;cases e;simp only[cJ]at hc;exact fin (xL H hc);simp only[cJ,Bool.and_eq_true]at hc;split at e;rename_i u hu;cases e;exact fin (AS H hc.1 (one _ _ hc.2 hu));cases e;simp only[cJ,Bool.and_eq_true]at hc;split at e;rename_i vs hvs;exact fin (ue H hc.1 (bF hO _ _ _ hc.2 hvs) e);cases e;simp only[cJ,Bool.and_eq_true]at hc;split at e;rename_i p hp;split at e;rename_i u hu;exact fin (zL H hc.1 (two _ _ _ _ hc.2 hp hu) e);cases e;cases e;simp only[cJ,Bool.and_eq_true]at hc;split at e;rename_i p hp;split at e;rename_i u hu;exact fin (AU H hc.1 (two _ _ _ _ hc.2 hp hu) e);cases e;cases e;simp only[cJ,Bool.and_eq_true]at hc;split at e;rename_i p hp;split at e;rename_i u hu;exact fin (zR H hc.1 (two _ _ _ _ hc.2 hp hu) e);cases e;cases e;rename_i f xs;simp only[cJ]at hc;split at hc;rename_i f' args ts hy;simp only[Bool.and_eq_true,Nat.blt_eq]at hc;have:=Nat.eq_of_beq_eq_true hc.1.1;subst this;split at e;rename_i vs hvs;have hv:=bF hO _ _ _ hc.1.2 hvs;obtain⟨hf,hcl⟩:=(hcall f vs h v h' e).1 hc.2;have hr:(execOp a.eval o).run P w=.ok (.enter f (List.toArray (args.toList.map a.eval))) w:=by have q:args.map a.eval=List.toArray (args.toList.map a.eval):=Array.ext' iS;simp only[execOp,hy,resolve,Act.eval,Deferred.ofValue,Sem.run_bind,Sem.run_pure,Result.andThen_ok,invoke];rw[show((#[]:Array Value)++args.map a.eval++(#[]:Array Value))=List.toArray (args.toList.map a.eval) by simp[q]];exact gC hf
 exact entered hr (hcl m w _ hv H hG).1;cases e;cases hc;rename_i x xs;simp only[cJ]at hc;split at hc;rename_i y args ts hy;simp only[Bool.and_eq_true]at hc;split at e;rename_i f first caps hx
 split at e;rename_i vs hvs;have hv:=bF hO _ _ _ hc.2 hvs;have hfx:=hO _ _ _ hc.1 hx;let⟨f',c',hfe,rf,rc⟩:=hfx;cases hlt:Nat.blt f YB;grind;rw[hlt]at e;simp only[cond_true]at e;let⟨hf,hcl⟩:=(hcall f _ h v h' e).1 ((Nat.blt_eq ..).mp hlt);have hr:(execOp a.eval o).run P w=.ok (.enter f (List.toArray (f'++args.toList.map a.eval++c'))) w:=by have q:args.map a.eval=List.toArray (args.toList.map a.eval):=Array.ext' iS;simp only[execOp,hy,resolve,hfe,Deferred.ofValue,Sem.run_bind,Sem.run_pure,Result.andThen_ok,invoke];rw[show(List.toArray f'++args.map a.eval++List.toArray c')=List.toArray (f'++args.toList.map a.eval++c') by simp[q]];exact gC hf
 exact entered hr (hcl m w _ (VsRel.append (VsRel.append rf hv) rc) H hG).1;cases e;rename_i b hx;split at e;rename_i vs hvs;have hv:=bF hO _ _ _ hc.2 hvs;let⟨loc,hm,hfe⟩:=hO _ _ _ hc.1 hx;let⟨r,hr1,hr2,hr3⟩:=(hcall _ vs h v h' e).2 (Nat.le_add_right _ _) m w _ loc (by rw[Nat.add_sub_cancel_left];exact hm) hv H hG;refine⟨fun _ _=>trivial,?_⟩;show o.uponIn (FR ro) 0 P a K0 Q ((o.semAt ro a.eval).run P w);rw[hsem];have hr:(execOp a.eval o).run P w=.ok (.round loc.block r.fn ((r.params.zip (List.toArray (args.toList.map a.eval))).foldl (fun tmps (t,a)=>tmps.setIfInBounds t a) r.tmps) r.assign r.body) w:=by have q:args.map a.eval=List.toArray (args.toList.map a.eval):=Array.ext' iS;simp only[execOp,hy,resolve,hfe,Deferred.ofValue,Sem.run_bind,Sem.run_pure,Result.andThen_ok,invoke];rw[show((#[]:Array Value)++args.map a.eval)=List.toArray (args.toList.map a.eval) by simp[q]];exact run_yield hr1 (eV hr2)
 rw[hr];refine⟨fun q=>absurd q (by simp[Fence.wide]),RoundIn.mono hr3 ?_⟩;rintro en w' ⟨x,m',rfl,r,H',E'⟩;exact hK x w' m' r H' E';cases e;cases e;cases hc;simp only[cJ,Bool.and_eq_true]at hc;split at e;rename_i vs hvs;exact fin (Dt H hc.1 (bF hO _ _ _ hc.2 hvs) e);cases e;simp only[cJ,Bool.and_eq_true]at hc;split at e;rename_i x key hvs;split at e;rename_i u hu;cases e;exact fin (Dv H hc.1 (bF hO _ _ _ hc.2 hvs) hu);cases e;cases e;simp only[cJ,Bool.and_eq_true]at hc;split at e;rename_i x key val hvs;exact fin (Ds H hc.1 (bF hO _ _ _ hc.2 hvs) e);cases e;simp only[cJ,Bool.and_eq_true]at hc;split at e;rename_i d hd;exact fin (AQ H hc.1 (one _ _ hc.2 hd) e);cases e;simp only[cJ,Bool.and_eq_true]at hc;split at e;rename_i d hd;split at e;rename_i u hu;cases e;exact fin (AT H hc.1 (one _ _ hc.2 hd) hu);cases e;cases e;simp only[cJ,Bool.false_eq_true]at hc;simp only[cJ,Bool.and_eq_true]at hc;split at e;rename_i d hd;exact fin (Dw H hc.1 (one _ _ hc.2 hd) e);cases e;cases e
variable {K : LG -> Prop}
theorem CT(σ:Sg)(t:Nat):fc (Dp σ) t=(fc σ t).map tC:=by
 induction σ with
 |nil=>rfl
 |cons p r ih=>let⟨d,s⟩:=p;simp only[Dp,fc];by_cases h:d=t;grind;grind
theorem rZ(d:Nat)(σ:Sg)(t:Nat):fc (xT d σ) t=(fc σ t).map (mF d t):=by
 induction σ with
 |nil=>rfl
 |cons p r ih=>let⟨e,s⟩:=p;simp only[xT,fc];by_cases h:e=t;grind;grind
theorem fx(a:Act)(d:Nat)(x:Value)(t:Nat)(Z:d<a.tmps.size):(a.put (some d) x).tmps.getD t undef=if t=d then x else a.tmps.getD t undef:=by simp only[Act.put,SR];by_cases h:t=d;grind;grind
theorem nA(a:Act)(d:Option Nat)(x:Value):(a.put d x).tmps.size=a.tmps.size:=by cases d<;>simp[Act.put]
theorem FJ{G:Nat}{s:Src}{y:Opd}{Z:List V}{env:T V}{u v:V}(h:dg G (tC s) y=true)(e:evO (u::Z) env y=some v):
 ∃y',dg G s y'=true/\evO Z env y'=some v:=by
 cases s with
 |l k=>
  simp only[tC]at h;cases y with
  |l j=>simp only[dg]at h;have:=RY h;subst this;exact⟨.l k,by simp[dg],e⟩
  |_=>simp[dg]at h
 |v s=>refine⟨y,h,?_⟩;simp only[tC]at h;cases y<;>simp[dg]at h;exact e
 |x o=>
  refine⟨y,h,?_⟩;simp only[tC,dg]at h;cases y with
  |l k=>cases o<;>simp[qq]at h
  |v s=>cases o<;>simp[qq]at h
  |c x=>exact e
  |g n=>exact e
 |bad=>simp[tC,dg]at h
theorem vt{G:Nat}{d t:Nat}{s:Src}{y:Opd}{Z:List V}{env:T V}{u v:V}(h:dg G (mF d t s) y=true)(e:evO Z (env.set d u) y=some v):
 t≠d/\dg G s y=true/\evO Z env y=some v:=by
 cases s with
 |l k=>simp only[mF]at h;by_cases c:t=d;rw[if_pos c]at h;simp[dg]at h;rw[if_neg c]at h;refine⟨c,h,?_⟩;cases y<;>simp[dg]at h;exact e
 |v s=>simp only[mF]at h;by_cases c:t=d\/s=d;rw[if_pos c]at h;simp[dg]at h;rw[if_neg c]at h;refine⟨fun q=>c (.inl q),h,?_⟩;cases y<;>simp[dg]at h;subst h;show env.get s=some v;rw[<-Sd env u (fun q=>c (.inr q))];exact e
 |x o=>
  simp only[mF]at h;by_cases c:t=d;rw[if_pos c]at h;simp[dg]at h;rw[if_neg c]at h;refine⟨c,h,?_⟩;simp only[dg]at h;cases y with
  |l k=>cases o<;>simp[qq]at h
  |v s=>cases o<;>simp[qq]at h
  |c x=>exact e
  |g n=>exact e
 |bad=>simp only[mF]at h;by_cases c:t=d<;>simp[c,dg]at h
def j5(loc:List V)(v:V):Option Nat->List V
 |none=>v::loc
 |some _=>loc
noncomputable def gN(env:T V)(v:V):Option Nat->T V
 |none=>env
 |some d=>env.set d v
theorem qB{C:Cx}{m m':M}(hle:Le m m'){loc:List V}{env:T V}{a:Act}{σ:Sg}(hI:Inv C.G m loc env a σ)(hE:ERel C m env a){d s:Option Nat}(hd:zf C d s=true)
 {v:V} {x:Value} (r:VRel m' v x):Inv C.G m' (j5 loc v s) (gN env v s) (a.put d x) (zQ σ d s)∧ERel C m' (gN env v s) (a.put d x):=by
 have bumpI:∀t s',fc (Dp σ) t=some s'→∀y u,dg C.G s' y=true→evO (v::loc) env y=some u→VRel m' u (a.tmps.getD t undef):=by
  intro t s' hs y u hy he;rw[CT]at hs;cases hl:fc σ t with
  |none=>rw[hl]at hs;cases hs
  |some s0=>rw[hl]at hs;cases hs;let⟨y',h1,h2⟩:=FJ hy he;exact VRel.mono hle _ _ (hI t s0 hl y' u h1 h2)
 unfold zf at hd;split at hd;refine⟨bumpI,hE.1,fun s u hs=>(hE.2.1 s u hs).imp id fun q=>⟨q.1,VRel.mono hle _ _ q.2⟩,hE.2.2⟩;rename_i d;simp only[Bool.and_eq_true,Bool.not_eq_true',Nat.blt_eq]at hd;have hlt:d<a.tmps.size:=by rw[hE.1];exact hd.2
 refine⟨?_,by rw[nA];exact hE.1,fun s u hs=>?_,hE.2.2⟩;intro t s' hs y u hy he;simp only[zQ,fc]at hs;rw[fx a d x t hlt];by_cases c:d=t;rw[if_pos c]at hs;cases hs;rw[if_pos c.symm];cases y<;>simp[dg]at hy;subst hy;cases he;exact r
 rw[if_neg c]at hs;rw[if_neg (Ne.symm c)];exact bumpI t s' hs y u hy he;obtain q|⟨h1,h2⟩:=hE.2.1 s u hs;exact .inl q;refine .inr ⟨h1,?_⟩;rw[fx a d x s hlt,if_neg (by intro q;subst q;rw[h1]at hd;simp at hd)];exact VRel.mono hle _ _ h2;rename_i d e;simp only[Bool.and_eq_true,Nat.blt_eq]at hd;have:=Nat.eq_of_beq_eq_true hd.1.1;subst this;have hlt:d<a.tmps.size:=by rw[hE.1];exact hd.2
 refine⟨?_,by rw[nA];exact hE.1,fun s u hs=>?_,hE.2.2⟩;intro t s' hs y u hy he;simp only[zQ]at hs;rw[rZ]at hs;cases hl:fc σ t with
 |none=>rw[hl]at hs;cases hs
 |some s0=>rw[hl]at hs;cases hs;let⟨hne,h1,h2⟩:=vt hy he;rw[fx a d x t hlt,if_neg hne];exact VRel.mono hle _ _ (hI t s0 hl y u h1 h2)
 simp only[gN]at hs;rw[T.get_set]at hs;rw[fx a d x s hlt];by_cases c:s=d;grind;rw[if_neg c]at hs;rw[if_neg c];exact(hE.2.1 s u hs).imp id fun q=>⟨q.1,VRel.mono hle _ _ q.2⟩;cases hd
theorem yO{C:Cx}{m:M}{af:List V}{env:T V}{a:Act}{σ:Sg}{ops:Array Oper}(hG:Glob K C.G m)(hI:Inv C.G m af env a σ)(hE:ERel C m env a){o:Oper}{s:Option (Opd×Bool)}
 (Z:Dm C σ ops o.guard s=true) {b:Bool} (e:evG af env s=some b):Region.wanted o (yielded ops a.tmps)=b:=by
 unfold Region.wanted;unfold Dm at Z;split at Z;rename_i hg;rw[hg];cases e;rfl;rename_i j ae x ak hg;rw[hg];simp only[RU,beq_iff_eq]at Z;obtain⟨rfl,Z⟩:=Z;split at Z;rename_i d hd;simp only[RU,SI]at Z;unfold evG at e;simp only[]at e;split at e;rename_i c hx;cases e;have hr:=gI hG hI hE Z.2 hx;simp only[VRel,Act.eval]at hr;have ac:d<a.tmps.size:=by rw[hE.1];exact Z.1
 have:a.tmps[d]? =some (.bool c):=by rw[SR,Sz ac]at hr;rw[Sz ac];simpa using hr
 simp only[yielded,hd,SZ,this];cases c<;>cases ae<;>rfl
 rename_i c hx;cases e;have hr:=gI hG hI hE Z.2 hx;simp only[VRel,Act.eval]at hr;let⟨c',hr,_⟩:=hr;have ac:d<a.tmps.size:=by rw[hE.1];exact Z.1
 have:a.tmps[d]? =some (.tuple c'.toArray):=by rw[SR,Sz ac]at hr;rw[Sz ac];simpa using hr
 simp only[yielded,hd,SZ,this];cases ae<;>rfl
 cases e;cases Z;cases Z
theorem zP{C:Cx}{m:M}{ac:List V}{env:T V}{a:Act}{σ:Sg}{ops:Array Oper}(hG:Glob K C.G m)(hI:Inv C.G m ac env a σ)(hE:ERel C m env a){o:Oper}{p:Nat×Src}
 (h:xJ C σ ops o=some p):∃x,o.op=.move x/\o.guard=none/\o.dst=some p.1/\Inv C.G m ac env (a.put o.dst (a.eval x)) (p::σ)/\ERel C m env (a.put o.dst (a.eval x)):=by
 unfold xJ at h;split at h;rename_i x d ar ak Z;split at h;rename_i an;simp only[RU,TP,SI]at an;have ay:d<a.tmps.size:=by rw[hE.1];exact an.2
 have ae:ERel C m env (a.put (some d) (a.eval x)):=by refine⟨by rw[nA];exact hE.1,fun s u hs=>?_,hE.2.2⟩;obtain q|⟨h1,h2⟩:=hE.2.1 s u hs;exact .inl q;refine .inr ⟨h1,?_⟩;rw[fx a d _ s ay,if_neg (by intro q;subst q;rw[h1]at an;simp at an)];exact h2
 have af:∀s0:Src,(∀y v,dg C.G s0 y=true->evO ac env y=some v->VRel m v (a.eval x))->Inv C.G m ac env (a.put (some d) (a.eval x)) ((d,s0)::σ):=by intro s0 hs0 t s' hs y u hy he;simp only[fc]at hs;rw[fx a d _ t ay];by_cases c:d=t;grind;rw[if_neg c]at hs;rw[if_neg (Ub c)];exact hI t s' hs y u hy he
 split at h;rename_i t;split at h;rename_i s hl;split at h;cases h;cases h;exact⟨_,ar,ak,Z,by rw[Z];exact af _ (fun y v hy he=>hI t _ hl y v hy he),by rw[Z];exact ae⟩;rename_i s hl;cases h;exact⟨_,ar,ak,Z,by rw[Z];exact af _ (fun y v hy he=>hI t _ hl y v hy he),by rw[Z];exact ae⟩;rename_i hl;split at h;cases h;have key:∀y v,dg C.G (.v t) y=true->evO ac env y=some v->VRel m v (a.eval (.tmp t)):=by intro y v hy he;cases y<;>simp[dg]at hy;subst hy;rename_i ax;simp only[RU]at ax;exact hE.var ax.1 he
 exact⟨_,ar,ak,Z,by rw[Z];exact af _ key,by rw[Z];exact ae⟩;cases h;cases h;exact⟨_,ar,ak,Z,by rw[Z];exact af _ (fun y v hy he=>pS hG hy he),by rw[Z];exact ae⟩;cases h;cases h
theorem jz(a:Act)(d:Option Nat)(x:Value):(a.put d x).defers=a.defers:=by cases d<;>rfl
theorem cT(call:aI)(s:IStep)(l:List IStep)(Z:List V)(env:T V)(h:Heap):dM call (s::l) Z env h=
 match evG Z env s.gd with
  |some true=>(match aO call Z env h s.op with
   |some (v,h)=>dM call l (j5 Z v s.dst) (gN env v s.dst) h
   |none=>.fail)
  |some false=>dM call l (j5 Z (.tup []) s.dst) (gN env (.tup []) s.dst) h
  |none=>.fail:=by
 show(match evG Z env s.gd with
  |some true=>(match aO call Z env h s.op with
   |some (v,h)=>fV v fun v=>(match s.dst with
    |none=>dM call l (v::Z) env h
    |some d=>dM call l Z (env.set d v) h)
   |none=>.fail)
  |some false=>(match s.dst with
   |none=>dM call l (.tup []::Z) env h
   |some d=>dM call l Z (env.set d (.tup [])) h)
  |none=>.fail)=_
 cases evG Z env s.gd with
 |none=>rfl
 |some b=>
  cases b;cases s.dst<;>rfl
  simp only[];cases aO call Z env h s.op with
  |none=>rfl
  |some p=>let⟨v,h'⟩:=p;simp only[yU];cases s.dst<;>rfl
def DefR(m:M)(v:V)(d:Deferred):Prop:=∃f first caps args A C',v=.tup (.func (.func f) first caps::args)/\f<YB/\
 d={target:=.fn (.func f) (List.toArray C'),args:=List.toArray A}/\VsRel m (first++args) A/\VsRel m caps C'
def DsR(C:Cx)(B:Nat)(m:M)(w:World)(env:T V)(ds:List Deferred):Prop:=
 match C.df,env.get DSL with
 |true,some v=>∃d1 d d2,ds=d1++d::d2/\DefR m v d/\Marks B m w (d1++d2)
 |_,_=>Marks B m w ds
theorem DefR.mono{m m':M}(l:Le m m'){v:V}{d:Deferred}:DefR m v d->DefR m' v d
 |⟨f,first,caps,args,A,C',h1,h2,h3,h4,h5⟩=>⟨f,first,caps,args,A,C',h1,h2,h3,VsRel.mono l _ _ h4,VsRel.mono l _ _ h5⟩
theorem DsR.ext{C:Cx}{B:Nat}{m Z:M}{h K:Heap}{w w':World}(E:Ext m h w Z K w'){env:T V}{ds:List Deferred}(D:DsR C B m w env ds):DsR C B Z w' env ds:=by unfold DsR at *;split;rename_i v h1 h2;rw[h1,h2]at D;let⟨d1,d,d2,q1,q2,q3⟩:=D;exact⟨d1,d,d2,q1,q2.mono E.le,q3.ext E⟩;rename_i hn;split at D;grind;exact Marks.ext E D
theorem DsR.congr{C:Cx}{B:Nat}{m:M}{w:World}{env Z:T V}{ds:List Deferred}(e:Z.get DSL=env.get DSL)(D:DsR C B m w env ds):DsR C B m w Z ds:=by unfold DsR at *;rw[e];exact D
theorem DsR.push{C:Cx}{B:Nat}{m:M}{w:World}{env:T V}{ds:List Deferred}(D:DsR C B m w env ds){r:Nat}(h1:B<=r)(h2:w.heap[r]? =some (.deferred (some [])))(h3:Off m r)(K:∀d∈ds,d.target≠.collected r):
 DsR C B m w env ({target:=.collected r,args:= #[]}::ds):=by
 unfold DsR at *;split;rename_i v e1 e2;rw[e1,e2]at D;let⟨d1,d,d2,q1,q2,q3⟩:=D;refine⟨{target:=.collected r,args:= #[]}::d1,d,d2,by rw[q1];rfl,q2,⟨r,rfl,h1,h2,h3,fun d' Z=>K d' ?_⟩,q3⟩;rw[q1];have Z:d'∈d1++d2:=Z;rw[pi]at Z;rw[pi,Sk];obtain q|q:=Z;exact .inl q;exact .inr (.inr q);rename_i hn;split at D;grind;exact⟨⟨r,rfl,h1,h2,h3,K⟩,D⟩
theorem zh{C:Cx}{m:M}{env:T V}{a:Act}(K:ERel C m env a){d s:Option Nat}(Z:zf C d s=true)(v:V):(gN env v s).get DSL=env.get DSL:=by
 cases s with
 |none=>rfl
 |some t=>
  cases d with
  |none=>cases Z
  |some d=>simp only[zf,RU]at Z;have:=RY Z.1.1;subst this;simp only[gN];rw[Sd];intro q;rw[<-q,K.2.2]at Z;simp at Z
theorem xZ{P:Program}{C:Cx}{call:aI}(hcall:eN P K C.G call){ops:Array Oper}{Q:Exit→Act→World→Prop}{ro:Option Nat}{B:Nat}(hro:C.df=true→ro=none):
 ∀(os:List Oper)(i:Nat)(steps:List IStep)(σ:Sg)(loc:List V)(env:T V)(h:Heap)(m:M)(a:Act)(w:World)(ex:Ex)(env':T V)(h':Heap),
  ops.toList.drop i=os→gZ P C ops os steps σ=true→Glob K C.G m→Inv C.G m loc env a σ→ERel C m env a→HRel m h w→DsR C B m w env a.defers→
  dM call steps loc env h=.ok ex env' h'→
  (∀a' w' m',ex=.norm→ERel C m' env' a'→HRel m' h' w'→Ext m h w m' h' w'→DsR C B m' w' env' a'.defers→Q .normal a' w')→
  wpOpsIn (FR ro) 0 P ops Q (List.range' i os.length) a w:=by
 intro os;induction os with
 |nil=>
  intro i steps σ loc env h m a w ex env' h' hdrop hchk hG hI hE H hD e hQ;cases steps with
  |nil=>cases e;exact hQ a w m rfl hE H (Ext.refl _ _ _) hD
  |cons s l=>simp[gZ]at hchk
 |cons o os ih=>
  intro i steps σ loc env h m a w ex env' h' hdrop hchk hG hI hE H hD e hQ;have hoi:ops[i]? =some o:=by
   have:(ops.toList.drop i)[0]? =some o:=by rw[hdrop];rfl
   rw[List.getElem?_drop]at this;simpa using this
  have hdrop':ops.toList.drop (i+1)=os:=by rw[←List.drop_drop,hdrop];rfl
  simp only[List.length_cons,List.range'_succ];rw[wpOpsIn_cons];unfold wpOpIn;rw[hoi];simp only[];unfold gZ at hchk;split at hchk;rename_i p hal;let⟨x,hop,hgd,hds,hI',hE'⟩:=zP hG hI hE hal;have hw:Region.wanted o (yielded ops a.tmps)=true:=by unfold Region.wanted;rw[hgd]
  rw[if_pos hw];refine⟨fun _ _=>trivial,?_⟩;show o.uponIn (FR ro) 0 P a _ Q ((o.semAt ro a.eval).run P w);have hr:(o.semAt ro a.eval).run P w=.ok (.value (a.eval x)) w:=by rw[Oper.semAt_eq ro a.eval o (fun c hcc=>by rw[hop]at hcc;cases hcc)];simp[execOp,hop]
  rw[hr];exact ih (i+1) steps (p::σ) loc env h m _ w ex env' h' hdrop' hchk hG hI' hE' H (by rw[jz];exact hD) e hQ;split at hchk;cases hchk;rename_i s rest;simp only[Bool.or_eq_true,Bool.and_eq_true]at hchk;rw[cT]at e;obtain⟨⟨⟨hcg,hco⟩,hcd⟩,hrest⟩|⟨hcf,hrest⟩:=hchk;cases hg:evG loc env s.gd with
  |none=>rw[hg]at e;cases e
  |some b=>
   rw[hg]at e;have hw:=yO hG hI hE hcg hg;cases b;simp only[]at e;rw[if_neg (by rw[hw];simp)];refine⟨fun _ _=>trivial,?_⟩;let⟨hI',hE'⟩:=qB (fun _ _ x=>x) hI hE hcd (v:=.tup []) (x:=undef) ⟨[],rfl,rfl⟩;exact ih (i+1) rest _ _ _ h m _ w ex env' h' hdrop' hrest hG hI' hE' H (by rw[jz];exact hD.congr (zh hE hcd _)) e hQ;simp only[]at e;rw[if_pos hw];cases hop:aO call loc env h s.op with
   |none=>rw[hop]at e;cases e
   |some p=>
    let⟨v,h1⟩:=p;rw[hop]at e;simp only[]at e;refine rV hcall hG (fun o y v h1 h2=>gI hG hI hE h1 h2) H hco hop (fun x w' m' r H' E'=>?_);let⟨hI',hE'⟩:=qB E'.le hI hE hcd r;exact ih (i+1) rest _ _ _ h1 m' _ w' ex env' h' hdrop' hrest (hG.ext E') hI' hE' H' (by rw[jz];exact(hD.ext E').congr (zh hE hcd _)) e
     (fun a' w'' m'' h1 h2 h3 h4 h5=>hQ a' w'' m'' h1 h2 h3 (E'.trans h4) h5)
  -- a deferred call
  unfold JN at hcf;simp only[Bool.and_eq_true]at hcf;let⟨⟨⟨⟨hdf,hsd⟩,hod⟩,hgd⟩,hop⟩:=hcf;split at hop;rename_i x xs hsop;split at hop;rename_i y args ts hy;simp only[Bool.and_eq_true]at hop;split at hsd;rename_i d hsd';have:=Nat.eq_of_beq_eq_true hsd;subst this;split at hod;rename_i hod';split at hgd;rename_i g1 g2;have hro':=hro hdf;subst hro';have hw:Region.wanted o (yielded ops a.tmps)=true:=by unfold Region.wanted;rw[g1]
  rw[if_pos hw];rw[g2,hsop]at e;simp only[evG,aO]at e;split at e;rename_i v h1 hev;split at hev;rename_i f first caps hx
  split at hev;rename_i vs hvs;split at hev;cases hev;rename_i hnone;cases hlt:Nat.blt f YB;grind;rw[hlt]at hev;simp only[cond_true,Option.some.injEq,Prod.mk.injEq]at hev;obtain⟨rfl,rfl⟩:=hev;have hO:DJ C m σ loc env a:=fun o y v h1 h2=>gI hG hI hE h1 h2;have hv:=bF hO _ _ _ hop.2 hvs;let⟨f',c',hfe,rf,rc⟩:=hO _ _ _ hop.1 hx;refine⟨fun _ _=>trivial,?_⟩;show o.uponIn (FR none) 0 P a _ Q ((o.semAt none a.eval).run P w);have hr:(o.semAt none a.eval).run P w=.ok (.defer {target:=.fn (.func f) (List.toArray c'),args:=List.toArray (f'++args.toList.map a.eval)}) w:=by have q:args.map a.eval=List.toArray (args.toList.map a.eval):=Array.ext' iS;rw[Oper.semAt_none];simp only[execOp,hy,resolve,hfe,Deferred.ofValue,Sem.run_bind,Sem.run_pure,Result.andThen_ok];rw[show(List.toArray f'++args.map a.eval)=List.toArray (f'++args.toList.map a.eval) by simp[q]]
  rw[hr];show wpOpsIn (FR none) 0 P ops Q (List.range' (i+1) os.length) (Act.put _ o.dst undef) w;rw[hod',hsd']at *;have hI':Inv C.G m loc (env.set DSL (.tup (.func (.func f) first caps::vs))) {a with defers:={target:=.fn (.func f) (List.toArray c'),args:=List.toArray (f'++args.toList.map a.eval)}::a.defers} (BS σ):=by
   intro t s' hs y u hy he;unfold BS at hs;rw[rZ]at hs;cases hl:fc σ t with
   |none=>rw[hl]at hs;cases hs
   |some s0=>rw[hl]at hs;cases hs;let⟨hne,h1,h2⟩:=vt hy he;exact hI t s0 hl y u h1 h2
  have hE':ERel C m (env.set DSL (.tup (.func (.func f) first caps::vs))) {a with defers:={target:=.fn (.func f) (List.toArray c'),args:=List.toArray (f'++args.toList.map a.eval)}::a.defers}:=by refine⟨hE.1,fun s u hs=>?_,hE.2.2⟩;rw[T.get_set]at hs;by_cases c:s=DSL;exact .inl c;rw[if_neg c]at hs;exact hE.2.1 s u hs
  refine ih (i+1) rest (BS σ) loc _ h m _ w ex env' h' hdrop' hrest hG hI' hE' H ?_ e hQ;unfold DsR at hD⊢;rw[hdf,T.get_set_self];rw[hdf,hnone]at hD;exact⟨[],_,a.defers,rfl,⟨f,first,caps,vs,_,c',rfl,(Nat.blt_eq ..).mp hlt,rfl,VsRel.append rf hv,rc⟩,hD⟩;cases hev;cases hev;cases e;cases hgd;cases hod;cases hsd;cases hop;cases hop
def Cw(call:aI)(env:T V):List DS->List V->Heap->List V->List Heap->Prop
 |[],_,_,vs,hp=>vs=[]/\hp=[]
 |s::l,loc,h,vs,hp=>∃v vs' h',vs=v::vs'/\
  (((∃c,s.2=some (v,c)/\cy loc env s.1.op v c=true)/\h'=h)\/(s.2=none/\evG loc env s.1.gd=some true/\aO call loc env h s.1.op=some (v,h'))\/(s.2=none/\evG loc env s.1.gd=some false/\v=.tup []/\h'=h))/\
  ((fE s=true/\∃hp',hp=h'::hp'/\Cw call env l (v::loc) h' vs' hp')\/(fE s=false/\h'=h/\Cw call env l (v::loc) h vs' hp))
theorem vr{call:aI}{Z:List V}{env:T V}{h K:Heap}{o:IOp}{v:V}(he:eff o=false)(e:aO call Z env h o=some (v,K)):K=h:=by
 cases o<;>simp[eff]at he<;>simp only[aO]at e;all_goals
  split at e;grind;cases e
theorem Dd{call:aI}{Z:List V}{env:T V}{h h':Heap}{k:PK}{xs:List Opd}{v:V}(e:aO call Z env h (.p k xs)=some (v,h'))(g:Heap):aO call Z env g (.p k xs)=some (v,g):=by simp only[aO]at e|-;split at e;rename_i vs K;split at e;grind;cases e;cases e
theorem vB(call:aI)(env:T V)(s:DS)(l:List DS)(loc:List V)(hs:List Heap)(h:Heap):iq call env (s::l) loc hs h=match s.2 with
      |some (u,c)=>bif cy loc env s.1.op u c then iq call env l (u::loc) hs h else none
      |none=>(match evG loc env s.1.gd with
       |some true=>(match aO call loc env h s.1.op with
        |some (v,h')=>fV v fun v=>bif eff s.1.op then iq call env l (v::loc) (h'::hs) h' else iq call env l (v::loc) hs h
        |none=>none)
       |some false=>bif eff s.1.op then iq call env l (.tup []::loc) (h::hs) h else iq call env l (.tup []::loc) hs h
       |none=>none):=rfl
theorem i7{call:aI}{env:T V}:∀(l:List DS)(loc:List V)(hs:List Heap)(h:Heap)(locF:List V)(hsF:List Heap),iq call env l loc hs h=some (locF,hsF)→
 ∃vs hp,Cw call env l loc h vs hp∧locF=vs.reverse++loc∧hsF=hp.reverse++hs
 |[],loc,hs,h,locF,hsF,e=>by cases e;exact⟨[],[],⟨rfl,rfl⟩,rfl,rfl⟩
 |(s,some (u,cs))::l,loc,hs,h,locF,hsF,e=>by rw[vB]at e;simp only[]at e;cases hl:cy loc env s.op u cs;grind;rw[hl]at e;simp only[cond_true]at e;obtain⟨vs,hp,c,rfl,rfl⟩:=i7 l _ _ _ _ _ e;exact⟨u::vs,hp,⟨u,vs,h,rfl,.inl ⟨⟨cs,rfl,hl⟩,rfl⟩,.inr ⟨rfl,rfl,c⟩⟩,iS,rfl⟩
 |(s,none)::l,loc,hs,h,locF,hsF,e=>by
  rw[vB]at e;simp only[]at e;cases hg:evG loc env s.gd with
  |none=>rw[hg]at e;cases e
  |some b=>
   rw[hg]at e;cases b;simp only[]at e;cases he:eff s.op;rw[he]at e;simp only[cond_false]at e;obtain⟨vs,hp,c,rfl,rfl⟩:=i7 l _ _ _ _ _ e;exact⟨.tup []::vs,hp,⟨.tup [],vs,h,rfl,.inr (.inr ⟨rfl,hg,rfl,rfl⟩),.inr ⟨he,rfl,c⟩⟩,iS,rfl⟩;rw[he]at e;simp only[cond_true]at e;obtain⟨vs,hp,c,rfl,rfl⟩:=i7 l _ _ _ _ _ e;exact⟨.tup []::vs,h::hp,⟨.tup [],vs,h,rfl,.inr (.inr ⟨rfl,hg,rfl,rfl⟩),.inl ⟨he,hp,rfl,c⟩⟩,iS,iS⟩;simp only[]at e;cases ho:aO call loc env h s.op with
   |none=>rw[ho]at e;cases e
   |some p=>let⟨v,h'⟩:=p;rw[ho]at e;simp only[yU]at e;cases he:eff s.op;rw[he]at e;simp only[cond_false]at e;obtain⟨vs,hp,c,rfl,rfl⟩:=i7 l _ _ _ _ _ e;have:=vr he ho;subst this;exact⟨v::vs,hp,⟨v,vs,h',rfl,.inr (.inl ⟨rfl,hg,ho⟩),.inr ⟨he,rfl,c⟩⟩,iS,rfl⟩;rw[he]at e;simp only[cond_true]at e;obtain⟨vs,hp,c,rfl,rfl⟩:=i7 l _ _ _ _ _ e;exact⟨v::vs,h'::hp,⟨v,vs,h',rfl,.inr (.inl ⟨rfl,hg,ho⟩),.inl ⟨he,hp,rfl,c⟩⟩,iS,iS⟩
def gV(l:List DS)(i:Nat):Nat:=((l.take i).filter fE).length
theorem tA{call:aI}{env:T V}:∀(l:List DS)(loc:List V)(h:Heap)(vs:List V)(hp:List Heap),Cw call env l loc h vs hp→
 vs.length=l.length∧hp.length=gV l l.length∧∀(i:Nat) s,l[i]? =some s→∃v hb ha,vs[i]? =some v∧(h::hp)[gV l i]? =some hb∧
  (((∃c,s.2=some (v,c)∧cy ((vs.take i).reverse++loc) env s.1.op v c=true)∧ha=hb)∨(s.2=none∧evG ((vs.take i).reverse++loc) env s.1.gd=some true∧aO call ((vs.take i).reverse++loc) env hb s.1.op=some (v,ha))∨(s.2=none∧evG ((vs.take i).reverse++loc) env s.1.gd=some false∧v=.tup []∧ha=hb))∧
  (fE s=true→(h::hp)[gV l i+1]? =some ha)∧(fE s=false→ha=hb)
 |[],loc,h,vs,hp,c=>by obtain⟨rfl,rfl⟩:=c;refine⟨rfl,rfl,fun i s hi=>by simp at hi⟩
 |s::l,loc,h,vs,hp,c=>by
  obtain⟨v,vs',h',rfl,hv,hc⟩:=c;obtain⟨he,hp',rfl,c⟩|⟨he,rfl,c⟩:=hc;let⟨l1,l2,l3⟩:=tA l (v::loc) h' vs' hp' c;refine⟨by simp[l1],by simp[gV,he]at l2⊢;exact l2,fun i t hi=>?_⟩;cases i with
  |zero=>simp at hi;subst hi;refine⟨v,h,h',rfl,by simp[gV],by simpa using hv,fun _=>by simp[gV],fun q=>by rw[he]at q;cases q⟩
  |succ i=>let⟨u,hb,ha,a1,a2,a3,a4,a5⟩:=l3 i t (eV hi);refine⟨u,hb,ha,by simpa using a1,?_,by simpa using a3,fun q=>?_,a5⟩;simpa[gV,he]using a2;simpa[gV,he]using a4 q
  let⟨l1,l2,l3⟩:=tA l (v::loc) h' vs' hp c;refine⟨by simp[l1],by simp[gV,he]at l2⊢;exact l2,fun i t hi=>?_⟩;cases i with
  |zero=>simp at hi;subst hi;refine⟨v,h',h',rfl,by simp[gV],by simpa using hv,fun q=>(by rw[he]at q;cases q),fun _=>rfl⟩
  |succ i=>let⟨u,hb,ha,a1,a2,a3,a4,a5⟩:=l3 i t (eV hi);refine⟨u,hb,ha,by simpa using a1,?_,by simpa using a3,fun q=>?_,a5⟩;simpa[gV,he]using a2;simpa[gV,he]using a4 q
theorem mU{call:aI}{env:T V}{late:List Nat}:∀(l:List IStep)(i:Nat)(loc:List V)(h:Heap)(r:List DS)(h':Heap),lay call env late l i loc h=some (r,h')→r.length=l.length
 |[],i,loc,h,r,h',e=>by simp only[lay,Option.some.injEq,Prod.mk.injEq]at e;obtain⟨rfl,_⟩:=e;rfl
 |s::l,i,loc,h,r,h',e=>by simp only[lay]at e;cases hc:late.contains i;rw[hc]at e;simp only[cond_false]at e;split at e;rename_i r' h2 h3;cases e;simp[mU l _ _ _ _ _ h3];cases e;rw[hc]at e;simp only[cond_true]at e;split at e;split at e;rename_i r' h2 h3;cases e;simp[mU l _ _ _ _ _ h3];cases e;cases e
theorem CV(Z:Nat)(k:Option (Nat×Nat)):lid (eF Z k)=Z:=by cases k<;>rfl
theorem Ap{call:aI}{env:T V}{late:List Nat}:∀(l:List IStep)(i:Nat)(loc:List V)(h:Heap)(r:List DS)(h':Heap),lay call env late l i loc h=some (r,h')→
 (∀(j:Nat) s,l[j]? =some s→(late.contains (i+j)=false∧r[j]? =some (s,none))∨
  (late.contains (i+j)=true∧∃u c,r[j]? =some (s,some (u,c))∧h.next≤lid u∧lid u<h'.next∧h'.bl.get (lid u)=some (.row c (lid u) 0)))∧
 (∀(j k:Nat) s t u v cu cv,j<k→r[j]? =some (s,some (u,cu))→r[k]? =some (t,some (v,cv))→lid u<lid v)∧(∀(j:Nat) s u cu,r[j]? =some (s,some (u,cu))→h.next≤lid u)∧
 h.next≤h'.next∧(∀p,p<h.next→h'.bl.get p=h.bl.get p)∧∀m w,HRel m h w→HRel m h' w
 |[],i,loc,h,r,h',e=>by simp only[lay,Option.some.injEq,Prod.mk.injEq]at e;obtain⟨rfl,rfl⟩:=e;exact⟨fun j s hj=>by simp at hj,fun j k s t u v _ _ _ hj=>by simp at hj,fun j s u _ hj=>by simp at hj,Nat.le_refl _,fun _ _=>rfl,fun _ _ H=>H⟩
 |s::l,i,loc,h,r,h',e=>by
  simp only[lay]at e;cases hc:late.contains i;rw[hc]at e;simp only[cond_false]at e;split at e;rename_i r' h2 h3;cases e;let⟨a3,a4,a5,a1,a2,a6⟩:=Ap l _ _ _ _ _ h3;refine⟨fun j t hj=>?_,fun j k s' t u v cu cv hjk hj hk=>?_,fun j s' u cu hj=>?_,a1,a2,a6⟩;grind;grind;grind;cases e;rw[hc]at e;simp only[cond_true]at e;split at e;rename_i c kk hlc;split at e;rename_i r' h2 h3;cases e;let⟨a3,a4,a5,a1,a2,a6⟩:=Ap l _ _ _ _ _ h3;have hnx:(halloc h c).next=h.next+1:=rfl;rw[hnx]at a1 a2 a5;have hlid:=CV h.next kk;refine⟨fun j t hj=>?_,fun j k s' t u v cu cv hjk hj hk=>?_,fun j s' u cu hj=>?_,oM,fun p hp=>?_,fun m w H=>a6 m w ?_⟩;cases j with
  |zero=>simp at hj;subst hj;refine .inr ⟨by simpa using hc,eF h.next kk,c,rfl,oM,oM,?_⟩;rw[hlid,a2 _ oM,halloc,T.get_set_self]
  |succ j=>obtain⟨b1,b2⟩|⟨b1,u,c',b2,b5,b6,b7⟩:=a3 j t (eV hj);grind;grind
  grind;grind;rw[a2 p oM,halloc,T.get_set_ne _ _ oM];have hold:∀p loc,m p=some loc→p≠h.next:=fun p loc hp q=>by subst q;rw[H.unmapped (Nat.le_refl _)]at hp;cases hp
  refine⟨⟨?_,?_⟩,?_,H.inb,?_⟩;intro p cp f k hp;show match h.fams.get f with|none=>f=p|some (_,e)=>k≤e
  rw[halloc,T.get_set]at hp;by_cases q:p=h.next;grind;rw[if_neg q]at hp;exact H.wf.fam _ _ _ _ hp;intro p hp;have hp':h.next+1≤p:=hp;refine⟨?_,(H.wf.fresh p oM).2⟩;rw[halloc,T.get_set_ne _ _ oM];exact(H.wf.fresh p oM).1;intro p loc hp;let⟨b,hb,rb⟩:=H.blk p loc hp;exact⟨b,by rw[halloc,T.get_set_ne _ _ (hold p loc hp)];exact hb,rb.mono (fun _ _ x=>x) (fun _ _ _ _ x=>x) rfl⟩;intro p q lp lq hp hq he hne;let⟨cp,cq,f,kp,kq,b1,b2,b3⟩:=H.sep p q lp lq hp hq he hne;exact⟨cp,cq,f,kp,kq,by rw[halloc,T.get_set_ne _ _ (hold p lp hp)];exact b1,by rw[halloc,T.get_set_ne _ _ (hold q lq hq)];exact b2,b3⟩;cases e;cases e
def nJ(late:List Nat):List IStep->Nat->List DS
 |[],_=>[]
 |s::l,i=>(s,bif late.contains i then some (.nilp,[])else none)::nJ late l (i+1)
theorem mT{call:aI}{env:T V}{late:List Nat}:∀(l:List IStep)(i:Nat)(loc:List V)(h:Heap)(r:List DS)(h':Heap),lay call env late l i loc h=some (r,h')→(nJ late l i).map fE=r.map fE
 |[],i,loc,h,r,h',e=>by simp only[lay,Option.some.injEq,Prod.mk.injEq]at e;obtain⟨rfl,_⟩:=e;rfl
 |s::l,i,loc,h,r,h',e=>by simp only[lay]at e;cases hc:late.contains i;rw[hc]at e;simp only[cond_false]at e;split at e;rename_i r' h2 h3;cases e;simp only[nJ,hc,cond_false,List.map_cons,mT l _ _ _ _ _ h3];cases e;rw[hc]at e;simp only[cond_true]at e;split at e;split at e;rename_i r' h2 h3;cases e;simp only[nJ,hc,cond_true,List.map_cons,mT l _ _ _ _ _ h3];rfl;cases e;cases e
def bef(B:List Nat)(i j:Nat):Bool:=Nat.testBit (B.getD i 0) j
def Kr(ops:Array Oper)(B:List Nat):Bool:=
 (List.range ops.size).all fun i=>(List.range ops.size).all fun j=> !bef B i j||
  (match ops[i]? with
   |some o=>o.after.toList.any fun e=>Region.binds .any e&&Nat.blt e.on i&&(Nat.beq e.on j||bef B e.on j)
   |none=>false)
def pH(md:Region.Mode)(ops:Array Oper)(R:Nat->Nat):Bool:=
 (List.range ops.size).all fun i=>match ops[i]? with
  |some o=>o.after.toList.all fun e=> !Region.binds md e||(Nat.blt (R e.on) (R i)&&Nat.blt e.on ops.size)
  |none=>false
def zA(ops:Array Oper)(R:List Nat):Bool:=pH .any ops id&&pH .text ops id&&pH .gc ops (fun i=>R.getD i i)
def fg(ops:Array Oper)(B:List Nat)(i:Nat):List Nat->Sg
 |[]=>[]
 |j::js=>match(ops[j]?).bind (·.dst)with
  |some t=>if bef B i j then(t,.l (i-1-j))::fg ops B i js
              else if i=j\/bef B j i=true then fg ops B i js
              else(t,.bad)::fg ops B i js
  |none=>fg ops B i js
def sig(ops:Array Oper)(B:List Nat)(i:Nat):Sg:=fg ops B i (List.range ops.size)
def Ly:IOp->Bool
 |.ld _ _ _=>true
 |.lk _ _ _ _=>true
 |.b2s _=>true
 |_=>false
def cW(l:List DS):List Nat:=(List.range l.length).filter fun i=>match l[i]? with|some s=>fE s|none=>false
def Ep(l:List DS)(B:List Nat)(reads:List (Nat×Nat×Nat))(i:Nat):Bool:=
 reads.any fun(r:Nat×Nat×Nat)=>Nat.beq r.1 i&&Nat.ble r.2.1 ((cW l).filter fun e=>bef B i e).length&&Nat.ble ((cW l).length-((cW l).filter fun e=>bef B e i).length) r.2.2
def FM(C:Cx)(ops:Array Oper)(sets:List (Nat×Nat)):Bool:=
 ((List.range ops.size).all fun i=>match(ops[i]?).bind (·.dst)with
  |some t=>Nat.blt t C.N&&(!C.vars.contains t||sets.contains (t,i))&&(List.range ops.size).all (fun j=>Nat.beq i j||(match(ops[j]?).bind (·.dst)with|some u=> !Nat.beq t u|none=>true))
  |none=>true)&&
 sets.all fun(p:Nat×Nat)=>Nat.blt p.2 ops.size&&C.vars.contains p.1&&(match(ops[p.2]?).bind (·.dst)with|some t=>Nat.beq t p.1|none=>false)
def bOf(ops:Array Oper):List Nat:=ops.toList.foldl (fun B o=>B++[o.after.toList.foldl (fun b e=>bif Region.binds .any e then b|||(1<<<e.on)|||B.getD e.on 0 else b) 0]) []
def Kq(P:Program)(C:Cx)(ops:Array Oper)(l:List IStep)(late B R:List Nat)(reads:List (Nat×Nat×Nat))(sets:List (Nat×Nat)):Bool:=
 Nat.beq ops.size l.length&&zA ops R&&Kr ops B&&FM C ops sets&&
 ((List.range ops.size).all fun i=>match ops[i]?,l[i]? with
  |some o,some s=>Dm C (sig ops B i) ops o.guard s.gd&&mw P C (sig ops B i) o s.op&&(!Ly s.op||Ep (nJ late l 0) B reads i)&&(!late.contains i||o.guard.isNone)
  |_,_=>false)&&
 ((cW (nJ late l 0)).all fun i=>(cW (nJ late l 0)).all fun j=> !Nat.blt i j||bef B j i)
theorem cZ{n:Nat}{p:Nat->Bool}(h:(List.range n).all p=true){i:Nat}(hi:i<n):p i=true:=Tv.1 h i (eV hi)
abbrev dn(L:Array Bool)(i:Nat):Prop:=L.getD i false=true
theorem i9{ops:Array Oper}{B:List Nat}(hB:Kr ops B=true){L:Array Bool}(ac:∀i o,ops[i]? =some o->dn L i->∀e∈o.after,Region.binds .any e=true->dn L e.on):
 ∀(i:Nat) o,ops[i]? =some o->(∀e∈o.after,Region.binds .any e=true->dn L e.on)->∀j,bef B i j=true->j<ops.size->dn L j:=by
 intro i;induction i using Nat.strongRecOn with
 |_ i ih=>intro o ho Z j hb hj;have hi:i<ops.size:=(Tn.1 ho).1;have h1:=cZ (cZ hB hi) hj;simp only[hb,Vm,Uk,ho]at h1;let⟨e,he,h2⟩:=Ve.1 h1;simp only[RU,SI,TV]at h2;have K:=Z e (eV he) h2.1.1;obtain q|q:=h2.2;have:=RY q;subst this;exact K;grind
theorem j8{ops:Array Oper}{B:List Nat}{i:Nat}:∀(js:List Nat) t s,fc (fg ops B i js) t=some s→∃j,j∈js∧(ops[j]?).bind (·.dst)=some t∧((bef B i j=true∧s=.l (i-1-j))∨s=.bad)
 |[],t,s,h=>by simp[fg,fc]at h
 |j::js,t,s,h=>by simp only[fg]at h;split at h;rename_i u hu;split at h;rename_i hb;simp only[fc]at h;by_cases c:u=t;grind;rw[if_neg c]at h;let⟨j',h1,h2⟩:=j8 js t s h;exact⟨j',by simp[h1],h2⟩;split at h;let⟨j',h1,h2⟩:=j8 js t s h;exact⟨j',by simp[h1],h2⟩;simp only[fc]at h;by_cases c:u=t;grind;rw[if_neg c]at h;let⟨j',h1,h2⟩:=j8 js t s h;exact⟨j',by simp[h1],h2⟩;let⟨j',h1,h2⟩:=j8 js t s h;exact⟨j',by simp[h1],h2⟩
theorem mh{ops:Array Oper}{B:List Nat}{i:Nat}:∀(js:List Nat) t,fc (fg ops B i js) t=none→∀j∈js,(ops[j]?).bind (·.dst)=some t→bef B i j=false∧(i=j∨bef B j i=true)
 |[],t,h,j,hj,_=>by simp at hj
 |k::js,t,h,j,hj,hd=>by
  simp only[fg]at h;obtain rfl|hj:=List.mem_cons.1 hj;rw[hd]at h;simp only[]at h;cases hb:bef B i j;simp only[hb,Bool.false_eq_true,if_false]at h;by_cases c:i=j∨bef B j i=true;exact⟨rfl,c⟩;rw[if_neg c]at h;simp[fc]at h;simp[hb,fc]at h;have:fc (fg ops B i js) t=none:=by split at h;rename_i u hu;split at h;simp only[fc]at h;by_cases c:u=t;rw[if_pos c]at h;cases h;rw[if_neg c]at h;exact h;split at h;exact h;simp only[fc]at h;by_cases c:u=t;rw[if_pos c]at h;cases h;rw[if_neg c]at h;exact h;exact h
  exact mh js t this j hj hd
noncomputable def cnt(l:List DS)(L:Array Bool):Nat:=((cW l).filter fun e=>L.getD e false).length
theorem pP{α:Type}{p q:α→Bool}:∀(l:List α),(∀x∈l,p x=true→q x=true)→(l.filter p).length≤(l.filter q).length
 |[],_=>by simp
 |x::l,h=>by have ih:=pP l fun y hy=>h y iX;by_cases hp:p x=true;grind;grind
theorem nV{α:Type}{p q:α→Bool}:∀(l:List α),(∀x∈l,p x=true→q x=false)→(l.filter p).length+(l.filter q).length≤l.length
 |[],_=>by simp
 |x::l,h=>by have ih:=nV l fun y hy=>h y iX;by_cases hp:p x=true;grind;grind
theorem gJ{l:List DS}{i:Nat}:i∈cW l↔∃s,l[i]? =some s/\fE s=true:=by unfold cW;rw[UE];constructor;grind;grind
theorem zd{l:List DS}{a:Nat}(h:(match l[a]? with|some s=>fE s|none=>false)=true):a∈cW l:=by rw[gJ];split at h;grind;cases h
theorem AB(l:List DS):∀i,i<=l.length->gV l i=((List.range i).filter fun j=>match l[j]? with|some s=>fE s|none=>false).length:=by
 intro i;induction i with
 |zero=>intro _;simp[gV]
 |succ i ih=>intro K;have Z:i<l.length:=oM;rw[List.range_succ,Ug,Sv,<-ih oM];unfold gV;rw[UC Z,Ug,Sv];congr 1;simp[Vf,Z];split<;>simp
theorem AI {l : List DS} {L : Array Bool} {i : Nat} (hi : i <= l.length) (h1 : ∀ e ∈ cW l, e < i -> dn L e) (h2 : ∀ e ∈ cW l, i <= e -> ¬ dn L e) : cnt l L = gV l i := by
  rw [AB l i oM]
  unfold cnt cW
  rw [List.filter_filter]
  have : ∀ n, i <= n -> n <= l.length -> ((List.range n).filter fun a => L.getD a false && (match l[a]? with | some s => fE s | none => false)).length = ((List.range i).filter fun j => match l[j]? with | some s => fE s | none => false).length := by
    intro n hn
    induction n with
    | zero => intro _; have : i = 0 := by omega
              subst this; rfl
    | succ n ih =>
      intro hnl
      by_cases c : i = n + 1
      · subst c
        congr 1
        apply VS
        intro a ha
        have ha' : a < n + 1 := by simpa using ha
        cases hm : (match l[a]? with | some s => fE s | none => false)
        · simp
        · have : dn L a := h1 a (zd hm) ha'
          rw [this]; rfl
      · rw [List.range_succ, Ug, Sv, ih oM oM]
        have : ((List.filter (fun a => L.getD a false && (match l[a]? with | some s => fE s | none => false)) [n]).length = 0) := by
          simp only [Vf, List.filter_nil]
          cases hm : (match l[n]? with | some s => fE s | none => false)
          · simp
          · have : ¬ dn L n := h2 n (zd hm) oM
            have : L.getD n false = false := by grind
            rw [this]; rfl
        omega
  exact this l.length oM (RW _)
theorem Df{l r:List DS}(h:l.map fE=r.map fE):cW l=cW r:=by
 have Z:l.length=r.length:=by have:=congrArg List.length h;simpa using this
 unfold cW;rw[Z];apply VS;intro i _;have:(l.map fE)[i]? =(r.map fE)[i]? :=by rw[h]
 rw[SY,SY]at this;cases K:l[i]? <;>cases h2:r[i]? <;>simp_all
variable {K : LG -> Prop}
theorem De{l:List DS}{i:Nat}{s:DS}(K:l[i]? =some s)(he:fE s=true):gV l (i+1)=gV l i+1:=by
 have Z:=(Ss.1 K).1;have hg:l[i]=s:=by grind
 unfold gV;rw[UC Z,Ug,Sv,hg];simp[he]
theorem AH{l:List DS}{L:Array Bool}{i:Nat}(h:i∉cW l):cnt l (L.setIfInBounds i true)=cnt l L:=by unfold cnt;congr 1;apply VS;intro e Z;exact getD_set_ne false (fun q=>h (q▸Z))
theorem gX{L:Array Bool}{i j:Nat}(Z:i<L.size):dn (L.setIfInBounds i true) j↔j=i\/dn L j:=by by_cases c:i=j;subst c;simp[dn,Z];unfold dn;rw[getD_set_ne false c];constructor;grind;grind
theorem Ie{vals:List V}{i j:Nat}(Z:i<=vals.length)(K:j<i):((vals.take i).reverse++[])[i-1-j]? =vals[j]? :=by grind
theorem ut{n:Nat}{loc:List V}:∀(sets:List (Nat×Nat))(env env':T V),iu n loc sets env=some env'→∀s v,env'.get s=some v→
 (∃i,(s,i)∈sets∧loc[n-i-1]? =some v)∨((∀i,(s,i)∉sets)∧env.get s=some v)
 |[],env,env',e,s,v,h=>by cases e;exact .inr ⟨iS,h⟩
 |(t,i)::r,env,env',e,s,v,h=>by simp only[iu]at e;split at e;rename_i u hu;obtain⟨j,hj,hv⟩|⟨hn,hv⟩:=ut r _ _ e s v h;grind;rw[T.get_set]at hv;by_cases c:s=t;grind;grind;cases e
theorem uH{call:aI}{loc:List V}{env:T V}{o:IOp}{v:V}:∀(hs:List Heap),gy call loc env o v hs=true→∀g∈hs,∃g',aO call loc env g o=some (v,g')
 |[],_,g,hg=>by simp at hg
 |h::hs,hr,g,hg=>by simp only[gy,Bool.and_eq_true]at hr;obtain rfl|hg:=List.mem_cons.1 hg;let⟨h1,_⟩:=hr;split at h1;rename_i u g' hu;have:=qU _ _ h1;subst this;exact⟨g',hu⟩;cases h1;exact uH hs hr.2 g hg
section
variable {P : Program} {C : Cx} {call : aI} {ops : Array Oper} {l : List DS} {B : List Nat} {reads : List (Nat × Nat × Nat)} {sets : List (Nat × Nat)}
structure DI(C:Cx)(ops:Array Oper)(l:List DS)(env:T V)(vals:List V)(Hs:List Heap)(m0:M)(h:Heap)(w0:World)(a0:Act)(L:Array Bool)(a:Act)(w:World)(m:M)(hk:Heap):Prop where
 lsz:L.size=ops.size
 closed:∀i o,ops[i]? =some o->dn L i->∀e∈o.after,Region.binds .any e=true->dn L e.on
 size:a.tmps.size=C.N
 defers:a.defers=a0.defers
 old:∀t,(∀i,dn L i->(ops[i]?).bind (·.dst)≠some t)->a.tmps.getD t undef=a0.tmps.getD t undef
 at_:Hs[cnt l L]? =some hk
 rel:HRel m hk w
 ext:Ext m0 h w0 m hk w
 vals:∀i v t,dn L i->vals[i]? =some v->(ops[i]?).bind (·.dst)=some t->VRel m v (a.tmps.getD t undef)
 unm:∀(i:Nat) s u c,l[i]? =some (s,some (u,c))->¬dn L i->m (lid u)=none/\hk.bl.get (lid u)=some (.row c (lid u) 0)/\lid u<hk.next
theorem DI.next{env:T V}{vals:List V}{Hs:List Heap}{m0 m m':M}{h hk K:Heap}{w0 w w':World}{a0 a:Act}{L:Array Bool}(D:DI C ops l env vals Hs m0 h w0 a0 L a w m hk)
 (az:FM C ops sets=true) {i:Nat} {o:Oper} (ho:ops[i]? =some o) (a3:¬dn L i) (a2:∀e∈o.after,Region.binds .any e=true->dn L e.on) {v:V} {x:Value} (hv:vals[i]? =some v) (r:VRel m' v x)
 (H':HRel m' K w') (ar:Le m m') (E0:Ext m0 h w0 m' K w') (ay:Hs[cnt l (L.setIfInBounds i true)]? =some K)
 (aH:∀(j:Nat) s u c,l[j]? =some (s,some (u,c))->¬dn (L.setIfInBounds i true) j->m' (lid u)=none/\K.bl.get (lid u)=some (.row c (lid u) 0)/\lid u<K.next):
 DI C ops l env vals Hs m0 h w0 a0 (L.setIfInBounds i true) (a.put o.dst x) w' m' K:=by
 have hi:i<ops.size:=(Tn.1 ho).1;have ae:i<L.size:=by rw[D.lsz];exact hi
 have Z:=cZ (UZ.1 az).1 hi;have af:(ops[i]?).bind (·.dst)=o.dst:=by rw[ho];rfl
 rw[af]at Z;have ak:∀t,o.dst=some t->t<a.tmps.size:=by intro t ht;rw[ht]at Z;simp only[RU,SI]at Z;rw[D.size];exact Z.1.1
 have an:∀t,o.dst=some t->∀j,j<ops.size->j≠i->(ops[j]?).bind (·.dst)≠some t:=by intro t ht j hj hne hd;rw[ht]at Z;simp only[RU]at Z;have:=cZ Z.2 hj;rw[hd]at this;simp only[TV]at this;obtain q|q:=this;exact hne (RY q).symm;simp at q
 refine⟨by simpa using D.lsz,?_,by rw[nA];exact D.size,by rw[jz];exact D.defers,?_,ay,H',E0,?_,aH⟩;intro j p hj ac e he a1;rw[gX ae]at ac|-;obtain rfl|ac:=ac;grind;exact .inr (D.closed j p hj ac e he a1);intro t ht;have h1:o.dst≠some t:=by have:=ht i ((gX ae).2 (.inl rfl));rwa[af]at this
 have h2:=D.old t (fun j hj=>ht j ((gX ae).2 (.inr hj)));cases hd:o.dst with
 |none=>exact h2
 |some d=>rw[fx a d x t (ak d hd),if_neg (by intro q;subst q;exact h1 hd)];exact h2
 intro j u t hj hu ht;rw[gX ae]at hj;by_cases c:j=i;subst c;rw[af]at ht;rw[hv]at hu;cases hu;rw[ht,fx a t x t (ak t ht),if_pos rfl];exact r;have ac:dn L j:=hj.resolve_left c;have:=D.vals j u t ac hu ht;cases hd:o.dst with
 |none=>exact TA ar _ _ this
 |some d=>
  have ax:j<ops.size:=by grind
  rw[fx a d x t (ak d hd),if_neg (by intro q;subst q;exact an t hd j ax c ht)];exact TA ar _ _ this
theorem DI.unm_next{env:T V}{vals:List V}{Hs:List Heap}{m0 m m':M}{h hk Z:Heap}{w0 w w':World}{a0 a:Act}{L:Array Bool}(D:DI C ops l env vals Hs m0 h w0 a0 L a w m hk)
 {i:Nat} (hi:i<L.size) (E':Ext m hk w m' Z w'):∀(j:Nat) s u c,l[j]? =some (s,some (u,c))->¬dn (L.setIfInBounds i true) j->
  m' (lid u)=none/\Z.bl.get (lid u)=some (.row c (lid u) 0)/\lid u<Z.next:=by
 intro j s u c hj K;let⟨b1,b2,b3⟩:=D.unm j s u c hj (fun hd=>K ((gX hi).2 (.inr hd)));refine⟨?_,(E'.phan _ b1 b3).trans b2,Ty b3 E'.next⟩;cases hm:m' (lid u)with
 |none=>rfl
 |some loc=>have:=(E'.new _ _ hm b1).1;omega
theorem HRel.materialize{m:M}{h:Heap}{w:World}(H:HRel m h w){p:Nat}{c:List V}{f k:Nat}{X:Array Value}{elem:TypeId}(hm:m p=none)(hb:h.bl.get p=some (.row c f k))(hX:VsRel m c X.toList):
 HRel (eh m p ⟨w.heap.size,0,X.size,none⟩) h (w.alloc (.cells X elem)):=by
 have ac:Le m (eh m p ⟨w.heap.size,0,X.size,none⟩):=by intro q l Z;rw[aE];exact Z;grind
 have af:=hX.length;refine⟨H.wf,?_,?_,?_⟩;intro q K Z;by_cases e:q=p;subst e;rw[aA]at Z;cases Z;refine⟨_,hb,fun _=>⟨X,elem,(0,0),heap_alloc_new w _,iS,by simp at af;simp only[];omega,fun i v hi=>?_,fun i _=>by simp⟩⟩;let⟨x,hx,rx⟩:=hX.get i v hi;exact⟨x,by simpa using hx,TA ac _ _ rx⟩;rw[aE _ _ e]at Z;let⟨b,hb',r⟩:=H.blk q K Z;exact⟨b,hb',r.mono ac (fun _ _ _ _ x=>x) (heap_alloc_old w _ _ (H.inb q K Z))⟩;intro q K Z;by_cases e:q=p;subst e;rw[aA]at Z;cases Z;simp;rw[aE _ _ e]at Z;have:=H.inb q K Z;simp;omega;intro q r lq lr Z hr he ae;by_cases e:q=p;subst e;rw[aA]at Z;cases Z;rw[aE _ _ (Ub ae)]at hr;have:=H.inb r lr hr;simp only[]at he;omega;rw[aE _ _ e]at Z;by_cases e2:r=p;subst e2;rw[aA]at hr;cases hr;have:=H.inb q lq Z;simp only[]at he;omega;rw[aE _ _ e2]at hr;exact H.sep q r lq lr Z hr he ae
theorem EU{m:M}{env:T V}{ak:List V}{a:Act}{σ:Sg}(hO:DJ C m σ ak env a){o:Oper}{op:IOp}{c:List V}{k:Option (Nat×Nat)}(Z:mw P C σ o op=true)(K:iZ ak env op=some (c,k))(w:World):
 ∃x X elem,(execOp a.eval o).run P w=.ok (.value x) (w.alloc (.cells X elem))/\VsRel m c X.toList/\∀id m',m' id=some ⟨w.heap.size,0,X.size,none⟩->VRel m' (eF id k) x:=by
 unfold iZ at K;split at K;rename_i zero;cases K;simp only[mw,cJ,RU]at Z;replace Z:=Z.2;unfold oI at Z;split at Z;rename_i t hy;let⟨z,hz,hv⟩:=iU (w:=w) Z;have ae:=dh (P:=P) (w:=w) z.cells t;refine⟨.pointer (some ⟨w.heap.size,0,none⟩),z.cells,t,?_,dy m _ _ hv,fun id m' hm=>⟨_,hm,rfl⟩⟩;simp[execOp,hy,Instr.alloc,hz,newVar,ae];cases Z;rename_i x;split at K;rename_i v hv;cases K;simp only[mw,cJ,RU]at Z;replace Z:=Z.2;have ac:=bF hO _ _ _ Z.2 (sP hv);let⟨af,_⟩:=Z;unfold xx at af;split at af;rename_i t ad hy;let⟨y,e,ry⟩:=cg ac;rw[hy]at e;simp[Op.operands]at e;have ae:=dh (P:=P) (w:=w) y.cells t;refine⟨.pointer (some ⟨w.heap.size,0,none⟩),y.cells,t,?_,ry.cells,fun id m' hm=>⟨_,hm,rfl⟩⟩;simp[execOp,hy,e,Instr.box,newVar,ae];cases af;cases K;rename_i zero an len xs;split at K;rename_i vs ar;split at K;rename_i c' hf;cases K;simp only[mw,cJ,RU]at Z;replace Z:=Z.2;have ac:=bF hO _ _ _ Z.2 ar;let⟨X,elem,h1,h2⟩:=qC (P:=P) (m:=m) (w:=w) Z.1 ac hf;exact⟨_,X,elem,h1,h2,fun id m' hm=>⟨_,hm,RW _,rfl⟩⟩;cases K;cases K;rename_i zero bytes x y;split at K;rename_i lv hl;split at K;rename_i cv ax;split at K;rename_i n kk hn;cases K;simp only[mw,cJ,RU]at Z;replace Z:=Z.2;have ac:=bF hO _ _ _ Z.2 (yW hl ax);let⟨X,elem,h1,h2,h3⟩:=Du (P:=P) (m:=m) (w:=w) Z.1 ac hn;exact⟨_,X,elem,h1,h2,fun id m' hm=>⟨_,hm,h3,rfl⟩⟩;cases K;cases K;cases K;cases K
theorem DI.opds{vals:List V}{Hs:List Heap}{m0 m:M}{h hk:Heap}{w0 w:World}{a0 a:Act}{L:Array Bool}{env:T V}(D:DI C ops l env vals Hs m0 h w0 a0 L a w m hk)
 (hG:Glob K C.G m0) (hE:ERel C m0 env a0) (hB:Kr ops B=true) (az:vals.length=ops.size)
 {i:Nat} {o:Oper} (ho:ops[i]? =some o) (af:¬dn L i) (ax:∀e∈o.after,Region.binds .any e=true->dn L e.on):DJ C m (sig ops B i) ((vals.take i).reverse++[]) env a:=by
 have hi:i<ops.size:=(Tn.1 ho).1;have ar:=hG.ext D.ext;intro od y v Z ev;unfold mg at Z;split at Z;rename_i t;split at Z;rename_i s hs;let⟨j,hj,hd,hcase⟩:=j8 _ _ _ hs;have ac:j<ops.size:=by simpa using hj
 obtain⟨hb,rfl⟩|rfl:=hcase;have ay:=i9 hB D.closed i o ho ax j hb ac;cases y<;>simp[dg]at Z;subst Z;have an:j<i:=by
  have h1:=cZ (cZ hB hi) ac;simp only[hb,Vm,Uk,ho]at h1;let⟨e,he,h2⟩:=Ve.1 h1;simp only[RU,SI,TV]at h2;have aH:=h2.1.2;obtain q|q:=h2.2;have:=RY q;omega
  -- j comes before e.on, which comes before i
  have key:∀k,k<ops.size->∀j,j<ops.size->bef B k j=true->j<k:=by
   intro k;induction k using Nat.strongRecOn with
   |_ k ih=>intro hk j hj hb;have h1:=cZ (cZ hB hk) hj;simp only[hb,Vm,Uk]at h1;split at h1;let⟨e,he,h2⟩:=Ve.1 h1;simp only[RU,SI,TV]at h2;obtain q|q:=h2.2;have:=RY q;have:=h2.1.2;omega;grind;cases h1
  have:=key e.on oM j ac q;omega
 have ae:((vals.take i).reverse++[])[i-1-j]? =some v:=by rw[<-j3];exact ev
 rw[Ie oM an]at ae;exact D.vals j v t ay ae hd;cases y<;>simp[dg]at Z
 rename_i hs;split at Z;rename_i s;simp only[RU]at Z;have:=RY Z.1;subst this;have ak:=D.old s (fun j hj hd=>by
  have ac:j<ops.size:=by grind
  let⟨_,hc⟩:=mh _ _ hs j (eV ac) hd;obtain rfl|hc:=hc;exact af hj;exact af (i9 hB D.closed j _ (Sz ac) (D.closed j _ (Sz ac) hj) i hc hi))
 show VRel m v (a.tmps.getD s undef);rw[ak];exact TA D.ext.le _ _ (hE.var Z.2 ev);cases Z;exact pS ar Z ev
end
variable {K : LG -> Prop}
section
variable {P : Program} {C : Cx} {call : aI} {ops : Array Oper} {dl : List DS} {l : List IStep} {late B R : List Nat} {reads : List (Nat × Nat × Nat)} {sets : List (Nat × Nat)}
theorem DI.guard{vals:List V}{Hs:List Heap}{m0 m:M}{h hk:Heap}{w0 w:World}{a0 a:Act}{L:Array Bool}{env:T V}(D:DI C ops dl env vals Hs m0 h w0 a0 L a w m hk){σ:Sg}{ae:List V}
 (hO:DJ C m σ ae env a) {o:Oper} {s:Option (Opd×Bool)} (Z:Dm C σ ops o.guard s=true) {b:Bool} (e:evG ae env s=some b):Region.wanted o (yielded ops a.tmps)=b:=by
 unfold Region.wanted;unfold Dm at Z;split at Z;rename_i hg;rw[hg];cases e;rfl;rename_i j ac x af hg;rw[hg];simp only[RU,beq_iff_eq]at Z;obtain⟨rfl,Z⟩:=Z;split at Z;rename_i d hd;simp only[RU,SI]at Z;unfold evG at e;simp only[]at e;split at e;rename_i c hx;cases e;have hr:=hO _ _ _ Z.2 hx;simp only[VRel,Act.eval]at hr;have K:d<a.tmps.size:=by rw[D.size];exact Z.1
 have:a.tmps[d]? =some (.bool c):=by rw[SR,Sz K]at hr;rw[Sz K];simpa using hr
 simp only[yielded,hd,SZ,this];cases c<;>cases ac<;>rfl
 rename_i c hx;cases e;have hr:=hO _ _ _ Z.2 hx;simp only[VRel,Act.eval]at hr;let⟨c',hr,_⟩:=hr;have K:d<a.tmps.size:=by rw[D.size];exact Z.1
 have:a.tmps[d]? =some (.tuple c'.toArray):=by rw[SR,Sz K]at hr;rw[Sz K];simpa using hr
 simp only[yielded,hd,SZ,this];cases ac<;>rfl
 cases e;cases Z;cases Z
theorem wy {n : Nat} {L : Array Bool} {i : Nat} (hi : i < n) (hL : L.size = n) (hni : ¬ dn L i) :
    ((List.range n).filter fun j => !(L.setIfInBounds i true).getD j false).length < ((List.range n).filter fun j => !L.getD j false).length := by
  have hsub : ∀ j ∈ List.range n, (!(L.setIfInBounds i true).getD j false) = true -> (!L.getD j false) = true := by
    intro j _ hj
    by_cases c : i = j
    · subst c
      have : (L.setIfInBounds i true).getD i false = true := (gX oM).2 (.inl rfl)
      rw [this] at hj; cases hj
    · rw [getD_set_ne false c] at hj; exact hj
  -- the two lists differ at i
  have key : ∀ (js : List Nat), (∀ j ∈ js, (!(L.setIfInBounds i true).getD j false) = true -> (!L.getD j false) = true) -> i ∈ js ->
      (js.filter fun j => !(L.setIfInBounds i true).getD j false).length < (js.filter fun j => !L.getD j false).length := by
    intro js
    induction js with
    | nil => intro _ h; simp at h
    | cons k js ih =>
      intro hs hm
      by_cases c : k = i
      · subst c
        have h1 : (L.setIfInBounds k true).getD k false = true := (gX oM).2 (.inl rfl)
        have h2 : L.getD k false = false := by simpa [dn] using hni
        have := pP js (p := fun j => !(L.setIfInBounds k true).getD j false) (q := fun j => !L.getD j false) (fun j hj => hs j (by simp [hj]))
        simp only [Vf, h1, h2, Vm, Bool.not_false, SP, if_false, if_true, SG]
        omega
      · have hm' : i ∈ js := by obtain q | q:=Sk.1 hm; · exact absurd q.symm c
                                · exact q
        have ih' := ih (fun j hj => hs j (by simp [hj])) hm'
        have e1 : (L.setIfInBounds i true).getD k false = L.getD k false := getD_set_ne false (Ub c)
        simp only [Vf, e1]
        split
        · simp only [SG]; omega
        · exact ih'
  exact key _ hsub (eV hi)
theorem xE{Z:Region.Mode}{e:Edge}(h:Region.binds .any e=true):Region.binds Z e=true:=by unfold Region.binds at h|-;split at h<;>simp_all
theorem Gv{md:Region.Mode}{L:Array Bool}{R:Nat->Nat}(K:pH md ops R=true)(hL:L.size=ops.size)(hr:Region.ready md ops L=[]):∀i,i<ops.size->dn L i:=by
 have key:∀r i,R i=r->i<ops.size->dn L i:=by
  intro r;induction r using Nat.strongRecOn with
  |_ r ih=>
   intro i ac Z;by_cases c:dn L i;exact c;exfalso;have hm:i∈Region.ready md ops L:=by
    rw[mem_ready];refine⟨?_,ops[i],Sz Z,fun e he hb=>?_⟩;have:L.getD i false=false:=by simpa[dn]using c
    rw[SR,Sz oM]at this|-;simpa using this;have h1:=cZ K Z;rw[Sz Z]at h1;have h2:=Tv.1 h1 e (eV he);simp only[hb,Vm,Uk,RU,SI]at h2;exact ih (R e.on) oM e.on rfl h2.2
   rw[hr]at hm;simp at hm
 exact fun i Z=>key (R i) i rfl Z
theorem yc{C:Cx}{ops:Array Oper}{n:Nat}{loc:List V}(hV:C.vars.contains DSL=false){sets0:List (Nat×Nat)}
 (hs:(sets0.all fun(p:Nat×Nat)=>Nat.blt p.2 ops.size&&C.vars.contains p.1&&(match(ops[p.2]?).bind (·.dst)with|some t=>Nat.beq t p.1|none=>false))=true):
 ∀(sets:List (Nat×Nat))(env env':T V),(∀p,p∈sets→p∈sets0)→iu n loc sets env=some env'→env'.get DSL=env.get DSL
 |[],env,env',_,e=>by cases e;rfl
 |(t,i)::r,env,env',hi,e=>by simp only[iu]at e;split at e;rename_i u hu;rw[yc hV hs r _ _ (fun p hp=>hi p iX) e,T.get_set_ne];intro q;have:=List.all_eq_true.1 hs (t,i) (hi _ iS);simp only[Bool.and_eq_true]at this;rw[←q,hV]at this;simp at this;cases e
theorem AC(hcall:eN P K C.G call)(hc:Kq P C ops l late B R reads sets=true){Q:Exit→Act→World→Prop}{env:T V}{h0:Heap}{m0:M}{a0:Act}{w0:World}{ex:Ex}{env':T V}{h':Heap}{id:Nat}
 (hG:Glob K C.G m0) (hE:ERel C m0 env a0) (H0:HRel m0 h0 w0) (e:evD call l late reads sets env h0=.ok ex env' h')
 (hL:∀a' w' m',ex=.norm→ERel C m' env' a'→HRel m' h' w'→Ext m0 h0 w0 m' h' w'→a'.defers=a0.defers→env'.get DSL=env.get DSL→Q .normal a' w') {ro:Option Nat}:(Code.region id ops true).wpIn (FR ro) 0 P Q a0 w0:=by
 unfold Kq at hc;simp only[Bool.and_eq_true]at hc;let⟨⟨⟨⟨⟨hsz,hedge⟩,hB⟩,hds⟩,hone⟩,hchain⟩:=hc;have hsz:=Nat.eq_of_beq_eq_true hsz;unfold evD at e;split at e;cases e;rename_i dl h hlay;let⟨y1,y2,_,y4,y5,y6⟩:=Ap l 0 [] h0 dl h hlay;have hdl:=mU l 0 [] h0 dl h hlay;have heffm:cW (nJ late l 0)=cW dl:=Df (mT l 0 [] h0 dl h hlay);have hstart:Ext m0 h0 w0 m0 h w0:=⟨fun _ _ x=>x,fun _ _ a b=>by simp[a]at b,y4,fun p _ hp=>y5 p hp,Nat.le_refl _,fun _ _ _=>rfl,rfl,rfl,rfl,fun _ _ _ x=>x,fun _ _=>Kept.refl _ _ _,fun _ _ a b=>by simp[a]at b⟩;rw[heffm]at hchain;split at e;rename_i loc hs hdr;cases hrd:reads.all (mK call env l loc hs);rw[hrd]at e;cases e;rw[hrd]at e;simp only[cond_true]at e;let⟨vals,hp,hcan,hloc,hhs⟩:=i7 dl [] [h] h loc hs hdr;let⟨hvl,hpl,hat⟩:=tA dl [] h vals hp hcan;have hvl':vals.length=ops.size:=oM;split at e;rename_i env1 h1 hs1 hset;simp only[Out.ok.injEq]at e;obtain⟨rfl,rfl,rfl⟩:=e
 -- the last heap
 have hlast:(h::hp)[gV dl dl.length]? =some h1:=by
  rw[←hpl];have:hp.reverse++[h]=(h::hp).reverse:=by simp
  rw[this]at hhs;have hh:(h::hp).reverse[0]? =some h1:=by rw[←hhs];rfl
  rw[List.getElem?_reverse iS]at hh;simpa using hh
 refine wpIn_region_draw fun t=>?_;have main:∀(md:Region.Mode)(R':Nat→Nat),pH md ops R'=true→∀(fuel:Nat)(L:Array Bool)(a:Act)(w:World),(∃m hk,DI C ops dl env vals (h::hp) m0 h0 w0 a0 L a w m hk)→
  ((List.range ops.size).filter fun i=> !L.getD i false).length≤fuel→wpAnyIn (FR ro) 0 P md ops Q fuel L a w:=by
  intro md R' hrank;have fin:∀(L:Array Bool)(a:Act)(w:World),(∃m hk,DI C ops dl env vals (h::hp) m0 h0 w0 a0 L a w m hk)→(∀i,i<ops.size→dn L i)→Q .normal a w:=by
   rintro L a w ⟨m,hk,D⟩ hall;have hcnt:cnt dl L=gV dl dl.length:=AI (Nat.le_refl _) (fun e he hlt=>hall e oM) (fun e he hge=>by
    let⟨s,hs,_⟩:=gJ.1 he;have:=(List.getElem?_eq_some_iff.1 hs).1;omega)
   have hkk:=D.at_;rw[hcnt,hlast]at hkk;cases hkk;refine hL a w m rfl ⟨D.size,fun s v hs=>?_,hE.2.2⟩ D.rel D.ext D.defers (yc hE.2.2 (Bool.and_eq_true_iff.1 hds).2 sets env env1 (fun _ x=>x) hset);obtain⟨i,hi,hv⟩|⟨hn,hv⟩:=ut sets env env1 hset s v hs;have hsi:=List.all_eq_true.1 (Bool.and_eq_true_iff.1 hds).2 (s,i) hi;simp only[Bool.and_eq_true,Nat.blt_eq]at hsi;let⟨⟨hlt,hvar⟩,hd⟩:=hsi;refine .inr ⟨hvar,?_⟩;split at hd;rename_i u hu;have:=Nat.eq_of_beq_eq_true hd;subst this;refine D.vals i v u (hall i hlt) ?_ hu;rw[hloc]at hv;rw[List.append_nil,List.getElem?_reverse oM]at hv;rw[←hv];congr 1;omega;cases hd;obtain q|⟨h2,h3⟩:=hE.2.1 s v hv;exact .inl q;refine .inr ⟨h2,?_⟩;rw[D.old s (fun i hi hd=>by
    have hlt:i<ops.size:=by obtain q|q:=Nat.lt_or_ge i ops.size;exact q;rw[Array.getElem?_eq_none q]at hd;cases hd
    have h4:=cZ (Bool.and_eq_true_iff.1 hds).1 hlt;rw[hd]at h4;simp only[Bool.and_eq_true,Bool.or_eq_true]at h4;obtain q|q:=h4.1.2;rw[h2]at q;simp at q;exact hn i (eV q))]
   exact VRel.mono D.ext.le _ _ h3
  intro fuel;induction fuel with
  |zero=>
   intro L a w hD hf;have hall:∀i,i<ops.size→dn L i:=by
    intro i hi;by_cases c:dn L i;exact c;exfalso;have:i∈((List.range ops.size).filter fun i=> !L.getD i false):=by rw[List.mem_filter];exact⟨by simpa using hi,by simpa[dn]using c⟩
    have:=List.length_pos_of_mem this;omega
   refine⟨?_,fin L a w hD hall⟩;cases hr:Region.ready md ops L with
   |nil=>rfl
   |cons i r=>
    exfalso;have hm:i∈Region.ready md ops L:=by rw[hr];simp
    let⟨h2,o,h3,_⟩:=mem_ready.1 hm;have hi:i<ops.size:=(Array.getElem?_eq_some_iff.1 h3).1;have:=hall i hi;unfold dn at this;let⟨m,hk,D⟩:=hD;rw[Array.getD_eq_getD_getElem?,Array.getElem?_eq_getElem (by rw[D.lsz];exact hi)]at this h2;simp at this h2;rw[this]at h2;cases h2
  |succ fuel ih=>
   intro L a w hD hf;refine⟨fun hr=>?_,fun i hi=>?_⟩;let⟨m,hk,D⟩:=hD;exact fin L a w ⟨m,hk,D⟩ (Gv hrank D.lsz hr);let⟨m,hk,D⟩:=hD;let⟨hli,o,ho,hbin⟩:=mem_ready.1 hi;have hilt:i<ops.size:=(Array.getElem?_eq_some_iff.1 ho).1;have hni:¬dn L i:=by unfold dn;rw[Array.getD_eq_getD_getElem?,Array.getElem?_eq_getElem (by rw[D.lsz];exact hilt)]at hli⊢;simp at hli⊢;exact hli
   have hed:∀e∈o.after,Region.binds .any e=true→dn L e.on:=fun e he hb=>hbin e he (xE hb);have hO:=D.opds hG hE hB hvl' ho hni hed;have hG':=hG.ext D.ext;have hone_i:=cZ hone hilt;have hlt':i<l.length:=oM;rw[ho,List.getElem?_eq_getElem hlt']at hone_i;simp only[Bool.and_eq_true]at hone_i;let⟨⟨⟨hcg,hco⟩,hcr⟩,hcl⟩:=hone_i;have hltd:i<dl.length:=oM;have hdi:dl[i]? =some dl[i]:=List.getElem?_eq_getElem hltd;let⟨v,hb,ha,hv,hhb,hrun,hef,hnef⟩:=hat i dl[i] hdi;have hfst:dl[i].1=l[i]:=by obtain⟨_,q⟩|⟨_,u,c,q,_⟩:=y1 i l[i] (List.getElem?_eq_getElem hlt');exact congrArg Prod.fst (Option.some.inj (hdi.symm.trans q));exact congrArg Prod.fst (Option.some.inj (hdi.symm.trans q))
   have hunl:=wy hilt D.lsz hni;have hiL:i<L.size:=by rw[D.lsz];exact hilt
   have go:∀x w' m' hk',VRel m' v x→HRel m' hk' w'→Ext m hk w m' hk' w'→(h::hp)[cnt dl (L.setIfInBounds i true)]? =some hk'→
    wpAnyIn (FR ro) 0 P md ops Q fuel (L.setIfInBounds i true) (a.put o.dst x) w':=
    fun x w' m' hk' r H' E' hcn=>ih _ _ _ ⟨m',hk',D.next hds ho hni hed hv r H' E'.le (D.ext.trans E') hcn (D.unm_next hiL E')⟩ oM
   -- the effects that are done
   have heffcnt:fE dl[i]=true→cnt dl L=gV dl i∧cnt dl (L.setIfInBounds i true)=gV dl i+1:=by
    intro he;have hmem:i∈cW dl:=gJ.2 ⟨dl[i],hdi,he⟩;have pair:∀p q,p∈cW dl→q∈cW dl→p<q→bef B q p=true:=by
     intro p q hp' hq' hlt;have:=List.all_eq_true.1 (List.all_eq_true.1 hchain p hp') q hq';have hb':Nat.blt p q=true:=by rw[Nat.blt_eq];exact hlt
     simpa[hb']using this
    have lt_of:∀p,p∈cW dl→p<ops.size:=by intro p hp';let⟨s,hs,_⟩:=gJ.1 hp';have:=(List.getElem?_eq_some_iff.1 hs).1;omega
    have h1:∀p∈cW dl,p<i→dn L p:=fun p hp' hlt=>i9 hB D.closed i o ho hed p (pair p i hp' hmem hlt) (lt_of p hp');have h2:∀p∈cW dl,i<p→¬dn L p:=fun p hp' hlt hd=>
     hni (i9 hB D.closed p _ (Array.getElem?_eq_getElem (lt_of p hp')) (D.closed p _ (Array.getElem?_eq_getElem (lt_of p hp')) hd) i (pair i p hmem hp' hlt) hilt)
    refine⟨AI oM h1 (fun p hp' hle=>?_),?_⟩;obtain q|q:=Nat.lt_or_eq_of_le hle;exact h2 p hp' q;subst q;exact hni;rw[←De hdi he];refine AI oM (fun p hp' hlt=>?_) (fun p hp' hle hd=>?_);rw[gX hiL];by_cases c:p=i;exact .inl c;exact .inr (h1 p hp' oM);rw[gX hiL]at hd;obtain q|q:=hd;omega;exact h2 p hp' oM q
   have hnoeff:fE dl[i]=false→cnt dl (L.setIfInBounds i true)=cnt dl L:=fun he=>
    AH (fun hm=>by let⟨s,hs,h2⟩:=gJ.1 hm;rw[hdi]at hs;cases hs;rw[he]at h2;cases h2)
   unfold wpOpIn;rw[ho];simp only[];obtain⟨hlt1,hhab⟩|⟨hsn,hgt,hop⟩|⟨hsn,hgf,hvu,hha⟩:=hrun
   -- a late block
   obtain⟨_,q⟩|⟨q0,u,c,q,hu2,hu3,hu4⟩:=y1 i l[i] (List.getElem?_eq_getElem hlt');let⟨c1,hc1,_⟩:=hlt1;rw[Option.some.inj (hdi.symm.trans q)]at hc1;cases hc1;have hdu:dl[i]=(l[i],some (u,c)):=Option.some.inj (hdi.symm.trans q);let⟨c1,hc1,hlok⟩:=hlt1;rw[hdu]at hc1 hlok;simp only[Option.some.injEq,Prod.mk.injEq]at hc1;obtain⟨rfl,rfl⟩:=hc1;unfold cy at hlok;split at hlok;case h_2=>cases hlok
   rename_i c2 k2 hlc;simp only[Bool.and_eq_true]at hlok;have hc2:=kU _ _ hlok.1;have hu1:=qU _ _ hlok.2;subst hc2;rw[Nat.zero_add]at q0;rw[q0]at hcl;have hgn:o.guard=none:=by simpa using hcl
   have hw:Region.wanted o (yielded ops a.tmps)=true:=by unfold Region.wanted;rw[hgn]
   rw[if_pos hw];let⟨b1,b2,b3⟩:=D.unm i l[i] u c (by rw[hdi,hdu]) hni;let⟨x,X,elem,hrun,hX,hval⟩:=EU (P:=P) hO hco hlc w;refine⟨fun _ _=>trivial,?_⟩;show o.uponIn (FR ro) 0 P a _ Q ((o.semAt ro a.eval).run P w);rw[Oper.semAt_eq ro a.eval o (fun c' hcc=>by simp only[mw,Bool.and_eq_true]at hco;rw[hcc]at hco;exact absurd hco.1 (by simp[JA])),hrun];have hes:fE dl[i]=false:=by rw[hdu];rfl
   have H':=D.rel.materialize (elem:=elem) b1 b2 hX;have hle:Le m (eh m (lid u) ⟨w.heap.size,0,X.size,none⟩):=by intro q l' hq;rw[aE];exact hq;intro e';subst e';rw[b1]at hq;cases hq
   have E0:Ext m0 h0 w0 (eh m (lid u) ⟨w.heap.size,0,X.size,none⟩) hk (w.alloc (.cells X elem)):=by
    refine⟨fun p l' hp=>hle _ _ (D.ext.le _ _ hp),?_,D.ext.next,D.ext.phan,?_,?_,D.ext.os,D.ext.tape,D.ext.output,fun b i hb x=>D.ext.cov b i hb (Cov.new m _ _ rfl b i (Nat.lt_of_lt_of_le hb D.ext.size) x),fun b hb=>by
     have:=D.ext.size;rw[heap_alloc_old w _ _ oM];exact D.ext.out b hb,fun p l' hp hn0=>by
     by_cases e':p=lid u;subst e';rw[aA]at hp;cases hp;rfl;rw[aE _ _ e']at hp;exact D.ext.lps _ _ hp hn0⟩
    intro p l' hp hn0;by_cases e':p=lid u;subst e';rw[aA]at hp;cases hp;exact⟨hu2,.inl D.ext.size⟩;rw[aE _ _ e']at hp;exact D.ext.new _ _ hp hn0;have:=D.ext.size;simp;omega;intro b hb1 hb2;have:=D.ext.size;rw[heap_alloc_old w _ _ oM];exact D.ext.keep b hb1 hb2
   refine ih _ _ _ ⟨_,hk,D.next hds ho hni hed hv ?_ H' hle E0 (by rw[hnoeff hes];exact D.at_) ?_⟩ oM;have e:=hval (lid u) (eh m (lid u) ⟨w.heap.size,0,X.size,none⟩) (aA _ _ _);rw[←hu1]at e;exact e;intro j s' u' c' hj hnd;have hji:j≠i:=fun e'=>hnd ((gX hiL).2 (.inl e'));let⟨g1,g2,g3⟩:=D.unm j s' u' c' hj (fun hd=>hnd ((gX hiL).2 (.inr hd)));have hne:lid u'≠lid u:=by obtain q'|q':=Nat.lt_or_gt_of_ne hji;have:=y2 j i s' l[i] u' u _ _ q' hj (by rw[hdi,hdu]);omega;have:=y2 i j l[i] s' u u' _ _ q' (by rw[hdi,hdu]) hj;omega
   exact⟨by rw[aE _ _ hne];exact g1,g2,g3⟩;rw[hfst]at hgt hop;rw[if_pos (D.guard hO hcg hgt)];have hes:fE dl[i]=eff l[i].op:=by unfold fE;rw[hsn,hfst]
   cases he:eff l[i].op
   -- it reads, or reckons
   have hcn:=hnoeff (hes.trans he);have hop':aO call ((vals.take i).reverse++[]) env hk l[i].op=some (v,hk):=by
    have hcase:(∃k xs,l[i].op=.p k xs)∨Ly l[i].op=true:=by
     cases hio:l[i].op with
     |p k xs=>exact .inl ⟨k,xs,rfl⟩
     |ld n ia x=>exact .inr rfl
     |lk a b c d=>exact .inr rfl
     |b2s a=>exact .inr rfl
     |_=>rw[hio]at he;simp[eff]at he
    obtain⟨k,xs,hio⟩|hio:=hcase;rw[hio]at hop⊢;exact Dd hop hk;have hro:Ep (nJ late l 0) B reads i=true:=by rw[hio]at hcr;simpa using hcr
    let⟨r,hr,hr2⟩:=List.any_eq_true.1 hro;let⟨ri,lo,hi'⟩:=r;rw[heffm]at hr2;simp only[Bool.and_eq_true]at hr2;let⟨⟨q1,q2⟩,q3⟩:=hr2;have q1:=Nat.eq_of_beq_eq_true q1;subst q1;have q2:=Nat.le_of_ble_eq_true q2;have q3:=Nat.le_of_ble_eq_true q3;have lt_of:∀p,p∈cW dl→p<ops.size:=by intro p hp';let⟨s,hs,_⟩:=gJ.1 hp';have:=(List.getElem?_eq_some_iff.1 hs).1;omega
    have c1:((cW dl).filter fun e=>bef B ri e).length≤cnt dl L:=pP _ (fun p hp' hb'=>i9 hB D.closed ri o ho hed p hb' (lt_of p hp'));have c2:cnt dl L+((cW dl).filter fun e=>bef B e ri).length≤(cW dl).length:=nV _ (fun p hp' hd=>by
     cases hbb:bef B p ri;rfl;exact absurd (i9 hB D.closed p _ (Array.getElem?_eq_getElem (lt_of p hp')) (D.closed p _ (Array.getElem?_eq_getElem (lt_of p hp')) hd) ri hbb hilt) hni)
    have hrk:=List.all_eq_true.1 hrd _ hr;unfold mK at hrk;simp only[List.getElem?_eq_getElem hlt']at hrk;have hdrop:loc.drop (l.length-ri-1)=v::((vals.take ri).reverse++[]):=by
     rw[hloc];have hvr:vals[ri]? =some v:=hv;have hrl:ri<vals.length:=oM;have e1:vals.take (ri+1)=vals.take ri++[v]:=by rw[List.take_succ_eq_append_getElem hrl];rw[List.getElem?_eq_getElem hrl]at hvr;cases hvr;rfl
     have e2:(vals.reverse++[]).drop (l.length-ri-1)=(vals.take (ri+1)).reverse:=by rw[List.append_nil,List.drop_reverse];congr 2;omega
     rw[e2,e1];simp
    rw[hdrop]at hrk;simp only[hgt]at hrk;have hmem:hk∈(((h1::hs1).reverse.drop lo).take (hi'+1-lo)):=by
     have hrev:(h1::hs1).reverse=h::hp:=by rw[hhs];simp
     rw[hrev];have hget:=D.at_;have:((((h::hp).drop lo).take (hi'+1-lo)))[cnt dl L-lo]? =some hk:=by rw[List.getElem?_take,if_pos oM,List.getElem?_drop,(oM:lo+(cnt dl L-lo)=cnt dl L)];exact hget
     exact List.mem_of_getElem? this
    let⟨g',hg'⟩:=uH _ hrk hk hmem;have:=vr he hg';subst this;exact hg'
   refine rV hcall hG' hO D.rel hco hop' (fun x w' m' r H' E'=>go x w' m' hk r H' E' ?_);rw[hcn];exact D.at_
   -- it has an effect
   let⟨e1,e2⟩:=heffcnt (hes.trans he);have hkb:hk=hb:=by have:=D.at_;rw[e1,hhb]at this;cases this;rfl
   subst hkb;refine rV hcall hG' hO D.rel hco hop (fun x w' m' r H' E'=>go x w' m' ha r H' E' ?_);rw[e2];exact hef (hes.trans he);rw[hfst]at hgf;have hes:fE dl[i]=eff l[i].op:=by unfold fE;rw[hsn,hfst]
   rw[if_neg (by rw[D.guard hO hcg hgf];simp)];refine⟨fun _ _=>trivial,?_⟩;refine go undef w m hk ?_ D.rel (Ext.refl _ _ _) ?_;rw[hvu];exact⟨[],rfl,rfl⟩;cases he:eff l[i].op;rw[hnoeff (hes.trans he)];exact D.at_;let⟨e1,e2⟩:=heffcnt (hes.trans he);have hkb:hk=hb:=by have:=D.at_;rw[e1,hhb]at this;cases this;rfl
   rw[e2,hkb,←hha];exact hef (hes.trans he)
 have start:∀md R',pH md ops R'=true→∀t,wpOpsIn (FR ro) 0 P ops Q (Region.linearise md ops t) a0 {w0 with drawn:=w0.drawn+1}:=by
  intro md R' hrank t;refine wpAnyIn_sound ops.size t _ a0 _ (main md R' hrank ops.size _ a0 _ ⟨m0,h,?_⟩ (by
   have:=List.length_filter_le (fun i=> !(Array.replicate ops.size false).getD i false) (List.range ops.size);simpa using this))
  have hnone:∀i,¬dn (Array.replicate ops.size false) i:=by intro i hi;unfold dn at hi;rw[Array.getD_eq_getD_getElem?]at hi;by_cases c:i<ops.size;simp[c]at hi;simp[c]at hi
  refine⟨iS,fun i o _ hd=>absurd hd (hnone i),hE.1,rfl,fun t _=>rfl,?_,(y6 m0 w0 H0).congr rfl,hstart.trans (Ext.drew m0 h w0),fun i v t hd=>absurd hd (hnone i),?_⟩;have:cnt dl (Array.replicate ops.size false)=0:=by unfold cnt;rw[List.length_eq_zero_iff,List.filter_eq_nil_iff];intro e _;exact hnone e
  rw[this];rfl;intro i s u c hi _;have hil:i<l.length:=by have:=(List.getElem?_eq_some_iff.1 hi).1;omega
  obtain⟨_,q⟩|⟨_,u',c',q,hu2,hu3,hu4⟩:=y1 i l[i] (List.getElem?_eq_getElem hil);rw[hi]at q;cases q;rw[hi]at q;cases q;refine⟨?_,hu4,hu3⟩;exact H0.unmapped hu2
 unfold zA at hedge;simp only[Bool.and_eq_true]at hedge;unfold Region.schedule;split;exact start .any _ hedge.1.1 t;split;exact start .text _ hedge.1.2 _;exact start .gc _ hedge.2 _;cases e;cases e
end
end Go.Ev
