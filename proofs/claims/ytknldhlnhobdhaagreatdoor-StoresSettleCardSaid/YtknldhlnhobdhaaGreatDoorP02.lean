/- An evaluator of the program, and contracts over it: EvLp to EvZa. -/
import Derived.RangeFuncRecord
import Derived.OrdersIn
import Derived.Test.YtknldhlnhobdhaaGreatDoorP01
set_option linter.unusedSimpArgs false
set_option linter.unusedVariables false
set_option linter.constructorNameAsVariable false
set_option linter.unnecessarySimpa false
noncomputable section
namespace Go.Ev
def V4(h:a_)(k:Y5):a_:=⟨h.S.A_ h.e k,h.e+1,h.Q⟩
def Q6(h:a_)(b:Nat)(k:Y5):a_:=⟨h.S.A_ b k,h.e,h.Q⟩
section
variable {P : Program} {m : M} {h : a_} {w : World}
theorem r_.v(H:r_ m h w){w1:World}{L:Nat}{g:LG}{env:T V}(hk:∀i,i<w.heap.size->w1.heap[i]? =w.heap[i]?)(an:w.heap.size<=L)
 (hL:w1.heap[L]? =some (.loop {g.r with state:=.ready,pending:=none})) (ae:∀s v,env.c_ s=some v->s=U_\/(g.a.contains s=true/\l_ m v (g.r.tmps.getD s undef))):
 r_ (eh m h.e ⟨L,0,0,some g⟩) (V4 h (.d g.b g.c g.d env 0 none)) w1:=by
 have ak:=H.f ⟨L,0,0,some g⟩;have af:L<w1.heap.size:=(WT.1 hL).1;refine⟨⟨?_,?_⟩,?_,?_,?_⟩;intro p cp f k Z;show match h.Q.c_ f with|none=>f=p|some (_,e)=>k<=e
 rw[V4,Xr]at Z;by_cases e:p=h.e;grind;rw[if_neg e]at Z;exact H.g.b _ _ _ _ Z;intro p Z;have ar:h.e+1<=p:=Z;refine⟨?_,(H.g.a p oM).2⟩;rw[V4,We _ _ oM];exact(H.g.a p oM).1;intro p K Z;by_cases e:p=h.e;subst e;rw[av]at Z;cases Z;exact⟨.d g.b g.c g.d env 0 none,by rw[V4,WI],g,rfl,rfl,rfl,rfl,hL,fun s v hs=>(ae s v hs).imp id fun q=>⟨q.1,Xt ak _ _ q.2⟩⟩;rw[aE _ _ e]at Z;let⟨b,hb,r⟩:=H.c p K Z;exact⟨b,by rw[V4,We _ _ e];exact hb,r.mono ak (fun _ _ _ _ x=>x) (hk _ (H.a p K Z))⟩;intro p K Z;by_cases e:p=h.e;subst e;rw[av]at Z;cases Z;exact af;rw[aE _ _ e]at Z;have:=H.a p K Z;omega;intro p q lp lq Z hq he ac;by_cases e:p=h.e;subst e;rw[av]at Z;cases Z;rw[aE _ _ (XK ac)]at hq;have:=H.a q lq hq;simp at he;omega;rw[aE _ _ e]at Z;by_cases e2:q=h.e;subst e2;rw[av]at hq;cases hq;have:=H.a p lp Z;simp at he;omega;rw[aE _ _ e2]at hq;let⟨cp,cq,f,kp,kq,a,b,d⟩:=H.d p q lp lq Z hq he ac;exact⟨cp,cq,f,kp,kq,by rw[V4,We _ _ e];exact a,by rw[V4,We _ _ e2];exact b,d⟩
theorem r_.n(H:r_ m h w){b:Nat}{Z:V3}(hm:m b=some Z){ps:List Nat}{as bd:IC}{env:T V}{st:Nat}{K:Option Ex}(hb:h.S.c_ b=some (.d ps as bd env st K)):
 ∃g,Z.d=some g/\g.b=ps/\g.c=as/\g.d=bd/\w.heap[Z.a]? =some (.loop {g.r with state:=lst st,pending:=K.map jx})/\
  ∀s v,env.c_ s=some v->s=U_\/(g.a.contains s=true/\l_ m v (g.r.tmps.getD s undef)):=by
 let⟨bk,ac,rel⟩:=H.c b Z hm;rw[hb]at ac;cases ac;exact rel
theorem r_.o(H:r_ m h w){b:Nat}{K:V3}(hm:m b=some K){ps:List Nat}{as bd:IC}{env:T V}{st:Nat}{ay:Option Ex}(hb:h.S.c_ b=some (.d ps as bd env st ay))
 {g:LG} (hg:K.d=some g) (ac:Nat) (Z:Option Ex):
 r_ m (Q6 h b (.d ps as bd env ac Z)) (w.putObj K.a (.loop {g.r with state:=lst ac,pending:=Z.map jx}))/\
 P5 m h w m (Q6 h b (.d ps as bd env ac Z)) (w.putObj K.a (.loop {g.r with state:=lst ac,pending:=Z.map jx})):=by
 have ax:=H.a b K hm;let⟨g',ar,e1,e2,e3,e4,e5⟩:=H.n hm hb;rw[hg]at ar;cases ar;have ae:∀p lp,m p=some lp->p≠b->lp.a≠K.a:=by intro p lp hp ak af;let⟨cp,cq,f,kp,kq,a1,a2,_⟩:=H.d p b lp K hp hm af ak;rw[hb]at a2;cases a2
 refine⟨⟨⟨?_,?_⟩,?_,?_,?_⟩,⟨fun _ _ x=>x,fun p l a c=>(by rw[a]at c;cases c),VZ _,?_,iS,?_,rfl,rfl,rfl,fun _ _ _ x=>x,?_,fun _ _ a b=>by simp[a]at b⟩⟩;intro p cp f k hp;show match h.Q.c_ f with|none=>f=p|some (_,e)=>k<=e
 rw[Q6,Xr]at hp;by_cases e:p=b;grind;rw[if_neg e]at hp;exact H.g.b _ _ _ _ hp;intro p hp;have an:=H.g.a p hp;have az:p≠b:=by grind
 exact⟨by rw[Q6,We _ _ az];exact an.1,an.2⟩;intro p lp hp;by_cases e:p=b;subst e;rw[hm]at hp;cases hp;exact⟨.d ps as bd env ac Z,by rw[Q6,WI],g,hg,e1,e2,e3,World.putObj_heap_same ax,e5⟩;let⟨bk,aH,r⟩:=H.c p lp hp;exact⟨bk,by rw[Q6,We _ _ e];exact aH,r.mono (fun _ _ x=>x) (fun _ _ _ _ x=>x) (World.putObj_heap_other (ae p lp hp e))⟩;intro p lp hp;have:=H.a p lp hp;simpa using this;intro p q lp lq hp hq af ak;let⟨cp,cq,f,kp,kq,a1,a2,a3⟩:=H.d p q lp lq hp hq af ak;have h1:p≠b:=by grind
 have h2:q≠b:=by grind
 exact⟨cp,cq,f,kp,kq,by rw[Q6,We _ _ h1];exact a1,by rw[Q6,We _ _ h2];exact a2,a3⟩;intro p hn hp;have h1:p≠b:=by grind
 rw[Q6,We _ _ h1];intro k hk aJ;exact World.putObj_heap_other (fun e=>hk b K hm e.symm);intro q aN;by_cases h4:q=K.a;subst h4;intro x hx;rw[e4]at hx;cases hx;exact⟨_,World.putObj_heap_same ax,trivial⟩;exact YR (World.putObj_heap_other h4)
theorem r_.A(H:r_ m h w){b:Nat}{ac:V3}(hm:m b=some ac){ps:List Nat}{as bd:IC}{env:T V}{st:Nat}{an:Option Ex}(hb:h.S.c_ b=some (.d ps as bd env st an))(o:Obj):
 r_ (eh m b {ac with d:=none}) (Q6 h b .b) (w.putObj ac.a o):=by
 have ae:Geo m (eh m b {ac with d:=none}):=by intro q l hq;by_cases e:q=b;subst e;rw[hm]at hq;cases hq;exact⟨_,av _ _ _,rfl,rfl,rfl⟩;exact⟨l,by rw[aE _ _ e];exact hq,rfl,rfl,rfl⟩
 have K:∀p lp,m p=some lp->p≠b->lp.a≠ac.a:=by intro p lp Z af ak;let⟨cp,cq,f,kp,kq,a1,a2,_⟩:=H.d p b lp ac Z hm ak af;rw[hb]at a2;cases a2
 refine⟨⟨?_,?_⟩,?_,?_,?_⟩;intro p cp f k Z;show match h.Q.c_ f with|none=>f=p|some (_,e)=>k<=e
 rw[Q6,Xr]at Z;by_cases e:p=b;grind;rw[if_neg e]at Z;exact H.g.b _ _ _ _ Z;intro p Z;have ar:=H.g.a p Z;have ax:p≠b:=by grind
 exact⟨by rw[Q6,We _ _ ax];exact ar.1,ar.2⟩;intro p lp Z;by_cases e:p=b;subst e;exact⟨.b,by rw[Q6,WI],trivial⟩;rw[aE _ _ e]at Z;let⟨bk,az,r⟩:=H.c p lp Z;refine⟨bk,by rw[Q6,We _ _ e];exact az,?_⟩;have hw:(w.putObj ac.a o).heap[lp.a]? =w.heap[lp.a]? :=World.putObj_heap_other (K p lp Z e);cases bk with
 |a c f k=>intro aH;let⟨C,el,fz,a,b',c',d,e'⟩:=r aH;exact⟨C,el,fz,hw.trans a,b',c',fun i v hi=>let⟨x,hx,rx⟩:=d i v hi;⟨x,hx,l_.geo ae _ _ rx⟩,e'⟩
 |f es clock=>let⟨ay,a,b',c⟩:=r;refine⟨ay,hw.trans a,b',fun i k v n hi=>?_⟩;let⟨e',he,r1,r2,r3⟩:=c i k v n hi;exact⟨e',he,l_.geo ae _ _ r1,l_.geo ae _ _ r2,r3⟩
 |d ps as bd en st an=>let⟨g,q1,q2,q3,q4,q5,q6⟩:=r;exact⟨g,q1,q2,q3,q4,hw.trans q5,fun s v hs=>(q6 s v hs).imp id fun q=>⟨q.1,l_.geo ae _ _ q.2⟩⟩
 |e s pos=>exact⟨r.1,hw.trans r.2⟩
 |b=>trivial
 intro p lp Z;by_cases e:p=b;subst e;rw[av]at Z;cases Z;simpa using H.a p ac hm;rw[aE _ _ e]at Z;simpa using H.a p lp Z;intro p q lp lq Z hq ak af;by_cases e:p=b;subst e;rw[av]at Z;cases Z;rw[aE _ _ (XK af)]at hq;exact absurd ak.symm (K q lq hq (XK af));rw[aE _ _ e]at Z;by_cases e2:q=b;subst e2;rw[av]at hq;cases hq;exact absurd ak (K p lp Z af);rw[aE _ _ e2]at hq;let⟨cp,cq,f,kp,kq,a,b',d⟩:=H.d p q lp lq Z hq ak af;exact⟨cp,cq,f,kp,kq,by rw[Q6,We _ _ e];exact a,by rw[Q6,We _ _ e2];exact b',d⟩
theorem P5.p(H:r_ m h w){w1 w2:World}{L:Nat}{g:LG}{k:Y5}{m2:M}{h2:a_}{o:Obj}(hk:∀i,i<w.heap.size->w1.heap[i]? =w.heap[i]?)(an:w.heap.size<=L)(aH:w.heap.size<=w1.heap.size)
 (az:w1.os=w.os) (ay:w1.tape=w.tape) (ak:w1.output=w.output) (E:P5 (eh m h.e ⟨L,0,0,some g⟩) (V4 h k) w1 m2 h2 w2):
 P5 m h w (eh m2 h.e ⟨L,0,0,none⟩) (Q6 h2 h.e .b) (w2.putObj L o):=by
 have ae:∀p l,m p=some l->p≠h.e:=fun p l Z x=>by subst x;rw[H.b (VZ _)]at Z;cases Z
 have ac:∀b i,b<w.heap.size->b? (eh m h.e ⟨L,0,0,some g⟩) b i->b? m b i:=by rintro b i hb ⟨q,l,K,h1,h2,h3⟩;by_cases e:q=h.e;subst e;rw[av]at K;cases K;simp at h1;omega;rw[aE _ _ e]at K;exact⟨q,l,K,h1,h2,h3⟩
 have hnx:(V4 h k).e=h.e+1:=rfl;refine⟨?_,?_,?_,?_,?_,?_,E.s.trans az,E.g.trans ay,E.d.trans ak,?_,?_,?_⟩;intro p l Z;rw[aE _ _ (ae p l Z)];exact E.j p l (by rw[aE _ _ (ae p l Z)];exact Z);intro p l Z hn;by_cases e:p=h.e;subst e;rw[av]at Z;cases Z;exact⟨VZ _,.inl an⟩;rw[aE _ _ e]at Z;let⟨n1,n2⟩:=E.k p l Z (by rw[aE _ _ e];exact hn);rw[hnx]at n1;refine⟨oM,?_⟩;obtain n2|⟨q,lq,K,e2⟩:=n2;omega;by_cases e3:q=h.e;subst e3;rw[av]at K;cases K;exact .inl (by simp at e2;omega);rw[aE _ _ e3]at K;exact .inr ⟨q,lq,K,e2⟩;have:=E.f;rw[hnx]at this;show h.e<=h2.e;omega;intro p hn Z;have af:p≠h.e:=oM;show(h2.S.A_ h.e .b).c_ p=_;rw[We _ _ af,E.l p (by rw[aE _ _ af];exact hn) oM];show(h.S.A_ h.e k).c_ p=_;rw[We _ _ af];have:=E.c;simp;omega;intro b hb ar;rw[World.putObj_heap_other oM,E.e b (fun p l Z e=>?_) oM,hk b ar];by_cases e2:p=h.e;subst e2;rw[av]at Z;cases Z;simp at e;omega;rw[aE _ _ e2]at Z;exact hb p l Z e;rintro b i hb ⟨q,l,K,h1,ax,h3⟩;by_cases e:q=h.e;subst e;rw[av]at K;cases K;simp at h1;omega;rw[aE _ _ e]at K;exact ac b i hb (E.o b i oM ⟨q,l,K,h1,ax,h3⟩);intro b hb;rw[World.putObj_heap_other oM,<-hk b hb];exact(T_.b m b _).c (fun j x=>ac b j hb x) (E.n b oM);intro p l Z hn;by_cases e:p=h.e;subst e;rw[av]at Z;cases Z;rfl;rw[aE _ _ e]at Z;exact E.r p l Z (by rw[aE _ _ e];exact hn)
end
def Off(m:M)(r:Nat):Prop:=∀p loc,m p=some loc->loc.a≠r
theorem Off.ext{m m':M}{h h':a_}{w w':World}{r:Nat}(o:Off m r)(E:P5 m h w m' h' w')(hr:r<w.heap.size):Off m' r:=by
 intro p Z K e;cases h0:m p with
 |some l0=>have:=E.j _ _ h0;rw[K]at this;cases this;exact o p Z h0 e
 |none=>obtain q|⟨q,lq,hq,e2⟩:=(E.k p Z K h0).2;omega;exact o q lq hq (e2.trans e)
theorem r_.p{m:M}{h:a_}{w:World}(H:r_ m h w){r:Nat}(o:Off m r)(x:Obj):r_ m h (w.putObj r x):=by refine⟨H.g,fun p Z K=>?_,fun p Z K=>by simpa using H.a p Z K,H.d⟩;let⟨b,hb,rb⟩:=H.c p Z K;exact⟨b,hb,rb.mono (fun _ _ x=>x) (fun _ _ _ _ x=>x) (World.putObj_heap_other (o p Z K))⟩
theorem P5.i{m m':M}{h h':a_}{w w':World}(E:P5 m h w m' h' w'){r:Nat}(hr:w.heap.size<=r)(x:Obj):P5 m h w m' h' (w'.putObj r x):=
 ⟨E.j,E.k,E.f,E.l,by simpa using E.c,fun b hb hl=>(World.putObj_heap_other oM).trans (E.e b hb hl),E.s,E.g,E.d,E.o,
  fun b hb=>by rw[World.putObj_heap_other oM];exact E.n b hb,E.r⟩
def R9(B:Nat)(m:M)(w:World):List Deferred->Prop
 |[]=>True
 |d::ds=>(∃r,d={target:=.collected r,args:= #[]}/\B<=r/\w.heap[r]? =some (.deferred (some []))/\Off m r/\∀d'∈ds,d'.target≠.collected r)/\R9 B m w ds
theorem R9.ext{B:Nat}{m m':M}{h h':a_}{w w':World}(E:P5 m h w m' h' w'):∀{ds:List Deferred},R9 B m w ds→R9 B m' w' ds
 |[],_=>trivial
 |_::_,⟨⟨r,h1,h2,h3,h4,h5⟩,t⟩=>
  have hlt:=(Array.getElem?_eq_some_iff.1 h3).1
  ⟨⟨r,h1,h2,(E.e r h4 hlt).trans h3,h4.ext E hlt,h5⟩,R9.ext E t⟩
theorem R9.put{B:Nat}{m:M}{w:World}{r:Nat}{x:Obj}:∀{ds:List Deferred},(∀d∈ds,d.target≠.collected r)->R9 B m w ds->R9 B m (w.putObj r x) ds
 |[],_,_=>trivial
 |d::ds,hn,⟨⟨r',h1,h2,h3,h4,h5⟩,t⟩=>⟨⟨r',h1,h2,(World.putObj_heap_other (fun e=>hn d iS (by rw[h1,e]))).trans h3,h4,h5⟩,R9.put (fun d' hd=>hn d' iX) t⟩
inductive T6 where
 |b (e:Ex) (env:T V) (h:a_)
 |a
def E_(loc:List V)(env:T V)(x:H_):Option V:=
 H_.rec (motive:=fun _=>Option V) (fun k=>X8 loc k) (fun s=>env.c_ s) (fun v=>some v) (fun n=>some (.u n 0)) x
def eg(loc:List V)(env:T V)(xs:List H_):Option (List V):=
 List.rec (motive:=fun _=>Option (List V)) (some []) (fun x _ ih=>
  Option.rec (motive:=fun _=>Option (List V)) none (fun v=>Option.rec (motive:=fun _=>Option (List V)) none (fun vs=>some (v::vs)) ih) (E_ loc env x)) xs
def fN{β:Type}(n:Nat)(k:Nat->β):β:=Nat.rec (motive:=fun _=>β) (k 0) (fun j _=>k (Nat.succ j)) n
theorem L0{β:Type}(n:Nat)(k:Nat->β):fN n k=k n:=by cases n<;>rfl
def fI{β:Type}(n:Int)(k:Int->β):β:=Int.rec (motive:=fun _=>β) (fun a=>fN a fun a=>k (.ofNat a)) (fun a=>fN a fun a=>k (.negSucc a)) n
theorem OC{β:Type}(n:Int)(k:Int->β):fI n k=k n:=by cases n<;>simp[fI,L0]
def fB{β:Type}(b:Bool)(k:Bool->β):β:=Bool.rec (motive:=fun _=>β) (k false) (k true) b
theorem OD{β:Type}(b:Bool)(k:Bool->β):fB b k=k b:=by cases b<;>rfl
def fV{β:Type}(v:V)(k:V->β):β:=
 match v with
 |.h b=>fB b fun b=>k (.h b)
 |.A t n=>fI n fun n=>k (.A t n)
 |.u b o=>fN b fun b=>fN o fun o=>k (.u b o)
 |.y b o l c=>fN b fun b=>fN o fun o=>fN l fun l=>fN c fun c=>k (.y b o l c)
 |.G b o l c=>fN b fun b=>fN o fun o=>fN l fun l=>fN c fun c=>k (.G b o l c)
 |v=>k v
theorem Ai{β:Type}(v:V)(k:V->β):fV v k=k v:=by cases v<;>simp[fV,OD,OC,L0]
abbrev aI:=Nat->List V->a_->Option (V×a_)
def aU(call:aI)(loc:List V)(env:T V)(h:a_)(o:Q8):Option (V×a_):=
 match o with
 |.p k xs=>match eg loc env xs with
  |some vs=>match aP k vs with
   |some v=>some (v,h)
   |none=>none
  |none=>none
 |.a n ia x=>match E_ loc env x with
  |some v=>match jO h n ia v with
   |some v=>some (v,h)
   |none=>none
  |none=>none
 |.h n x y=>match E_ loc env x with
  |some p=>match E_ loc env y with
   |some v=>match iP h n p v with
    |some h=>some (.D [],h)
    |none=>none
   |none=>none
  |none=>none
 |.c zero=>some (.u h.e 0,h_ h zero)
 |.r x=>match E_ loc env x with
  |some v=>some (.u h.e 0,h_ h v.s)
  |none=>none
 |.b zero places len xs=>match eg loc env xs with
  |some vs=>kj h zero places len vs
  |none=>none
 |.g zero bytes x y=>match E_ loc env x with
  |some l=>match E_ loc env y with
   |some c=>wS h zero bytes l c
   |none=>none
  |none=>none
 |.i esz bytes x y=>match E_ loc env x with
  |some s=>match E_ loc env y with
   |some v=>jQ h esz bytes s v
   |none=>none
  |none=>none
 |.q esz x y=>match E_ loc env x with
  |some s=>match E_ loc env y with
   |some v=>rP h esz s v
   |none=>none
  |none=>none
 |.d f xs=>match eg loc env xs with
  |some vs=>call f vs h
  |none=>none
 |.e x xs=>match E_ loc env x with
  |some (.E (.func f) first caps)=>match eg loc env xs with
   |some vs=>bif Nat.blt f YB then call f (first++vs++caps) h else none
   |none=>none
  |some (.yld b)=>match eg loc env xs with
   |some vs=>call (YB+b) vs h
   |none=>none
  |_=>none
 |.s xs=>match eg loc env xs with
  |some vs=>amm h vs
  |none=>none
 |.o ks zero ok xs=>match eg loc env xs with
  |some [x,key]=>match alk h ks zero ok x key with
   |some v=>some (v,h)
   |none=>none
  |_=>none
 |.z ks xs=>match eg loc env xs with
  |some [x,key,val]=>amu h ks x key val
  |_=>none
 |.l zero x=>match E_ loc env x with
  |some d=>B3 h zero d
  |none=>none
 |.j x=>match E_ loc env x with
  |some d=>match yE h d with
   |some v=>some (v,h)
   |none=>none
  |none=>none
 |.A x xs=>match E_ loc env x with
  |some (.E (.func f) first caps)=>match eg loc env xs with
   |some vs=>(match env.c_ U_ with
    |some _=>none
    |none=>bif Nat.blt f YB then some (.D (.E (.func f) first caps::vs),h)else none)
   |none=>none
  |_=>none
 |.v nx x=>match E_ loc env x with
  |some d=>ait h nx d
  |none=>none
 |.u=>none
def V6(loc:List V)(env:T V)(g:Option (H_×Bool)):Option Bool:=
 match g with
 |none=>some true
 |some (x,want)=>match E_ loc env x with
  |some (.h b)=>some (!(xor b want))
  | some (.D _) => some false -- the guard was passed over itself
  |_=>none
def dQ(call:aI)(l:List n_):List V->T V->a_->T6:=
 List.rec (motive:=fun _=>List V->T V->a_->T6) (fun _ env h=>.b .a env h)
  (fun s _ ih loc env h=>
   match V6 loc env s.c with
   |some true=>match aU call loc env h s.a with
    |some (v,h)=>fV v fun v=>match s.b with
     |none=>ih (v::loc) env h
     |some d=>ih loc (env.A_ d v) h
    |none=>.a
   |some false=>match s.b with
    |none=>ih (.D []::loc) env h
    |some d=>ih loc (env.A_ d (.D [])) h
   |none=>.a) l
def j_:Q8->Bool
 |.p _ _=>false
 |.a _ _ _=>false
 |.o _ _ _ _=>false
 |.j _=>false
 |_=>true
def jI(loc:List V)(env:T V)(o:Q8):Option (List V×Option (Nat×Nat)):=
 match o with
 |.c zero=>some (zero,none)
 |.r x=>match E_ loc env x with
  |some v=>some (v.s,none)
  |none=>none
 |.b zero places len xs=>match eg loc env xs with
  |some vs=>match dT (bq zero len) places vs with
   |some c=>some (c,some (len,len))
   |none=>none
  |none=>none
 |.g zero bytes x y=>match E_ loc env x with
  |some l=>match E_ loc env y with
   |some c=>match mkN bytes l c with
    |some (n,k)=>some (bq zero k,some (n,k))
    |none=>none
   |none=>none
  |none=>none
 |_=>none
def eM(id:Nat):Option (Nat×Nat)->V
 |some (n,k)=>.y id 0 n k
 |none=>.u id 0
def T2:V->Nat
 |.u b _=>b
 |.y b _ _ _=>b
 |_=>0
abbrev DS:=n_×Option (V×List V)
def fR(s:DS):Bool:=match s.2 with
 |some _=>false
 |none=>j_ s.1.a
def ww(call:aI)(loc:List V)(env:T V)(h:a_)(s:n_):V:=
 bif j_ s.a then .D []else match aU call loc env h s.a with
  |some (v,_)=>v
  |none=>.D []
def Q7(call:aI)(env:T V)(late:List Nat):List n_->Nat->List V->a_->Option (List DS×a_)
 |[],_,_,h=>some ([],h)
 |s::l,i,loc,h=>
  bif late.contains i then
   match jI loc env s.a with
   |some (c,k)=>match Q7 call env late l (i+1) (eM h.e k::loc) (h_ h c)with
    |some (r,h')=>some ((s,some (eM h.e k,c))::r,h')
    |none=>none
   |none=>none
  else
   match Q7 call env late l (i+1) (ww call loc env h s::loc) h with
   |some (r,h')=>some ((s,none)::r,h')
   |none=>none
def ce(loc:List V)(env:T V)(o:Q8)(u:V)(c:List V):Bool:=
 match jI loc env o with
 |some (c',k)=>nL c c'&&R1 u (eM (T2 u) k)
 |none=>false
def iY(call:aI)(env:T V)(l:List DS):List V->List a_->a_->Option (List V×List a_):=
 List.rec (motive:=fun _=>List V->List a_->a_->Option (List V×List a_)) (fun loc hs _=>some (loc,hs))
  (fun s _ ih loc hs h=>
   match s.2 with
   |some (u,c)=>bif ce loc env s.1.a u c then ih (u::loc) hs h else none
   |none=>
    match V6 loc env s.1.c with
    |some true=>match aU call loc env h s.1.a with
     |some (v,h')=>fV v fun v=>bif j_ s.1.a then ih (v::loc) (h'::hs) h' else ih (v::loc) hs h
     |none=>none
    |some false=>bif j_ s.1.a then ih (.D []::loc) (h::hs) h else ih (.D []::loc) hs h
    |none=>none) l
def gM(call:aI)(loc:List V)(env:T V)(o:Q8)(v:V):List a_->Bool
 |[]=>true
 |h::hs=>(match aU call loc env h o with
  |some (u,_)=>R1 u v
  |none=>false)&&gM call loc env o v hs
def nU(call:aI)(env:T V)(l:List n_)(loc:List V)(hs:List a_)(r:Nat×Nat×Nat):Bool:=
 match r with
 |(i,lo,hi)=>match l[i]?,loc.drop (l.length-i-1)with
  |some s,v::loc'=>(match V6 loc' env s.c with
   |some true=>gM call loc' env s.a v ((hs.reverse.drop lo).take (hi+1-lo))
   |_=>true)
  |_,_=>false
def jn(n:Nat)(loc:List V):List (Nat×Nat)->T V->Option (T V)
 |[],env=>some env
 |(s,i)::r,env=>match loc[n-i-1]? with
  |some v=>jn n loc r (env.A_ s v)
  |none=>none
def evD(call:aI)(l:List n_)(late:List Nat)(reads:List (Nat×Nat×Nat))(sets:List (Nat×Nat))(env:T V)(h0:a_):T6:=
 match Q7 call env late l 0 [] h0 with
 |none=>.a
 |some (dl,h)=>
 match iY call env dl [] [h] h with
 |some (loc,hs)=>bif reads.all (nU call env l loc hs)then
  (match jn l.length loc sets env,hs with
   |some env',h'::_=>.b .a env' h'
   |_,_=>.a)
  else .a
 |none=>.a
def W4(body:T V->a_->T6)(k:Nat):T V->a_->T6:=
 Nat.rec (motive:=fun _=>T V->a_->T6) body (fun _ ih env h=>match ih env h with
  |.b .a env h=>ih env h
  |r=>r) k
def iJ(call:aI)(e:Ex)(env:T V)(h:a_):T6:=
 match env.c_ U_ with
 |none=>.b e env h
 |some (.D (.E (.func f) first caps::args))=>(match call f (first++args++caps) h with
  |some (_,h)=>.b e env h
  |none=>.a)
 |_=>.a
def P1(call:aI)(c:IC):T V->a_->T6:=
 IC.rec (motive:=fun _=>T V->a_->T6)
  (fun env h=>.b .a env h)
  (fun l env h=>dQ call l [] env h)
  (fun _ _ a b env h=>match a env h with
   |.b .a env h=>b env h
   |r=>r)
  (fun x _ _ a b env h=>match E_ [] env x with
   |some (.h t)=>bif t then a env h else b env h
   |_=>.a)
  (fun id _ c env h=>match c env h with
   |.b (.c i) env h=>bif Nat.beq i id then .b .a env h else .b (.c i) env h
   |r=>r)
  (fun _ c env h=>match W4 c 48 env h with
   |.b .a _ _=>.a
   |r=>r)
  (fun id env h=>.b (.c id) env h)
  (fun env h=>.b .d env h)
  (fun _ l _ c r env h=>match c env h with
   |.b (.b i) env h=>bif Nat.beq i l then
    (match W4 (fun env h=>match r env h with
     |.b (.b i) env h=>bif Nat.beq i l then .b .a env h else .b (.b i) env h
     |.b .a env h=>.b (.b l) env h
     |r=>r) 48 env h with
     |.b .a _ _=>.a
     |.b (.b i) env h=>bif Nat.beq i l then .b .a env h else .a
     |r=>r)
    else .a
   |r=>r)
  (fun l env h=>.b (.b l) env h)
  (fun l late _ reads sets env h=>evD call l late reads sets env h)
  (fun _ _=>.a)
  (fun g ps as bd _ _ env h=>match E_ [] env g with
   |some (.E (.func f) first caps)=>bif Nat.blt f YB then
    (match call f (first++[.yld h.e]++caps) (V4 h (.d ps as bd env 0 none))with
     |some (_,h2)=>(match h2.S.c_ h.e with
      |some (.d _ _ _ _ st pend)=>bif Nat.beq st 1 then .a else .b (match pend with|some ex=>ex|none=>.a) env (Q6 h2 h.e .b)
      |_=>.a)
     |none=>.a)
    else .a
   |_=>.a)
  (fun _ c env h=>match c env h with
   |.b .a env h=>iJ call .a env h
   |.b .d env h=>iJ call .d env h
   |_=>.a) c
def AF:List Nat->List V->T V->T V
 |p::ps,v::vs,env=>AF ps vs (env.A_ p v)
 |_,_,env=>env
def evY(run:IC->T V->a_->T6)(b:Nat)(vs:List V)(h:a_):Option (V×a_):=
 match h.S.c_ b with
 |some (.d ps as bd env 0 none)=>bif Nat.beq vs.length ps.length then
  (match run as (AF ps vs env) h with
   |.b .a env1 h1=>(match h1.S.c_ b with
    |some (.d ps1 as1 bd1 en1 0 p1)=>(match run bd env1 (Q6 h1 b (.d ps1 as1 bd1 en1 1 p1))with
     |.b ex _ h2=>(match h2.S.c_ b with
      |some (.d ps2 as2 bd2 en2 _ _)=>(match ex with
       |.a=>some (.h true,Q6 h2 b (.d ps2 as2 bd2 en2 0 none))
       |ex=>some (.h false,Q6 h2 b (.d ps2 as2 bd2 en2 2 (some ex))))
      |_=>none)
     |.a=>none)
    |_=>none)
   |_=>none)
  else none
 |_=>none
inductive RV where
 |t (s:Nat)
 |c (s n:Nat) (ia:Bool)
structure i_ where
 b:Nat
 d:IC
 a:List RV
def vd:List n_->List Nat
 |[]=>[]
 |s::l=>match s.b with
  |some d=>d::vd l
  |none=>vd l
def vz:IC->List Nat
 |.n l=>vd l
 |.e a b|.d _ a b|.j a _ b=>vz a++vz b
 |.h _ a|.o a|.v a=>vz a
 |.i _ _ _ _ t=>t.map Prod.fst
 |.u _ p a b=>p++(vz a++vz b)
 |_=>[]
def i_.c(f:i_):List Nat:=List.range f.b++vz f.d
def evR(env:T V)(h:a_):RV->Option V
 |.t s=>env.c_ s
 |.c s n ia=>match env.c_ s with
  |some v=>jO h n ia v
  |none=>none
def fO(env:T V)(h:a_):List RV->Option (List V)
 |[]=>some []
 |r::rs=>match evR env h r with
  |some v=>match fO env h rs with
   |some vs=>some (v::vs)
   |none=>none
  |none=>none
def gR(vs:List V):Nat->T V->T V:=
 List.rec (motive:=fun _=>Nat->T V->T V) (fun _ en=>en) (fun v _ ih i en=>ih (Nat.succ i) (en.A_ i v)) vs
def k?(ov:aI)(F:T i_)(n:Nat):aI:=
 Nat.rec (motive:=fun _=>aI) (fun _ _ _=>none)
  (fun _ ih f vs h=>match F.c_ f with
   |some fn=>bif Nat.beq vs.length fn.b then
    (match P1 ih fn.d (gR vs 0 .e) h with
     |.b .a env h=>match fO env h fn.a with
      |some [v]=>fV v fun v=>some (v,h)
      |some vs=>some (.D vs,h)
      |none=>none
     |.b .d env h=>match fO env h fn.a with
      |some [v]=>fV v fun v=>some (v,h)
      |some vs=>some (.D vs,h)
      |none=>none
     |_=>none)
    else none
   |none=>bif Nat.ble YB f then evY (P1 ih) (f-YB) vs h else ov f vs h) n
inductive W? where
 |l (k:Nat)
 |v (s:Nat)
 |x (o:Operand)
 |a
abbrev Sg:=List (Nat×W?)
def fg:Sg->Nat->Option W?
 |[],_=>none
 |(d,s)::r,t=>if d=t then some s else fg r t
def uK:W?->W?
 |.l k=>.l (k+1)
 |s=>s
def E6:Sg->Sg
 |[]=>[]
 |(d,s)::r=>(d,uK s)::E6 r
def nO(d t:Nat):W?->W?
 |.v s=>if t=d\/s=d then .a else .v s
 |s=>if t=d then .a else s
def yP(d:Nat):Sg->Sg
 |[]=>[]
 |(t,s)::r=>(t,nO d t s)::yP d r
def rB(G:Nat):Operand->H_->Bool
 |.const x,.c v=>W5 v x
 |.global g,.g n=>Nat.beq g n&&Nat.blt g G
 |.func f,.c (.E (.func f') [] [])=>Nat.beq f f'
 |_,_=>false
def dk(G:Nat):W?->H_->Bool
 |.l k,.l j=>Nat.beq k j
 |.v s,.v t=>Nat.beq s t
 |.x o,y=>rB G o y
 |_,_=>false
structure Cx where
 G:Nat
 a:List Nat
 N:Nat
 b:Bool
def nt(C:Cx)(σ:Sg):Operand->H_->Bool
 |.tmp t,y=>match fg σ t with
  |some s=>dk C.G s y
  |none=>match y with
   |.v s=>Nat.beq s t&&C.a.contains t
   |_=>false
 |o,y=>rB C.G o y
def cE(C:Cx)(σ:Sg):List Operand->List H_->Bool
 |[],[]=>true
 |o::os,y::ys=>nt C σ o y&&cE C σ os ys
 |_,_=>false
def cM(P:Program)(C:Cx)(σ:Sg)(o:Oper):Q8->Bool
 |.p k xs=>bL P o.op k&&cE C σ o.op.operands.toList xs
 |.a n ia x=>yu P o.op n ia&&cE C σ o.op.operands.toList [x]
 |.h n x y=>uB P o.op n&&cE C σ o.op.operands.toList [x,y]
 |.c zero=>pQ P o.op zero
 |.r x=>yx o.op&&cE C σ o.op.operands.toList [x]
 |.b zero places len xs=>mN P o.op zero places len&&cE C σ o.op.operands.toList xs
 |.g zero bytes x y=>pP P o.op zero bytes&&cE C σ o.op.operands.toList [x,y]
 |.i esz bytes x y=>yy P o.op esz bytes&&cE C σ o.op.operands.toList [x,y]
 |.q esz x y=>yw P o.op esz&&cE C σ o.op.operands.toList [x,y]
 |.d f xs=>match o.op with
  |.call {callee:=.value (.func f'),args, .. }=>Nat.beq f f'&&cE C σ args.toList xs&&Nat.blt f YB
  |_=>false
 |.e x xs=>match o.op with
  |.call {callee:=.value y,args, .. }=>nt C σ y x&&cE C σ args.toList xs
  |_=>false
 |.s xs=>IF P o.op&&cE C σ o.op.operands.toList xs
 |.o ks zero ok xs=>IG P o.op ks zero ok&&cE C σ o.op.operands.toList xs
 |.z ks xs=>ID P o.op ks&&cE C σ o.op.operands.toList xs
 |.l zero x=>BS P o.op zero&&cE C σ o.op.operands.toList [x]
 |.j x=>BT P o.op&&cE C σ o.op.operands.toList [x]
 |.A _ _=>false
 |.v nx x=>IH P o.op nx&&cE C σ o.op.operands.toList [x]
 |.u=>true
def LP:Op->Bool
 |.defer _=>false
 |_=>true
def nJ(P:Program)(C:Cx)(σ:Sg)(o:Oper)(i:Q8):Bool:=LP o.op&&cM P C σ o i
def Mb(C:Cx)(σ:Sg)(o:Oper)(s:n_):Bool:=
 C.b&&(match s.b with|some d=>Nat.beq d U_|none=>false)&&(match o.dst with|none=>true|some _=>false)&&(match o.guard,s.c with|none,none=>true|_,_=>false)&&
 (match s.a with
  |.A x xs=>(match o.op with
   |.defer {callee:=.value y,args, .. }=>nt C σ y x&&cE C σ args.toList xs
   |_=>false)
  |_=>false)
def E4(C:Cx)(σ:Sg)(ops:Array Oper)(g:Option (Nat×Bool))(s:Option (H_×Bool)):Bool:=
 match g,s with
 |none,none=>true
 |some (j,want),some (x,want')=>(want==want')&&(match(ops[j]?).bind (·.dst)with
  |some d=>Nat.blt d C.N&&nt C σ (.tmp d) x
  |none=>false)
 |_,_=>false
def As(C:Cx)(d:Option Nat)(s:Option Nat):Bool:=
 match d,s with
 |none,none=>true
 |some d,none=> !C.a.contains d&&Nat.blt d C.N
 |some d,some e=>Nat.beq d e&&C.a.contains d&&Nat.blt d C.N
 |none,some _=>false
def AN(σ:Sg)(d:Option Nat)(s:Option Nat):Sg:=
 match d,s with
 |none,_=>E6 σ
 |some d,none=>(d,.l 0)::E6 σ
 |some d,some _=>yP d σ
def yD(C:Cx)(σ:Sg)(ops:Array Oper)(o:Oper):Option (Nat×W?):=
 match o.op,o.guard,o.dst with
 |.move x,none,some d=>
  if !C.a.contains d&&Nat.blt d C.N then
   match x with
   |.tmp t=>
    match fg σ t with
    |some (.v s)=>if ops.any (fun p=>p.dst==some s)then none else some (d,.v s)
    |some s=>some (d,s)
    |none=>if C.a.contains t&& !ops.any (fun p=>p.dst==some t)then some (d,.v t)else none
   |x=>some (d,.x x)
  else none
 |_,_,_=>none
def Dd(σ:Sg):Sg:=yP U_ σ
def iO(P:Program)(C:Cx)(ops:Array Oper):List Oper->List n_->Sg->Bool
 |[],[],_=>true
 |[],_::_,_=>false
 |o::os,steps,σ=>
  match yD C σ ops o with
  |some p=>iO P C ops os steps (p::σ)
  |none=>match steps with
   |[]=>false
   |s::rest=>E4 C σ ops o.guard s.c&&nJ P C σ o s.a&&As C o.dst s.b&&iO P C ops os rest (AN σ o.dst s.b)||(Mb C σ o s&&iO P C ops os rest (Dd σ))
def V1(K:LG->Prop)(G:Nat)(m:M):Prop:=(∀g,g<G->∃r,m g=some ⟨g,0,r,none⟩)/\∀p loc g,m p=some loc->loc.d=some g->K g
theorem V1.a{K:LG->Prop}{G:Nat}{m m':M}{h h':a_}{w w':World}(a:V1 K G m)(E:P5 m h w m' h' w'):V1 K G m':=
 ⟨fun g hg=>let⟨r,hr⟩:=a.1 g hg;⟨r,E.j _ _ hr⟩,fun p loc g hp hl=>by
  cases h0:m p with
  |some l0=>have:=E.j _ _ h0;rw[hp]at this;cases this;exact a.2 p loc g h0 hl
  |none=>rw[E.r p loc hp h0]at hl;cases hl⟩
variable {K : LG -> Prop}
def Inv(G:Nat)(m:M)(loc:List V)(env:T V)(a:Act)(σ:Sg):Prop:=
 ∀t s,fg σ t=some s->∀y v,dk G s y=true->E_ loc env y=some v->l_ m v (a.tmps.getD t undef)
def T3(C:Cx)(m:M)(env:T V)(a:Act):Prop:=
 a.tmps.size=C.N/\(∀s v,env.c_ s=some v->s=U_\/(C.a.contains s=true/\l_ m v (a.tmps.getD s undef)))/\C.a.contains U_=false
theorem T3.var{C:Cx}{m:M}{env:T V}{a:Act}(Z:T3 C m env a){s:Nat}{v:V}(hc:C.a.contains s=true)(e:env.c_ s=some v):l_ m v (a.tmps.getD s undef):=by obtain q|q:=Z.2.1 s v e;rw[q,Z.2.2]at hc;cases hc;exact q.2
theorem qF{G:Nat}{m:M}{o:Operand}{y:H_}{Z:List V}{env:T V}{v:V}{a:Act}(hG:V1 K G m)(h:rB G o y=true)(e:E_ Z env y=some v):l_ m v (a.eval o):=by unfold rB at h;split at h;cases e;exact xx m _ _ h;cases e;simp only[VY,WB]at h;have:=Wb h.1;subst this;let⟨r,hr⟩:=hG.1 _ h.2;exact⟨_,hr,rfl⟩;cases e;have:=Wb h;subst this;exact⟨[],[],rfl,rfl,rfl⟩;cases h
theorem iq{C:Cx}{m:M}{σ:Sg}{o:Operand}{y:H_}{Z:List V}{env:T V}{v:V}{a:Act}(hG:V1 K C.G m)(hI:Inv C.G m Z env a σ)(hE:T3 C m env a)
 (h:nt C σ o y=true) (e:E_ Z env y=some v):l_ m v (a.eval o):=by
 unfold nt at h;split at h;rename_i t;split at h;rename_i s hs;exact hI t s hs y v h e;split at h;rename_i s;simp only[VY]at h;have:=Wb h.1;subst this;exact hE.var h.2 e;cases h;exact qF hG h e
theorem qE(Z:List V)(env:T V)(x:H_)(K:List H_):eg Z env (x::K)=match E_ Z env x with
 |some v=>(match eg Z env K with|some vs=>some (v::vs)|none=>none)
 |none=>none:=by
 show Option.rec (motive:=fun _=>Option (List V)) none (fun v=>Option.rec (motive:=fun _=>Option (List V)) none (fun vs=>some (v::vs)) (eg Z env K)) (E_ Z env x)=_;cases E_ Z env x with
 |none=>rfl
 |some v=>cases eg Z env K<;>rfl
def FP(C:Cx)(m:M)(σ:Sg)(loc:List V)(env:T V)(a:Act):Prop:=∀(o:Operand)(y:H_)(v:V),nt C σ o y=true->E_ loc env y=some v->l_ m v (a.eval o)
theorem bK{C:Cx}{m:M}{σ:Sg}{loc:List V}{env:T V}{a:Act}(hO:FP C m σ loc env a):
 ∀(os:List Operand)(ys:List H_)(vs:List V),cE C σ os ys=true->eg loc env ys=some vs->f_ m vs (os.map a.eval)
 |[],[],vs,_,e=>by cases e;rfl
 |[],_::_,_,h,_=>by simp[cE]at h
 |_::_,[],_,h,_=>by simp[cE]at h
 |o::os,y::ys,vs,h,e=>by
  simp[cE]at h;rw[qE]at e;cases h1:E_ loc env y with
  |none=>rw[h1]at e;cases e
  |some v=>
   rw[h1]at e;cases h2:eg loc env ys with
   |none=>rw[h2]at e;cases e
   |some ws=>rw[h2]at e;cases e;exact⟨_,_,rfl,hO _ _ _ h.1 h1,bK hO os ys ws h.2 h2⟩
theorem uh{Z:List V}{env:T V}{x:H_}{v:V}(h:E_ Z env x=some v):eg Z env [x]=some [v]:=by rw[qE,h];rfl
theorem Ak{Z:List V}{env:T V}{x y:H_}{v u:V}(h:E_ Z env x=some v)(k:E_ Z env y=some u):eg Z env [x,y]=some [v,u]:=by rw[qE,h,uh k]
def ng(m:M)(h:a_)(w:World)(v:V)(h':a_):Ending->World->Prop:=fun e w'=>∃x m',e=.returned x/\l_ m' v x/\r_ m' h' w'/\P5 m h w m' h' w'
abbrev FR(ro:Option Nat):Fence:={Fence.wide with round:=ro}
def eR(P:Program)(K:LG->Prop)(G:Nat)(call:aI):Prop:=∀f vs h v h',call f vs h=some (v,h')->
 (f<YB->(∃fn,P.funcs[f]? =some fn/\fn.body.isSome=true/\(fn.name== "runtime.NumGoroutine")=false)/\
  ∀m w (args:List Value),f_ m vs args->r_ m h w->V1 K G m->
   Calls P f (List.toArray args) w (ng m h w v h')/\∀u,CallsDIn Fence.wide 0 P f (List.toArray args) u w (fun e u' w'=>u'=u/\ng m h w v h' e w'))/\
 (YB<=f->∀m w (args:List Value) loc,m (f-YB)=some loc->f_ m vs args->r_ m h w->V1 K G m->
  ∃r:Loop,w.heap[loc.a]? =some (.loop r)/\args.length=r.params.size/\
   RoundIn Fence.wide 0 P loc.a r.fn ((r.params.zip (List.toArray args)).foldl (fun tmps (t,a)=>tmps.setIfInBounds t a) r.tmps) r.assign r.body w (ng m h w v h'))
theorem gV{P:Program}{w:World}{f:FuncId}{Z:Array Value}(h:∃fn,P.funcs[f]? =some fn/\fn.body.isSome=true/\(fn.name== "runtime.NumGoroutine")=false):
 (callFunc f Z).run P w=.ok (.enter f Z) w:=by
 let⟨fn,hf,hb,hn⟩:=h;have K:fn.body.isNone=false:=by cases hh:fn.body<;>simp_all
 simp only[callFunc,Wm,run_program,Wd,hf,hn,K,WE,if_false,Wx]
theorem tH{P:Program}{C:Cx}{call:aI}(ak:eR P K C.G call){m:M}{h h':a_}{w:World}{σ:Sg}{af:List V}{env:T V}{a:Act}{o:Oper}{i:Q8}{v:V}
 (hG:V1 K C.G m) (hO:FP C m σ af env a) (H:r_ m h w) (hc:nJ P C σ o i=true) (e:aU call af env h i=some (v,h')) {K0:Act->World->Prop} {Q:Exit->Act->World->Prop}
 (hK:∀x w' m',l_ m' v x->r_ m' h' w'->P5 m h w m' h' w'->K0 (a.put o.dst x) w') {ro:Option Nat}:o.wpIn (FR ro) 0 P a w K0 Q:=by
 unfold nJ at hc;simp at hc;obtain⟨aH,hc⟩:=hc;have an:o.semAt ro a.eval=execOp a.eval o:=Oper.semAt_eq ro a.eval o (fun c hcc=>by rw[hcc]at aH;cases aH);have fin:MS P m h w o a.eval v h'->o.wpIn (FR ro) 0 P a w K0 Q:=by rintro⟨x,w',m',hg,r,H',E'⟩;refine⟨fun _ _=>trivial,?_⟩;show o.uponIn (FR ro) 0 P a K0 Q ((o.semAt ro a.eval).run P w);rw[an];obtain hg|⟨hg,rfl⟩:=hg;rw[hg];exact hK x w' m' r H' E';rw[hg];exact hK undef w' m' r H' E'
 have ae:∀{f:Nat}{Z:List Value},(execOp a.eval o).run P w=.ok (.enter f (List.toArray Z)) w->Calls P f (List.toArray Z) w (ng m h w v h')->o.wpIn (FR ro) 0 P a w K0 Q:=by intro f Z hr ar;refine⟨fun _ _=>trivial,?_⟩;show o.uponIn (FR ro) 0 P a K0 Q ((o.semAt ro a.eval).run P w);rw[an,hr];have az:CallsIn Fence.wide 0 P f (List.toArray Z) w (ng m h w v h'):=callsIn_wide.2 ar;refine⟨fun q=>absurd q (by simp[Fence.wide]),CallsIn.mono (F:=FR ro) (n:=0) az ?_⟩;rintro en w' ⟨x,m',rfl,r,H',E'⟩;exact hK x w' m' r H' E'
 have one:∀x u,cE C σ o.op.operands.toList [x]=true->E_ af env x=some u->f_ m [u] (OV a.eval o.op):=fun x u h1 h2=>bK hO _ _ _ h1 (uh h2);have two:∀x y u t,cE C σ o.op.operands.toList [x,y]=true->E_ af env x=some u->E_ af env y=some t->f_ m [u,t] (OV a.eval o.op):=fun x y u t h1 h2 h3=>bK hO _ _ _ h1 (Ak h2 h3);unfold aU at e;split at e;rename_i k xs;simp[cM]at hc;split at e;rename_i vs ac;split at e;rename_i u hu;cases e;exact fin (Js H (IV hc.1 (bK hO _ _ _ hc.2 ac) hu));cases e;cases e;rename_i n ia x;simp[cM]at hc;split at e;rename_i u hu;split at e;rename_i t ht;cases e;obtain⟨x,r,hr⟩:=AL (P:=P) H hc.1 (one _ _ hc.2 hu) ht;exact fin ⟨x,w,m,.inl hr,r,H,Yo _ _ _⟩;cases e;cases e;rename_i n x y;simp[cM]at hc;split at e;rename_i p hp;split at e;rename_i u hu;split at e;rename_i h2 aN;cases e;exact fin (yC H hc.1 (two _ _ _ _ hc.2 hp hu) aN);cases e;cases e;cases e;cases e;simp[cM]at hc;exact fin (yF H hc);simp[cM]at hc;split at e;rename_i u hu;cases e;exact fin (B4 H hc.1 (one _ _ hc.2 hu));cases e;simp[cM]at hc;split at e;rename_i vs ac;exact fin (vi H hc.1 (bK hO _ _ _ hc.2 ac) e);cases e;simp[cM]at hc;split at e;rename_i p hp;split at e;rename_i u hu;exact fin (AK H hc.1 (two _ _ _ _ hc.2 hp hu) e);cases e;cases e;simp[cM]at hc;split at e;rename_i p hp;split at e;rename_i u hu;exact fin (B6 H hc.1 (two _ _ _ _ hc.2 hp hu) e);cases e;cases e;simp[cM]at hc;split at e;rename_i p hp;split at e;rename_i u hu;exact fin (AO H hc.1 (two _ _ _ _ hc.2 hp hu) e);cases e;cases e;rename_i f xs;simp[cM]at hc;split at hc;rename_i f' Z ts hy;simp only[VY,WB]at hc;have:=Wb hc.1.1;subst this;split at e;rename_i vs ac;have hv:=bK hO _ _ _ hc.1.2 ac;obtain⟨hf,ar⟩:=(ak f vs h v h' e).1 hc.2;have hr:(execOp a.eval o).run P w=.ok (.enter f (List.toArray (Z.toList.map a.eval))) w:=by have q:Z.map a.eval=List.toArray (Z.toList.map a.eval):=ZN iS;simp only[execOp,hy,resolve,Act.eval,Deferred.ofValue,Wm,Wx,Wd,invoke];rw[show((#[]:Array Value)++Z.map a.eval++(#[]:Array Value))=List.toArray (Z.toList.map a.eval) by simp[q]];exact gV hf
 exact ae hr (ar m w _ hv H hG).1;cases e;cases hc;rename_i x xs;simp[cM]at hc;split at hc;rename_i y Z ts hy;simp at hc;split at e;rename_i f first a1 hx
 split at e;rename_i vs ac;have hv:=bK hO _ _ _ hc.2 ac;have aR:=hO _ _ _ hc.1 hx;let⟨f',c',ax,rf,rc⟩:=aR;cases ay:Nat.blt f YB;grind;rw[ay]at e;simp only[cond_true]at e;let⟨hf,ar⟩:=(ak f _ h v h' e).1 ((WB ..).mp ay);have hr:(execOp a.eval o).run P w=.ok (.enter f (List.toArray (f'++Z.toList.map a.eval++c'))) w:=by have q:Z.map a.eval=List.toArray (Z.toList.map a.eval):=ZN iS;simp only[execOp,hy,resolve,ax,Deferred.ofValue,Wm,Wx,Wd,invoke];rw[show(List.toArray f'++Z.map a.eval++List.toArray c')=List.toArray (f'++Z.toList.map a.eval++c') by simp];exact gV hf
 exact ae hr (ar m w _ (Yn (Yn rf hv) rc) H hG).1;cases e;rename_i b hx;split at e;rename_i vs ac;have hv:=bK hO _ _ _ hc.2 ac;let⟨af,hm,ax⟩:=hO _ _ _ hc.1 hx;let⟨r,aT,aJ,a0⟩:=(ak _ vs h v h' e).2 (Nat.le_add_right _ _) m w _ af (by rw[Zh];exact hm) hv H hG;refine⟨fun _ _=>trivial,?_⟩;show o.uponIn (FR ro) 0 P a K0 Q ((o.semAt ro a.eval).run P w);rw[an];have hr:(execOp a.eval o).run P w=.ok (.round af.a r.fn ((r.params.zip (List.toArray (Z.toList.map a.eval))).foldl (fun tmps (t,a)=>tmps.setIfInBounds t a) r.tmps) r.assign r.body) w:=by have q:Z.map a.eval=List.toArray (Z.toList.map a.eval):=ZN iS;simp only[execOp,hy,resolve,ax,Deferred.ofValue,Wm,Wx,Wd,invoke];rw[show((#[]:Array Value)++Z.map a.eval)=List.toArray (Z.toList.map a.eval) by simp[q]];exact run_yield aT (eV aJ)
 rw[hr];refine⟨fun q=>absurd q (by simp[Fence.wide]),RoundIn.mono a0 ?_⟩;rintro en w' ⟨x,m',rfl,r,H',E'⟩;exact hK x w' m' r H' E';cases e;cases e;cases hc;simp[cM]at hc;split at e;rename_i vs ac;exact fin (Fo H hc.1 (bK hO _ _ _ hc.2 ac) e);cases e;simp[cM]at hc;split at e;rename_i x key ac;split at e;rename_i u hu;cases e;exact fin (Fq H hc.1 (bK hO _ _ _ hc.2 ac) hu);cases e;cases e;simp[cM]at hc;split at e;rename_i x key val ac;exact fin (Fi H hc.1 (bK hO _ _ _ hc.2 ac) e);cases e;simp[cM]at hc;split at e;rename_i d hd;exact fin (B1 H hc.1 (one _ _ hc.2 hd) e);cases e;simp[cM]at hc;split at e;rename_i d hd;split at e;rename_i u hu;cases e;exact fin (B5 H hc.1 (one _ _ hc.2 hd) hu);cases e;cases e;simp[cM]at hc;simp[cM]at hc;split at e;rename_i d hd;exact fin (Fs H hc.1 (one _ _ hc.2 hd) e);cases e;cases e
variable {K : LG -> Prop}
theorem Et(σ:Sg)(t:Nat):fg (E6 σ) t=(fg σ t).map uK:=by
 induction σ with
 |nil=>rfl
 |cons p r ih=>let⟨d,s⟩:=p;simp[E6,fg];by_cases h:d=t;grind;grind
theorem tM(d:Nat)(σ:Sg)(t:Nat):fg (yP d σ) t=(fg σ t).map (nO d t):=by
 induction σ with
 |nil=>rfl
 |cons p r ih=>let⟨e,s⟩:=p;simp[yP,fg];by_cases h:e=t;grind;grind
theorem fM(a:Act)(d:Nat)(x:Value)(t:Nat)(Z:d<a.tmps.size):(a.put (some d) x).tmps.getD t undef=if t=d then x else a.tmps.getD t undef:=by simp[Act.put];by_cases h:t=d;grind;grind
theorem pc(a:Act)(d:Option Nat)(x:Value):(a.put d x).tmps.size=a.tmps.size:=by cases d<;>simp[Act.put]
theorem Ip{G:Nat}{s:W?}{y:H_}{Z:List V}{env:T V}{u v:V}(h:dk G (uK s) y=true)(e:E_ (u::Z) env y=some v):
 ∃y',dk G s y'=true/\E_ Z env y'=some v:=by
 cases s with
 |l k=>
  simp[uK]at h;cases y with
  |l j=>simp only[dk]at h;have:=Wb h;subst this;exact⟨.l k,by simp[dk],e⟩
  |_=>simp[dk]at h
 |v s=>refine⟨y,h,?_⟩;simp[uK]at h;cases y<;>simp[dk]at h;exact e
 |x o=>
  refine⟨y,h,?_⟩;simp[uK,dk]at h;cases y with
  |l k=>cases o<;>simp[rB]at h
  |v s=>cases o<;>simp[rB]at h
  |c x=>exact e
  |g n=>exact e
 |a=>simp[uK,dk]at h
theorem wC{G:Nat}{d t:Nat}{s:W?}{y:H_}{Z:List V}{env:T V}{u v:V}(h:dk G (nO d t s) y=true)(e:E_ Z (env.A_ d u) y=some v):
 t≠d/\dk G s y=true/\E_ Z env y=some v:=by
 cases s with
 |l k=>simp[nO]at h;by_cases c:t=d;rw[if_pos c]at h;simp[dk]at h;rw[if_neg c]at h;refine⟨c,h,?_⟩;cases y<;>simp[dk]at h;exact e
 |v s=>simp[nO]at h;by_cases c:t=d\/s=d;rw[if_pos c]at h;simp[dk]at h;rw[if_neg c]at h;refine⟨fun q=>c (.inl q),h,?_⟩;cases y<;>simp[dk]at h;subst h;show env.c_ s=some v;rw[<-We env u (fun q=>c (.inr q))];exact e
 |x o=>
  simp[nO]at h;by_cases c:t=d;rw[if_pos c]at h;simp[dk]at h;rw[if_neg c]at h;refine⟨c,h,?_⟩;simp[dk]at h;cases y with
  |l k=>cases o<;>simp[rB]at h
  |v s=>cases o<;>simp[rB]at h
  |c x=>exact e
  |g n=>exact e
 |a=>simp only[nO]at h;by_cases c:t=d<;>simp[dk]at h
def kS(loc:List V)(v:V):Option Nat->List V
 |none=>v::loc
 |some _=>loc
def iH(env:T V)(v:V):Option Nat->T V
 |none=>env
 |some d=>env.A_ d v
theorem rO{C:Cx}{m m':M}(af:Le m m'){ak:List V}{env:T V}{a:Act}{σ:Sg}(hI:Inv C.G m ak env a σ)(K:T3 C m env a){d s:Option Nat}(hd:As C d s=true)
 {v:V} {x:Value} (r:l_ m' v x):Inv C.G m' (kS ak v s) (iH env v s) (a.put d x) (AN σ d s)/\T3 C m' (iH env v s) (a.put d x):=by
 have ae:∀t s',fg (E6 σ) t=some s'->∀y u,dk C.G s' y=true->E_ (v::ak) env y=some u->l_ m' u (a.tmps.getD t undef):=by
  intro t s' Z y u hy he;rw[Et]at Z;cases hl:fg σ t with
  |none=>rw[hl]at Z;cases Z
  |some s0=>rw[hl]at Z;cases Z;let⟨y',h1,h2⟩:=Ip hy he;exact Xt af _ _ (hI t s0 hl y' u h1 h2)
 unfold As at hd;split at hd;refine⟨ae,K.1,fun s u Z=>(K.2.1 s u Z).imp id fun q=>⟨q.1,Xt af _ _ q.2⟩,K.2.2⟩;rename_i d;simp only[VY,XB,WB]at hd;have ac:d<a.tmps.size:=by rw[K.1];exact hd.2
 refine⟨?_,by rw[pc];exact K.1,fun s u Z=>?_,K.2.2⟩;intro t s' Z y u hy he;simp[AN,fg]at Z;rw[fM a d x t ac];by_cases c:d=t;rw[if_pos c]at Z;cases Z;rw[if_pos c.symm];cases y<;>simp[dk]at hy;subst hy;cases he;exact r
 rw[if_neg c]at Z;rw[if_neg (XK c)];exact ae t s' Z y u hy he;obtain q|⟨h1,h2⟩:=K.2.1 s u Z;exact .inl q;refine .inr ⟨h1,?_⟩;rw[fM a d x s ac,if_neg (by intro q;subst q;rw[h1]at hd;simp at hd)];exact Xt af _ _ h2;rename_i d e;simp only[VY,WB]at hd;have:=Wb hd.1.1;subst this;have ac:d<a.tmps.size:=by rw[K.1];exact hd.2
 refine⟨?_,by rw[pc];exact K.1,fun s u Z=>?_,K.2.2⟩;intro t s' Z y u hy he;simp[AN]at Z;rw[tM]at Z;cases hl:fg σ t with
 |none=>rw[hl]at Z;cases Z
 |some s0=>rw[hl]at Z;cases Z;let⟨an,h1,h2⟩:=wC hy he;rw[fM a d x t ac,if_neg an];exact Xt af _ _ (hI t s0 hl y u h1 h2)
 simp[iH]at Z;rw[Xr]at Z;rw[fM a d x s ac];by_cases c:s=d;grind;rw[if_neg c]at Z;rw[if_neg c];exact(K.2.1 s u Z).imp id fun q=>⟨q.1,Xt af _ _ q.2⟩;cases hd
theorem Aa{C:Cx}{m:M}{ae:List V}{env:T V}{a:Act}{σ:Sg}{ops:Array Oper}(hG:V1 K C.G m)(hI:Inv C.G m ae env a σ)(hE:T3 C m env a){o:Oper}{s:Option (H_×Bool)}
 (hc:E4 C σ ops o.guard s=true) {b:Bool} (e:V6 ae env s=some b):Region.wanted o (yielded ops a.tmps)=b:=by
 unfold Region.wanted;unfold E4 at hc;split at hc;rename_i hg;rw[hg];cases e;rfl;rename_i j ac x af hg;rw[hg];simp at hc;obtain⟨rfl,hc⟩:=hc;split at hc;rename_i d hd;simp at hc;unfold V6 at e;simp at e;split at e;rename_i c hx;cases e;have hr:=iq hG hI hE hc.2 hx;simp only[l_,Act.eval]at hr;have Z:d<a.tmps.size:=by rw[hE.1];exact hc.1
 have:a.tmps[d]? =some (.bool c):=by rw[WJ,Wz Z]at hr;rw[Wz Z];simpa using hr
 simp only[yielded,hd,WN,this];cases c<;>cases ac<;>rfl
 rename_i c hx;cases e;have hr:=iq hG hI hE hc.2 hx;simp only[l_,Act.eval]at hr;let⟨c',hr,_⟩:=hr;have Z:d<a.tmps.size:=by rw[hE.1];exact hc.1
 have:a.tmps[d]? =some (.tuple c'.toArray):=by rw[WJ,Wz Z]at hr;rw[Wz Z];simpa using hr
 simp only[yielded,hd,WN,this];cases ac<;>rfl
 cases e;cases hc;cases hc
theorem AM{C:Cx}{m:M}{ac:List V}{env:T V}{a:Act}{σ:Sg}{ops:Array Oper}(hG:V1 K C.G m)(hI:Inv C.G m ac env a σ)(hE:T3 C m env a){o:Oper}{p:Nat×W?}
 (h:yD C σ ops o=some p):∃x,o.op=.move x/\o.guard=none/\o.dst=some p.1/\Inv C.G m ac env (a.put o.dst (a.eval x)) (p::σ)/\T3 C m env (a.put o.dst (a.eval x)):=by
 unfold yD at h;split at h;rename_i x d an ae Z;split at h;rename_i ar;simp only[VY,XB,WB]at ar;have ax:d<a.tmps.size:=by rw[hE.1];exact ar.2
 have af:T3 C m env (a.put (some d) (a.eval x)):=by refine⟨by rw[pc];exact hE.1,fun s u hs=>?_,hE.2.2⟩;obtain q|⟨h1,h2⟩:=hE.2.1 s u hs;exact .inl q;refine .inr ⟨h1,?_⟩;rw[fM a d _ s ax,if_neg (by intro q;subst q;rw[h1]at ar;simp at ar)];exact h2
 have ak:∀s0:W?,(∀y v,dk C.G s0 y=true->E_ ac env y=some v->l_ m v (a.eval x))->Inv C.G m ac env (a.put (some d) (a.eval x)) ((d,s0)::σ):=by intro s0 hs0 t s' hs y u hy he;simp[fg]at hs;rw[fM a d _ t ax];by_cases c:d=t;grind;rw[if_neg c]at hs;rw[if_neg (XK c)];exact hI t s' hs y u hy he
 split at h;rename_i t;split at h;rename_i s hl;split at h;cases h;cases h;exact⟨_,an,ae,Z,by rw[Z];exact ak _ (fun y v hy he=>hI t _ hl y v hy he),by rw[Z];exact af⟩;rename_i s hl;cases h;exact⟨_,an,ae,Z,by rw[Z];exact ak _ (fun y v hy he=>hI t _ hl y v hy he),by rw[Z];exact af⟩;rename_i hl;split at h;cases h;have key:∀y v,dk C.G (.v t) y=true->E_ ac env y=some v->l_ m v (a.eval (.tmp t)):=by intro y v hy he;cases y<;>simp[dk]at hy;subst hy;rename_i ay;simp only[VY]at ay;exact hE.var ay.1 he
 exact⟨_,an,ae,Z,by rw[Z];exact ak _ key,by rw[Z];exact af⟩;cases h;cases h;exact⟨_,an,ae,Z,by rw[Z];exact ak _ (fun y v hy he=>qF hG hy he),by rw[Z];exact af⟩;cases h;cases h
theorem j3(a:Act)(d:Option Nat)(x:Value):(a.put d x).defers=a.defers:=by cases d<;>rfl
theorem cT(call:aI)(s:n_)(l:List n_)(Z:List V)(env:T V)(h:a_):dQ call (s::l) Z env h=
 match V6 Z env s.c with
  |some true=>(match aU call Z env h s.a with
   |some (v,h)=>dQ call l (kS Z v s.b) (iH env v s.b) h
   |none=>.a)
  |some false=>dQ call l (kS Z (.D []) s.b) (iH env (.D []) s.b) h
  |none=>.a:=by
 show(match V6 Z env s.c with
  |some true=>(match aU call Z env h s.a with
   |some (v,h)=>fV v fun v=>(match s.b with
    |none=>dQ call l (v::Z) env h
    |some d=>dQ call l Z (env.A_ d v) h)
   |none=>.a)
  |some false=>(match s.b with
   |none=>dQ call l (.D []::Z) env h
   |some d=>dQ call l Z (env.A_ d (.D [])) h)
  |none=>.a)=_
 cases V6 Z env s.c with
 |none=>rfl
 |some b=>
  cases b;cases s.b<;>rfl
  simp;cases aU call Z env h s.a with
  |none=>rfl
  |some p=>let⟨v,K⟩:=p;simp[Ai];cases s.b<;>rfl
def DefR(m:M)(v:V)(d:Deferred):Prop:=∃f first caps args A C',v=.D (.E (.func f) first caps::args)/\f<YB/\
 d={target:=.fn (.func f) (List.toArray C'),args:=List.toArray A}/\f_ m (first++args) A/\f_ m caps C'
def X9(C:Cx)(B:Nat)(m:M)(w:World)(env:T V)(ds:List Deferred):Prop:=
 match C.b,env.c_ U_ with
 |true,some v=>∃d1 d d2,ds=d1++d::d2/\DefR m v d/\R9 B m w (d1++d2)
 |_,_=>R9 B m w ds
theorem DefR.mono{m m':M}(l:Le m m'){v:V}{d:Deferred}:DefR m v d->DefR m' v d
 |⟨f,first,caps,args,A,C',h1,h2,h3,h4,h5⟩=>⟨f,first,caps,args,A,C',h1,h2,h3,f_.mono l _ _ h4,f_.mono l _ _ h5⟩
theorem X9.ext{C:Cx}{B:Nat}{m m':M}{h K:a_}{w w':World}(E:P5 m h w m' K w'){env:T V}{ds:List Deferred}(D:X9 C B m w env ds):X9 C B m' w' env ds:=by unfold X9 at *;split;rename_i v h1 h2;rw[h1,h2]at D;let⟨d1,d,Z,q1,q2,q3⟩:=D;exact⟨d1,d,Z,q1,q2.mono E.j,q3.ext E⟩;rename_i hn;split at D;grind;exact R9.ext E D
theorem X9.congr{C:Cx}{B:Nat}{m:M}{w:World}{env Z:T V}{ds:List Deferred}(e:Z.c_ U_=env.c_ U_)(D:X9 C B m w env ds):X9 C B m w Z ds:=by unfold X9 at *;rw[e];exact D
theorem X9.push{C:Cx}{B:Nat}{m:M}{w:World}{env:T V}{ds:List Deferred}(D:X9 C B m w env ds){r:Nat}(h1:B<=r)(h2:w.heap[r]? =some (.deferred (some [])))(h3:Off m r)(h4:∀d∈ds,d.target≠.collected r):
 X9 C B m w env ({target:=.collected r,args:= #[]}::ds):=by
 unfold X9 at *;split;rename_i v e1 e2;rw[e1,e2]at D;let⟨d1,d,K,q1,q2,q3⟩:=D;refine⟨{target:=.collected r,args:= #[]}::d1,d,K,by rw[q1];rfl,q2,⟨r,rfl,h1,h2,h3,fun d' Z=>h4 d' ?_⟩,q3⟩;rw[q1];have Z:d'∈d1++K:=Z;rw[Wa]at Z;rw[Wa,Wt];obtain q|q:=Z;exact .inl q;exact .inr (.inr q);rename_i hn;split at D;grind;exact⟨⟨r,rfl,h1,h2,h3,h4⟩,D⟩
theorem Au{C:Cx}{m:M}{env:T V}{a:Act}(K:T3 C m env a){d s:Option Nat}(Z:As C d s=true)(v:V):(iH env v s).c_ U_=env.c_ U_:=by
 cases s with
 |none=>rfl
 |some t=>
  cases d with
  |none=>cases Z
  |some d=>simp only[As,VY]at Z;have:=Wb Z.1.1;subst this;simp[iH];rw[We];intro q;rw[<-q,K.2.2]at Z;simp at Z
theorem yW{P:Program}{C:Cx}{call:aI}(hcall:eR P K C.G call){ops:Array Oper}{Q:Exit→Act→World→Prop}{ro:Option Nat}{B:Nat}(hro:C.b=true→ro=none):
 ∀(os:List Oper)(i:Nat)(steps:List n_)(σ:Sg)(loc:List V)(env:T V)(h:a_)(m:M)(a:Act)(w:World)(ex:Ex)(env':T V)(h':a_),
  ops.toList.drop i=os→iO P C ops os steps σ=true→V1 K C.G m→Inv C.G m loc env a σ→T3 C m env a→r_ m h w→X9 C B m w env a.defers→
  dQ call steps loc env h=.b ex env' h'→
  (∀a' w' m',ex=.a→T3 C m' env' a'→r_ m' h' w'→P5 m h w m' h' w'→X9 C B m' w' env' a'.defers→Q .normal a' w')→
  wpOpsIn (FR ro) 0 P ops Q (List.range' i os.length) a w:=by
 intro os;induction os with
 |nil=>
  intro i steps σ loc env h m a w ex env' h' hdrop hchk hG hI hE H hD e hQ;cases steps with
  |nil=>cases e;exact hQ a w m rfl hE H (P5.b _ _ _) hD
  |cons s l=>simp[iO]at hchk
 |cons o os ih=>
  intro i steps σ loc env h m a w ex env' h' hdrop hchk hG hI hE H hD e hQ;have hoi:ops[i]? =some o:=by
   have:(ops.toList.drop i)[0]? =some o:=by rw[hdrop];rfl
   rw[List.getElem?_drop]at this;simpa using this
  have hdrop':ops.toList.drop (i+1)=os:=by rw[←List.drop_drop,hdrop];rfl
  simp[List.range'_succ];rw[wpOpsIn_cons];unfold wpOpIn;rw[hoi];simp;unfold iO at hchk;split at hchk;rename_i p hal;let⟨x,hop,hgd,hds,hI',hE'⟩:=AM hG hI hE hal;have hw:Region.wanted o (yielded ops a.tmps)=true:=by unfold Region.wanted;rw[hgd]
  rw[if_pos hw];refine⟨fun _ _=>trivial,?_⟩;show o.uponIn (FR ro) 0 P a _ Q ((o.semAt ro a.eval).run P w);have hr:(o.semAt ro a.eval).run P w=.ok (.value (a.eval x)) w:=by rw[Oper.semAt_eq ro a.eval o (fun c hcc=>by rw[hop]at hcc;cases hcc)];simp[execOp,hop]
  rw[hr];exact ih (i+1) steps (p::σ) loc env h m _ w ex env' h' hdrop' hchk hG hI' hE' H (by rw[j3];exact hD) e hQ;split at hchk;cases hchk;rename_i s rest;simp at hchk;rw[cT]at e;obtain⟨⟨⟨hcg,hco⟩,hcd⟩,hrest⟩|⟨hcf,hrest⟩:=hchk;cases hg:V6 loc env s.c with
  |none=>rw[hg]at e;cases e
  |some b=>
   rw[hg]at e;have hw:=Aa hG hI hE hcg hg;cases b;simp at e;rw[if_neg (by rw[hw];simp)];refine⟨fun _ _=>trivial,?_⟩;let⟨hI',hE'⟩:=rO (fun _ _ x=>x) hI hE hcd (v:=.D []) (x:=undef) ⟨[],rfl,rfl⟩;exact ih (i+1) rest _ _ _ h m _ w ex env' h' hdrop' hrest hG hI' hE' H (by rw[j3];exact hD.congr (Au hE hcd _)) e hQ;simp at e;rw[if_pos hw];cases hop:aU call loc env h s.a with
   |none=>rw[hop]at e;cases e
   |some p=>
    let⟨v,h1⟩:=p;rw[hop]at e;simp at e;refine tH hcall hG (fun o y v h1 h2=>iq hG hI hE h1 h2) H hco hop (fun x w' m' r H' E'=>?_);let⟨hI',hE'⟩:=rO E'.j hI hE hcd r;exact ih (i+1) rest _ _ _ h1 m' _ w' ex env' h' hdrop' hrest (hG.a E') hI' hE' H' (by rw[j3];exact(hD.ext E').congr (Au hE hcd _)) e
     (fun a' w'' m'' h1 h2 h3 h4 h5=>hQ a' w'' m'' h1 h2 h3 (E'.a h4) h5)
  -- a deferred call
  unfold Mb at hcf;simp at hcf;let⟨⟨⟨⟨hdf,hsd⟩,hod⟩,hgd⟩,hop⟩:=hcf;split at hop;rename_i x xs hsop;split at hop;rename_i y args ts hy;simp at hop;split at hsd;rename_i d hsd';have:=Nat.eq_of_beq_eq_true hsd;subst this;split at hod;rename_i hod';split at hgd;rename_i g1 g2;have hro':=hro hdf;subst hro';have hw:Region.wanted o (yielded ops a.tmps)=true:=by unfold Region.wanted;rw[g1]
  rw[if_pos hw];rw[g2,hsop]at e;simp[V6,aU]at e;split at e;rename_i v h1 hev;split at hev;rename_i f first caps hx
  split at hev;rename_i vs hvs;split at hev;cases hev;rename_i hnone;cases hlt:Nat.blt f YB;grind;rw[hlt]at hev;simp at hev;obtain⟨rfl,rfl⟩:=hev;have hO:FP C m σ loc env a:=fun o y v h1 h2=>iq hG hI hE h1 h2;have hv:=bK hO _ _ _ hop.2 hvs;let⟨f',c',hfe,rf,rc⟩:=hO _ _ _ hop.1 hx;refine⟨fun _ _=>trivial,?_⟩;show o.uponIn (FR none) 0 P a _ Q ((o.semAt none a.eval).run P w);have hr:(o.semAt none a.eval).run P w=.ok (.defer {target:=.fn (.func f) (List.toArray c'),args:=List.toArray (f'++args.toList.map a.eval)}) w:=by have q:args.map a.eval=List.toArray (args.toList.map a.eval):=Array.ext' iS;rw[Oper.semAt_none];simp only[execOp,hy,resolve,hfe,Deferred.ofValue,Sem.run_bind,Sem.run_pure,Result.andThen_ok];rw[show(List.toArray f'++args.map a.eval)=List.toArray (f'++args.toList.map a.eval) by simp]
  rw[hr];show wpOpsIn (FR none) 0 P ops Q (List.range' (i+1) os.length) (Act.put _ o.dst undef) w;rw[hod',hsd']at *;have hI':Inv C.G m loc (env.A_ U_ (.D (.E (.func f) first caps::vs))) {a with defers:={target:=.fn (.func f) (List.toArray c'),args:=List.toArray (f'++args.toList.map a.eval)}::a.defers} (Dd σ):=by
   intro t s' hs y u hy he;unfold Dd at hs;rw[tM]at hs;cases hl:fg σ t with
   |none=>rw[hl]at hs;cases hs
   |some s0=>rw[hl]at hs;cases hs;let⟨hne,h1,h2⟩:=wC hy he;exact hI t s0 hl y u h1 h2
  have hE':T3 C m (env.A_ U_ (.D (.E (.func f) first caps::vs))) {a with defers:={target:=.fn (.func f) (List.toArray c'),args:=List.toArray (f'++args.toList.map a.eval)}::a.defers}:=by refine⟨hE.1,fun s u hs=>?_,hE.2.2⟩;rw[T.Q0]at hs;by_cases c:s=U_;exact .inl c;rw[if_neg c]at hs;exact hE.2.1 s u hs
  refine ih (i+1) rest (Dd σ) loc _ h m _ w ex env' h' hdrop' hrest hG hI' hE' H ?_ e hQ;unfold X9 at hD⊢;rw[hdf,T.K_];rw[hdf,hnone]at hD;exact⟨[],_,a.defers,rfl,⟨f,first,caps,vs,_,c',rfl,(Nat.blt_eq ..).mp hlt,rfl,f_.append rf hv,rc⟩,hD⟩;cases hev;cases hev;cases e;cases hgd;cases hod;cases hsd;cases hop;cases hop
def DK(call:aI)(env:T V):List DS->List V->a_->List V->List a_->Prop
 |[],_,_,vs,hp=>vs=[]/\hp=[]
 |s::l,loc,h,vs,hp=>∃v vs' h',vs=v::vs'/\
  (((∃c,s.2=some (v,c)/\ce loc env s.1.a v c=true)/\h'=h)\/(s.2=none/\V6 loc env s.1.c=some true/\aU call loc env h s.1.a=some (v,h'))\/(s.2=none/\V6 loc env s.1.c=some false/\v=.D []/\h'=h))/\
  ((fR s=true/\∃hp',hp=h'::hp'/\DK call env l (v::loc) h' vs' hp')\/(fR s=false/\h'=h/\DK call env l (v::loc) h vs' hp))
theorem wB{call:aI}{Z:List V}{env:T V}{h K:a_}{o:Q8}{v:V}(he:j_ o=false)(e:aU call Z env h o=some (v,K)):K=h:=by
 cases o<;>simp[j_]at he<;>simp[aU]at e;all_goals
  split at e;grind;cases e
theorem ER{call:aI}{Z:List V}{env:T V}{h h':a_}{k:PK}{K:List H_}{v:V}(e:aU call Z env h (.p k K)=some (v,h'))(g:a_):aU call Z env g (.p k K)=some (v,g):=by simp[aU]at e|-;split at e;rename_i vs ac;split at e;grind;cases e;cases e
theorem wF(call:aI)(env:T V)(s:DS)(l:List DS)(loc:List V)(hs:List a_)(h:a_):iY call env (s::l) loc hs h=match s.2 with
      |some (u,c)=>bif ce loc env s.1.a u c then iY call env l (u::loc) hs h else none
      |none=>(match V6 loc env s.1.c with
       |some true=>(match aU call loc env h s.1.a with
        |some (v,h')=>fV v fun v=>bif j_ s.1.a then iY call env l (v::loc) (h'::hs) h' else iY call env l (v::loc) hs h
        |none=>none)
       |some false=>bif j_ s.1.a then iY call env l (.D []::loc) (h::hs) h else iY call env l (.D []::loc) hs h
       |none=>none):=rfl
theorem jM{call:aI}{env:T V}:∀(l:List DS)(loc:List V)(hs:List a_)(h:a_)(locF:List V)(hsF:List a_),iY call env l loc hs h=some (locF,hsF)→
 ∃vs hp,DK call env l loc h vs hp∧locF=vs.reverse++loc∧hsF=hp.reverse++hs
 |[],loc,hs,h,locF,hsF,e=>by cases e;exact⟨[],[],⟨rfl,rfl⟩,rfl,rfl⟩
 |(s,some (u,cs))::l,loc,hs,h,locF,hsF,e=>by rw[wF]at e;simp only[]at e;cases hl:ce loc env s.a u cs;grind;rw[hl]at e;simp only[cond_true]at e;obtain⟨vs,hp,c,rfl,rfl⟩:=jM l _ _ _ _ _ e;exact⟨u::vs,hp,⟨u,vs,h,rfl,.inl ⟨⟨cs,rfl,hl⟩,rfl⟩,.inr ⟨rfl,rfl,c⟩⟩,iS,rfl⟩
 |(s,none)::l,loc,hs,h,locF,hsF,e=>by
  rw[wF]at e;simp only[]at e;cases hg:V6 loc env s.c with
  |none=>rw[hg]at e;cases e
  |some b=>
   rw[hg]at e;cases b;simp only[]at e;cases he:j_ s.a;rw[he]at e;simp only[cond_false]at e;obtain⟨vs,hp,c,rfl,rfl⟩:=jM l _ _ _ _ _ e;exact⟨.D []::vs,hp,⟨.D [],vs,h,rfl,.inr (.inr ⟨rfl,hg,rfl,rfl⟩),.inr ⟨he,rfl,c⟩⟩,iS,rfl⟩;rw[he]at e;simp only[cond_true]at e;obtain⟨vs,hp,c,rfl,rfl⟩:=jM l _ _ _ _ _ e;exact⟨.D []::vs,h::hp,⟨.D [],vs,h,rfl,.inr (.inr ⟨rfl,hg,rfl,rfl⟩),.inl ⟨he,hp,rfl,c⟩⟩,iS,iS⟩;simp only[]at e;cases ho:aU call loc env h s.a with
   |none=>rw[ho]at e;cases e
   |some p=>let⟨v,h'⟩:=p;rw[ho]at e;simp only[Ai]at e;cases he:j_ s.a;rw[he]at e;simp only[cond_false]at e;obtain⟨vs,hp,c,rfl,rfl⟩:=jM l _ _ _ _ _ e;have:=wB he ho;subst this;exact⟨v::vs,hp,⟨v,vs,h',rfl,.inr (.inl ⟨rfl,hg,ho⟩),.inr ⟨he,rfl,c⟩⟩,iS,rfl⟩;rw[he]at e;simp only[cond_true]at e;obtain⟨vs,hp,c,rfl,rfl⟩:=jM l _ _ _ _ _ e;exact⟨v::vs,h'::hp,⟨v,vs,h',rfl,.inr (.inl ⟨rfl,hg,ho⟩),.inl ⟨he,hp,rfl,c⟩⟩,iS,iS⟩
def iM(l:List DS)(i:Nat):Nat:=((l.take i).filter fR).length
theorem uJ{call:aI}{env:T V}:∀(l:List DS)(loc:List V)(h:a_)(vs:List V)(hp:List a_),DK call env l loc h vs hp→
 vs.length=l.length∧hp.length=iM l l.length∧∀(i:Nat) s,l[i]? =some s→∃v hb ha,vs[i]? =some v∧(h::hp)[iM l i]? =some hb∧
  (((∃c,s.2=some (v,c)∧ce ((vs.take i).reverse++loc) env s.1.a v c=true)∧ha=hb)∨(s.2=none∧V6 ((vs.take i).reverse++loc) env s.1.c=some true∧aU call ((vs.take i).reverse++loc) env hb s.1.a=some (v,ha))∨(s.2=none∧V6 ((vs.take i).reverse++loc) env s.1.c=some false∧v=.D []∧ha=hb))∧
  (fR s=true→(h::hp)[iM l i+1]? =some ha)∧(fR s=false→ha=hb)
 |[],loc,h,vs,hp,c=>by obtain⟨rfl,rfl⟩:=c;refine⟨rfl,rfl,fun i s hi=>by simp at hi⟩
 |s::l,loc,h,vs,hp,c=>by
  obtain⟨v,vs',h',rfl,hv,hc⟩:=c;obtain⟨he,hp',rfl,c⟩|⟨he,rfl,c⟩:=hc;let⟨l1,l2,l3⟩:=uJ l (v::loc) h' vs' hp' c;refine⟨by simp[l1],by simp[iM,he]at l2⊢;exact l2,fun i t hi=>?_⟩;cases i with
  |zero=>simp at hi;subst hi;refine⟨v,h,h',rfl,by simp[iM],by simpa using hv,fun _=>by simp[iM],fun q=>by rw[he]at q;cases q⟩
  |succ i=>let⟨u,hb,ha,a1,a2,a3,a4,a5⟩:=l3 i t (eV hi);refine⟨u,hb,ha,by simpa using a1,?_,by simpa using a3,fun q=>?_,a5⟩;simpa[iM,he]using a2;simpa[iM,he]using a4 q
  let⟨l1,l2,l3⟩:=uJ l (v::loc) h' vs' hp c;refine⟨by simp[l1],by simp[iM,he]at l2⊢;exact l2,fun i t hi=>?_⟩;cases i with
  |zero=>simp at hi;subst hi;refine⟨v,h',h',rfl,by simp[iM],by simpa using hv,fun q=>(by rw[he]at q;cases q),fun _=>rfl⟩
  |succ i=>let⟨u,hb,ha,a1,a2,a3,a4,a5⟩:=l3 i t (eV hi);refine⟨u,hb,ha,by simpa using a1,?_,by simpa using a3,fun q=>?_,a5⟩;simpa[iM,he]using a2;simpa[iM,he]using a4 q
theorem oG{call:aI}{env:T V}{late:List Nat}:∀(l:List n_)(i:Nat)(loc:List V)(h:a_)(r:List DS)(h':a_),Q7 call env late l i loc h=some (r,h')→r.length=l.length
 |[],i,loc,h,r,h',e=>by simp only[Q7,Option.some.injEq,Prod.mk.injEq]at e;obtain⟨rfl,_⟩:=e;rfl
 |s::l,i,loc,h,r,h',e=>by simp only[Q7]at e;cases hc:late.contains i;rw[hc]at e;simp only[cond_false]at e;split at e;rename_i r' h2 h3;cases e;simp[oG l _ _ _ _ _ h3];cases e;rw[hc]at e;simp only[cond_true]at e;split at e;split at e;rename_i r' h2 h3;cases e;simp[oG l _ _ _ _ _ h3];cases e;cases e
theorem Ew(id:Nat)(k:Option (Nat×Nat)):T2 (eM id k)=id:=by cases k<;>rfl
theorem By{call:aI}{env:T V}{late:List Nat}:∀(l:List n_)(i:Nat)(loc:List V)(h:a_)(r:List DS)(h':a_),Q7 call env late l i loc h=some (r,h')→
 (∀(j:Nat) s,l[j]? =some s→(late.contains (i+j)=false∧r[j]? =some (s,none))∨
  (late.contains (i+j)=true∧∃u c,r[j]? =some (s,some (u,c))∧h.e≤T2 u∧T2 u<h'.e∧h'.S.c_ (T2 u)=some (.a c (T2 u) 0)))∧
 (∀(j k:Nat) s t u v cu cv,j<k→r[j]? =some (s,some (u,cu))→r[k]? =some (t,some (v,cv))→T2 u<T2 v)∧(∀(j:Nat) s u cu,r[j]? =some (s,some (u,cu))→h.e≤T2 u)∧
 h.e≤h'.e∧(∀p,p<h.e→h'.S.c_ p=h.S.c_ p)∧∀m w,r_ m h w→r_ m h' w
 |[],i,loc,h,r,h',e=>by simp only[Q7,Option.some.injEq,Prod.mk.injEq]at e;obtain⟨rfl,rfl⟩:=e;exact⟨fun j s hj=>by simp at hj,fun j k s t u v _ _ _ hj=>by simp at hj,fun j s u _ hj=>by simp at hj,Nat.le_refl _,fun _ _=>rfl,fun _ _ H=>H⟩
 |s::l,i,loc,h,r,h',e=>by
  simp only[Q7]at e;cases hc:late.contains i;rw[hc]at e;simp only[cond_false]at e;split at e;rename_i r' h2 h3;cases e;let⟨a3,a4,a5,a1,a2,a6⟩:=By l _ _ _ _ _ h3;refine⟨fun j t hj=>?_,fun j k s' t u v cu cv hjk hj hk=>?_,fun j s' u cu hj=>?_,a1,a2,a6⟩;grind;grind;grind;cases e;rw[hc]at e;simp only[cond_true]at e;split at e;rename_i c kk hlc;split at e;rename_i r' h2 h3;cases e;let⟨a3,a4,a5,a1,a2,a6⟩:=By l _ _ _ _ _ h3;have hnx:(h_ h c).e=h.e+1:=rfl;rw[hnx]at a1 a2 a5;have hlid:=Ew h.e kk;refine⟨fun j t hj=>?_,fun j k s' t u v cu cv hjk hj hk=>?_,fun j s' u cu hj=>?_,oM,fun p hp=>?_,fun m w H=>a6 m w ?_⟩;cases j with
  |zero=>simp at hj;subst hj;refine .inr ⟨by simpa using hc,eM h.e kk,c,rfl,oM,oM,?_⟩;rw[hlid,a2 _ oM,h_,T.K_]
  |succ j=>obtain⟨b1,b2⟩|⟨b1,u,c',b2,b5,b6,b7⟩:=a3 j t (eV hj);grind;grind
  grind;grind;rw[a2 p oM,h_,T.v_ _ _ oM];have hold:∀p loc,m p=some loc→p≠h.e:=fun p loc hp q=>by subst q;rw[H.b (Nat.le_refl _)]at hp;cases hp
  refine⟨⟨?_,?_⟩,?_,H.a,?_⟩;intro p cp f k hp;show match h.Q.c_ f with|none=>f=p|some (_,e)=>k≤e
  rw[h_,T.Q0]at hp;by_cases q:p=h.e;grind;rw[if_neg q]at hp;exact H.g.b _ _ _ _ hp;intro p hp;have hp':h.e+1≤p:=hp;refine⟨?_,(H.g.a p oM).2⟩;rw[h_,T.v_ _ _ oM];exact(H.g.a p oM).1;intro p loc hp;let⟨b,hb,rb⟩:=H.c p loc hp;exact⟨b,by rw[h_,T.v_ _ _ (hold p loc hp)];exact hb,rb.mono (fun _ _ x=>x) (fun _ _ _ _ x=>x) rfl⟩;intro p q lp lq hp hq he hne;let⟨cp,cq,f,kp,kq,b1,b2,b3⟩:=H.d p q lp lq hp hq he hne;exact⟨cp,cq,f,kp,kq,by rw[h_,T.v_ _ _ (hold p lp hp)];exact b1,by rw[h_,T.v_ _ _ (hold q lq hq)];exact b2,b3⟩;cases e;cases e
def pw(late:List Nat):List n_->Nat->List DS
 |[],_=>[]
 |s::l,i=>(s,bif late.contains i then some (.O,[])else none)::pw late l (i+1)
theorem oD{call:aI}{env:T V}{late:List Nat}:∀(l:List n_)(i:Nat)(loc:List V)(h:a_)(r:List DS)(h':a_),Q7 call env late l i loc h=some (r,h')→(pw late l i).map fR=r.map fR
 |[],i,loc,h,r,h',e=>by simp only[Q7,Option.some.injEq,Prod.mk.injEq]at e;obtain⟨rfl,_⟩:=e;rfl
 |s::l,i,loc,h,r,h',e=>by simp only[Q7]at e;cases hc:late.contains i;rw[hc]at e;simp only[cond_false]at e;split at e;rename_i r' h2 h3;cases e;simp only[pw,hc,cond_false,List.map_cons,oD l _ _ _ _ _ h3];cases e;rw[hc]at e;simp only[cond_true]at e;split at e;split at e;rename_i r' h2 h3;cases e;simp only[pw,hc,cond_true,List.map_cons,oD l _ _ _ _ _ h3];rfl;cases e;cases e
def n?(B:List Nat)(i j:Nat):Bool:=Nat.testBit (B.getD i 0) j
def Nm(ops:Array Oper)(B:List Nat):Bool:=
 (List.range ops.size).all fun i=>(List.range ops.size).all fun j=> !n? B i j||
  (match ops[i]? with
   |some o=>o.after.toList.any fun e=>Region.binds .any e&&Nat.blt e.on i&&(Nat.beq e.on j||n? B e.on j)
   |none=>false)
def qo(md:Region.Mode)(ops:Array Oper)(R:Nat->Nat):Bool:=
 (List.range ops.size).all fun i=>match ops[i]? with
  |some o=>o.after.toList.all fun e=> !Region.binds md e||(Nat.blt (R e.on) (R i)&&Nat.blt e.on ops.size)
  |none=>false
def AD(ops:Array Oper)(R:List Nat):Bool:=qo .any ops id&&qo .text ops id&&qo .gc ops (fun i=>R.getD i i)
def fK(ops:Array Oper)(B:List Nat)(i:Nat):List Nat->Sg
 |[]=>[]
 |j::js=>match(ops[j]?).bind (·.dst)with
  |some t=>if n? B i j then(t,.l (i-1-j))::fK ops B i js
              else if i=j\/n? B j i=true then fK ops B i js
              else(t,.a)::fK ops B i js
  |none=>fK ops B i js
def sig(ops:Array Oper)(B:List Nat)(i:Nat):Sg:=fK ops B i (List.range ops.size)
def Oq:Q8->Bool
 |.a _ _ _=>true
 |.o _ _ _ _=>true
 |.j _=>true
 |_=>false
def cY(l:List DS):List Nat:=(List.range l.length).filter fun i=>match l[i]? with|some s=>fR s|none=>false
def Hd(l:List DS)(B:List Nat)(reads:List (Nat×Nat×Nat))(i:Nat):Bool:=
 reads.any fun(r:Nat×Nat×Nat)=>Nat.beq r.1 i&&Nat.ble r.2.1 ((cY l).filter fun e=>n? B i e).length&&Nat.ble ((cY l).length-((cY l).filter fun e=>n? B e i).length) r.2.2
def Ir(C:Cx)(ops:Array Oper)(sets:List (Nat×Nat)):Bool:=
 ((List.range ops.size).all fun i=>match(ops[i]?).bind (·.dst)with
  |some t=>Nat.blt t C.N&&(!C.a.contains t||sets.contains (t,i))&&(List.range ops.size).all (fun j=>Nat.beq i j||(match(ops[j]?).bind (·.dst)with|some u=> !Nat.beq t u|none=>true))
  |none=>true)&&
 sets.all fun(p:Nat×Nat)=>Nat.blt p.2 ops.size&&C.a.contains p.1&&(match(ops[p.2]?).bind (·.dst)with|some t=>Nat.beq t p.1|none=>false)
def bOf(ops:Array Oper):List Nat:=ops.toList.foldl (fun B o=>B++[o.after.toList.foldl (fun b e=>bif Region.binds .any e then b|||(1<<<e.on)|||B.getD e.on 0 else b) 0]) []
def Nl(P:Program)(C:Cx)(ops:Array Oper)(l:List n_)(late B R:List Nat)(reads:List (Nat×Nat×Nat))(sets:List (Nat×Nat)):Bool:=
 Nat.beq ops.size l.length&&AD ops R&&Nm ops B&&Ir C ops sets&&
 ((List.range ops.size).all fun i=>match ops[i]?,l[i]? with
  |some o,some s=>E4 C (sig ops B i) ops o.guard s.c&&nJ P C (sig ops B i) o s.a&&(!Oq s.a||Hd (pw late l 0) B reads i)&&(!late.contains i||o.guard.isNone)
  |_,_=>false)&&
 ((cY (pw late l 0)).all fun i=>(cY (pw late l 0)).all fun j=> !Nat.blt i j||n? B j i)
theorem db{n:Nat}{p:Nat->Bool}(h:(List.range n).all p=true){i:Nat}(hi:i<n):p i=true:=Xw.1 h i (eV hi)
abbrev dn(L:Array Bool)(i:Nat):Prop:=L.getD i false=true
theorem jN{ops:Array Oper}{B:List Nat}(hB:Nm ops B=true){L:Array Bool}(ae:∀i o,ops[i]? =some o->dn L i->∀e∈o.after,Region.binds .any e=true->dn L e.on):
 ∀(i:Nat) o,ops[i]? =some o->(∀e∈o.after,Region.binds .any e=true->dn L e.on)->∀j,n? B i j=true->j<ops.size->dn L j:=by
 intro i;induction i using Nat.strongRecOn with
 |_ i ih=>intro o ho ac j hb hj;have hi:i<ops.size:=(WT.1 ho).1;have h1:=db (db hB hi) hj;simp only[hb,Zg,Yr,ho]at h1;let⟨e,he,K⟩:=Zv.1 h1;simp only[VY,WB,XJ]at K;have Z:=ac e (eV he) K.1.1;obtain q|q:=K.2;have:=Wb q;subst this;exact Z;grind
theorem kT{ops:Array Oper}{B:List Nat}{i:Nat}:∀(js:List Nat) t s,fg (fK ops B i js) t=some s→∃j,j∈js∧(ops[j]?).bind (·.dst)=some t∧((n? B i j=true∧s=.l (i-1-j))∨s=.a)
 |[],t,s,h=>by simp[fK,fg]at h
 |j::js,t,s,h=>by simp only[fK]at h;split at h;rename_i u hu;split at h;rename_i hb;simp only[fg]at h;by_cases c:u=t;grind;rw[if_neg c]at h;let⟨j',h1,h2⟩:=kT js t s h;exact⟨j',by simp[h1],h2⟩;split at h;let⟨j',h1,h2⟩:=kT js t s h;exact⟨j',by simp[h1],h2⟩;simp only[fg]at h;by_cases c:u=t;grind;rw[if_neg c]at h;let⟨j',h1,h2⟩:=kT js t s h;exact⟨j',by simp[h1],h2⟩;let⟨j',h1,h2⟩:=kT js t s h;exact⟨j',by simp[h1],h2⟩
theorem nu{ops:Array Oper}{B:List Nat}{i:Nat}:∀(js:List Nat) t,fg (fK ops B i js) t=none→∀j∈js,(ops[j]?).bind (·.dst)=some t→n? B i j=false∧(i=j∨n? B j i=true)
 |[],t,h,j,hj,_=>by simp at hj
 |k::js,t,h,j,hj,hd=>by
  simp only[fK]at h;obtain rfl|hj:=List.mem_cons.1 hj;rw[hd]at h;simp only[]at h;cases hb:n? B i j;simp only[hb,Bool.false_eq_true,if_false]at h;by_cases c:i=j∨n? B j i=true;exact⟨rfl,c⟩;rw[if_neg c]at h;simp[fg]at h;simp[hb,fg]at h;have:fg (fK ops B i js) t=none:=by split at h;rename_i u hu;split at h;simp only[fg]at h;by_cases c:u=t;rw[if_pos c]at h;cases h;rw[if_neg c]at h;exact h;split at h;exact h;simp only[fg]at h;by_cases c:u=t;rw[if_pos c]at h;cases h;rw[if_neg c]at h;exact h;exact h
  exact nu js t this j hj hd
def a?(l:List DS)(L:Array Bool):Nat:=((cY l).filter fun e=>L.getD e false).length
theorem qB{α:Type}{p q:α→Bool}:∀(l:List α),(∀x∈l,p x=true→q x=true)→(l.filter p).length≤(l.filter q).length
 |[],_=>by simp
 |x::l,h=>by have ih:=qB l fun y hy=>h y iX;by_cases hp:p x=true;grind;grind
theorem pI{α:Type}{p q:α→Bool}:∀(l:List α),(∀x∈l,p x=true→q x=false)→(l.filter p).length+(l.filter q).length≤l.length
 |[],_=>by simp
 |x::l,h=>by have ih:=pI l fun y hy=>h y iX;by_cases hp:p x=true;grind;grind
theorem iv{l:List DS}{i:Nat}:i∈cY l↔∃s,l[i]? =some s/\fR s=true:=by unfold cY;rw[Yj];constructor;grind;grind
theorem Aq{l:List DS}{a:Nat}(h:(match l[a]? with|some s=>fR s|none=>false)=true):a∈cY l:=by rw[iv];split at h;grind;cases h
theorem BJ(l:List DS):∀i,i<=l.length->iM l i=((List.range i).filter fun j=>match l[j]? with|some s=>fR s|none=>false).length:=by
 intro i;induction i with
 |zero=>intro _;simp[iM]
 |succ i ih=>intro K;have Z:i<l.length:=oM;rw[YM,Xu,Wq,<-ih oM];unfold iM;rw[Yv Z,Xu,Wq];congr 1;simp[YF,Z];split<;>simp
theorem BP {l : List DS} {L : Array Bool} {i : Nat} (hi : i <= l.length) (h1 : ∀ e ∈ cY l, e < i -> dn L e) (h2 : ∀ e ∈ cY l, i <= e -> ¬ dn L e) : a? l L = iM l i := by
  rw [BJ l i oM]
  unfold a? cY
  rw [List.filter_filter]
  have : ∀ n, i <= n -> n <= l.length -> ((List.range n).filter fun a => L.getD a false && (match l[a]? with | some s => fR s | none => false)).length = ((List.range i).filter fun j => match l[j]? with | some s => fR s | none => false).length := by
    intro n hn
    induction n with
    | zero => intro _; have : i = 0 := by omega
              subst this; rfl
    | succ n ih =>
      intro hnl
      by_cases c : i = n + 1
      · subst c
        congr 1
        apply Zm
        intro a ha
        have ha' : a < n + 1 := by simpa using ha
        cases hm : (match l[a]? with | some s => fR s | none => false)
        · simp
        · have : dn L a := h1 a (Aq hm) ha'
          rw [this]; rfl
      · rw [YM, Xu, Wq, ih oM oM]
        have : ((List.filter (fun a => L.getD a false && (match l[a]? with | some s => fR s | none => false)) [n]).length = 0) := by
          simp only [YF, List.filter_nil]
          cases hm : (match l[n]? with | some s => fR s | none => false)
          · simp
          · have : ¬ dn L n := h2 n (Aq hm) oM
            have : L.getD n false = false := by grind
            rw [this]; rfl
        omega
  exact this l.length oM (VZ _)
theorem ET{l r:List DS}(h:l.map fR=r.map fR):cY l=cY r:=by
 have Z:l.length=r.length:=by have:=congrArg List.length h;simpa using this
 unfold cY;rw[Z];apply Zm;intro i _;have:(l.map fR)[i]? =(r.map fR)[i]? :=by rw[h]
 rw[WM,WM]at this;cases K:l[i]? <;>cases h2:r[i]? <;>simp_all
variable {K : LG -> Prop}
theorem ES{l:List DS}{i:Nat}{s:DS}(K:l[i]? =some s)(he:fR s=true):iM l (i+1)=iM l i+1:=by
 have Z:=(Wk.1 K).1;have hg:l[i]=s:=by grind
 unfold iM;rw[Yv Z,Xu,Wq,hg];simp[he]
theorem BO{l:List DS}{L:Array Bool}{i:Nat}(h:i∉cY l):a? l (L.setIfInBounds i true)=a? l L:=by unfold a?;congr 1;apply Zm;intro e Z;exact getD_set_ne false (fun q=>h (q▸Z))
theorem iN{L:Array Bool}{i j:Nat}(Z:i<L.size):dn (L.setIfInBounds i true) j↔j=i\/dn L j:=by by_cases c:i=j;subst c;simp[Z];unfold dn;rw[getD_set_ne false c];constructor;grind;grind
theorem Kk{vals:List V}{i j:Nat}(K:i<=vals.length)(Z:j<i):((vals.take i).reverse++[])[i-1-j]? =vals[j]? :=by grind
theorem vP{n:Nat}{loc:List V}:∀(sets:List (Nat×Nat))(env env':T V),jn n loc sets env=some env'→∀s v,env'.c_ s=some v→
 (∃i,(s,i)∈sets∧loc[n-i-1]? =some v)∨((∀i,(s,i)∉sets)∧env.c_ s=some v)
 |[],env,env',e,s,v,h=>by cases e;exact .inr ⟨iS,h⟩
 |(t,i)::r,env,env',e,s,v,h=>by simp only[jn]at e;split at e;rename_i u hu;obtain⟨j,hj,hv⟩|⟨hn,hv⟩:=vP r _ _ e s v h;grind;rw[T.Q0]at hv;by_cases c:s=t;grind;grind;cases e
theorem v9{call:aI}{loc:List V}{env:T V}{o:Q8}{v:V}:∀(hs:List a_),gM call loc env o v hs=true→∀g∈hs,∃g',aU call loc env g o=some (v,g')
 |[],_,g,hg=>by simp at hg
 |h::hs,hr,g,hg=>by simp only[gM,Bool.and_eq_true]at hr;obtain rfl|hg:=List.mem_cons.1 hg;let⟨h1,_⟩:=hr;split at h1;rename_i u g' hu;have:=qe _ _ h1;subst this;exact⟨g',hu⟩;cases h1;exact v9 hs hr.2 g hg
section
variable {P : Program} {C : Cx} {call : aI} {ops : Array Oper} {l : List DS} {B : List Nat} {reads : List (Nat × Nat × Nat)} {sets : List (Nat × Nat)}
structure DI(C:Cx)(ops:Array Oper)(l:List DS)(env:T V)(vals:List V)(Hs:List a_)(m0:M)(h:a_)(w0:World)(a0:Act)(L:Array Bool)(a:Act)(w:World)(m:M)(hk:a_):Prop where
 j:L.size=ops.size
 b:∀i o,ops[i]? =some o->dn L i->∀e∈o.after,Region.binds .any e=true->dn L e.on
 f:a.tmps.size=C.N
 k:a.defers=a0.defers
 q:∀t,(∀i,dn L i->(ops[i]?).bind (·.dst)≠some t)->a.tmps.getD t undef=a0.tmps.getD t undef
 g:Hs[a? l L]? =some hk
 n:r_ m hk w
 d:P5 m0 h w0 m hk w
 p:∀i v t,dn L i->vals[i]? =some v->(ops[i]?).bind (·.dst)=some t->l_ m v (a.tmps.getD t undef)
 r:∀(i:Nat) s u c,l[i]? =some (s,some (u,c))->¬dn L i->m (T2 u)=none/\hk.S.c_ (T2 u)=some (.a c (T2 u) 0)/\T2 u<hk.e
theorem DI.e{env:T V}{vals:List V}{Hs:List a_}{m0 m m':M}{h hk K:a_}{w0 w w':World}{a0 a:Act}{L:Array Bool}(D:DI C ops l env vals Hs m0 h w0 a0 L a w m hk)
 (ay:Ir C ops sets=true) {i:Nat} {o:Oper} (ho:ops[i]? =some o) (aN:¬dn L i) (aR:∀e∈o.after,Region.binds .any e=true->dn L e.on) {v:V} {x:Value} (hv:vals[i]? =some v) (r:l_ m' v x)
 (H':r_ m' K w') (ar:Le m m') (E0:P5 m0 h w0 m' K w') (az:Hs[a? l (L.setIfInBounds i true)]? =some K)
 (aH:∀(j:Nat) s u c,l[j]? =some (s,some (u,c))->¬dn (L.setIfInBounds i true) j->m' (T2 u)=none/\K.S.c_ (T2 u)=some (.a c (T2 u) 0)/\T2 u<K.e):
 DI C ops l env vals Hs m0 h w0 a0 (L.setIfInBounds i true) (a.put o.dst x) w' m' K:=by
 have hi:i<ops.size:=(WT.1 ho).1;have ae:i<L.size:=by rw[D.j];exact hi
 have Z:=db (YW.1 ay).1 hi;have an:(ops[i]?).bind (·.dst)=o.dst:=by rw[ho];rfl
 rw[an]at Z;have af:∀t,o.dst=some t->t<a.tmps.size:=by intro t ht;rw[ht]at Z;simp only[VY,WB]at Z;rw[D.f];exact Z.1.1
 have ak:∀t,o.dst=some t->∀j,j<ops.size->j≠i->(ops[j]?).bind (·.dst)≠some t:=by intro t ht j hj hne hd;rw[ht]at Z;simp only[VY]at Z;have:=db Z.2 hj;rw[hd]at this;simp only[XJ]at this;obtain q|q:=this;exact hne (Wb q).symm;simp at q
 refine⟨by simpa using D.j,?_,by rw[pc];exact D.f,by rw[j3];exact D.k,?_,az,H',E0,?_,aH⟩;intro j p hj ac e he aJ;rw[iN ae]at ac|-;obtain rfl|ac:=ac;grind;exact .inr (D.b j p hj ac e he aJ);intro t ht;have h1:o.dst≠some t:=by have:=ht i ((iN ae).2 (.inl rfl));rwa[an]at this
 have h2:=D.q t (fun j hj=>ht j ((iN ae).2 (.inr hj)));cases hd:o.dst with
 |none=>exact h2
 |some d=>rw[fM a d x t (af d hd),if_neg (by intro q;subst q;exact h1 hd)];exact h2
 intro j u t hj hu ht;rw[iN ae]at hj;by_cases c:j=i;subst c;rw[an]at ht;rw[hv]at hu;cases hu;rw[ht,fM a t x t (af t ht),if_pos rfl];exact r;have ac:dn L j:=hj.resolve_left c;have:=D.p j u t ac hu ht;cases hd:o.dst with
 |none=>exact Xt ar _ _ this
 |some d=>
  have ax:j<ops.size:=by grind
  rw[fM a d x t (af d hd),if_neg (by intro q;subst q;exact ak t hd j ax c ht)];exact Xt ar _ _ this
theorem DI.a{env:T V}{vals:List V}{Hs:List a_}{m0 m m':M}{h hk Z:a_}{w0 w w':World}{a0 a:Act}{L:Array Bool}(D:DI C ops l env vals Hs m0 h w0 a0 L a w m hk)
 {i:Nat} (hi:i<L.size) (E':P5 m hk w m' Z w'):∀(j:Nat) s u c,l[j]? =some (s,some (u,c))->¬dn (L.setIfInBounds i true) j->
  m' (T2 u)=none/\Z.S.c_ (T2 u)=some (.a c (T2 u) 0)/\T2 u<Z.e:=by
 intro j s u c hj K;let⟨b1,b2,b3⟩:=D.r j s u c hj (fun hd=>K ((iN hi).2 (.inr hd)));refine⟨?_,(E'.l _ b1 b3).trans b2,Xh b3 E'.f⟩;cases hm:m' (T2 u)with
 |none=>rfl
 |some loc=>have:=(E'.k _ _ hm b1).1;omega
theorem r_.k{m:M}{h:a_}{w:World}(H:r_ m h w){p:Nat}{c:List V}{f k:Nat}{X:Array Value}{elem:TypeId}(hm:m p=none)(hb:h.S.c_ p=some (.a c f k))(hX:f_ m c X.toList):
 r_ (eh m p ⟨w.heap.size,0,X.size,none⟩) h (w.alloc (.cells X elem)):=by
 have ae:Le m (eh m p ⟨w.heap.size,0,X.size,none⟩):=by intro q l Z;rw[aE];exact Z;grind
 have ak:=hX.Z;refine⟨H.g,?_,?_,?_⟩;intro q K Z;by_cases e:q=p;subst e;rw[av]at Z;cases Z;refine⟨_,hb,fun _=>⟨X,elem,(0,0),heap_alloc_new w _,iS,by simp at ak;simp;omega,fun i v hi=>?_,fun i _=>by simp⟩⟩;let⟨x,hx,rx⟩:=hX.i i v hi;exact⟨x,by simpa using hx,Xt ae _ _ rx⟩;rw[aE _ _ e]at Z;let⟨b,af,r⟩:=H.c q K Z;exact⟨b,af,r.mono ae (fun _ _ _ _ x=>x) (heap_alloc_old w _ _ (H.a q K Z))⟩;intro q K Z;by_cases e:q=p;subst e;rw[av]at Z;cases Z;simp;rw[aE _ _ e]at Z;have:=H.a q K Z;simp;omega;intro q r lq lr Z hr he ac;by_cases e:q=p;subst e;rw[av]at Z;cases Z;rw[aE _ _ (XK ac)]at hr;have:=H.a r lr hr;simp at he;omega;rw[aE _ _ e]at Z;by_cases e2:r=p;subst e2;rw[av]at hr;cases hr;have:=H.a q lq Z;simp at he;omega;rw[aE _ _ e2]at hr;exact H.d q r lq lr Z hr he ac
theorem HL{m:M}{env:T V}{ak:List V}{a:Act}{σ:Sg}(hO:FP C m σ ak env a){o:Oper}{op:Q8}{c:List V}{k:Option (Nat×Nat)}(Z:nJ P C σ o op=true)(K:jI ak env op=some (c,k))(w:World):
 ∃x X elem,(execOp a.eval o).run P w=.ok (.value x) (w.alloc (.cells X elem))/\f_ m c X.toList/\∀id m',m' id=some ⟨w.heap.size,0,X.size,none⟩->l_ m' (eM id k) x:=by
 unfold jI at K;split at K;rename_i zero;cases K;simp[nJ,cM]at Z;replace Z:=Z.2;unfold pQ at Z;split at Z;rename_i t hy;let⟨z,hz,hv⟩:=jF (w:=w) Z;have af:=dt (P:=P) (w:=w) z.cells t;refine⟨.pointer (some ⟨w.heap.size,0,none⟩),z.cells,t,?_,dE m _ _ hv,fun id m' hm=>⟨_,hm,rfl⟩⟩;simp[execOp,hy,Instr.alloc,hz,newVar,af];cases Z;rename_i x;split at K;rename_i v hv;cases K;simp[nJ,cM]at Z;replace Z:=Z.2;have ac:=bK hO _ _ _ Z.2 (uh hv);let⟨ae,_⟩:=Z;unfold yx at ae;split at ae;rename_i t ad hy;let⟨y,e,ry⟩:=bY ac;rw[hy]at e;simp[Op.operands]at e;have af:=dt (P:=P) (w:=w) y.cells t;refine⟨.pointer (some ⟨w.heap.size,0,none⟩),y.cells,t,?_,ry.J_,fun id m' hm=>⟨_,hm,rfl⟩⟩;simp[execOp,hy,e,Instr.box,newVar,af];cases ae;cases K;rename_i zero an len xs;split at K;rename_i vs ar;split at K;rename_i c' hf;cases K;simp[nJ,cM]at Z;replace Z:=Z.2;have ac:=bK hO _ _ _ Z.2 ar;let⟨X,elem,h1,h2⟩:=rQ (P:=P) (m:=m) (w:=w) Z.1 ac hf;exact⟨_,X,elem,h1,h2,fun id m' hm=>⟨_,hm,VZ _,rfl⟩⟩;cases K;cases K;rename_i zero bytes x y;split at K;rename_i lv hl;split at K;rename_i cv ax;split at K;rename_i n kk hn;cases K;simp[nJ,cM]at Z;replace Z:=Z.2;have ac:=bK hO _ _ _ Z.2 (Ak hl ax);let⟨X,elem,h1,h2,h3⟩:=Fp (P:=P) (m:=m) (w:=w) Z.1 ac hn;exact⟨_,X,elem,h1,h2,fun id m' hm=>⟨_,hm,h3,rfl⟩⟩;cases K;cases K;cases K;cases K
theorem DI.i{vals:List V}{Hs:List a_}{m0 m:M}{h hk:a_}{w0 w:World}{a0 a:Act}{L:Array Bool}{env:T V}(D:DI C ops l env vals Hs m0 h w0 a0 L a w m hk)
 (hG:V1 K C.G m0) (hE:T3 C m0 env a0) (hB:Nm ops B=true) (aH:vals.length=ops.size)
 {i:Nat} {o:Oper} (ho:ops[i]? =some o) (af:¬dn L i) (ay:∀e∈o.after,Region.binds .any e=true->dn L e.on):FP C m (sig ops B i) ((vals.take i).reverse++[]) env a:=by
 have hi:i<ops.size:=(WT.1 ho).1;have az:=hG.a D.d;intro od y v Z ev;unfold nt at Z;split at Z;rename_i t;split at Z;rename_i s hs;let⟨j,hj,hd,ae⟩:=kT _ _ _ hs;have ac:j<ops.size:=by simpa using hj
 obtain⟨hb,rfl⟩|rfl:=ae;have ar:=jN hB D.b i o ho ay j hb ac;cases y<;>simp[dk]at Z;subst Z;have ax:j<i:=by
  have h1:=db (db hB hi) ac;simp only[hb,Zg,Yr,ho]at h1;let⟨e,he,h2⟩:=Zv.1 h1;simp only[VY,WB,XJ]at h2;have aJ:=h2.1.2;obtain q|q:=h2.2;have:=Wb q;omega
  -- j comes before e.on, which comes before i
  have key:∀k,k<ops.size->∀j,j<ops.size->n? B k j=true->j<k:=by
   intro k;induction k using Nat.strongRecOn with
   |_ k ih=>intro hk j hj hb;have h1:=db (db hB hk) hj;simp only[hb,Zg,Yr]at h1;split at h1;let⟨e,he,h2⟩:=Zv.1 h1;simp only[VY,WB,XJ]at h2;obtain q|q:=h2.2;have:=Wb q;have:=h2.1.2;omega;grind;cases h1
  have:=key e.on oM j ac q;omega
 have ak:((vals.take i).reverse++[])[i-1-j]? =some v:=by rw[<-eZ];exact ev
 rw[Kk oM ax]at ak;exact D.p j v t ar ak hd;cases y<;>simp[dk]at Z
 rename_i hs;split at Z;rename_i s;simp only[VY]at Z;have:=Wb Z.1;subst this;have an:=D.q s (fun j hj hd=>by
  have ac:j<ops.size:=by grind
  let⟨_,hc⟩:=nu _ _ hs j (eV ac) hd;obtain rfl|hc:=hc;exact af hj;exact af (jN hB D.b j _ (Wz ac) (D.b j _ (Wz ac) hj) i hc hi))
 show l_ m v (a.tmps.getD s undef);rw[an];exact Xt D.d.j _ _ (hE.var Z.2 ev);cases Z;exact qF az Z ev
end
variable {K : LG -> Prop}
section
variable {P : Program} {C : Cx} {call : aI} {ops : Array Oper} {dl : List DS} {l : List n_} {late B R : List Nat} {reads : List (Nat × Nat × Nat)} {sets : List (Nat × Nat)}
theorem DI.c{vals:List V}{Hs:List a_}{m0 m:M}{h hk:a_}{w0 w:World}{a0 a:Act}{L:Array Bool}{env:T V}(D:DI C ops dl env vals Hs m0 h w0 a0 L a w m hk){σ:Sg}{ae:List V}
 (hO:FP C m σ ae env a) {o:Oper} {s:Option (H_×Bool)} (hc:E4 C σ ops o.guard s=true) {b:Bool} (e:V6 ae env s=some b):Region.wanted o (yielded ops a.tmps)=b:=by
 unfold Region.wanted;unfold E4 at hc;split at hc;rename_i hg;rw[hg];cases e;rfl;rename_i j ac x af hg;rw[hg];simp at hc;obtain⟨rfl,hc⟩:=hc;split at hc;rename_i d hd;simp at hc;unfold V6 at e;simp at e;split at e;rename_i c hx;cases e;have K:=hO _ _ _ hc.2 hx;simp only[l_,Act.eval]at K;have Z:d<a.tmps.size:=by rw[D.f];exact hc.1
 have:a.tmps[d]? =some (.bool c):=by rw[WJ,Wz Z]at K;rw[Wz Z];simpa using K
 simp only[yielded,hd,WN,this];cases c<;>cases ac<;>rfl
 rename_i c hx;cases e;have K:=hO _ _ _ hc.2 hx;simp only[l_,Act.eval]at K;let⟨c',K,_⟩:=K;have Z:d<a.tmps.size:=by rw[D.f];exact hc.1
 have:a.tmps[d]? =some (.tuple c'.toArray):=by rw[WJ,Wz Z]at K;rw[Wz Z];simpa using K
 simp only[yielded,hd,WN,this];cases ac<;>rfl
 cases e;cases hc;cases hc
theorem xA {n : Nat} {L : Array Bool} {i : Nat} (hi : i < n) (hL : L.size = n) (hni : ¬ dn L i) :
    ((List.range n).filter fun j => !(L.setIfInBounds i true).getD j false).length < ((List.range n).filter fun j => !L.getD j false).length := by
  have hsub : ∀ j ∈ List.range n, (!(L.setIfInBounds i true).getD j false) = true -> (!L.getD j false) = true := by
    intro j _ hj
    by_cases c : i = j
    · subst c
      have : (L.setIfInBounds i true).getD i false = true := (iN oM).2 (.inl rfl)
      rw [this] at hj; cases hj
    · rw [getD_set_ne false c] at hj; exact hj
  -- the two lists differ at i
  have key : ∀ (js : List Nat), (∀ j ∈ js, (!(L.setIfInBounds i true).getD j false) = true -> (!L.getD j false) = true) -> i ∈ js ->
      (js.filter fun j => !(L.setIfInBounds i true).getD j false).length < (js.filter fun j => !L.getD j false).length := by
    intro js
    induction js with
    | nil => intro _ h; simp at h
    | cons k js ih =>
      intro hs hm
      by_cases c : k = i
      · subst c
        have h1 : (L.setIfInBounds k true).getD k false = true := (iN oM).2 (.inl rfl)
        have h2 : L.getD k false = false := by simpa [dn] using hni
        have := qB js (p := fun j => !(L.setIfInBounds k true).getD j false) (q := fun j => !L.getD j false) (fun j hj => hs j (by simp [hj]))
        simp only [YF, h1, h2, Zg, Bool.not_false, WE, if_false, if_true, Wv]
        omega
      · have hm' : i ∈ js := by obtain q | q:=Wt.1 hm; · exact absurd q.symm c
                                · exact q
        have ih' := ih (fun j hj => hs j (by simp [hj])) hm'
        have e1 : (L.setIfInBounds i true).getD k false = L.getD k false := getD_set_ne false (XK c)
        simp only [YF, e1]
        split
        · simp only [Wv]; omega
        · exact ih'
  exact key _ hsub (eV hi)
theorem yB{Z:Region.Mode}{e:Edge}(h:Region.binds .any e=true):Region.binds Z e=true:=by unfold Region.binds at h|-;split at h<;>simp_all
theorem IP{K:Region.Mode}{L:Array Bool}{R:Nat->Nat}(ac:qo K ops R=true)(hL:L.size=ops.size)(hr:Region.ready K ops L=[]):∀i,i<ops.size->dn L i:=by
 have key:∀r i,R i=r->i<ops.size->dn L i:=by
  intro r;induction r using Nat.strongRecOn with
  |_ r ih=>
   intro i ae Z;by_cases c:dn L i;exact c;exfalso;have hm:i∈Region.ready K ops L:=by
    rw[mem_ready];refine⟨?_,ops[i],Wz Z,fun e he hb=>?_⟩;have:L.getD i false=false:=by simpa[dn]using c
    rw[WJ,Wz oM]at this|-;simpa using this;have h1:=db ac Z;rw[Wz Z]at h1;have h2:=Xw.1 h1 e (eV he);simp[hb]at h2;exact ih (R e.on) oM e.on rfl h2.2
   rw[hr]at hm;simp at hm
 exact fun i Z=>key (R i) i rfl Z
theorem y9{C:Cx}{ops:Array Oper}{n:Nat}{loc:List V}(hV:C.a.contains U_=false){sets0:List (Nat×Nat)}
 (hs:(sets0.all fun(p:Nat×Nat)=>Nat.blt p.2 ops.size&&C.a.contains p.1&&(match(ops[p.2]?).bind (·.dst)with|some t=>Nat.beq t p.1|none=>false))=true):
 ∀(sets:List (Nat×Nat))(env env':T V),(∀p,p∈sets→p∈sets0)→jn n loc sets env=some env'→env'.c_ U_=env.c_ U_
 |[],env,env',_,e=>by cases e;rfl
 |(t,i)::r,env,env',hi,e=>by simp only[jn]at e;split at e;rename_i u hu;rw[y9 hV hs r _ _ (fun p hp=>hi p iX) e,T.v_];intro q;have:=List.all_eq_true.1 hs (t,i) (hi _ iS);simp only[Bool.and_eq_true]at this;rw[←q,hV]at this;simp at this;cases e
theorem BK(hcall:eR P K C.G call)(hc:Nl P C ops l late B R reads sets=true){Q:Exit→Act→World→Prop}{env:T V}{h0:a_}{m0:M}{a0:Act}{w0:World}{ex:Ex}{env':T V}{h':a_}{id:Nat}
 (hG:V1 K C.G m0) (hE:T3 C m0 env a0) (H0:r_ m0 h0 w0) (e:evD call l late reads sets env h0=.b ex env' h')
 (hL:∀a' w' m',ex=.a→T3 C m' env' a'→r_ m' h' w'→P5 m0 h0 w0 m' h' w'→a'.defers=a0.defers→env'.c_ U_=env.c_ U_→Q .normal a' w') {ro:Option Nat}:(Code.region id ops true).wpIn (FR ro) 0 P Q a0 w0:=by
 unfold Nl at hc;simp only[Bool.and_eq_true]at hc;let⟨⟨⟨⟨⟨hsz,hedge⟩,hB⟩,hds⟩,hone⟩,hchain⟩:=hc;have hsz:=Nat.eq_of_beq_eq_true hsz;unfold evD at e;split at e;cases e;rename_i dl h hlay;let⟨y1,y2,_,y4,y5,y6⟩:=By l 0 [] h0 dl h hlay;have hdl:=oG l 0 [] h0 dl h hlay;have heffm:cY (pw late l 0)=cY dl:=ET (oD l 0 [] h0 dl h hlay);have hstart:P5 m0 h0 w0 m0 h w0:=⟨fun _ _ x=>x,fun _ _ a b=>by simp[a]at b,y4,fun p _ hp=>y5 p hp,Nat.le_refl _,fun _ _ _=>rfl,rfl,rfl,rfl,fun _ _ _ x=>x,fun _ _=>T_.b _ _ _,fun _ _ a b=>by simp[a]at b⟩;rw[heffm]at hchain;split at e;rename_i loc hs hdr;cases hrd:reads.all (nU call env l loc hs);rw[hrd]at e;cases e;rw[hrd]at e;simp at e;let⟨vals,hp,hcan,hloc,hhs⟩:=jM dl [] [h] h loc hs hdr;let⟨hvl,hpl,hat⟩:=uJ dl [] h vals hp hcan;have hvl':vals.length=ops.size:=oM;split at e;rename_i env1 h1 hs1 hset;simp at e;obtain⟨rfl,rfl,rfl⟩:=e
 -- the last heap
 have hlast:(h::hp)[iM dl dl.length]? =some h1:=by
  rw[←hpl];have:hp.reverse++[h]=(h::hp).reverse:=by simp
  rw[this]at hhs;have hh:(h::hp).reverse[0]? =some h1:=by rw[←hhs];rfl
  rw[List.getElem?_reverse iS]at hh;simpa using hh
 refine wpIn_region_draw fun t=>?_;have main:∀(md:Region.Mode)(R':Nat→Nat),qo md ops R'=true→∀(fuel:Nat)(L:Array Bool)(a:Act)(w:World),(∃m hk,DI C ops dl env vals (h::hp) m0 h0 w0 a0 L a w m hk)→
  ((List.range ops.size).filter fun i=> !L.getD i false).length≤fuel→wpAnyIn (FR ro) 0 P md ops Q fuel L a w:=by
  intro md R' hrank;have fin:∀(L:Array Bool)(a:Act)(w:World),(∃m hk,DI C ops dl env vals (h::hp) m0 h0 w0 a0 L a w m hk)→(∀i,i<ops.size→dn L i)→Q .normal a w:=by
   rintro L a w ⟨m,hk,D⟩ hall;have hcnt:a? dl L=iM dl dl.length:=BP (Nat.le_refl _) (fun e he hlt=>hall e oM) (fun e he hge=>by
    let⟨s,hs,_⟩:=iv.1 he;have:=(List.getElem?_eq_some_iff.1 hs).1;omega)
   have hkk:=D.g;rw[hcnt,hlast]at hkk;cases hkk;refine hL a w m rfl ⟨D.f,fun s v hs=>?_,hE.2.2⟩ D.n D.d D.k (y9 hE.2.2 (Bool.and_eq_true_iff.1 hds).2 sets env env1 (fun _ x=>x) hset);obtain⟨i,hi,hv⟩|⟨hn,hv⟩:=vP sets env env1 hset s v hs;have hsi:=List.all_eq_true.1 (Bool.and_eq_true_iff.1 hds).2 (s,i) hi;simp only[Bool.and_eq_true,Nat.blt_eq]at hsi;let⟨⟨hlt,hvar⟩,hd⟩:=hsi;refine .inr ⟨hvar,?_⟩;split at hd;rename_i u hu;have:=Nat.eq_of_beq_eq_true hd;subst this;refine D.p i v u (hall i hlt) ?_ hu;rw[hloc]at hv;rw[List.append_nil,List.getElem?_reverse oM]at hv;rw[←hv];congr 1;omega;cases hd;obtain q|⟨h2,h3⟩:=hE.2.1 s v hv;exact .inl q;refine .inr ⟨h2,?_⟩;rw[D.q s (fun i hi hd=>by
    have hlt:i<ops.size:=by obtain q|q:=Nat.lt_or_ge i ops.size;exact q;rw[Array.getElem?_eq_none q]at hd;cases hd
    have h4:=db (Bool.and_eq_true_iff.1 hds).1 hlt;rw[hd]at h4;simp only[Bool.and_eq_true,Bool.or_eq_true]at h4;obtain q|q:=h4.1.2;rw[h2]at q;simp at q;exact hn i (eV q))]
   exact l_.mono D.d.j _ _ h3
  intro fuel;induction fuel with
  |zero=>
   intro L a w hD hf;have hall:∀i,i<ops.size→dn L i:=by
    intro i hi;by_cases c:dn L i;exact c;exfalso;have:i∈((List.range ops.size).filter fun i=> !L.getD i false):=by rw[List.mem_filter];exact⟨by simpa using hi,by simpa[dn]using c⟩
    have:=List.length_pos_of_mem this;omega
   refine⟨?_,fin L a w hD hall⟩;cases hr:Region.ready md ops L with
   |nil=>rfl
   |cons i r=>
    exfalso;have hm:i∈Region.ready md ops L:=by rw[hr];simp
    let⟨h2,o,h3,_⟩:=mem_ready.1 hm;have hi:i<ops.size:=(Array.getElem?_eq_some_iff.1 h3).1;have:=hall i hi;unfold dn at this;let⟨m,hk,D⟩:=hD;rw[Array.getD_eq_getD_getElem?,Array.getElem?_eq_getElem (by rw[D.j];exact hi)]at this h2;simp at this h2;rw[this]at h2;cases h2
  |succ fuel ih=>
   intro L a w hD hf;refine⟨fun hr=>?_,fun i hi=>?_⟩;let⟨m,hk,D⟩:=hD;exact fin L a w ⟨m,hk,D⟩ (IP hrank D.j hr);let⟨m,hk,D⟩:=hD;let⟨hli,o,ho,hbin⟩:=mem_ready.1 hi;have hilt:i<ops.size:=(Array.getElem?_eq_some_iff.1 ho).1;have hni:¬dn L i:=by unfold dn;rw[Array.getD_eq_getD_getElem?,Array.getElem?_eq_getElem (by rw[D.j];exact hilt)]at hli⊢;simp at hli⊢;exact hli
   have hed:∀e∈o.after,Region.binds .any e=true→dn L e.on:=fun e he hb=>hbin e he (yB hb);have hO:=D.i hG hE hB hvl' ho hni hed;have hG':=hG.a D.d;have hone_i:=db hone hilt;have hlt':i<l.length:=oM;rw[ho,List.getElem?_eq_getElem hlt']at hone_i;simp only[Bool.and_eq_true]at hone_i;let⟨⟨⟨hcg,hco⟩,hcr⟩,hcl⟩:=hone_i;have hltd:i<dl.length:=oM;have hdi:dl[i]? =some dl[i]:=List.getElem?_eq_getElem hltd;let⟨v,hb,ha,hv,hhb,hrun,hef,hnef⟩:=hat i dl[i] hdi;have hfst:dl[i].1=l[i]:=by obtain⟨_,q⟩|⟨_,u,c,q,_⟩:=y1 i l[i] (List.getElem?_eq_getElem hlt');exact congrArg Prod.fst (Option.some.inj (hdi.symm.trans q));exact congrArg Prod.fst (Option.some.inj (hdi.symm.trans q))
   have hunl:=xA hilt D.j hni;have hiL:i<L.size:=by rw[D.j];exact hilt
   have go:∀x w' m' hk',l_ m' v x→r_ m' hk' w'→P5 m hk w m' hk' w'→(h::hp)[a? dl (L.setIfInBounds i true)]? =some hk'→
    wpAnyIn (FR ro) 0 P md ops Q fuel (L.setIfInBounds i true) (a.put o.dst x) w':=
    fun x w' m' hk' r H' E' hcn=>ih _ _ _ ⟨m',hk',D.e hds ho hni hed hv r H' E'.j (D.d.a E') hcn (D.a hiL E')⟩ oM
   -- the effects that are done
   have heffcnt:fR dl[i]=true→a? dl L=iM dl i∧a? dl (L.setIfInBounds i true)=iM dl i+1:=by
    intro he;have hmem:i∈cY dl:=iv.2 ⟨dl[i],hdi,he⟩;have pair:∀p q,p∈cY dl→q∈cY dl→p<q→n? B q p=true:=by
     intro p q hp' hq' hlt;have:=List.all_eq_true.1 (List.all_eq_true.1 hchain p hp') q hq';have hb':Nat.blt p q=true:=by rw[Nat.blt_eq];exact hlt
     simpa[hb']using this
    have lt_of:∀p,p∈cY dl→p<ops.size:=by intro p hp';let⟨s,hs,_⟩:=iv.1 hp';have:=(List.getElem?_eq_some_iff.1 hs).1;omega
    have h1:∀p∈cY dl,p<i→dn L p:=fun p hp' hlt=>jN hB D.b i o ho hed p (pair p i hp' hmem hlt) (lt_of p hp');have h2:∀p∈cY dl,i<p→¬dn L p:=fun p hp' hlt hd=>
     hni (jN hB D.b p _ (Array.getElem?_eq_getElem (lt_of p hp')) (D.b p _ (Array.getElem?_eq_getElem (lt_of p hp')) hd) i (pair i p hmem hp' hlt) hilt)
    refine⟨BP oM h1 (fun p hp' hle=>?_),?_⟩;obtain q|q:=Nat.lt_or_eq_of_le hle;exact h2 p hp' q;subst q;exact hni;rw[←ES hdi he];refine BP oM (fun p hp' hlt=>?_) (fun p hp' hle hd=>?_);rw[iN hiL];by_cases c:p=i;exact .inl c;exact .inr (h1 p hp' oM);rw[iN hiL]at hd;obtain q|q:=hd;omega;exact h2 p hp' oM q
   have hnoeff:fR dl[i]=false→a? dl (L.setIfInBounds i true)=a? dl L:=fun he=>
    BO (fun hm=>by let⟨s,hs,h2⟩:=iv.1 hm;rw[hdi]at hs;cases hs;rw[he]at h2;cases h2)
   unfold wpOpIn;rw[ho];simp;obtain⟨hlt1,hhab⟩|⟨hsn,hgt,hop⟩|⟨hsn,hgf,hvu,hha⟩:=hrun
   -- a late block
   obtain⟨_,q⟩|⟨q0,u,c,q,hu2,hu3,hu4⟩:=y1 i l[i] (List.getElem?_eq_getElem hlt');let⟨c1,hc1,_⟩:=hlt1;rw[Option.some.inj (hdi.symm.trans q)]at hc1;cases hc1;have hdu:dl[i]=(l[i],some (u,c)):=Option.some.inj (hdi.symm.trans q);let⟨c1,hc1,hlok⟩:=hlt1;rw[hdu]at hc1 hlok;simp at hc1;obtain⟨rfl,rfl⟩:=hc1;unfold ce at hlok;split at hlok;case h_2=>cases hlok
   rename_i c2 k2 hlc;simp at hlok;have hc2:=lY _ _ hlok.1;have hu1:=qe _ _ hlok.2;subst hc2;rw[Nat.zero_add]at q0;rw[q0]at hcl;have hgn:o.guard=none:=by simpa using hcl
   have hw:Region.wanted o (yielded ops a.tmps)=true:=by unfold Region.wanted;rw[hgn]
   rw[if_pos hw];let⟨b1,b2,b3⟩:=D.r i l[i] u c (by rw[hdi,hdu]) hni;let⟨x,X,elem,hrun,hX,hval⟩:=HL (P:=P) hO hco hlc w;refine⟨fun _ _=>trivial,?_⟩;show o.uponIn (FR ro) 0 P a _ Q ((o.semAt ro a.eval).run P w);rw[Oper.semAt_eq ro a.eval o (fun c' hcc=>by simp[nJ]at hco;rw[hcc]at hco;exact absurd hco.1 (by simp[LP])),hrun];have hes:fR dl[i]=false:=by rw[hdu];rfl
   have H':=D.n.k (elem:=elem) b1 b2 hX;have hle:Le m (eh m (T2 u) ⟨w.heap.size,0,X.size,none⟩):=by intro q l' hq;rw[aE];exact hq;intro e';subst e';rw[b1]at hq;cases hq
   have E0:P5 m0 h0 w0 (eh m (T2 u) ⟨w.heap.size,0,X.size,none⟩) hk (w.alloc (.cells X elem)):=by
    refine⟨fun p l' hp=>hle _ _ (D.d.j _ _ hp),?_,D.d.f,D.d.l,?_,?_,D.d.s,D.d.g,D.d.d,fun b i hb x=>D.d.o b i hb (b?.d m _ _ rfl b i (Nat.lt_of_lt_of_le hb D.d.c) x),fun b hb=>by
     have:=D.d.c;rw[heap_alloc_old w _ _ oM];exact D.d.n b hb,fun p l' hp hn0=>by
     by_cases e':p=T2 u;subst e';rw[av]at hp;cases hp;rfl;rw[aE _ _ e']at hp;exact D.d.r _ _ hp hn0⟩
    intro p l' hp hn0;by_cases e':p=T2 u;subst e';rw[av]at hp;cases hp;exact⟨hu2,.inl D.d.c⟩;rw[aE _ _ e']at hp;exact D.d.k _ _ hp hn0;have:=D.d.c;simp;omega;intro b hb1 hb2;have:=D.d.c;rw[heap_alloc_old w _ _ oM];exact D.d.e b hb1 hb2
   refine ih _ _ _ ⟨_,hk,D.e hds ho hni hed hv ?_ H' hle E0 (by rw[hnoeff hes];exact D.g) ?_⟩ oM;have e:=hval (T2 u) (eh m (T2 u) ⟨w.heap.size,0,X.size,none⟩) (av _ _ _);rw[←hu1]at e;exact e;intro j s' u' c' hj hnd;have hji:j≠i:=fun e'=>hnd ((iN hiL).2 (.inl e'));let⟨g1,g2,g3⟩:=D.r j s' u' c' hj (fun hd=>hnd ((iN hiL).2 (.inr hd)));have hne:T2 u'≠T2 u:=by obtain q'|q':=Nat.lt_or_gt_of_ne hji;have:=y2 j i s' l[i] u' u _ _ q' hj (by rw[hdi,hdu]);omega;have:=y2 i j l[i] s' u u' _ _ q' (by rw[hdi,hdu]) hj;omega
   exact⟨by rw[aE _ _ hne];exact g1,g2,g3⟩;rw[hfst]at hgt hop;rw[if_pos (D.c hO hcg hgt)];have hes:fR dl[i]=j_ l[i].a:=by unfold fR;rw[hsn,hfst]
   cases he:j_ l[i].a
   -- it reads, or reckons
   have hcn:=hnoeff (hes.trans he);have hop':aU call ((vals.take i).reverse++[]) env hk l[i].a=some (v,hk):=by
    have hcase:(∃k xs,l[i].a=.p k xs)∨Oq l[i].a=true:=by
     cases hio:l[i].a with
     |p k xs=>exact .inl ⟨k,xs,rfl⟩
     |a n ia x=>exact .inr rfl
     |o a b c d=>exact .inr rfl
     |j a=>exact .inr rfl
     |_=>rw[hio]at he;simp[j_]at he
    obtain⟨k,xs,hio⟩|hio:=hcase;rw[hio]at hop⊢;exact ER hop hk;have hro:Hd (pw late l 0) B reads i=true:=by rw[hio]at hcr;simpa using hcr
    let⟨r,hr,hr2⟩:=List.any_eq_true.1 hro;let⟨ri,lo,hi'⟩:=r;rw[heffm]at hr2;simp only[Bool.and_eq_true]at hr2;let⟨⟨q1,q2⟩,q3⟩:=hr2;have q1:=Nat.eq_of_beq_eq_true q1;subst q1;have q2:=Nat.le_of_ble_eq_true q2;have q3:=Nat.le_of_ble_eq_true q3;have lt_of:∀p,p∈cY dl→p<ops.size:=by intro p hp';let⟨s,hs,_⟩:=iv.1 hp';have:=(List.getElem?_eq_some_iff.1 hs).1;omega
    have c1:((cY dl).filter fun e=>n? B ri e).length≤a? dl L:=qB _ (fun p hp' hb'=>jN hB D.b ri o ho hed p hb' (lt_of p hp'));have c2:a? dl L+((cY dl).filter fun e=>n? B e ri).length≤(cY dl).length:=pI _ (fun p hp' hd=>by
     cases hbb:n? B p ri;rfl;exact absurd (jN hB D.b p _ (Array.getElem?_eq_getElem (lt_of p hp')) (D.b p _ (Array.getElem?_eq_getElem (lt_of p hp')) hd) ri hbb hilt) hni)
    have hrk:=List.all_eq_true.1 hrd _ hr;unfold nU at hrk;simp only[List.getElem?_eq_getElem hlt']at hrk;have hdrop:loc.drop (l.length-ri-1)=v::((vals.take ri).reverse++[]):=by
     rw[hloc];have hvr:vals[ri]? =some v:=hv;have hrl:ri<vals.length:=oM;have e1:vals.take (ri+1)=vals.take ri++[v]:=by rw[List.take_succ_eq_append_getElem hrl];rw[List.getElem?_eq_getElem hrl]at hvr;cases hvr;rfl
     have e2:(vals.reverse++[]).drop (l.length-ri-1)=(vals.take (ri+1)).reverse:=by rw[List.append_nil,List.drop_reverse];congr 2;omega
     rw[e2,e1];simp
    rw[hdrop]at hrk;simp only[hgt]at hrk;have hmem:hk∈(((h1::hs1).reverse.drop lo).take (hi'+1-lo)):=by
     have hrev:(h1::hs1).reverse=h::hp:=by rw[hhs];simp
     rw[hrev];have hget:=D.g;have:((((h::hp).drop lo).take (hi'+1-lo)))[a? dl L-lo]? =some hk:=by rw[List.getElem?_take,if_pos oM,List.getElem?_drop,(oM:lo+(a? dl L-lo)=a? dl L)];exact hget
     exact List.mem_of_getElem? this
    let⟨g',hg'⟩:=v9 _ hrk hk hmem;have:=wB he hg';subst this;exact hg'
   refine tH hcall hG' hO D.n hco hop' (fun x w' m' r H' E'=>go x w' m' hk r H' E' ?_);rw[hcn];exact D.g
   -- it has an effect
   let⟨e1,e2⟩:=heffcnt (hes.trans he);have hkb:hk=hb:=by have:=D.g;rw[e1,hhb]at this;cases this;rfl
   subst hkb;refine tH hcall hG' hO D.n hco hop (fun x w' m' r H' E'=>go x w' m' ha r H' E' ?_);rw[e2];exact hef (hes.trans he);rw[hfst]at hgf;have hes:fR dl[i]=j_ l[i].a:=by unfold fR;rw[hsn,hfst]
   rw[if_neg (by rw[D.c hO hcg hgf];simp)];refine⟨fun _ _=>trivial,?_⟩;refine go undef w m hk ?_ D.n (P5.b _ _ _) ?_;rw[hvu];exact⟨[],rfl,rfl⟩;cases he:j_ l[i].a;rw[hnoeff (hes.trans he)];exact D.g;let⟨e1,e2⟩:=heffcnt (hes.trans he);have hkb:hk=hb:=by have:=D.g;rw[e1,hhb]at this;cases this;rfl
   rw[e2,hkb,←hha];exact hef (hes.trans he)
 have start:∀md R',qo md ops R'=true→∀t,wpOpsIn (FR ro) 0 P ops Q (Region.linearise md ops t) a0 {w0 with drawn:=w0.drawn+1}:=by
  intro md R' hrank t;refine wpAnyIn_sound ops.size t _ a0 _ (main md R' hrank ops.size _ a0 _ ⟨m0,h,?_⟩ (by
   have:=List.length_filter_le (fun i=> !(Array.replicate ops.size false).getD i false) (List.range ops.size);simpa using this))
  have hnone:∀i,¬dn (Array.replicate ops.size false) i:=by intro i hi;unfold dn at hi;rw[Array.getD_eq_getD_getElem?]at hi;by_cases c:i<ops.size;simp[c]at hi;simp[c]at hi
  refine⟨iS,fun i o _ hd=>absurd hd (hnone i),hE.1,rfl,fun t _=>rfl,?_,(y6 m0 w0 H0).r rfl,hstart.a (P5.h m0 h w0),fun i v t hd=>absurd hd (hnone i),?_⟩;have:a? dl (Array.replicate ops.size false)=0:=by unfold a?;rw[List.length_eq_zero_iff,List.filter_eq_nil_iff];intro e _;exact hnone e
  rw[this];rfl;intro i s u c hi _;have hil:i<l.length:=by have:=(List.getElem?_eq_some_iff.1 hi).1;omega
  obtain⟨_,q⟩|⟨_,u',c',q,hu2,hu3,hu4⟩:=y1 i l[i] (List.getElem?_eq_getElem hil);rw[hi]at q;cases q;rw[hi]at q;cases q;refine⟨?_,hu4,hu3⟩;exact H0.b hu2
 unfold AD at hedge;simp only[Bool.and_eq_true]at hedge;unfold Region.schedule;split;exact start .any _ hedge.1.1 t;split;exact start .text _ hedge.1.2 _;exact start .gc _ hedge.2 _;cases e;cases e
end
end Go.Ev
