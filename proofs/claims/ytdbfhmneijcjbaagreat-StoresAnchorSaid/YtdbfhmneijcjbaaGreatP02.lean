/- An evaluator of the program, and contracts over it: EvLp to EvZa. -/
import Derived.RangeFuncRecord
import Derived.OrdersIn
import Derived.Test.YtdbfhmneijcjbaaGreatP01
set_option linter.unusedSimpArgs false
set_option linter.unusedVariables false
set_option linter.constructorNameAsVariable false
set_option linter.unnecessarySimpa false
noncomputable section
namespace Go.Ev
def T4(h:b_)(k:Y8):b_:=⟨h.S.B_ h.i k,h.i+1,h.Q⟩
def K_(h:b_)(b:Nat)(k:Y8):b_:=⟨h.S.B_ b k,h.i,h.Q⟩
section
variable {P : Program} {m : M} {h : b_} {w : World}
theorem r_.v(H:r_ m h w){w1:World}{L:Nat}{g:LG}{env:T V}(hk:∀i,i<w.heap.size->w1.heap[i]? =w.heap[i]?)(ak:w.heap.size<=L)
 (hL:w1.heap[L]? =some (.loop {g.r with state:=.ready,pending:=none})) (ae:∀s v,env.c_ s=some v->s=U7\/(g.a.contains s=true/\m_ m v (g.r.tmps.getD s undef))):
 r_ (eU m h.i ⟨L,0,0,some g⟩) (T4 h (.b g.b g.c g.d env 0 none)) w1:=by
 have ab:=H.f ⟨L,0,0,some g⟩;have ac:L<w1.heap.size:=(We.1 hL).1;refine⟨⟨?_,?_⟩,?_,?_,?_⟩;intro p cp f k Z;show match h.Q.c_ f with|none=>f=p|some (_,e)=>k<=e
 rw[T4,WB]at Z;by_cases e:p=h.i;grind;rw[if_neg e]at Z;exact H.g.b _ _ _ _ Z;intro p Z;have aj:h.i+1<=p:=Z;refine⟨?_,(H.g.a p oM).2⟩;rw[T4,Vi _ _ oM];exact(H.g.a p oM).1;intro p K Z;by_cases e:p=h.i;subst e;rw[aB]at Z;cases Z;exact⟨.b g.b g.c g.d env 0 none,by rw[T4,VS],g,rfl,rfl,rfl,rfl,hL,fun s v hs=>(ae s v hs).imp id fun q=>⟨q.1,WA ab _ _ q.2⟩⟩;rw[aJ _ _ e]at Z;let⟨b,hb,r⟩:=H.d p K Z;exact⟨b,by rw[T4,Vi _ _ e];exact hb,r.ag ab (fun _ _ _ _ x=>x) (hk _ (H.a p K Z))⟩;intro p K Z;by_cases e:p=h.i;subst e;rw[aB]at Z;cases Z;exact ac;rw[aJ _ _ e]at Z;have:=H.a p K Z;omega;intro p q lp lq Z hq he af;by_cases e:p=h.i;subst e;rw[aB]at Z;cases Z;rw[aJ _ _ (WW af)]at hq;have:=H.a q lq hq;simp at he;omega;rw[aJ _ _ e]at Z;by_cases e2:q=h.i;subst e2;rw[aB]at hq;cases hq;have:=H.a p lp Z;simp at he;omega;rw[aJ _ _ e2]at hq;let⟨cp,cq,f,kp,kq,a,b,d⟩:=H.c p q lp lq Z hq he af;exact⟨cp,cq,f,kp,kq,by rw[T4,Vi _ _ e];exact a,by rw[T4,Vi _ _ e2];exact b,d⟩
theorem r_.n(H:r_ m h w){b:Nat}{Z:V1}(hm:m b=some Z){ps:List Nat}{as bd:IC}{env:T V}{st:Nat}{K:Option Ex}(hb:h.S.c_ b=some (.b ps as bd env st K)):
 ∃g,Z.d=some g/\g.b=ps/\g.c=as/\g.d=bd/\w.heap[Z.a]? =some (.loop {g.r with state:=l? st,pending:=K.map ju})/\
  ∀s v,env.c_ s=some v->s=U7\/(g.a.contains s=true/\m_ m v (g.r.tmps.getD s undef)):=by
 let⟨bk,ab,rel⟩:=H.d b Z hm;rw[hb]at ab;cases ab;exact rel
theorem r_.o(H:r_ m h w){b:Nat}{K:V1}(hm:m b=some K){ps:List Nat}{as bd:IC}{env:T V}{st:Nat}{aj:Option Ex}(hb:h.S.c_ b=some (.b ps as bd env st aj))
 {g:LG} (hg:K.d=some g) (ab:Nat) (Z:Option Ex):
 r_ m (K_ h b (.b ps as bd env ab Z)) (w.putObj K.a (.loop {g.r with state:=l? ab,pending:=Z.map ju}))/\
 P9 m h w m (K_ h b (.b ps as bd env ab Z)) (w.putObj K.a (.loop {g.r with state:=l? ab,pending:=Z.map ju})):=by
 have ar:=H.a b K hm;let⟨g',an,e1,e2,e3,e4,e5⟩:=H.n hm hb;rw[hg]at an;cases an;have ac:∀p lp,m p=some lp->p≠b->lp.a≠K.a:=by intro p lp hp af ae;let⟨cp,cq,f,kp,kq,a1,a2,_⟩:=H.c p b lp K hp hm ae af;rw[hb]at a2;cases a2
 refine⟨⟨⟨?_,?_⟩,?_,?_,?_⟩,⟨fun _ _ x=>x,fun p l a c=>(by rw[a]at c;cases c),Ve _,?_,iS,?_,rfl,rfl,rfl,fun _ _ _ x=>x,?_,fun _ _ a b=>by simp[a]at b⟩⟩;intro p cp f k hp;show match h.Q.c_ f with|none=>f=p|some (_,e)=>k<=e
 rw[K_,WB]at hp;by_cases e:p=b;grind;rw[if_neg e]at hp;exact H.g.b _ _ _ _ hp;intro p hp;have ak:=H.g.a p hp;have ax:p≠b:=by grind
 exact⟨by rw[K_,Vi _ _ ax];exact ak.1,ak.2⟩;intro p lp hp;by_cases e:p=b;subst e;rw[hm]at hp;cases hp;exact⟨.b ps as bd env ab Z,by rw[K_,VS],g,hg,e1,e2,e3,World.putObj_heap_same ar,e5⟩;let⟨bk,a0,r⟩:=H.d p lp hp;exact⟨bk,by rw[K_,Vi _ _ e];exact a0,r.ag (fun _ _ x=>x) (fun _ _ _ _ x=>x) (World.putObj_heap_other (ac p lp hp e))⟩;intro p lp hp;have:=H.a p lp hp;simpa using this;intro p q lp lq hp hq ae af;let⟨cp,cq,f,kp,kq,a1,a2,a3⟩:=H.c p q lp lq hp hq ae af;have h1:p≠b:=by grind
 have h2:q≠b:=by grind
 exact⟨cp,cq,f,kp,kq,by rw[K_,Vi _ _ h1];exact a1,by rw[K_,Vi _ _ h2];exact a2,a3⟩;intro p hn hp;have h1:p≠b:=by grind
 rw[K_,Vi _ _ h1];intro k hk aH;exact World.putObj_heap_other (fun e=>hk b K hm e.symm);intro q ay;by_cases h4:q=K.a;subst h4;intro x hx;rw[e4]at hx;cases hx;exact⟨_,World.putObj_heap_same ar,trivial⟩;exact XY (World.putObj_heap_other h4)
theorem r_.A(H:r_ m h w){b:Nat}{ab:V1}(hm:m b=some ab){ps:List Nat}{as bd:IC}{env:T V}{st:Nat}{aj:Option Ex}(hb:h.S.c_ b=some (.b ps as bd env st aj))(o:Obj):
 r_ (eU m b {ab with d:=none}) (K_ h b .d) (w.putObj ab.a o):=by
 have ac:Geo m (eU m b {ab with d:=none}):=by intro q l hq;by_cases e:q=b;subst e;rw[hm]at hq;cases hq;exact⟨_,aB _ _ _,rfl,rfl,rfl⟩;exact⟨l,by rw[aJ _ _ e];exact hq,rfl,rfl,rfl⟩
 have K:∀p lp,m p=some lp->p≠b->lp.a≠ab.a:=by intro p lp Z ae af;let⟨cp,cq,f,kp,kq,a1,a2,_⟩:=H.c p b lp ab Z hm af ae;rw[hb]at a2;cases a2
 refine⟨⟨?_,?_⟩,?_,?_,?_⟩;intro p cp f k Z;show match h.Q.c_ f with|none=>f=p|some (_,e)=>k<=e
 rw[K_,WB]at Z;by_cases e:p=b;grind;rw[if_neg e]at Z;exact H.g.b _ _ _ _ Z;intro p Z;have ak:=H.g.a p Z;have ar:p≠b:=by grind
 exact⟨by rw[K_,Vi _ _ ar];exact ak.1,ak.2⟩;intro p lp Z;by_cases e:p=b;subst e;exact⟨.d,by rw[K_,VS],trivial⟩;rw[aJ _ _ e]at Z;let⟨bk,ay,r⟩:=H.d p lp Z;refine⟨bk,by rw[K_,Vi _ _ e];exact ay,?_⟩;have hw:(w.putObj ab.a o).heap[lp.a]? =w.heap[lp.a]? :=World.putObj_heap_other (K p lp Z e);cases bk with
 |a c f k=>intro an;let⟨C,el,fz,a,b',c',d,e'⟩:=r an;exact⟨C,el,fz,hw.trans a,b',c',fun i v hi=>let⟨x,hx,rx⟩:=d i v hi;⟨x,hx,m_.bp ac _ _ rx⟩,e'⟩
 |f es clock=>let⟨ax,a,b',c⟩:=r;refine⟨ax,hw.trans a,b',fun i k v n hi=>?_⟩;let⟨e',he,r1,r2,r3⟩:=c i k v n hi;exact⟨e',he,m_.bp ac _ _ r1,m_.bp ac _ _ r2,r3⟩
 |b ps as bd en st aj=>let⟨g,q1,q2,q3,q4,q5,q6⟩:=r;exact⟨g,q1,q2,q3,q4,hw.trans q5,fun s v hs=>(q6 s v hs).imp id fun q=>⟨q.1,m_.bp ac _ _ q.2⟩⟩
 |e s pos=>exact⟨r.1,hw.trans r.2⟩
 |d=>trivial
 intro p lp Z;by_cases e:p=b;subst e;rw[aB]at Z;cases Z;simpa using H.a p ab hm;rw[aJ _ _ e]at Z;simpa using H.a p lp Z;intro p q lp lq Z hq af ae;by_cases e:p=b;subst e;rw[aB]at Z;cases Z;rw[aJ _ _ (WW ae)]at hq;exact absurd af.symm (K q lq hq (WW ae));rw[aJ _ _ e]at Z;by_cases e2:q=b;subst e2;rw[aB]at hq;cases hq;exact absurd af (K p lp Z ae);rw[aJ _ _ e2]at hq;let⟨cp,cq,f,kp,kq,a,b',d⟩:=H.c p q lp lq Z hq af ae;exact⟨cp,cq,f,kp,kq,by rw[K_,Vi _ _ e];exact a,by rw[K_,Vi _ _ e2];exact b',d⟩
theorem P9.p(H:r_ m h w){w1 w2:World}{L:Nat}{g:LG}{k:Y8}{m2:M}{h2:b_}{o:Obj}(hk:∀i,i<w.heap.size->w1.heap[i]? =w.heap[i]?)(ax:w.heap.size<=L)(ay:w.heap.size<=w1.heap.size)
 (ak:w1.os=w.os) (an:w1.tape=w.tape) (af:w1.output=w.output) (E:P9 (eU m h.i ⟨L,0,0,some g⟩) (T4 h k) w1 m2 h2 w2):
 P9 m h w (eU m2 h.i ⟨L,0,0,none⟩) (K_ h2 h.i .d) (w2.putObj L o):=by
 have ac:∀p l,m p=some l->p≠h.i:=fun p l Z x=>by subst x;rw[H.b (Ve _)]at Z;cases Z
 have ab:∀b i,b<w.heap.size->Y9 (eU m h.i ⟨L,0,0,some g⟩) b i->Y9 m b i:=by rintro b i hb ⟨q,l,K,h1,h2,h3⟩;by_cases e:q=h.i;subst e;rw[aB]at K;cases K;simp at h1;omega;rw[aJ _ _ e]at K;exact⟨q,l,K,h1,h2,h3⟩
 have hnx:(T4 h k).i=h.i+1:=rfl;refine⟨?_,?_,?_,?_,?_,?_,E.s.trans ak,E.g.trans an,E.d.trans af,?_,?_,?_⟩;intro p l Z;rw[aJ _ _ (ac p l Z)];exact E.j p l (by rw[aJ _ _ (ac p l Z)];exact Z);intro p l Z hn;by_cases e:p=h.i;subst e;rw[aB]at Z;cases Z;exact⟨Ve _,.inl ax⟩;rw[aJ _ _ e]at Z;let⟨n1,n2⟩:=E.k p l Z (by rw[aJ _ _ e];exact hn);rw[hnx]at n1;refine⟨oM,?_⟩;obtain n2|⟨q,lq,K,e2⟩:=n2;omega;by_cases e3:q=h.i;subst e3;rw[aB]at K;cases K;exact .inl (by simp at e2;omega);rw[aJ _ _ e3]at K;exact .inr ⟨q,lq,K,e2⟩;have:=E.f;rw[hnx]at this;show h.i<=h2.i;omega;intro p hn Z;have ae:p≠h.i:=oM;show(h2.S.B_ h.i .d).c_ p=_;rw[Vi _ _ ae,E.l p (by rw[aJ _ _ ae];exact hn) oM];show(h.S.B_ h.i k).c_ p=_;rw[Vi _ _ ae];have:=E.c;simp;omega;intro b hb ar;rw[World.putObj_heap_other oM,E.e b (fun p l Z e=>?_) oM,hk b ar];by_cases e2:p=h.i;subst e2;rw[aB]at Z;cases Z;simp at e;omega;rw[aJ _ _ e2]at Z;exact hb p l Z e;rintro b i hb ⟨q,l,K,h1,aj,h3⟩;by_cases e:q=h.i;subst e;rw[aB]at K;cases K;simp at h1;omega;rw[aJ _ _ e]at K;exact ab b i hb (E.o b i oM ⟨q,l,K,h1,aj,h3⟩);intro b hb;rw[World.putObj_heap_other oM,<-hk b hb];exact(T6.b m b _).c (fun j x=>ab b j hb x) (E.n b oM);intro p l Z hn;by_cases e:p=h.i;subst e;rw[aB]at Z;cases Z;rfl;rw[aJ _ _ e]at Z;exact E.r p l Z (by rw[aJ _ _ e];exact hn)
end
def M?(m:M)(r:Nat):Prop:=∀p loc,m p=some loc->loc.a≠r
theorem M?.bx{m K:M}{h h':b_}{w w':World}{r:Nat}(o:M? m r)(E:P9 m h w K h' w')(hr:r<w.heap.size):M? K r:=by
 intro p Z hp e;cases h0:m p with
 |some l0=>have:=E.j _ _ h0;rw[hp]at this;cases this;exact o p Z h0 e
 |none=>obtain q|⟨q,lq,hq,e2⟩:=(E.k p Z hp h0).2;omega;exact o q lq hq (e2.trans e)
theorem r_.p{m:M}{h:b_}{w:World}(H:r_ m h w){r:Nat}(o:M? m r)(x:Obj):r_ m h (w.putObj r x):=by refine⟨H.g,fun p Z K=>?_,fun p Z K=>by simpa using H.a p Z K,H.c⟩;let⟨b,hb,rb⟩:=H.d p Z K;exact⟨b,hb,rb.ag (fun _ _ x=>x) (fun _ _ _ _ x=>x) (World.putObj_heap_other (o p Z K))⟩
theorem P9.i{m m':M}{h h':b_}{w w':World}(E:P9 m h w m' h' w'){r:Nat}(hr:w.heap.size<=r)(x:Obj):P9 m h w m' h' (w'.putObj r x):=
 ⟨E.j,E.k,E.f,E.l,by simpa using E.c,fun b hb hl=>(World.putObj_heap_other oM).trans (E.e b hb hl),E.s,E.g,E.d,E.o,
  fun b hb=>by rw[World.putObj_heap_other oM];exact E.n b hb,E.r⟩
def R9(B:Nat)(m:M)(w:World):List Deferred->Prop
 |[]=>True
 |d::ds=>(∃r,d={target:=.collected r,args:= #[]}/\B<=r/\w.heap[r]? =some (.deferred (some []))/\M? m r/\∀d'∈ds,d'.target≠.collected r)/\R9 B m w ds
theorem R9.bx{B:Nat}{m m':M}{h h':b_}{w w':World}(E:P9 m h w m' h' w'):∀{ds:List Deferred},R9 B m w ds→R9 B m' w' ds
 |[],_=>trivial
 |_::_,⟨⟨r,h1,h2,h3,h4,h5⟩,t⟩=>
  have hlt:=(Array.getElem?_eq_some_iff.1 h3).1
  ⟨⟨r,h1,h2,(E.e r h4 hlt).trans h3,h4.bx E hlt,h5⟩,R9.bx E t⟩
theorem R9.ZK{B:Nat}{m:M}{w:World}{r:Nat}{x:Obj}:∀{ds:List Deferred},(∀d∈ds,d.target≠.collected r)->R9 B m w ds->R9 B m (w.putObj r x) ds
 |[],_,_=>trivial
 |d::ds,hn,⟨⟨r',h1,h2,h3,h4,h5⟩,t⟩=>⟨⟨r',h1,h2,(World.putObj_heap_other (fun e=>hn d iS (by rw[h1,e]))).trans h3,h4,h5⟩,R9.ZK (fun d' hd=>hn d' iX) t⟩
inductive S9 where
 |b (e:Ex) (env:T V) (h:b_)
 |a
def E_(loc:List V)(env:T V)(x:G_):Option V:=
 G_.rec (motive:=fun _=>Option V) (fun k=>X0 loc k) (fun s=>env.c_ s) (fun v=>some v) (fun n=>some (.u n 0)) x
def eP(loc:List V)(env:T V)(xs:List G_):Option (List V):=
 List.rec (motive:=fun _=>Option (List V)) (some []) (fun x _ ih=>
  Option.rec (motive:=fun _=>Option (List V)) none (fun v=>Option.rec (motive:=fun _=>Option (List V)) none (fun vs=>some (v::vs)) ih) (E_ loc env x)) xs
def fN{β:Type}(n:Nat)(k:Nat->β):β:=Nat.rec (motive:=fun _=>β) (k 0) (fun j _=>k (Nat.succ j)) n
theorem LW{β:Type}(n:Nat)(k:Nat->β):fN n k=k n:=by cases n<;>rfl
def fI{β:Type}(n:Int)(k:Int->β):β:=Int.rec (motive:=fun _=>β) (fun a=>fN a fun a=>k (.ofNat a)) (fun a=>fN a fun a=>k (.negSucc a)) n
theorem Og{β:Type}(n:Int)(k:Int->β):fI n k=k n:=by cases n<;>simp[fI,LW]
def fB{β:Type}(b:Bool)(k:Bool->β):β:=Bool.rec (motive:=fun _=>β) (k false) (k true) b
theorem Oh{β:Type}(b:Bool)(k:Bool->β):fB b k=k b:=by cases b<;>rfl
def fV{β:Type}(v:V)(k:V->β):β:=
 match v with
 |.h b=>fB b fun b=>k (.h b)
 |.C t n=>fI n fun n=>k (.C t n)
 |.u b o=>fN b fun b=>fN o fun o=>k (.u b o)
 |.z b o l c=>fN b fun b=>fN o fun o=>fN l fun l=>fN c fun c=>k (.z b o l c)
 |.L b o l c=>fN b fun b=>fN o fun o=>fN l fun l=>fN c fun c=>k (.L b o l c)
 |v=>k v
theorem AR{β:Type}(v:V)(k:V->β):fV v k=k v:=by cases v<;>simp[fV,Oh,Og,LW]
abbrev aL:=Nat->List V->b_->Option (V×b_)
def aS(call:aL)(loc:List V)(env:T V)(h:b_)(o:Q_):Option (V×b_):=
 match o with
 |.p k xs=>match eP loc env xs with
  |some vs=>match aP k vs with
   |some v=>some (v,h)
   |none=>none
  |none=>none
 |.a n ia x=>match E_ loc env x with
  |some v=>match jN h n ia v with
   |some v=>some (v,h)
   |none=>none
  |none=>none
 |.g n x y=>match E_ loc env x with
  |some p=>match E_ loc env y with
   |some v=>match gT h n p v with
    |some h=>some (.G [],h)
    |none=>none
   |none=>none
  |none=>none
 |.d zero=>some (.u h.i 0,k_ h zero)
 |.r x=>match E_ loc env x with
  |some v=>some (.u h.i 0,k_ h v.s)
  |none=>none
 |.b zero places len xs=>match eP loc env xs with
  |some vs=>kw h zero places len vs
  |none=>none
 |.h zero bytes x y=>match E_ loc env x with
  |some l=>match E_ loc env y with
   |some c=>xI h zero bytes l c
   |none=>none
  |none=>none
 |.i esz bytes x y=>match E_ loc env x with
  |some s=>match E_ loc env y with
   |some v=>jO h esz bytes s v
   |none=>none
  |none=>none
 |.q esz x y=>match E_ loc env x with
  |some s=>match E_ loc env y with
   |some v=>nR h esz s v
   |none=>none
  |none=>none
 |.c f xs=>match eP loc env xs with
  |some vs=>call f vs h
  |none=>none
 |.e x xs=>match E_ loc env x with
  |some (.I (.func f) first caps)=>match eP loc env xs with
   |some vs=>bif Nat.blt f YB then call f (first++vs++caps) h else none
   |none=>none
  |some (.ak b)=>match eP loc env xs with
   |some vs=>call (YB+b) vs h
   |none=>none
  |_=>none
 |.s xs=>match eP loc env xs with
  |some vs=>amm h vs
  |none=>none
 |.o ks zero ok xs=>match eP loc env xs with
  |some [x,key]=>match D? h ks zero ok x key with
   |some v=>some (v,h)
   |none=>none
  |_=>none
 |.z ks xs=>match eP loc env xs with
  |some [x,key,val]=>N? h ks x key val
  |_=>none
 |.l zero x=>match E_ loc env x with
  |some d=>CB h zero d
  |none=>none
 |.j x=>match E_ loc env x with
  |some d=>match zC h d with
   |some v=>some (v,h)
   |none=>none
  |none=>none
 |.A x xs=>match E_ loc env x with
  |some (.I (.func f) first caps)=>match eP loc env xs with
   |some vs=>(match env.c_ U7 with
    |some _=>none
    |none=>bif Nat.blt f YB then some (.G (.I (.func f) first caps::vs),h)else none)
   |none=>none
  |_=>none
 |.v nx x=>match E_ loc env x with
  |some d=>u? h nx d
  |none=>none
 |.u=>none
def V3(loc:List V)(env:T V)(g:Option (G_×Bool)):Option Bool:=
 match g with
 |none=>some true
 |some (x,want)=>match E_ loc env x with
  |some (.h b)=>some (!(xor b want))
  | some (.G _) => some false -- the guard was passed over itself
  |_=>none
def dV(call:aL)(l:List n_):List V->T V->b_->S9:=
 List.rec (motive:=fun _=>List V->T V->b_->S9) (fun _ env h=>.b .a env h)
  (fun s _ ih loc env h=>
   match V3 loc env s.c with
   |some true=>match aS call loc env h s.a with
    |some (v,h)=>fV v fun v=>match s.b with
     |none=>ih (v::loc) env h
     |some d=>ih loc (env.B_ d v) h
    |none=>.a
   |some false=>match s.b with
    |none=>ih (.G []::loc) env h
    |some d=>ih loc (env.B_ d (.G [])) h
   |none=>.a) l
def g_:Q_->Bool
 |.p _ _=>false
 |.a _ _ _=>false
 |.o _ _ _ _=>false
 |.j _=>false
 |_=>true
def jG(loc:List V)(env:T V)(o:Q_):Option (List V×Option (Nat×Nat)):=
 match o with
 |.d zero=>some (zero,none)
 |.r x=>match E_ loc env x with
  |some v=>some (v.s,none)
  |none=>none
 |.b zero places len xs=>match eP loc env xs with
  |some vs=>match dY (aW zero len) places vs with
   |some c=>some (c,some (len,len))
   |none=>none
  |none=>none
 |.h zero bytes x y=>match E_ loc env x with
  |some l=>match E_ loc env y with
   |some c=>match mkN bytes l c with
    |some (n,k)=>some (aW zero k,some (n,k))
    |none=>none
   |none=>none
  |none=>none
 |_=>none
def eZ(id:Nat):Option (Nat×Nat)->V
 |some (n,k)=>.z id 0 n k
 |none=>.u id 0
def S_:V->Nat
 |.u b _=>b
 |.z b _ _ _=>b
 |_=>0
abbrev DS:=n_×Option (V×List V)
def fS(s:DS):Bool:=match s.2 with
 |some _=>false
 |none=>g_ s.1.a
def wZ(call:aL)(loc:List V)(env:T V)(h:b_)(s:n_):V:=
 bif g_ s.a then .G []else match aS call loc env h s.a with
  |some (v,_)=>v
  |none=>.G []
def Q8(call:aL)(env:T V)(late:List Nat):List n_->Nat->List V->b_->Option (List DS×b_)
 |[],_,_,h=>some ([],h)
 |s::l,i,loc,h=>
  bif late.contains i then
   match jG loc env s.a with
   |some (c,k)=>match Q8 call env late l (i+1) (eZ h.i k::loc) (k_ h c)with
    |some (r,h')=>some ((s,some (eZ h.i k,c))::r,h')
    |none=>none
   |none=>none
  else
   match Q8 call env late l (i+1) (wZ call loc env h s::loc) h with
   |some (r,h')=>some ((s,none)::r,h')
   |none=>none
def cI(loc:List V)(env:T V)(o:Q_)(u:V)(c:List V):Bool:=
 match jG loc env o with
 |some (c',k)=>nT c c'&&R4 u (eZ (S_ u) k)
 |none=>false
def iZ(call:aL)(env:T V)(l:List DS):List V->List b_->b_->Option (List V×List b_):=
 List.rec (motive:=fun _=>List V->List b_->b_->Option (List V×List b_)) (fun loc hs _=>some (loc,hs))
  (fun s _ ih loc hs h=>
   match s.2 with
   |some (u,c)=>bif cI loc env s.1.a u c then ih (u::loc) hs h else none
   |none=>
    match V3 loc env s.1.c with
    |some true=>match aS call loc env h s.1.a with
     |some (v,h')=>fV v fun v=>bif g_ s.1.a then ih (v::loc) (h'::hs) h' else ih (v::loc) hs h
     |none=>none
    |some false=>bif g_ s.1.a then ih (.G []::loc) (h::hs) h else ih (.G []::loc) hs h
    |none=>none) l
def gU(call:aL)(loc:List V)(env:T V)(o:Q_)(v:V):List b_->Bool
 |[]=>true
 |h::hs=>(match aS call loc env h o with
  |some (u,_)=>R4 u v
  |none=>false)&&gU call loc env o v hs
def oG(call:aL)(env:T V)(l:List n_)(loc:List V)(hs:List b_)(r:Nat×Nat×Nat):Bool:=
 match r with
 |(i,lo,hi)=>match l[i]?,loc.drop (l.length-i-1)with
  |some s,v::loc'=>(match V3 loc' env s.c with
   |some true=>gU call loc' env s.a v ((hs.reverse.drop lo).take (hi+1-lo))
   |_=>true)
  |_,_=>false
def i9(n:Nat)(loc:List V):List (Nat×Nat)->T V->Option (T V)
 |[],env=>some env
 |(s,i)::r,env=>match loc[n-i-1]? with
  |some v=>i9 n loc r (env.B_ s v)
  |none=>none
def j?(call:aL)(l:List n_)(late:List Nat)(reads:List (Nat×Nat×Nat))(sets:List (Nat×Nat))(env:T V)(h0:b_):S9:=
 match Q8 call env late l 0 [] h0 with
 |none=>.a
 |some (dl,h)=>
 match iZ call env dl [] [h] h with
 |some (loc,hs)=>bif reads.all (oG call env l loc hs)then
  (match i9 l.length loc sets env,hs with
   |some env',h'::_=>.b .a env' h'
   |_,_=>.a)
  else .a
 |none=>.a
def V8(body:T V->b_->S9)(k:Nat):T V->b_->S9:=
 Nat.rec (motive:=fun _=>T V->b_->S9) body (fun _ ih env h=>match ih env h with
  |.b .a env h=>ih env h
  |r=>r) k
def iF(call:aL)(e:Ex)(env:T V)(h:b_):S9:=
 match env.c_ U7 with
 |none=>.b e env h
 |some (.G (.I (.func f) first caps::args))=>(match call f (first++args++caps) h with
  |some (_,h)=>.b e env h
  |none=>.a)
 |_=>.a
def O_(call:aL)(c:IC):T V->b_->S9:=
 IC.rec (motive:=fun _=>T V->b_->S9)
  (fun env h=>.b .a env h)
  (fun l env h=>dV call l [] env h)
  (fun _ _ a b env h=>match a env h with
   |.b .a env h=>b env h
   |r=>r)
  (fun x _ _ a b env h=>match E_ [] env x with
   |some (.h t)=>bif t then a env h else b env h
   |_=>.a)
  (fun id _ c env h=>match c env h with
   |.b (.c i) env h=>bif Nat.beq i id then .b .a env h else .b (.c i) env h
   |r=>r)
  (fun _ c env h=>match V8 c 48 env h with
   |.b .a _ _=>.a
   |r=>r)
  (fun id env h=>.b (.c id) env h)
  (fun env h=>.b .d env h)
  (fun _ l _ c r env h=>match c env h with
   |.b (.b i) env h=>bif Nat.beq i l then
    (match V8 (fun env h=>match r env h with
     |.b (.b i) env h=>bif Nat.beq i l then .b .a env h else .b (.b i) env h
     |.b .a env h=>.b (.b l) env h
     |r=>r) 48 env h with
     |.b .a _ _=>.a
     |.b (.b i) env h=>bif Nat.beq i l then .b .a env h else .a
     |r=>r)
    else .a
   |r=>r)
  (fun l env h=>.b (.b l) env h)
  (fun l late _ reads sets env h=>j? call l late reads sets env h)
  (fun _ _=>.a)
  (fun g ps as bd _ _ env h=>match E_ [] env g with
   |some (.I (.func f) first caps)=>bif Nat.blt f YB then
    (match call f (first++[.ak h.i]++caps) (T4 h (.b ps as bd env 0 none))with
     |some (_,h2)=>(match h2.S.c_ h.i with
      |some (.b _ _ _ _ st pend)=>bif Nat.beq st 1 then .a else .b (match pend with|some ex=>ex|none=>.a) env (K_ h2 h.i .d)
      |_=>.a)
     |none=>.a)
    else .a
   |_=>.a)
  (fun _ c env h=>match c env h with
   |.b .a env h=>iF call .a env h
   |.b .d env h=>iF call .d env h
   |_=>.a) c
def nQ:List Nat->List V->T V->T V
 |p::ps,v::vs,env=>nQ ps vs (env.B_ p v)
 |_,_,env=>env
def ZV(run:IC->T V->b_->S9)(b:Nat)(vs:List V)(h:b_):Option (V×b_):=
 match h.S.c_ b with
 |some (.b ps as bd env 0 none)=>bif Nat.beq vs.length ps.length then
  (match run as (nQ ps vs env) h with
   |.b .a env1 h1=>(match h1.S.c_ b with
    |some (.b ps1 as1 bd1 en1 0 p1)=>(match run bd env1 (K_ h1 b (.b ps1 as1 bd1 en1 1 p1))with
     |.b ex _ h2=>(match h2.S.c_ b with
      |some (.b ps2 as2 bd2 en2 _ _)=>(match ex with
       |.a=>some (.h true,K_ h2 b (.b ps2 as2 bd2 en2 0 none))
       |ex=>some (.h false,K_ h2 b (.b ps2 as2 bd2 en2 2 (some ex))))
      |_=>none)
     |.a=>none)
    |_=>none)
   |_=>none)
  else none
 |_=>none
inductive RV where
 |t (s:Nat)
 |c (s n:Nat) (ia:Bool)
structure l_ where
 b:Nat
 d:IC
 a:List RV
def vd:List n_->List Nat
 |[]=>[]
 |s::l=>match s.b with
  |some d=>d::vd l
  |none=>vd l
def vz:IC->List Nat
 |.o l=>vd l
 |.f a b|.e _ a b|.j a _ b=>vz a++vz b
 |.d _ a|.n a|.v a=>vz a
 |.h _ _ _ _ t=>t.map Prod.fst
 |.s _ p a b=>p++(vz a++vz b)
 |_=>[]
def l_.c(f:l_):List Nat:=List.range f.b++vz f.d
def evR(env:T V)(h:b_):RV->Option V
 |.t s=>env.c_ s
 |.c s n ia=>match env.c_ s with
  |some v=>jN h n ia v
  |none=>none
def fQ(env:T V)(h:b_):List RV->Option (List V)
 |[]=>some []
 |r::rs=>match evR env h r with
  |some v=>match fQ env h rs with
   |some vs=>some (v::vs)
   |none=>none
  |none=>none
def gV(vs:List V):Nat->T V->T V:=
 List.rec (motive:=fun _=>Nat->T V->T V) (fun _ en=>en) (fun v _ ih i en=>ih (Nat.succ i) (en.B_ i v)) vs
def Y7(ov:aL)(F:T l_)(n:Nat):aL:=
 Nat.rec (motive:=fun _=>aL) (fun _ _ _=>none)
  (fun _ ih f vs h=>match F.c_ f with
   |some fn=>bif Nat.beq vs.length fn.b then
    (match O_ ih fn.d (gV vs 0 .e) h with
     |.b .a env h=>match fQ env h fn.a with
      |some [v]=>fV v fun v=>some (v,h)
      |some vs=>some (.G vs,h)
      |none=>none
     |.b .d env h=>match fQ env h fn.a with
      |some [v]=>fV v fun v=>some (v,h)
      |some vs=>some (.G vs,h)
      |none=>none
     |_=>none)
    else none
   |none=>bif Nat.ble YB f then ZV (O_ ih) (f-YB) vs h else ov f vs h) n
inductive ZU where
 |l (k:Nat)
 |v (s:Nat)
 |x (o:Operand)
 |a
abbrev Sg:=List (Nat×ZU)
def fJ:Sg->Nat->Option ZU
 |[],_=>none
 |(d,s)::r,t=>if d=t then some s else fJ r t
def vg:ZU->ZU
 |.l k=>.l (k+1)
 |s=>s
def FA:Sg->Sg
 |[]=>[]
 |(d,s)::r=>(d,vg s)::FA r
def nV(d t:Nat):ZU->ZU
 |.v s=>if t=d\/s=d then .a else .v s
 |s=>if t=d then .a else s
def zP(d:Nat):Sg->Sg
 |[]=>[]
 |(t,s)::r=>(t,nV d t s)::zP d r
def rY(G:Nat):Operand->G_->Bool
 |.const x,.c v=>V9 v x
 |.global g,.g n=>Nat.beq g n&&Nat.blt g G
 |.func f,.c (.I (.func f') [] [])=>Nat.beq f f'
 |_,_=>false
def dA(G:Nat):ZU->G_->Bool
 |.l k,.l j=>Nat.beq k j
 |.v s,.v t=>Nat.beq s t
 |.x o,y=>rY G o y
 |_,_=>false
structure Cx where
 G:Nat
 a:List Nat
 N:Nat
 b:Bool
def nA(C:Cx)(σ:Sg):Operand->G_->Bool
 |.tmp t,y=>match fJ σ t with
  |some s=>dA C.G s y
  |none=>match y with
   |.v s=>Nat.beq s t&&C.a.contains t
   |_=>false
 |o,y=>rY C.G o y
def cL(C:Cx)(σ:Sg):List Operand->List G_->Bool
 |[],[]=>true
 |o::os,y::ys=>nA C σ o y&&cL C σ os ys
 |_,_=>false
def cT(P:Program)(C:Cx)(σ:Sg)(o:Oper):Q_->Bool
 |.p k xs=>bL P o.op k&&cL C σ o.op.operands.toList xs
 |.a n ia x=>zf P o.op n ia&&cL C σ o.op.operands.toList [x]
 |.g n x y=>uW P o.op n&&cL C σ o.op.operands.toList [x,y]
 |.d zero=>qf P o.op zero
 |.r x=>zh o.op&&cL C σ o.op.operands.toList [x]
 |.b zero places len xs=>mW P o.op zero places len&&cL C σ o.op.operands.toList xs
 |.h zero bytes x y=>qd P o.op zero bytes&&cL C σ o.op.operands.toList [x,y]
 |.i esz bytes x y=>zj P o.op esz bytes&&cL C σ o.op.operands.toList [x,y]
 |.q esz x y=>zg P o.op esz&&cL C σ o.op.operands.toList [x,y]
 |.c f xs=>match o.op with
  |.call {callee:=.value (.func f'),args, .. }=>Nat.beq f f'&&cL C σ args.toList xs&&Nat.blt f YB
  |_=>false
 |.e x xs=>match o.op with
  |.call {callee:=.value y,args, .. }=>nA C σ y x&&cL C σ args.toList xs
  |_=>false
 |.s xs=>In P o.op&&cL C σ o.op.operands.toList xs
 |.o ks zero ok xs=>Io P o.op ks zero ok&&cL C σ o.op.operands.toList xs
 |.z ks xs=>Im P o.op ks&&cL C σ o.op.operands.toList xs
 |.l zero x=>Cp P o.op zero&&cL C σ o.op.operands.toList [x]
 |.j x=>Cq P o.op&&cL C σ o.op.operands.toList [x]
 |.A _ _=>false
 |.v nx x=>Ip P o.op nx&&cL C σ o.op.operands.toList [x]
 |.u=>true
def LN:Op->Bool
 |.defer _=>false
 |_=>true
def nN(P:Program)(C:Cx)(σ:Sg)(o:Oper)(i:Q_):Bool:=LN o.op&&cT P C σ o i
def L9(C:Cx)(σ:Sg)(o:Oper)(s:n_):Bool:=
 C.b&&(match s.b with|some d=>Nat.beq d U7|none=>false)&&(match o.dst with|none=>true|some _=>false)&&(match o.guard,s.c with|none,none=>true|_,_=>false)&&
 (match s.a with
  |.A x xs=>(match o.op with
   |.defer {callee:=.value y,args, .. }=>nA C σ y x&&cL C σ args.toList xs
   |_=>false)
  |_=>false)
def Fu(C:Cx)(σ:Sg)(ops:Array Oper)(g:Option (Nat×Bool))(s:Option (G_×Bool)):Bool:=
 match g,s with
 |none,none=>true
 |some (j,want),some (x,want')=>(want==want')&&(match(ops[j]?).bind (·.dst)with
  |some d=>Nat.blt d C.N&&nA C σ (.tmp d) x
  |none=>false)
 |_,_=>false
def A7(C:Cx)(d:Option Nat)(s:Option Nat):Bool:=
 match d,s with
 |none,none=>true
 |some d,none=> !C.a.contains d&&Nat.blt d C.N
 |some d,some e=>Nat.beq d e&&C.a.contains d&&Nat.blt d C.N
 |none,some _=>false
def qq(σ:Sg)(d:Option Nat)(s:Option Nat):Sg:=
 match d,s with
 |none,_=>FA σ
 |some d,none=>(d,.l 0)::FA σ
 |some d,some _=>zP d σ
def zA(C:Cx)(σ:Sg)(ops:Array Oper)(o:Oper):Option (Nat×ZU):=
 match o.op,o.guard,o.dst with
 |.move x,none,some d=>
  if !C.a.contains d&&Nat.blt d C.N then
   match x with
   |.tmp t=>
    match fJ σ t with
    |some (.v s)=>if ops.any (fun p=>p.dst==some s)then none else some (d,.v s)
    |some s=>some (d,s)
    |none=>if C.a.contains t&& !ops.any (fun p=>p.dst==some t)then some (d,.v t)else none
   |x=>some (d,.x x)
  else none
 |_,_,_=>none
def DG(σ:Sg):Sg:=zP U7 σ
def iT(P:Program)(C:Cx)(ops:Array Oper):List Oper->List n_->Sg->Bool
 |[],[],_=>true
 |[],_::_,_=>false
 |o::os,steps,σ=>
  match zA C σ ops o with
  |some p=>iT P C ops os steps (p::σ)
  |none=>match steps with
   |[]=>false
   |s::rest=>Fu C σ ops o.guard s.c&&nN P C σ o s.a&&A7 C o.dst s.b&&iT P C ops os rest (qq σ o.dst s.b)||(L9 C σ o s&&iT P C ops os rest (DG σ))
def V6(K:LG->Prop)(G:Nat)(m:M):Prop:=(∀g,g<G->∃r,m g=some ⟨g,0,r,none⟩)/\∀p loc g,m p=some loc->loc.d=some g->K g
theorem V6.a{K:LG->Prop}{G:Nat}{m m':M}{h h':b_}{w w':World}(a:V6 K G m)(E:P9 m h w m' h' w'):V6 K G m':=
 ⟨fun g hg=>let⟨r,hr⟩:=a.1 g hg;⟨r,E.j _ _ hr⟩,fun p loc g hp hl=>by
  cases h0:m p with
  |some l0=>have:=E.j _ _ h0;rw[hp]at this;cases this;exact a.2 p loc g h0 hl
  |none=>rw[E.r p loc hp h0]at hl;cases hl⟩
variable {K : LG -> Prop}
def p?(G:Nat)(m:M)(loc:List V)(env:T V)(a:Act)(σ:Sg):Prop:=
 ∀t s,fJ σ t=some s->∀y v,dA G s y=true->E_ loc env y=some v->m_ m v (a.tmps.getD t undef)
def T1(C:Cx)(m:M)(env:T V)(a:Act):Prop:=
 a.tmps.size=C.N/\(∀s v,env.c_ s=some v->s=U7\/(C.a.contains s=true/\m_ m v (a.tmps.getD s undef)))/\C.a.contains U7=false
theorem T1.bq{C:Cx}{m:M}{env:T V}{a:Act}(Z:T1 C m env a){s:Nat}{v:V}(K:C.a.contains s=true)(e:env.c_ s=some v):m_ m v (a.tmps.getD s undef):=by obtain q|q:=Z.2.1 s v e;rw[q,Z.2.2]at K;cases K;exact q.2
theorem q7{G:Nat}{m:M}{o:Operand}{y:G_}{Z:List V}{env:T V}{v:V}{a:Act}(hG:V6 K G m)(h:rY G o y=true)(e:E_ Z env y=some v):m_ m v (a.eval o):=by unfold rY at h;split at h;cases e;exact yb m _ _ h;cases e;simp only[Vd,VE]at h;have:=Vf h.1;subst this;let⟨r,hr⟩:=hG.1 _ h.2;exact⟨_,hr,rfl⟩;cases e;have:=Vf h;subst this;exact⟨[],[],rfl,rfl,rfl⟩;cases h
theorem ij{C:Cx}{m:M}{σ:Sg}{o:Operand}{y:G_}{Z:List V}{env:T V}{v:V}{a:Act}(hG:V6 K C.G m)(hI:p? C.G m Z env a σ)(hE:T1 C m env a)
 (h:nA C σ o y=true) (e:E_ Z env y=some v):m_ m v (a.eval o):=by
 unfold nA at h;split at h;rename_i t;split at h;rename_i s hs;exact hI t s hs y v h e;split at h;rename_i s;simp only[Vd]at h;have:=Vf h.1;subst this;exact hE.bq h.2 e;cases h;exact q7 hG h e
theorem qY(Z:List V)(env:T V)(x:G_)(xs:List G_):eP Z env (x::xs)=match E_ Z env x with
 |some v=>(match eP Z env xs with|some vs=>some (v::vs)|none=>none)
 |none=>none:=by
 show Option.rec (motive:=fun _=>Option (List V)) none (fun v=>Option.rec (motive:=fun _=>Option (List V)) none (fun vs=>some (v::vs)) (eP Z env xs)) (E_ Z env x)=_;cases E_ Z env x with
 |none=>rfl
 |some v=>cases eP Z env xs<;>rfl
def FY(C:Cx)(m:M)(σ:Sg)(loc:List V)(env:T V)(a:Act):Prop:=∀(o:Operand)(y:G_)(v:V),nA C σ o y=true->E_ loc env y=some v->m_ m v (a.eval o)
theorem bJ{C:Cx}{m:M}{σ:Sg}{loc:List V}{env:T V}{a:Act}(hO:FY C m σ loc env a):
 ∀(os:List Operand)(ys:List G_)(vs:List V),cL C σ os ys=true->eP loc env ys=some vs->h_ m vs (os.map a.eval)
 |[],[],vs,_,e=>by cases e;rfl
 |[],_::_,_,h,_=>by simp[cL]at h
 |_::_,[],_,h,_=>by simp[cL]at h
 |o::os,y::ys,vs,h,e=>by
  simp[cL]at h;rw[qY]at e;cases h1:E_ loc env y with
  |none=>rw[h1]at e;cases e
  |some v=>
   rw[h1]at e;cases h2:eP loc env ys with
   |none=>rw[h2]at e;cases e
   |some ws=>rw[h2]at e;cases e;exact⟨_,_,rfl,hO _ _ _ h.1 h1,bJ hO os ys ws h.2 h2⟩
theorem uM{Z:List V}{env:T V}{x:G_}{v:V}(h:E_ Z env x=some v):eP Z env [x]=some [v]:=by rw[qY,h];rfl
theorem AU{Z:List V}{env:T V}{x y:G_}{v u:V}(h:E_ Z env x=some v)(k:E_ Z env y=some u):eP Z env [x,y]=some [v,u]:=by rw[qY,h,uM k]
def nw(m:M)(h:b_)(w:World)(v:V)(h':b_):Ending->World->Prop:=fun e w'=>∃x m',e=.returned x/\m_ m' v x/\r_ m' h' w'/\P9 m h w m' h' w'
abbrev FR(ro:Option Nat):Fence:={Fence.wide with round:=ro}
def fu(P:Program)(K:LG->Prop)(G:Nat)(call:aL):Prop:=∀f vs h v h',call f vs h=some (v,h')->
 (f<YB->(∃fn,P.funcs[f]? =some fn/\fn.body.isSome=true/\(fn.name== "runtime.NumGoroutine")=false)/\
  ∀m w (args:List Value),h_ m vs args->r_ m h w->V6 K G m->
   Calls P f (List.toArray args) w (nw m h w v h')/\∀u,CallsDIn Fence.wide 0 P f (List.toArray args) u w (fun e u' w'=>u'=u/\nw m h w v h' e w'))/\
 (YB<=f->∀m w (args:List Value) loc,m (f-YB)=some loc->h_ m vs args->r_ m h w->V6 K G m->
  ∃r:Loop,w.heap[loc.a]? =some (.loop r)/\args.length=r.params.size/\
   RoundIn Fence.wide 0 P loc.a r.fn ((r.params.zip (List.toArray args)).foldl (fun tmps (t,a)=>tmps.setIfInBounds t a) r.tmps) r.assign r.body w (nw m h w v h'))
theorem gW{P:Program}{w:World}{f:FuncId}{Z:Array Value}(h:∃fn,P.funcs[f]? =some fn/\fn.body.isSome=true/\(fn.name== "runtime.NumGoroutine")=false):
 (callFunc f Z).run P w=.ok (.enter f Z) w:=by
 let⟨fn,hf,hb,hn⟩:=h;have K:fn.body.isNone=false:=by cases hh:fn.body<;>simp_all
 simp only[callFunc,Vr,run_program,Vh,hf,hn,K,VO,if_false,Vz]
theorem uk{P:Program}{C:Cx}{call:aL}(af:fu P K C.G call){m:M}{h h':b_}{w:World}{σ:Sg}{ae:List V}{env:T V}{a:Act}{o:Oper}{i:Q_}{v:V}
 (hG:V6 K C.G m) (hO:FY C m σ ae env a) (H:r_ m h w) (hc:nN P C σ o i=true) (e:aS call ae env h i=some (v,h')) {K0:Act->World->Prop} {Q:Exit->Act->World->Prop}
 (hK:∀x w' m',m_ m' v x->r_ m' h' w'->P9 m h w m' h' w'->K0 (a.put o.dst x) w') {ro:Option Nat}:o.wpIn (FR ro) 0 P a w K0 Q:=by
 unfold nN at hc;simp at hc;obtain⟨ar,hc⟩:=hc;have aj:o.semAt ro a.eval=execOp a.eval o:=Oper.semAt_eq ro a.eval o (fun c hcc=>by rw[hcc]at ar;cases ar);have fin:MS P m h w o a.eval v h'->o.wpIn (FR ro) 0 P a w K0 Q:=by rintro⟨x,w',m',hg,r,H',E'⟩;refine⟨fun _ _=>trivial,?_⟩;show o.uponIn (FR ro) 0 P a K0 Q ((o.semAt ro a.eval).run P w);rw[aj];obtain hg|⟨hg,rfl⟩:=hg;rw[hg];exact hK x w' m' r H' E';rw[hg];exact hK undef w' m' r H' E'
 have ac:∀{f:Nat}{Z:List Value},(execOp a.eval o).run P w=.ok (.enter f (List.toArray Z)) w->Calls P f (List.toArray Z) w (nw m h w v h')->o.wpIn (FR ro) 0 P a w K0 Q:=by intro f Z hr ak;refine⟨fun _ _=>trivial,?_⟩;show o.uponIn (FR ro) 0 P a K0 Q ((o.semAt ro a.eval).run P w);rw[aj,hr];have ax:CallsIn Fence.wide 0 P f (List.toArray Z) w (nw m h w v h'):=callsIn_wide.2 ak;refine⟨fun q=>absurd q (by simp[Fence.wide]),CallsIn.mono (F:=FR ro) (n:=0) ax ?_⟩;rintro en w' ⟨x,m',rfl,r,H',E'⟩;exact hK x w' m' r H' E'
 have one:∀x u,cL C σ o.op.operands.toList [x]=true->E_ ae env x=some u->h_ m [u] (OV a.eval o.op):=fun x u h1 h2=>bJ hO _ _ _ h1 (uM h2);have two:∀x y u t,cL C σ o.op.operands.toList [x,y]=true->E_ ae env x=some u->E_ ae env y=some t->h_ m [u,t] (OV a.eval o.op):=fun x y u t h1 h2 h3=>bJ hO _ _ _ h1 (AU h2 h3);unfold aS at e;split at e;rename_i k xs;simp[cT]at hc;split at e;rename_i vs ab;split at e;rename_i u hu;cases e;exact fin (Jj H (IG hc.1 (bJ hO _ _ _ hc.2 ab) hu));cases e;cases e;rename_i n ia x;simp[cT]at hc;split at e;rename_i u hu;split at e;rename_i t ht;cases e;obtain⟨x,r,hr⟩:=Bu (P:=P) H hc.1 (one _ _ hc.2 hu) ht;exact fin ⟨x,w,m,.inl hr,r,H,Xx _ _ _⟩;cases e;cases e;rename_i n x y;simp[cT]at hc;split at e;rename_i p hp;split at e;rename_i u hu;split at e;rename_i h2 ay;cases e;exact fin (zu H hc.1 (two _ _ _ _ hc.2 hp hu) ay);cases e;cases e;cases e;cases e;simp[cT]at hc;exact fin (zD H hc);simp[cT]at hc;split at e;rename_i u hu;cases e;exact fin (CC H hc.1 (one _ _ hc.2 hu));cases e;simp[cT]at hc;split at e;rename_i vs ab;exact fin (v8 H hc.1 (bJ hO _ _ _ hc.2 ab) e);cases e;simp[cT]at hc;split at e;rename_i p hp;split at e;rename_i u hu;exact fin (Bt H hc.1 (two _ _ _ _ hc.2 hp hu) e);cases e;cases e;simp[cT]at hc;split at e;rename_i p hp;split at e;rename_i u hu;exact fin (CE H hc.1 (two _ _ _ _ hc.2 hp hu) e);cases e;cases e;simp[cT]at hc;split at e;rename_i p hp;split at e;rename_i u hu;exact fin (Bx H hc.1 (two _ _ _ _ hc.2 hp hu) e);cases e;cases e;rename_i f xs;simp[cT]at hc;split at hc;rename_i f' Z ts hy;simp only[Vd,VE]at hc;have:=Vf hc.1.1;subst this;split at e;rename_i vs ab;have hv:=bJ hO _ _ _ hc.1.2 ab;obtain⟨hf,ak⟩:=(af f vs h v h' e).1 hc.2;have hr:(execOp a.eval o).run P w=.ok (.enter f (List.toArray (Z.toList.map a.eval))) w:=by have q:Z.map a.eval=List.toArray (Z.toList.map a.eval):=YU iS;simp only[execOp,hy,resolve,Act.eval,Deferred.ofValue,Vr,Vz,Vh,invoke];rw[show((#[]:Array Value)++Z.map a.eval++(#[]:Array Value))=List.toArray (Z.toList.map a.eval) by simp[q]];exact gW hf
 exact ac hr (ak m w _ hv H hG).1;cases e;cases hc;rename_i x xs;simp[cT]at hc;split at hc;rename_i y Z ts hy;simp at hc;split at e;rename_i f first caps hx
 split at e;rename_i vs ab;have hv:=bJ hO _ _ _ hc.2 ab;have aH:=hO _ _ _ hc.1 hx;let⟨f',c',a0,rf,rc⟩:=aH;cases an:Nat.blt f YB;grind;rw[an]at e;simp only[cond_true]at e;let⟨hf,ak⟩:=(af f _ h v h' e).1 ((VE ..).mp an);have hr:(execOp a.eval o).run P w=.ok (.enter f (List.toArray (f'++Z.toList.map a.eval++c'))) w:=by have q:Z.map a.eval=List.toArray (Z.toList.map a.eval):=YU iS;simp only[execOp,hy,resolve,a0,Deferred.ofValue,Vr,Vz,Vh,invoke];rw[show(List.toArray f'++Z.map a.eval++List.toArray c')=List.toArray (f'++Z.toList.map a.eval++c') by simp];exact gW hf
 exact ac hr (ak m w _ (Xw (Xw rf hv) rc) H hG).1;cases e;rename_i b hx;split at e;rename_i vs ab;have hv:=bJ hO _ _ _ hc.2 ab;let⟨ae,hm,a0⟩:=hO _ _ _ hc.1 hx;let⟨r,a2,a1,a3⟩:=(af _ vs h v h' e).2 (Nat.le_add_right _ _) m w _ ae (by rw[XK];exact hm) hv H hG;refine⟨fun _ _=>trivial,?_⟩;show o.uponIn (FR ro) 0 P a K0 Q ((o.semAt ro a.eval).run P w);rw[aj];have hr:(execOp a.eval o).run P w=.ok (.round ae.a r.fn ((r.params.zip (List.toArray (Z.toList.map a.eval))).foldl (fun tmps (t,a)=>tmps.setIfInBounds t a) r.tmps) r.assign r.body) w:=by have q:Z.map a.eval=List.toArray (Z.toList.map a.eval):=YU iS;simp only[execOp,hy,resolve,a0,Deferred.ofValue,Vr,Vz,Vh,invoke];rw[show((#[]:Array Value)++Z.map a.eval)=List.toArray (Z.toList.map a.eval) by simp[q]];exact run_yield a2 (eV a1)
 rw[hr];refine⟨fun q=>absurd q (by simp[Fence.wide]),RoundIn.mono a3 ?_⟩;rintro en w' ⟨x,m',rfl,r,H',E'⟩;exact hK x w' m' r H' E';cases e;cases e;cases hc;simp[cT]at hc;split at e;rename_i vs ab;exact fin (FE H hc.1 (bJ hO _ _ _ hc.2 ab) e);cases e;simp[cT]at hc;split at e;rename_i x key ab;split at e;rename_i u hu;cases e;exact fin (FJ H hc.1 (bJ hO _ _ _ hc.2 ab) hu);cases e;cases e;simp[cT]at hc;split at e;rename_i x key val ab;exact fin (FD H hc.1 (bJ hO _ _ _ hc.2 ab) e);cases e;simp[cT]at hc;split at e;rename_i d hd;exact fin (CA H hc.1 (one _ _ hc.2 hd) e);cases e;simp[cT]at hc;split at e;rename_i d hd;split at e;rename_i u hu;cases e;exact fin (CD H hc.1 (one _ _ hc.2 hd) hu);cases e;cases e;simp[cT]at hc;simp[cT]at hc;split at e;rename_i d hd;exact fin (FK H hc.1 (one _ _ hc.2 hd) e);cases e;cases e
variable {K : LG -> Prop}
theorem EG(σ:Sg)(t:Nat):fJ (FA σ) t=(fJ σ t).map vg:=by
 induction σ with
 |nil=>rfl
 |cons p r ih=>let⟨d,s⟩:=p;simp[FA,fJ];by_cases h:d=t;grind;grind
theorem ur(d:Nat)(σ:Sg)(t:Nat):fJ (zP d σ) t=(fJ σ t).map (nV d t):=by
 induction σ with
 |nil=>rfl
 |cons p r ih=>let⟨e,s⟩:=p;simp[zP,fJ];by_cases h:e=t;grind;grind
theorem fP(a:Act)(d:Nat)(x:Value)(t:Nat)(Z:d<a.tmps.size):(a.put (some d) x).tmps.getD t undef=if t=d then x else a.tmps.getD t undef:=by simp[Act.put];by_cases h:t=d;grind;grind
theorem pG(a:Act)(d:Option Nat)(x:Value):(a.put d x).tmps.size=a.tmps.size:=by cases d<;>simp[Act.put]
theorem Ia{G:Nat}{s:ZU}{y:G_}{Z:List V}{env:T V}{u v:V}(h:dA G (vg s) y=true)(e:E_ (u::Z) env y=some v):
 ∃y',dA G s y'=true/\E_ Z env y'=some v:=by
 cases s with
 |l k=>
  simp[vg]at h;cases y with
  |l j=>simp only[dA]at h;have:=Vf h;subst this;exact⟨.l k,by simp[dA],e⟩
  |_=>simp[dA]at h
 |v s=>refine⟨y,h,?_⟩;simp[vg]at h;cases y<;>simp[dA]at h;exact e
 |x o=>
  refine⟨y,h,?_⟩;simp[vg,dA]at h;cases y with
  |l k=>cases o<;>simp[rY]at h
  |v s=>cases o<;>simp[rY]at h
  |c x=>exact e
  |g n=>exact e
 |a=>simp[vg,dA]at h
theorem xe{G:Nat}{d t:Nat}{s:ZU}{y:G_}{Z:List V}{env:T V}{u v:V}(h:dA G (nV d t s) y=true)(e:E_ Z (env.B_ d u) y=some v):
 t≠d/\dA G s y=true/\E_ Z env y=some v:=by
 cases s with
 |l k=>simp[nV]at h;by_cases c:t=d;rw[if_pos c]at h;simp[dA]at h;rw[if_neg c]at h;refine⟨c,h,?_⟩;cases y<;>simp[dA]at h;exact e
 |v s=>simp[nV]at h;by_cases c:t=d\/s=d;rw[if_pos c]at h;simp[dA]at h;rw[if_neg c]at h;refine⟨fun q=>c (.inl q),h,?_⟩;cases y<;>simp[dA]at h;subst h;show env.c_ s=some v;rw[<-Vi env u (fun q=>c (.inr q))];exact e
 |x o=>
  simp[nV]at h;by_cases c:t=d;rw[if_pos c]at h;simp[dA]at h;rw[if_neg c]at h;refine⟨c,h,?_⟩;simp[dA]at h;cases y with
  |l k=>cases o<;>simp[rY]at h
  |v s=>cases o<;>simp[rY]at h
  |c x=>exact e
  |g n=>exact e
 |a=>simp only[nV]at h;by_cases c:t=d<;>simp[dA]at h
def kV(loc:List V)(v:V):Option Nat->List V
 |none=>v::loc
 |some _=>loc
def iB(env:T V)(v:V):Option Nat->T V
 |none=>env
 |some d=>env.B_ d v
theorem sD{C:Cx}{m m':M}(ae:Le m m'){af:List V}{env:T V}{a:Act}{σ:Sg}(hI:p? C.G m af env a σ)(K:T1 C m env a){d s:Option Nat}(hd:A7 C d s=true)
 {v:V} {x:Value} (r:m_ m' v x):p? C.G m' (kV af v s) (iB env v s) (a.put d x) (qq σ d s)/\T1 C m' (iB env v s) (a.put d x):=by
 have ac:∀t s',fJ (FA σ) t=some s'->∀y u,dA C.G s' y=true->E_ (v::af) env y=some u->m_ m' u (a.tmps.getD t undef):=by
  intro t s' Z y u hy he;rw[EG]at Z;cases hl:fJ σ t with
  |none=>rw[hl]at Z;cases Z
  |some s0=>rw[hl]at Z;cases Z;let⟨y',h1,h2⟩:=Ia hy he;exact WA ae _ _ (hI t s0 hl y' u h1 h2)
 unfold A7 at hd;split at hd;refine⟨ac,K.1,fun s u Z=>(K.2.1 s u Z).imp id fun q=>⟨q.1,WA ae _ _ q.2⟩,K.2.2⟩;rename_i d;simp only[Vd,WM,VE]at hd;have ab:d<a.tmps.size:=by rw[K.1];exact hd.2
 refine⟨?_,by rw[pG];exact K.1,fun s u Z=>?_,K.2.2⟩;intro t s' Z y u hy he;simp[qq,fJ]at Z;rw[fP a d x t ab];by_cases c:d=t;rw[if_pos c]at Z;cases Z;rw[if_pos c.symm];cases y<;>simp[dA]at hy;subst hy;cases he;exact r
 rw[if_neg c]at Z;rw[if_neg (WW c)];exact ac t s' Z y u hy he;obtain q|⟨h1,h2⟩:=K.2.1 s u Z;exact .inl q;refine .inr ⟨h1,?_⟩;rw[fP a d x s ab,if_neg (by intro q;subst q;rw[h1]at hd;simp at hd)];exact WA ae _ _ h2;rename_i d e;simp only[Vd,VE]at hd;have:=Vf hd.1.1;subst this;have ab:d<a.tmps.size:=by rw[K.1];exact hd.2
 refine⟨?_,by rw[pG];exact K.1,fun s u Z=>?_,K.2.2⟩;intro t s' Z y u hy he;simp[qq]at Z;rw[ur]at Z;cases hl:fJ σ t with
 |none=>rw[hl]at Z;cases Z
 |some s0=>rw[hl]at Z;cases Z;let⟨aj,h1,h2⟩:=xe hy he;rw[fP a d x t ab,if_neg aj];exact WA ae _ _ (hI t s0 hl y u h1 h2)
 simp[iB]at Z;rw[WB]at Z;rw[fP a d x s ab];by_cases c:s=d;grind;rw[if_neg c]at Z;rw[if_neg c];exact(K.2.1 s u Z).imp id fun q=>⟨q.1,WA ae _ _ q.2⟩;cases hd
theorem AI{C:Cx}{m:M}{ae:List V}{env:T V}{a:Act}{σ:Sg}{ops:Array Oper}(hG:V6 K C.G m)(hI:p? C.G m ae env a σ)(hE:T1 C m env a){o:Oper}{s:Option (G_×Bool)}
 (Z:Fu C σ ops o.guard s=true) {b:Bool} (e:V3 ae env s=some b):Region.wanted o (yielded ops a.tmps)=b:=by
 unfold Region.wanted;unfold Fu at Z;split at Z;rename_i hg;rw[hg];cases e;rfl;rename_i j ac x af hg;rw[hg];simp at Z;obtain⟨rfl,Z⟩:=Z;split at Z;rename_i d hd;simp at Z;unfold V3 at e;simp at e;split at e;rename_i c hx;cases e;have hr:=ij hG hI hE Z.2 hx;simp only[m_,Act.eval]at hr;have ab:d<a.tmps.size:=by rw[hE.1];exact Z.1
 have:a.tmps[d]? =some (.bool c):=by rw[VP,VB ab]at hr;rw[VB ab];simpa using hr
 simp only[yielded,hd,VX,this];cases c<;>cases ac<;>rfl
 rename_i c hx;cases e;have hr:=ij hG hI hE Z.2 hx;simp only[m_,Act.eval]at hr;let⟨c',hr,_⟩:=hr;have ab:d<a.tmps.size:=by rw[hE.1];exact Z.1
 have:a.tmps[d]? =some (.tuple c'.toArray):=by rw[VP,VB ab]at hr;rw[VB ab];simpa using hr
 simp only[yielded,hd,VX,this];cases ac<;>rfl
 cases e;cases Z;cases Z
theorem Bv{C:Cx}{m:M}{ab:List V}{env:T V}{a:Act}{σ:Sg}{ops:Array Oper}(hG:V6 K C.G m)(hI:p? C.G m ab env a σ)(hE:T1 C m env a){o:Oper}{p:Nat×ZU}
 (h:zA C σ ops o=some p):∃x,o.op=.move x/\o.guard=none/\o.dst=some p.1/\p? C.G m ab env (a.put o.dst (a.eval x)) (p::σ)/\T1 C m env (a.put o.dst (a.eval x)):=by
 unfold zA at h;split at h;rename_i x d af ak Z;split at h;rename_i aj;simp only[Vd,WM,VE]at aj;have ar:d<a.tmps.size:=by rw[hE.1];exact aj.2
 have ae:T1 C m env (a.put (some d) (a.eval x)):=by refine⟨by rw[pG];exact hE.1,fun s u hs=>?_,hE.2.2⟩;obtain q|⟨h1,h2⟩:=hE.2.1 s u hs;exact .inl q;refine .inr ⟨h1,?_⟩;rw[fP a d _ s ar,if_neg (by intro q;subst q;rw[h1]at aj;simp at aj)];exact h2
 have ac:∀s0:ZU,(∀y v,dA C.G s0 y=true->E_ ab env y=some v->m_ m v (a.eval x))->p? C.G m ab env (a.put (some d) (a.eval x)) ((d,s0)::σ):=by intro s0 hs0 t s' hs y u hy he;simp[fJ]at hs;rw[fP a d _ t ar];by_cases c:d=t;grind;rw[if_neg c]at hs;rw[if_neg (WW c)];exact hI t s' hs y u hy he
 split at h;rename_i t;split at h;rename_i s hl;split at h;cases h;cases h;exact⟨_,af,ak,Z,by rw[Z];exact ac _ (fun y v hy he=>hI t _ hl y v hy he),by rw[Z];exact ae⟩;rename_i s hl;cases h;exact⟨_,af,ak,Z,by rw[Z];exact ac _ (fun y v hy he=>hI t _ hl y v hy he),by rw[Z];exact ae⟩;rename_i hl;split at h;cases h;have key:∀y v,dA C.G (.v t) y=true->E_ ab env y=some v->m_ m v (a.eval (.tmp t)):=by intro y v hy he;cases y<;>simp[dA]at hy;subst hy;rename_i an;simp only[Vd]at an;exact hE.bq an.1 he
 exact⟨_,af,ak,Z,by rw[Z];exact ac _ key,by rw[Z];exact ae⟩;cases h;cases h;exact⟨_,af,ak,Z,by rw[Z];exact ac _ (fun y v hy he=>q7 hG hy he),by rw[Z];exact ae⟩;cases h;cases h
theorem j4(a:Act)(d:Option Nat)(x:Value):(a.put d x).defers=a.defers:=by cases d<;>rfl
theorem dd(call:aL)(s:n_)(l:List n_)(Z:List V)(env:T V)(h:b_):dV call (s::l) Z env h=
 match V3 Z env s.c with
  |some true=>(match aS call Z env h s.a with
   |some (v,h)=>dV call l (kV Z v s.b) (iB env v s.b) h
   |none=>.a)
  |some false=>dV call l (kV Z (.G []) s.b) (iB env (.G []) s.b) h
  |none=>.a:=by
 show(match V3 Z env s.c with
  |some true=>(match aS call Z env h s.a with
   |some (v,h)=>fV v fun v=>(match s.b with
    |none=>dV call l (v::Z) env h
    |some d=>dV call l Z (env.B_ d v) h)
   |none=>.a)
  |some false=>(match s.b with
   |none=>dV call l (.G []::Z) env h
   |some d=>dV call l Z (env.B_ d (.G [])) h)
  |none=>.a)=_
 cases V3 Z env s.c with
 |none=>rfl
 |some b=>
  cases b;cases s.b<;>rfl
  simp;cases aS call Z env h s.a with
  |none=>rfl
  |some p=>let⟨v,K⟩:=p;simp[AR];cases s.b<;>rfl
def P?(m:M)(v:V)(d:Deferred):Prop:=∃f first caps args A C',v=.G (.I (.func f) first caps::args)/\f<YB/\
 d={target:=.fn (.func f) (List.toArray C'),args:=List.toArray A}/\h_ m (first++args) A/\h_ m caps C'
def W7(C:Cx)(B:Nat)(m:M)(w:World)(env:T V)(ds:List Deferred):Prop:=
 match C.b,env.c_ U7 with
 |true,some v=>∃d1 d d2,ds=d1++d::d2/\P? m v d/\R9 B m w (d1++d2)
 |_,_=>R9 B m w ds
theorem P?.ag{m m':M}(l:Le m m'){v:V}{d:Deferred}:P? m v d->P? m' v d
 |⟨f,first,caps,args,A,C',h1,h2,h3,h4,h5⟩=>⟨f,first,caps,args,A,C',h1,h2,h3,h_.ag l _ _ h4,h_.ag l _ _ h5⟩
theorem W7.bx{C:Cx}{B:Nat}{m Z:M}{h h':b_}{w w':World}(E:P9 m h w Z h' w'){env:T V}{ds:List Deferred}(D:W7 C B m w env ds):W7 C B Z w' env ds:=by unfold W7 at *;split;rename_i v h1 K;rw[h1,K]at D;let⟨d1,d,d2,q1,q2,q3⟩:=D;exact⟨d1,d,d2,q1,q2.ag E.j,q3.bx E⟩;rename_i hn;split at D;grind;exact R9.bx E D
theorem W7.bb{C:Cx}{B:Nat}{m:M}{w:World}{env Z:T V}{ds:List Deferred}(e:Z.c_ U7=env.c_ U7)(D:W7 C B m w env ds):W7 C B m w Z ds:=by unfold W7 at *;rw[e];exact D
theorem W7.bQ{C:Cx}{B:Nat}{m:M}{w:World}{env:T V}{ds:List Deferred}(D:W7 C B m w env ds){r:Nat}(h1:B<=r)(h2:w.heap[r]? =some (.deferred (some [])))(h3:M? m r)(h4:∀d∈ds,d.target≠.collected r):
 W7 C B m w env ({target:=.collected r,args:= #[]}::ds):=by
 unfold W7 at *;split;rename_i v e1 e2;rw[e1,e2]at D;let⟨d1,d,d2,q1,q2,q3⟩:=D;refine⟨{target:=.collected r,args:= #[]}::d1,d,d2,by rw[q1];rfl,q2,⟨r,rfl,h1,h2,h3,fun K Z=>h4 K ?_⟩,q3⟩;rw[q1];have Z:K∈d1++d2:=Z;rw[Vc]at Z;rw[Vc,Vo];obtain q|q:=Z;exact .inl q;exact .inr (.inr q);rename_i hn;split at D;grind;exact⟨⟨r,rfl,h1,h2,h3,h4⟩,D⟩
theorem A9{C:Cx}{m:M}{env:T V}{a:Act}(K:T1 C m env a){d s:Option Nat}(Z:A7 C d s=true)(v:V):(iB env v s).c_ U7=env.c_ U7:=by
 cases s with
 |none=>rfl
 |some t=>
  cases d with
  |none=>cases Z
  |some d=>simp only[A7,Vd]at Z;have:=Vf Z.1.1;subst this;simp[iB];rw[Vi];intro q;rw[<-q,K.2.2]at Z;simp at Z
theorem zX{P:Program}{C:Cx}{call:aL}(hcall:fu P K C.G call){ops:Array Oper}{Q:Exit→Act→World→Prop}{ro:Option Nat}{B:Nat}(hro:C.b=true→ro=none):
 ∀(os:List Oper)(i:Nat)(steps:List n_)(σ:Sg)(loc:List V)(env:T V)(h:b_)(m:M)(a:Act)(w:World)(ex:Ex)(env':T V)(h':b_),
  ops.toList.drop i=os→iT P C ops os steps σ=true→V6 K C.G m→p? C.G m loc env a σ→T1 C m env a→r_ m h w→W7 C B m w env a.defers→
  dV call steps loc env h=.b ex env' h'→
  (∀a' w' m',ex=.a→T1 C m' env' a'→r_ m' h' w'→P9 m h w m' h' w'→W7 C B m' w' env' a'.defers→Q .normal a' w')→
  wpOpsIn (FR ro) 0 P ops Q (List.range' i os.length) a w:=by
 intro os;induction os with
 |nil=>
  intro i steps σ loc env h m a w ex env' h' hdrop hchk hG hI hE H hD e hQ;cases steps with
  |nil=>cases e;exact hQ a w m rfl hE H (P9.b _ _ _) hD
  |cons s l=>simp[iT]at hchk
 |cons o os ih=>
  intro i steps σ loc env h m a w ex env' h' hdrop hchk hG hI hE H hD e hQ;have hoi:ops[i]? =some o:=by
   have:(ops.toList.drop i)[0]? =some o:=by rw[hdrop];rfl
   rw[List.getElem?_drop]at this;simpa using this
  have hdrop':ops.toList.drop (i+1)=os:=by rw[←List.drop_drop,hdrop];rfl
  simp[List.range'_succ];rw[wpOpsIn_cons];unfold wpOpIn;rw[hoi];simp;unfold iT at hchk;split at hchk;rename_i p hal;let⟨x,hop,hgd,hds,hI',hE'⟩:=Bv hG hI hE hal;have hw:Region.wanted o (yielded ops a.tmps)=true:=by unfold Region.wanted;rw[hgd]
  rw[if_pos hw];refine⟨fun _ _=>trivial,?_⟩;show o.uponIn (FR ro) 0 P a _ Q ((o.semAt ro a.eval).run P w);have hr:(o.semAt ro a.eval).run P w=.ok (.value (a.eval x)) w:=by rw[Oper.semAt_eq ro a.eval o (fun c hcc=>by rw[hop]at hcc;cases hcc)];simp[execOp,hop]
  rw[hr];exact ih (i+1) steps (p::σ) loc env h m _ w ex env' h' hdrop' hchk hG hI' hE' H (by rw[j4];exact hD) e hQ;split at hchk;cases hchk;rename_i s rest;simp at hchk;rw[dd]at e;obtain⟨⟨⟨hcg,hco⟩,hcd⟩,hrest⟩|⟨hcf,hrest⟩:=hchk;cases hg:V3 loc env s.c with
  |none=>rw[hg]at e;cases e
  |some b=>
   rw[hg]at e;have hw:=AI hG hI hE hcg hg;cases b;simp at e;rw[if_neg (by rw[hw];simp)];refine⟨fun _ _=>trivial,?_⟩;let⟨hI',hE'⟩:=sD (fun _ _ x=>x) hI hE hcd (v:=.G []) (x:=undef) ⟨[],rfl,rfl⟩;exact ih (i+1) rest _ _ _ h m _ w ex env' h' hdrop' hrest hG hI' hE' H (by rw[j4];exact hD.bb (A9 hE hcd _)) e hQ;simp at e;rw[if_pos hw];cases hop:aS call loc env h s.a with
   |none=>rw[hop]at e;cases e
   |some p=>
    let⟨v,h1⟩:=p;rw[hop]at e;simp at e;refine uk hcall hG (fun o y v h1 h2=>ij hG hI hE h1 h2) H hco hop (fun x w' m' r H' E'=>?_);let⟨hI',hE'⟩:=sD E'.j hI hE hcd r;exact ih (i+1) rest _ _ _ h1 m' _ w' ex env' h' hdrop' hrest (hG.a E') hI' hE' H' (by rw[j4];exact(hD.bx E').bb (A9 hE hcd _)) e
     (fun a' w'' m'' h1 h2 h3 h4 h5=>hQ a' w'' m'' h1 h2 h3 (E'.a h4) h5)
  -- a deferred call
  unfold L9 at hcf;simp at hcf;let⟨⟨⟨⟨hdf,hsd⟩,hod⟩,hgd⟩,hop⟩:=hcf;split at hop;rename_i x xs hsop;split at hop;rename_i y args ts hy;simp at hop;split at hsd;rename_i d hsd';have:=Nat.eq_of_beq_eq_true hsd;subst this;split at hod;rename_i hod';split at hgd;rename_i g1 g2;have hro':=hro hdf;subst hro';have hw:Region.wanted o (yielded ops a.tmps)=true:=by unfold Region.wanted;rw[g1]
  rw[if_pos hw];rw[g2,hsop]at e;simp[V3,aS]at e;split at e;rename_i v h1 hev;split at hev;rename_i f first caps hx
  split at hev;rename_i vs hvs;split at hev;cases hev;rename_i hnone;cases hlt:Nat.blt f YB;grind;rw[hlt]at hev;simp at hev;obtain⟨rfl,rfl⟩:=hev;have hO:FY C m σ loc env a:=fun o y v h1 h2=>ij hG hI hE h1 h2;have hv:=bJ hO _ _ _ hop.2 hvs;let⟨f',c',hfe,rf,rc⟩:=hO _ _ _ hop.1 hx;refine⟨fun _ _=>trivial,?_⟩;show o.uponIn (FR none) 0 P a _ Q ((o.semAt none a.eval).run P w);have hr:(o.semAt none a.eval).run P w=.ok (.defer {target:=.fn (.func f) (List.toArray c'),args:=List.toArray (f'++args.toList.map a.eval)}) w:=by have q:args.map a.eval=List.toArray (args.toList.map a.eval):=Array.ext' iS;rw[Oper.semAt_none];simp only[execOp,hy,resolve,hfe,Deferred.ofValue,Sem.run_bind,Sem.run_pure,Result.andThen_ok];rw[show(List.toArray f'++args.map a.eval)=List.toArray (f'++args.toList.map a.eval) by simp]
  rw[hr];show wpOpsIn (FR none) 0 P ops Q (List.range' (i+1) os.length) (Act.put _ o.dst undef) w;rw[hod',hsd']at *;have hI':p? C.G m loc (env.B_ U7 (.G (.I (.func f) first caps::vs))) {a with defers:={target:=.fn (.func f) (List.toArray c'),args:=List.toArray (f'++args.toList.map a.eval)}::a.defers} (DG σ):=by
   intro t s' hs y u hy he;unfold DG at hs;rw[ur]at hs;cases hl:fJ σ t with
   |none=>rw[hl]at hs;cases hs
   |some s0=>rw[hl]at hs;cases hs;let⟨hne,h1,h2⟩:=xe hy he;exact hI t s0 hl y u h1 h2
  have hE':T1 C m (env.B_ U7 (.G (.I (.func f) first caps::vs))) {a with defers:={target:=.fn (.func f) (List.toArray c'),args:=List.toArray (f'++args.toList.map a.eval)}::a.defers}:=by refine⟨hE.1,fun s u hs=>?_,hE.2.2⟩;rw[T.S1]at hs;by_cases c:s=U7;exact .inl c;rw[if_neg c]at hs;exact hE.2.1 s u hs
  refine ih (i+1) rest (DG σ) loc _ h m _ w ex env' h' hdrop' hrest hG hI' hE' H ?_ e hQ;unfold W7 at hD⊢;rw[hdf,T.N_];rw[hdf,hnone]at hD;exact⟨[],_,a.defers,rfl,⟨f,first,caps,vs,_,c',rfl,(Nat.blt_eq ..).mp hlt,rfl,h_.aA rf hv,rc⟩,hD⟩;cases hev;cases hev;cases e;cases hgd;cases hod;cases hsd;cases hop;cases hop
def Eh(call:aL)(env:T V):List DS->List V->b_->List V->List b_->Prop
 |[],_,_,vs,hp=>vs=[]/\hp=[]
 |s::l,loc,h,vs,hp=>∃v vs' h',vs=v::vs'/\
  (((∃c,s.2=some (v,c)/\cI loc env s.1.a v c=true)/\h'=h)\/(s.2=none/\V3 loc env s.1.c=some true/\aS call loc env h s.1.a=some (v,h'))\/(s.2=none/\V3 loc env s.1.c=some false/\v=.G []/\h'=h))/\
  ((fS s=true/\∃hp',hp=h'::hp'/\Eh call env l (v::loc) h' vs' hp')\/(fS s=false/\h'=h/\Eh call env l (v::loc) h vs' hp))
theorem xd{call:aL}{Z:List V}{env:T V}{h K:b_}{o:Q_}{v:V}(he:g_ o=false)(e:aS call Z env h o=some (v,K)):K=h:=by
 cases o<;>simp[g_]at he<;>simp[aS]at e;all_goals
  split at e;grind;cases e
theorem E4{call:aL}{Z:List V}{env:T V}{h K:b_}{k:PK}{xs:List G_}{v:V}(e:aS call Z env h (.p k xs)=some (v,K))(g:b_):aS call Z env g (.p k xs)=some (v,g):=by simp[aS]at e|-;split at e;rename_i vs ab;split at e;grind;cases e;cases e
theorem xi(call:aL)(env:T V)(s:DS)(l:List DS)(loc:List V)(hs:List b_)(h:b_):iZ call env (s::l) loc hs h=match s.2 with
      |some (u,c)=>bif cI loc env s.1.a u c then iZ call env l (u::loc) hs h else none
      |none=>(match V3 loc env s.1.c with
       |some true=>(match aS call loc env h s.1.a with
        |some (v,h')=>fV v fun v=>bif g_ s.1.a then iZ call env l (v::loc) (h'::hs) h' else iZ call env l (v::loc) hs h
        |none=>none)
       |some false=>bif g_ s.1.a then iZ call env l (.G []::loc) (h::hs) h else iZ call env l (.G []::loc) hs h
       |none=>none):=rfl
theorem jK{call:aL}{env:T V}:∀(l:List DS)(loc:List V)(hs:List b_)(h:b_)(locF:List V)(hsF:List b_),iZ call env l loc hs h=some (locF,hsF)→
 ∃vs hp,Eh call env l loc h vs hp∧locF=vs.reverse++loc∧hsF=hp.reverse++hs
 |[],loc,hs,h,locF,hsF,e=>by cases e;exact⟨[],[],⟨rfl,rfl⟩,rfl,rfl⟩
 |(s,some (u,cs))::l,loc,hs,h,locF,hsF,e=>by rw[xi]at e;simp only[]at e;cases hl:cI loc env s.a u cs;grind;rw[hl]at e;simp only[cond_true]at e;obtain⟨vs,hp,c,rfl,rfl⟩:=jK l _ _ _ _ _ e;exact⟨u::vs,hp,⟨u,vs,h,rfl,.inl ⟨⟨cs,rfl,hl⟩,rfl⟩,.inr ⟨rfl,rfl,c⟩⟩,iS,rfl⟩
 |(s,none)::l,loc,hs,h,locF,hsF,e=>by
  rw[xi]at e;simp only[]at e;cases hg:V3 loc env s.c with
  |none=>rw[hg]at e;cases e
  |some b=>
   rw[hg]at e;cases b;simp only[]at e;cases he:g_ s.a;rw[he]at e;simp only[cond_false]at e;obtain⟨vs,hp,c,rfl,rfl⟩:=jK l _ _ _ _ _ e;exact⟨.G []::vs,hp,⟨.G [],vs,h,rfl,.inr (.inr ⟨rfl,hg,rfl,rfl⟩),.inr ⟨he,rfl,c⟩⟩,iS,rfl⟩;rw[he]at e;simp only[cond_true]at e;obtain⟨vs,hp,c,rfl,rfl⟩:=jK l _ _ _ _ _ e;exact⟨.G []::vs,h::hp,⟨.G [],vs,h,rfl,.inr (.inr ⟨rfl,hg,rfl,rfl⟩),.inl ⟨he,hp,rfl,c⟩⟩,iS,iS⟩;simp only[]at e;cases ho:aS call loc env h s.a with
   |none=>rw[ho]at e;cases e
   |some p=>let⟨v,h'⟩:=p;rw[ho]at e;simp only[AR]at e;cases he:g_ s.a;rw[he]at e;simp only[cond_false]at e;obtain⟨vs,hp,c,rfl,rfl⟩:=jK l _ _ _ _ _ e;have:=xd he ho;subst this;exact⟨v::vs,hp,⟨v,vs,h',rfl,.inr (.inl ⟨rfl,hg,ho⟩),.inr ⟨he,rfl,c⟩⟩,iS,rfl⟩;rw[he]at e;simp only[cond_true]at e;obtain⟨vs,hp,c,rfl,rfl⟩:=jK l _ _ _ _ _ e;exact⟨v::vs,h'::hp,⟨v,vs,h',rfl,.inr (.inl ⟨rfl,hg,ho⟩),.inl ⟨he,hp,rfl,c⟩⟩,iS,iS⟩
def iJ(l:List DS)(i:Nat):Nat:=((l.take i).filter fS).length
theorem ve{call:aL}{env:T V}:∀(l:List DS)(loc:List V)(h:b_)(vs:List V)(hp:List b_),Eh call env l loc h vs hp→
 vs.length=l.length∧hp.length=iJ l l.length∧∀(i:Nat) s,l[i]? =some s→∃v hb ha,vs[i]? =some v∧(h::hp)[iJ l i]? =some hb∧
  (((∃c,s.2=some (v,c)∧cI ((vs.take i).reverse++loc) env s.1.a v c=true)∧ha=hb)∨(s.2=none∧V3 ((vs.take i).reverse++loc) env s.1.c=some true∧aS call ((vs.take i).reverse++loc) env hb s.1.a=some (v,ha))∨(s.2=none∧V3 ((vs.take i).reverse++loc) env s.1.c=some false∧v=.G []∧ha=hb))∧
  (fS s=true→(h::hp)[iJ l i+1]? =some ha)∧(fS s=false→ha=hb)
 |[],loc,h,vs,hp,c=>by obtain⟨rfl,rfl⟩:=c;refine⟨rfl,rfl,fun i s hi=>by simp at hi⟩
 |s::l,loc,h,vs,hp,c=>by
  obtain⟨v,vs',h',rfl,hv,hc⟩:=c;obtain⟨he,hp',rfl,c⟩|⟨he,rfl,c⟩:=hc;let⟨l1,l2,l3⟩:=ve l (v::loc) h' vs' hp' c;refine⟨by simp[l1],by simp[iJ,he]at l2⊢;exact l2,fun i t hi=>?_⟩;cases i with
  |zero=>simp at hi;subst hi;refine⟨v,h,h',rfl,by simp[iJ],by simpa using hv,fun _=>by simp[iJ],fun q=>by rw[he]at q;cases q⟩
  |succ i=>let⟨u,hb,ha,a1,a2,a3,a4,a5⟩:=l3 i t (eV hi);refine⟨u,hb,ha,by simpa using a1,?_,by simpa using a3,fun q=>?_,a5⟩;simpa[iJ,he]using a2;simpa[iJ,he]using a4 q
  let⟨l1,l2,l3⟩:=ve l (v::loc) h' vs' hp c;refine⟨by simp[l1],by simp[iJ,he]at l2⊢;exact l2,fun i t hi=>?_⟩;cases i with
  |zero=>simp at hi;subst hi;refine⟨v,h',h',rfl,by simp[iJ],by simpa using hv,fun q=>(by rw[he]at q;cases q),fun _=>rfl⟩
  |succ i=>let⟨u,hb,ha,a1,a2,a3,a4,a5⟩:=l3 i t (eV hi);refine⟨u,hb,ha,by simpa using a1,?_,by simpa using a3,fun q=>?_,a5⟩;simpa[iJ,he]using a2;simpa[iJ,he]using a4 q
theorem oR{call:aL}{env:T V}{late:List Nat}:∀(l:List n_)(i:Nat)(loc:List V)(h:b_)(r:List DS)(h':b_),Q8 call env late l i loc h=some (r,h')→r.length=l.length
 |[],i,loc,h,r,h',e=>by simp only[Q8,Option.some.injEq,Prod.mk.injEq]at e;obtain⟨rfl,_⟩:=e;rfl
 |s::l,i,loc,h,r,h',e=>by simp only[Q8]at e;cases hc:late.contains i;rw[hc]at e;simp only[cond_false]at e;split at e;rename_i r' h2 h3;cases e;simp[oR l _ _ _ _ _ h3];cases e;rw[hc]at e;simp only[cond_true]at e;split at e;split at e;rename_i r' h2 h3;cases e;simp[oR l _ _ _ _ _ h3];cases e;cases e
theorem EI(Z:Nat)(k:Option (Nat×Nat)):S_ (eZ Z k)=Z:=by cases k<;>rfl
theorem BZ{call:aL}{env:T V}{late:List Nat}:∀(l:List n_)(i:Nat)(loc:List V)(h:b_)(r:List DS)(h':b_),Q8 call env late l i loc h=some (r,h')→
 (∀(j:Nat) s,l[j]? =some s→(late.contains (i+j)=false∧r[j]? =some (s,none))∨
  (late.contains (i+j)=true∧∃u c,r[j]? =some (s,some (u,c))∧h.i≤S_ u∧S_ u<h'.i∧h'.S.c_ (S_ u)=some (.a c (S_ u) 0)))∧
 (∀(j k:Nat) s t u v cu cv,j<k→r[j]? =some (s,some (u,cu))→r[k]? =some (t,some (v,cv))→S_ u<S_ v)∧(∀(j:Nat) s u cu,r[j]? =some (s,some (u,cu))→h.i≤S_ u)∧
 h.i≤h'.i∧(∀p,p<h.i→h'.S.c_ p=h.S.c_ p)∧∀m w,r_ m h w→r_ m h' w
 |[],i,loc,h,r,h',e=>by simp only[Q8,Option.some.injEq,Prod.mk.injEq]at e;obtain⟨rfl,rfl⟩:=e;exact⟨fun j s hj=>by simp at hj,fun j k s t u v _ _ _ hj=>by simp at hj,fun j s u _ hj=>by simp at hj,Nat.le_refl _,fun _ _=>rfl,fun _ _ H=>H⟩
 |s::l,i,loc,h,r,h',e=>by
  simp only[Q8]at e;cases hc:late.contains i;rw[hc]at e;simp only[cond_false]at e;split at e;rename_i r' h2 h3;cases e;let⟨a3,a4,a5,a1,a2,a6⟩:=BZ l _ _ _ _ _ h3;refine⟨fun j t hj=>?_,fun j k s' t u v cu cv hjk hj hk=>?_,fun j s' u cu hj=>?_,a1,a2,a6⟩;grind;grind;grind;cases e;rw[hc]at e;simp only[cond_true]at e;split at e;rename_i c kk hlc;split at e;rename_i r' h2 h3;cases e;let⟨a3,a4,a5,a1,a2,a6⟩:=BZ l _ _ _ _ _ h3;have hnx:(k_ h c).i=h.i+1:=rfl;rw[hnx]at a1 a2 a5;have hlid:=EI h.i kk;refine⟨fun j t hj=>?_,fun j k s' t u v cu cv hjk hj hk=>?_,fun j s' u cu hj=>?_,oM,fun p hp=>?_,fun m w H=>a6 m w ?_⟩;cases j with
  |zero=>simp at hj;subst hj;refine .inr ⟨by simpa using hc,eZ h.i kk,c,rfl,oM,oM,?_⟩;rw[hlid,a2 _ oM,k_,T.N_]
  |succ j=>obtain⟨b1,b2⟩|⟨b1,u,c',b2,b5,b6,b7⟩:=a3 j t (eV hj);grind;grind
  grind;grind;rw[a2 p oM,k_,T.x_ _ _ oM];have hold:∀p loc,m p=some loc→p≠h.i:=fun p loc hp q=>by subst q;rw[H.b (Nat.le_refl _)]at hp;cases hp
  refine⟨⟨?_,?_⟩,?_,H.a,?_⟩;intro p cp f k hp;show match h.Q.c_ f with|none=>f=p|some (_,e)=>k≤e
  rw[k_,T.S1]at hp;by_cases q:p=h.i;grind;rw[if_neg q]at hp;exact H.g.b _ _ _ _ hp;intro p hp;have hp':h.i+1≤p:=hp;refine⟨?_,(H.g.a p oM).2⟩;rw[k_,T.x_ _ _ oM];exact(H.g.a p oM).1;intro p loc hp;let⟨b,hb,rb⟩:=H.d p loc hp;exact⟨b,by rw[k_,T.x_ _ _ (hold p loc hp)];exact hb,rb.ag (fun _ _ x=>x) (fun _ _ _ _ x=>x) rfl⟩;intro p q lp lq hp hq he hne;let⟨cp,cq,f,kp,kq,b1,b2,b3⟩:=H.c p q lp lq hp hq he hne;exact⟨cp,cq,f,kp,kq,by rw[k_,T.x_ _ _ (hold p lp hp)];exact b1,by rw[k_,T.x_ _ _ (hold q lq hq)];exact b2,b3⟩;cases e;cases e
def pJ(late:List Nat):List n_->Nat->List DS
 |[],_=>[]
 |s::l,i=>(s,bif late.contains i then some (.K,[])else none)::pJ late l (i+1)
theorem oQ{call:aL}{env:T V}{late:List Nat}:∀(l:List n_)(i:Nat)(loc:List V)(h:b_)(r:List DS)(h':b_),Q8 call env late l i loc h=some (r,h')→(pJ late l i).map fS=r.map fS
 |[],i,loc,h,r,h',e=>by simp only[Q8,Option.some.injEq,Prod.mk.injEq]at e;obtain⟨rfl,_⟩:=e;rfl
 |s::l,i,loc,h,r,h',e=>by simp only[Q8]at e;cases hc:late.contains i;rw[hc]at e;simp only[cond_false]at e;split at e;rename_i r' h2 h3;cases e;simp only[pJ,hc,cond_false,List.map_cons,oQ l _ _ _ _ _ h3];cases e;rw[hc]at e;simp only[cond_true]at e;split at e;split at e;rename_i r' h2 h3;cases e;simp only[pJ,hc,cond_true,List.map_cons,oQ l _ _ _ _ _ h3];rfl;cases e;cases e
def Zk(B:List Nat)(i j:Nat):Bool:=Nat.testBit (B.getD i 0) j
def MY(ops:Array Oper)(B:List Nat):Bool:=
 (List.range ops.size).all fun i=>(List.range ops.size).all fun j=> !Zk B i j||
  (match ops[i]? with
   |some o=>o.after.toList.any fun e=>Region.binds .any e&&Nat.blt e.on i&&(Nat.beq e.on j||Zk B e.on j)
   |none=>false)
def qK(md:Region.Mode)(ops:Array Oper)(R:Nat->Nat):Bool:=
 (List.range ops.size).all fun i=>match ops[i]? with
  |some o=>o.after.toList.all fun e=> !Region.binds md e||(Nat.blt (R e.on) (R i)&&Nat.blt e.on ops.size)
  |none=>false
def Bj(ops:Array Oper)(R:List Nat):Bool:=qK .any ops id&&qK .text ops id&&qK .gc ops (fun i=>R.getD i i)
def fK(ops:Array Oper)(B:List Nat)(i:Nat):List Nat->Sg
 |[]=>[]
 |j::js=>match(ops[j]?).bind (·.dst)with
  |some t=>if Zk B i j then(t,.l (i-1-j))::fK ops B i js
              else if i=j\/Zk B j i=true then fK ops B i js
              else(t,.a)::fK ops B i js
  |none=>fK ops B i js
def sig(ops:Array Oper)(B:List Nat)(i:Nat):Sg:=fK ops B i (List.range ops.size)
def Oc:Q_->Bool
 |.a _ _ _=>true
 |.o _ _ _ _=>true
 |.j _=>true
 |_=>false
def di(l:List DS):List Nat:=(List.range l.length).filter fun i=>match l[i]? with|some s=>fS s|none=>false
def GZ(l:List DS)(B:List Nat)(reads:List (Nat×Nat×Nat))(i:Nat):Bool:=
 reads.any fun(r:Nat×Nat×Nat)=>Nat.beq r.1 i&&Nat.ble r.2.1 ((di l).filter fun e=>Zk B i e).length&&Nat.ble ((di l).length-((di l).filter fun e=>Zk B e i).length) r.2.2
def Ic(C:Cx)(ops:Array Oper)(sets:List (Nat×Nat)):Bool:=
 ((List.range ops.size).all fun i=>match(ops[i]?).bind (·.dst)with
  |some t=>Nat.blt t C.N&&(!C.a.contains t||sets.contains (t,i))&&(List.range ops.size).all (fun j=>Nat.beq i j||(match(ops[j]?).bind (·.dst)with|some u=> !Nat.beq t u|none=>true))
  |none=>true)&&
 sets.all fun(p:Nat×Nat)=>Nat.blt p.2 ops.size&&C.a.contains p.1&&(match(ops[p.2]?).bind (·.dst)with|some t=>Nat.beq t p.1|none=>false)
def bOf(ops:Array Oper):List Nat:=ops.toList.foldl (fun B o=>B++[o.after.toList.foldl (fun b e=>bif Region.binds .any e then b|||(1<<<e.on)|||B.getD e.on 0 else b) 0]) []
def MX(P:Program)(C:Cx)(ops:Array Oper)(l:List n_)(late B R:List Nat)(reads:List (Nat×Nat×Nat))(sets:List (Nat×Nat)):Bool:=
 Nat.beq ops.size l.length&&Bj ops R&&MY ops B&&Ic C ops sets&&
 ((List.range ops.size).all fun i=>match ops[i]?,l[i]? with
  |some o,some s=>Fu C (sig ops B i) ops o.guard s.c&&nN P C (sig ops B i) o s.a&&(!Oc s.a||GZ (pJ late l 0) B reads i)&&(!late.contains i||o.guard.isNone)
  |_,_=>false)&&
 ((di (pJ late l 0)).all fun i=>(di (pJ late l 0)).all fun j=> !Nat.blt i j||Zk B j i)
theorem dq{n:Nat}{p:Nat->Bool}(h:(List.range n).all p=true){i:Nat}(hi:i<n):p i=true:=Wo.1 h i (eV hi)
abbrev dn(L:Array Bool)(i:Nat):Prop:=L.getD i false=true
theorem jL{ops:Array Oper}{B:List Nat}(hB:MY ops B=true){L:Array Bool}(ab:∀i o,ops[i]? =some o->dn L i->∀e∈o.after,Region.binds .any e=true->dn L e.on):
 ∀(i:Nat) o,ops[i]? =some o->(∀e∈o.after,Region.binds .any e=true->dn L e.on)->∀j,Zk B i j=true->j<ops.size->dn L j:=by
 intro i;induction i using Nat.strongRecOn with
 |_ i ih=>intro o ho K j hb hj;have hi:i<ops.size:=(We.1 ho).1;have h1:=dq (dq hB hi) hj;simp only[hb,Yn,Xj,ho]at h1;let⟨e,he,h2⟩:=Yg.1 h1;simp only[Vd,VE,WT]at h2;have Z:=K e (eV he) h2.1.1;obtain q|q:=h2.2;have:=Vf q;subst this;exact Z;grind
theorem kX{ops:Array Oper}{B:List Nat}{i:Nat}:∀(js:List Nat) t s,fJ (fK ops B i js) t=some s→∃j,j∈js∧(ops[j]?).bind (·.dst)=some t∧((Zk B i j=true∧s=.l (i-1-j))∨s=.a)
 |[],t,s,h=>by simp[fK,fJ]at h
 |j::js,t,s,h=>by simp only[fK]at h;split at h;rename_i u hu;split at h;rename_i hb;simp only[fJ]at h;by_cases c:u=t;grind;rw[if_neg c]at h;let⟨j',h1,h2⟩:=kX js t s h;exact⟨j',by simp[h1],h2⟩;split at h;let⟨j',h1,h2⟩:=kX js t s h;exact⟨j',by simp[h1],h2⟩;simp only[fJ]at h;by_cases c:u=t;grind;rw[if_neg c]at h;let⟨j',h1,h2⟩:=kX js t s h;exact⟨j',by simp[h1],h2⟩;let⟨j',h1,h2⟩:=kX js t s h;exact⟨j',by simp[h1],h2⟩
theorem nC{ops:Array Oper}{B:List Nat}{i:Nat}:∀(js:List Nat) t,fJ (fK ops B i js) t=none→∀j∈js,(ops[j]?).bind (·.dst)=some t→Zk B i j=false∧(i=j∨Zk B j i=true)
 |[],t,h,j,hj,_=>by simp at hj
 |k::js,t,h,j,hj,hd=>by
  simp only[fK]at h;obtain rfl|hj:=List.mem_cons.1 hj;rw[hd]at h;simp only[]at h;cases hb:Zk B i j;simp only[hb,Bool.false_eq_true,if_false]at h;by_cases c:i=j∨Zk B j i=true;exact⟨rfl,c⟩;rw[if_neg c]at h;simp[fJ]at h;simp[hb,fJ]at h;have:fJ (fK ops B i js) t=none:=by split at h;rename_i u hu;split at h;simp only[fJ]at h;by_cases c:u=t;rw[if_pos c]at h;cases h;rw[if_neg c]at h;exact h;split at h;exact h;simp only[fJ]at h;by_cases c:u=t;rw[if_pos c]at h;cases h;rw[if_neg c]at h;exact h;exact h
  exact nC js t this j hj hd
def Y6(l:List DS)(L:Array Bool):Nat:=((di l).filter fun e=>L.getD e false).length
theorem qX{α:Type}{p q:α→Bool}:∀(l:List α),(∀x∈l,p x=true→q x=true)→(l.filter p).length≤(l.filter q).length
 |[],_=>by simp
 |x::l,h=>by have ih:=qX l fun y hy=>h y iX;by_cases hp:p x=true;grind;grind
theorem pV{α:Type}{p q:α→Bool}:∀(l:List α),(∀x∈l,p x=true→q x=false)→(l.filter p).length+(l.filter q).length≤l.length
 |[],_=>by simp
 |x::l,h=>by have ih:=pV l fun y hy=>h y iX;by_cases hp:p x=true;grind;grind
theorem im{l:List DS}{i:Nat}:i∈di l↔∃s,l[i]? =some s/\fS s=true:=by unfold di;rw[XE];constructor;grind;grind
theorem A4{l:List DS}{a:Nat}(h:(match l[a]? with|some s=>fS s|none=>false)=true):a∈di l:=by rw[im];split at h;grind;cases h
theorem Cf(l:List DS):∀i,i<=l.length->iJ l i=((List.range i).filter fun j=>match l[j]? with|some s=>fS s|none=>false).length:=by
 intro i;induction i with
 |zero=>intro _;simp[iJ]
 |succ i ih=>intro K;have Z:i<l.length:=oM;rw[List.range_succ,Xe,Vv,<-ih oM];unfold iJ;rw[XC Z,Xe,Vv];congr 1;simp[Yh,Z];split<;>simp
theorem Cm {l : List DS} {L : Array Bool} {i : Nat} (hi : i <= l.length) (h1 : ∀ e ∈ di l, e < i -> dn L e) (h2 : ∀ e ∈ di l, i <= e -> ¬ dn L e) : Y6 l L = iJ l i := by
  rw [Cf l i oM]
  unfold Y6 di
  rw [List.filter_filter]
  have : ∀ n, i <= n -> n <= l.length -> ((List.range n).filter fun a => L.getD a false && (match l[a]? with | some s => fS s | none => false)).length = ((List.range i).filter fun j => match l[j]? with | some s => fS s | none => false).length := by
    intro n hn
    induction n with
    | zero => intro _; have : i = 0 := by omega
              subst this; rfl
    | succ n ih =>
      intro hnl
      by_cases c : i = n + 1
      · subst c
        congr 1
        apply YW
        intro a ha
        have ha' : a < n + 1 := by simpa using ha
        cases hm : (match l[a]? with | some s => fS s | none => false)
        · simp
        · have : dn L a := h1 a (A4 hm) ha'
          rw [this]; rfl
      · rw [List.range_succ, Xe, Vv, ih oM oM]
        have : ((List.filter (fun a => L.getD a false && (match l[a]? with | some s => fS s | none => false)) [n]).length = 0) := by
          simp only [Yh, List.filter_nil]
          cases hm : (match l[n]? with | some s => fS s | none => false)
          · simp
          · have : ¬ dn L n := h2 n (A4 hm) oM
            have : L.getD n false = false := by grind
            rw [this]; rfl
        omega
  exact this l.length oM (Ve _)
theorem E6{l r:List DS}(h:l.map fS=r.map fS):di l=di r:=by
 have Z:l.length=r.length:=by have:=congrArg List.length h;simpa using this
 unfold di;rw[Z];apply YW;intro i _;have:(l.map fS)[i]? =(r.map fS)[i]? :=by rw[h]
 rw[VY,VY]at this;cases h1:l[i]? <;>cases K:r[i]? <;>simp_all
variable {K : LG -> Prop}
theorem E5{l:List DS}{i:Nat}{s:DS}(hs:l[i]? =some s)(he:fS s=true):iJ l (i+1)=iJ l i+1:=by
 have Z:=(Vt.1 hs).1;have K:l[i]=s:=by grind
 unfold iJ;rw[XC Z,Xe,Vv,K];simp[he]
theorem Cl{l:List DS}{L:Array Bool}{i:Nat}(h:i∉di l):Y6 l (L.setIfInBounds i true)=Y6 l L:=by unfold Y6;congr 1;apply YW;intro e Z;exact getD_set_ne false (fun q=>h (q▸Z))
theorem iN{L:Array Bool}{i j:Nat}(Z:i<L.size):dn (L.setIfInBounds i true) j↔j=i\/dn L j:=by by_cases c:i=j;subst c;simp[Z];unfold dn;rw[getD_set_ne false c];constructor;grind;grind
theorem J2{vals:List V}{i j:Nat}(K:i<=vals.length)(Z:j<i):((vals.take i).reverse++[])[i-1-j]? =vals[j]? :=by grind
theorem wq{n:Nat}{loc:List V}:∀(sets:List (Nat×Nat))(env env':T V),i9 n loc sets env=some env'→∀s v,env'.c_ s=some v→
 (∃i,(s,i)∈sets∧loc[n-i-1]? =some v)∨((∀i,(s,i)∉sets)∧env.c_ s=some v)
 |[],env,env',e,s,v,h=>by cases e;exact .inr ⟨iS,h⟩
 |(t,i)::r,env,env',e,s,v,h=>by simp only[i9]at e;split at e;rename_i u hu;obtain⟨j,hj,hv⟩|⟨hn,hv⟩:=wq r _ _ e s v h;grind;rw[T.S1]at hv;by_cases c:s=t;grind;grind;cases e
theorem wD{call:aL}{loc:List V}{env:T V}{o:Q_}{v:V}:∀(hs:List b_),gU call loc env o v hs=true→∀g∈hs,∃g',aS call loc env g o=some (v,g')
 |[],_,g,hg=>by simp at hg
 |h::hs,hr,g,hg=>by simp only[gU,Bool.and_eq_true]at hr;obtain rfl|hg:=List.mem_cons.1 hg;let⟨h1,_⟩:=hr;split at h1;rename_i u g' hu;have:=tp _ _ h1;subst this;exact⟨g',hu⟩;cases h1;exact wD hs hr.2 g hg
section
variable {P : Program} {C : Cx} {call : aL} {ops : Array Oper} {l : List DS} {B : List Nat} {reads : List (Nat × Nat × Nat)} {sets : List (Nat × Nat)}
structure DI(C:Cx)(ops:Array Oper)(l:List DS)(env:T V)(vals:List V)(Hs:List b_)(m0:M)(h:b_)(w0:World)(a0:Act)(L:Array Bool)(a:Act)(w:World)(m:M)(hk:b_):Prop where
 j:L.size=ops.size
 b:∀i o,ops[i]? =some o->dn L i->∀e∈o.after,Region.binds .any e=true->dn L e.on
 f:a.tmps.size=C.N
 k:a.defers=a0.defers
 q:∀t,(∀i,dn L i->(ops[i]?).bind (·.dst)≠some t)->a.tmps.getD t undef=a0.tmps.getD t undef
 g:Hs[Y6 l L]? =some hk
 n:r_ m hk w
 d:P9 m0 h w0 m hk w
 p:∀i v t,dn L i->vals[i]? =some v->(ops[i]?).bind (·.dst)=some t->m_ m v (a.tmps.getD t undef)
 r:∀(i:Nat) s u c,l[i]? =some (s,some (u,c))->¬dn L i->m (S_ u)=none/\hk.S.c_ (S_ u)=some (.a c (S_ u) 0)/\S_ u<hk.i
theorem DI.e{env:T V}{vals:List V}{Hs:List b_}{m0 m m':M}{h hk ab:b_}{w0 w w':World}{a0 a:Act}{L:Array Bool}(D:DI C ops l env vals Hs m0 h w0 a0 L a w m hk)
 (ay:Ic C ops sets=true) {i:Nat} {o:Oper} (ho:ops[i]? =some o) (a2:¬dn L i) (a1:∀e∈o.after,Region.binds .any e=true->dn L e.on) {v:V} {x:Value} (hv:vals[i]? =some v) (r:m_ m' v x)
 (H':r_ m' ab w') (ak:Le m m') (E0:P9 m0 h w0 m' ab w') (ax:Hs[Y6 l (L.setIfInBounds i true)]? =some ab)
 (ar:∀(j:Nat) s u c,l[j]? =some (s,some (u,c))->¬dn (L.setIfInBounds i true) j->m' (S_ u)=none/\ab.S.c_ (S_ u)=some (.a c (S_ u) 0)/\S_ u<ab.i):
 DI C ops l env vals Hs m0 h w0 a0 (L.setIfInBounds i true) (a.put o.dst x) w' m' ab:=by
 have hi:i<ops.size:=(We.1 ho).1;have ac:i<L.size:=by rw[D.j];exact hi
 have Z:=dq (Yc.1 ay).1 hi;have af:(ops[i]?).bind (·.dst)=o.dst:=by rw[ho];rfl
 rw[af]at Z;have aj:∀t,o.dst=some t->t<a.tmps.size:=by intro t ht;rw[ht]at Z;simp only[Vd,VE]at Z;rw[D.f];exact Z.1.1
 have ae:∀t,o.dst=some t->∀j,j<ops.size->j≠i->(ops[j]?).bind (·.dst)≠some t:=by intro t ht j hj hne hd;rw[ht]at Z;simp only[Vd]at Z;have:=dq Z.2 hj;rw[hd]at this;simp only[WT]at this;obtain q|q:=this;exact hne (Vf q).symm;simp at q
 refine⟨by simpa using D.j,?_,by rw[pG];exact D.f,by rw[j4];exact D.k,?_,ax,H',E0,?_,ar⟩;intro j p hj K e he aH;rw[iN ac]at K|-;obtain rfl|K:=K;grind;exact .inr (D.b j p hj K e he aH);intro t ht;have h1:o.dst≠some t:=by have:=ht i ((iN ac).2 (.inl rfl));rwa[af]at this
 have h2:=D.q t (fun j hj=>ht j ((iN ac).2 (.inr hj)));cases hd:o.dst with
 |none=>exact h2
 |some d=>rw[fP a d x t (aj d hd),if_neg (by intro q;subst q;exact h1 hd)];exact h2
 intro j u t hj hu ht;rw[iN ac]at hj;by_cases c:j=i;subst c;rw[af]at ht;rw[hv]at hu;cases hu;rw[ht,fP a t x t (aj t ht),if_pos rfl];exact r;have K:dn L j:=hj.resolve_left c;have:=D.p j u t K hu ht;cases hd:o.dst with
 |none=>exact WA ak _ _ this
 |some d=>
  have an:j<ops.size:=by grind
  rw[fP a d x t (aj d hd),if_neg (by intro q;subst q;exact ae t hd j an c ht)];exact WA ak _ _ this
theorem DI.a{env:T V}{vals:List V}{Hs:List b_}{m0 m K:M}{h hk Z:b_}{w0 w w':World}{a0 a:Act}{L:Array Bool}(D:DI C ops l env vals Hs m0 h w0 a0 L a w m hk)
 {i:Nat} (hi:i<L.size) (E':P9 m hk w K Z w'):∀(j:Nat) s u c,l[j]? =some (s,some (u,c))->¬dn (L.setIfInBounds i true) j->
  K (S_ u)=none/\Z.S.c_ (S_ u)=some (.a c (S_ u) 0)/\S_ u<Z.i:=by
 intro j s u c hj ab;let⟨b1,b2,b3⟩:=D.r j s u c hj (fun hd=>ab ((iN hi).2 (.inr hd)));refine⟨?_,(E'.l _ b1 b3).trans b2,Wn b3 E'.f⟩;cases hm:K (S_ u)with
 |none=>rfl
 |some loc=>have:=(E'.k _ _ hm b1).1;omega
theorem r_.k{m:M}{h:b_}{w:World}(H:r_ m h w){p:Nat}{c:List V}{f k:Nat}{X:Array Value}{elem:TypeId}(hm:m p=none)(hb:h.S.c_ p=some (.a c f k))(hX:h_ m c X.toList):
 r_ (eU m p ⟨w.heap.size,0,X.size,none⟩) h (w.alloc (.cells X elem)):=by
 have ab:Le m (eU m p ⟨w.heap.size,0,X.size,none⟩):=by intro q l Z;rw[aJ];exact Z;grind
 have ae:=hX.T;refine⟨H.g,?_,?_,?_⟩;intro q K Z;by_cases e:q=p;subst e;rw[aB]at Z;cases Z;refine⟨_,hb,fun _=>⟨X,elem,(0,0),heap_alloc_new w _,iS,by simp at ae;simp;omega,fun i v hi=>?_,fun i _=>by simp⟩⟩;let⟨x,hx,rx⟩:=hX.c_ i v hi;exact⟨x,by simpa using hx,WA ab _ _ rx⟩;rw[aJ _ _ e]at Z;let⟨b,af,r⟩:=H.d q K Z;exact⟨b,af,r.ag ab (fun _ _ _ _ x=>x) (heap_alloc_old w _ _ (H.a q K Z))⟩;intro q K Z;by_cases e:q=p;subst e;rw[aB]at Z;cases Z;simp;rw[aJ _ _ e]at Z;have:=H.a q K Z;simp;omega;intro q r lq lr Z hr he ac;by_cases e:q=p;subst e;rw[aB]at Z;cases Z;rw[aJ _ _ (WW ac)]at hr;have:=H.a r lr hr;simp at he;omega;rw[aJ _ _ e]at Z;by_cases e2:r=p;subst e2;rw[aB]at hr;cases hr;have:=H.a q lq Z;simp at he;omega;rw[aJ _ _ e2]at hr;exact H.c q r lq lr Z hr he ac
theorem HF{m:M}{env:T V}{af:List V}{a:Act}{σ:Sg}(hO:FY C m σ af env a){o:Oper}{op:Q_}{c:List V}{k:Option (Nat×Nat)}(Z:nN P C σ o op=true)(K:jG af env op=some (c,k))(w:World):
 ∃x X elem,(execOp a.eval o).run P w=.ok (.value x) (w.alloc (.cells X elem))/\h_ m c X.toList/\∀id m',m' id=some ⟨w.heap.size,0,X.size,none⟩->m_ m' (eZ id k) x:=by
 unfold jG at K;split at K;rename_i zero;cases K;simp[nN,cT]at Z;replace Z:=Z.2;unfold qf at Z;split at Z;rename_i t hy;let⟨z,hz,hv⟩:=jD (w:=w) Z;have ac:=dC (P:=P) (w:=w) z.cells t;refine⟨.pointer (some ⟨w.heap.size,0,none⟩),z.cells,t,?_,dK m _ _ hv,fun id m' hm=>⟨_,hm,rfl⟩⟩;simp[execOp,hy,Instr.alloc,hz,newVar,ac];cases Z;rename_i x;split at K;rename_i v hv;cases K;simp[nN,cT]at Z;replace Z:=Z.2;have ab:=bJ hO _ _ _ Z.2 (uM hv);let⟨ae,_⟩:=Z;unfold zh at ae;split at ae;rename_i t ad hy;let⟨y,e,ry⟩:=cF ab;rw[hy]at e;simp[Op.operands]at e;have ac:=dC (P:=P) (w:=w) y.cells t;refine⟨.pointer (some ⟨w.heap.size,0,none⟩),y.cells,t,?_,ry.P5,fun id m' hm=>⟨_,hm,rfl⟩⟩;simp[execOp,hy,e,Instr.box,newVar,ac];cases ae;cases K;rename_i zero aj len xs;split at K;rename_i vs ak;split at K;rename_i c' hf;cases K;simp[nN,cT]at Z;replace Z:=Z.2;have ab:=bJ hO _ _ _ Z.2 ak;let⟨X,elem,h1,h2⟩:=sE (P:=P) (m:=m) (w:=w) Z.1 ab hf;exact⟨_,X,elem,h1,h2,fun id m' hm=>⟨_,hm,Ve _,rfl⟩⟩;cases K;cases K;rename_i zero bytes x y;split at K;rename_i lv hl;split at K;rename_i cv an;split at K;rename_i n kk hn;cases K;simp[nN,cT]at Z;replace Z:=Z.2;have ab:=bJ hO _ _ _ Z.2 (AU hl an);let⟨X,elem,h1,h2,h3⟩:=FG (P:=P) (m:=m) (w:=w) Z.1 ab hn;exact⟨_,X,elem,h1,h2,fun id m' hm=>⟨_,hm,h3,rfl⟩⟩;cases K;cases K;cases K;cases K
theorem DI.i{vals:List V}{Hs:List b_}{m0 m:M}{h hk:b_}{w0 w:World}{a0 a:Act}{L:Array Bool}{env:T V}(D:DI C ops l env vals Hs m0 h w0 a0 L a w m hk)
 (hG:V6 K C.G m0) (hE:T1 C m0 env a0) (hB:MY ops B=true) (ax:vals.length=ops.size)
 {i:Nat} {o:Oper} (ho:ops[i]? =some o) (af:¬dn L i) (ak:∀e∈o.after,Region.binds .any e=true->dn L e.on):FY C m (sig ops B i) ((vals.take i).reverse++[]) env a:=by
 have hi:i<ops.size:=(We.1 ho).1;have an:=hG.a D.d;intro od y v Z ev;unfold nA at Z;split at Z;rename_i t;split at Z;rename_i s hs;let⟨j,hj,hd,aH⟩:=kX _ _ _ hs;have ab:j<ops.size:=by simpa using hj
 obtain⟨hb,rfl⟩|rfl:=aH;have aj:=jL hB D.b i o ho ak j hb ab;cases y<;>simp[dA]at Z;subst Z;have ar:j<i:=by
  have h1:=dq (dq hB hi) ab;simp only[hb,Yn,Xj,ho]at h1;let⟨e,he,h2⟩:=Yg.1 h1;simp only[Vd,VE,WT]at h2;have ay:=h2.1.2;obtain q|q:=h2.2;have:=Vf q;omega
  -- j comes before e.on, which comes before i
  have key:∀k,k<ops.size->∀j,j<ops.size->Zk B k j=true->j<k:=by
   intro k;induction k using Nat.strongRecOn with
   |_ k ih=>intro hk j hj hb;have h1:=dq (dq hB hk) hj;simp only[hb,Yn,Xj]at h1;split at h1;let⟨e,he,h2⟩:=Yg.1 h1;simp only[Vd,VE,WT]at h2;obtain q|q:=h2.2;have:=Vf q;have:=h2.1.2;omega;grind;cases h1
  have:=key e.on oM j ab q;omega
 have ae:((vals.take i).reverse++[])[i-1-j]? =some v:=by rw[<-gN];exact ev
 rw[J2 oM ar]at ae;exact D.p j v t aj ae hd;cases y<;>simp[dA]at Z
 rename_i hs;split at Z;rename_i s;simp only[Vd]at Z;have:=Vf Z.1;subst this;have ac:=D.q s (fun j hj hd=>by
  have ab:j<ops.size:=by grind
  let⟨_,hc⟩:=nC _ _ hs j (eV ab) hd;obtain rfl|hc:=hc;exact af hj;exact af (jL hB D.b j _ (VB ab) (D.b j _ (VB ab) hj) i hc hi))
 show m_ m v (a.tmps.getD s undef);rw[ac];exact WA D.d.j _ _ (hE.bq Z.2 ev);cases Z;exact q7 an Z ev
end
variable {K : LG -> Prop}
section
variable {P : Program} {C : Cx} {call : aL} {ops : Array Oper} {dl : List DS} {l : List n_} {late B R : List Nat} {reads : List (Nat × Nat × Nat)} {sets : List (Nat × Nat)}
theorem DI.c{vals:List V}{Hs:List b_}{m0 m:M}{h hk:b_}{w0 w:World}{a0 a:Act}{L:Array Bool}{env:T V}(D:DI C ops dl env vals Hs m0 h w0 a0 L a w m hk){σ:Sg}{ac:List V}
 (hO:FY C m σ ac env a) {o:Oper} {s:Option (G_×Bool)} (Z:Fu C σ ops o.guard s=true) {b:Bool} (e:V3 ac env s=some b):Region.wanted o (yielded ops a.tmps)=b:=by
 unfold Region.wanted;unfold Fu at Z;split at Z;rename_i hg;rw[hg];cases e;rfl;rename_i j ab x ae hg;rw[hg];simp at Z;obtain⟨rfl,Z⟩:=Z;split at Z;rename_i d hd;simp at Z;unfold V3 at e;simp at e;split at e;rename_i c hx;cases e;have hr:=hO _ _ _ Z.2 hx;simp only[m_,Act.eval]at hr;have K:d<a.tmps.size:=by rw[D.f];exact Z.1
 have:a.tmps[d]? =some (.bool c):=by rw[VP,VB K]at hr;rw[VB K];simpa using hr
 simp only[yielded,hd,VX,this];cases c<;>cases ab<;>rfl
 rename_i c hx;cases e;have hr:=hO _ _ _ Z.2 hx;simp only[m_,Act.eval]at hr;let⟨c',hr,_⟩:=hr;have K:d<a.tmps.size:=by rw[D.f];exact Z.1
 have:a.tmps[d]? =some (.tuple c'.toArray):=by rw[VP,VB K]at hr;rw[VB K];simpa using hr
 simp only[yielded,hd,VX,this];cases ab<;>rfl
 cases e;cases Z;cases Z
theorem ye {n : Nat} {L : Array Bool} {i : Nat} (hi : i < n) (hL : L.size = n) (hni : ¬ dn L i) :
    ((List.range n).filter fun j => !(L.setIfInBounds i true).getD j false).length < ((List.range n).filter fun j => !L.getD j false).length := by
  have hsub : ∀ j ∈ List.range n, (!(L.setIfInBounds i true).getD j false) = true -> (!L.getD j false) = true := by
    intro j _ hj
    by_cases c : i = j
    · subst c
      have : (L.setIfInBounds i true).getD i false = true := (iN oM).2 (.inl rfl)
      rw [this] at hj; cases hj
    · rw [getD_set_ne false c] at hj; exact hj
  -- the two lists differ at i
  have key : ∀ (js : List Nat), (∀ j ∈ js, (!(L.setIfInBounds i true).getD j false) = true -> (!L.getD j false) = true) -> i ∈ js ->
      (js.filter fun j => !(L.setIfInBounds i true).getD j false).length < (js.filter fun j => !L.getD j false).length := by
    intro js
    induction js with
    | nil => intro _ h; simp at h
    | cons k js ih =>
      intro hs hm
      by_cases c : k = i
      · subst c
        have h1 : (L.setIfInBounds k true).getD k false = true := (iN oM).2 (.inl rfl)
        have h2 : L.getD k false = false := by simpa [dn] using hni
        have := qX js (p := fun j => !(L.setIfInBounds k true).getD j false) (q := fun j => !L.getD j false) (fun j hj => hs j (by simp [hj]))
        simp only [Yh, h1, h2, Yn, Bool.not_false, VO, if_false, if_true, Vy]
        omega
      · have hm' : i ∈ js := by obtain q | q:=Vo.1 hm; · exact absurd q.symm c
                                · exact q
        have ih' := ih (fun j hj => hs j (by simp [hj])) hm'
        have e1 : (L.setIfInBounds i true).getD k false = L.getD k false := getD_set_ne false (WW c)
        simp only [Yh, e1]
        split
        · simp only [Vy]; omega
        · exact ih'
  exact key _ hsub (eV hi)
theorem zt{Z:Region.Mode}{e:Edge}(h:Region.binds .any e=true):Region.binds Z e=true:=by unfold Region.binds at h|-;split at h<;>simp_all
theorem Iy{K:Region.Mode}{L:Array Bool}{R:Nat->Nat}(ab:qK K ops R=true)(hL:L.size=ops.size)(hr:Region.ready K ops L=[]):∀i,i<ops.size->dn L i:=by
 have key:∀r i,R i=r->i<ops.size->dn L i:=by
  intro r;induction r using Nat.strongRecOn with
  |_ r ih=>
   intro i ac Z;by_cases c:dn L i;exact c;exfalso;have hm:i∈Region.ready K ops L:=by
    rw[mem_ready];refine⟨?_,ops[i],VB Z,fun e he hb=>?_⟩;have:L.getD i false=false:=by simpa[dn]using c
    rw[VP,VB oM]at this|-;simpa using this;have h1:=dq ab Z;rw[VB Z]at h1;have h2:=Wo.1 h1 e (eV he);simp[hb]at h2;exact ih (R e.on) oM e.on rfl h2.2
   rw[hr]at hm;simp at hm
 exact fun i Z=>key (R i) i rfl Z
theorem z8{C:Cx}{ops:Array Oper}{n:Nat}{loc:List V}(hV:C.a.contains U7=false){sets0:List (Nat×Nat)}
 (hs:(sets0.all fun(p:Nat×Nat)=>Nat.blt p.2 ops.size&&C.a.contains p.1&&(match(ops[p.2]?).bind (·.dst)with|some t=>Nat.beq t p.1|none=>false))=true):
 ∀(sets:List (Nat×Nat))(env env':T V),(∀p,p∈sets→p∈sets0)→i9 n loc sets env=some env'→env'.c_ U7=env.c_ U7
 |[],env,env',_,e=>by cases e;rfl
 |(t,i)::r,env,env',hi,e=>by simp only[i9]at e;split at e;rename_i u hu;rw[z8 hV hs r _ _ (fun p hp=>hi p iX) e,T.x_];intro q;have:=List.all_eq_true.1 hs (t,i) (hi _ iS);simp only[Bool.and_eq_true]at this;rw[←q,hV]at this;simp at this;cases e
theorem Cg(hcall:fu P K C.G call)(hc:MX P C ops l late B R reads sets=true){Q:Exit→Act→World→Prop}{env:T V}{h0:b_}{m0:M}{a0:Act}{w0:World}{ex:Ex}{env':T V}{h':b_}{id:Nat}
 (hG:V6 K C.G m0) (hE:T1 C m0 env a0) (H0:r_ m0 h0 w0) (e:j? call l late reads sets env h0=.b ex env' h')
 (hL:∀a' w' m',ex=.a→T1 C m' env' a'→r_ m' h' w'→P9 m0 h0 w0 m' h' w'→a'.defers=a0.defers→env'.c_ U7=env.c_ U7→Q .normal a' w') {ro:Option Nat}:(Code.region id ops true).wpIn (FR ro) 0 P Q a0 w0:=by
 unfold MX at hc;simp only[Bool.and_eq_true]at hc;let⟨⟨⟨⟨⟨hsz,hedge⟩,hB⟩,hds⟩,hone⟩,hchain⟩:=hc;have hsz:=Nat.eq_of_beq_eq_true hsz;unfold j? at e;split at e;cases e;rename_i dl h hlay;let⟨y1,y2,_,y4,y5,y6⟩:=BZ l 0 [] h0 dl h hlay;have hdl:=oR l 0 [] h0 dl h hlay;have heffm:di (pJ late l 0)=di dl:=E6 (oQ l 0 [] h0 dl h hlay);have hstart:P9 m0 h0 w0 m0 h w0:=⟨fun _ _ x=>x,fun _ _ a b=>by simp[a]at b,y4,fun p _ hp=>y5 p hp,Nat.le_refl _,fun _ _ _=>rfl,rfl,rfl,rfl,fun _ _ _ x=>x,fun _ _=>T6.b _ _ _,fun _ _ a b=>by simp[a]at b⟩;rw[heffm]at hchain;split at e;rename_i loc hs hdr;cases hrd:reads.all (oG call env l loc hs);rw[hrd]at e;cases e;rw[hrd]at e;simp at e;let⟨vals,hp,hcan,hloc,hhs⟩:=jK dl [] [h] h loc hs hdr;let⟨hvl,hpl,hat⟩:=ve dl [] h vals hp hcan;have hvl':vals.length=ops.size:=oM;split at e;rename_i env1 h1 hs1 hset;simp at e;obtain⟨rfl,rfl,rfl⟩:=e
 -- the last heap
 have hlast:(h::hp)[iJ dl dl.length]? =some h1:=by
  rw[←hpl];have:hp.reverse++[h]=(h::hp).reverse:=by simp
  rw[this]at hhs;have hh:(h::hp).reverse[0]? =some h1:=by rw[←hhs];rfl
  rw[List.getElem?_reverse iS]at hh;simpa using hh
 refine wpIn_region_draw fun t=>?_;have main:∀(md:Region.Mode)(R':Nat→Nat),qK md ops R'=true→∀(fuel:Nat)(L:Array Bool)(a:Act)(w:World),(∃m hk,DI C ops dl env vals (h::hp) m0 h0 w0 a0 L a w m hk)→
  ((List.range ops.size).filter fun i=> !L.getD i false).length≤fuel→wpAnyIn (FR ro) 0 P md ops Q fuel L a w:=by
  intro md R' hrank;have fin:∀(L:Array Bool)(a:Act)(w:World),(∃m hk,DI C ops dl env vals (h::hp) m0 h0 w0 a0 L a w m hk)→(∀i,i<ops.size→dn L i)→Q .normal a w:=by
   rintro L a w ⟨m,hk,D⟩ hall;have hcnt:Y6 dl L=iJ dl dl.length:=Cm (Nat.le_refl _) (fun e he hlt=>hall e oM) (fun e he hge=>by
    let⟨s,hs,_⟩:=im.1 he;have:=(List.getElem?_eq_some_iff.1 hs).1;omega)
   have hkk:=D.g;rw[hcnt,hlast]at hkk;cases hkk;refine hL a w m rfl ⟨D.f,fun s v hs=>?_,hE.2.2⟩ D.n D.d D.k (z8 hE.2.2 (Bool.and_eq_true_iff.1 hds).2 sets env env1 (fun _ x=>x) hset);obtain⟨i,hi,hv⟩|⟨hn,hv⟩:=wq sets env env1 hset s v hs;have hsi:=List.all_eq_true.1 (Bool.and_eq_true_iff.1 hds).2 (s,i) hi;simp only[Bool.and_eq_true,Nat.blt_eq]at hsi;let⟨⟨hlt,hvar⟩,hd⟩:=hsi;refine .inr ⟨hvar,?_⟩;split at hd;rename_i u hu;have:=Nat.eq_of_beq_eq_true hd;subst this;refine D.p i v u (hall i hlt) ?_ hu;rw[hloc]at hv;rw[List.append_nil,List.getElem?_reverse oM]at hv;rw[←hv];congr 1;omega;cases hd;obtain q|⟨h2,h3⟩:=hE.2.1 s v hv;exact .inl q;refine .inr ⟨h2,?_⟩;rw[D.q s (fun i hi hd=>by
    have hlt:i<ops.size:=by obtain q|q:=Nat.lt_or_ge i ops.size;exact q;rw[Array.getElem?_eq_none q]at hd;cases hd
    have h4:=dq (Bool.and_eq_true_iff.1 hds).1 hlt;rw[hd]at h4;simp only[Bool.and_eq_true,Bool.or_eq_true]at h4;obtain q|q:=h4.1.2;rw[h2]at q;simp at q;exact hn i (eV q))]
   exact m_.ag D.d.j _ _ h3
  intro fuel;induction fuel with
  |zero=>
   intro L a w hD hf;have hall:∀i,i<ops.size→dn L i:=by
    intro i hi;by_cases c:dn L i;exact c;exfalso;have:i∈((List.range ops.size).filter fun i=> !L.getD i false):=by rw[List.mem_filter];exact⟨by simpa using hi,by simpa[dn]using c⟩
    have:=List.length_pos_of_mem this;omega
   refine⟨?_,fin L a w hD hall⟩;cases hr:Region.ready md ops L with
   |nil=>rfl
   |cons i r=>
    exfalso;have hm:i∈Region.ready md ops L:=by rw[hr];simp
    let⟨h2,o,h3,_⟩:=mem_ready.1 hm;have hi:i<ops.size:=(Array.getElem?_eq_some_iff.1 h3).1;have:=hall i hi;unfold dn at this;let⟨m,hk,D⟩:=hD;rw[Array.getD_eq_getD_getElem?,Array.getElem?_eq_getElem (by rw[D.j];exact hi)]at this h2;simp at this h2;rw[this]at h2;cases h2
  |succ fuel ih=>
   intro L a w hD hf;refine⟨fun hr=>?_,fun i hi=>?_⟩;let⟨m,hk,D⟩:=hD;exact fin L a w ⟨m,hk,D⟩ (Iy hrank D.j hr);let⟨m,hk,D⟩:=hD;let⟨hli,o,ho,hbin⟩:=mem_ready.1 hi;have hilt:i<ops.size:=(Array.getElem?_eq_some_iff.1 ho).1;have hni:¬dn L i:=by unfold dn;rw[Array.getD_eq_getD_getElem?,Array.getElem?_eq_getElem (by rw[D.j];exact hilt)]at hli⊢;simp at hli⊢;exact hli
   have hed:∀e∈o.after,Region.binds .any e=true→dn L e.on:=fun e he hb=>hbin e he (zt hb);have hO:=D.i hG hE hB hvl' ho hni hed;have hG':=hG.a D.d;have hone_i:=dq hone hilt;have hlt':i<l.length:=oM;rw[ho,List.getElem?_eq_getElem hlt']at hone_i;simp only[Bool.and_eq_true]at hone_i;let⟨⟨⟨hcg,hco⟩,hcr⟩,hcl⟩:=hone_i;have hltd:i<dl.length:=oM;have hdi:dl[i]? =some dl[i]:=List.getElem?_eq_getElem hltd;let⟨v,hb,ha,hv,hhb,hrun,hef,hnef⟩:=hat i dl[i] hdi;have hfst:dl[i].1=l[i]:=by obtain⟨_,q⟩|⟨_,u,c,q,_⟩:=y1 i l[i] (List.getElem?_eq_getElem hlt');exact congrArg Prod.fst (Option.some.inj (hdi.symm.trans q));exact congrArg Prod.fst (Option.some.inj (hdi.symm.trans q))
   have hunl:=ye hilt D.j hni;have hiL:i<L.size:=by rw[D.j];exact hilt
   have go:∀x w' m' hk',m_ m' v x→r_ m' hk' w'→P9 m hk w m' hk' w'→(h::hp)[Y6 dl (L.setIfInBounds i true)]? =some hk'→
    wpAnyIn (FR ro) 0 P md ops Q fuel (L.setIfInBounds i true) (a.put o.dst x) w':=
    fun x w' m' hk' r H' E' hcn=>ih _ _ _ ⟨m',hk',D.e hds ho hni hed hv r H' E'.j (D.d.a E') hcn (D.a hiL E')⟩ oM
   -- the effects that are done
   have heffcnt:fS dl[i]=true→Y6 dl L=iJ dl i∧Y6 dl (L.setIfInBounds i true)=iJ dl i+1:=by
    intro he;have hmem:i∈di dl:=im.2 ⟨dl[i],hdi,he⟩;have pair:∀p q,p∈di dl→q∈di dl→p<q→Zk B q p=true:=by
     intro p q hp' hq' hlt;have:=List.all_eq_true.1 (List.all_eq_true.1 hchain p hp') q hq';have hb':Nat.blt p q=true:=by rw[Nat.blt_eq];exact hlt
     simpa[hb']using this
    have lt_of:∀p,p∈di dl→p<ops.size:=by intro p hp';let⟨s,hs,_⟩:=im.1 hp';have:=(List.getElem?_eq_some_iff.1 hs).1;omega
    have h1:∀p∈di dl,p<i→dn L p:=fun p hp' hlt=>jL hB D.b i o ho hed p (pair p i hp' hmem hlt) (lt_of p hp');have h2:∀p∈di dl,i<p→¬dn L p:=fun p hp' hlt hd=>
     hni (jL hB D.b p _ (Array.getElem?_eq_getElem (lt_of p hp')) (D.b p _ (Array.getElem?_eq_getElem (lt_of p hp')) hd) i (pair i p hmem hp' hlt) hilt)
    refine⟨Cm oM h1 (fun p hp' hle=>?_),?_⟩;obtain q|q:=Nat.lt_or_eq_of_le hle;exact h2 p hp' q;subst q;exact hni;rw[←E5 hdi he];refine Cm oM (fun p hp' hlt=>?_) (fun p hp' hle hd=>?_);rw[iN hiL];by_cases c:p=i;exact .inl c;exact .inr (h1 p hp' oM);rw[iN hiL]at hd;obtain q|q:=hd;omega;exact h2 p hp' oM q
   have hnoeff:fS dl[i]=false→Y6 dl (L.setIfInBounds i true)=Y6 dl L:=fun he=>
    Cl (fun hm=>by let⟨s,hs,h2⟩:=im.1 hm;rw[hdi]at hs;cases hs;rw[he]at h2;cases h2)
   unfold wpOpIn;rw[ho];simp;obtain⟨hlt1,hhab⟩|⟨hsn,hgt,hop⟩|⟨hsn,hgf,hvu,hha⟩:=hrun
   -- a late block
   obtain⟨_,q⟩|⟨q0,u,c,q,hu2,hu3,hu4⟩:=y1 i l[i] (List.getElem?_eq_getElem hlt');let⟨c1,hc1,_⟩:=hlt1;rw[Option.some.inj (hdi.symm.trans q)]at hc1;cases hc1;have hdu:dl[i]=(l[i],some (u,c)):=Option.some.inj (hdi.symm.trans q);let⟨c1,hc1,hlok⟩:=hlt1;rw[hdu]at hc1 hlok;simp at hc1;obtain⟨rfl,rfl⟩:=hc1;unfold cI at hlok;split at hlok;case h_2=>cases hlok
   rename_i c2 k2 hlc;simp at hlok;have hc2:=mi _ _ hlok.1;have hu1:=tp _ _ hlok.2;subst hc2;rw[Nat.zero_add]at q0;rw[q0]at hcl;have hgn:o.guard=none:=by simpa using hcl
   have hw:Region.wanted o (yielded ops a.tmps)=true:=by unfold Region.wanted;rw[hgn]
   rw[if_pos hw];let⟨b1,b2,b3⟩:=D.r i l[i] u c (by rw[hdi,hdu]) hni;let⟨x,X,elem,hrun,hX,hval⟩:=HF (P:=P) hO hco hlc w;refine⟨fun _ _=>trivial,?_⟩;show o.uponIn (FR ro) 0 P a _ Q ((o.semAt ro a.eval).run P w);rw[Oper.semAt_eq ro a.eval o (fun c' hcc=>by simp[nN]at hco;rw[hcc]at hco;exact absurd hco.1 (by simp[LN])),hrun];have hes:fS dl[i]=false:=by rw[hdu];rfl
   have H':=D.n.k (elem:=elem) b1 b2 hX;have hle:Le m (eU m (S_ u) ⟨w.heap.size,0,X.size,none⟩):=by intro q l' hq;rw[aJ];exact hq;intro e';subst e';rw[b1]at hq;cases hq
   have E0:P9 m0 h0 w0 (eU m (S_ u) ⟨w.heap.size,0,X.size,none⟩) hk (w.alloc (.cells X elem)):=by
    refine⟨fun p l' hp=>hle _ _ (D.d.j _ _ hp),?_,D.d.f,D.d.l,?_,?_,D.d.s,D.d.g,D.d.d,fun b i hb x=>D.d.o b i hb (Y9.d m _ _ rfl b i (Nat.lt_of_lt_of_le hb D.d.c) x),fun b hb=>by
     have:=D.d.c;rw[heap_alloc_old w _ _ oM];exact D.d.n b hb,fun p l' hp hn0=>by
     by_cases e':p=S_ u;subst e';rw[aB]at hp;cases hp;rfl;rw[aJ _ _ e']at hp;exact D.d.r _ _ hp hn0⟩
    intro p l' hp hn0;by_cases e':p=S_ u;subst e';rw[aB]at hp;cases hp;exact⟨hu2,.inl D.d.c⟩;rw[aJ _ _ e']at hp;exact D.d.k _ _ hp hn0;have:=D.d.c;simp;omega;intro b hb1 hb2;have:=D.d.c;rw[heap_alloc_old w _ _ oM];exact D.d.e b hb1 hb2
   refine ih _ _ _ ⟨_,hk,D.e hds ho hni hed hv ?_ H' hle E0 (by rw[hnoeff hes];exact D.g) ?_⟩ oM;have e:=hval (S_ u) (eU m (S_ u) ⟨w.heap.size,0,X.size,none⟩) (aB _ _ _);rw[←hu1]at e;exact e;intro j s' u' c' hj hnd;have hji:j≠i:=fun e'=>hnd ((iN hiL).2 (.inl e'));let⟨g1,g2,g3⟩:=D.r j s' u' c' hj (fun hd=>hnd ((iN hiL).2 (.inr hd)));have hne:S_ u'≠S_ u:=by obtain q'|q':=Nat.lt_or_gt_of_ne hji;have:=y2 j i s' l[i] u' u _ _ q' hj (by rw[hdi,hdu]);omega;have:=y2 i j l[i] s' u u' _ _ q' (by rw[hdi,hdu]) hj;omega
   exact⟨by rw[aJ _ _ hne];exact g1,g2,g3⟩;rw[hfst]at hgt hop;rw[if_pos (D.c hO hcg hgt)];have hes:fS dl[i]=g_ l[i].a:=by unfold fS;rw[hsn,hfst]
   cases he:g_ l[i].a
   -- it reads, or reckons
   have hcn:=hnoeff (hes.trans he);have hop':aS call ((vals.take i).reverse++[]) env hk l[i].a=some (v,hk):=by
    have hcase:(∃k xs,l[i].a=.p k xs)∨Oc l[i].a=true:=by
     cases hio:l[i].a with
     |p k xs=>exact .inl ⟨k,xs,rfl⟩
     |a n ia x=>exact .inr rfl
     |o a b c d=>exact .inr rfl
     |j a=>exact .inr rfl
     |_=>rw[hio]at he;simp[g_]at he
    obtain⟨k,xs,hio⟩|hio:=hcase;rw[hio]at hop⊢;exact E4 hop hk;have hro:GZ (pJ late l 0) B reads i=true:=by rw[hio]at hcr;simpa using hcr
    let⟨r,hr,hr2⟩:=List.any_eq_true.1 hro;let⟨ri,lo,hi'⟩:=r;rw[heffm]at hr2;simp only[Bool.and_eq_true]at hr2;let⟨⟨q1,q2⟩,q3⟩:=hr2;have q1:=Nat.eq_of_beq_eq_true q1;subst q1;have q2:=Nat.le_of_ble_eq_true q2;have q3:=Nat.le_of_ble_eq_true q3;have lt_of:∀p,p∈di dl→p<ops.size:=by intro p hp';let⟨s,hs,_⟩:=im.1 hp';have:=(List.getElem?_eq_some_iff.1 hs).1;omega
    have c1:((di dl).filter fun e=>Zk B ri e).length≤Y6 dl L:=qX _ (fun p hp' hb'=>jL hB D.b ri o ho hed p hb' (lt_of p hp'));have c2:Y6 dl L+((di dl).filter fun e=>Zk B e ri).length≤(di dl).length:=pV _ (fun p hp' hd=>by
     cases hbb:Zk B p ri;rfl;exact absurd (jL hB D.b p _ (Array.getElem?_eq_getElem (lt_of p hp')) (D.b p _ (Array.getElem?_eq_getElem (lt_of p hp')) hd) ri hbb hilt) hni)
    have hrk:=List.all_eq_true.1 hrd _ hr;unfold oG at hrk;simp only[List.getElem?_eq_getElem hlt']at hrk;have hdrop:loc.drop (l.length-ri-1)=v::((vals.take ri).reverse++[]):=by
     rw[hloc];have hvr:vals[ri]? =some v:=hv;have hrl:ri<vals.length:=oM;have e1:vals.take (ri+1)=vals.take ri++[v]:=by rw[List.take_succ_eq_append_getElem hrl];rw[List.getElem?_eq_getElem hrl]at hvr;cases hvr;rfl
     have e2:(vals.reverse++[]).drop (l.length-ri-1)=(vals.take (ri+1)).reverse:=by rw[List.append_nil,List.drop_reverse];congr 2;omega
     rw[e2,e1];simp
    rw[hdrop]at hrk;simp only[hgt]at hrk;have hmem:hk∈(((h1::hs1).reverse.drop lo).take (hi'+1-lo)):=by
     have hrev:(h1::hs1).reverse=h::hp:=by rw[hhs];simp
     rw[hrev];have hget:=D.g;have:((((h::hp).drop lo).take (hi'+1-lo)))[Y6 dl L-lo]? =some hk:=by rw[List.getElem?_take,if_pos oM,List.getElem?_drop,(oM:lo+(Y6 dl L-lo)=Y6 dl L)];exact hget
     exact List.mem_of_getElem? this
    let⟨g',hg'⟩:=wD _ hrk hk hmem;have:=xd he hg';subst this;exact hg'
   refine uk hcall hG' hO D.n hco hop' (fun x w' m' r H' E'=>go x w' m' hk r H' E' ?_);rw[hcn];exact D.g
   -- it has an effect
   let⟨e1,e2⟩:=heffcnt (hes.trans he);have hkb:hk=hb:=by have:=D.g;rw[e1,hhb]at this;cases this;rfl
   subst hkb;refine uk hcall hG' hO D.n hco hop (fun x w' m' r H' E'=>go x w' m' ha r H' E' ?_);rw[e2];exact hef (hes.trans he);rw[hfst]at hgf;have hes:fS dl[i]=g_ l[i].a:=by unfold fS;rw[hsn,hfst]
   rw[if_neg (by rw[D.c hO hcg hgf];simp)];refine⟨fun _ _=>trivial,?_⟩;refine go undef w m hk ?_ D.n (P9.b _ _ _) ?_;rw[hvu];exact⟨[],rfl,rfl⟩;cases he:g_ l[i].a;rw[hnoeff (hes.trans he)];exact D.g;let⟨e1,e2⟩:=heffcnt (hes.trans he);have hkb:hk=hb:=by have:=D.g;rw[e1,hhb]at this;cases this;rfl
   rw[e2,hkb,←hha];exact hef (hes.trans he)
 have start:∀md R',qK md ops R'=true→∀t,wpOpsIn (FR ro) 0 P ops Q (Region.linearise md ops t) a0 {w0 with drawn:=w0.drawn+1}:=by
  intro md R' hrank t;refine wpAnyIn_sound ops.size t _ a0 _ (main md R' hrank ops.size _ a0 _ ⟨m0,h,?_⟩ (by
   have:=List.length_filter_le (fun i=> !(Array.replicate ops.size false).getD i false) (List.range ops.size);simpa using this))
  have hnone:∀i,¬dn (Array.replicate ops.size false) i:=by intro i hi;unfold dn at hi;rw[Array.getD_eq_getD_getElem?]at hi;by_cases c:i<ops.size;simp[c]at hi;simp[c]at hi
  refine⟨iS,fun i o _ hd=>absurd hd (hnone i),hE.1,rfl,fun t _=>rfl,?_,(y6 m0 w0 H0).r rfl,hstart.a (P9.h m0 h w0),fun i v t hd=>absurd hd (hnone i),?_⟩;have:Y6 dl (Array.replicate ops.size false)=0:=by unfold Y6;rw[List.length_eq_zero_iff,List.filter_eq_nil_iff];intro e _;exact hnone e
  rw[this];rfl;intro i s u c hi _;have hil:i<l.length:=by have:=(List.getElem?_eq_some_iff.1 hi).1;omega
  obtain⟨_,q⟩|⟨_,u',c',q,hu2,hu3,hu4⟩:=y1 i l[i] (List.getElem?_eq_getElem hil);rw[hi]at q;cases q;rw[hi]at q;cases q;refine⟨?_,hu4,hu3⟩;exact H0.b hu2
 unfold Bj at hedge;simp only[Bool.and_eq_true]at hedge;unfold Region.schedule;split;exact start .any _ hedge.1.1 t;split;exact start .text _ hedge.1.2 _;exact start .gc _ hedge.2 _;cases e;cases e
end
end Go.Ev
