/- An evaluator of the program, and contracts over it: MsN to LayN. -/
import Derived.Test.YtdbfhmneijcjbaaGreatP04
import Derived.Test.YtdbfhmneijcjbaaGreatP05
set_option linter.unusedSimpArgs false
set_option linter.unusedVariables false
set_option linter.constructorNameAsVariable false
set_option linter.unnecessarySimpa false
open Go.RowKit
namespace Go.Ev
def Has(m:M)(p:Nat)(Ms:List (Option Loc)):Prop:=∀(i:Nat) loc,Ms[i]? =some (some loc)->m (p+i)=some loc
def HasR(h:Heap)(p:Nat)(Cs:List (List V)):Prop:=∀(i:Nat) c,Cs[i]? =some c->Rs h (p+i) c
theorem Has.left{m:M}{p:Nat}{A B:List (Option Loc)}(a:Has m p (A++B)):Has m p A:=fun i loc h=>a i loc (by rw[Tt (Ss.1 h).1];exact h)
theorem Has.right{m:M}{p:Nat}{A B:List (Option Loc)}(a:Has m p (A++B)):Has m (p+A.length) B:=fun i loc h=>by have:=a (A.length+i) loc (by rw[TJ oM,(oM:A.length+i-A.length=i)];exact h);rwa[<-TC]at this
theorem HasR.left{h:Heap}{p:Nat}{A B:List (List V)}(a:HasR h p (A++B)):HasR h p A:=fun i c e=>a i c (by rw[Tt (Ss.1 e).1];exact e)
theorem HasR.right{h:Heap}{p:Nat}{A B:List (List V)}(a:HasR h p (A++B)):HasR h (p+A.length) B:=fun i c e=>by have:=a (A.length+i) c (by rw[TJ oM,(oM:A.length+i-A.length=i)];exact e);rwa[<-TC]at this
theorem HasR.tail{h:Heap}{p:Nat}{c:List V}{B:List (List V)}(a:HasR h p (c::B)):HasR h (p+1) B:=HasR.right (A:=[c]) a
theorem Has.tail{m:M}{p:Nat}{l:Option Loc}{B:List (Option Loc)}(a:Has m p (l::B)):Has m (p+1) B:=Has.right (A:=[l]) a
def L8(W:World)(m:M)(loc:Loc)(c:List V):Prop:=loc.lp=none/\c.length=loc.room/\∃C ty fz,W.heap[loc.block]? =some (.cells C ty fz)/\loc.base+loc.room<=C.size/\
 (∀(i:Nat) v,c[i]? =some v->∃x,C[loc.base+i]? =some x/\VRel m v x)/\∀i:Nat,i<loc.room->¬(fz.1<=loc.base+i/\loc.base+i<fz.2)
def VEx(v:V):Prop:=∀(m:M) x x',VRel m v x->VRel m v x'->x=x'
theorem VEx.int(k:IntKind)(n:Int):VEx (.int k n):=fun m x x' h h'=>by simp only[VRel]at h h';rw[h,h']
theorem VEx.str(s:List UInt8):VEx (.str s):=fun m x x' h h'=>by simp only[VRel]at h h';rw[h,h']
theorem VEx.nils:VEx .nils:=fun m x x' h h'=>by simp only[VRel]at h h';rw[h,h']
theorem VEx.sliceZ(a:Addr)(c:Nat):VEx (.sliceZ a c):=fun m x x' h h'=>by simp only[VRel]at h h';rw[h,h']
theorem VEx.slice(b o l c:Nat):VEx (.slice b o l c):=fun m x x' h h'=>by simp only[VRel]at h h';let⟨p,e,_,r⟩:=h;let⟨p',e',_,r'⟩:=h';rw[e]at e';cases e';rw[r,r']
theorem VsRel.app{m:M}:∀{a b:List V}{x y:List Value},VsRel m a x→VsRel m b y→VsRel m (a++b) (x++y)
 |[],_,x,_,h,g=>by have:x=[]:=h;subst this;exact g
 |v::vs,_,_,_,h,g=>by obtain⟨v',vs',rfl,h1,h2⟩:=h;exact⟨v',vs'++_,rfl,h1,h2.app g⟩
theorem VsRel.at{m:M}:∀{a:List V}{x:List Value},VsRel m a x→∀(i:Nat) v,a[i]? =some v→∃u,x[i]? =some u∧VRel m v u
 |[],_,_,i,v,e=>by simp at e
 |v::vs,_,h,i,u,e=>by
  obtain⟨v',vs',rfl,h1,h2⟩:=h;cases i with
  |zero=>simp at e;subst e;exact⟨v',rfl,h1⟩
  |succ i=>exact h2.at i u (eV e)
structure Tell(W:World)(p:Nat)(vs:List V)(xs:List Value)(Ms:List (Option Loc))(Cs:List (List V)):Prop where
 l:Ms.length=Cs.length
 v:∀m,Has m p Ms->VsRel m vs xs
 a:∀m,Has m p Ms->∀(i:Nat) loc c,Ms[i]? =some (some loc)->Cs[i]? =some c->L8 W m loc c
 e:∀c∈Cs,∀u∈c,VEx u
 x:∀u∈vs,VEx u
section
variable {W : World} {p : Nat} {vs vs' : List V} {xs xs' : List Value} {Ms Ms' : List (Option Loc)} {Cs Cs' : List (List V)}
theorem Tell.app(s:Tell W p vs xs Ms Cs)(t:Tell W (p+Ms.length) vs' xs' Ms' Cs'):Tell W p (vs++vs') (xs++xs') (Ms++Ms') (Cs++Cs'):=by refine⟨by simp[s.l,t.l],fun m Z=>(s.v m Z.left).app (t.v m Z.right),fun m Z i loc c h1 h2=>?_,fun c hc=>?_,fun u hu=>?_⟩;by_cases K:i<Ms.length;rw[Tt K]at h1;rw[Tt (by rw[<-s.l];exact K)]at h2;exact s.a m Z.left i loc c h1 h2;rw[TJ oM]at h1;rw[TJ (by rw[<-s.l];omega),<-s.l]at h2;exact t.a m Z.right _ loc c h1 h2;exact(pi.1 hc).elim (s.e c) (t.e c);exact(pi.1 hu).elim (s.x u) (t.x u)
theorem Tell.flat(h:∀m,VsRel m vs xs)(x:∀u∈vs,VEx u):Tell W p vs xs [] []:=⟨rfl,fun m _=>h m,fun m _ i loc c e=>by simp at e,iS,x⟩
theorem Tell.arr{b off n k cap:Nat}{C:Array Value}{ty:TypeId}{fz:Nat×Nat}(hC:W.heap[b]? =some (.cells C ty fz))(ae:off+n*k<=C.size)(ac:∀i:Nat,i<n*k->¬(fz.1<=off+i/\off+i<fz.2))
 (hx:∀(i:Nat) x,xs[i]? =some x->C[off+i]? =some x) (lx:vs.length=n*k) (Z:n<=cap) (t:Tell W (p+1) vs xs Ms Cs):
 Tell W p [.slice p 0 n cap] [.slice (some ⟨b,off,none⟩) n cap] (some ⟨b,off,n*k,none⟩::Ms) (vs::Cs):=by
 refine⟨by simp[t.l],fun m K=>⟨_,[],rfl,⟨_,K 0 _ rfl,Z,iS⟩,rfl⟩,fun m K i loc c h1 h2=>?_,fun c hc=>?_,fun u hu=>?_⟩;cases i with
 |zero=>simp at h1 h2;subst h1 h2;refine⟨rfl,lx,C,ty,fz,hC,ae,fun i v hv=>?_,ac⟩;let⟨u,e,r⟩:=(t.v m K.tail).at i v hv;exact⟨u,hx i u e,r⟩
 |succ i=>exact t.a m K.tail i loc c (eV h1) (eV h2)
 obtain rfl|hc:=Sk.1 hc;exact t.x;exact t.e c hc;have:u=_:=Su.1 hu;subst this;exact VEx.slice _ _ _ _
end
theorem tell_list{W:World}{α:Type}{f:α→List V}{Φ:Heap→α→Prop}{Q:α→Prop}:∀(ys:List (List Value))(p:Nat),(∀y∈ys,∀p,∃a Ms Cs,Tell W p (f a) y Ms Cs∧(∀h,HasR h p Cs→Φ h a)∧Q a)→
 ∃(L:List α)(Ms:List (Option Loc))(Cs:List (List V)),L.length=ys.length∧Tell W p (L.flatMap f) ys.flatten Ms Cs∧(∀h,HasR h p Cs→∀a∈L,Φ h a)∧∀a∈L,Q a
 |[],p,_=>⟨[],[],[],rfl,Tell.flat (fun _=>rfl) iS,iS,iS⟩
 |y::ys,p,hy=>by let⟨a,Ms,Cs,t,ph,q⟩:=hy y iS p;let⟨L,Ms',Cs',ll,t',ph',q'⟩:=tell_list ys (p+Ms.length) fun y m=>hy y iX;refine⟨a::L,Ms++Ms',Cs++Cs',by simp[ll],t.app t',fun h hr x hx=>?_,fun x hx=>?_⟩;obtain rfl|hx:=List.mem_cons.1 hx;exact ph h hr.left;exact ph' h (by rw[t.l];exact hr.right) x hx;grind
theorem Md{W:World}{Ms:List (Option Loc)}{Cs:List (List V)}(hl:Ms.length=Cs.length)(he:∀(i:Nat) loc c,Ms[i]? =some (some loc)→Cs[i]? =some c→L8 W (mS Ms) loc c):HRel (mS Ms) (hS Cs) W:=by
 have cget:∀(i:Nat) loc,Ms[i]? =some (some loc)→∃c,Cs[i]? =some c:=fun i loc h=>by have:=(List.getElem?_eq_some_iff.1 h).1;exact⟨_,List.getElem?_eq_getElem oM⟩
 refine⟨⟨?_,JE⟩,?_,?_,?_⟩;intro p c f k hp;by_cases q2:2≤p∧p<2+Cs.length;have hc:Cs[p-2]? =some (Cs[p-2]' oM):=List.getElem?_eq_getElem oM;have:=yM hc;rw[(oM:2+(p-2)=p),hp]at this;cases this;rw[Fi];exact Nat.le_refl _;rw[Au oM]at hp;cases hp;intro p loc hp;obtain⟨i,rfl,h⟩:=lu hp;let⟨c,hc⟩:=cget i loc h;let⟨_,hcl,C,ty,fz,h1,h2,h3,h4⟩:=he i loc c h hc;exact⟨_,yM hc,fun _=>⟨C,ty,fz,h1,h2,oM,h3,h4⟩⟩;intro p loc hp;obtain⟨i,rfl,h⟩:=lu hp;let⟨c,hc⟩:=cget i loc h;let⟨_,_,C,ty,fz,h1,_⟩:=he i loc c h hc;exact(Array.getElem?_eq_some_iff.1 h1).1;intro p q lp lq hp hq hbl hne;obtain⟨i,rfl,h⟩:=lu hp;obtain⟨j,rfl,h'⟩:=lu hq;let⟨c,hc⟩:=cget i lp h;let⟨c',hc'⟩:=cget j lq h';refine⟨c,c',1,0,0,yM hc,yM hc',fun e hf=>?_⟩;rw[Fi]at hf;simp only[Option.some.injEq,Prod.mk.injEq]at hf;omega
theorem Gm{m m':M}{h h':Heap}{w w':World}(H:HRel m h w)(H':HRel m' h' w')(E:Ext m h w m' h' w')
 (flat:∀p loc,m p=some loc->∃c,Rdb h p c/\Rdb h' p c/\c.length=loc.room/\∀v∈c,VEx v):Below w.heap.size w w':=by
 refine⟨E.os,E.tape,E.output,E.size,fun b hb=>?_⟩;by_cases cc:∃p loc,m p=some loc/\loc.block=b;obtain⟨p,loc,hp,rfl⟩:=cc;let⟨cs,o,o',len,ints⟩:=flat p loc hp;let⟨C,el,fz,hC,hsz,hcell⟩:=H.cellsR hp o;let⟨x',hx',k⟩:=E.out loc.block hb _ hC;cases x' with
 |cells C' el' fz'=>
  obtain⟨rfl,rfl,af,ae⟩:=k;rw[hx',hC];have:C'=C:=by apply Array.ext_getElem?;intro j;by_cases cv:Cov m loc.block j;let⟨q,lq,hq,hbq,j1,j2⟩:=cv;let⟨cq,oq,oq',lenq,intq⟩:=flat q lq hq;let⟨C1,el1,fz1,Z,_,hc1⟩:=H.cellsR hq oq;let⟨C2,el2,fz2,K,_,hc2⟩:=H'.cellsR (E.le _ _ hq) oq';rw[hbq]at Z K;rw[hC]at Z;cases Z;rw[hx']at K;cases K;have ac:j-lq.base<cq.length:=oM;have ex:=intq cq[j-lq.base] (List.getElem_mem ac);have ec:cq[j-lq.base]? =some cq[j-lq.base]:=Sm ac;let⟨x1,e1,r1⟩:=hc1 (j-lq.base) _ ec;let⟨x2,e2,r2⟩:=hc2 (j-lq.base) _ ec;rw[(oM:lq.base+(j-lq.base)=j)]at e1 e2;rw[e1,e2,ex m' x1 x2 (TA E.le _ _ r1) r2];exact ae j cv
  rw[this]
 |_=>simp at k
 exact E.keep b (fun p loc hp e=>cc ⟨p,loc,hp,e⟩) hb
end Go.Ev
namespace Go.Ev.Lay
variable{h':Heap}{pl pr:Option Nat}{bl bs br:Nat}{α:Type}{size:Int}{kn:Bool}{ks:List Bool}
set_option maxRecDepth 4000
inductive Tr where
 |nil
 |node (l:Tr) (s:Int) (r:Tr)
namespace Tr
def list:Tr->List Int
 |nil=>[]
 |node l s r=>l.list++s::r.list
def many:Tr->Int
 |nil=>0
 |node l _ r=>l.many+r.many+1
def sum:Tr->Int
 |nil=>0
 |node l s r=>l.sum+s+r.sum
def tall:Tr->Int
 |nil=>0
 |node l _ r=>max l.tall r.tall+1
theorem many_eq:∀t:Tr,t.many=t.list.length
 |nil=>rfl
 |node l s r=>by simp[many,list,many_eq l,many_eq r];omega
theorem sum_eq:∀t:Tr,t.sum=t.list.sum
 |nil=>rfl
 |node l s r=>by simp[sum,list,sum_eq l,sum_eq r];omega
theorem tall_nn:∀t:Tr,0≤t.tall
 |nil=>by simp[tall]
 |node l s r=>by have:=tall_nn l;have:=tall_nn r;simp only[tall];omega
theorem tall_le:∀t:Tr,t.tall≤t.many
 |nil=>by simp[tall,many]
 |node l s r=>by have a:=tall_le l;have b:=tall_le r;have c:=many_eq l;have d:=many_eq r;simp only[tall,many];omega
theorem many_nn(t:Tr):0<=t.many:=by rw[many_eq];omega
end Tr
def At(h:Heap):Tr->Option Nat->Prop
 |.nil,p=>p=none
 |.node l s r,p=>∃b pl pr,p=some b/\Own h b [pv pl,pv pr,ZZ s,ZZ (Tr.node l s r).many, ZZ (Tr.node l s r).sum, ZZ (Tr.node l s r).tall]/\At h l pl/\At h r pr
theorem At.fr{h:Heap}(f:Fr [] h h'):∀{t:Tr}{p:Option Nat},At h t p->At h' t p
 |.nil,_,a=>a
 |.node l s r,_,⟨b,pl,pr,e,o,al,ar⟩=>⟨b,pl,pr,e,f.get o,At.fr f al,At.fr f ar⟩
def Fit(l:List Int):Prop:=(∀x∈l,0<=x)/\l.sum<=4611686018427387904/\(l.length:Int)<=1000000
theorem sum_nn:∀{l:List Int},(∀x∈l,0≤x)→0≤l.sum
 |[],_=>by simp
 |x::l,h=>by have:=sum_nn (l:=l) fun y hy=>h y iX;have:=h x iS;simp;omega
theorem Fit.left{a b:List Int}(f:Fit (a++b)):Fit a:=by let⟨p,q,r⟩:=f;have K:0<=b.sum:=sum_nn fun x Z=>p x iX;refine⟨fun x Z=>p x iX,?_,?_⟩;grind;grind
theorem Fit.right{a b:List Int}(f:Fit (a++b)):Fit b:=by let⟨p,q,r⟩:=f;have K:0<=a.sum:=sum_nn fun x Z=>p x iX;refine⟨fun x Z=>p x iX,?_,?_⟩;grind;grind
theorem Fit.nn{l:List Int}(f:Fit l):0<=l.sum:=sum_nn f.1
theorem cY{h:Heap}{t:Tr}{p:Option Nat}(a:At h t p):ao go 266 [pv p] h fun v h'=>v=ZZ t.tall/\h'=h:=by
 refine ag ?_;cases t with
 |nil=>have a:p=none:=a;subst a;simp only[evs,seval,jy,Tr.tall]
 |node l s r=>obtain⟨b,pl,pr,rfl,o,_⟩:=a;simp only[evs,seval,aT,o.ld1]
theorem kH{h:Heap}{t:Tr}{p:Option Nat}(a:At h t p):ao go 243 [pv p] h fun v h'=>v=ZZ t.many/\h'=h:=by
 refine ag ?_;cases t with
 |nil=>have a:p=none:=a;subst a;simp only[evs,seval,jy,Tr.many]
 |node l s r=>obtain⟨b,pl,pr,rfl,o,_⟩:=a;simp only[evs,seval,aT,o.ld1]
theorem qV{h:Heap}{t:Tr}{p:Option Nat}(a:At h t p):ao go 111 [pv p] h fun v h'=>v=ZZ t.sum/\h'=h:=by
 refine ag ?_;cases t with
 |nil=>have a:p=none:=a;subst a;simp only[evs,seval,jy,Tr.sum]
 |node l s r=>obtain⟨b,pl,pr,rfl,o,_⟩:=a;simp only[evs,seval,aT,o.ld1]
theorem dK{h:Heap}{l r:Tr}{s:Int}(w:WF h)(al:At h l pl)(Z:At h r pr)(f:Fit (l.list++s::r.list)):
 ao go 268 [pv pl,ZZ s,pv pr] h fun v h'=>∃b,v=pv (some b)/\At h' (.node l s r) (some b)/\Fr [] h h':=by
 have l1:=Tr.many_eq l;have l2:=Tr.sum_eq l;have l3:=Tr.tall_nn l;have l4:=Tr.tall_le l;have r1:=Tr.many_eq r;have r2:=Tr.sum_eq r;have r3:=Tr.tall_nn r;have r4:=Tr.tall_le r;have K:=f.left.nn;have fr:=Fit.nn (Fit.right (a:=l.list++[s]) (b:=r.list) (eV f));have hs:0<=s:=f.1 s iS;let⟨_,f2,f3⟩:=f;simp only[Vn,VG,Sv,SG]at f2 f3;rw[<-l2]at K f2;rw[<-r2]at fr f2;refine ag ?_;simp only[evs,seval];refine aa (kH al) ?_;rintro _ _ ⟨rfl,rfl⟩;simp only[evs,seval];apply aa (kH Z);rintro _ _ ⟨rfl,rfl⟩;simp(disch:=omega) only[evs,seval,ah];apply aa (qV al);rintro _ _ ⟨rfl,rfl⟩;simp(disch:=omega) only[evs,seval,ah];apply aa (qV Z);rintro _ _ ⟨rfl,rfl⟩;simp(disch:=omega) only[evs,seval,ah];apply aa (cY al);rintro _ _ ⟨rfl,rfl⟩;simp only[evs,seval];apply aa (cY Z);rintro _ _ ⟨rfl,rfl⟩;simp(disch:=omega) only[evs,seval,ah];refine⟨_,rfl,?_,SO w _⟩;exact⟨_,pl,pr,rfl,by simpa only[Tr.many,Tr.sum,Tr.tall]using Ts w _,al.fr (SO w _),Z.fr (SO w _)⟩
theorem IS{h:Heap}{l r:Tr}{s:Int}(w:WF h)(al:At h l pl)(Z:At h r pr)(f:Fit (l.list++s::r.list))
 (ol:Own h bl [pv pl]) (os:Own h bs [ZZ s]) (or:Own h br [pv pr]):
 ao go 287 [.ptr bl 0,.ptr bs 0,.ptr br 0] h fun v h'=>∃t p,v=pv p/\At h' t p/\t.list=l.list++s::r.list/\Fr [] h h':=by
 refine ag ?_;simp only[evs,seval,ol.ld1,os.ld1,or.ld1];refine aa (dK w al Z f) ?_;rintro _ h' ⟨b,rfl,a,fr⟩;simp only[evs,seval];exact⟨_,_,rfl,a,rfl,fr⟩
theorem Fit.cons{x:Int}{l:List Int}(f:Fit (x::l)):Fit l:=Fit.right (a:=[x]) (eV f)
theorem IR{h:Heap}{l r:Tr}{s:Int}(w:WF h)(al:At h l pl)(ar:At h r pr)(f:Fit (l.list++s::r.list))(ht:0<r.tall)
 (ol:Own h bl [pv pl]) (os:Own h bs [ZZ s]) (or:Own h br [pv pr]):
 ao go 288 [.ptr br 0,.ptr bl 0,.ptr bs 0] h fun v h'=>∃t p,v=pv p/\At h' t p/\t.list=l.list++s::r.list/\Fr [] h h':=by
 cases r with
 |nil=>simp[Tr.tall]at ht
 |node rl rs rr=>
  obtain⟨b,ay,az,rfl,o,ae,arr⟩:=ar;have f1:Fit ((l.list++s::rl.list)++rs::rr.list):=by simpa[Tr.list]using f
  refine ag ?_;simp only[evs,seval,eff,or.ld1,aT,o.ld1];refine aa (cY ae) ?_;rintro _ _ ⟨rfl,rfl⟩;simp only[evs,seval,eff];simp only[evs,eff,or.ld1,aT,o.ld1];apply aa (cY arr);rintro _ _ ⟨rfl,rfl⟩;simp only[evs,seval,DF,eff];simp only[evs,seval,eff,ol.ld1,os.ld1,or.ld1,aT,o.ld1];split;rename_i ax;cases rl with
  |nil=>have:=Tr.tall_nn rr;simp[Tr.tall]at ax;omega
  |node ml ms mr=>
   obtain⟨b',aH,a0,rfl,o',ak,an⟩:=ae;have f2:Fit ((l.list++s::ml.list)++ms::(mr.list++rs::rr.list)):=by simpa[Tr.list]using f
   simp only[evs,eff,aT,o'.ld1];apply aa (dK w al ak f2.left);rintro _ h1 ⟨b1,rfl,a1,Z⟩;simp only[evs,seval,eff,(Z.get or).ld1,aT,(Z.get o).ld1,(Z.get o').ld1];apply aa (dK Z.wf (an.fr Z) (arr.fr Z) f2.right.cons);rintro _ h2 ⟨b2,rfl,a2,K⟩;simp only[evs,eff,aT];apply aa (dK K.wf (a1.fr K) a2 f2);rintro _ h3 ⟨b3,rfl,a3,af⟩;have ac:=Z.then K;simp only[evs,seval,DF,eff,ol.ld1,os.ld1,or.ld1,o.ld1,o'.ld1,(Z.get or).ld1,aT,(Z.get o).ld1,(Z.get o').ld1,(ac.get o').ld1];exact⟨_,_,(aT _).symm,a3,by simp[Tr.list],ac.then af⟩
  apply aa (dK w al ae f1.left);rintro _ h1 ⟨b1,rfl,a1,Z⟩;simp only[evs,seval,eff,(Z.get or).ld1,aT,(Z.get o).ld1];apply aa (dK Z.wf a1 (arr.fr Z) f1);rintro _ h2 ⟨b2,rfl,a2,K⟩;simp only[evs,seval,DF,eff,ol.ld1,os.ld1,or.ld1,o.ld1,(Z.get or).ld1,aT,(Z.get o).ld1];exact⟨_,_,(aT _).symm,a2,by simp[Tr.list],Z.then K⟩
theorem IQ{h:Heap}{l r:Tr}{s:Int}(w:WF h)(al:At h l pl)(ar:At h r pr)(f:Fit (l.list++s::r.list))(ht:0<l.tall)
 (ol:Own h bl [pv pl]) (os:Own h bs [ZZ s]) (or:Own h br [pv pr]):
 ao go 289 [.ptr bl 0,.ptr bs 0,.ptr br 0] h fun v h'=>∃t p,v=pv p/\At h' t p/\t.list=l.list++s::r.list/\Fr [] h h':=by
 cases l with
 |nil=>simp[Tr.tall]at ht
 |node ll ls lr=>
  obtain⟨b,az,ay,rfl,o,all,ae⟩:=al;have f1:Fit (ll.list++ls::(lr.list++s::r.list)):=by simpa[Tr.list]using f
  refine ag ?_;simp only[evs,seval,eff,ol.ld1,aT,o.ld1];refine aa (cY ae) ?_;rintro _ _ ⟨rfl,rfl⟩;simp only[evs,seval,eff];simp only[evs,eff,ol.ld1,aT,o.ld1];apply aa (cY all);rintro _ _ ⟨rfl,rfl⟩;simp only[evs,seval,DF,eff];simp only[evs,seval,eff,ol.ld1,os.ld1,or.ld1,aT,o.ld1];split;rename_i ax;cases lr with
  |nil=>have:=Tr.tall_nn ll;simp[Tr.tall]at ax;omega
  |node ml ms mr=>
   obtain⟨b',aH,a0,rfl,o',ak,an⟩:=ae;have f2:Fit ((ll.list++ls::ml.list)++ms::(mr.list++s::r.list)):=by simpa[Tr.list]using f
   simp only[evs,eff,aT,o'.ld1];apply aa (dK w all ak f2.left);rintro _ h1 ⟨b1,rfl,a1,Z⟩;simp only[evs,seval,eff,(Z.get os).ld1,(Z.get or).ld1,aT,(Z.get o').ld1];apply aa (dK Z.wf (an.fr Z) (ar.fr Z) f2.right.cons);rintro _ h2 ⟨b2,rfl,a2,K⟩;simp only[evs,eff,aT];apply aa (dK K.wf (a1.fr K) a2 f2);rintro _ h3 ⟨b3,rfl,a3,af⟩;have ac:=Z.then K;simp only[evs,seval,DF,eff,ol.ld1,os.ld1,or.ld1,o.ld1,o'.ld1,(Z.get os).ld1,(Z.get or).ld1,aT,(Z.get o').ld1,(ac.get o').ld1];exact⟨_,_,(aT _).symm,a3,by simp[Tr.list],ac.then af⟩
  apply aa (dK w ae ar f1.right.cons);rintro _ h1 ⟨b1,rfl,a1,Z⟩;simp only[evs,eff,aT];apply aa (dK Z.wf (all.fr Z) a1 f1);rintro _ h2 ⟨b2,rfl,a2,K⟩;simp only[evs,seval,DF,eff,ol.ld1,os.ld1,or.ld1,o.ld1,(Z.get ol).ld1,aT,(Z.get o).ld1];exact⟨_,_,(aT _).symm,a2,by simp[Tr.list],Z.then K⟩
def LS(h:Heap)(l:List Int)(v:V):Prop:=∃t p,v=pv p/\At h t p/\t.list=l
theorem qz{h:Heap}{l r:Tr}{s:Int}(w:WF h)(al:At h l pl)(ar:At h r pr)(f:Fit (l.list++s::r.list)):
 ao go 267 [pv pl,ZZ s,pv pr] h fun v h'=>∃t p,v=pv p/\At h' t p/\t.list=l.list++s::r.list/\Fr [] h h':=by
 have l1:=Tr.many_eq l;have l3:=Tr.tall_nn l;have l4:=Tr.tall_le l;have r1:=Tr.many_eq r;have r3:=Tr.tall_nn r;have r4:=Tr.tall_le r;have f3:=f.2.2;simp only[Sv,SG]at f3;obtain⟨h1,e1⟩:∃h1,h1=halloc h [pv pl]:=⟨_,rfl⟩;obtain⟨h2,e2⟩:∃h2,h2=halloc h1 [ZZ s]:=⟨_,rfl⟩;obtain⟨h3,e3⟩:∃h3,h3=halloc h2 [pv pr]:=⟨_,rfl⟩;have F1:Fr [] h h1:=e1▸SO w _;have F2:Fr [] h1 h2:=e2▸SO F1.wf _;have F3:Fr [] h2 h3:=e3▸SO F2.wf _;have ol:Own h3 h.next [pv pl]:=F3.get (F2.get (e1▸Ts w _));have os:Own h3 h1.next [ZZ s]:=F3.get (e2▸Ts F1.wf _);have or:Own h3 h2.next [pv pr]:=e3▸Ts F2.wf _;have F:=(F1.then F2).then F3;have Z:=al.fr F;have K:=ar.fr F;refine ag ?_;simp only[evs,seval,eff,<-e1,<-e2,<-e3,or.ld1];refine aa (cY K) ?_;rintro _ _ ⟨rfl,hh⟩;simp only[evs,seval,eff];subst hh;simp only[evs,seval,eff,ol.ld1];apply aa (cY Z);rintro _ _ ⟨rfl,hh⟩;simp(disch:=omega) only[evs,seval,DF,eff,ah];subst hh;simp only[evs,seval,ol.ld1,or.ld1];split;rename_i hd;apply aa (IR F.wf Z K f oM ol os or);rintro _ h' ⟨t,p,rfl,a,e,fr⟩;simp only[evs,seval];exact⟨_,_,rfl,a,e,F.then fr⟩;split;apply aa (IQ F.wf Z K f oM ol os or);rintro _ h' ⟨t,p,rfl,a,e,fr⟩;simp only[evs,seval];exact⟨_,_,rfl,a,e,F.then fr⟩;apply aa (IS F.wf Z K f ol os or);rintro _ h' ⟨t,p,rfl,a,e,fr⟩;simp only[evs,seval];exact⟨_,_,rfl,a,e,F.then fr⟩
theorem Ar:∀(n:Nat){h:Heap}{l r:Tr}{s:Int}{pl pr:Option Nat},(l.many+r.many).toNat<=n->WF h->At h l pl->At h r pr->Fit (l.list++s::r.list)->
 ao go 234 [pv pl,ZZ s,pv pr] h fun v h'=>∃t p,v=pv p/\At h' t p/\t.list=l.list++s::r.list/\Fr [] h h':=by
 intro n;induction n with
 |zero=>
  intro h l r s pl pr hn w al K f;cases l with
  |node ll ls lr=>have a:=Tr.many_nn ll;have b:=Tr.many_nn lr;have c:=Tr.many_nn r;simp only[Tr.many]at hn;omega
  |nil=>cases r with
   |node ll ls lr=>have a:=Tr.many_nn ll;have b:=Tr.many_nn lr;simp only[Tr.many]at hn;omega
   |nil=>refine ag ?_;simp only[evs,seval];refine aa (cY al) ?_;rintro _ _ ⟨rfl,rfl⟩;simp only[evs,seval];apply aa (cY K);rintro _ _ ⟨rfl,rfl⟩;simp only[evs,seval,eff];simp(disch:=omega) only[ah,Tr.tall];simp only[evs,seval,(oM:¬((0:Int)+1<0))];apply aa (cY K);rintro _ _ ⟨rfl,rfl⟩;simp only[evs,seval];apply aa (cY al);rintro _ _ ⟨rfl,rfl⟩;simp only[evs,seval,eff];simp(disch:=omega) only[ah,Tr.tall];simp only[evs,seval,(oM:¬((0:Int)+1<0))];apply aa (dK w al K f);rintro _ h' ⟨b,rfl,a,fr⟩;simp only[evs,seval];exact⟨_,_,rfl,a,rfl,fr⟩
 |succ n ih=>
  intro h l r s pl pr hn w al K f;have l1:=Tr.many_eq l;have l3:=Tr.tall_nn l;have l4:=Tr.tall_le l;have r1:=Tr.many_eq r;have r3:=Tr.tall_nn r;have r4:=Tr.tall_le r;have f3:=f.2.2;simp only[Sv,SG]at f3;refine ag ?_;simp only[evs,seval];refine aa (cY al) ?_;rintro _ _ ⟨rfl,rfl⟩;simp only[evs,seval];apply aa (cY K);rintro _ _ ⟨rfl,rfl⟩;simp(disch:=omega) only[evs,seval,eff,ah];split;rename_i ae;cases l with
  |nil=>simp only[Tr.tall]at ae;omega
  |node ll ls lr=>
   obtain⟨b,az,ax,rfl,o,all,ak⟩:=al;have f1:Fit (ll.list++ls::(lr.list++s::r.list)):=by simpa[Tr.list]using f
   simp only[evs,seval,eff,aT,o.ld1];refine aa (ih (l:=lr) (r:=r) (by have a:=Tr.many_nn ll;simp only[Tr.many]at hn;omega) w ak K f1.right.cons) ?_;rintro _ h1 ⟨t1,p1,rfl,a1,e1,Z⟩;simp only[evs,eff];refine aa (qz Z.wf (all.fr Z) a1 (by rw[e1];exact f1)) ?_;rintro _ h2 ⟨t2,p2,rfl,a2,e2,ac⟩;simp only[evs,seval,DF,eff,o.ld1,(Z.get o).ld1];exact⟨_,_,rfl,a2,by rw[e2,e1];simp[Tr.list],Z.then ac⟩
  apply aa (cY K);rintro _ _ ⟨rfl,rfl⟩;simp only[evs,seval];apply aa (cY al);rintro _ _ ⟨rfl,rfl⟩;simp(disch:=omega) only[evs,seval,eff,ah];split;rename_i ae;cases r with
  |nil=>simp only[Tr.tall]at ae;omega
  |node rl rs rr=>
   obtain⟨b,an,ay,rfl,o,af,arr⟩:=K;have f1:Fit ((l.list++s::rl.list)++rs::rr.list):=by simpa[Tr.list]using f
   simp only[evs,eff,aT,o.ld1];refine aa (ih (l:=l) (r:=rl) (by have a:=Tr.many_nn rr;simp only[Tr.many]at hn;omega) w al af f1.left) ?_;rintro _ h1 ⟨t1,p1,rfl,a1,e1,Z⟩;simp only[evs,seval,eff,(Z.get o).ld1];refine aa (qz Z.wf a1 (arr.fr Z) (by rw[e1];exact f1)) ?_;rintro _ h2 ⟨t2,p2,rfl,a2,e2,ac⟩;simp only[evs,seval,DF,eff,o.ld1,(Z.get o).ld1];exact⟨_,_,rfl,a2,by rw[e2,e1];simp[Tr.list],Z.then ac⟩
  apply aa (dK w al K f);rintro _ h' ⟨b,rfl,a,fr⟩;simp only[evs,seval];exact⟨_,_,rfl,a,rfl,fr⟩
theorem lF{h:Heap}{l r:Tr}{s:Int}(w:WF h)(al:At h l pl)(ar:At h r pr)(f:Fit (l.list++s::r.list)):
 ao go 234 [pv pl,ZZ s,pv pr] h fun v h'=>∃t p,v=pv p/\At h' t p/\t.list=l.list++s::r.list/\Fr [] h h':=
 Ar _ (RW _) w al ar f
theorem Fit.sub{l m:List Int}(f:Fit l)(h:m.Sublist l):Fit m:=by
 let⟨a,b,c⟩:=f;have Z:∀{l m:List Int},m.Sublist l->(∀x∈l,0<=x)->m.sum<=l.sum:=by
  intro l m h;induction h with
  |slnil=>intro _;simp
  |cons x h ih=>intro a;have:=ih (fun y hy=>a y iX);have:=a x iS;simp;omega
  |cons_cons x h ih=>intro a;have:=ih (fun y hy=>a y iX);simp;omega
 exact⟨fun x K=>a x (h.subset K),by have:=Z h a;omega,by have:=h.length_le;omega⟩
theorem CE(a b:List Int)(s:Int)(k:Nat):(a++s::b).take (a.length+1+k)=a++s::b.take k:=by
 induction a with
 |nil=>simp[UH 1 k]
 |cons x a ih=>simp only[TS,SG,(oM:a.length+1+1+k=(a.length+1+k)+1),List.take_succ_cons,ih]
theorem Dg(a b:List Int)(s:Int)(k:Nat):(a++s::b).drop (a.length+1+k)=b.drop k:=by
 induction a with
 |nil=>simp[UH 1 k]
 |cons x a ih=>simp only[TS,SG,(oM:a.length+1+1+k=(a.length+1+k)+1),List.drop_succ_cons,ih]
theorem gL:∀{t:Tr}{h:Heap}{p:Option Nat}{at':Int},WF h->At h t p->Fit t.list->0<=at'->at'<=1000000->
 ao go 233 [pv p,ZZ at'] h fun v h'=>∃t1 t2 p1 p2,v=.tup [pv p1,pv p2]/\At h' t1 p1/\At h' t2 p2/\t1.list=t.list.take at'.toNat/\t2.list=t.list.drop at'.toNat/\Fr [] h h':=by
 intro t;induction t with
 |nil=>intro h p at' w a f h0 h1;have a:p=none:=a;subst a;refine ag ?_;simp only[evs,seval,jy];exact⟨.nil,.nil,none,none,rfl,rfl,rfl,by simp[Tr.list],by simp[Tr.list],Sn w⟩
 |node l s r ihl ihr=>intro h p at' w a f h0 h1;obtain⟨b,pl,pr,rfl,o,al,ar⟩:=a;have l1:=Tr.many_eq l;have f3:=f.2.2;simp only[Tr.list,Sv,SG]at f3;have f1:Fit (l.list++s::r.list):=f;refine ag ?_;simp only[evs,seval,aT,o.ld1];refine aa (kH al) ?_;rintro _ _ ⟨rfl,rfl⟩;simp only[evs,seval];split;rename_i ac;simp(disch:=omega) only[evs,seval,ah,o.ld1];apply aa (ihr w ar f1.right.cons oM oM);rintro _ h1 ⟨t1,t2,p1,p2,rfl,a1,a2,e1,e2,Z⟩;simp only[evs,seval,eff,(Z.get o).ld1];refine aa (lF Z.wf (al.fr Z) a1 (by rw[e1];exact f1.sub ((Uo _).append ((UF _ _).cons_cons _)))) ?_;rintro _ h2 ⟨t3,p3,rfl,a3,e3,K⟩;simp only[evs,seval,DF,eff,(Z.get o).ld1];have e:at'.toNat=l.list.length+1+(at'-l.many-1).toNat:=oM;refine⟨t3,t2,p3,p2,rfl,a3,a2.fr K,?_,?_,Z.then K⟩;rw[e3,e1,e,Tr.list,CE];rw[e2,e,Tr.list,Dg];rename_i ac;simp only[evs,seval,o.ld1];apply aa (ihl w al f1.left h0 h1);rintro _ h1 ⟨t1,t2,p1,p2,rfl,a1,a2,e1,e2,Z⟩;simp only[evs,seval,eff,(Z.get o).ld1];refine aa (lF Z.wf a2 (ar.fr Z) (by rw[e2];exact f1.sub ((Uc _ _).append (Uo _)))) ?_;rintro _ h2 ⟨t3,p3,rfl,a3,e3,K⟩;simp only[evs,seval,DF,eff,(Z.get o).ld1];refine⟨t1,t3,p1,p3,rfl,a1.fr K,a3,?_,?_,Z.then K⟩;rw[e1,Tr.list,SK oM];rw[e3,e2,Tr.list,Tk oM]
theorem mM{h:Heap}{l r:Tr}(w:WF h)(al:At h l pl)(ar:At h r pr)(f:Fit (l.list++r.list)):
 ao go 207 [pv pl,pv pr] h fun v h'=>∃t p,v=pv p/\At h' t p/\t.list=l.list++r.list/\Fr [] h h':=by
 cases r with
 |nil=>have a:pr=none:=ar;subst a;refine ag ?_;simp only[evs,seval,jy];exact⟨l,pl,rfl,al,by simp[Tr.list],Sn w⟩
 |node rl rs rr=>
  have ae:=ar;obtain⟨b,ak,ax,rfl,o,an,arr⟩:=ar;refine ag ?_;simp only[evs,seval,aT];refine aa (gL (at':=1) w ae f.right oM oM) ?_;rintro _ h1 ⟨t1,t2,p1,p2,rfl,a1,a2,Z,e2,K⟩;cases t1 with
  |nil=>simp[Tr.list]at Z
  |node x y z=>
   obtain⟨b1,q1,q2,rfl,o1,_⟩:=a1;have ne:(Tr.node rl rs rr).list≠[]:=by simp[Tr.list]
   obtain⟨u,us,eu⟩:∃u us,(Tr.node rl rs rr).list=u::us:=by cases hh:(Tr.node rl rs rr).list with
    |nil=>exact absurd hh ne
    |cons u us=>exact⟨u,us,rfl⟩
   rw[eu]at Z e2 f;simp[Tr.list]at Z e2;have hx:x.list=[]/\y=u:=by
    cases ac:x.list with
    |nil=>rw[ac]at Z;simp at Z;exact⟨rfl,Z.1⟩
    |cons i j=>rw[ac]at Z;have:=congrArg List.length Z;simp at this
   obtain⟨_,rfl⟩:=hx;simp only[evs,seval,aT,o1.ld1];refine aa (lF K.wf (al.fr K) a2 (by rw[e2];exact f)) ?_;rintro _ h2 ⟨t3,p3,rfl,a3,e3,af⟩;simp only[evs,seval];exact⟨t3,p3,rfl,a3,by rw[e3,e2,eu],K.then af⟩
theorem At.frb{h:Heap}{b:Nat}{c:List V}(f:Fr [b] h h')(o:Own h b c)(hc:c.length≠6):∀{t:Tr}{p:Option Nat},At h t p->At h' t p
 |.nil,_,a=>a
 |.node l s r,_,⟨q,pl,pr,e,oq,al,ar⟩=>⟨q,pl,pr,e,f.own _ _ (by
  simp only[Su];rintro rfl;have:=oq.uniq o;subst this;simp at hc) oq,At.frb f o hc al,At.frb f o hc ar⟩
def Rp(h:Heap)(v:V)(l:List Int):Prop:=∃t p,v=.agg [pv p]/\At h t p/\t.list=l/\Fit l
theorem Rp.fr{h:Heap}{v:V}{l:List Int}(a:Rp h v l)(f:Fr [] h h'):Rp h' v l:=by let⟨t,p,e,a,x⟩:=a;exact⟨t,p,e,a.fr f,x⟩
theorem Rp.frb{h:Heap}{v:V}{l:List Int}{b:Nat}{c:List V}(a:Rp h v l)(f:Fr [b] h h')(o:Own h b c)(Z:c.length≠6):Rp h' v l:=by let⟨t,p,e,a,x⟩:=a;exact⟨t,p,e,a.frb f o Z,x⟩
theorem kR{h:Heap}{v:V}{l:List Int}(w:WF h)(a:Rp h v l):ao go 192 [v] h fun u h'=>u=ZZ l.length/\Fr [] h h':=by obtain⟨t,p,rfl,a,rfl,f⟩:=a;let⟨h1,e_h1,F_h1,o_h1⟩:=aq w [pv p];refine ag ?_;simp only[evs,seval,<-e_h1,o_h1.ld1];refine aa (kH (a.fr F_h1)) ?_;rintro _ _ ⟨rfl,Z⟩;simp only[evs,seval];subst Z;exact⟨by rw[Tr.many_eq],F_h1⟩
theorem oY{h:Heap}{v:V}{l:List Int}(w:WF h)(a:Rp h v l):ao go 55 [v] h fun u h'=>u=ZZ l.sum/\Fr [] h h':=by obtain⟨t,p,rfl,a,rfl,f⟩:=a;let⟨h1,e_h1,F_h1,o_h1⟩:=aq w [pv p];refine ag ?_;simp only[evs,seval,<-e_h1,o_h1.ld1];refine aa (qV (a.fr F_h1)) ?_;rintro _ _ ⟨rfl,Z⟩;simp only[evs,seval];subst Z;exact⟨by rw[Tr.sum_eq],F_h1⟩
theorem Da{a b:List Int}{i:Nat}(h:i<a.length):(a++b).getD i 0=a.getD i 0:=by simp[List.getD,Tt h]
theorem sF{a b:List Int}{i:Nat}(h:a.length<=i):(a++b).getD i 0=b.getD (i-a.length) 0:=by simp[List.getD,TJ h]
theorem Iz:∀{t:Tr}{h:Heap}{p:Option Nat}{i:Int},At h t p->0<=i->i<t.list.length->Fit t.list->
 ao go 254 [pv p,ZZ i] h fun u h'=>h'=h/\∃b c,u=.ptr b 0/\Own h b c/\nth c 2=some (ZZ (t.list.getD i.toNat 0)):=by
 intro t;induction t with
 |nil=>intro h p i a h0 K f;simp[Tr.list]at K;omega
 |node l s r ihl ihr=>intro h p i a h0 K f;obtain⟨b,pl,pr,rfl,o,al,ar⟩:=a;have l1:=Tr.many_eq l;have f3:=f.2.2;simp only[Tr.list,Sv,SG]at f3 K;have f1:Fit (l.list++s::r.list):=f;refine ag ?_;simp only[evs,seval,aT,o.ld1];refine aa (kH al) ?_;rintro _ _ ⟨rfl,rfl⟩;simp only[evs,seval];split;simp only[evs,seval,o.ld1];apply aa (ihl al h0 oM f1.left);rintro _ _ ⟨rfl,b',c',rfl,Z,e'⟩;simp only[evs,seval];refine⟨b',c',rfl,Z,?_⟩;rw[e',Tr.list,Da oM];split;simp(disch:=omega) only[evs,seval,ah,o.ld1];apply aa (ihr ar oM oM f1.right.cons);rintro _ _ ⟨rfl,b',c',rfl,Z,e'⟩;simp only[evs,seval];refine⟨b',c',rfl,Z,?_⟩;rw[e',Tr.list,sF oM,(oM:i.toNat-l.list.length=(i-l.many-1).toNat+1)];simp;refine⟨b,_,rfl,o,?_⟩;rw[cQ,cQ,bR,Tr.list,sF oM,(oM:i.toNat-l.list.length=0)];simp
theorem Hk{h:Heap}{v:V}{l:List Int}{i:Int}(w:WF h)(a:Rp h v l):
 ao go 204 [v,ZZ i] h fun u h'=>(u=if 0<=i/\i<l.length then .tup [ZZ (l.getD i.toNat 0),ZZ 0]else .tup [ZZ 0,ZZ 4])/\Fr [] h h':=by
 have a0:=a;obtain⟨t,p,rfl,a,rfl,f⟩:=a;let⟨h1,e_h1,F_h1,o_h1⟩:=aq w [pv p];have f3:=f.2.2;by_cases h0:i<0;refine ag ?_;simp only[evs,seval,<-e_h1,h0];exact⟨by rw[if_neg oM],F_h1⟩;refine ag ?_;simp only[evs,seval,<-e_h1,o_h1.ld,h0];apply aa (kR F_h1.wf (a0.fr F_h1));rintro _ h2 ⟨rfl,Z⟩;by_cases K:(t.list.length:Int)<=i;simp only[evs,seval,K];exact⟨by rw[if_neg oM],F_h1.then Z⟩;simp only[evs,seval,K,(Z.get o_h1).ld1];apply aa (Iz (a.fr (F_h1.then Z)) oM oM f);rintro _ _ ⟨rfl,b,c,rfl,o,e⟩;simp only[evs,seval,o.ld1,e];exact⟨by rw[if_pos oM],F_h1.then Z⟩
def wQ:List Int->Int->Nat×Int
 |[],x=>(0,x)
 |s::l,x=>if x<s then(0,x)else((wQ l (x-s)).1+1,(wQ l (x-s)).2)
def Vals{α:Type}(f:α->V)(h:Heap)(v:V)(l:List α):Prop:=Sl h 1 v l.length (l.map f)
theorem Vals.fr{f:α->V}{h:Heap}{v:V}{l:List α}(a:Vals f h v l)(r:Fr [] h h'):Vals f h' v l:=Sl.fr a r
theorem Vals.len{f:α->V}{h:Heap}{v:V}{l:List α}(a:Vals f h v l):aP .lenS [v]=some (ZZ l.length):=Sl.len a
theorem Vals.ix{f:α->V}{h:Heap}{v:V}{l:List α}(a:Vals f h v l)(k:IntKind)(i:Int)(h0:0<=i)(K:i<l.length):
 ∃b o x,aP (.ixs 1) [v,.int k i]=some (.ptr b o)/\ab h b o=some (f x)/\l[i.toNat]? =some x:=by
 let⟨b,o,e,g,_⟩:=Sl.ix a k i h0 K;have Z:i.toNat<l.length:=oM;refine⟨b,o,l[i.toNat],e,?_,by simp[Z]⟩;have:=g 0 oM;simpa[Z]using this
theorem Vals.upto{f:α->V}{h:Heap}{v:V}{l:List α}(a:Vals f h v l)(hv:v≠.sliceE)(k:IntKind)(i:Int)(h0:0<=i)(Z:i<=l.length):
 ∃v',aP (.sl none 1 false true false) [v,.int k i]=some v'/\Vals f h v' (l.take i.toNat):=by
 let⟨v',e,s⟩:=Sl.upto a oM hv k i h0 Z;refine⟨v',e,?_⟩;unfold Vals;rw[UO,TM oM,TD];simpa using s
theorem Vals.from'{f:α->V}{h:Heap}{v:V}{l:List α}(a:Vals f h v l)(hv:v≠.sliceE)(k:IntKind)(i:Int)(h0:0<=i)(Z:i<=l.length):
 ∃v',aP (.sl none 1 true false false) [v,.int k i]=some v'/\Vals f h v' (l.drop i.toNat):=by
 let⟨v',e,s⟩:=Sl.from' a oM hv k i h0 Z;refine⟨v',e,?_⟩;unfold Vals;rw[Vh,Tp];simpa using s
abbrev pp(h:Heap)(v:V)(l:List Int):Prop:=Vals (V.int .i64) h v l
abbrev Bools(h:Heap)(v:V)(l:List Bool):Prop:=Vals V.bool h v l
def chk:List Int->Int->Int
 |[],_=>0
 |s::l,t=>if s<0\/2305843009213693952<s then 12 else if 4611686018427387904-t<s then 13 else chk l (t+s)
theorem aK{l:List α}{i:Nat}{x:α}(h:l[i]? =some x):l.drop i=x::l.drop (i+1):=by
 have Z:i<l.length:=by grind
 rw[Tu Z];congr 1;rw[Sm Z]at h;cases h;rfl
theorem tQ{h:Heap}{v:V}{l:List Int}(w:WF h)(a:pp h v l)(hn:l.length<=1000000):
 ao go 262 [v] h fun u h'=>u=ZZ (if 4096<l.length then 3 else chk l 0)/\h'=h:=by
 by_cases hl:(4096:Int)<l.length;refine ag ?_;simp only[evs,seval,a.len,hl];rw[if_pos oM];refine ag ?_;simp only[evs,seval,a.len,hl];refine aC (fun k env hh=>hh=h/\∃(i:Nat)(t:Int),env.get 11=some (ZZ i)/\env.get 3=some (ZZ t)/\env.get 9=some v/\env.get 10=some (ZZ l.length)/\
  i<=l.length/\0<=t/\t<=4611686018427387904/\chk (l.drop i) t=chk l 0/\k=l.length-i) l.length oM ?_ ?_
 exact⟨rfl,0,0,iS,iS,iS,iS,oM,oM,oM,iS,rfl⟩;rintro k env hh ⟨rfl,i,t,K,g3,g9,ac,hi,t0,t1,e,rfl⟩;by_cases Z:(i:Int)<l.length;let⟨b,o,x,e1,e2,e3⟩:=a.ix .i64 i oM Z;simp only[RX]at e3;rw[aK e3,chk]at e;by_cases h1:x<0;simp only[evs,seval,K,g9,ac,Z,e1,e2,h1];rw[if_neg oM,<-e,if_pos (.inl h1)];by_cases h2:2305843009213693952<x;simp only[evs,seval,K,g9,ac,Z,e1,e2,h1,h2];rw[if_neg oM,<-e,if_pos (.inr h2)];rw[if_neg oM]at e;by_cases h3:4611686018427387904-t<x;simp(disch:=omega) only[evs,seval,ah,K,g3,g9,ac,Z,e1,e2,h1,h2,h3];rw[if_neg oM,<-e,if_pos h3];simp(disch:=omega) only[evs,seval,ah,K,g3,g9,ac,Z,e1,e2,h1,h2,h3];rw[if_neg h3]at e;refine rqn ⟨l.length-(i+1),oM,rfl,i+1,t+x,iS,iS,iX,iX,oM,oM,oM,e,rfl⟩;simp only[evs,seval,K,ac,Z];rw[if_neg oM,<-e,So oM,chk]
theorem yP{l:List Int}{i:Nat}{x:Int}(h:l[i]? =some x):l=l.take i++x::l.drop (i+1):=by rw[<-aK h,SB]
theorem C9:∀(n:Nat){h:Heap}{v:V}{l:List Int},l.length<=n->WF h->pp h v l->Fit l->
 ao go 296 [v] h fun u h'=>∃t p,u=pv p/\At h' t p/\t.list=l/\Fr [] h h':=by
 intro n;induction n with
 |zero=>intro h v l hn w a f;have:l=[]:=SC.1 oM;subst this;have hz:=a.len;simp only[Vo,Int.natCast_zero]at hz;refine ag ?_;simp only[evs,seval,hz];exact⟨.nil,none,rfl,rfl,rfl,Sn w⟩
 |succ n ih=>intro h v l hn w a f;by_cases h0:(l.length:Int)=0;grind;have f3:=f.2.2;have hv:v≠.sliceE:=Sl.ne a oM;have hm:Int.tdiv (l.length:Int) 2=((l.length/2:Nat):Int):=(Int.ofNat_tdiv l.length 2).symm;obtain⟨m,em⟩:∃m:Nat,m=l.length/2:=⟨_,rfl⟩;rw[<-em]at hm;let⟨v1,s1,i1⟩:=a.upto hv .i64 m oM oM;let⟨v2,s2,i2⟩:=a.from' hv .i64 (m+1) oM oM;let⟨b,o,x,e1,e2,e3⟩:=a.ix .i64 m oM oM;simp only[RX]at i1 i2 e3;rw[(oM:((m:Int)+1).toNat=m+1)]at i2;have el:=yP e3;have f':Fit (l.take m++x::l.drop (m+1)):=el▸f;refine ag ?_;simp(disch:=omega) only[evs,seval,eff,ah,a.len,h0,pZ _ _ 2 dI,hm,s1];refine aa (ih oO w i1 f'.left) ?_;rintro _ h1 ⟨t1,p1,rfl,a1,an,K⟩;let⟨b',o',x',ax,e2',ak⟩:=(a.fr K).ix .i64 m oM oM;simp only[RX]at ak;rw[e1]at ax;cases ax;rw[e3]at ak;cases ak;simp(disch:=omega) only[evs,seval,eff,ah,e1,e2',s2];apply aa (ih oO K.wf (i2.fr K) f'.right.cons);rintro _ h2 ⟨t2,p2,rfl,a2,ar,af⟩;have ac:=K.then af;let⟨b'',o'',x'',ae,e2'',Z⟩:=(a.fr ac).ix .i64 m oM oM;simp only[RX]at Z;rw[e1]at ae;cases ae;rw[e3]at Z;cases Z;simp only[evs,eff];refine aa (dK af.wf (a1.fr af) a2 (by rw[an,ar];exact f')) ?_;rintro _ h3 ⟨b3,rfl,a3,ay⟩;simp only[evs,seval,DF,eff,e2,e2',e2''];exact⟨_,_,rfl,a3,by rw[Tr.list,an,ar];exact el.symm,ac.then ay⟩
theorem Fj{h:Heap}{v:V}{l:List Int}(w:WF h)(a:pp h v l)(f:Fit l):
 ao go 296 [v] h fun u h'=>∃t p,u=pv p/\At h' t p/\t.list=l/\Fr [] h h':=C9 _ (RW _) w a f
theorem BN:∀(l:List Int)(t:Int),chk l t=0→0≤t→(∀x∈l,0≤x)∧t+l.sum≤4611686018427387904∨l=[]
 |[],t,_,_=>.inr rfl
 |s::l,t,h,h0=>by rw[chk]at h;by_cases h1:s<0∨2305843009213693952<s;omega;rw[if_neg h1]at h;by_cases h2:4611686018427387904-t<s;omega;rw[if_neg h2]at h;obtain⟨a,b⟩|rfl:=BN l (t+s) h oM;grind;grind
theorem Fit.of_chk{l:List Int}(h:chk l 0=0)(Z:l.length<=1000000):Fit l:=by obtain⟨a,b⟩|rfl:=BN l 0 h oM;exact⟨a,oM,oM⟩;exact⟨iS,iS,iS⟩
theorem KK{h:Heap}{v:V}{l:List Int}(w:WF h)(a:pp h v l)(hn:l.length<=1000000):
 ao go 285 [v] h fun u h'=>Fr [] h h'/\∃c e,u=.tup [.agg [c],ZZ e]/\c.one=true/\(e=if 4096<l.length then 3 else chk l 0)/\(e=0->Rp h' (.agg [c]) l):=by
 let⟨h1,e_h1,F_h1,o_h1⟩:=aq w [.nilp];by_cases Z:(if 4096<l.length then 3 else chk l 0)=0;have hc:chk l 0=0:=by by_cases h4:4096<l.length;rw[if_pos h4]at Z;omega;rw[if_neg h4]at Z;exact Z
 have f:=Fit.of_chk hc hn;refine ag ?_;simp only[evs,seval,<-e_h1];refine aa (tQ F_h1.wf (a.fr F_h1) hn) ?_;rintro _ _ ⟨rfl,hh⟩;subst hh;simp only[evs,seval,Z];refine aa (Fj F_h1.wf (a.fr F_h1) f) ?_;rintro _ h2 ⟨t,p,rfl,at',et,F2⟩;simp only[evs,seval];refine ai (c':=[pv p]) F2.wf (F2.get o_h1) rfl (by simp[au,fw,V.cells]) rfl ?_;rintro h3 o3 K n3;simp only[evs,seval,o3.ld];exact⟨(F_h1.then F2).fresh K w (RW _),_,_,rfl,fw _,rfl,fun _=>⟨t,p,rfl,at'.frb K (F2.get o_h1) iS,et,f⟩⟩;refine ag ?_;simp only[evs,seval,<-e_h1];refine aa (tQ F_h1.wf (a.fr F_h1) hn) ?_;rintro _ _ ⟨rfl,hh⟩;subst hh;simp only[evs,seval,Z];apply stu F_h1.wf o_h1;rintro h3 o3 K n3;simp only[evs,seval,o3.ld];exact⟨F_h1.fresh K w (RW _),_,_,rfl,rfl,rfl,fun e=>absurd e Z⟩
theorem Own.ne{h:Heap}{b Z:Nat}{c c':List V}(o:Own h b c)(K:Own h Z c')(hc:c≠c'):b≠Z:=by rintro rfl;exact hc (o.uniq K)
theorem DA{h:Heap}{v:V}{l:List Int}{i:Int}(w:WF h)(a:Rp h v l):
 ao go 284 [v,.int .i64 i] h fun u h'=>Fr [] h h'∧if 0≤i∧i≤l.length then∃r1 r2,u=.tup [r1,r2,.int .i64 0]∧Rp h' r1 (l.take i.toNat)∧Rp h' r2 (l.drop i.toNat)
  else u=.tup [.agg [.nilp],.agg [.nilp],.int .i64 4]:=by
 have a0:=a;obtain⟨t,p,rfl,a,rfl,f⟩:=a;have f3:=f.2.2;let⟨h1,e_h1,F_h1,o_h1⟩:=aq w [pv p];let⟨h2,e_h2,F_h2,o_h2⟩:=aq F_h1.wf [.nilp];let⟨h3,e_h3,F_h3,o_h3⟩:=aq F_h2.wf [.nilp];have F13:=(F_h1.then F_h2).then F_h3;have o1:=F_h3.get (F_h2.get o_h1);have o2:=F_h3.get o_h2;have ne:h1.next≠h2.next:=by rw[e_h2];simp[kA]
 have b1:h.next≤h1.next:=F_h1.next;have b2:h.next≤h2.next:=(F_h1.then F_h2).next;by_cases h0:i<0;refine ag ?_;simp only[evs,seval,←e_h1,←e_h2,←e_h3,h0];refine stu F13.wf o2 ?_;rintro h5 o_h5 F_h5 n_h5;simp only[evs,seval];refine stu F_h5.wf (F_h5.own _ _ oO o_h3) ?_;rintro h6 o_h6 F_h6 n_h6;simp only[evs,seval,o_h6.ld,(F_h6.own _ _ oO o_h5).ld];rw[if_neg oM];exact⟨(F13.fresh F_h5 w b1).fresh F_h6 w b2,trivial⟩;refine ag ?_;simp only[evs,seval,←e_h1,←e_h2,←e_h3,o1.ld,h0];refine aa (kR F13.wf (a0.fr F13)) ?_;rintro _ h4 ⟨rfl,F4⟩;by_cases hi:(t.list.length:Int)<i;simp only[evs,seval,hi];apply stu F4.wf (F4.get o2);rintro h5 o_h5 F_h5 n_h5;simp only[evs,seval];apply stu F_h5.wf (F_h5.own _ _ oO (F4.get o_h3));rintro h6 o_h6 F_h6 n_h6;simp only[evs,seval,o_h6.ld,(F_h6.own _ _ oO o_h5).ld];rw[if_neg oM];exact⟨((F13.then F4).fresh F_h5 w b1).fresh F_h6 w b2,trivial⟩;simp only[evs,seval,hi,(F4.get o1).ld1];apply aa (gL F4.wf (a.fr (F13.then F4)) f oM oM);rintro _ h5 ⟨t1,t2,p1,p2,rfl,a1,a2,e1,e2,F5⟩;simp only[evs,seval];have F45:=F4.then F5;apply stu F5.wf (F45.get o2);rintro h6 o_h6 F_h6 n_h6;simp only[evs,seval];apply stu F_h6.wf (F_h6.own _ _ oO (F45.get o_h3));rintro h7 o_h7 F_h7 n_h7;simp only[evs,seval,o_h7.ld,(F_h7.own _ _ oO o_h6).ld];rw[if_pos oM];have c1:∀{t:Tr}{p:Option Nat},At h5 t p→At h7 t p:=fun x=>(x.frb F_h6 (F45.get o2) iS).frb F_h7 (F_h6.own _ _ oO (F45.get o_h3)) iS;exact⟨((F13.then F45).fresh F_h6 w b1).fresh F_h7 w b2,_,_,rfl,⟨t1,p1,rfl,c1 a1,e1,f.sub (List.take_sublist _ _)⟩,⟨t2,p2,rfl,c1 a2,e2,f.sub (List.drop_sublist _ _)⟩⟩
def jM(l m:List Int):Int:=if 4096<l.length+m.length then 3 else if 4611686018427387904-m.sum<l.sum then 13 else 0
theorem Jg{h:Heap}{v u:V}{l m:List Int}(w:WF h)(a:Rp h v l)(a':Rp h u m):
 ao go 286 [v,u] h fun z h'=>Fr [] h h'/\∃c,z=.tup [.agg [c],ZZ (jM l m)]/\c.one=true/\(jM l m=0->Rp h' (.agg [c]) (l++m)):=by
 have a0:=a;have ak:=a';obtain⟨t,p,rfl,a,rfl,f⟩:=a;obtain⟨t',p',rfl,a',rfl,f'⟩:=a';have f3:=f.2.2;have a5:=f'.2.2;have n:=f.nn;have n':=f'.nn;have f2:=f.2.1;have a4:=f'.2.1;let⟨h1,e_h1,F_h1,o_h1⟩:=aq w [pv p];let⟨h2,e_h2,F_h2,o_h2⟩:=aq F_h1.wf [pv p'];let⟨h3,e_h3,F_h3,o_h3⟩:=aq F_h2.wf [.nilp];have Z:=(F_h1.then F_h2).then F_h3;have o1:=F_h3.get (F_h2.get o_h1);have o2:=F_h3.get o_h2;have b2:h.next<=h2.next:=(F_h1.then F_h2).next;refine ag ?_;simp only[evs,seval,eff,<-e_h1,<-e_h2,<-e_h3,o1.ld];refine aa (kR Z.wf (a0.fr Z)) ?_;rintro _ h4 ⟨rfl,F4⟩;simp only[evs,seval,eff,(F4.get o2).ld];apply aa (kR F4.wf (ak.fr (Z.then F4)));rintro _ h5 ⟨rfl,F5⟩;simp(disch:=omega) only[evs,seval,DF,eff,ah,o1.ld,o2.ld,(F4.get o2).ld];have ac:=F4.then F5;by_cases c1:(4096:Int)<t.list.length+t'.list.length;simp only[evs,seval,c1];apply stu F5.wf (ac.get o_h3);rintro h6 ay az aH;simp only[evs,seval,ay.ld];have e:jM t.list t'.list=3:=by unfold jM;rw[if_pos oM]
 rw[e];exact⟨(Z.then ac).fresh az w b2,_,rfl,rfl,iS⟩;simp only[evs,seval,eff,c1,(ac.get o1).ld];apply aa (oY F5.wf (a0.fr (Z.then ac)));rintro _ h6 ⟨rfl,F6⟩;have ae:=ac.then F6;simp only[evs,seval,eff,(ae.get o2).ld];apply aa (oY F6.wf (ak.fr (Z.then ae)));rintro _ h7 ⟨rfl,F7⟩;have K:=ae.then F7;simp(disch:=omega) only[evs,seval,DF,eff,ah,(ac.get o1).ld,(ae.get o2).ld,(ac.get o2).ld];by_cases c2:4611686018427387904-t'.list.sum<t.list.sum;simp only[evs,seval,c2];apply stu F7.wf (K.get o_h3);rintro h8 an ax a1;simp only[evs,seval,an.ld];have e:jM t.list t'.list=13:=by unfold jM;rw[if_neg oM,if_pos c2]
 rw[e];exact⟨(Z.then K).fresh ax w b2,_,rfl,rfl,iS⟩;simp only[evs,seval,c2,(K.get o1).ld1,(K.get o2).ld1];have ff:Fit (t.list++t'.list):=⟨fun x hx=>by obtain y|y:=pi.1 hx;exact f.1 x y;exact f'.1 x y,by rw[Vn];omega,by rw[Sv];omega⟩
 apply aa (mM F7.wf (a.fr (Z.then K)) (a'.fr (Z.then K)) ff);rintro _ h8 ⟨t2,p2,rfl,a2,e2,F8⟩;simp only[evs,seval];apply stu F8.wf ((K.then F8).get o_h3);rintro h9 ar af a3;simp only[evs,seval,ar.ld];have e:jM t.list t'.list=0:=by unfold jM;rw[if_neg oM,if_neg c2]
 rw[e];exact⟨(Z.then (K.then F8)).fresh af w b2,_,rfl,fw _,fun _=>⟨t2,p2,rfl,a2.frb af ((K.then F8).get o_h3) iS,e2,ff⟩⟩
def lV(l:List Int)(i size:Int):Int:=if 0<=i/\i<l.length then if size<0\/2305843009213693952<size then 12 else if 4611686018427387904-(l.sum-l.getD i.toNat 0)<size then 13 else 0 else 4
theorem A6:∀(l:List Int)(i:Nat)(x:Int),i<l.length→(l.set i x).sum=l.sum-l.getD i 0+x
 |y::l,0,x,_=>by simp;omega
 |y::l,i+1,x,h=>by have:=A6 l i x (eV h);simp at this⊢;omega
theorem CG:∀(l:List Int)(i:Nat)(x:Int),i<l.length->l.set i x=l.take i++x::l.drop (i+1):=by intro l i x h;rw[TX,if_pos h]
theorem Fit.set{l:List Int}(f:Fit l){i:Nat}{x:Int}(K:i<l.length)(h0:0<=x)(h1:x<=4611686018427387904-(l.sum-l.getD i 0)):Fit (l.set i x):=by refine⟨fun y Z=>?_,?_,?_⟩;obtain a|a:=TR Z;exact f.1 y a;omega;rw[A6 _ _ _ K];omega;rw[Ta];exact f.2.2
theorem BA:∀{l:List Int}{i:Nat},(∀x∈l,0≤x)→l.getD i 0≤l.sum∧0≤l.getD i 0
 |[],i,_=>by simp
 |y::l,0,h=>by have:=sum_nn (l:=l) fun z hz=>h z iX;have:=h y iS;simp;omega
 |y::l,i+1,h=>by have:=BA (l:=l) (i:=i) fun z hz=>h z iX;have:=h y iS;simp at *;omega
theorem I6{h:Heap}{v:V}{l:List Int}{i:Int}(w:WF h)(a:Rp h v l)(s0:-9223372036854775808<=size)(s1:size<=9223372036854775807):
 ao go 181 [v,ZZ i,ZZ size] h fun u h'=>Fr [] h h'/\∃c,u=.tup [.agg [c],ZZ (lV l i size)]/\c.one=true/\(lV l i size=0->Rp h' (.agg [c]) (l.set i.toNat size)):=by
 have a0:=a;obtain⟨t,p,rfl,a,rfl,f⟩:=a;have f3:=f.2.2;have f2:=f.2.1;have n:=f.nn;have gd:=BA (i:=i.toNat) f.1;let⟨h1,e_h1,F_h1,o_h1⟩:=aq w [pv p];let⟨h2,e_h2,F_h2,o_h2⟩:=aq F_h1.wf [.nilp];have Z:=F_h1.then F_h2;have o1:=F_h2.get o_h1;have b1:h.next<=h1.next:=F_h1.next;refine ag ?_;simp only[evs,↓reduceIte,Nat.reduceEqDiff,Nat.reduceAdd,<-e_h1,<-e_h2,o1.ld];refine aa (Hk Z.wf (a0.fr Z)) ?_;rintro _ h3 ⟨rfl,F3⟩;by_cases hi:0<=i/\i<t.list.length;rw[if_pos hi];by_cases c1:size<0;simp only[evs,↓reduceIte,Nat.reduceEqDiff,c1];apply stu F3.wf (F3.get o_h2);rintro h4 K ac af;simp only[evs,↓reduceIte,Nat.reduceEqDiff,K.ld];have e:lV t.list i size=12:=by unfold lV;rw[if_pos hi,if_pos (.inl c1)]
 rw[e];exact⟨(Z.then F3).fresh ac w b1,_,rfl,rfl,iS⟩;by_cases c2:2305843009213693952<size;simp only[evs,↓reduceIte,Nat.reduceEqDiff,c1,c2];apply stu F3.wf (F3.get o_h2);rintro h4 K ac af;simp only[evs,↓reduceIte,Nat.reduceEqDiff,K.ld];have e:lV t.list i size=12:=by unfold lV;rw[if_pos hi,if_pos (.inr c2)]
 rw[e];exact⟨(Z.then F3).fresh ac w b1,_,rfl,rfl,iS⟩;simp only[evs,↓reduceIte,Nat.reduceEqDiff,c1,c2,(F3.get o1).ld];apply aa (oY F3.wf (a0.fr (Z.then F3)));rintro _ h4 ⟨rfl,F4⟩;have ae:=F3.then F4;by_cases c3:4611686018427387904-(t.list.sum-t.list.getD i.toNat 0)<size;simp(disch:=omega) only[evs,↓reduceIte,Nat.reduceEqDiff,ah,c3];apply stu F4.wf (ae.get o_h2);rintro h5 ay az aH;simp only[evs,↓reduceIte,Nat.reduceEqDiff,ay.ld];have e:lV t.list i size=13:=by unfold lV;rw[if_pos hi,if_neg oM,if_pos c3]
 rw[e];exact⟨(Z.then ae).fresh az w b1,_,rfl,rfl,iS⟩;simp(disch:=omega) only[evs,↓reduceIte,Nat.reduceEqDiff,ah,c3,(ae.get o1).ld1];apply aa (gL F4.wf (a.fr (Z.then ae)) f oM oM);rintro _ h5 ⟨t1,t2,p1,p2,rfl,a1,a2,e1,e2,F5⟩;simp only[evs,↓reduceIte];refine aa (gL F5.wf a2 (by rw[e2];exact f.sub (Uc _ _)) oM oM) ?_;rintro _ h6 ⟨t3,t4,p3,p4,rfl,a3,a4,e3,e4,F6⟩;simp only[evs,↓reduceIte,Nat.reduceEqDiff];have ar:i.toNat<t.list.length:=oM;have ff:=f.set ar (oM:0<=size) oM;have el:t1.list++size::t4.list=t.list.set i.toNat size:=by rw[e1,e4,e2,CG _ _ _ ar,(iR:(1:Int).toNat=1),Tl]
 refine aa (lF F6.wf (a1.fr F6) a4 (by rw[el];exact ff)) ?_;rintro _ h7 ⟨t5,p5,rfl,a5,e5,F7⟩;simp only[evs,↓reduceIte,Nat.reduceEqDiff];have an:=((ae.then F5).then F6).then F7;apply stu F7.wf (an.get o_h2);rintro h8 ax ak a6;simp only[evs,↓reduceIte,Nat.reduceEqDiff,ax.ld];have e:lV t.list i size=0:=by unfold lV;rw[if_pos hi,if_neg oM,if_neg c3]
 rw[e];exact⟨(Z.then an).fresh ak w b1,_,rfl,fw _,fun _=>⟨t5,p5,rfl,a5.frb ak (an.get o_h2) iS,e5.trans el,ff⟩⟩;rw[if_neg hi];simp only[evs,↓reduceIte,Nat.reduceEqDiff];simp only[evs,↓reduceIte,(oM:¬((4:Int)=0))];apply stu F3.wf (F3.get o_h2);rintro h4 K ac af;simp only[evs,↓reduceIte,Nat.reduceEqDiff,K.ld];have e:lV t.list i size=4:=by unfold lV;rw[if_neg hi]
 rw[e];exact⟨(Z.then F3).fresh ac w b1,_,rfl,rfl,iS⟩
def ofE(m:List Int):Int:=if 4096<m.length then 3 else chk m 0
def tV(l:List Int)(i:Int)(m:List Int):Int:=if 0<=i/\i<=l.length then if ofE m=0 then jM l m else ofE m else 4
theorem Ja{h:Heap}{v u:V}{l m:List Int}{i:Int}(w:WF h)(a:Rp h v l)(am:pp h u m)(hm:m.length<=1000000):
 ao go 263 [v,ZZ i,u] h fun z h'=>Fr [] h h'/\∃c,z=.tup [.agg [c],ZZ (tV l i m)]/\c.one=true/\(tV l i m=0->Rp h' (.agg [c]) (l.take i.toNat++m++l.drop i.toNat)):=by
 have a0:=a;obtain⟨t,p,rfl,a,rfl,f⟩:=a;let⟨h1,e_h1,F_h1,o_h1⟩:=aq w [pv p];let⟨h2,e_h2,F_h2,o_h2⟩:=aq F_h1.wf [.nilp];have bi:=F_h1.then F_h2;have o1:=F_h2.get o_h1;have b1:h.next<=h1.next:=F_h1.next;refine ag ?_;simp only[evs,↓reduceIte,Nat.reduceEqDiff,Nat.reduceAdd,<-e_h1,<-e_h2,o1.ld];refine aa (DA bi.wf (a0.fr bi)) ?_;rintro _ h3 ⟨F3,hu⟩;have bj:=bi.then F3;have b3:h.next<=h3.next:=bj.next;by_cases hi:0<=i/\i<=t.list.length;rw[if_pos hi]at hu;obtain⟨r1,r2,rfl,ra,rb⟩:=hu;obtain⟨t1,p1,rfl,a1,e1,f1⟩:=ra;obtain⟨t2,p2,rfl,a2,e2,f2⟩:=rb;let⟨h4,e_h4,F_h4,o_h4⟩:=aq F3.wf [.nilp];let⟨h5,e_h5,F_h5,o_h5⟩:=aq F_h4.wf [.nilp];have ak:=F_h4.then F_h5;have ne:h3.next≠h4.next:=by rw[e_h4];simp[kA]
 simp only[evs,↓reduceIte,Nat.reduceEqDiff,<-e_h4,<-e_h5];apply stu ak.wf (F_h5.get o_h4);rintro h6 bg K br;simp only[evs,↓reduceIte];apply stu K.wf (K.own _ _ oO o_h5);rintro h7 aH Z bn;simp only[evs,↓reduceIte,Nat.reduceEqDiff];have oa:=Z.own _ _ oO bg;have b4:h.next<=h4.next:=SD b3 F_h4.next;have ax:=((bj.then ak).fresh K w b3).fresh Z w b4;have keep:∀{b:Nat}{c:List V},Own h3 b c->Own h7 b c:=fun o=>Z.own _ _ (by have:=o.lt F3.wf;have:=F_h4.next;simp;omega) (K.own _ _ (by have:=o.lt F3.wf;simp;omega) (ak.get o));have bm:Fr [] h3 h7:=⟨by have:=ak.next;omega,Z.wf,fun _ _ _ o=>keep o,fun x c _ o=>Z.pl _ _ (by have:=o.own.lt F3.wf;have:=F_h4.next;simp;omega) (K.pl _ _ (by have:=o.own.lt F3.wf;simp;omega) (ak.pl _ _ iS o)),fun x k hk o=>Z.lp _ _ hk (K.lp _ _ hk (ak.lp _ _ hk o)),fun x c r=>Z.ro _ _ (K.ro _ _ (ak.ro _ _ r))⟩;have or:=bm.get (F3.get o_h2);have ob:=bm.get (F3.get o1);apply aa (KK Z.wf (am.fr ax) hm);rintro _ h8 ⟨F8,c0,e,rfl,bC,ee,hr⟩;change e=ofE m at ee;let⟨h9,e_h9,F_h9,o_h9⟩:=aq F8.wf [.nilp];simp only[evs,↓reduceIte,<-e_h9];apply ai (c':=[c0]) F_h9.wf o_h9 rfl (by simp[au,V.cells,bC]) rfl;rintro bB bh bA bV;have b8:h.next<=h8.next:=(ax.then F8).next;have an:Fr [] h8 bB:=F_h9.fresh bA F8.wf (RW _);have bc:=(ax.then F8).then an;have a6:=F8.then an;by_cases h0:e=0;have em:ofE m=0:=oM;subst h0;have bv:=hr rfl;let⟨t3,p3,q3,a3,e3,f3⟩:=bv;cases q3;simp only[evs,↓reduceIte,Nat.reduceEqDiff,(a6.get ob).ld,bh.ld];apply aa (Jg an.wf (a0.fr bc) (Rp.fr (l:=m) ⟨t3,p3,rfl,a3,e3,f3⟩ an));rintro _ bt ⟨ba,c',rfl,bw,hj⟩;have ei:tV t.list i m=jM t.list m:=by unfold tV;rw[if_pos hi,if_pos em]
 rw[ei];let⟨h12,e_h12,F_h12,o_h12⟩:=aq ba.wf [.nilp];simp only[evs,<-e_h12];apply ai (c':=[c']) F_h12.wf o_h12 rfl (by simp[au,V.cells,bw]) rfl;rintro bz bW bo b7;have ar:Fr [] bt bz:=F_h12.fresh bo ba.wf (RW _);have af:=(a6.then ba).then ar;have ay:=ba.then ar;by_cases h1:jM t.list m=0;simp only[evs,↓reduceIte,Nat.reduceEqDiff,eff,h1,(af.get oa).ld1,(ay.get bh).ld1];let⟨t9,p9,q9,a9,e9,f9⟩:=hj h1;have ff:Fit (t.list.take i.toNat++m++t.list.drop i.toNat):=by
  let⟨x1,x2,x3⟩:=f9;have bD:(t.list.take i.toNat).sum+(t.list.drop i.toNat).sum=t.list.sum:=by rw[<-Vn,SB]
  have bE:(t.list.take i.toNat).length+(t.list.drop i.toNat).length=t.list.length:=by grind
  refine⟨fun y hy=>?_,?_,?_⟩;apply x1 y;simp only[pi]at hy|-;obtain(y1|y1)|y1:=hy;grind;exact .inr y1;grind;grind;grind
 have bf:=bm.then af;refine aa (mM ar.wf (a1.fr bf) (a3.fr (an.then ay)) (by rw[e1,e3];exact ff.left)) ?_;rintro _ bT ⟨t4,p4,rfl,a4,e4,a7⟩;simp only[evs,↓reduceIte,Nat.reduceEqDiff,eff,((af.then a7).get aH).ld1];refine aa (mM a7.wf a4 (a2.fr (bf.then a7)) (by rw[e4,e1,e3,e2];exact ff)) ?_;rintro _ b6 ⟨t5,p5,rfl,a5,e5,bp⟩;simp only[evs,↓reduceIte,Nat.reduceEqDiff,eff];have a8:=(af.then a7).then bp;apply stu bp.wf (a8.get or);rintro bk ae ac az;simp only[evs,↓reduceIte,Nat.reduceEqDiff,Nat.reduceAdd,DF,eff,Nat.reduceSub,ae.ld,(af.get oa).ld1,(ay.get bh).ld1,(af.get aH).ld1,((af.then a7).get aH).ld1];exact⟨(ax.then a8).fresh ac w b1,_,rfl,fw _,fun _=>⟨t5,p5,rfl,a5.frb ac (a8.get or) iS,by rw[e5,e4,e1,e3,e2],ff⟩⟩;simp only[evs,↓reduceIte,Nat.reduceEqDiff,h1];apply stu ar.wf (af.get or);rintro bk ae ac az;simp only[evs,↓reduceIte,Nat.reduceEqDiff,ae.ld];exact⟨(ax.then af).fresh ac w b1,_,rfl,rfl,by simp[]⟩;simp only[evs,↓reduceIte,Nat.reduceEqDiff,h0];apply stu an.wf (a6.get or);rintro bk ae ac az;simp only[evs,↓reduceIte,Nat.reduceEqDiff,ae.ld];have ei:tV t.list i m=e:=by unfold tV;rw[if_pos hi,if_neg oM,ee]
 rw[ei];exact⟨bc.fresh ac w b1,_,rfl,rfl,by simp[h0]⟩;rw[if_neg hi]at hu;subst hu;let⟨h4,e_h4,F_h4,o_h4⟩:=aq F3.wf [.nilp];let⟨h5,e_h5,F_h5,o_h5⟩:=aq F_h4.wf [.nilp];have ak:=F_h4.then F_h5;have ne:h3.next≠h4.next:=by rw[e_h4];simp[kA]
 simp only[evs,↓reduceIte,Nat.reduceEqDiff,<-e_h4,<-e_h5];apply stu ak.wf (F_h5.get o_h4);rintro h6 bg K br;simp only[evs,↓reduceIte];apply stu K.wf (K.own _ _ oO o_h5);rintro h7 aH Z bn;simp only[evs,↓reduceIte,Nat.reduceEqDiff];simp only[evs,↓reduceIte,(oM:¬((4:Int)=0))];have b4:h.next<=h4.next:=SD b3 F_h4.next;have ax:=((bj.then ak).fresh K w b3).fresh Z w b4;have keep:∀{b:Nat}{c:List V},Own h3 b c->Own h7 b c:=fun o=>Z.own _ _ (by have:=o.lt F3.wf;have:=F_h4.next;simp;omega) (K.own _ _ (by have:=o.lt F3.wf;simp;omega) (ak.get o));have or:=keep (F3.get o_h2);apply stu Z.wf or;rintro bk ae ac az;simp only[evs,↓reduceIte,Nat.reduceEqDiff,ae.ld];have ei:tV t.list i m=4:=by unfold tV;rw[if_neg hi]
 rw[ei];exact⟨ax.fresh ac w b1,_,rfl,rfl,iS⟩
def sp(s:Int×Int):List V:=[ZZ s.1,ZZ s.2]
theorem eg(s:Int×Int):(sp s).length=2:=rfl
theorem A8(s:Int×Int):au (sp s)=true:=rfl
abbrev Sp(h:Heap)(v:V)(L:List (Int×Int)):Prop:=Recs sp 2 h v L
def SOK:List (Int×Int)->Int->Prop
 |[],_=>True
 |s::L,last=>last<s.1/\0<=s.1/\s.1<s.2/\s.2<=1073741824/\SOK L s.2
def inS(L:List (Int×Int))(i:Int):Bool:=L.any fun s=>decide (s.1<=i)&&decide (i<s.2)
theorem Sp.ix{h:Heap}{v:V}{L:List (Int×Int)}(a:Sp h v L)(i:Nat)(Z:(i:Int)<L.length):
 ∃b o s,aP (.ixs 2) [v,ZZ i]=some (.ptr b o)/\ab h b o=some (ZZ s.1)/\ab h b (o+1)=some (ZZ s.2)/\aj h b o 2=some [ZZ s.1,ZZ s.2]/\L[i]? =some s:=by
 let⟨b,o,s,e,g,g2,e3⟩:=Vi eg a .i64 i oM Z;exact⟨b,o,s,e,by simpa[sp]using g 0 oM,by simpa[sp]using g 1 oM,g2,by simpa using e3⟩
def SpF(h:Heap)(v:V)(L:List (Int×Int)):Prop:=(v=.nils/\L=[])\/∃b,v=.slice b 0 L.length L.length/\Own h b (L.flatMap sp)/\0<L.length
theorem SpF.slc{h:Heap}{v:V}{L:List (Int×Int)}(a:SpF h v L):Sp h v L:=by obtain⟨rfl,rfl⟩|⟨b,rfl,o,_⟩:=a;exact VL;exact TH o (aJ eg L)
theorem SpF.fr{h:Heap}{v:V}{L:List (Int×Int)}(a:SpF h v L)(f:Fr [] h h'):SpF h' v L:=by obtain x|⟨b,e,o,p⟩:=a;exact .inl x;exact .inr ⟨b,e,f.get o,p⟩
theorem SpF.frb{h:Heap}{v:V}{L:List (Int×Int)}{b:Nat}{c:List V}(a:SpF h v L)(f:Fr [b] h h')(o:Own h b c)(K:∀L:List (Int×Int),0<L.length->c≠L.flatMap sp):SpF h' v L:=by obtain x|⟨q,e,Z,p⟩:=a;exact .inl x;refine .inr ⟨q,e,f.own _ _ ?_ Z,p⟩;simp only[Su];rintro rfl;exact K L p (o.uniq Z)
theorem SpF.one{h:Heap}{v:V}{L:List (Int×Int)}(a:SpF h v L):v.one=true:=by obtain⟨rfl,_⟩|⟨b,rfl,_⟩:=a<;>rfl
theorem SpF.noint{h:Heap}{v:V}{L:List (Int×Int)}(a:SpF h v L):∀k n,v≠.int k n:=by obtain⟨rfl,_⟩|⟨b,rfl,_⟩:=a<;>simp
theorem yx{c:List V}(Z:∀x∈c,∀k n,x≠.int k n):∀L:List (Int×Int),0<L.length->c≠L.flatMap Lay.sp:=by
 intro L p e;cases L with
 |nil=>simp at p
 |cons s L=>exact Z (ZZ s.1) (by rw[e];simp[Lay.sp]) _ _ rfl
theorem Sp.frb{h h':Heap}{v:V}{L:List (Int×Int)}{b:Nat}{c c':List V}(a:Sp h v L)(f:Fr [b] h h')(o:Own h b c)(o':Own h' b c')(hc:∀x∈c,∀k n,x≠.int k n)(hl:c'.length=c.length):Sp h' v L:=by
 let⟨e1,e2⟩:=a;have main:∀(bb oo:Nat),(∃d,Own h bb d∧oo+L.length*2≤d.length∧L.flatMap sp=(d.drop oo).take (L.length*2))→∃d,Own h' bb d∧oo+L.length*2≤d.length∧L.flatMap sp=(d.drop oo).take (L.length*2):=by
  rintro bb oo ⟨d,od,h1,h2⟩;by_cases e:bb=b;subst e;have:=od.uniq o;subst this;have hL:L=[]:=by
   cases L with
   |nil=>rfl
   |cons s L=>
    exfalso;have hm:V.int .i64 s.1∈d:=by
     have:V.int .i64 s.1∈(s::L).flatMap sp:=by simp[sp]
     rw[h2]at this;exact List.mem_of_mem_drop (List.mem_of_mem_take this)
    exact hc _ hm _ _ rfl
  subst hL;exact⟨c',o',by simpa[hl]using h1,iS⟩;exact⟨d,f.own _ _ (eV e) od,h1,h2⟩
 refine⟨e1,?_⟩;cases v with
 |slice bb oo len cap=>let⟨x1,x2,x3⟩:=e2;exact⟨x1,x2,main bb oo x3⟩
 |sliceU bb oo len cap=>let⟨x1,x2,x3⟩:=e2;exact⟨x1,x2,main bb oo x3⟩
 |_=>exact e2
theorem lR{h:Heap}{v:V}{L:List (Int×Int)}(w:WF h)(a:Sp h v L)(ok:SOK L (-1))(hn:L.length<=4096):
 ao go 255 [v] h fun u h'=>u=ZZ 0/\Fr [] h h':=by
 have hl:¬(4096:Int)<L.length:=oM
 refine ag ?_;simp only[evs,seval,a.len,hl];refine aC (fun k env hh=>Fr [] h hh/\∃(i:Nat)(Z:Int),env.get 11=some (ZZ i)/\env.get 3=some (ZZ Z)/\env.get 9=some v/\env.get 10=some (ZZ L.length)/\
  i<=L.length/\SOK (L.drop i) Z/\k=L.length-i) L.length oM ?_ ?_
 ·exact⟨Sn w,0,-1,iS,iS,iS,iS,oM,ok,rfl⟩
 ·rintro k env hh ⟨F,i,Z,ac,g3,g9,ak,hi,ok,rfl⟩;by_cases K:(i:Int)<L.length
  ·let⟨b,o,s,e1,e2,e3,e4,e5⟩:=Sp.ix (a.fr F) i K;rw[aK e5]at ok;let⟨k1,k2,k3,k4,k5⟩:=ok;let⟨h1,e_h1,F_h1,o_h1⟩:=aq F.wf [ZZ 0,ZZ 0];simp only[evs,seval,ac,g9,ak,K,e1,e4,<-e_h1];refine stu F_h1.wf o_h1 ?_;rintro h2 af ae an;simp(disch:=omega) only[evs,seval,ah,ac,g3,af.ld1,(oM:¬s.1<0),(oM:¬s.2<=s.1),(oM:¬1073741824<s.2),(oM:¬s.1<=Z)];refine rqn ⟨L.length-(i+1),oM,F.then (F_h1.fresh ae F.wf (RW _)),i+1,s.2,iS,iS,iX,iX,oM,k5,rfl⟩
   done
  ·simp only[evs,seval,ac,ak,K];exact F
theorem Jh{h:Heap}{s:Int×Int}{i:Int}{K:Nat}(w:WF h)(Z:Own h K [ZZ i]):
 ao go 257 [.agg [ZZ s.1,ZZ s.2],.ptr K 0] h fun u h'=>u=.bool (decide (s.1<=i)&&decide (i<s.2))/\Fr [] h h':=by
 let⟨h1,e_h1,F_h1,o_h1⟩:=aq w [ZZ s.1,ZZ s.2];by_cases c:s.1<=i;refine ag ?_;simp only[evs,seval,<-e_h1,o_h1.ld1,(F_h1.get Z).ld1,c];exact⟨iS,F_h1⟩;refine ag ?_;simp only[evs,seval,<-e_h1,o_h1.ld1,(F_h1.get Z).ld1,c];exact⟨iS,F_h1⟩
theorem E8{L:List (Int×Int)}{i:Nat}{s:Int×Int}(e:L[i]? =some s)(x:Int):inS (L.drop i) x=((decide (s.1<=x)&&decide (x<s.2))||inS (L.drop (i+1)) x):=by rw[aK e];rfl
theorem DN{h:Heap}{v:V}{L:List (Int×Int)}{x:Int}{bi:Nat}(w:WF h)(a:Sp h v L)(oi:Own h bi [ZZ x])(hn:L.length<=4096):
 ao go 282 [v,.func (.func 257) [] [.ptr bi 0]] h fun u h'=>∃r:Int,u=ZZ r/\(decide (0<=r)=inS L x)/\Fr [] h h':=by
 refine ag ?_;simp only[evs,seval,a.len];refine aC (fun k env hh=>Fr [] h hh/\∃(i:Nat),env.get 8=some (ZZ i)/\env.get 7=some (ZZ L.length)/\env.get 0=some v/\env.get 1=some (.func (.func 257) [] [.ptr bi 0])/\
  i<=L.length/\inS (L.drop i) x=inS L x/\k=L.length-i) L.length oM ?_ ?_
 ·exact⟨Sn w,0,iS,iS,iS,iS,oM,rfl,rfl⟩
 ·rintro k env hh ⟨F,i,K,g7,g0,g1,hi,e,rfl⟩;by_cases Z:(i:Int)<L.length
  ·let⟨b,o,s,e1,e2,e3,e4,e5⟩:=Sp.ix (a.fr F) i Z;rw[E8 e5]at e;simp only[evs,seval,K,g7,g0,g1,Z,e1,e4];refine aa (Jh F.wf (F.get oi)) ?_;rintro _ h1 ⟨rfl,F1⟩;by_cases c:(decide (s.1<=x)&&decide (x<s.2))=true
   ·simp only[evs,seval,c];rw[c]at e;exact⟨i,rfl,by rw[<-e];simp,F.then F1⟩
   ·rw[Bool.not_eq_true]at c;simp(disch:=omega) only[evs,seval,ah,c,K];rw[c]at e;refine rqn ⟨L.length-(i+1),oM,F.then F1,i+1,iS,iX,iX,iX,oM,by simpa using e,rfl⟩
    done
  ·simp only[evs,seval,K,g7,Z];rw[So oM]at e;exact⟨-1,rfl,by rw[<-e];rfl,F⟩
theorem KZ{h:Heap}{v:V}{L:List (Int×Int)}{x:Int}(w:WF h)(a:Sp h v L)(ok:SOK L (-1))(hn:L.length<=4096):
 ao go 205 [v,ZZ x] h fun u h'=>u=.bool (inS L x)/\Fr [] h h':=by
 let⟨h1,e_h1,F_h1,o_h1⟩:=aq w [ZZ x];refine ag ?_;simp only[evs,seval,<-e_h1];refine aa (lR F_h1.wf (a.fr F_h1) ok hn) ?_;rintro _ h2 ⟨rfl,F2⟩;simp only[evs,seval];have Z:=F_h1.then F2;refine aa (?_:ao go 256 _ _ (fun u h'=>u=.bool (inS L x)/\Fr [] h2 h')) ?_;refine ag ?_;simp only[evs,seval];refine aa (DN F2.wf (a.fr Z) (F2.get o_h1) hn) ?_;rintro _ h3 ⟨r,rfl,e,K⟩;simp only[evs,seval];exact⟨by rw[e],K⟩;rintro _ h3 ⟨rfl,K⟩;simp only[evs,seval];exact Z.then K
def lZ(L:List (Int×Int))(a b:Int):List (Int×Int):=if b<=a then L else match L.getLast? with
 |some s=>if a<=s.2 then L.dropLast++[(s.1,max s.2 b)]else L++[(a,b)]
 |none=>[(a,b)]
theorem nQ(L M:List (Int×Int))(x:Int):inS (L++M) x=(inS L x||inS M x):=by simp[inS]
theorem gQ(s:Int×Int)(M:List (Int×Int))(x:Int):inS (s::M) x=((decide (s.1<=x)&&decide (x<s.2))||inS M x):=rfl
theorem lI(x:Int):inS [] x=false:=rfl
theorem SOK.gt:∀{L:List (Int×Int)}{b:Int},SOK L b→∀s∈L,b<s.1∧0≤s.1∧s.1<s.2∧s.2≤1073741824
 |t::L,b,⟨h1,h2,h3,h4,h5⟩,s,hs=>by obtain rfl|hs:=List.mem_cons.1 hs;omega;have:=SOK.gt h5 s hs;omega
theorem SOK.below{L:List (Int×Int)}{b x:Int}(ok:SOK L b)(h:x<=b):inS L x=false:=by simp only[inS,Vu,RU,decide_eq_true_eq];intro s Z;have:=ok.gt s Z;omega
theorem SOK.app:∀{L M:List (Int×Int)}{b c:Int},SOK L b→SOK M c→(∀s∈L,s.2≤c)→b≤c→SOK (L++M) b
 |[],M,b,c,_,hm,_,h=>by
  cases M with
  |nil=>trivial
  |cons s M=>let⟨a1,a2⟩:=hm;exact⟨oM,a2⟩
 |s::L,M,b,c,⟨h1,h2,h3,h4,h5⟩,hm,hb,h=>⟨h1,h2,h3,h4,SOK.app h5 hm (fun t ht=>hb t iX) (hb s iS)⟩
theorem SOK.left:∀{L M:List (Int×Int)}{b:Int},SOK (L++M) b->SOK L b
 |[],_,_,_=>trivial
 |s::L,M,b,⟨h1,h2,h3,h4,h5⟩=>⟨h1,h2,h3,h4,SOK.left h5⟩
theorem SOK.drop:∀{L:List (Int×Int)}{b:Int}(i:Nat),SOK L b->∃c,SOK (L.drop i) c
 |[],b,i,h=>by simp;exact⟨b,trivial⟩
 |s::L,b,0,h=>⟨b,h⟩
 |s::L,b,i+1,⟨_,_,_,_,h⟩=>SOK.drop i h
theorem SOK.last2:∀{L:List (Int×Int)}{s:Int×Int}{b:Int},SOK (L++[s]) b→(∀t∈L,t.2<s.1)∧b<s.1∧0≤s.1∧s.1<s.2∧s.2≤1073741824
 |[],s,b,⟨h1,h2,h3,h4,_⟩=>⟨iS,h1,h2,h3,h4⟩
 |t::L,s,b,⟨h1,h2,h3,h4,h5⟩=>by let⟨a,c,d⟩:=SOK.last2 h5;exact⟨by simp only[List.mem_cons,forall_eq_or_imp];exact⟨c,a⟩,oM,d⟩
theorem SOK.count:∀{L:List (Int×Int)}{b:Int},SOK L b→∀m,(∀s∈L,s.2≤m)→b≤m+0→2*(L.length:Int)≤m-b
 |[],b,_,m,_,h=>by simp;omega
 |s::L,b,⟨h1,h2,h3,h4,h5⟩,m,hm,h=>by have:=SOK.count h5 m (fun t ht=>hm t iX) (by have:=hm s iS;omega);simp only[List.length_cons];omega
theorem fP{L:List (Int×Int)}{a b:Int}(ok:SOK L (-1))(Z:a<b->∀s∈L,s.2<=a)(h0:0<=a)(hb:b<=1073741824):
 SOK (lZ L a b) (-1)/\(∀x,inS (lZ L a b) x=(inS L x||(decide (a<=x)&&decide (x<b))))/\(∀m,(∀s∈L,s.2<=m)->(a<b->b<=m)->∀s∈lZ L a b,s.2<=m):=by
 unfold lZ;by_cases h:b<=a;grind;rw[if_neg h];have Z:=Z oM;obtain rfl|⟨L',s,rfl⟩:=List.eq_nil_or_concat L;simp only[List.getLast?_nil];refine⟨⟨by simp;omega,by simp;omega,by simp;omega,hb,trivial⟩,fun x=>by simp[inS],fun m _ hm s K=>?_⟩;simp at K;subst K;exact hm oM;simp only[List.concat_eq_append]at ok Z|-;simp only[VD,Vp,Option.some_or,List.dropLast_concat];let⟨k1,k2,k3,k4,k5⟩:=ok.last2;have K:=Z s iS;by_cases hc:a<=s.2;rw[if_pos hc];have e:max s.2 b=b:=oM;rw[e];refine⟨SOK.app (c:=s.1-1) ok.left ⟨by simp;omega,k3,by simp;omega,hb,trivial⟩ (fun t ht=>by have:=k1 t ht;omega) oM,fun x=>?_,fun m hm hbm t ht=>?_⟩;simp only[nQ,gQ,lI,UL,Bool.or_assoc];congr 1;rw[Ur];simp;omega;grind;rw[if_neg hc];refine⟨SOK.app (c:=a-1) ok ⟨by simp;omega,h0,by simp;omega,hb,trivial⟩ (fun t ht=>?_) oM,fun x=>?_,fun m hm hbm t ht=>?_⟩;grind;simp only[nQ,gQ,lI,UL];grind
theorem nj{h:Heap}{B:Nat}{v:V}{L:List (Int×Int)}{a b:Int}(w:WF h)(g:GRecs sp 2 h B v L)(hB:B<=h.next)(hn:(L.length:Int)<=1073741824):
 ao go 209 [v,ZZ a,ZZ b] h fun u h'=>GRecs sp 2 h' B u (lZ L a b)/\Fr (vb v) h h':=by
 have s:=g.recs eg oM;by_cases h1:b<=a;refine ag ?_;simp only[evs,seval,s.len,h1];unfold lZ;rw[if_pos h1];exact⟨g,Sn w⟩;obtain rfl|⟨L',t,rfl⟩:=List.eq_nil_or_concat L;obtain⟨ac,K⟩:∃ac,ac=halloc h (sp (a,b)):=⟨_,rfl⟩;have Z:Fr [] h ac:=K▸SO w _;have ae:Own ac h.next (sp (a,b)):=K▸Ts w _;have af:halloc h [ZZ a,ZZ b]=ac:=K.symm;have hz:aP .lenS [v]=some (ZZ 0):=s.len;refine ag ?_;simp only[evs,seval,hz,h1,(oM:¬(0:Int)<0),af];refine GRecs.append (x:=(a,b)) Z.wf (g.fr Z) eg (A8 _) oM ae (SD hB Z.next) iS ?_;intro v' h' g' u;simp only[evs,seval];unfold lZ;rw[if_neg h1];exact⟨g',Z.trans u w iS (fun x hx=>.inl hx)⟩;simp only[List.concat_eq_append]at g s hn|-;have ak:((L'++[t]).length:Int)=L'.length+1:=by simp
 let⟨bb,oo,x,e1,e2,e3,e4,e5⟩:=Sp.ix s L'.length oM;have hx:x=t:=by simpa using e5.symm
 subst hx;have pos:(0:Int)<L'.length+1:=oM;have es:(L'.length:Int)+1-1=L'.length:=oM;by_cases h2:a<=x.2;obtain⟨rfl,gg⟩|⟨b0,n0,rfl,ar,aH,ax,og⟩:=g;have:=congrArg List.length gg;rw[aJ eg]at this;simp at this;rw[aJ eg]at ar;have e0:n0=L'.length+1:=by simp at ar;omega
 subst e0;have an:=nr 2 b0 0 (L'.length+1) 2 .i64 L'.length oM oM;rw[e1]at an;simp only[Sh,V.ptr.injEq,RX]at an;obtain⟨rfl,rfl⟩:=an;simp only[Tj]at e1 e3;refine ag ?_;simp(disch:=omega) only[evs,seval,ah,s.len,h1,ak,pos,es,e1,e3,h2];have az:(L'++[x]).flatMap sp=L'.flatMap sp++[ZZ x.1,ZZ x.2]:=by simp[sp]
 rw[az]at og;have hu:bu (L'.flatMap sp++[ZZ x.1,ZZ x.2]) (L'.length*2+1) [ZZ (max x.2 b)]=some (L'.flatMap sp++[ZZ x.1,ZZ (max x.2 b)]):=by have ay:(L'.flatMap sp).length=L'.length*2:=aJ eg L';rw[bQ _ _ _ iX];congr 1;rw[Vg,Sf oM,So iX];rw[ay,(oM:L'.length*2+1-L'.length*2=1)];simp
 refine ai (c':=_) (v:=ZZ (max x.2 b)) (o:=L'.length*2+1) w og rfl rfl hu ?_;intro h' o' F' n';simp only[evs,seval];unfold lZ;rw[if_neg h1];simp only[VD,Vp,Option.some_or,List.dropLast_concat,if_pos h2];refine⟨.inr ⟨bb,L'.length+1,rfl,by rw[aJ eg];simp,oM,ax,?_⟩,F'⟩;rw[Tz];simpa[sp]using o';obtain⟨ac,K⟩:∃ac,ac=halloc h (sp (a,b)):=⟨_,rfl⟩;have Z:Fr [] h ac:=K▸SO w _;have ae:Own ac h.next (sp (a,b)):=K▸Ts w _;have af:halloc h [ZZ a,ZZ b]=ac:=K.symm;refine ag ?_;simp(disch:=omega) only[evs,seval,ah,s.len,h1,ak,pos,es,e1,e3,h2,af];refine GRecs.append (x:=(a,b)) Z.wf (g.fr Z) eg (A8 _) oM ae (SD hB Z.next) oO ?_;intro v' h' g' u;simp only[evs,seval];unfold lZ;rw[if_neg h1];simp only[VD,Vp,Option.some_or,if_neg h2];exact⟨g',Z.trans u w iS (fun x hx=>.inl hx)⟩
theorem Ji{h:Heap}{B:Nat}{v:V}{L:List (Int×Int)}(g:GRecs sp 2 h B v L):ao go 258 [v] h fun u h'=>SpF h u L/\u.one=true/\h'=h:=by
 have s:=g.recs eg oM;obtain⟨rfl,gg⟩|⟨b0,n0,rfl,Z,K,ae,og⟩:=g;have e:aP (.sl none 2 false true true) [.nils,ZZ (L.length:Int),ZZ (L.length:Int)]=some .nils:=by
  have:L=[]:=by have:=congrArg List.length gg;rw[aJ eg,Vo]at this;exact SC.1 oM
  subst this;rfl
 have hz:aP .lenS [.nils]=some (ZZ (L.length:Int)):=s.len;refine ag ?_;simp only[Ce,Cc,Cf,jt,xN,I5,I4,HX,qQ,qP,wT,wS,ql,iB,BI,dE,gu,cU,bR,cQ,lO,hU,TF,pc,pa,nW,w9,lh,BZ,hz,e,seval];exact⟨.inl ⟨rfl,by have:=congrArg List.length gg;rw[aJ eg,Vo]at this;exact SC.1 oM⟩,rfl,trivial⟩;rw[aJ eg]at Z;have e0:n0=L.length:=oM;subst e0;have ac:aW L.length L.length false true true [ZZ (L.length:Int),ZZ (L.length:Int)]=some (0,L.length,some L.length):=by simp only[aW,bS .i64 (L.length:Int) L.length oM oM,SZ,RX,Sx]
 have e:aP (.sl none 2 false true true) [.sliceU b0 0 L.length 2,ZZ (L.length:Int),ZZ (L.length:Int)]=some (.slice b0 0 L.length L.length):=by have hq:(Nat.beq 2 2&&Nat.blt 0 2)=true:=rfl;simp only[aP,dX,hq,cond_true,ac,SZ,eP (oM:L.length≠0),cond_false,VK,Vk,Um]
 refine ag ?_;simp only[evs,seval,e];exact⟨.inr ⟨b0,rfl,og,K⟩,rfl⟩
theorem qJ{h:Heap}{B:Nat}{v:V}{L:List (Int×Int)}(g:GRecs sp 2 h B v L)(Z:L.length<=4096):ao go 210 [v] h fun u h'=>∃z,u=.tup [z,ZZ 0]/\SpF h z L/\z.one=true/\h'=h:=by have s:=g.recs eg oM;refine ag ?_;simp only[evs,seval,s.len,(oM:¬(4096:Int)<L.length)];refine aa (Ji g) ?_;rintro z _ ⟨a,b,rfl⟩;simp only[evs,seval];exact⟨z,rfl,a,b⟩
theorem xi{h:Heap}{s:Int×Int}{a:Int}(w:WF h):ao go 291 [.agg [ZZ s.1,ZZ s.2],ZZ a] h fun u h'=>u=ZZ (if a<s.1 then s.1 else s.2)/\Fr [] h h':=by let⟨h1,e_h1,F_h1,o_h1⟩:=aq w [ZZ s.1,ZZ s.2];by_cases c:a<s.1;refine ag ?_;simp only[evs,seval,<-e_h1,o_h1.ld1,c];exact F_h1;refine ag ?_;simp only[evs,seval,<-e_h1,o_h1.ld1,c];exact F_h1
theorem IP{h:Heap}{u v:V}{A B:List (Int×Int)}(w:WF h)(a:Sp h u A)(b:Sp h v B)(ac:SOK A (-1))(K:SOK B (-1))(ha:A.length<=4096)(hb:B.length<=4096):
 ao go 290 [u,v] h fun u h'=>u=ZZ 0/\Fr [] h h':=by
 refine ag ?_;simp only[evs,seval];refine aa (lR w a ac ha) ?_;rintro _ h1 ⟨rfl,Z⟩;simp only[evs,seval];apply aa (lR Z.wf (b.fr Z) K hb);rintro _ h2 ⟨rfl,F2⟩;simp only[evs,seval];exact Z.then F2
def cnt(A:List (Int×Int))(a:Int):Nat:=(A.map fun s=>(if a<s.1 then 1 else 0)+(if a<s.2 then 1 else 0)).sum
theorem kK(s:Int×Int)(A:List (Int×Int))(a:Int):cnt (s::A) a=(if a<s.1 then 1 else 0)+(if a<s.2 then 1 else 0)+cnt A a:=by simp[cnt]
theorem ng:∀(A:List (Int×Int)){a e:Int},a≤e→cnt A e≤cnt A a
 |[],_,_,_=>Nat.le_refl _
 |s::A,a,e,h=>by have:=ng A h;rw[kK,kK];by_cases c1:e<s.1<;>by_cases c2:e<s.2<;>by_cases c3:a<s.1<;>by_cases c4:a<s.2<;>simp[c1,c2,c3,c4]<;>omega
theorem sX:∀(A:List (Int×Int)){a e:Int}{s:Int×Int},a<e→s∈A→(s.1=e∨s.2=e)→cnt A e<cnt A a
 |t::A,a,e,s,h,hs,hse=>by rw[kK,kK];have hle:=ng A (Int.le_of_lt h);obtain rfl|hs:=List.mem_cons.1 hs;grind;have:=sX A h hs hse;by_cases c1:e<t.1<;>by_cases c2:e<t.2<;>by_cases c3:a<t.1<;>by_cases c4:a<t.2<;>simp[c1,c2,c3,c4]<;>omega
theorem BK(A:List (Int×Int))(a:Int):cnt A a<=2*A.length:=by
 induction A with
 |nil=>simp[cnt]
 |cons s A ih=>rw[kK];simp only[SG];by_cases K:a<s.1<;>by_cases Z:a<s.2<;>simp[K,Z]<;>omega
def tW(D:List (Int×Int))(a:Int):Bool:=match D with
 |[]=>false
 |s::_=>decide (s.1<=a)
def mt(D:List (Int×Int))(a:Int):Int:=match D with
 |[]=>1073741824
 |s::_=>if a<s.1 then s.1 else s.2
theorem seg{D:List (Int×Int)}{Z a x:Int}(ok:SOK D Z)(hx:a<=x)(hD:∀s D',D=s::D'->a<s.2)(K:x<mt D a):inS D x=tW D a:=by
 cases D with
 |nil=>rfl
 |cons s D=>let⟨h1,h2,h3,h4,h5⟩:=ok;have:=hD s D rfl;simp only[mt]at K;rw[gQ,SOK.below h5 (by split at K<;>omega),UL];simp only[tW];rw[Ur];simp;split at K<;>omega
theorem lG{A:List (Int×Int)}{i:Nat}{a x:Int}(h:∀s∈A.take i,s.2<=a)(K:a<=x):inS A x=inS (A.drop i) x:=by
 conv=>lhs;rw[<-SB i A]
 rw[nQ];have:inS (A.take i) x=false:=by simp only[inS,Vu,RU,decide_eq_true_eq];intro s Z;have:=h s Z;omega
 rw[this,Uk]
theorem DX{A:List (Int×Int)}{i:Nat}{s:Int×Int}{a:Int}(h:∀s∈A.take i,s.2<=a)(e:A[i]? =some s)(Z:s.2<=a):∀s∈A.take (i+1),s.2<=a:=by intro t ht;rw[Sr,e]at ht;simp at ht;obtain ht|rfl:=ht;exact h t ht;exact Z
theorem A9{h:Heap}{v:V}{A:List (Int×Int)}{env:T V}{at':Int}{i:Nat}{Q:Ex->T V->Heap->Prop}{c:IC}(sv Z sz:Nat)(hA:A.length<=4096)(K:Z≠10/\sz≠10/\sv≠Z/\sv≠sz/\Z≠sz)(id:Nat)
 (a:Sp h v A) (gv:env.get sv=some v) (ak:env.get 10=some (ZZ at')) (gx:env.get Z=some (ZZ i)) (hi:i<=A.length) (hb:∀s∈A.take i,s.2<=at')
 (body:∀(env:T V)(i:Nat)(Q:Ex->T V->Heap->Prop),env.get sv=some v->env.get 10=some (ZZ at')->env.get Z=some (ZZ i)->i<=A.length->
  (∀env',env'.get Z=some (ZZ ((i:Int)+1))->(∀s,s≠Z->s≠sz->env'.get s=env.get s)->(∃s,A[i]? =some s/\s.2<=at')->Q .norm env' h)->
  (∀env',(∀s,s≠sz->env'.get s=env.get s)->(∀s,A[i]? =some s->at'<s.2)->Q (.exit id) env' h)->W go c env h Q)
 (k:∀env' (j:Nat),env'.get Z=some (ZZ j)->(∀s,s≠Z->s≠sz->env'.get s=env.get s)->j<=A.length->(∀s∈A.take j,s.2<=at')->(∀s,A[j]? =some s->at'<s.2)->Q (.exit id) env' h):
 W go (.loop c) env h Q:=by
 refine aC (fun k env' hh=>hh=h/\(∀s,s≠Z->s≠sz->env'.get s=env.get s)/\∃j:Nat,env'.get Z=some (ZZ j)/\j<=A.length/\(∀s∈A.take j,s.2<=at')/\k=A.length-j) (A.length-i) oM ?_ ?_;grind;rintro k' ae hh ⟨rfl,same,j,gj,hj,af,rfl⟩;refine body ae j _ ((same sv K.2.2.1 K.2.2.2.1).trans gv) ((same 10 (Ub K.1) (Ub K.2.1)).trans ak) gj hj ?_ ?_;rintro ac e1 e2 ⟨s,es,hs⟩;have an:j<A.length:=by grind
 exact rqn ⟨A.length-(j+1),oM,rfl,fun s a1 a2=>(e2 s a1 a2).trans (same s a1 a2),j+1,by simpa using e1,oM,DX af es hs,rfl⟩;intro ac e2 hs;exact(jX _ _ _ _).2 (k ac j ((e2 Z K.2.2.2.2).trans gj) (fun s a1 a2=>(e2 s a2).trans (same s a1 a2)) hj af hs)
structure Keep(kf:V)(keep:Bool->Bool->Bool):Prop where
 fn:∃g,kf=.func (.func g) [] []/\g<1099511627776/\∀h a b,ao go g [.bool a,.bool b] h fun u h'=>u=.bool (keep a b)/\h'=h
 ff:keep false false=false
theorem uT{h:Heap}{u v kf:V}{A B:List (Int×Int)}{keep:Bool→Bool→Bool}(w:WF h)(a:Sp h u A)(b:Sp h v B)(oka:SOK A (-1))(okb:SOK B (-1))(ha:A.length≤4096)(hb:B.length≤4096)
 (hk:Keep kf keep) (m:Int) (hm:m≤8000) (hma:∀s∈A,s.2≤m) (hmb:∀s∈B,s.2≤m):
 ao go 269 [u,v,kf] h fun z h'=>Fr [] h h'∧∃y L,z=.tup [y,.int .i64 0]∧y.one=true∧SpF h' y L∧SOK L (-1)∧(∀x,inS L x=keep (inS A x) (inS B x))∧∀s∈L,s.2≤max m 0:=by
 refine ag ?_;simp only[evs,seval];refine Hd ?_;simp only[evs,seval];refine aa (IP w a b oka okb ha hb) ?_;rintro _ h1 ⟨rfl,F1⟩;simp only[evs,seval];obtain⟨g,rfl,hgy,hkf⟩:=hk.fn;have below:∀(O:List (Int×Int)){c:Int},(∀s∈O,s.2≤c)→∀x,c≤x→inS O x=false:=by intro O c hO x hx;simp only[inS,List.any_eq_false,Bool.and_eq_true,decide_eq_true_eq];intro s hs;have:=hO s hs;omega
 refine aC (fun k env hh=>∃(i j:Nat)(at':Int)(vo:V)(O:List (Int×Int)),Fr [] h hh∧env.get 0=some u∧env.get 1=some v∧env.get 2=some (.func (.func g) [] [])∧env.get 9=some vo∧
  env.get 10=some (.int .i64 at')∧env.get 11=some (.int .i64 i)∧env.get 12=some (.int .i64 j)∧i≤A.length∧j≤B.length∧0≤at'∧at'≤max m 0∧(∀s∈A.take i,s.2≤at')∧(∀s∈B.take j,s.2≤at')∧
  GRecs sp 2 hh h.next vo O∧SOK O (-1)∧(∀s∈O,s.2≤at')∧(∀x,x<at'→inS O x=keep (inS A x) (inS B x))∧k=cnt A at'+cnt B at') (cnt A 0+cnt B 0) (by have:=BK A 0;have:=BK B 0;omega) ?_ ?_
 refine⟨0,0,0,.nils,[],F1,iS,iS,iS,iS,iS,iS,iS,oM,oM,oM,oM,iS,iS,GRecs.nil,trivial,iS,?_,rfl⟩;intro x hx;rw[oka.below oM,okb.below oM,hk.ff];rfl;rintro k env hh ⟨i,j,at',vo,O,F,g0,g1,g2,g9,g10,g11,g12,hi,hj,at0,atm,hbi,hbj,gO,okO,mO,sO,rfl⟩;simp only[evs,seval];refine A9 0 11 34 ha oM 2 (a.fr F) g0 g10 g11 hi hbi ?_ ?_;intro env i Q g0 g10 g11 hi hn hx;by_cases hlt:(i:Int)<A.length;let⟨bb,oo,s,e1,e2,e3,e4,e5⟩:=Sp.ix (a.fr F) i hlt;by_cases hs:s.2≤at';simp(disch:=omega) only[evs,seval,ah,g0,g10,g11,(a.fr F).len,hlt,e1,e3,hs];exact hn _ iS (fun s h1 h2=>by simp[h1,h2]) ⟨s,e5,hs⟩;simp only[evs,seval,g0,g10,g11,(a.fr F).len,hlt,e1,e3,hs];exact hx _ (fun s h1=>by simp[h1]) (fun t ht=>by rw[e5]at ht;cases ht;omega);simp only[evs,seval,g0,g11,(a.fr F).len,hlt];exact hx _ (fun s h1=>by simp[h1]) (fun t ht=>by rw[List.getElem?_eq_none oM]at ht;cases ht);intro env1 i1 g11' same1 hi1 hb1 hs1;have g0':=(same1 0 oM oM).trans g0;have g1':=(same1 1 oM oM).trans g1;have g2':=(same1 2 oM oM).trans g2;have g9':=(same1 9 oM oM).trans g9;have g10':=(same1 10 oM oM).trans g10;have g12':=(same1 12 oM oM).trans g12;simp only[evs,seval];refine A9 1 12 49 hb oM 4 (b.fr F) g1' g10' g12' hj hbj ?_ ?_;intro env i Q g0 g10 g11 hi hn hx;by_cases hlt:(i:Int)<B.length;let⟨bb,oo,s,e1,e2,e3,e4,e5⟩:=Sp.ix (b.fr F) i hlt;by_cases hs:s.2≤at';simp(disch:=omega) only[evs,seval,ah,g0,g10,g11,(b.fr F).len,hlt,e1,e3,hs];exact hn _ iS (fun s h1 h2=>by simp[h1,h2]) ⟨s,e5,hs⟩;simp only[evs,seval,g0,g10,g11,(b.fr F).len,hlt,e1,e3,hs];exact hx _ (fun s h1=>by simp[h1]) (fun t ht=>by rw[e5]at ht;cases ht;omega);simp only[evs,seval,g0,g11,(b.fr F).len,hlt];exact hx _ (fun s h1=>by simp[h1]) (fun t ht=>by rw[List.getElem?_eq_none oM]at ht;cases ht);intro env2 j1 g12'' same2 hj1 hb2 hs2;have n0:=(same2 0 oM oM).trans g0';have n1:=(same2 1 oM oM).trans g1';have n2:=(same2 2 oM oM).trans g2';have n9:=(same2 9 oM oM).trans g9';have n10:=(same2 10 oM oM).trans g10';have n11:=(same2 11 oM oM).trans g11';clear same1 same2 g0' g1' g2' g9' g10' g11' g12' g0 g1 g2 g9 g10 g11 g12 hbi hbj hi hj env env1;let⟨ca,okA⟩:=oka.drop i1;let⟨cb,okB⟩:=okb.drop j1;have segA:∀x,at'≤x→x<mt (A.drop i1) at'→inS A x=tW (A.drop i1) at':=fun x h1 h2=>by rw[lG hb1 h1,seg okA h1 (fun s D' e=>hs1 s (by rw[←List.head?_drop,e];rfl)) h2]
 have segB:∀x,at'≤x→x<mt (B.drop j1) at'→inS B x=tW (B.drop j1) at':=fun x h1 h2=>by rw[lG hb2 h1,seg okB h1 (fun s D' e=>hs2 s (by rw[←List.head?_drop,e];rfl)) h2]
 by_cases cA:(i1:Int)<A.length;let⟨bA,oA,s,eA1,eA2,eA3,eA4,eA5⟩:=Sp.ix (a.fr F) i1 cA;have eD:=aK eA5;rw[eD]at segA okA;simp only[mt,tW]at segA;have sm:=hma s (List.mem_of_getElem? eA5);have s2:=hs1 s eA5;let⟨q1,q2,q3,q4,_⟩:=okA;simp only[evs,seval,n0,n10,n11,(a.fr F).len,cA,eA1,eA2,eA4];refine aa (xi F.wf) ?_;rintro _ h3 ⟨rfl,F3⟩;have FH:=F.then F3;obtain⟨eA,heA⟩:∃eA,eA=if at'<s.1 then s.1 else s.2:=⟨_,rfl⟩;rw[←heA]at segA⊢;have leA:at'<eA∧eA≤m∧eA≤1073741824∧(s.1=eA∨s.2=eA):=oM;by_cases cB:(j1:Int)<B.length;let⟨bB,oB,t,eB1,eB2,eB3,eB4,eB5⟩:=Sp.ix (b.fr FH) j1 cB;have eE:=aK eB5;rw[eE]at segB okB;simp only[mt,tW]at segB;have tm:=hmb t (List.mem_of_getElem? eB5);have t2:=hs2 t eB5;let⟨r1,r2,r3,r4,_⟩:=okB;simp only[evs,seval,n1,n10,g12'',(b.fr FH).len,cB,eB1,eB2,eB4];refine aa (xi F3.wf) ?_;rintro _ h4 ⟨rfl,F4⟩;have FH:=FH.then F4;have gO':=gO.fr (F3.then F4);obtain⟨eB,heB⟩:∃eB,eB=if at'<t.1 then t.1 else t.2:=⟨_,rfl⟩;rw[←heB]at segB⊢;have leB:at'<eB∧eB≤m∧eB≤1073741824∧(t.1=eB∨t.2=eB):=oM;simp only[evs,seval,n0,n2,n11,(a.fr FH).len,(oM:¬(i1:Int)=A.length)];obtain⟨e,he⟩:∃e,e=min (min 1073741824 eA) eB:=⟨_,rfl⟩;rw[←he];have hA:∀x,at'≤x→x<e→inS A x=decide (s.1≤at'):=fun x h1 h2=>segA x h1 oM;have hB:∀x,at'≤x→x<e→inS B x=decide (t.1≤at'):=fun x h1 h2=>segB x h1 oM;have heM:e≤max m 0:=oM;have hcnt:cnt A e+cnt B e<cnt A at'+cnt B at':=by by_cases c:eA≤eB;have:=sX A (a:=at') (e:=e) oM (List.mem_of_getElem? eA5) oM;have:=ng B (a:=at') (e:=e) oM;omega;have:=sX B (a:=at') (e:=e) oM (List.mem_of_getElem? eB5) oM;have:=ng A (a:=at') (e:=e) oM;omega
 have cO:=okO.count at' mO oM;refine⟨hgy,aa (hkf _ _ _) ?_⟩;rintro _ _ ⟨rfl,hhh⟩;subst hhh;cases hkeep:keep (decide (s.1≤at')) (decide (t.1≤at'));simp only[evs,seval];refine rqn ⟨cnt A e+cnt B e,hcnt,i1,j1,e,vo,O,FH,iX,iX,iX,iX,iS,iX,iX,hi1,hj1,oM,heM,fun s hs=>by have:=hb1 s hs;omega,fun s hs=>by have:=hb2 s hs;omega,gO',okO,fun s hs=>by have:=mO s hs;omega,?_,rfl⟩;intro x hx;by_cases hxa:x<at';exact sO x hxa;grind;simp only[evs,seval,n9,n10];refine aa (nj FH.wf gO' FH.next oM) ?_;rintro vo' h9 ⟨g9,U9⟩;replace U9:=Gs.up gO' U9;simp only[evs,seval];let⟨s1,s2,s3⟩:=fP (a:=at') (b:=e) okO (fun _=>mO) at0 oM;refine rqn ⟨cnt A e+cnt B e,hcnt,i1,j1,e,vo',lZ O at' e,FH.ups w U9,iX,iX,iX,iS,iS,iX,iX,hi1,hj1,oM,heM,fun s hs=>by have:=hb1 s hs;omega,fun s hs=>by have:=hb2 s hs;omega,g9,s1,s3 e (fun s hs=>by have:=mO s hs;omega) (fun _=>Int.le_refl _),?_,rfl⟩;intro x hx;rw[s2 x];by_cases hxa:x<at';grind;grind;have gO':=gO.fr F3;rw[List.drop_of_length_le oM]at segB;simp only[mt,tW]at segB;simp only[evs,seval,n0,n1,n2,n11,g12'',(a.fr FH).len,(b.fr FH).len,cB,(oM:¬(i1:Int)=A.length)];obtain⟨e,he⟩:∃e,e=min 1073741824 eA:=⟨_,rfl⟩;rw[←he];have hA:∀x,at'≤x→x<e→inS A x=decide (s.1≤at'):=fun x h1 h2=>segA x h1 oM;have hB:∀x,at'≤x→x<e→inS B x=false:=fun x h1 h2=>segB x h1 oM;have heM:e≤max m 0:=oM;have hcnt:cnt A e+cnt B e<cnt A at'+cnt B at':=by have:=sX A (a:=at') (e:=e) oM (List.mem_of_getElem? eA5) oM;have:=ng B (a:=at') (e:=e) oM;omega
 have cO:=okO.count at' mO oM;refine⟨hgy,aa (hkf _ _ _) ?_⟩;rintro _ _ ⟨rfl,hhh⟩;subst hhh;cases hkeep:keep (decide (s.1≤at')) (false);simp only[evs,seval];refine rqn ⟨cnt A e+cnt B e,hcnt,i1,j1,e,vo,O,FH,iX,iX,iX,iX,iS,iX,iX,hi1,hj1,oM,heM,fun s hs=>by have:=hb1 s hs;omega,fun s hs=>by have:=hb2 s hs;omega,gO',okO,fun s hs=>by have:=mO s hs;omega,?_,rfl⟩;intro x hx;by_cases hxa:x<at';exact sO x hxa;grind;simp only[evs,seval,n9,n10];refine aa (nj FH.wf gO' FH.next oM) ?_;rintro vo' h9 ⟨g9,U9⟩;replace U9:=Gs.up gO' U9;simp only[evs,seval];let⟨s1,s2,s3⟩:=fP (a:=at') (b:=e) okO (fun _=>mO) at0 oM;refine rqn ⟨cnt A e+cnt B e,hcnt,i1,j1,e,vo',lZ O at' e,FH.ups w U9,iX,iX,iX,iS,iS,iX,iX,hi1,hj1,oM,heM,fun s hs=>by have:=hb1 s hs;omega,fun s hs=>by have:=hb2 s hs;omega,g9,s1,s3 e (fun s hs=>by have:=mO s hs;omega) (fun _=>Int.le_refl _),?_,rfl⟩;intro x hx;rw[s2 x];by_cases hxa:x<at';grind;grind;rw[List.drop_of_length_le oM]at segA;simp only[mt,tW]at segA;have FH:=F;by_cases cB:(j1:Int)<B.length;let⟨bB,oB,t,eB1,eB2,eB3,eB4,eB5⟩:=Sp.ix (b.fr FH) j1 cB;have eE:=aK eB5;rw[eE]at segB okB;simp only[mt,tW]at segB;have tm:=hmb t (List.mem_of_getElem? eB5);have t2:=hs2 t eB5;let⟨r1,r2,r3,r4,_⟩:=okB;simp only[evs,seval,n0,n1,n10,n11,g12'',(a.fr FH).len,(b.fr FH).len,cA,cB,eB1,eB2,eB4];refine aa (xi FH.wf) ?_;rintro _ h4 ⟨rfl,F4⟩;have FH:=FH.then F4;have gO':=gO.fr F4;obtain⟨eB,heB⟩:∃eB,eB=if at'<t.1 then t.1 else t.2:=⟨_,rfl⟩;rw[←heB]at segB⊢;have leB:at'<eB∧eB≤m∧eB≤1073741824∧(t.1=eB∨t.2=eB):=oM;simp only[evs,seval,n0,n1,n2,n11,g12'',(a.fr FH).len,(b.fr FH).len,eq_true (oM:(i1:Int)=A.length),(oM:¬(j1:Int)=B.length)];obtain⟨e,he⟩:∃e,e=min 1073741824 eB:=⟨_,rfl⟩;rw[←he];have hA:∀x,at'≤x→x<e→inS A x=false:=fun x h1 h2=>segA x h1 oM;have hB:∀x,at'≤x→x<e→inS B x=decide (t.1≤at'):=fun x h1 h2=>segB x h1 oM;have heM:e≤max m 0:=oM;have hcnt:cnt A e+cnt B e<cnt A at'+cnt B at':=by have:=sX B (a:=at') (e:=e) oM (List.mem_of_getElem? eB5) oM;have:=ng A (a:=at') (e:=e) oM;omega
 have cO:=okO.count at' mO oM;refine⟨hgy,aa (hkf _ _ _) ?_⟩;rintro _ _ ⟨rfl,hhh⟩;subst hhh;cases hkeep:keep (false) (decide (t.1≤at'));simp only[evs,seval];refine rqn ⟨cnt A e+cnt B e,hcnt,i1,j1,e,vo,O,FH,iX,iX,iX,iX,iS,iX,iX,hi1,hj1,oM,heM,fun s hs=>by have:=hb1 s hs;omega,fun s hs=>by have:=hb2 s hs;omega,gO',okO,fun s hs=>by have:=mO s hs;omega,?_,rfl⟩;intro x hx;by_cases hxa:x<at';exact sO x hxa;grind;simp only[evs,seval,n9,n10];refine aa (nj FH.wf gO' FH.next oM) ?_;rintro vo' h9 ⟨g9,U9⟩;replace U9:=Gs.up gO' U9;simp only[evs,seval];let⟨s1,s2,s3⟩:=fP (a:=at') (b:=e) okO (fun _=>mO) at0 oM;refine rqn ⟨cnt A e+cnt B e,hcnt,i1,j1,e,vo',lZ O at' e,FH.ups w U9,iX,iX,iX,iS,iS,iX,iX,hi1,hj1,oM,heM,fun s hs=>by have:=hb1 s hs;omega,fun s hs=>by have:=hb2 s hs;omega,g9,s1,s3 e (fun s hs=>by have:=mO s hs;omega) (fun _=>Int.le_refl _),?_,rfl⟩;intro x hx;rw[s2 x];by_cases hxa:x<at';grind;grind;rw[List.drop_of_length_le oM]at segB;simp only[mt,tW]at segB;simp only[evs,seval,n0,n1,n9,n11,g12'',(a.fr FH).len,(b.fr FH).len,cA,cB,eq_true (oM:(i1:Int)=A.length),eq_true (oM:(j1:Int)=B.length)];have cO:=okO.count at' mO oM;refine aa (qJ gO oM) ?_;rintro _ _ ⟨z,rfl,sz,oz,hhh⟩;subst hhh;simp only[evs,seval];refine⟨FH,z,O,rfl,oz,sz,okO,fun x=>?_,fun s hs=>by have:=mO s hs;omega⟩;by_cases hxa:x<at';exact sO x hxa;rw[below O mO x oM,lG hb1 (oM:at'≤x),lG hb2 (oM:at'≤x),List.drop_of_length_le oM,List.drop_of_length_le oM];simp[inS,hk.ff]
theorem Ik:Keep (.func (.func 271) [] []) (fun a b=>a||b):=by
 refine⟨⟨271,rfl,dI,fun h a b=>?_⟩,rfl⟩;cases a;refine ag ?_;simp only[evs,seval];cases b<;>rfl
 refine ag ?_;simp only[evs,seval];rfl
theorem EY:Keep (.func (.func 270) [] []) (fun a b=>a&& !b):=by refine⟨⟨270,rfl,dI,fun h a b=>?_⟩,rfl⟩;cases a;refine ag ?_;simp only[evs,seval];rfl;refine ag ?_;simp only[evs,seval];cases b<;>rfl
theorem Hj{h:Heap}{u v:V}{A B:List (Int×Int)}(w:WF h)(a:Sp h u A)(b:Sp h v B)(ac:SOK A (-1))(Z:SOK B (-1))(ha:A.length<=4096)(hb:B.length<=4096)
 (m:Int) (hm:m<=8000) (K:∀s∈A,s.2<=m) (ae:∀s∈B,s.2<=m):
 ao go 236 [u,v] h fun z h'=>Fr [] h h'/\∃y L,z=.tup [y,ZZ 0]/\y.one=true/\SpF h' y L/\SOK L (-1)/\(∀x,inS L x=(inS A x||inS B x))/\∀s∈L,s.2<=max m 0:=by
 refine ag ?_;simp only[evs,seval];refine aa (uT w a b ac Z ha hb Ik m hm K ae) ?_;rintro _ h1 ⟨F,y,L,rfl,r⟩;simp only[evs,seval];exact⟨F,y,L,rfl,r⟩
theorem AZ{h:Heap}{u v:V}{A B:List (Int×Int)}(w:WF h)(a:Sp h u A)(b:Sp h v B)(ac:SOK A (-1))(Z:SOK B (-1))(ha:A.length<=4096)(hb:B.length<=4096)
 (m:Int) (hm:m<=8000) (K:∀s∈A,s.2<=m) (ae:∀s∈B,s.2<=m):
 ao go 235 [u,v] h fun z h'=>Fr [] h h'/\∃y L,z=.tup [y,ZZ 0]/\y.one=true/\SpF h' y L/\SOK L (-1)/\(∀x,inS L x=(inS A x&& !inS B x))/\∀s∈L,s.2<=max m 0:=by
 refine ag ?_;simp only[evs,seval];refine aa (uT w a b ac Z ha hb EY m hm K ae) ?_;rintro _ h1 ⟨F,y,L,rfl,r⟩;simp only[evs,seval];exact⟨F,y,L,rfl,r⟩
theorem SOK.len{L:List (Int×Int)}(ok:SOK L (-1)){m:Int}(Z:m<=8000)(h:∀s∈L,s.2<=m):L.length<=4096:=by have:=ok.count (max m 0) (fun s hs=>by have:=h s hs;omega) oM;omega
theorem pL{h:Heap}{v:V}{L:List (Int×Int)}{f t m:Int}(w:WF h)(af:SpF h v L)(ok:SOK L (-1))(hm:m<=8000)(hL:∀s∈L,s.2<=m)(hf:0<=f)(ax:f<=t)(ht:t<=m):
 ao go 182 [v,ZZ f,ZZ t,.bool kn] h fun y h'=>Fr [] h h'/\∃L',y.one=true/\SpF h' y L'/\SOK L' (-1)/\(∀x,inS L' x=if f<=x/\x<t then kn else inS L x)/\∀s∈L',s.2<=m:=by
 have a:=af.slc;by_cases e:f=t;refine ag ?_;simp only[evs,seval,eq_true e];exact⟨Sn w,L,TI a,af,ok,fun x=>by rw[if_neg oM],hL⟩;have ae:=ok.len hm hL;obtain⟨h1,K⟩:∃h1,h1=halloc h (sp (f,t)):=⟨_,rfl⟩;have Z:Fr [] h h1:=K▸SO w _;have an:Own h1 h.next (sp (f,t)):=K▸Ts w _;have ac:halloc h [ZZ f,ZZ t]=h1:=K.symm;have ar:SOK [(f,t)] (-1):=⟨by simp;omega,hf,by simp;omega,by simp;omega,trivial⟩;have s1:Sp h1 (.slice h.next 0 1 1) [(f,t)]:=TH (n:=1) an rfl;have mx:max m 0=m:=oM;cases kn;refine ag ?_;simp only[evs,seval,eq_false e,ac];refine aa (AZ Z.wf (a.fr Z) s1 ok ar ae iS m hm hL (by simp;exact ht)) ?_;rintro _ h2 ⟨F2,y,L',rfl,o1,sL,ak,iL,mL⟩;simp only[evs,seval];rw[mx]at mL;refine⟨Z.then F2,L',o1,sL,ak,fun x=>?_,mL⟩;rw[iL,gQ,lI];by_cases c:f<=x/\x<t;grind;grind;refine ag ?_;simp only[evs,seval,eq_false e,ac];refine aa (Hj Z.wf (a.fr Z) s1 ok ar ae iS m hm hL (by simp;exact ht)) ?_;rintro _ h2 ⟨F2,y,L',rfl,o1,sL,ak,iL,mL⟩;simp only[evs,seval];rw[mx]at mL;refine⟨Z.then F2,L',o1,sL,ak,fun x=>?_,mL⟩;rw[iL,gQ,lI];by_cases c:f<=x/\x<t;grind;grind
theorem qE{h:Heap}{c vk:V}{e:Int}(w:WF h)(hc:c.one=true)(hk:vk.one=true):
 ao go 149 [.agg [c],vk,ZZ e] h fun z h'=>Fr [] h h'/\z=if e=0 then .tup [.agg [c,vk],ZZ 0]else .tup [.agg [.nilp,.nils],ZZ e]:=by
 let⟨h1,e_h1,F_h1,o_h1⟩:=aq w [c];let⟨h2,e_h2,F_h2,o_h2⟩:=aq F_h1.wf [.nilp,.nils];have ae:=F_h1.then F_h2;by_cases e0:e=0;subst e0;refine ag ?_;simp only[evs,seval,<-e_h1,<-e_h2,(F_h2.get o_h1).ld,aw hk];refine stu F_h2.wf o_h2 ?_;rintro h3 K Z ac;simp only[evs,seval,K.ld];exact ae.fresh Z w F_h1.next;refine ag ?_;simp only[evs,seval,<-e_h1,<-e_h2,eq_false e0];refine stu F_h2.wf o_h2 ?_;rintro h3 K Z ac;simp only[evs,seval,K.ld];exact ae.fresh Z w F_h1.next
theorem uI{h:Heap}{v:V}{L:List (Int×Int)}{a n:Int}(w:WF h)(s:Sp h v L)(ok:SOK L (-1))(hl:L.length<=4096)(ha:0<=a)(Z:a<=1073741824)(hn:0<=n)(K:n<=1073741824):
 ao go 208 [v,ZZ a,ZZ n] h fun u h'=>u=ZZ 0/\Fr [] h h':=by
 refine ag ?_;simp only[evs,seval];refine aa (lR w s ok hl) ?_;rintro _ h1 ⟨rfl,F⟩;simp only[evs,seval,(oM:¬a<0),(oM:¬1073741824<a),(oM:¬n<0),(oM:¬1073741824<n)];exact F
def shf(a n:Int)(f:Int->Bool)(x:Int):Bool:=if x<a then f x else if x<a+n then false else f (x-n)
theorem Ck{h:Heap}{v:V}{L:List (Int×Int)}{a n m:Int}(w:WF h)(s:Sp h v L)(ok:SOK L (-1))(hm:m+n<=8000)(hL:∀s∈L,s.2<=m)(bf:0<=m)(ha:0<=a)(bc:a<=m)(hn:0<=n):
 ao go 228 [v,ZZ a,ZZ n] h fun z h'=>Fr [] h h'/\∃y L',z=.tup [y,ZZ 0]/\y.one=true/\SpF h' y L'/\SOK L' (-1)/\(∀x,inS L' x=shf a n (inS L) x)/\∀s∈L',s.2<=m+n:=by
 have a0:=ok.len oM hL;refine ag ?_;simp only[evs,seval];refine aa (uI w s ok a0 ha oM hn oM) ?_;rintro _ h1 ⟨rfl,F1⟩;have s1:=s.fr F1;by_cases e:L=[];subst e;have hz:aP .lenS [v]=some (ZZ 0):=s.len;simp(disch:=omega) only[evs,seval,ah,hz,(oM:¬(0:Int)<=0-1)];apply aC (fun _ env K=>K=h1/\env.get 10=some .nils/\env.get 46=some (ZZ 0)/\env.get 45=some (ZZ 0)) 0 oM ⟨rfl,iS,iS,iS⟩;rintro k env K ⟨rfl,af,ac,ak⟩;simp only[evs,seval,af,ac,ak,(oM:¬(0:Int)<0)];apply aa (qJ (B:=0) GRecs.nil iS);rintro _ _ ⟨z,rfl,sz,oz,K⟩;subst K;simp only[evs,seval];exact⟨F1,z,[],rfl,oz,sz,trivial,fun x=>by simp[shf,inS],iS⟩;have pos:0<L.length:=List.length_pos_iff.2 e;let⟨bb,oo,t,e1,e2,e3,e4,e5⟩:=Sp.ix s1 (L.length-1) oM;have el:((L.length-1:Nat):Int)=(L.length:Int)-1:=oM;rw[el]at e1;have tm:=hL t (RZ e5);have c:a<t.2\/¬a<t.2:=oM;obtain c|c:=c;all_goals
  simp(disch:=omega) only[evs,seval,ah,s1.len,(oM:(0:Int)<=(L.length:Int)-1),e1,e3,c,(oM:¬1073741824<t.2+n)];refine aC (fun k env K=>∃(i:Nat)(vo:V)(O:List (Int×Int))(Z:Int),Fr [] h K/\env.get 44=some v/\env.get 45=some (ZZ L.length)/\env.get 46=some (ZZ i)/\env.get 10=some vo/\
   env.get 1=some (ZZ a)/\env.get 2=some (ZZ n)/\i<=L.length/\GRecs sp 2 K h.next vo O/\SOK O (-1)/\SOK (L.drop i) Z/\(∀s∈O,s.2<=if Z<=a then Z else Z+n)/\Z<=m/\
   (∀x,inS O x=shf a n (inS (L.take i)) x)/\k=L.length-i) L.length oM ?_ ?_
  exact⟨0,.nils,[],-1,F1,iS,iS,iS,iS,iS,iS,oM,GRecs.nil,trivial,ok,iS,oM,fun x=>by simp[shf,inS],rfl⟩;rintro k env K ⟨i,vo,O,Z,F,a8,ak,ac,af,g1,g2,hi,gO,ax,a1,mO,lm,sO,rfl⟩;have cO:=ax.count (m+n) (fun s hs=>by have:=mO s hs;split at this<;>omega) oM;by_cases ay:(i:Int)<L.length;let⟨bb,oo,s,e1,e2,e3,e4,e5⟩:=Sp.ix (TK (L:=L) ‹Sp h v L› F) i ay
  have sm:=hL s (RZ e5);rw[aK e5]at a1;let⟨k1,k2,k3,k4,k5⟩:=a1;let⟨h2,e_h2,F_h2,o_h2⟩:=aq F.wf [ZZ 0,ZZ 0];simp only[evs,seval,a8,ak,ac,ay,e1,e4,<-e_h2];apply stu F_h2.wf o_h2;rintro h3 an a3 a9;have ar:Fr [] K h3:=F_h2.fresh a3 F.wf (RW _);have F3:=F.then ar;have b3:h.next<=h3.next:=F3.next;have bk:h.next<=K.next:=F.next;simp only[evs,seval,af,g1,an.ld1];apply aa (nj F3.wf (gO.fr ar) b3 oM);rintro v1 h4 ⟨aH,U4⟩;let⟨p1,p2,p3⟩:=fP (a:=s.1) (b:=min s.2 a) ax (fun K s' ae=>by have:=mO s' ae;split at this<;>omega) k2 oM;have a2:∀s'∈lZ O s.1 (min s.2 a),s'.2<=if s.2<=a then s.2 else s.2+n:=p3 _ (fun s' ae=>by have:=mO s' ae;split at this<;>split<;>omega) (fun _=>by split<;>omega);have az:∀s'∈lZ O s.1 (min s.2 a),s'.2<=max s.1 a+n:=p3 _ (fun s' ae=>by have:=mO s' ae;split at this<;>omega) (fun _=>by omega);have ba:=p1.count (m+n) (fun s hs=>by have:=a2 s hs;split at this<;>omega) oM;have a6:Own h4 K.next [ZZ s.1,ZZ s.2]:=by refine U4.own _ _ ?_ an;obtain⟨rfl,_⟩|⟨b,n',rfl,_,_,_,og⟩:=gO;simp[vb];have:=og.lt F.wf;simp[vb];omega
  have a4:=Gs.up (gO.fr ar) U4;simp(disch:=omega) only[evs,seval,ah,g1,g2,a6.ld1];apply aa (nj U4.wf aH (SD b3 U4.next) oM);rintro v2 h5 ⟨a5,U5⟩;have a7:=Gs.up aH U5;let⟨q1,q2,q3⟩:=fP (a:=max s.1 a+n) (b:=s.2+n) p1 (fun _=>az) oM oM;simp(disch:=omega) only[evs,seval,ah,ac];refine rqn ⟨L.length-(i+1),oM,i+1,v2,_,s.2,F3.ups w (a4.trans a7),iX,iX,iS,iS,iX,iX,oM,a5,q1,k5,q3 _ a2 (fun _=>by split<;>omega),sm,?_,rfl⟩;intro x;rw[q2,p2,sO,Sr,e5];simp only[Vq,shf,nQ,gQ,lI,UL];by_cases c1:x<a;grind;grind;simp only[evs,seval,ak,ac,af,ay];apply aa (qJ gO oM);rintro _ _ ⟨z,rfl,sz,oz,K⟩;subst K;simp only[evs,seval];refine⟨F,z,O,rfl,oz,sz,ax,fun x=>by rw[sO,Sf oM],fun s hs=>by have:=mO s hs;split at this<;>omega⟩
structure Kn(L:List (Int×Int))(ks:List Bool):Prop where
 ok:SOK L (-1)
 le:∀s∈L,s.2<=ks.length
 eq:∀i:Nat,inS L i=ks.getD i false
def Ix(h:Heap)(v:V)(l:List Int)(ks:List Bool):Prop:=∃p vk L,v=.agg [pv p,vk]/\Rp h (.agg [pv p]) l/\SpF h vk L/\Kn L ks/\ks.length=l.length/\l.length<=1024
theorem Ix.fr{h:Heap}{v:V}{l:List Int}(a:Ix h v l ks)(f:Fr [] h h'):Ix h' v l ks:=by let⟨p,vk,L,e,r,s,x⟩:=a;exact⟨p,vk,L,e,r.fr f,s.fr f,x⟩
theorem Ix.len{h:Heap}{v:V}{l:List Int}(a:Ix h v l ks):ks.length=l.length/\l.length<=1024:=by let⟨p,vk,L,e,r,s,_,x⟩:=a;exact x
theorem Ix.fit{h:Heap}{v:V}{l:List Int}(a:Ix h v l ks):Fit l:=by let⟨p,vk,L,e,r,s,_,x⟩:=a;let⟨_,_,_,_,_,f⟩:=r;exact f
theorem jJ{h:Heap}{v:V}{l:List Int}(w:WF h)(a:Ix h v l ks):ao go 121 [v] h fun u h'=>u=ZZ l.length/\Fr [] h h':=by obtain⟨p,Z,L,rfl,r,s,_⟩:=a;let⟨h1,e_h1,F_h1,o_h1⟩:=aq w [pv p,Z];refine ag ?_;simp only[evs,seval,<-e_h1,o_h1.ld];refine aa (kR F_h1.wf (r.fr F_h1)) ?_;rintro _ h2 ⟨rfl,K⟩;simp only[evs,seval];exact F_h1.then K
theorem Hb{h:Heap}{v:V}{l:List Int}{i:Int}(w:WF h)(a:Ix h v l ks):
 ao go 145 [v,ZZ i] h fun u h'=>(u=if 0<=i/\i<l.length then .tup [ZZ (l.getD i.toNat 0),ZZ 0]else .tup [ZZ 0,ZZ 4])/\Fr [] h h':=by
 obtain⟨p,K,L,rfl,r,s,_⟩:=a;let⟨h1,e_h1,F_h1,o_h1⟩:=aq w [pv p,K];refine ag ?_;simp only[evs,seval,<-e_h1,o_h1.ld];refine aa (Hk F_h1.wf (r.fr F_h1)) ?_;rintro _ h2 ⟨rfl,Z⟩;by_cases c:0<=i/\i<l.length;simp only[if_pos c];simp only[evs,seval];exact F_h1.then Z;simp only[if_neg c];simp only[evs,seval];exact F_h1.then Z
theorem Kn.len{L:List (Int×Int)}(k:Kn L ks)(h:ks.length<=1024):L.length<=4096:=k.ok.len (m:=ks.length) oM k.le
theorem Dy{h:Heap}{v:V}{l:List Int}{i:Int}(w:WF h)(a:Ix h v l ks):
 ao go 146 [v,ZZ i] h fun u h'=>(u=if 0<=i/\i<l.length then .tup [.bool (ks.getD i.toNat false),ZZ 0]else .tup [.bool false,ZZ 4])/\Fr [] h h':=by
 have a0:=a;obtain⟨p,vk,L,rfl,r,s,kn,e1,e2⟩:=a;let⟨h1,e_h1,F_h1,o_h1⟩:=aq w [pv p,vk];by_cases h0:i<0;refine ag ?_;simp only[evs,seval,<-e_h1,h0];exact⟨by rw[if_neg oM],F_h1⟩;refine ag ?_;simp only[evs,seval,<-e_h1,o_h1.ld,h0];apply aa (jJ F_h1.wf (a0.fr F_h1));rintro _ h2 ⟨rfl,Z⟩;by_cases K:(l.length:Int)<=i;simp only[evs,seval,K];exact⟨by rw[if_neg oM],F_h1.then Z⟩;simp only[evs,seval,K,(Z.get o_h1).ld1];apply aa (KZ Z.wf (s.fr (F_h1.then Z)).slc kn.ok (kn.len oM));rintro _ h3 ⟨rfl,F3⟩;simp only[evs,seval];refine⟨?_,(F_h1.then Z).then F3⟩;rw[if_pos oM];have:=kn.eq i.toNat;rw[(oM:((i.toNat:Nat):Int)=i)]at this;rw[this]
theorem qR{h:Heap}{s:Int}:ao go 180 [ZZ s] h fun u h'=>u=.bool (decide (s<1\/2305843009213693952<s))/\h'=h:=by by_cases c:s<1;refine ag ?_;simp only[evs,seval,c];simp;refine ag ?_;simp only[evs,seval,c];simp
def eU(l:List Int)(i size:Int):Int:=if 0<=i/\i<l.length then if size<1\/2305843009213693952<size then 12 else if 4611686018427387904-(l.sum-l.getD i.toNat 0)<size then 13 else 0 else 4
theorem wu{l:List Int}{i:Int}(h:¬((0<=i/\i<l.length)/\(size<1\/2305843009213693952<size))):eU l i size=lV l i size:=by unfold eU lV;by_cases c:0<=i/\i<l.length;omega;omega
theorem Fm{i j:Nat}{b:Bool}(h:i<ks.length):(ks.set i b).getD j false=if j=i then b else ks.getD j false:=by grind
theorem IY{h:Heap}{v:V}{l:List Int}{i:Int}(w:WF h)(a:Ix h v l ks)(s0:-9223372036854775808<=size)(s1:size<=9223372036854775807)(i0:-9223372036854775808<=i)(i1:i<=9223372036854775807):
 ao go 110 [v,ZZ i,ZZ size,.bool kn] h fun u h'=>Fr [] h h'/\∃c d,u=.tup [.agg [c,d],ZZ (eU l i size)]/\c.one=true/\d.one=true/\(eU l i size=0->Ix h' (.agg [c,d]) (l.set i.toNat size) (ks.set i.toNat kn)):=by
 have a0:=a;obtain⟨p,vk,L,rfl,r,s,an,e1,e2⟩:=a;let⟨h1,e_h1,F_h1,o_h1⟩:=aq w [pv p,vk];let⟨h2,e_h2,F_h2,o_h2⟩:=aq F_h1.wf [.nilp,.nils];have Z:=F_h1.then F_h2;have o1:=F_h2.get o_h1;have b1:h.next<=h1.next:=F_h1.next;have c:i<0\/(0<=i/\(l.length:Int)<=i)\/(0<=i/\i<l.length/\¬(size<1\/2305843009213693952<size))\/(0<=i/\i<l.length/\(size<1\/2305843009213693952<size)):=oM;obtain c|c|c|c:=c
 case' inr.inr.inr=>
  refine ag ?_;simp only[evs,seval,<-e_h1,<-e_h2,o1.ld,eq_true c.1];refine aa (jJ Z.wf (a0.fr Z)) ?_;rintro _ h3 ⟨rfl,F3⟩;simp only[evs,seval,eq_true c.2.1];refine aa qR ?_;rintro _ _ ⟨rfl,hh⟩;subst hh;simp only[evs,seval,eq_true c.2.2];refine stu F3.wf (F3.get o_h2) ?_;rintro h4 ar az a4;simp only[evs,seval,ar.ld];have e:eU l i size=12:=by unfold eU;rw[if_pos ⟨c.1,c.2.1⟩,if_pos c.2.2]
  rw[e];exact⟨(Z.then F3).fresh az w b1,_,_,rfl,rfl,rfl,iS⟩
 case' inl=>
  refine ag ?_;simp only[evs,seval,<-e_h1,<-e_h2,o1.ld,(oM:¬0<=i)];obtain⟨h3,F3,e3⟩:∃h3,Fr [] h2 h3/\h3=h2:=⟨h2,Sn Z.wf,rfl⟩;rw[<-e3];have ee:=wu (l:=l) (i:=i) (size:=size) oM
 case' inr.inl=>
  refine ag ?_;simp only[evs,seval,<-e_h1,<-e_h2,o1.ld,eq_true c.1];refine aa (jJ Z.wf (a0.fr Z)) ?_;rintro _ h3 ⟨rfl,F3⟩;simp only[evs,seval,(oM:¬i<l.length),(F3.get o1).ld];have ee:=wu (l:=l) (i:=i) (size:=size) oM
 case' inr.inr.inl=>
  refine ag ?_;simp only[evs,seval,<-e_h1,<-e_h2,o1.ld,eq_true c.1];refine aa (jJ Z.wf (a0.fr Z)) ?_;rintro _ h3 ⟨rfl,F3⟩;simp only[evs,seval,eq_true c.2.1];apply aa qR;rintro _ _ ⟨rfl,hh⟩;subst hh;simp only[evs,seval,eq_false c.2.2,(F3.get o1).ld];have ee:=wu (l:=l) (i:=i) (size:=size) oM
 all_goals
  clear c;try simp only[evs,seval,DF,eff,(F3.get o1).ld]
  have a1:=Z.then F3;apply aa (I6 F3.wf (r.fr a1) s0 s1);rintro _ h4 ⟨F4,c4,rfl,ay,hr⟩;rw[ee];let⟨h5,e_h5,F_h5,o_h5⟩:=aq F4.wf [.nilp];simp only[evs,seval,<-e_h5];apply ai (c':=[c4]) F_h5.wf o_h5 rfl (by simp[au,V.cells,ay]) rfl;rintro h6 o6 F6 n6;have ak:Fr [] h4 h6:=F_h5.fresh F6 F4.wf (RW _);have a3:=(F4.then ak);have ac:=F3.then a3;by_cases z:lV l i size=0;have hi:0<=i/\i<l.length:=by unfold lV at z;by_cases hh:0<=i/\i<l.length;exact hh;rw[if_neg hh]at z;omega
  simp(disch:=omega) only[evs,seval,eff,ah,eq_true z,o6.ld,(ac.get o1).ld1];apply aa (pL (m:=ks.length) ak.wf (s.fr (Z.then ac)) an.ok oM an.le oM oM oM);rintro aH h7 ⟨F7,L',ov,sL,a2,iL,mL⟩;simp only[evs,eff];apply aa (qE F7.wf ay ov);rintro _ h8 ⟨F8,rfl⟩;rw[if_pos rfl];have af:=(ac.then F7).then F8;simp only[evs,seval,eff];apply stu F8.wf (af.get o_h2);rintro h9 ae K ax;simp only[evs,seval,DF,eff,ae.ld,o6.ld,(ac.get o1).ld1,(F7.get o6).ld];have rr:=(hr z);let⟨t',p',ep,at',et,ft⟩:=rr;cases ep;refine⟨(Z.then af).fresh K w b1,_,_,by rw[z],fw _,ov,fun _=>⟨p',aH,L',rfl,?_,?_,?_,?_,?_⟩⟩;exact(Rp.fr (l:=l.set i.toNat size) ⟨t',p',rfl,at',et,ft⟩ ((ak.then F7).then F8)).frb K (af.get o_h2) iS;exact(sL.fr F8).frb K (af.get o_h2) (yx iS);refine⟨a2,by simpa using mL,fun j=>?_⟩;rw[iL,Fm oM,an.eq];by_cases cj:j=i.toNat;rw[if_pos cj,if_pos oM];rw[if_neg cj,if_neg oM];simpa using e1;simpa using e2;simp only[evs,seval,eq_false z];apply stu ak.wf (ac.get o_h2);rintro h9 ae K ax;simp only[evs,seval,ae.ld];exact⟨(Z.then ac).fresh K w b1,_,_,rfl,rfl,rfl,by simp[]⟩
def wz(t:Int):List Int->Int
 |[]=>0
 |s::l=>if s<1\/2305843009213693952<s then 12 else if 4611686018427387904<t+s then 13 else wz (t+s) l
theorem zy:∀(a:List Int)(s t:Int),chk (a++[s]) t=if chk a t=0 then(if s<0∨2305843009213693952<s then 12 else if 4611686018427387904-(t+a.sum)<s then 13 else 0)else chk a t
 |[],s,t=>by simp[chk]
 |x::a,s,t=>by simp only[List.cons_append,chk];by_cases c1:x<0∨2305843009213693952<x;omega;simp only[if_neg c1];by_cases c2:4611686018427387904-t<x;omega;simp only[if_neg c2];rw[zy a s (t+x)];simp only[List.sum_cons,(oM:t+x+a.sum=t+(x+a.sum))];rfl
def bZ(l:List Int)(a:Int)(m:List Int):Int:=if 0<=a/\a<=l.length then if 1024-(l.length:Int)<m.length then 3 else if wz 0 m=0 then(if 4611686018427387904-m.sum<l.sum then 13 else 0)else wz 0 m else 4
theorem E7{a n:Nat}(ha:a<=ks.length)(j:Nat):
 (ks.take a++List.replicate n kn++ks.drop a).getD j false=if j<a then ks.getD j false else if j<a+n then kn else ks.getD (j-n) false:=by
 simp only[Tf];by_cases c1:j<a;grind;grind
theorem I1{h:Heap}{v u:V}{l m:List Int}{i:Int}(w:WF h)(a:Ix h v l ks)(am:pp h u m)(hm:m.length<=1000000)(i0:-9223372036854775808<=i)(i1:i<=9223372036854775807):
 ao go 223 [v,ZZ i,u,.bool kn] h fun z h'=>Fr [] h h'/\∃c d,z=.tup [.agg [c,d],ZZ (bZ l i m)]/\c.one=true/\d.one=true/\
  (bZ l i m=0->Ix h' (.agg [c,d]) (l.take i.toNat++m++l.drop i.toNat) (ks.take i.toNat++List.replicate m.length kn++ks.drop i.toNat)):=by
 have a0:=a;obtain⟨p,vk,L,rfl,r,s,a1,e1,e2⟩:=a;let⟨h1,e_h1,F_h1,o_h1⟩:=aq w [pv p,vk];let⟨h2,e_h2,F_h2,o_h2⟩:=aq F_h1.wf [.nilp,.nils];have Z:=F_h1.then F_h2;have o1:=F_h2.get o_h1;have b1:h.next<=h1.next:=F_h1.next;by_cases c0:i<0
 ·refine ag ?_;simp only[evs,seval,<-e_h1,<-e_h2,c0];refine stu F_h2.wf o_h2 ?_;rintro h4 ay ax a8;simp only[evs,seval,ay.ld];have e:bZ l i m=4:=by unfold bZ;rw[if_neg oM]
  rw[e];exact⟨Z.fresh ax w b1,_,_,rfl,rfl,rfl,iS⟩
 ·refine ag ?_;simp only[evs,seval,<-e_h1,<-e_h2,o1.ld,c0];refine aa (jJ Z.wf (a0.fr Z)) ?_;rintro _ h3 ⟨rfl,F3⟩;by_cases c1:(l.length:Int)<i
  ·simp only[evs,seval,c1];apply stu F3.wf (F3.get o_h2);rintro h4 ay ax a8;simp only[evs,seval,ay.ld];have e:bZ l i m=4:=by unfold bZ;rw[if_neg oM]
   rw[e];exact⟨(Z.then F3).fresh ax w b1,_,_,rfl,rfl,rfl,iS⟩
  ·have bm:=am.fr (Z.then F3);simp only[evs,seval,c1,bm.len,(F3.get o1).ld];apply aa (jJ F3.wf (a0.fr (Z.then F3)));rintro _ h4 ⟨rfl,F4⟩;have az:=F3.then F4;have an:=Z.then az;have ar:=am.fr an;have hi:0<=i/\i<=l.length:=oM
   by_cases c2:1024-(l.length:Int)<m.length
   ·simp(disch:=omega) only[evs,seval,ah,c2];apply stu F4.wf (az.get o_h2);rintro h5 ac K a3;simp only[evs,seval,ac.ld];have e:bZ l i m=3:=by unfold bZ;rw[if_pos hi,if_pos c2]
    rw[e];exact⟨an.fresh K w b1,_,_,rfl,rfl,rfl,iS⟩
   ·simp(disch:=omega) only[evs,seval,ah,c2,ar.len];have o2:=az.get o_h2;refine aC (fun k env hh=>hh=h4/\∃(j:Nat),env.get 36=some (ZZ j)/\env.get 34=some u/\env.get 35=some (ZZ m.length)/\env.get 2=some u/\env.get 1=some (ZZ i)/\env.get 3=some (.bool kn)/\
     env.get 4=some (.ptr h.next 0)/\env.get 8=some (.ptr h1.next 0)/\j<=m.length/\chk (m.take j) 0=0/\0<=(m.take j).sum/\(m.take j).sum<=4611686018427387904/\wz (m.take j).sum (m.drop j)=wz 0 m/\k=m.length-j) m.length oM ?_ ?_
    ·exact⟨rfl,0,iS,iS,iS,iS,iS,iS,iS,iS,oM,by simp[chk],iS,iS,iS,rfl⟩
    ·rintro k env hh ⟨rfl,j,a4,bt,a9,g2,g1,g3,g4,g8,hj,ck,sn,sm,se,rfl⟩;by_cases a5:(j:Int)<m.length
     ·let⟨bb,oo,x,q1,q2,q3⟩:=ar.ix .i64 j oM a5;simp only[RX]at q3;rw[aK q3,wz]at se;simp only[evs,seval,a4,bt,a9,a5,q1,q2];apply aa qR;rintro _ _ ⟨rfl,hh⟩;subst hh;by_cases c3:x<1\/2305843009213693952<x
      ·simp only[evs,seval,eq_true c3,g8];apply stu F4.wf o2;rintro h5 ac K a3;simp only[evs,seval,ac.ld,g8];rw[if_pos c3]at se;have e:bZ l i m=12:=by unfold bZ;rw[if_pos hi,if_neg c2,if_neg oM,<-se]
       rw[e];exact⟨an.fresh K w b1,_,_,rfl,rfl,rfl,iS⟩
      ·rw[if_neg c3]at se;have hv:u≠.sliceE:=Sl.ne ar oM;let⟨u',p1,p2⟩:=ar.upto hv .i64 ((j:Int)+1) oM oM;have tk:m.take (j+1)=m.take j++[x]:=by rw[Sr,q3];rfl
       rw[(oM:((j:Int)+1).toNat=j+1)]at p2;have cs:chk (m.take (j+1)) 0=if 4611686018427387904<(m.take j).sum+x then 13 else 0:=by
        rw[tk,zy,if_pos ck,if_neg oM];by_cases c4:4611686018427387904<(m.take j).sum+x
        ·omega
        ·omega
       simp(disch:=omega) only[evs,seval,ah,eq_false c3,g2,p1];apply aa (tQ F4.wf p2 oO);rintro _ _ ⟨rfl,hh⟩;subst hh;rw[if_neg oO,cs];by_cases c4:4611686018427387904<(m.take j).sum+x
       ·rw[if_pos c4]at se|-;simp only[evs,seval,g8,(oM:¬(13:Int)=0)];apply stu F4.wf o2;rintro h5 ac K a3;simp only[evs,seval,ac.ld,g8];have e:bZ l i m=13:=by unfold bZ;rw[if_pos hi,if_neg c2,if_neg oM,<-se]
        rw[e];exact⟨an.fresh K w b1,_,_,rfl,rfl,rfl,iS⟩
       ·rw[if_neg c4]at se|-;simp(disch:=omega) only[evs,seval,ah,a4];have ts:(m.take (j+1)).sum=(m.take j).sum+x:=by rw[tk];simp
        refine rqn ⟨m.length-(j+1),oM,rfl,j+1,iS,iX,iX,iX,iX,iX,iX,iX,oM,by rw[cs,if_neg c4],by rw[ts];omega,by rw[ts];omega,by rw[ts];exact se,rfl⟩
        done
     ·have ej:j=m.length:=oM
      subst ej;simp only[TZ,Ua,wz]at ck se sn sm;simp only[evs,seval,a4,a9,g2,g1,g4,a5,(az.get o1).ld];apply aa (Ja F4.wf (r.fr an) ar hm);rintro _ h5 ⟨F5,c5,rfl,a7,hr⟩;have ei:tV l i m=bZ l i m:=by
       unfold tV bZ ofE jM;rw[if_pos hi,if_pos hi,if_neg (oM:¬4096<m.length),if_pos ck,if_neg (oM:¬4096<l.length+m.length),if_neg c2,if_pos se.symm]
      rw[ei]at hr|-;let⟨h6,e_h6,F_h6,o_h6⟩:=aq F5.wf [.nilp];simp only[evs,seval,<-e_h6];apply ai (c':=[c5]) F_h6.wf o_h6 rfl (by simp[au,V.cells,a7]) rfl;rintro h7 o7 F7 n7;have a2:Fr [] h5 h7:=F_h6.fresh F7 F5.wf (RW _);have ak:=(az.then F5).then a2;by_cases z:bZ l i m=0
      ·simp only[evs,seval,eq_true z,g2,g1,g4,(ak.get o1).ld1,am.len];apply aa (Ck (m:=ks.length) a2.wf (s.fr (Z.then ak)).slc a1.ok oM a1.le oM oM oM oM);rintro _ h8 ⟨F8,bw,L1,rfl,bA,bn,bo,bp,bj⟩;simp(disch:=omega) only[evs,seval,eff,ah,g2,g1,g3,(F8.get o7).ld,am.len];apply aa (pL (m:=ks.length+m.length) F8.wf bn bo oM bj oM oM oM);rintro bh h9 ⟨F9,L2,ba,bi,bg,br,bB⟩;simp only[evs,seval,eff];apply aa (qE F9.wf a7 ba);rintro _ bC ⟨aH,rfl⟩;rw[if_pos rfl];have af:=((ak.then F8).then F9).then aH;simp only[evs,seval,eff,g8];apply stu aH.wf (af.get o_h2);rintro bz a6 ae bk;simp only[evs,seval,DF,eff,a6.ld,g8,(F8.get o7).ld,((F8.then F9).get o7).ld];let⟨t',p',ep,at',et,ft⟩:=hr z;cases ep;refine⟨(Z.then af).fresh ae w b1,_,_,by rw[z],fw _,ba,fun _=>⟨p',bh,L2,rfl,?_,?_,?_,?_,?_⟩⟩
       ·exact(Rp.fr (l:=l.take i.toNat++m++l.drop i.toNat) ⟨t',p',rfl,at',et,ft⟩ (((a2.then F8).then F9).then aH)).frb ae (af.get o_h2) iS
       ·exact(bi.fr aH).frb ae (af.get o_h2) (yx iS)
       ·refine⟨bg,?_,fun j=>?_⟩
        ·grind
        ·rw[br,bp,E7 oM];unfold shf;by_cases d1:j<i.toNat
         ·rw[if_neg oM,if_pos oM,if_pos d1,a1.eq]
         ·by_cases d2:j<i.toNat+m.length
          ·grind
          ·rw[if_neg oM,if_neg oM,if_neg oM,if_neg d1,if_neg d2,<-a1.eq];congr 1;omega
       ·simp;omega
       ·simp;omega
      ·simp only[evs,seval,eq_false z,g8];apply stu a2.wf (ak.get o_h2);rintro h9 bc bf bv;simp only[evs,seval,bc.ld,g8];exact⟨(Z.then ak).fresh bf w b1,_,_,rfl,rfl,rfl,by simp[]⟩
end Go.Ev.Lay
