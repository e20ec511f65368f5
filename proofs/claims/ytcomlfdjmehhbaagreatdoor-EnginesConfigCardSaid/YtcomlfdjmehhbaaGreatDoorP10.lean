/- An evaluator of the program, and contracts over it: MsN to MsN. -/
import Derived.Test.YtcomlfdjmehhbaaGreatDoorP09
set_option linter.unusedSimpArgs false
set_option linter.unusedVariables false
set_option linter.constructorNameAsVariable false
set_option linter.unnecessarySimpa false
open Go.RowKit
namespace Go.Ev
def Has(m:M)(p:Nat)(Ms:List (Option Loc)):Prop:=∀(i:Nat) loc,Ms[i]? =some (some loc)→m (p+i)=some loc
def HasR(h:Heap)(p:Nat)(Cs:List (List V)):Prop:=∀(i:Nat) c,Cs[i]? =some c→Rs h (p+i) c
theorem Has.left{m:M}{p:Nat}{A B:List (Option Loc)}(a:Has m p (A++B)):Has m p A:=fun i loc h=>a i loc (by rw[List.getElem?_append_left (List.getElem?_eq_some_iff.1 h).1];exact h)
theorem Has.right{m:M}{p:Nat}{A B:List (Option Loc)}(a:Has m p (A++B)):Has m (p+A.length) B:=fun i loc h=>by
  have:=a (A.length+i) loc (by rw[List.getElem?_append_right (by omega),show A.length+i-A.length=i by omega];exact h);rwa[←Nat.add_assoc]at this
theorem HasR.left{h:Heap}{p:Nat}{A B:List (List V)}(a:HasR h p (A++B)):HasR h p A:=fun i c e=>a i c (by rw[List.getElem?_append_left (List.getElem?_eq_some_iff.1 e).1];exact e)
theorem HasR.right{h:Heap}{p:Nat}{A B:List (List V)}(a:HasR h p (A++B)):HasR h (p+A.length) B:=fun i c e=>by
  have:=a (A.length+i) c (by rw[List.getElem?_append_right (by omega),show A.length+i-A.length=i by omega];exact e);rwa[←Nat.add_assoc]at this
theorem HasR.tail{h:Heap}{p:Nat}{c:List V}{B:List (List V)}(a:HasR h p (c::B)):HasR h (p+1) B:=HasR.right (A:=[c]) a
theorem Has.tail{m:M}{p:Nat}{l:Option Loc}{B:List (Option Loc)}(a:Has m p (l::B)):Has m (p+1) B:=Has.right (A:=[l]) a
/-- an array of the world that a block stands for -/
def zg(W:World)(m:M)(loc:Loc)(c:List V):Prop:=loc.lp=none∧c.length=loc.room∧∃C ty fz,W.heap[loc.block]? =some (.cells C ty fz)∧loc.base+loc.room≤C.size∧
  (∀(i:Nat) v,c[i]? =some v→∃x,C[loc.base+i]? =some x∧VRel m v x)∧∀i:Nat,i<loc.room→¬(fz.1≤loc.base+i∧loc.base+i<fz.2)
/-- it stands for one value alone -/
def VEx(v:V):Prop:=∀(m:M) x x',VRel m v x→VRel m v x'→x=x'
theorem VEx.int(k:IntKind)(n:Int):VEx (.int k n):=fun m x x' h h'=>by simp only[VRel]at h h';rw[h,h']
theorem VEx.str(s:List UInt8):VEx (.str s):=fun m x x' h h'=>by simp only[VRel]at h h';rw[h,h']
theorem VEx.nils:VEx .nils:=fun m x x' h h'=>by simp only[VRel]at h h';rw[h,h']
theorem VEx.sliceZ(a:Addr)(c:Nat):VEx (.sliceZ a c):=fun m x x' h h'=>by simp only[VRel]at h h';rw[h,h']
theorem VEx.slice(b o l c:Nat):VEx (.slice b o l c):=fun m x x' h h'=>by
  simp only[VRel]at h h';obtain⟨p,e,_,r⟩:=h;obtain⟨p',e',_,r'⟩:=h';rw[e]at e';cases e';rw[r,r']
theorem VsRel.app{m:M}:∀{a b:List V}{x y:List Value},VsRel m a x→VsRel m b y→VsRel m (a++b) (x++y)
  |[],_,x,_,h,g=>by have:x=[]:=h;subst this;exact g
  |v::vs,_,_,_,h,g=>by
    obtain⟨v',vs',rfl,h1,h2⟩:=h;exact⟨v',vs'++_,rfl,h1,h2.app g⟩
theorem VsRel.at{m:M}:∀{a:List V}{x:List Value},VsRel m a x→∀(i:Nat) v,a[i]? =some v→∃u,x[i]? =some u∧VRel m v u
  |[],_,_,i,v,e=>by simp at e
  |v::vs,_,h,i,u,e=>by
    obtain⟨v',vs',rfl,h1,h2⟩:=h;cases i with
    |zero=>simp at e;subst e;exact⟨v',rfl,h1⟩
    |succ i=>exact h2.at i u (by simpa using e)
/-- values of the world, told by evaluator values, and by blocks from p on -/
structure Tell(W:World)(p:Nat)(vs:List V)(xs:List Value)(Ms:List (Option Loc))(Cs:List (List V)):Prop where
  l:Ms.length=Cs.length
  v:∀m,Has m p Ms→VsRel m vs xs
  a:∀m,Has m p Ms→∀(i:Nat) loc c,Ms[i]? =some (some loc)→Cs[i]? =some c→zg W m loc c
  e:∀c∈Cs,∀u∈c,VEx u
  x:∀u∈vs,VEx u
section
variable {W : World} {p : Nat} {vs vs' : List V} {xs xs' : List Value} {Ms Ms' : List (Option Loc)} {Cs Cs' : List (List V)}
theorem Tell.app(s:Tell W p vs xs Ms Cs)(t:Tell W (p+Ms.length) vs' xs' Ms' Cs'):Tell W p (vs++vs') (xs++xs') (Ms++Ms') (Cs++Cs'):=by
  refine⟨by simp[s.l,t.l],fun m hm=>(s.v m hm.left).app (t.v m hm.right),fun m hm i loc c h1 h2=>?_,fun c hc=>?_,fun u hu=>?_⟩
  ·by_cases hi:i<Ms.length
   ·rw[List.getElem?_append_left hi]at h1;rw[List.getElem?_append_left (by rw[←s.l];exact hi)]at h2;exact s.a m hm.left i loc c h1 h2
   ·rw[List.getElem?_append_right (by omega)]at h1;rw[List.getElem?_append_right (by rw[←s.l];omega),←s.l]at h2;exact t.a m hm.right _ loc c h1 h2
  ·exact(List.mem_append.1 hc).elim (s.e c) (t.e c)
  ·exact(List.mem_append.1 hu).elim (s.x u) (t.x u)
theorem Tell.flat(h:∀m,VsRel m vs xs)(x:∀u∈vs,VEx u):Tell W p vs xs [] []:=⟨rfl,fun m _=>h m,fun m _ i loc c e=>by simp at e,by simp,x⟩
theorem Tell.arr{b off n k cap:Nat}{C:Array Value}{ty:TypeId}{fz:Nat×Nat}(hC:W.heap[b]? =some (.cells C ty fz))(hsz:off+n*k≤C.size)(hfz:∀i:Nat,i<n*k→¬(fz.1≤off+i∧off+i<fz.2))
    (hx:∀(i:Nat) x,xs[i]? =some x→C[off+i]? =some x) (lx:vs.length=n*k) (hcap:n≤cap) (t:Tell W (p+1) vs xs Ms Cs):
    Tell W p [.slice p 0 n cap] [.slice (some ⟨b,off,none⟩) n cap] (some ⟨b,off,n*k,none⟩::Ms) (vs::Cs):=by
  refine⟨by simp[t.l],fun m hm=>⟨_,[],rfl,⟨_,hm 0 _ rfl,hcap,by simp⟩,rfl⟩,fun m hm i loc c h1 h2=>?_,fun c hc=>?_,fun u hu=>?_⟩
  ·cases i with
   |zero=>
     simp at h1 h2;subst h1 h2;refine⟨rfl,lx,C,ty,fz,hC,hsz,fun i v hv=>?_,hfz⟩;obtain⟨u,e,r⟩:=(t.v m hm.tail).at i v hv;exact⟨u,hx i u e,r⟩
   |succ i=>exact t.a m hm.tail i loc c (by simpa using h1) (by simpa using h2)
  ·rcases List.mem_cons.1 hc with rfl|hc
   ·exact t.x
   ·exact t.e c hc
  ·have:u=_:=List.mem_singleton.1 hu;subst this;exact VEx.slice _ _ _ _
end
theorem tell_list{W:World}{α:Type}{f:α→List V}{Φ:Heap→α→Prop}{Q:α→Prop}:∀(ys:List (List Value))(p:Nat),(∀y∈ys,∀p,∃a Ms Cs,Tell W p (f a) y Ms Cs∧(∀h,HasR h p Cs→Φ h a)∧Q a)→
    ∃(L:List α)(Ms:List (Option Loc))(Cs:List (List V)),L.length=ys.length∧Tell W p (L.flatMap f) ys.flatten Ms Cs∧(∀h,HasR h p Cs→∀a∈L,Φ h a)∧∀a∈L,Q a
  |[],p,_=>⟨[],[],[],rfl,Tell.flat (fun _=>rfl) (by simp),by simp,by simp⟩
  |y::ys,p,hy=>by
    obtain⟨a,Ms,Cs,t,ph,q⟩:=hy y (by simp) p;obtain⟨L,Ms',Cs',ll,t',ph',q'⟩:=tell_list ys (p+Ms.length) fun y m=>hy y (by simp[m]);refine⟨a::L,Ms++Ms',Cs++Cs',by simp[ll],t.app t',fun h hr x hx=>?_,fun x hx=>?_⟩
    ·rcases List.mem_cons.1 hx with rfl|hx
     ·exact ph h hr.left
     ·exact ph' h (by rw[t.l];exact hr.right) x hx
    ·rcases List.mem_cons.1 hx with rfl|hx
     ·exact q
     ·exact q' x hx
theorem zq{W:World}{Ms:List (Option Loc)}{Cs:List (List V)}(hl:Ms.length=Cs.length)(he:∀(i:Nat) loc c,Ms[i]? =some (some loc)→Cs[i]? =some c→zg W (mS Ms) loc c):HRel (mS Ms) (hS Cs) W:=by
  have cget:∀(i:Nat) loc,Ms[i]? =some (some loc)→∃c,Cs[i]? =some c:=fun i loc h=>by
    have:=(List.getElem?_eq_some_iff.1 h).1;exact⟨_,List.getElem?_eq_getElem (by omega)⟩
  refine⟨⟨?_,wQ⟩,?_,?_,?_⟩
  ·intro p c f k hp;by_cases q2:2≤p∧p<2+Cs.length
   ·have hc:Cs[p-2]? =some (Cs[p-2]'(by omega)):=List.getElem?_eq_getElem (by omega);have:=nI hc;rw[show 2+(p-2)=p by omega,hp]at this;cases this;rw[tJ];exact Nat.le_refl _
   ·rw[pJ (by omega)]at hp;cases hp
  ·intro p loc hp;obtain⟨i,rfl,h⟩:=eX hp;obtain⟨c,hc⟩:=cget i loc h;obtain⟨_,hcl,C,ty,fz,h1,h2,h3,h4⟩:=he i loc c h hc;exact⟨_,nI hc,fun _=>⟨C,ty,fz,h1,h2,by omega,h3,h4⟩⟩
  ·intro p loc hp;obtain⟨i,rfl,h⟩:=eX hp;obtain⟨c,hc⟩:=cget i loc h;obtain⟨_,_,C,ty,fz,h1,_⟩:=he i loc c h hc;exact(Array.getElem?_eq_some_iff.1 h1).1
  ·intro p q lp lq hp hq hbl hne;obtain⟨i,rfl,h⟩:=eX hp;obtain⟨j,rfl,h'⟩:=eX hq;obtain⟨c,hc⟩:=cget i lp h;obtain⟨c',hc'⟩:=cget j lq h';refine⟨c,c',1,0,0,nI hc,nI hc',fun e hf=>?_⟩;rw[tJ]at hf;simp only[Option.some.injEq,Prod.mk.injEq]at hf;omega
/-- nothing that was there has changed -/
theorem uz{m m':M}{h h':Heap}{w w':World}(H:HRel m h w)(H':HRel m' h' w')(E:Ext m h w m' h' w')
    (flat:∀p loc,m p=some loc→∃c,Rdb h p c∧Rdb h' p c∧c.length=loc.room∧∀v∈c,VEx v):Below w.heap.size w w':=by
  refine⟨E.os,E.tape,E.output,E.size,fun b hb=>?_⟩;by_cases cc:∃p loc,m p=some loc∧loc.block=b
  ·obtain⟨p,loc,hp,rfl⟩:=cc;obtain⟨cs,o,o',len,ints⟩:=flat p loc hp;obtain⟨C,el,fz,hC,hsz,hcell⟩:=H.cellsR hp o;obtain⟨x',hx',k⟩:=E.out loc.block hb _ hC;cases x' with
   |cells C' el' fz'=>
     obtain⟨rfl,rfl,ksz,kout⟩:=k;rw[hx',hC];have:C'=C:=by
       apply Array.ext_getElem?;intro j;by_cases cv:Cov m loc.block j
       ·obtain⟨q,lq,hq,hbq,j1,j2⟩:=cv;obtain⟨cq,oq,oq',lenq,intq⟩:=flat q lq hq;obtain⟨C1,el1,fz1,hC1,_,hc1⟩:=H.cellsR hq oq;obtain⟨C2,el2,fz2,hC2,_,hc2⟩:=H'.cellsR (E.le _ _ hq) oq';rw[hbq]at hC1 hC2;rw[hC]at hC1;cases hC1;rw[hx']at hC2;cases hC2;have hlt:j-lq.base<cq.length:=by omega
        have ex:=intq cq[j-lq.base] (List.getElem_mem hlt);have ec:cq[j-lq.base]? =some cq[j-lq.base]:=List.getElem?_eq_getElem hlt;obtain⟨x1,e1,r1⟩:=hc1 (j-lq.base) _ ec;obtain⟨x2,e2,r2⟩:=hc2 (j-lq.base) _ ec;rw[show lq.base+(j-lq.base)=j by omega]at e1 e2;rw[e1,e2,ex m' x1 x2 (VRel.mono E.le _ _ r1) r2]
       ·exact kout j cv
     rw[this]
   |_=>simp at k
  ·exact E.keep b (fun p loc hp e=>cc ⟨p,loc,hp,e⟩) hb
end Go.Ev
