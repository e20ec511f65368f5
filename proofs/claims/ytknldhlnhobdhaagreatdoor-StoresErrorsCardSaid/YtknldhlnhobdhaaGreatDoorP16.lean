/- An evaluator of the program, and contracts over it: ErSy to ErSy. -/
import Derived.Below
import Derived.Test.YtknldhlnhobdhaaGreatDoorP13
import Derived.Test.YtknldhlnhobdhaaGreatDoorP15
set_option linter.unusedSimpArgs false
set_option linter.unusedVariables false
set_option linter.constructorNameAsVariable false
set_option linter.unnecessarySimpa false
open Go.RowKit
namespace Go.Ev
theorem Rdb.rd{h:Heap}{b:Nat}{c:List V}(o:Rdb h b c):∃f k,h.bl.get b=some (.row c f k)∧rd h b f k=true:=by
  rcases o with⟨f,k,e,x⟩|⟨f,k,ow,e1,e2,_⟩
  ·exact⟨f,k,e,lT (by rcases x with⟨a,_⟩|a;exact .inl a;exact .inr a)⟩
  ·refine⟨f,k,e1,?_⟩;unfold Ev.rd;rw[e2];simp
theorem HRel.cellsR{m:M}{h:Heap}{w:World}(H:HRel m h w){p:Nat}{loc:Loc}{c:List V}(hm:m p=some loc)(o:Rdb h p c):
    ∃C el fz,w.heap[loc.block]? =some (.cells C el fz)∧loc.base+loc.room≤C.size∧∀(i:Nat) v,c[i]? =some v→∃x,C[loc.base+i]? =some x∧VRel m v x:=by
  obtain⟨f,k,e,r⟩:=o.rd;obtain⟨b,hb,rel⟩:=H.blk p loc hm;rw[e]at hb;cases hb;obtain⟨C,el,fz,a1,a2,_,a4,_⟩:=rel r;exact⟨C,el,fz,a1,a2,a4⟩
/-- nothing that was there has changed -/
theorem yZ{m m':M}{h h':Heap}{w w':World}(H:HRel m h w)(H':HRel m' h' w')(E:Ext m h w m' h' w')
    (flat:∀p loc,m p=some loc→∃c,Rdb h p c∧Rdb h' p c∧c.length=loc.room∧∀v∈c,∃k n,v=V.int k n):Below w.heap.size w w':=by
  refine⟨E.os,E.tape,E.output,E.size,fun b hb=>?_⟩;by_cases cc:∃p loc,m p=some loc∧loc.block=b
  ·obtain⟨p,loc,hp,rfl⟩:=cc;obtain⟨cs,o,o',len,ints⟩:=flat p loc hp;obtain⟨C,el,fz,hC,hsz,hcell⟩:=H.cellsR hp o;obtain⟨x',hx',k⟩:=E.out loc.block hb _ hC;cases x' with
   |cells C' el' fz'=>
     obtain⟨rfl,rfl,ksz,kout⟩:=k;rw[hx',hC];have:C'=C:=by
       apply Array.ext_getElem?;intro j;by_cases cv:Cov m loc.block j
       ·obtain⟨q,lq,hq,hbq,j1,j2⟩:=cv;obtain⟨cq,oq,oq',lenq,intq⟩:=flat q lq hq;obtain⟨C1,el1,fz1,hC1,_,hc1⟩:=H.cellsR hq oq;obtain⟨C2,el2,fz2,hC2,_,hc2⟩:=H'.cellsR (E.le _ _ hq) oq';rw[hbq]at hC1 hC2;rw[hC]at hC1;cases hC1;rw[hx']at hC2;cases hC2;have hlt:j-lq.base<cq.length:=by omega
        obtain⟨k,n,en⟩:=intq cq[j-lq.base] (List.getElem_mem hlt);have ec:cq[j-lq.base]? =some (.int k n):=by rw[←en];exact List.getElem?_eq_getElem hlt
        obtain⟨x1,e1,r1⟩:=hc1 (j-lq.base) _ ec;obtain⟨x2,e2,r2⟩:=hc2 (j-lq.base) _ ec;simp only[VRel]at r1 r2;rw[show lq.base+(j-lq.base)=j by omega]at e1 e2;rw[e1,e2,r1,r2]
       ·exact kout j cv
     rw[this]
   |_=>simp at k
  ·exact E.keep b (fun p loc hp e=>cc ⟨p,loc,hp,e⟩) hb
/-- blocks, one after another, in a family that nobody may write -/
noncomputable def put(t:T Blk):List (List V)→Nat→T Blk
  |[],_=>t
  |c::cs,i=>put (t.set i (.row c 1 0)) cs (i+1)
theorem lV:∀(cs:List (List V))(i:Nat)(t:T Blk)(p:Nat),(put t cs i).get p=if i≤p∧p<i+cs.length then(cs[p-i]?).map (fun c=>.row c 1 0)else t.get p
  |[],i,t,p=>by rw[if_neg (by simp)];rfl
  |c::cs,i,t,p=>by
    show(put (t.set i (.row c 1 0)) cs (i+1)).get p=_;rw[lV cs (i+1),T.get_set];simp only[List.length_cons];by_cases q:p=i
    ·subst q;rw[if_neg (by omega),if_pos rfl,if_pos (by omega)];simp
    ·rw[if_neg q];by_cases r:i+1≤p∧p<i+1+cs.length
     ·rw[if_pos r,if_pos (by omega),show p-i=(p-(i+1))+1 by omega];simp
     ·rw[if_neg r,if_neg (by omega)]
namespace Lay
/-- the package's variable -/
def Tab(W:World):Prop:=∃C t,W.heap[0]? =some (.cells C t (0,0))∧C.size=64∧∀(i:Nat) n,jw[i]? =some n→C[i]? =some (.int .u8 (n:Int))
theorem vP{i:Nat}{v:V}(h:fm[i]? =some v):∃n,jw[i]? =some n∧v=.int .u8 (n:Int):=by
  unfold fm at h;rw[List.getElem?_map]at h;cases e:jw[i]? with
  |none=>rw[e]at h;cases h
  |some n=>rw[e]at h;cases h;exact⟨n,rfl,rfl⟩
theorem Gr:∀v∈fm,∃n,v=V.int .u8 n:=by
  intro v hv;obtain⟨i,hi⟩:=List.getElem?_of_mem hv;obtain⟨n,_,e⟩:=vP hi;exact⟨_,e⟩
theorem pJ:fm.length=64:=by unfold fm;rw[List.length_map];rfl
noncomputable def hS(Cs:List (List V)):Heap:=⟨put ((T.e:T Blk).set 0 (.row fm 0 0)) Cs 2,2+Cs.length,(T.e:T (Nat×Nat)).set 1 (1,0)⟩
def mS(Ms:List (Option Loc)):M:=fun p=>if p=0 then some ⟨0,0,64,none⟩else if 2≤p then(Ms[p-2]?).join else none
section
variable {Cs : List (List V)} {Ms : List (Option Loc)}
theorem wH{i:Nat}{c:List V}(h:Cs[i]? =some c):(hS Cs).bl.get (2+i)=some (.row c 1 0):=by
  have hi:=(List.getElem?_eq_some_iff.1 h).1;show(put _ Cs 2).get (2+i)=_;rw[lV,if_pos (by omega),show 2+i-2=i by omega,h];rfl
theorem Jx:(hS Cs).bl.get 0=some (.row fm 0 0):=by
  show(put _ Cs 2).get 0=_;rw[lV,if_neg (by omega),T.get_set_self]
theorem KD:(hS Cs).bl.get 1=none:=by
  show(put _ Cs 2).get 1=_;rw[lV,if_neg (by omega),T.get_set_ne _ _ (by omega)];rfl
theorem DU{p:Nat}(h:2+Cs.length≤p):(hS Cs).bl.get p=none:=by
  show(put _ Cs 2).get p=_;rw[lV,if_neg (by omega),T.get_set_ne _ _ (by omega)];rfl
theorem DV:(hS Cs).fams.get 1=some (1,0):=by show((T.e:T (Nat×Nat)).set 1 (1,0)).get 1=_;exact T.get_set_self _ _ _
theorem Jw{p:Nat}(h:p≠1):(hS Cs).fams.get p=none:=by show((T.e:T (Nat×Nat)).set 1 (1,0)).get p=none;rw[T.get_set_ne _ _ h];rfl
theorem IF:WF (hS Cs):=fun p hp=>⟨DU hp,Jw (by have:2+Cs.length≤p:=hp;omega)⟩
theorem yI:Glb (hS Cs):=⟨⟨0,Jx⟩,Jw (by omega)⟩
theorem DT{i:Nat}{c:List V}(h:Cs[i]? =some c):Rs (hS Cs) (2+i) c:=⟨1,0,1,wH h,DV,KD,by show 1<2+Cs.length;omega⟩
theorem j8{p:Nat}{loc:Loc}(h:mS Ms p=some loc):(p=0∧loc=⟨0,0,64,none⟩)∨∃i,p=2+i∧Ms[i]? =some (some loc):=by
  unfold mS at h;by_cases c:p=0
  ·rw[if_pos c]at h;cases h;exact .inl ⟨c,rfl⟩
  ·rw[if_neg c]at h;by_cases d:2≤p
   ·rw[if_pos d]at h;refine .inr ⟨p-2,by omega,?_⟩;cases e:Ms[p-2]? with
    |none=>rw[e]at h;cases h
    |some o=>rw[e]at h;cases o with
      |none=>cases h
      |some l=>cases h;rfl
   ·rw[if_neg d]at h;cases h
theorem Ki{i:Nat}{loc:Loc}(h:Ms[i]? =some (some loc)):mS Ms (2+i)=some loc:=by
  unfold mS;rw[if_neg (by omega),if_pos (by omega),show 2+i-2=i by omega,h];rfl
/-- an array of the world that a block stands for -/
def J7(W:World)(loc:Loc)(c:List V):Prop:=loc.block≠0∧loc.lp=none∧c.length=loc.room∧(∃C ty fz,W.heap[loc.block]? =some (.cells C ty fz)∧loc.base+loc.room≤C.size∧
  (∀(i:Nat) v,c[i]? =some v→∃k n,v=.int k n∧C[loc.base+i]? =some (.int k n))∧∀i:Nat,i<loc.room→¬(fz.1≤loc.base+i∧loc.base+i<fz.2))
theorem Ln{W:World}(t:Tab W)(hl:Ms.length=Cs.length)(he:∀(i:Nat) loc c,Ms[i]? =some (some loc)→Cs[i]? =some c→J7 W loc c):HRel (mS Ms) (hS Cs) W:=by
  have cget:∀(i:Nat) loc,Ms[i]? =some (some loc)→∃c,Cs[i]? =some c:=fun i loc h=>by
    have:=(List.getElem?_eq_some_iff.1 h).1;exact⟨_,List.getElem?_eq_getElem (by omega)⟩
  refine⟨⟨?_,IF⟩,?_,?_,?_⟩
  ·intro p c f k hp;by_cases q:p=0
   ·subst q;rw[Jx]at hp;cases hp;rw[Jw (by omega)]
   ·by_cases q1:p=1
    ·subst q1;rw[KD]at hp;cases hp
    ·by_cases q2:p<2+Cs.length
     ·have hc:Cs[p-2]? =some (Cs[p-2]'(by omega)):=List.getElem?_eq_getElem (by omega);have:=wH hc;rw[show 2+(p-2)=p by omega,hp]at this;cases this;rw[DV];exact Nat.le_refl _
     ·rw[DU (by omega)]at hp;cases hp
  ·intro p loc hp;rcases j8 hp with⟨rfl,rfl⟩|⟨i,rfl,h⟩
   ·obtain⟨C',ty',hC',hs',hc'⟩:=t;refine⟨_,Jx,fun _=>⟨C',ty',(0,0),hC',by simp[hs'],by rw[pJ];exact Nat.le_refl _,fun i v hi=>?_,fun i _=>by simp⟩⟩;obtain⟨n,hn,rfl⟩:=vP hi;exact⟨_,by simpa using hc' i n hn,rfl⟩
   ·obtain⟨c,hc⟩:=cget i loc h;obtain⟨_,_,hcl,C,ty,fz,h1,h2,h3,h4⟩:=he i loc c h hc;exact⟨_,wH hc,fun _=>⟨C,ty,fz,h1,h2,by omega,fun j v hv=>by obtain⟨k,n,rfl,e⟩:=h3 j v hv;exact⟨_,e,rfl⟩,h4⟩⟩
  ·intro p loc hp;rcases j8 hp with⟨rfl,rfl⟩|⟨i,rfl,h⟩
   ·obtain⟨C',ty',hC',_⟩:=t;exact(Array.getElem?_eq_some_iff.1 hC').1
   ·obtain⟨c,hc⟩:=cget i loc h;obtain⟨_,_,_,C,ty,fz,h1,_⟩:=he i loc c h hc;exact(Array.getElem?_eq_some_iff.1 h1).1
  ·intro p q lp lq hp hq hbl hne;rcases j8 hp with⟨rfl,rfl⟩|⟨i,rfl,h⟩<;>rcases j8 hq with⟨rfl,rfl⟩|⟨j,rfl,h'⟩
   ·exact absurd rfl hne
   ·obtain⟨c,hc⟩:=cget j lq h';exact absurd hbl.symm (he j lq c h' hc).1
   ·obtain⟨c,hc⟩:=cget i lp h;exact absurd hbl (he i lp c h hc).1
   ·obtain⟨c,hc⟩:=cget i lp h;obtain⟨c',hc'⟩:=cget j lq h';refine⟨c,c',1,0,0,wH hc,wH hc',fun e hf=>?_⟩;rw[DV]at hf;simp only[Option.some.injEq,Prod.mk.injEq]at hf;omega
theorem KE(he:∀(i:Nat) loc c,Ms[i]? =some (some loc)→Cs[i]? =some c→loc.lp=none)(hl:Ms.length=Cs.length):Glob KP 1 (mS Ms):=by
  refine⟨fun g hg=>?_,fun p loc g hp hlp=>?_⟩
  ·obtain rfl:g=0:=by omega
   exact⟨64,rfl⟩
  ·rcases j8 hp with⟨rfl,rfl⟩|⟨i,rfl,h⟩
   ·cases hlp
   ·have hi:=(List.getElem?_eq_some_iff.1 h).1;rw[he i loc _ h (List.getElem?_eq_getElem (by omega))]at hlp;cases hlp
end
abbrev mY:=IntKind×Int
def cV(c:mY):V:=.int c.1 c.2
def cX(c:mY):Value:=.int c.1 c.2
theorem flat_len'{α β:Type}{g:α→List β}{k:Nat}(gl:∀a,(g a).length=k):∀L:List α,(L.flatMap g).length=L.length*k
  |[]=>by simp
  |x::L=>by simp[List.flatMap_cons,flat_len' gl L,gl,Nat.succ_mul,Nat.add_comm]
/-- a slice of n elements of k numbers that came in -/
def rK(W:World)(x:Value)(k n:Nat)(cs:List mY):Prop:=cs.length=n*k∧
  ((x=.slice none 0 0∧n=0)∨(∃a cap,x=.slice (some a) 0 cap∧n=0)∨
  ∃b off cap C t fz,x=.slice (some ⟨b,off,none⟩) n cap∧n≤cap∧0<n∧W.heap[b]? =some (.cells C t fz)∧off+n*k≤C.size∧
    (∀i:Nat,i<n*k→¬(fz.1≤off+i∧off+i<fz.2))∧∀(i:Nat) c,cs[i]? =some c→C[off+i]? =some (cX c))
/-- how it is told to the evaluator, by block p -/
theorem pick{W:World}{x:Value}{k n:Nat}{cs:List mY}(t:Tab W)(cm:rK W x k n cs)(p:Nat):∃(v:V)(ml:Option Loc)(c:List V),
    (∀m:M,(∀loc,ml=some loc→m p=some loc)→m 0=some ⟨0,0,64,none⟩→VRel m v x)∧(∀loc,ml=some loc→J7 W loc c)∧(∀h,Glb h→(ml≠none→Rs h p c)→ASl h k v n (cs.map cV))∧v.one=true∧∀u∈c,∃k n,u=V.int k n:=by
  obtain⟨fl,cm⟩:=cm;have fl':(cs.map cV).length=n*k:=by simpa using fl
  rcases cm with⟨rfl,rfl⟩|⟨a,cap,rfl,rfl⟩|⟨b,off,cap,C,ty,fz,rfl,hcap,hpos,hC,hsz,hfz,hcell⟩
  ·exact⟨.nils,none,[],fun m _ _=>rfl,(fun loc h=>by cases h),fun h _ _=>⟨fl',rfl⟩,rfl,by simp⟩
  ·exact⟨.sliceZ a cap,none,[],fun m _ _=>rfl,(fun loc h=>by cases h),fun h _ _=>⟨fl',rfl⟩,rfl,by simp⟩
  by_cases hb:b=0
  ·subst hb;obtain⟨C',ty',hC',hs',hc'⟩:=t;rw[hC]at hC';cases hC';have hin:off+n*k≤64:=by omega
   refine⟨.slice 0 off n cap,none,[],fun m _ h0=>⟨_,h0,hcap,by simp⟩,(fun loc h=>by cases h),fun h gl _=>⟨fl',rfl,hcap,fm,.inl gl.own,by rw[pJ];exact hin,?_⟩,rfl,by simp⟩;apply List.ext_getElem?;intro i;rw[List.getElem?_take];by_cases c:i<n*k
   ·rw[if_pos c,List.getElem?_drop];have hcs:cs[i]? =some (cs[i]'(by omega)):=List.getElem?_eq_getElem _;have hx:=hcell i _ hcs;have ht:jw[off+i]? =some (jw[off+i]'(by show off+i<64;omega)):=List.getElem?_eq_getElem _;have h2:=hc' _ _ ht;rw[hx]at h2;have e2:fm[off+i]? =some (cV (cs[i]'(by omega))):=by
      unfold fm;rw[List.getElem?_map,ht];simp only[cX,Option.some.injEq,Value.int.injEq]at h2;simp only[Option.map_some,cV,h2.1,h2.2]
    rw[e2,List.getElem?_map,hcs];rfl
   ·rw[if_neg c,List.getElem?_eq_none (by omega)]
  ·have ci:∀(i:Nat) v,(cs.map cV)[i]? =some v→∃k n,v=.int k n∧C[off+i]? =some (.int k n):=by
     intro i v hv;rw[List.getElem?_map]at hv;cases e:cs[i]? with
     |none=>rw[e]at hv;cases hv
     |some c=>rw[e]at hv;cases hv;exact⟨_,_,rfl,hcell i c e⟩
   refine⟨.slice p 0 n cap,some ⟨b,off,n*k,none⟩,cs.map cV,fun m hm _=>⟨_,hm _ rfl,hcap,by simp⟩,?_,fun h _ rs=>⟨fl',rfl,hcap,_,.inr (rs (by simp)),by omega,by rw[List.drop_zero,List.take_of_length_le (by omega)]⟩,rfl,?_⟩
   ·rintro loc h;cases h;exact⟨hb,rfl,fl',C,ty,fz,hC,hsz,ci,hfz⟩
   ·intro u hu;obtain⟨c,_,rfl⟩:=List.mem_map.1 hu;exact⟨_,_,rfl⟩
/-- all of them: the i-th has block p + i -/
theorem Ij{W:World}(t:Tab W):∀(L:List (Value×Nat×Nat×List mY))(p:Nat),(∀q∈L,rK W q.1 q.2.1 q.2.2.1 q.2.2.2)→∃(vs:List V)(Ms:List (Option Loc))(Cs:List (List V)),vs.length=L.length∧Ms.length=L.length∧Cs.length=L.length∧
    (∀m:M,(∀(i:Nat) loc,Ms[i]? =some (some loc)→m (p+i)=some loc)→m 0=some ⟨0,0,64,none⟩→∀(i:Nat) v,vs[i]? =some v→∃q,L[i]? =some q∧VRel m v q.1)∧
    (∀(i:Nat) loc c,Ms[i]? =some (some loc)→Cs[i]? =some c→J7 W loc c)∧
    (∀h,Glb h→(∀(i:Nat) c,Cs[i]? =some c→Rs h (p+i) c)→∀(i:Nat) v q,vs[i]? =some v→L[i]? =some q→ASl h q.2.1 v q.2.2.1 (q.2.2.2.map cV))∧∀c∈Cs,∀u∈c,∃k n,u=V.int k n
  |[],p,_=>⟨[],[],[],rfl,rfl,rfl,fun m _ _ i v h=>by simp at h,fun i loc c h=>by simp at h,fun h _ _ i v q hv=>by simp at hv,fun c hc=>by simp at hc⟩
  |s::S,p,hs=>by
    obtain⟨v,ml,c,q1,q2,q3,_,q6⟩:=pick t (hs s (by simp)) p;obtain⟨vs,Ms,Cs,l1,l2,l3,r1,r2,r3,r5⟩:=Ij t S (p+1) (fun s' h=>hs s' (by simp[h]));refine⟨v::vs,ml::Ms,c::Cs,by simp[l1],by simp[l2],by simp[l3],?_,?_,?_,?_⟩
    ·intro m hm h0 i u hu;cases i with
     |zero=>simp at hu;subst hu;exact⟨s,rfl,q1 m (fun loc h=>by have:=hm 0 loc (by simp[h]);simpa using this) h0⟩
     |succ i=>
       obtain⟨q,h1,h2⟩:=r1 m (fun i loc h=>by have:=hm (i+1) loc (by simpa using h);rwa[show p+(i+1)=p+1+i by omega]at this) h0 i u (by simpa using hu);exact⟨q,by simpa using h1,h2⟩
    ·intro i loc c' h1 h2;cases i with
     |zero=>simp at h1 h2;subst h2;exact q2 loc h1
     |succ i=>exact r2 i loc c' (by simpa using h1) (by simpa using h2)
    ·intro h gl rs i u q hu hq;cases i with
     |zero=>simp at hu hq;subst hu hq;exact q3 h gl fun _=>by have:=rs 0 c (by simp);simpa using this
     |succ i=>exact r3 h gl (fun i c' hc=>by have:=rs (i+1) c' (by simpa using hc);rwa[show p+(i+1)=p+1+i by omega]at this) i u q (by simpa using hu) (by simpa using hq)
    ·intro c' hc u hu;rcases List.mem_cons.1 hc with rfl|hc
     ·exact q6 u hu
     ·exact r5 c' hc u hu
def gq4(q:Nat×Nat×Nat×Nat):List mY:=[(.u8,(q.1:Int)),(.u8,(q.2.1:Int)),(.u8,(q.2.2.1:Int)),(.u8,(q.2.2.2:Int))]
def gb8(n:Nat):List mY:=[(.u8,(n:Int))]
def ght(x:Nat×Int):List mY:=[(.u64,(x.1:Int)),(.i64,x.2)]
theorem nO{α:Type}{g:α→List mY}{f:α→List V}(e:∀a,(g a).map cV=f a)(L:List α):(L.flatMap g).map cV=L.flatMap f:=by
  rw[List.map_flatMap];exact congrArg (fun F=>L.flatMap F) (funext e)
theorem Ba{α:Type}{l:List α}(h:l.length=3):∃a b c,l=[a,b,c]:=by
  match l,h with
  |[a,b,c],_=>exact⟨a,b,c,rfl⟩
theorem errors_calls{W:World}{x y z:Value}{k:Nat}{view over d:Int}{lo:Bool}{key:Nat}{L:List (Nat×Nat×Nat×Nat)}{M:List Nat}{P:List (Nat×Int)}(t:Tab W)(hk:k<256)(cx:rK W x 4 L.length (L.flatMap gq4))(hL:∀q∈L,q.1<256∧q.2.1<256∧q.2.2.1<256∧q.2.2.2<256)
    (cy:rK W y 1 M.length (M.flatMap gb8)) (hM:∀n∈M,n<256) (cz:rK W z 2 P.length (P.flatMap ght)) (hP:H64 P) (hkey:key<18446744073709551616):
    Calls Go.Proofs.Tryz.prog 3 #[.agg #[x,y,.int .u8 (k:Int)],.agg #[.int .i64 view,.int .i64 over,.bool lo,.int .u64 (key:Int),.int .i64 d],z] W fun e W'=>e=.returned (.bool true)∧Below W.heap.size W W':=by
  obtain⟨vs,Ms,Cs,l1,l2,l3,r1,r2,r3,r4⟩:=Ij (W:=W) t [(x,4,L.length,L.flatMap gq4),(y,1,M.length,M.flatMap gb8),(z,2,P.length,P.flatMap ght)] 2 (by simp[cx,cy,cz]);obtain⟨v0,v1,v2,rfl⟩:=Ba l1;have hlen:Ms.length=Cs.length:=by rw[l2,l3]
  have H:HRel (mS Ms) (hS Cs) W:=Ln t hlen r2;have hG:Glob KP 1 (mS Ms):=KE (fun i loc c h1 h2=>(r2 i loc c h1 h2).2.1) hlen;have rr:=r1 (mS Ms) (fun i loc h=>Ki h) rfl;have ss:=r3 (hS Cs) yI (fun i c h=>DT h);have a0:ARecs q4 4 (hS Cs) v0 L:=by have:=ss 0 v0 _ rfl rfl;rw[nO (f:=q4) fun _=>rfl]at this;exact this
  have a1:ARecs b8 1 (hS Cs) v1 M:=by have:=ss 1 v1 _ rfl rfl;rw[nO (f:=b8) fun _=>rfl]at this;exact this
  have a2:TR (hS Cs) v2 P:=fun h' r g=>by
    have:=r3 h' g (fun i c hc=>r.ro _ _ (DT hc)) 2 v2 _ rfl rfl;rw[nO (f:=htK) fun _=>rfl]at this;exact this
  obtain⟨u,h',e,rfl,ro',gl'⟩:=pj (view:=view) (over:=over) (d:=d) (lo:=lo) IF yI a0 hL a1 hM hk a2 hP hkey;obtain⟨_,SS⟩:=(LA _ _ _ _ _ e).1 (by decide);obtain⟨_,e0,q0⟩:=rr 0 v0 rfl;obtain⟨_,e1,q1⟩:=rr 1 v1 rfl;obtain⟨_,e2,q2⟩:=rr 2 v2 rfl;cases e0;cases e1;cases e2;have rel:VsRel (mS Ms) [.agg [v0,v1,.int .u8 (k:Int)],.agg [.int .i64 view,.int .i64 over,.bool lo,.int .u64 (key:Int),.int .i64 d],v2] [.agg #[x,y,.int .u8 (k:Int)],.agg #[.int .i64 view,.int .i64 over,.bool lo,.int .u64 (key:Int),.int .i64 d],z]:=
    ⟨_,_,rfl,⟨[x,y,.int .u8 (k:Int)],rfl,x,[y,.int .u8 (k:Int)],rfl,q0,y,[.int .u8 (k:Int)],rfl,q1,_,[],rfl,rfl,rfl⟩,_,_,rfl,⟨_,rfl,_,_,rfl,rfl,_,_,rfl,rfl,_,_,rfl,rfl,_,_,rfl,rfl,_,[],rfl,rfl,rfl⟩,z,[],rfl,q2,rfl⟩
  refine(SS (mS Ms) W _ rel H hG).1.mono ?_;rintro e' W' ⟨yv,m',he,ry,H',E⟩;have:yv=.bool true:=ry;subst this;refine⟨he,yZ H H' E fun p loc hp'=>?_⟩;rcases j8 hp' with⟨rfl,rfl⟩|⟨i,rfl,h1⟩
  ·exact⟨fm,.inl yI.own,.inl gl'.own,pJ,fun v hv=>by obtain⟨n,e⟩:=Gr v hv;exact⟨_,_,e⟩⟩
  ·have hi:=(List.getElem?_eq_some_iff.1 h1).1;obtain⟨c',hc'⟩:∃c',Cs[i]? =some c':=⟨_,List.getElem?_eq_getElem (by omega)⟩;have rs:=DT hc';exact⟨c',.inr rs,.inr (ro' _ _ rs),(r2 i loc c' h1 hc').2.2.1,r4 c' (List.mem_of_getElem? hc')⟩
end Lay
end Go.Ev
