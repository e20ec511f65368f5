/- An evaluator of the program, and contracts over it: ErSy to ErSy. -/
import Derived.Below
import Derived.Test.YtknldhlnhobdhaaGreatDoorP15
import Derived.Test.YtknldhlnhobdhaaGreatDoorP17
set_option linter.unusedSimpArgs false
set_option linter.unusedVariables false
set_option linter.constructorNameAsVariable false
set_option linter.unnecessarySimpa false
open Go.RowKit
namespace Go.Ev
variable{α:Type}
theorem A?.rd{h:a_}{b:Nat}{c:List V}(o:A? h b c):∃f k,h.S.c_ b=some (.a c f k)/\rd h b f k=true:=by
  rcases o with⟨f,k,e,x⟩|⟨f,k,ow,K,Z,_⟩
  ·exact⟨f,k,e,oZ (by rcases x with⟨a,_⟩|a;exact .inl a;exact .inr a)⟩
  ·refine⟨f,k,K,?_⟩;unfold Ev.rd;rw[Z];simp
theorem r_.j{m:M}{h:a_}{w:World}(H:r_ m h w){p:Nat}{Z:V3}{c:List V}(hm:m p=some Z)(o:A? h p c):
    ∃C el fz,w.heap[Z.a]? =some (.cells C el fz)/\Z.b+Z.c<=C.size/\∀(i:Nat) v,c[i]? =some v->∃x,C[Z.b+i]? =some x/\l_ m v x:=by
  obtain⟨f,k,e,r⟩:=o.rd;obtain⟨b,K,rel⟩:=H.c p Z hm;rw[e]at K;cases K;obtain⟨C,el,fz,a1,a2,_,a4,_⟩:=rel r;exact⟨C,el,fz,a1,a2,a4⟩
/-- nothing that was there has changed -/
theorem BV{m m':M}{h h':a_}{w w':World}(H:r_ m h w)(H':r_ m' h' w')(E:P5 m h w m' h' w')
    (Z:∀p loc,m p=some loc->∃c,A? h p c/\A? h' p c/\c.length=loc.c/\∀v∈c,∃k n,v=V.A k n):Below w.heap.size w w':=by
  refine⟨E.s,E.g,E.d,E.c,fun b hb=>?_⟩;by_cases cc:∃p loc,m p=some loc/\loc.a=b
  ·obtain⟨p,loc,hp,rfl⟩:=cc;obtain⟨cs,o,o',len,ints⟩:=Z p loc hp;obtain⟨C,el,fz,hC,aR,ax⟩:=H.j hp o;obtain⟨x',ae,k⟩:=E.n loc.a hb _ hC;cases x' with
   |cells C' el' fz'=>
     obtain⟨rfl,rfl,aN,ak⟩:=k;rw[ae,hC];have:C'=C:=by
       apply Array.ext_getElem?;intro j;by_cases cv:b? m loc.a j
       ·obtain⟨q,lq,hq,ar,j1,j2⟩:=cv;obtain⟨cq,oq,az,aJ,an⟩:=Z q lq hq;obtain⟨C1,aT,a0,ac,_,aH⟩:=H.j hq oq;obtain⟨C2,el2,a1,K,_,ay⟩:=H'.j (E.j _ _ hq) az;rw[ar]at ac K;rw[hC]at ac;cases ac;rw[ae]at K;cases K;have af:j-lq.b<cq.length:=by omega
        obtain⟨k,n,en⟩:=an cq[j-lq.b] (Zt af);have ec:cq[j-lq.b]? =some (.A k n):=by rw[<-en];exact Wf af
        obtain⟨x1,e1,r1⟩:=aH (j-lq.b) _ ec;obtain⟨x2,e2,r2⟩:=ay (j-lq.b) _ ec;simp[l_]at r1 r2;rw[show lq.b+(j-lq.b)=j by omega]at e1 e2;rw[e1,e2,r1,r2]
       ·exact ak j cv
     rw[this]
   |_=>simp at k
  ·exact E.e b (fun p loc hp e=>cc ⟨p,loc,hp,e⟩) hb
/-- blocks, one after another, in a family that nobody may write -/
noncomputable def put(t:T Y5):List (List V)->Nat->T Y5
  |[],_=>t
  |c::cs,i=>put (t.A_ i (.a c 1 0)) cs (i+1)
theorem pf:∀(cs:List (List V))(i:Nat)(t:T Y5)(p:Nat),(put t cs i).c_ p=if i<=p/\p<i+cs.length then(cs[p-i]?).map (fun c=>.a c 1 0)else t.c_ p
  |[],i,t,p=>by rw[if_neg (by simp)];rfl
  |c::cs,i,t,p=>by
    show(put (t.A_ i (.a c 1 0)) cs (i+1)).c_ p=_;rw[pf cs (i+1),Xr];simp only[Wv];by_cases q:p=i
    ·subst q;rw[if_neg (by omega),if_pos rfl,if_pos (by omega)];simp
    ·rw[if_neg q];by_cases r:i+1<=p/\p<i+1+cs.length
     ·rw[if_pos r,if_pos (by omega),show p-i=(p-(i+1))+1 by omega];simp
     ·rw[if_neg r,if_neg (by omega)]
namespace Lay
/-- the package's variable -/
def Tab(W:World):Prop:=∃C t,W.heap[0]? =some (.cells C t (0,0))∧C.size=64∧∀(i:Nat) n,kA[i]? =some n→C[i]? =some (.int .u8 (n:Int))
theorem yU{i:Nat}{v:V}(h:gq[i]? =some v):∃n,kA[i]? =some n/\v=ZY (n:Int):=by
  unfold gq at h;rw[WM]at h;cases e:kA[i]? with
  |none=>rw[e]at h;cases h
  |some n=>rw[e]at h;cases h;exact⟨n,rfl,rfl⟩
theorem JI:∀v∈gq,∃n,v=ZY n:=by
  intro v hv;obtain⟨i,Z⟩:=List.getElem?_of_mem hv;obtain⟨n,_,e⟩:=yU Z;exact⟨_,e⟩
theorem sQ:gq.length=64:=by unfold gq;rw[Xd];rfl
noncomputable def hS(Cs:List (List V)):a_:=⟨put ((T.e:T Y5).A_ 0 (.a gq 0 0)) Cs 2,2+Cs.length,(T.e:T (Nat×Nat)).A_ 1 (1,0)⟩
def mS(Ms:List (Option V3)):M:=fun p=>if p=0 then some ⟨0,0,64,none⟩else if 2<=p then(Ms[p-2]?).join else none
section
variable {Cs : List (List V)} {Ms : List (Option V3)}
theorem z8{i:Nat}{c:List V}(h:Cs[i]? =some c):(hS Cs).S.c_ (2+i)=some (.a c 1 0):=by
  have Z:=(Wk.1 h).1;show(put _ Cs 2).c_ (2+i)=_;rw[pf,if_pos (by omega),show 2+i-2=i by omega,h];rfl
theorem Na:(hS Cs).S.c_ 0=some (.a gq 0 0):=by
  show(put _ Cs 2).c_ 0=_;rw[pf,if_neg (by omega),WI]
theorem Ot:(hS Cs).S.c_ 1=none:=by
  show(put _ Cs 2).c_ 1=_;rw[pf,if_neg (by omega),We _ _ (by omega)];rfl
theorem HY{p:Nat}(h:2+Cs.length<=p):(hS Cs).S.c_ p=none:=by
  show(put _ Cs 2).c_ p=_;rw[pf,if_neg (by omega),We _ _ (by omega)];rfl
theorem HZ:(hS Cs).Q.c_ 1=some (1,0):=by show((T.e:T (Nat×Nat)).A_ 1 (1,0)).c_ 1=_;exact WI _ _ _
theorem M9{p:Nat}(h:p≠1):(hS Cs).Q.c_ p=none:=by show((T.e:T (Nat×Nat)).A_ 1 (1,0)).c_ p=none;rw[We _ _ h];rfl
theorem LX:WF (hS Cs):=fun p hp=>⟨HY hp,M9 (by have:2+Cs.length<=p:=hp;omega)⟩
theorem BE:R_ (hS Cs):=⟨⟨0,Na⟩,M9 (by omega)⟩
theorem LY{i:Nat}{c:List V}(h:Cs[i]? =some c):Rs (hS Cs) (2+i) c:=⟨1,0,1,z8 h,HZ,Ot,by show 1<2+Cs.length;omega⟩
theorem mC{p:Nat}{Z:V3}(h:mS Ms p=some Z):(p=0/\Z=⟨0,0,64,none⟩)\/∃i,p=2+i/\Ms[i]? =some (some Z):=by
  unfold mS at h;by_cases c:p=0
  ·rw[if_pos c]at h;cases h;exact .inl ⟨c,rfl⟩
  ·rw[if_neg c]at h;by_cases d:2<=p
   ·rw[if_pos d]at h;refine .inr ⟨p-2,by omega,?_⟩;cases e:Ms[p-2]? with
    |none=>rw[e]at h;cases h
    |some o=>rw[e]at h;cases o with
      |none=>cases h
      |some l=>cases h;rfl
   ·rw[if_neg d]at h;cases h
theorem N5{i:Nat}{Z:V3}(h:Ms[i]? =some (some Z)):mS Ms (2+i)=some Z:=by
  unfold mS;rw[if_neg (by omega),if_pos (by omega),show 2+i-2=i by omega,h];rfl
/-- an array of the world that a block stands for -/
def NX(W:World)(loc:V3)(c:List V):Prop:=loc.a≠0/\loc.d=none/\c.length=loc.c/\(∃C ty fz,W.heap[loc.a]? =some (.cells C ty fz)/\loc.b+loc.c<=C.size/\
  (∀(i:Nat) v,c[i]? =some v->∃k n,v=.A k n/\C[loc.b+i]? =some (.int k n))/\∀i:Nat,i<loc.c->¬(fz.1<=loc.b+i/\loc.b+i<fz.2))
theorem Ph{W:World}(t:Tab W)(hl:Ms.length=Cs.length)(he:∀(i:Nat) loc c,Ms[i]? =some (some loc)->Cs[i]? =some c->NX W loc c):r_ (mS Ms) (hS Cs) W:=by
  have Z:∀(i:Nat) loc,Ms[i]? =some (some loc)->∃c,Cs[i]? =some c:=fun i loc h=>by
    have:=(Wk.1 h).1;exact⟨_,Wf (by omega)⟩
  refine⟨⟨?_,LX⟩,?_,?_,?_⟩
  ·intro p c f k K;by_cases q:p=0
   ·subst q;rw[Na]at K;cases K;rw[M9 (by omega)]
   ·by_cases q1:p=1
    ·subst q1;rw[Ot]at K;cases K
    ·by_cases q2:p<2+Cs.length
     ·have hc:Cs[p-2]? =some (Cs[p-2]'(by omega)):=Wf (by omega);have:=z8 hc;rw[show 2+(p-2)=p by omega,K]at this;cases this;rw[HZ];exact VZ _
     ·rw[HY (by omega)]at K;cases K
  ·intro p loc K;rcases mC K with⟨rfl,rfl⟩|⟨i,rfl,h⟩
   ·obtain⟨C',af,ae,ar,ac⟩:=t;refine⟨_,Na,fun _=>⟨C',af,(0,0),ae,by simp[ar],by rw[sQ];exact VZ _,fun i v hi=>?_,fun i _=>by simp⟩⟩;obtain⟨n,hn,rfl⟩:=yU hi;exact⟨_,by simpa using ac i n hn,rfl⟩
   ·obtain⟨c,hc⟩:=Z i loc h;obtain⟨_,_,ax,C,ty,fz,h1,h2,h3,h4⟩:=he i loc c h hc;exact⟨_,z8 hc,fun _=>⟨C,ty,fz,h1,h2,by omega,fun j v hv=>by obtain⟨k,n,rfl,e⟩:=h3 j v hv;exact⟨_,e,rfl⟩,h4⟩⟩
  ·intro p loc K;rcases mC K with⟨rfl,rfl⟩|⟨i,rfl,h⟩
   ·obtain⟨C',af,ae,_⟩:=t;exact(WT.1 ae).1
   ·obtain⟨c,hc⟩:=Z i loc h;obtain⟨_,_,_,C,ty,fz,h1,_⟩:=he i loc c h hc;exact(WT.1 h1).1
  ·intro p q lp lq K hq ak an;rcases mC K with⟨rfl,rfl⟩|⟨i,rfl,h⟩<;>rcases mC hq with⟨rfl,rfl⟩|⟨j,rfl,h'⟩
   ·exact absurd rfl an
   ·obtain⟨c,hc⟩:=Z j lq h';exact absurd ak.symm (he j lq c h' hc).1
   ·obtain⟨c,hc⟩:=Z i lp h;exact absurd ak (he i lp c h hc).1
   ·obtain⟨c,hc⟩:=Z i lp h;obtain⟨c',ac⟩:=Z j lq h';refine⟨c,c',1,0,0,z8 hc,z8 ac,fun e hf=>?_⟩;rw[HZ]at hf;simp at hf;omega
theorem Ou(he:∀(i:Nat) loc c,Ms[i]? =some (some loc)->Cs[i]? =some c->loc.d=none)(hl:Ms.length=Cs.length):V1 KP 1 (mS Ms):=by
  refine⟨fun g hg=>?_,fun p loc g K Z=>?_⟩
  ·obtain rfl:g=0:=by omega
   exact⟨64,rfl⟩
  ·rcases mC K with⟨rfl,rfl⟩|⟨i,rfl,h⟩
   ·cases Z
   ·have hi:=(Wk.1 h).1;rw[he i loc _ h (Wf (by omega))]at Z;cases Z
end
abbrev ni:=IntKind×Int
def cV(c:ni):V:=.A c.1 c.2
def cX(c:ni):Value:=.int c.1 c.2
theorem flat_len'{β:Type}{g:α->List β}{k:Nat}(gl:∀a,(g a).length=k):∀L:List α,(L.flatMap g).length=L.length*k
  |[]=>by simp
  |x::L=>by simp[flat_len' gl L,gl,Yq,Yz]
/-- a slice of n elements of k numbers that came in -/
def rT(W:World)(x:Value)(k n:Nat)(cs:List ni):Prop:=cs.length=n*k/\
  ((x=.slice none 0 0/\n=0)\/(∃a cap,x=.slice (some a) 0 cap/\n=0)\/
  ∃b off cap C t fz,x=.slice (some ⟨b,off,none⟩) n cap/\n<=cap/\0<n/\W.heap[b]? =some (.cells C t fz)/\off+n*k<=C.size/\
    (∀i:Nat,i<n*k->¬(fz.1<=off+i/\off+i<fz.2))/\∀(i:Nat) c,cs[i]? =some c->C[off+i]? =some (cX c))
/-- how it is told to the evaluator, by block p -/
theorem pick{W:World}{x:Value}{k n:Nat}{cs:List ni}(t:Tab W)(cm:rT W x k n cs)(p:Nat):∃(v:V)(ml:Option V3)(c:List V),
    (∀m:M,(∀loc,ml=some loc->m p=some loc)->m 0=some ⟨0,0,64,none⟩->l_ m v x)/\(∀loc,ml=some loc->NX W loc c)/\(∀h,R_ h->(ml≠none->Rs h p c)->T5 h k v n (cs.map cV))/\v.U=true/\∀u∈c,∃k n,u=V.A k n:=by
  obtain⟨fl,cm⟩:=cm;have ae:(cs.map cV).length=n*k:=by simpa using fl
  rcases cm with⟨rfl,rfl⟩|⟨a,cap,rfl,rfl⟩|⟨b,Z,cap,C,ty,fz,rfl,K,az,hC,ar,ay,ac⟩
  ·exact⟨.r,none,[],fun m _ _=>rfl,(fun loc h=>by cases h),fun h _ _=>⟨ae,rfl⟩,rfl,by simp⟩
  ·exact⟨.sliceZ a cap,none,[],fun m _ _=>rfl,(fun loc h=>by cases h),fun h _ _=>⟨ae,rfl⟩,rfl,by simp⟩
  by_cases hb:b=0
  ·subst hb;obtain⟨C',aH,ak,aJ,an⟩:=t;rw[hC]at ak;cases ak;have ax:Z+n*k<=64:=by omega
   refine⟨.y 0 Z n cap,none,[],fun m _ h0=>⟨_,h0,K,by simp⟩,(fun loc h=>by cases h),fun h gl _=>⟨ae,rfl,K,gq,.inl gl.I,by rw[sQ];exact ax,?_⟩,rfl,by simp⟩;apply Yy;intro i;rw[XW];by_cases c:i<n*k
   ·rw[if_pos c,Xk];have af:cs[i]? =some (cs[i]'(by omega)):=Wf _;have hx:=ac i _ af;have ht:kA[Z+i]? =some (kA[Z+i]'(by show Z+i<64;omega)):=Wf _;have h2:=an _ _ ht;rw[hx]at h2;have e2:gq[Z+i]? =some (cV (cs[i]'(by omega))):=by
      unfold gq;rw[WM,ht];simp[cX]at h2;simp[cV,h2.1,h2.2]
    rw[e2,WM,af];rfl
   ·rw[if_neg c,Xa (by omega)]
  ·have ci:∀(i:Nat) v,(cs.map cV)[i]? =some v->∃k n,v=.A k n/\C[Z+i]? =some (.int k n):=by
     intro i v hv;rw[WM]at hv;cases e:cs[i]? with
     |none=>rw[e]at hv;cases hv
     |some c=>rw[e]at hv;cases hv;exact⟨_,_,rfl,ac i c e⟩
   refine⟨.y p 0 n cap,some ⟨b,Z,n*k,none⟩,cs.map cV,fun m hm _=>⟨_,hm _ rfl,K,by simp⟩,?_,fun h _ rs=>⟨ae,rfl,K,_,.inr (rs (by simp)),by omega,by rw[YG,Wj (by omega)]⟩,rfl,?_⟩
   ·rintro loc h;cases h;exact⟨hb,rfl,ae,C,ty,fz,hC,ar,ci,ay⟩
   ·intro u hu;obtain⟨c,_,rfl⟩:=WP.1 hu;exact⟨_,_,rfl⟩
/-- all of them: the i-th has block p + i -/
theorem LC{W:World}(t:Tab W):∀(L:List (Value×Nat×Nat×List ni))(p:Nat),(∀q∈L,rT W q.1 q.2.1 q.2.2.1 q.2.2.2)→∃(vs:List V)(Ms:List (Option V3))(Cs:List (List V)),vs.length=L.length∧Ms.length=L.length∧Cs.length=L.length∧
    (∀m:M,(∀(i:Nat) loc,Ms[i]? =some (some loc)→m (p+i)=some loc)→m 0=some ⟨0,0,64,none⟩→∀(i:Nat) v,vs[i]? =some v→∃q,L[i]? =some q∧l_ m v q.1)∧
    (∀(i:Nat) loc c,Ms[i]? =some (some loc)→Cs[i]? =some c→NX W loc c)∧
    (∀h,R_ h→(∀(i:Nat) c,Cs[i]? =some c→Rs h (p+i) c)→∀(i:Nat) v q,vs[i]? =some v→L[i]? =some q→T5 h q.2.1 v q.2.2.1 (q.2.2.2.map cV))∧∀c∈Cs,∀u∈c,∃k n,u=V.A k n
  |[],p,_=>⟨[],[],[],rfl,rfl,rfl,fun m _ _ i v h=>by simp at h,fun i loc c h=>by simp at h,fun h _ _ i v q hv=>by simp at hv,fun c hc=>by simp at hc⟩
  |s::S,p,hs=>by
    obtain⟨v,ml,c,q1,q2,q3,_,q6⟩:=pick t (hs s (by simp)) p;obtain⟨vs,Ms,Cs,l1,l2,l3,r1,r2,r3,r5⟩:=LC t S (p+1) (fun s' h=>hs s' (by simp[h]));refine⟨v::vs,ml::Ms,c::Cs,by simp[l1],by simp[l2],by simp[l3],?_,?_,?_,?_⟩
    ·intro m hm h0 i u hu;cases i with
     |zero=>simp at hu;subst hu;exact⟨s,rfl,q1 m (fun loc h=>by have:=hm 0 loc (by simp[h]);simpa using this) h0⟩
     |succ i=>
       obtain⟨q,h1,h2⟩:=r1 m (fun i loc h=>by have:=hm (i+1) loc (by simpa using h);rwa[show p+(i+1)=p+1+i by omega]at this) h0 i u (by simpa using hu);exact⟨q,by simpa using h1,h2⟩
    ·intro i loc c' h1 h2;cases i with
     |zero=>simp at h1 h2;subst h2;exact q2 loc h1
     |succ i=>exact r2 i loc c' (by simpa using h1) (by simpa using h2)
    ·intro h gl rs i u q hu hq;cases i with
     |zero=>simp at hu hq;subst hu hq;exact q3 h gl fun _=>by have:=rs 0 c (by simp);simpa using this
     |succ i=>exact r3 h gl (fun i c' hc=>by have:=rs (i+1) c' (by simpa using hc);rwa[show p+(i+1)=p+1+i by omega]at this) i u q (by simpa using hu) (by simpa using hq)
    ·intro c' hc u hu;rcases List.mem_cons.1 hc with rfl|hc
     ·exact q6 u hu
     ·exact r5 c' hc u hu
def gq4(q:Nat×Nat×Nat×Nat):List ni:=[(.u8,(q.1:Int)),(.u8,(q.2.1:Int)),(.u8,(q.2.2.1:Int)),(.u8,(q.2.2.2:Int))]
def gb8(n:Nat):List ni:=[(.u8,(n:Int))]
def ght(x:Nat×Int):List ni:=[(.u64,(x.1:Int)),(.i64,x.2)]
theorem qG{g:α->List ni}{f:α->List V}(e:∀a,(g a).map cV=f a)(L:List α):(L.flatMap g).map cV=L.flatMap f:=by
  rw[List.map_flatMap];exact congrArg (fun F=>L.flatMap F) (funext e)
theorem DT{l:List α}(h:l.length=3):∃a b c,l=[a,b,c]:=by
  match l,h with
  |[a,b,c],_=>exact⟨a,b,c,rfl⟩
end Lay
end Go.Ev
