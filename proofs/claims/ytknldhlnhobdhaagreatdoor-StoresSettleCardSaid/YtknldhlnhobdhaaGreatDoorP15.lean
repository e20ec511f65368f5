/- An evaluator of the program, and contracts over it: ErKd to ErKh. -/
import Derived.Test.YtknldhlnhobdhaaGreatDoorP09
import Derived.Test.YtknldhlnhobdhaaGreatDoorP14
set_option linter.unusedSimpArgs false
set_option linter.unusedVariables false
set_option linter.constructorNameAsVariable false
set_option linter.unnecessarySimpa false
set_option maxRecDepth 4000
namespace Go.Ev.Lay
variable{env:T V}{R:V->a_->Prop}
open Go.Ev.St
theorem jH(m:Int->Int):∀(A l:List Int)(ks:List Bool)(mo:Bool),(aV m A l ks mo).2.1.length=l.length
 |[],_,_,_=>rfl
 |i::A,l,ks,mo=>by rw[aV];split;split;exact jH m A l ks mo;split;rw[jH m A _ _ true,WV];rfl;rfl
theorem gA{m m':Int->Int}:∀(A l:List Int)(ks:List Bool)(mo:Bool),(∀i:Int,0<=i->i<(l.length:Nat)->m i=m' i)->aV m A l ks mo=aV m' A l ks mo
 |[],_,_,_,_=>rfl
 |i::A,l,ks,mo,hm=>by rw[aV,aV];by_cases c:0<=i/\i<(l.length:Nat);rw[if_pos c,if_pos c,<-hm i c.1 c.2,gA A l ks mo hm,gA A (l.set i.toNat (m i)) (ks.set i.toNat true) true (by simpa using hm)];grind
theorem U2.e{m m':Int->Int}{bs:List Bool}{view over anchor delta:Int}{lo:Bool}{s:Int}{r:Nat}{l:List Int}{ks:List Bool}{s2 n2 e2:Int}{l2:List Int}{K:List Bool}(a:U2 m bs view over anchor delta lo s r l ks s2 n2 e2 l2 K):
 (∀i:Int,0<=i->i<(l.length:Nat)->m i=m' i)->U2 m' bs view over anchor delta lo s r l ks s2 n2 e2 l2 K:=by
 induction a with
 |c a1 a2=>intro Z;rw[gA _ _ _ _ Z]at a2|-;exact .c a1 a2
 |a a1 a2=>intro Z;rw[gA _ _ _ _ Z]at a2;exact .a a1 a2
 | @S? s r l ks A l' ks' _ _ _ _ _ a1 a2 _ ih=>intro Z;have ln:=jH m A l ks false;rw[a2]at ln;simp at ln;rw[gA _ _ _ _ Z]at a2;exact .S? a1 a2 (ih fun i h0 h1=>Z i h0 oM)
theorem R5.f{m:Int->Int}{bs:List Bool}{view over anchor delta:Int}{lo:Bool}{s:Int}{r:Nat}{l:List Int}{ks:List Bool}{s2 n2 e2:Int}{l2:List Int}{K:List Bool}(a:R5 m bs view over anchor delta lo s r l ks s2 n2 e2 l2 K):e2=0->l2.length=l.length:=by
 induction a with
 |a a1 a2=>intro e;exact absurd e a2
 | @done s r l ks A l' ks' a1 a2=>intro _;have Z:=jH m A l ks false;rw[a2]at Z;exact Z
 | @more s r l ks A l' ks' _ _ _ _ _ a1 a2 _ ih=>intro e;have Z:=jH m A l ks false;rw[a2]at Z;exact(ih e).trans Z
theorem HH{K Ks:List p_}{X:List m_}{E:List d_}{Y:List (Nat×Int)}(sk:bX Ks K)(ev:X.map m_.sx=E.map (fun e=>e.x.sx))(ty:∀e∈E,e.x.K<Ks.length):∀(i:Nat) e,E[i]? =some e->mX K Y X (i:Int)=T1 Ks Y e.x:=by
 intro i e he;have h1:=congrArg (·[i]?) ev;simp only[WM,he,Ws]at h1;let⟨x,hx,q⟩:=Option.map_eq_some_iff.1 h1;have hk:x.J=e.x.J:=congrArg (fun p=>p.1) q;have ht:x.K=e.x.K:=congrArg (fun p=>p.2.1) q;have tl:e.x.K<K.length:=by rw[<-eX sk];exact ty e (Wc he)
 unfold mX;rw[pi,hx];show mI K Y x=_;unfold mI V? T1;rw[hk,ht];cases q:Y.find? (fk e.x.J)with
 |some p=>have Z:Y.find? (fun p=>p.1==e.x.J)=some p:=q;rw[Z];rfl
 |none=>
  have Z:Y.find? (fun p=>p.1==e.x.J)=none:=q;rw[Z];show(match K[e.x.K]? with|some q=>q.P|none=>1)=aQ Ks e.x
  rw[<-(ql sk e.x).1,aQ,Wf tl]
open Go.Ev.St
def NoS(h:a_)(v:V):Prop:=v=.O\/∃b,v=.u b 0/\e_ h b [.r,ZZ 0,.O,.O,.O]
section
variable {h h' : a_} {v : V}
theorem NoS.fr(a:NoS h v)(f:Fr [] h h'):NoS h' v:=a.imp id fun⟨b,e,o⟩=>⟨b,e,f.i o⟩
theorem NoS.U(a:NoS h v):v.U=true:=by obtain rfl|⟨b,rfl,_⟩:=a<;>rfl
end
open Go.Ev.St
theorem xT{h:a_}(g:R_ h):ao go 5 [] h fun u h'=>u=.h true/\h=h':=
 ⟨.h true,h,OE J7 rfl (by unfold lov;rw[if_pos ⟨rfl,rfl,g⟩]),rfl,rfl⟩
theorem FO.c{h0 h h':a_}{p:Nat}(a:FO h0 h)(w:WF h0)(hp:h0.e<=p)(f:Fr [p] h h'):FO h0 h':=
 ⟨Wy a.f f.e,f.o,fun q c n o=>f.I q c (by have:=o.lt w;simp;omega) (a.e q c n o),fun q c r=>f.ro q c (a.i q c r)⟩
section
variable {h h0 : a_} {env : T V} {p4 p7 : Nat} {view over k d : Int} {lo : Bool} {vT : V}
end
open Go.Ev.St
theorem Cy:∀{A B:List p_},bX A B→(∀q∈A,1≤q.P∧q.P≤50)→∀q∈B,1≤q.P∧q.P≤2305843009213693952
 |[],[],_,_=>by simp
 |[],_::_,h,_=>h.elim
 |_::_,[],h,_=>h.elim
 |x::A,y::B,h,a=>by intro q m;obtain rfl|m:=List.mem_cons.1 m;have:=a x iS;have e:=h.1.2.2.2.2.2.1;omega;exact Cy h.2 (fun q m=>a q iX) q m
theorem DR{X:List m_}{E:List d_}{n:Nat}(ev:X.map m_.sx=E.map (fun e=>e.x.sx))(ty:∀e∈E,e.x.K<n):∀x∈X,x.K<n:=by intro x m;have:x.sx∈X.map m_.sx:=WP.2 ⟨x,m,rfl⟩;rw[ev]at this;let⟨e,K,q⟩:=WP.1 this;have Z:=congrArg (fun p=>p.2.1) q;have:=ty e K;simp[m_.sx]at Z;omega
open Go.Ev.St
def d8:List d_->List (Int×Bool×Bool)->List d_
 |e::E,r::L=>⟨e.x,r.1,r.2.1⟩::d8 E L
 |E,_=>E
theorem zg:∀E:List d_,d8 E []=E
 |[]=>rfl
 |_::_=>rfl
theorem oY:∀(E:List d_)(L:List (Int×Bool×Bool)),(d8 E L).length=E.length
 |[],_=>by simp[d8]
 |_::_,[]=>by simp[d8]
 |_::E,_::L=>by simp[d8,oY E L]
theorem GP:∀(E:List d_)(L:List (Int×Bool×Bool)),(d8 E L).map d_.x=E.map d_.x
 |[],_=>by simp[d8]
 |_::_,[]=>by simp[d8]
 |_::E,_::L=>by simp[d8,GP E L]
theorem GU:∀(E:List d_)(L:List (Int×Bool×Bool)),L.length=E.length→(d8 E L).map d_.b=sz L∧(d8 E L).map d_.kn=ky L
 |[],[],_=>⟨rfl,rfl⟩
 |[],_::_,h=>by simp at h
 |_::_,[],h=>by simp at h
 |_::E,_::L,h=>by let⟨h1,h2⟩:=GU E L (eV h);exact⟨by simp[d8,h1,sz],by simp[d8,h2,ky]⟩
theorem vW:∀(E:List d_)(L:List (Int×Bool×Bool))(i:Nat)(e:d_)(r:Int×Bool×Bool),E[i]? =some e→L[i]? =some r→
 d8 E (L.take (i+1))=(d8 E (L.take i)).set i ⟨e.x,r.1,r.2.1⟩∧(d8 E (L.take i))[i]? =some e
 |[],_,_,_,_,h,_=>by simp at h
 |_::_,[],_,_,_,_,h=>by simp at h
 |y::E,z::L,0,e,r,h,h2=>by simp at h h2;subst h h2;simp[d8,zg]
 |y::E,z::L,i+1,e,r,h,h2=>by let⟨q1,q2⟩:=vW E L i e r (eV h) (eV h2);simp only[List.take_succ_cons,d8,List.set_cons_succ,List.getElem?_cons_succ,q1,q2,true_and]
section
variable {n0 : NL} {h h' h0 : a_} {b bg Bk bm S bl N B b8 : Nat} {Ks K : List p_} {X XX : List m_} {l : List Int} {kn st : List Bool} {vK vKK vE vT vR : V} {pm : Option Nat} {mc : dN} {E : List d_} {Y : List (Nat × Int)}
theorem DA.c(D:DA N h Ks vK X vE E vT Y):∀e∈E,∀z∈vb vE,z∉vb e.x.vm:=by intro e m z mz c;obtain⟨rfl,_⟩|⟨q,k,rfl,_,_,_,oq⟩:=D.f;simp[vb]at mz;obtain⟨K,_⟩|⟨q2,k2,K,_,_,_,Z⟩:=(D.u e m).g;rw[K]at c;simp[vb]at c;rw[K]at c;simp[vb]at mz c;obtain rfl:q=q2:=oM;have u:=oq.uniq Z;have:ZX (e.x.J:Int)∈E.flatMap d_.s:=List.mem_flatMap.2 ⟨e,m,by simp[d_.s,m_.ent,m_.s]⟩;rw[u]at this;simp at this
theorem DA.m(D:DA N h Ks vK X vE E vT Y):∀z∈vb vE,Sb h z:=by
 intro z Z;obtain⟨rfl,_⟩|⟨q,k,rfl,hl,hk,_,K⟩:=D.f;simp[vb]at Z;simp[vb]at Z;subst Z;refine⟨_,K,?_⟩;cases E with
 |nil=>simp at hl;omega
 |cons e L=>exact⟨e.x.X,by simp[d_.s,m_.ent,m_.s]⟩
theorem L_.skipE(w:WF h)(s:L_ n0 h b K 12 XX l kn st vKK bg Bk bm S bl pm mc)(D:DA N h Ks vK X vE E vT Y)(Z:∀z∈vb vE,Lx n0 z/\z∉Wr b bg Bk bm S bl pm)(f:Fr (vb vE) h h'):L_ n0 h' b K 12 XX l kn st vKK bg Bk bm S bl pm mc:=by have sb:=D.m;obtain⟨rfl,_⟩|⟨q,k,rfl,_⟩:=D.f;exact s.fr w f;exact s.skipT w (sb q (by simp[vb])) (Z q (by simp[vb])).2 (Z q (by simp[vb])).1 f
theorem DA.g(D:DA N h Ks vK X vE E vT Y){q:Nat}{c:List V}(o:e_ h q c)(l:c.length<=5):q∉vb vE:=by intro Z;obtain⟨rfl,_⟩|⟨q2,k,rfl,hl,hk,_,K⟩:=D.f;simp[vb]at Z;simp[vb]at Z;subst Z;have:=o.uniq K;subst this;omega
theorem Mu{L:List (Int×Bool×Bool)}{p n:Int}(D:DA N h Ks vK X vE E vT Y)(gl:R_ h)(hN:0<N)(s:L_ n0 h b K 12 XX (sz L) (ky L) st vKK bg Bk bm S bl pm mc)(sk:bX Ks K)(ev:XX.map m_.sx=E.map fun e=>e.x.sx)
 (nz:∀x∈XX,nZ x.vm=true) (ix:R2 mc.1 E) (hq:∀z∈vb vE,Lx n0 z/\z∉Wr b bg Bk bm S bl pm) (hB:∀z∈vb vE,z<B) (rR:F_ rc 3 h B vR L) (lL:L.length=E.length) (o8:e_ h b8 [vE])
 (g8:env.c_ 8=some (.u b8 0)) (g11:env.c_ 11=some (.u b 0)) (an:env.c_ 16=some (ZZ p)) (ar:env.c_ 17=some (ZZ n)) (Z:env.c_ 24=some vR) (ak:env.c_ 25=some (ZZ p)) (ax:env.c_ 26=some (ZZ n))
 (hR:∀h',(∀q c,Rs h q c->Rs h' q c)->R_ h'->R (.h true) h'):W go stN env h (i9 [.t 6] R):=by
 have w:=D.w;have lE:=D.l;have n8:b8∉vb vE:=D.g o8 iS;have v1:vE.U=true:=Gs.U D.f;simp[b_,stN];refine aA (fun k env hh=>∃i:Nat,Fr (vb vE) h hh/\Gs hh N 6 vE ((d8 E (L.take i)).flatMap d_.s)/\env.c_ 28=some (ZZ i)/\env.c_ 24=some vR/\env.c_ 8=some (.u b8 0)/\env.c_ 11=some (.u b 0)/\env.c_ 16=some (ZZ p)/\env.c_ 17=some (ZZ n)/\env.c_ 25=some (ZZ p)/\env.c_ 26=some (ZZ n)/\
  i<=L.length/\k=L.length-i) L.length oM ?_ ?_
 ·exact⟨0,Wl w,by rw[YZ,zg];exact D.f,iS,iX,iX,iX,iX,iX,iX,iX,oM,rfl⟩
 clear g8 g11 an ar Z ak ax;rintro k env hh ⟨i,F,gE,ae,Z,g8,g11,an,ar,ak,ax,hi,rfl⟩;have ac:=F.I _ _ n8 o8;have l8:∀{H},e_ H b8 [vE]->ab H b8 0=some vE:=fun o=>o.j 0;have az:∀{H},Fr (vb vE) h H->F_ rc 3 H B vR L:=fun f=>rR.dj f (fun z m c=>by have:=rR.vb z c;have:=hB z m;omega);have aR:=(az F).recs iD oM;by_cases c:(i:Int)<L.length
 ·let⟨bi,oi,r,e1,_,_,_,_,e6⟩:=Y_.ix aR i c;have rd:∀{H},Fr (vb vE) h H->ab H bi oi=some (ZZ r.1)/\ab H bi (oi+1)=some (.h r.2.1):=by
   intro H f;let⟨b',o',r',x1,x2,x3,_,_,x6⟩:=Y_.ix ((az f).recs iD oM) i c;rw[e1]at x1;cases x1;rw[e6]at x6;cases x6;exact⟨x2,x3⟩
  obtain⟨e,he⟩:∃e,E[i]? =some e:=⟨_,Wf oM⟩;let⟨q1,q2⟩:=vW E L i e r he e6;have fl:=aC aM (d8 E (L.take i));rw[oY]at fl;let⟨q,vq,Nq,oq,pq,kq⟩:=gE.u fl oM (i:=i) oM;have aN:=pq .i64;have dF:=rd F;simp only[b_,seval,j_,ae,Z,g8,aR.t_,c,l8 ac,aN,e1,dF.1];have u1:bG ((d8 E (L.take i)).flatMap d_.s) (i*6+4) [ZZ r.1]=some (((d8 E (L.take i)).set i ⟨e.x,r.1,e.kn⟩).flatMap d_.s):=ir aM _ i e q2 (e.upd_b _);apply ai (c':=((d8 E (L.take i)).set i ⟨e.x,r.1,e.kn⟩).flatMap d_.s) F.o oq rfl rfl u1;rintro h3 o3 F3 n3;rw[<-vq]at F3;have aJ:=Nc F F3;have af:=F3.I _ _ n8 ac;have d3:=rd aJ;simp only[b_,seval,DF,j_,ae,Z,g8,l8 ac,dF.1,l8 af,aN,e1,d3.2];have q3:((d8 E (L.take i)).set i ⟨e.x,r.1,e.kn⟩)[i]? =some ⟨e.x,r.1,e.kn⟩:=by grind
  have u2:bG (((d8 E (L.take i)).set i ⟨e.x,r.1,e.kn⟩).flatMap d_.s) (i*6+5) [.h r.2.1]=some ((d8 E (L.take (i+1))).flatMap d_.s):=by
   have:=ir aM _ i _ q3 (d_.upd_k ⟨e.x,r.1,e.kn⟩ r.2.1);rw[List.set_set,<-q1]at this;exact this
  apply ai (v:=.h r.2.1) (c':=(d8 E (L.take (i+1))).flatMap d_.s) F3.o o3 rfl rfl u2;rintro h4 o4 F4 n4;rw[<-vq]at F4;have a0:=Nc aJ F4;have a2:=F4.I _ _ n8 af;simp(disch:=omega) only[b_,seval,DF,ag,ae,l8 af,d3.2];have ay:=aC aM (d8 E (L.take (i+1)));rw[oY]at ay;refine s_ ⟨L.length-(i+1),oM,i+1,a0,kq _ _ o4 (by rw[fl,ay]),iS,iX,iX,iX,iX,iX,iX,iX,oM,rfl⟩
  done
 ·obtain rfl:i=L.length:=oM
  rw[Xq]at gE;have sH:=s.skipE w D hq F;let⟨s1,s2⟩:=GU E L lL;have ex:=GP E L;rw[<-s1,<-s2]at sH;have a1:XX.map m_.sx=(d8 E L).map fun e=>e.x.sx:=by
   have:=congrArg (List.map m_.sx) ex;rw[WL,WL]at this;rw[ev];exact this.symm
  have sa:SA Ks hh b (d8 E L):=⟨n0,K,XX,st,vKK,bg,Bk,bm,S,bl,pm,mc,sH,sk,a1,nz,ix.l? ex⟩;have fl:=aC aM (d8 E L);have ie:∀e∈d8 E L,u_ hh e.x:=by
   intro e m;have:e.x∈(d8 E L).map d_.x:=WP.2 ⟨e,m,rfl⟩;rw[ex]at this;let⟨z,mz,q⟩:=WP.1 this;rw[<-q];exact((D.u z mz).a F (D.c z mz)).H
  have aH:R_ hh:=F.pl _ _ (fun m=>by have:=D.f.vb 0 m;omega) gl;have aT:aj hh b8 0 1=some [vE]:=by rw[ac.N];rfl
  simp[b_,ae,Z,g8,g11,an,ar,ak,ax,aR.t_,aT];refine aa (Bc F.o sa (ZT gE fl oM) ie (by rw[oY];omega)) ?_;rintro _ h3 ⟨rfl,F3⟩;simp[b_];apply aa (xT (aH.fr F3));rintro _ _ ⟨rfl,rfl⟩;simp[b_];exact hR _ (fun q c r=>F3.ro q c (F.ro q c r)) (aH.fr F3)
end
open Go.Ev.St
theorem vV{L:List (Int×Bool×Bool)}{M:List Int}{n:Nat}(e:L.flatMap rc=M.flatMap ic)(l:(L.flatMap rc).length=n*3):¬0<n:=by
 intro h;cases L with
 |nil=>simp at l;omega
 |cons r L=>
  have:V.h r.2.1∈M.flatMap ic:=by rw[<-e];simp[rc]
  simp[ic]at this
theorem EC{L:List (Int×Bool×Bool)}{M:List Int}{n:Nat}(e:M.flatMap ic=L.flatMap rc)(l:(M.flatMap ic).length=n*1):¬0<n:=by
 intro h;cases L with
 |nil=>rw[e]at l;simp at l;omega
 |cons r L=>
  have:V.h r.2.1∈M.flatMap ic:=by rw[e];simp[rc]
  simp[ic]at this
section
variable {n0 : NL} {h : a_} {b bg Bk bm S bl N B b7 b8 b9 b12 : Nat} {Ks K : List p_} {X XX : List m_} {l' : List Int} {ks' : List Bool} {vK vKK vE vT v1 v2 : V} {pm : Option Nat} {mc : dN} {E : List d_} {Y : List (Nat × Int)} {view over a d : Int} {k : Nat}
theorem Mv{h2:a_}{p n e:Int}(D:DA N h Ks vK X vE E vT Y)(gl:R_ h)(hN:0<N)(ok:T7 view over)
 (s:L_ n0 h b K 12 XX (if e=0 then l' else E.map d_.b) (if e=0 then ks' else E.map d_.kn) (U1 Ks E) vKK bg Bk bm S bl pm mc) (sk:bX Ks K) (ev:XX.map m_.sx=E.map fun e=>e.x.sx)
 (nz:∀x∈XX,nZ x.vm=true) (ix:R2 mc.1 E) (hq:∀z∈vb vE,Lx n0 z/\z∉Wr b bg Bk bm S bl pm) (F:Fr [] h h2) (al:-1<=a/\a<(E.length:Nat)) (d1:0<=d/\d<=255)
 (ss:R5 (mX K Y XX) (U1 Ks E) view over a d true 0 0 (E.map d_.b) (E.map d_.kn) p n e l' ks') (aR:e=0\/e=13)
 (r1:F_ rc 3 h2 h.e v1 (fS Ks E)) (r2:F_ ic 1 h2 h.e v2 (E.map fun e=>T1 Ks Y e.x)) (o8:e_ h b8 [vE]) (o9:e_ h b9 [vK,ZZ 12,ZZ view,ZZ over,ZZ 1]) (az:e_ h b12 [ZX (k:Int),ZZ d])
 (g8:env.c_ 8=some (.u b8 0)) (g9:env.c_ 9=some (.u b9 0)) (g11:env.c_ 11=some (.u b 0)) (g12:env.c_ 12=some (.u b12 0)) (g13:env.c_ 13=some (ZZ a)) (a2:env.c_ 16=some (ZZ p)) (a3:env.c_ 17=some (ZZ n)) (ax:env.c_ 18=some (ZZ e)) (aT:env.c_ 21=some v1) (a1:env.c_ 22=some v2)
 (hR:∀h',(∀q c,Rs h q c->Rs h' q c)->R_ h'->R (.h true) h'):W go stM env h2 (i9 [.t 6] R):=by
 have w:=D.w;have lE:=D.l;have m2:∀{H},Fr [] h H->ab H b9 2=some (ZZ view):=fun f=>(f.i o9).j 2;have m3:∀{H},Fr [] h H->ab H b9 3=some (ZZ over):=fun f=>(f.i o9).j 3;have md:∀{H},Fr [] h H->ab H b12 1=some (ZZ d):=fun f=>(f.i az).j 1;obtain⟨h3,ak⟩:∃h3,h3=h_ h2 (ic 1):=⟨_,rfl⟩;have ac:Fr [] h2 h3:=ak▸WA F.o _;have ar:e_ h3 h2.e (ic 1):=ak▸Xc F.o _;have e3:h_ h2 [ZZ 1]=h3:=ak.symm;have ae:=F.c ac;simp[b_,j_,stM,g9,g12,g13,aT,a1,m2 F,m3 F,md F,e3];apply YA (x:=(1:Int)) ac.o (r2.fr ac) t7 rfl oM ar ae.e oO;intro aJ h4 aN F4;have Z:Fr [] h h4:=ae.ups w (Gs.up (r2.fr ac) F4);have a0:F_ rc 3 h4 h.e v1 (fS Ks E):=GRecs.a (r1.fr ac) (r2.fr ac) F4 (fun n=>vV);simp[b_,j_];have D4:=D.i Z;have am:lP h4 aJ ((E.map fun e:d_=>T1 Ks Y e.x)++[1]):=by have:=ZO t7 oM aN;unfold q_ at this;rw[CU]at this;exact this
 have lM:((E.map fun e:d_=>T1 Ks Y e.x)++[1]).length=E.length+1:=by simp
 have lR:(fS Ks E).length=E.length:=by simp[fS]
 refine aa (Bj Z.o a0 Z.e am D4.e ok oM (by rw[lR];omega) oM oM oM oM) ?_;rintro _ h5 ⟨F5,s',n',e',L',v',rfl,sr,ge⟩;rw[iB,GO,GN]at sr;have cg:=sr.e (m':=mX K Y XX) (fun i i0 i1=>by
  rw[Xd]at i1;obtain⟨j,rfl⟩:∃j:Nat,i=j:=⟨i.toNat,oM⟩;obtain⟨z,hz⟩:∃z,E[j]? =some z:=⟨_,Wf oM⟩;rw[HH sk ev D.H j z hz];unfold w?;rw[lM,pi,XP oM,Xo,XF oO,WM,hz];rfl)
 have fit:=D.e.a;rw[iB]at fit;have pos:=D.e.c;rw[iB]at pos;obtain⟨rfl,rfl,rfl,hl⟩:=R5.c ok ss cg fit pos (by simp[U1]) iS;have af:=Z.c F5;have D5:=D.i af;have s5:=s.fr w af;have an:=gl.fr af;have ay:=af.i o8;have aH:aj h5 b8 0 1=some [vE]:=by rw[ay.N];rfl
 obtain rfl|rfl:=aR;let⟨q1,q2⟩:=hl rfl;let⟨rR,lL⟩:=ge rfl;rw[if_pos rfl,if_pos rfl,q1,q2]at s5;rw[lR]at lL;simp[b_,DF,j_,ax,m2 F,m3 F,md F,m2 ae,m3 ae,md ae,m2 Z,m3 Z,md Z];exact Mu (p:=p) (n:=n) D5 an hN s5 sk ev nz ix hq (D.f.lt w) rR lL ay iX iX iX iX iS iS iS (fun h' r g=>hR h' (fun q c x=>r q c (af.ro q c x)) g);rw[if_neg oM,if_neg oM]at s5;simp[b_,DF,j_,g8,g11,ax,m2 F,m3 F,md F,m2 ae,m3 ae,md ae,m2 Z,m3 Z,md Z,aH,eq_true (oM:(0:Int)<13)];apply aa (Bc D5.w ⟨n0,K,XX,_,vKK,bg,Bk,bm,S,bl,pm,mc,s5,sk,ev,nz,ix⟩ D5.j (fun e m=>(D5.u e m).H) oM);rintro _ h6 ⟨rfl,F6⟩;simp[b_];apply aa (xT (an.fr F6));rintro _ _ ⟨rfl,rfl⟩;simp[b_];exact hR _ (af.c F6).ro (an.fr F6)
theorem Mw{p n e:Int}(D:DA N h Ks vK X vE E vT Y)(gl:R_ h)(hN:0<N)(ok:T7 view over)
 (s:L_ n0 h b K 12 XX (if e=0 then l' else E.map d_.b) (if e=0 then ks' else E.map d_.kn) (U1 Ks E) vKK bg Bk bm S bl pm mc) (sk:bX Ks K) (ev:XX.map m_.sx=E.map fun e=>e.x.sx)
 (nz:∀x∈XX,nZ x.vm=true) (ix:R2 mc.1 E) (hq:∀z∈vb vE,Lx n0 z/\z∉Wr b bg Bk bm S bl pm) (al:-1<=a/\a<(E.length:Nat)) (d1:0<=d/\d<=255)
 (ss:R5 (mX K Y XX) (U1 Ks E) view over a d true 0 0 (E.map d_.b) (E.map d_.kn) p n e l' ks') (a6:e=0\/e=13)
 (o7:e_ h b7 [vK,ZZ 12]) (o8:e_ h b8 [vE]) (o9:e_ h b9 [vK,ZZ 12,ZZ view,ZZ over,ZZ 1]) (a9:e_ h b12 [ZX (k:Int),ZZ d])
 (g7:env.c_ 7=some (.u b7 0)) (g8:env.c_ 8=some (.u b8 0)) (g9:env.c_ 9=some (.u b9 0)) (ax:env.c_ 10=some vT) (g11:env.c_ 11=some (.u b 0)) (g12:env.c_ 12=some (.u b12 0)) (g13:env.c_ 13=some (ZZ a)) (a2:env.c_ 16=some (ZZ p)) (aN:env.c_ 17=some (ZZ n)) (aJ:env.c_ 18=some (ZZ e))
 (hR:∀h',(∀q c,Rs h q c->Rs h' q c)->R_ h'->R (.h true) h'):W go stL env h (i9 [.t 6] R):=by
 have w:=D.w;have lE:=D.l;have k3:=D.r.2.1;have k1:vK.U=true:=Xs D.C;have e1:vE.U=true:=Gs.U D.f;have lT:=D.t.l;simp[b_,stL];refine aA (fun k env hh=>∃(i:Nat)(v1 v2:V),Fr [] h hh/\F_ rc 3 hh h.e v1 (fS Ks (E.take i))/\F_ ic 1 hh h.e v2 ((E.take i).map fun e=>T1 Ks Y e.x)/\env.c_ 21=some v1/\env.c_ 22=some v2/\env.c_ 23=some (ZZ i)/\env.c_ 7=some (.u b7 0)/\env.c_ 8=some (.u b8 0)/\env.c_ 9=some (.u b9 0)/\env.c_ 10=some vT/\env.c_ 11=some (.u b 0)/\env.c_ 12=some (.u b12 0)/\
  env.c_ 13=some (ZZ a)/\env.c_ 16=some (ZZ p)/\env.c_ 17=some (ZZ n)/\env.c_ 18=some (ZZ e)/\i<=E.length/\k=E.length-i) E.length oM ?_ ?_
 ·exact⟨0,.r,.r,Wl w,Zs,Zs,iS,iS,iS,iX,iX,iX,iX,iX,iX,iX,iX,iX,iX,oM,rfl⟩
 clear g7 g8 g9 ax g11 g12 g13 a2 aN aJ;rintro k' env hh ⟨i,v1,v2,F,r1,r2,a7,bn,an,g7,g8,g9,ax,g11,g12,g13,a2,aN,aJ,hi,rfl⟩;have Dh:=D.i F;have l8:∀{H},Fr [] h H->ab H b8 0=some vE:=fun f=>(f.i o8).j 0;have l7:∀{H},Fr [] h H->ab H b7 0=some vK:=fun f=>(f.i o7).j 0;have l9:∀{H},Fr [] h H->aj H b9 0 5=some [vK,ZZ 12,ZZ view,ZZ over,ZZ 1]:=fun f=>by rw[(f.i o9).N];rfl
 by_cases c:(i:Int)<E.length
 ·let⟨bi,oi,z,p1,_,_,p4⟩:=Dh.j.ix aM .i64 (i:Int) oM c;rw[pi]at p4;have zm:=Wc p4;have tz:=D.H z zm;have rd:∀{H},Fr [] h H->ab H bi (oi+4)=some (ZZ z.b)/\ab H bi (oi+5)=some (.h z.kn)/\ab H bi (oi+1)=some (ZY (z.x.K:Int))/\aj H bi oi 4=some z.x.s:=by
   intro H f;let⟨b',o',z',y1,y2,y3,y4⟩:=(D.i f).j.ix aM .i64 (i:Int) oM c;rw[p1]at y1;cases y1;rw[pi,p4]at y4;cases y4;exact⟨y2 4 oM,y2 5 oM,y2 1 oM,mE y3 oM⟩
  let⟨bk,ok',kd,bh,k2,_,k4⟩:=(Xn D.C F).ix cS .u8 (z.x.K:Int) oM oM;rw[pi]at k4;have x7:ab hh bk (ok'+7)=some (.h kd.Y):=k2 7 oM;have ks:bI Ks z.x=kd.Y:=by unfold bI;rw[k4]
  let⟨d4,d5,ay,dx⟩:=rd F;have a1:=l8 F;have a3:=l7 F;obtain⟨h4,ak⟩:∃h4,h4=h_ hh (rc (z.b,z.kn,bI Ks z.x)):=⟨_,rfl⟩;have ac:Fr [] hh h4:=ak▸WA F.o _;have aH:e_ h4 hh.e (rc (z.b,z.kn,bI Ks z.x)):=ak▸Xc F.o _;have e4:h_ hh [ZZ z.b,.h z.kn,.h kd.Y]=h4:=by rw[<-ks];exact ak.symm
  simp only[b_,seval,j_,a7,an,g7,g8,a1,a3,Dh.j.t_,c,p1,d4,d5,ay,bh,x7,e4];have tk:fS Ks (E.take (i+1))=fS Ks (E.take i)++[(z.b,z.kn,bI Ks z.x)]:=by unfold fS;rw[Wn,p4];simp
  have tm:((E.take (i+1)).map fun e=>T1 Ks Y e.x)=((E.take i).map fun e=>T1 Ks Y e.x)++[T1 Ks Y z.x]:=by rw[Wn,p4];simp
  have az:=F.c ac;refine YA (x:=(z.b,z.kn,bI Ks z.x)) ac.o (r1.fr ac) iD (CC _) oM aH az.e (by simp[fS];omega) ?_;intro aR h5 a8 F5;have ae:Fr [] h h5:=az.ups w (Gs.up (r1.fr ac) F5);have ar:F_ ic 1 h5 h.e v2 ((E.take i).map fun e=>T1 Ks Y e.x):=GRecs.a (r2.fr ac) (r1.fr ac) F5 (fun n=>EC);have D5:=D.i ae;simp only[b_,seval,DF,j_,bn,an,g8,g9,ax,a1,a3,p1,d4,d5,ay,x7,l9 ae,l8 ae,(rd ae).2.2.2];apply aa (HC ae.o (ZO gL oM D5.F) oM (ZF (D5.u z zm).H.m) D5.C tz oM);rintro _ h6 ⟨rfl,F6⟩;have a4:=ae.c F6;obtain⟨h7,af⟩:∃h7,h7=h_ h6 (ic (T1 Ks Y z.x)):=⟨_,rfl⟩;have Z:Fr [] h6 h7:=af▸WA F6.o _;have a0:e_ h7 h6.e (ic (T1 Ks Y z.x)):=af▸Xc F6.o _;have e7:h_ h6 [ZZ (T1 Ks Y z.x)]=h7:=af.symm;have aT:=a4.c Z;simp only[b_,seval,j_,e7];apply YA (x:=T1 Ks Y z.x) Z.o ((ar.fr F6).fr Z) t7 rfl oM a0 aT.e oO;intro a5 h8 bf F8;have bj:Fr [] h h8:=aT.ups w (Gs.up ((ar.fr F6).fr Z) F8);have ba:F_ rc 3 h8 h.e aR (fS Ks (E.take i)++[(z.b,z.kn,bI Ks z.x)]):=GRecs.a (((F_.fr a8 F6)).fr Z) ((ar.fr F6).fr Z) F8 (fun n=>vV);simp(disch:=omega) only[b_,seval,DF,j_,ag,an,g9,l9 ae,l8 ae,(rd ae).2.2.2];refine s_ ⟨E.length-(i+1),oM,i+1,aR,a5,bj,by rw[tk];exact ba,by rw[tm];exact bf,iS,iS,iS,iX,iX,iX,iX,iX,iX,iX,iX,iX,iX,oM,rfl⟩
  done
 ·obtain rfl:i=E.length:=oM
  rw[Xq]at r1 r2;simp[b_,an,g8,l8 F,Dh.j.t_];exact Mv D gl hN ok s sk ev nz ix hq F al d1 ss a6 r1 r2 o8 o9 a9 iX iX iX iX iX iX iX iX iX iX hR
end
open Go.Ev.St
theorem Cp:∀(Y:List (Nat×Int))(m:Nat→Option Nat)(i:Nat),(∀p∈Y,1≤p.1)→(∀p∈Y,1≤p.2∧p.2≤50)→(Y.map Prod.fst).Nodup→(∀p∈Y,m p.1=none)→(Z_ m i Y).2=0
 |[],_,_,_,_,_,_=>rfl
 |p::Y,m,i,k,s,n,z=>by
  have e:tI m p=0:=by have:=k p iS;have:=s p iS;unfold tI;rw[if_neg oM,if_neg oM,z p iS];rfl
  rw[Z_,if_pos e];rw[List.map_cons,List.nodup_cons]at n;refine Cp Y _ _ (fun q mq=>k q iX) (fun q mq=>s q iX) n.2 (fun q mq=>?_);have:q.1≠p.1:=fun e=>n.1 (List.mem_map.2 ⟨q,mq,e⟩);simp[gy,this,z q iX]
section
variable {n0 : NL} {h h0 : a_} {b bg Bk bm S bl N b5 b7 b8 b9 b12 : Nat} {Ks K : List p_} {X XX : List m_} {l' : List Int} {ks' : List Bool} {vK vKK vE vT : V} {pm : Option Nat} {mc : dN} {E : List d_} {Y : List (Nat × Int)} {view over a d : Int} {k : Nat}
theorem JE(t:T? Y):H64 Y:=fun x m=>by have:=t.k x m;have:=t.s x m;omega
theorem TR.of(g:F_ hc 2 h N vT Y)(t:T? Y):TR h vT Y:=fun h' f _=>by
 have l:=t.l;have g':F_ hc 2 h' N vT Y:=by obtain x|⟨q,n,rfl,Z,hn,K,o⟩:=g;exact .inl x;exact .inr ⟨q,n,rfl,Z,hn,K,f.I _ _ (.inr (by rw[aC gL];omega)) (by rw[aC gL];omega) o⟩
 exact Sl.a (ZO gL oM g')
theorem OR{m:Nat->Option Nat}{n:Nat}(K:AZ k a d m n):uO m k=a:=by obtain⟨_,_,_,⟨Z,e,_⟩|⟨Z,i,e,mk⟩⟩:=K;unfold uO;rw[if_pos Z,e];unfold uO;rw[if_neg Z,mk,e]
theorem OH{m:Nat->Option Nat}{n:Nat}(Z:AZ k a d m n)(t:T? Y):O? m k d Y=0:=by let⟨d0,K,_,x⟩:=Z;unfold O?;rw[if_pos (Cp Y _ _ (fun p m=>(t.k p m).1) t.s t.n (fun _ _=>rfl)),if_pos,if_neg];grind;unfold acE;rw[if_neg];obtain⟨_,_,e,_⟩|⟨e,_⟩:=x<;>omega
theorem Mt{p n e:Int}(D:DA N h Ks vK X vE E vT Y)(gl:R_ h)(ok:T7 view over)
 (s:L_ n0 h b K 12 XX (if e=0 then l' else E.map d_.b) (if e=0 then ks' else E.map d_.kn) (U1 Ks E) vKK bg Bk bm S bl pm mc) (sk:bX Ks K) (ev:XX.map m_.sx=E.map fun e=>e.x.sx)
 (nz:∀x∈XX,nZ x.vm=true) (ix:R2 mc.1 E) (an:AZ k a d mc.1 E.length) (ss:R5 (mX K Y XX) (U1 Ks E) view over a d false 0 0 (E.map d_.b) (E.map d_.kn) p n e l' ks')
 (o8:e_ h b8 [vE]) (o9:e_ h b9 [vK,ZZ 12,ZZ view,ZZ over,ZZ 1]) (aH:e_ h b12 [ZX (k:Int),ZZ d])
 (g8:env.c_ 8=some (.u b8 0)) (g9:env.c_ 9=some (.u b9 0)) (a3:env.c_ 10=some vT) (g11:env.c_ 11=some (.u b 0)) (g12:env.c_ 12=some (.u b12 0)) (a0:env.c_ 16=some (ZZ p)) (a1:env.c_ 17=some (ZZ n)) (aT:env.c_ 18=some (ZZ e))
 (hR:∀h',(∀q c,Rs h q c->Rs h' q c)->R_ h'->R (.h true) h'):W go stS env h (sP go stL (i9 [.t 6] R)):=by
 have w:=D.w;have k1:vK.U=true:=Xs D.C;have l9:aj h b9 0 5=some [vK,ZZ 12,ZZ view,ZZ over,ZZ 1]:=by rw[o9.N];rfl
 have l8:aj h b8 0 1=some [vE]:=by rw[o8.N];rfl
 have aR:aj h b12 0 2=some [ZX (k:Int),ZZ d]:=by rw[aH.N];rfl
 simp[b_,stS,g8,g9,a3,g12,l9,l8,aR];apply aa (JO (m:=mX K Y XX) (D.K ok) D.j D.o (Go.Ev.Lay.Gs.nE D.f) ix an (HH sk ev D.H));rintro _ h1 ⟨F1,vZ,Z,s',n',rfl,sr,ol,af⟩;have fit:=D.e.a;rw[iB]at fit;have pos:=D.e.c;rw[iB]at pos;obtain⟨rfl,rfl,rfl,hl⟩:=R5.c ok ss sr fit pos (by simp[U1]) iS;obtain⟨rfl,rfl⟩:=hl rfl;rw[if_pos rfl,if_pos rfl]at s;have oz:=Xs ol.f.rs;let⟨h2,ar,ae,az⟩:=aq F1.o [.r,ZZ 0,ZZ 0];simp[b_,<-ar];refine ai (c':=[vZ,ZZ p,ZZ (n':Int)]) ae.o az rfl (by show aw [_,_,_]=true;simp only[au,aB,oz];rfl) rfl ?_;rintro h3 o3 F3 n3;have ay:Fr [] h1 h3:=ae.z F3 F1.o (VZ _);have ac:=F1.c ay;have ax:=ol.e ay;have s3:=s.fr w ac;have ak:=gl.fr ac;have lZ:Z.length=E.length:=by have:=congrArg List.length af;simpa using this
 have a2:ab h3 h1.e 1=some (ZZ p):=o3.j 1;have aN:ab h3 h1.e 2=some (ZZ (n':Int)):=o3.j 2;have mz:aj h3 h1.e 0 1=some [vZ]:=by rw[o3.N];rfl
 have lE:=D.l;have aJ:R2 mc.1 Z:=by rw[kY]at ix|-;have:=congrArg (List.map fun p:Nat×Nat×g_×List g_=>p.1) af;rw[WL,WL]at this;rw[show(Z.map fun e=>e.x.J)=E.map fun e=>e.x.J from this];exact ix
 simp[b_,g11,a0,a1,aT,a2,aN,mz];apply aa (Bc ac.o ⟨n0,K,XX,_,vKK,bg,Bk,bm,S,bl,pm,mc,s3,sk,ev.trans af.symm,nz,aJ⟩ ax.f.rs ax.o oM);rintro _ h4 ⟨rfl,F4⟩;simp[b_];apply aa (xT (ak.fr F4));rintro _ _ ⟨rfl,rfl⟩;simp[b_];exact hR _ (ac.c F4).ro (ak.fr F4)
theorem Gx{z0 z1 z2:Nat}(D0:DA N h0 Ks vK X vE E vT Y)(f0:Fr [] h0 h)(gl:R_ h)(hN:0<N)(ok:T7 view over)
 (s:L_ n0 h b K 12 XX (E.map d_.b) (E.map d_.kn) (U1 Ks E) vKK bg Bk bm S bl pm mc) (sk:bX Ks K) (ev:XX.map m_.sx=E.map fun e=>e.x.sx) (nz:∀x∈XX,nZ x.vm=true) (ix:R2 mc.1 E)
 (ba:h0.e<=n0.1) (hw:∀y∈Wr b bg Bk bm S bl pm,h0.e<=y) (an:AZ k a d mc.1 E.length) (al:-1<=a/\a<(E.length:Nat)) (d1:0<=d/\d<=255)
 (p5:e_ h0 b5 [ZY (z0:Int),ZY (z1:Int),ZY (z2:Int)]) (p7:e_ h0 b7 [vK,ZZ 12]) (p8:e_ h0 b8 [vE]) (p9:e_ h0 b9 [vK,ZZ 12,ZZ view,ZZ over,ZZ 1]) (a2:e_ h b12 [ZX (k:Int),ZZ d])
 (g5:env.c_ 5=some (.u b5 0)) (g7:env.c_ 7=some (.u b7 0)) (g8:env.c_ 8=some (.u b8 0)) (g9:env.c_ 9=some (.u b9 0)) (a9:env.c_ 10=some vT) (g11:env.c_ 11=some (.u b 0)) (g12:env.c_ 12=some (.u b12 0)) (g13:env.c_ 13=some (ZZ a))
 (hR:∀h',(∀q c,Rs h q c->Rs h' q c)->R_ h'->R (.h true) h'):W go stT env h (i9 [.t 6] R):=by
 have w:=f0.o;have D:=D0.i f0;have lE:=D.l;have k3:=D.r.2.1;have o5:=f0.i p5;have o9:=f0.i p9;have m2:ab h b9 2=some (ZZ view):=o9.j 2;have m3:ab h b9 3=some (ZZ over):=o9.j 3;have m5:ab h b5 2=some (ZY (z2:Int)):=o5.j 2;have ia:=iU 1 b5 0 3 .i64 2 oM oM;rw[(iR:0+(2:Int).toNat*1=2)]at ia;have rm:=zr z2 2 2 rfl oM;obtain⟨lo,a7⟩:∃lo:Bool,decide (((z2%2:Nat):Int)=1)=lo:=⟨_,rfl⟩;let⟨h1,aH,ak,a0⟩:=aq w [ZZ 0,ZZ 0,.h false];simp only[b_,seval,stT,g5,g9,m2,m3,m5,ia,rm,a7,<-aH];apply B_ ak.o a0;rintro h2 az F2 n2;have Z:Fr [] h h2:=ak.z F2 w (VZ _);have f2:=f0.c Z;have s2:=s.fr w Z;have ax:=gl.fr Z;have D2:=D.i Z;have ae:=Z.i a2;have a1:aj h2 h.e 0 3=some [ZZ view,ZZ over,.h lo]:=by rw[az.N];rfl
 have a4:aj h2 b12 0 2=some [ZX (k:Int),ZZ d]:=by rw[ae.N];rfl
 have ar:XX.length=E.length:=by have:=congrArg List.length ev;simpa using this
 have kl:=eX sk;have pos:=D.e.c;rw[iB]at pos;have ay:=Cy sk (fun q m=>(D.r.2.2 q m).2.2);have rd:=s2.rd [] h2 iS (Wl Z.o);have cz:=OH (Y:=Y) an D.t;have tl:=D.t.l;simp[b_,a9,g11,g12,a1,a4];refine aa (Bf (Tl:=Y) Z.o ax s2 pos ay (DR ev (fun e m=>by have:=D.H e m;omega)) oM (fun e=>by rw[e,XM]at kl;omega) (fun x m=>ZF (rd.2.2 x m).m) (fun key j q=>by
  let⟨e,h1,_⟩:=(ix key j).1 q;have:=(Wk.1 h1).1;omega) (by simp[U1]) (TR.of D2.F D.t) (JE D.t) oM an.2.2.1) ?_
 rintro _ hs ⟨p,n,e,rfl,_,_,q3⟩;let⟨l',ks',ss,ac,FL⟩:=q3 ok cz;rw[OR an]at ss;have a5:e=0\/e=13:=ss.e (fun i _ _=>LR (OI cz).1 ay i) (by simp[U1]) iS pos;have a6:=hw bl (by simp[Wr]);have fo:FO h0 hs:=(FO.r f2).j D0.w a6 FL.f;have Ds:=D0.J fo;have sp:=ac;let⟨_,_,ol,_⟩:=s2.lo;have zb:0≠bl:=by rintro rfl;have:=congrArg List.length (ax.I.uniq ol);have:gq.length=3:=this;exact absurd this dI
 have aN:=ax.frF FL.f zb;have ll:=ss.f;have sS:L_ n0 hs b K 12 XX (if e=0 then l' else E.map d_.b) (if e=0 then ks' else E.map d_.kn) (U1 Ks E) vKK bg Bk bm S bl pm mc:=by by_cases z:e=0;rw[if_pos z]at ac;rw[if_pos z,if_pos z];exact s2.settled Z.o FL ac (by rw[ll z,Xd,ar]);rw[if_neg z]at ac;rw[if_neg z,if_neg z];exact s2.settled Z.o FL ac (by rw[Xd,ar])
 have af:=FL.f.e ol (.inr iS) iS ae;have a3:=FL.f.a _ _ (by have:=s.bl';omega) (Nf.e (.inr iS)) az;have a8:=fo.e _ _ (.inr iS) p7;have aT:=fo.e _ _ (.inr iS) p8;have aJ:=fo.e _ _ (.inr iS) p9;have l2:ab hs h.e 2=some (.h lo):=a3.j 2;have aR:∀h',(∀q c,Rs hs q c->Rs h' q c)->R_ h'->R (.h true) h':=fun h' r g=>hR h' (fun q c x=>r q c (FL.f.i q c (Z.ro q c x))) g;cases lo;simp[b_,l2];exact Mt Ds aN ok sS sk ev nz ix an ss aT aJ af iX iX iX iX iX iS iS iS aR;simp[b_,l2];exact Mw Ds aN hN ok sS sk ev nz ix (fun z m=>by
  have:=D0.f.lt D0.w z m;exact⟨.inl oM,fun c=>by have:=hw z c;omega⟩) al d1 ss a5 a8 aT aJ af iX iX iX iX iX iX iX iS iS iS aR
end
open Go.Ev.St
set_option maxHeartbeats 1000000 in
theorem rS{h:a_}{vI vH ay:V}{kb vw ar ov z0 z1 z2:Nat}{L:List (Nat×Nat×Nat×Nat)}{H:List Nat}{ps:List (Nat×Nat)}(w:WF h)(gl:R_ h)(a:C_ q4 4 h vI L)(hb:∀q∈L,q.1<256/\q.2.1<256/\q.2.2.1<256/\q.2.2.2<256)
 (aH:C_ b8 1 h vH H) (hH:∀n∈H,n<256) (hk:kb<256) (aT:C_ uc 2 h ay ps) (hp:∀p∈ps,p.1<256/\p.2<256) (cB:vw<256) (bv:ar<65536) (cO:ov<256) (dz:z0<256) (d2:z1<256) (dF:z2<256):
 ao go 4 [.B [vI,vH,ZY (kb:Int)],.B [ZY (vw:Int),.A .u16 (ar:Int),ZY (ov:Int),ay],.B [ZY (z0:Int),ZY (z1:Int),ZY (z2:Int)]] h fun u h'=>u=.h true/\(∀q c,Rs h q c->Rs h' q c)/\R_ h':=by
 have i1:=ZF a;have i2:=ZF aH;have i3:=ZF aT;let⟨h1,az,a5,co⟩:=aq w [vI,vH,ZY (kb:Int)];let⟨h2,aR,a0,bt⟩:=aq a5.o [ZY (vw:Int),.A .u16 (ar:Int),ZY (ov:Int),ay];let⟨h3,aJ,a2,bz⟩:=aq a0.o [ZY (z0:Int),ZY (z1:Int),ZY (z2:Int)];have n1:=x_ az;have n2:=x_ aR;have n3:=x_ aJ;have bT:=a0.c a2;have ak:=a5.c bT;have o3:=bT.i co;have o4:=a2.i bt;have l3:aj h3 h.e 0 3=some [vI,vH,ZY (kb:Int)]:=by rw[o3.N];rfl
 refine ah ?_;simp[b_,<-az,<-aR,<-aJ,l3];refine aa (MY ak.o (a.fr ak) hb (aH.fr ak) hH hk) ?_;rintro _ h4 ⟨F4,vK,Ks,vX,X,vE,E,rfl,rk,kh,gk,dd,lk,il,gE,eo,nd,dc⟩;have k1:vK.U=true:=Xs rk;have e1:vE.U=true:=Gs.U gE;let⟨h5,a1,a4,bE⟩:=aq F4.o [.r,ZZ 0];let⟨h6,a3,ac,ci⟩:=aq a4.o [.r];have n4:=F4.e;have n5:=x_ a1;have n6:=x_ a3;simp[b_,<-a1,<-a3];refine ai (c':=[vK,ZZ 12]) ac.o (ac.i bE) rfl (by show aw [_,_]=true;simp only[au,aB,k1];rfl) rfl ?_;rintro h7 o7 F7 n7;have cA:=F7.I _ _ oO ci;simp[b_];refine ai (v:=.B [vE]) (c':=[vE]) F7.o cA rfl (by show aw [_]=true;simp only[au,aB,e1];rfl) rfl ?_;rintro h8 o8 F8 n8;have bB:=F8.I _ _ oO o7;have cj:Fr [] h4 h8:=((a4.c ac).z F7 F4.o oM).z F8 F4.o oM;have cr:=F4.c cj;have cg:=ak.c cr;have m4:aj h8 h1.e 0 4=some [ZY (vw:Int),.A .u16 (ar:Int),ZY (ov:Int),ay]:=by rw[(cr.i o4).N];rfl
 have m7:aj h8 h4.e 0 2=some [vK,ZZ 12]:=by rw[bB.N];rfl
 simp[b_,m4,m7];apply aa (Nd cg.o (aT.fr cg) hp k1 cB cO bv);rintro _ h9 ⟨⟨Y,vT,rfl,gT,tok⟩,F9⟩;have t1:vT.U=true:=F_.U gT;obtain⟨view,ev⟩:∃view:Int,view=1+((vw%200:Nat):Int):=⟨_,rfl⟩;obtain⟨over,dp⟩:∃over:Int,over=((ov%4:Nat):Int):=⟨_,rfl⟩;rw[<-ev,<-dp];let⟨ha,a6,a7,bC⟩:=aq F9.o [.r,ZZ 0,ZZ 0,ZZ 0,ZZ 0];have n9:=F9.e;have na:=x_ a6;simp[b_,<-a6];refine ai (c':=[vK,ZZ 12,ZZ view,ZZ over,ZZ 1]) a7.o bC rfl (by show aw [_,_,_,_,_]=true;simp only[au,aB,k1];rfl) rfl ?_;rintro he o9 Fe ne;have cq:Fr [] h9 he:=a7.z Fe F9.o (VZ _);have a9:=F9.c cq;have af:=cj.c a9;have cu:=F4.c af;have an:=ak.c cu;have a8:=a9.i bB;have ax:=a9.i o8;have D:DA h3.e he Ks vK X vE E vT Y:=⟨an.o,Xn rk af,fun q m=>(kh q m).fr af,⟨dd,lk,gk⟩,gE.fr af,fun e m=>(il.i e.x (eo e m).m).a af iS,eo,nd,dc,Gs.ge (gT.fr cq) oM,tok⟩;have cU:aj he h4.e 0 2=some [vK,ZZ 12]:=by rw[a8.N];rfl
 have c6:aj he h5.e 0 1=some [vE]:=by rw[ax.N];rfl
 simp[b_,cU,c6];apply aa (DX an.o D.C D.I D.j D.o);rintro _ hg ⟨b,rfl,Fg,n0,K,XX,d1,bg,Bk,bm,S,bl,pm,mc,cb,sk,bu,nz,ix,d3,hw,ch⟩;have cz:=an.c Fg;have dr:=an.e;have Dg:=D.i Fg;have ct:=gl.fr cz;let⟨hi,cx,aN,ca⟩:=aq Fg.o [ZX 0,ZZ 0];simp[b_,<-cx];apply B_ aN.o ca;rintro hj bj Fj nj;have ae:Fr [] hg hj:=aN.z Fj Fg.o (VZ _);have Z:=Fg.c ae;have Dj:=D.i Z;have p5:=cu.i bz;have cl:T7 view over:=⟨oM,oM,oM,oM⟩;have len:=Dj.j.t_;have bh:∀{H},Fr [] he H->ab H h5.e 0=some vE:=fun f=>(f.i ax).j 0;have fin:∀{H},Fr [] he H->∀h',(∀q c,Rs H q c->Rs h' q c)->R_ h'->(fun u h'=>u=V.h true/\(∀q c,Rs h q c->Rs h' q c)/\R_ h') (.h true) h':=fun f h' r g=>⟨rfl,fun q c x=>r q c (f.ro q c (an.ro q c x)),g⟩;by_cases c:E.length=0;simp only[b_,seval,bh Z,len,eq_false (oM:¬(0:Int)<E.length)];exact Gx (k:=0) (a:=-1) (d:=0) (b5:=h2.e) (b7:=h4.e) (b8:=h5.e) (b9:=h9.e) (b12:=hg.e) D Z (ct.fr ae) oM cl (cb.fr Fg.o ae) sk bu nz ix ch hw ⟨oM,oM,oM,.inl ⟨rfl,rfl,rfl,c⟩⟩ oM oM p5 a8 ax o9 bj iS iS iS iS iS iS iS iS (fin Z);have da:∀{H},Fr [] he H->ab H h2.e 0=some (ZY (z0:Int)):=fun f=>(f.i p5).j 0;have bA:∀{H},Fr [] he H->ab H h2.e 1=some (ZY (z1:Int)):=fun f=>(f.i p5).j 1;have ia:=iU 1 h2.e 0 3 .i64 0 oM oM;have ib:=iU 1 h2.e 0 3 .i64 1 oM oM;rw[(iR:0+(0:Int).toNat*1=0)]at ia;rw[(iR:0+(1:Int).toNat*1=1)]at ib;obtain⟨n,hn⟩:∃n:Nat,n=z0%E.length:=⟨_,rfl⟩;have nl:n<E.length:=by rw[hn];exact XC _ oM
 have rm:aP (.e .rem) [ZZ (z0:Int),ZZ (E.length:Int)]=some (ZZ (n:Int)):=by rw[jD _ _ _ oM,hn];rfl
 let⟨bi,oi,e,p1,p2,p3,p4⟩:=Dj.j.ix aM .i64 (n:Int) oM oM;rw[pi]at p4;have bn:ab hj bi oi=some (ZX (e.x.J:Int)):=p2 0 oM;have em:=Wc p4;have c0:=(Dj.u e em).k;have kp:=Dj.o.i e em;simp(disch:=omega) only[b_,seval,j_,ag,bh Z,len,eq_true (oM:(0:Int)<E.length),ia,ib,da Z,bA Z,rm,p1,bn];apply B_ ae.o bj;rintro bk cc Fk nk;have bf:Fr [] hg bk:=ae.z Fk Fg.o (VZ _);have ba:=Fg.c bf;let⟨dB,d0,e',cn,cy,_,bw⟩:=(D.i ba).j.ix aM .i64 (n:Int) oM oM;rw[p1]at cn;cases cn;rw[pi,p4]at bw;obtain rfl:=Xl bw;have dx:ab bk bi oi=some (ZX (e.x.J:Int)):=cy 0 oM;simp[b_,DF,bA Z,bh Z,bn];exact Gx (k:=e.x.J) (a:=n) (d:=z1) (b5:=h2.e) (b7:=h4.e) (b8:=h5.e) (b9:=h9.e) (b12:=hg.e) D ba (ct.fr bf) oM cl (cb.fr Fg.o bf) sk bu nz ix ch hw ⟨oM,oM,c0,.inr ⟨oM,n,rfl,(ix e.x.J n).2 ⟨e,p4,rfl⟩⟩⟩ oM oM p5 a8 ax o9 cc iS iS iS iS iS iS iS iS (fin ba)
end Go.Ev.Lay
