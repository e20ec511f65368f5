/- An evaluator of the program, and contracts over it: StbS to StcO. -/
import Derived.Test.YtknldhlnhobdhaaGreatDoorP09
import Derived.Test.YtknldhlnhobdhaaGreatDoorP11
set_option linter.unusedSimpArgs false
set_option linter.unusedVariables false
set_option linter.constructorNameAsVariable false
set_option linter.unnecessarySimpa false
set_option maxRecDepth 4000
namespace Go.Ev.Lay
variable{h' h2:a_}{Z:List Nat}{cs:List V}{α:Type}{va vK vE:V}{pm:Option Nat}{n0:NL}{bg bm bl:Nat}{Ks K:List p_}{cap:Int}{kn st:List Bool}
open Go.Ev.St
def q4(q:Nat×Nat×Nat×Nat):List V:=[ZY (q.1:Int),ZY (q.2.1:Int),ZY (q.2.2.1:Int),ZY (q.2.2.2:Int)]
structure IL(N:Nat)(h:a_)(v:V)(X:List m_):Prop where
 g:Gs h N 4 v (X.flatMap m_.s)
 i:∀x∈X,W1 N h x
 d:∀x∈X,∀z∈vb v,z∉vb x.vm
 n:(X.map m_.J).Nodup
theorem IL.e{N:Nat}{h:a_}{v:V}{X:List m_}(a:IL N h v X)(f:Fr [] h h'):IL N h' v X:=⟨a.g.fr f,fun x m=>(a.i x m).a f iS,a.d,a.n⟩
theorem IL.f{N:Nat}{h:a_}{v:V}{X:List m_}(a:IL N h v X)(f:Fr Z h h')(l:∀z∈Z,z<N):IL N h' v X:=
 ⟨a.g.keep f l,fun x m=>(a.i x m).a f (fun z hz c=>by have:=l z hz;have:=(a.i x m).g.vb z c;omega),a.d,a.n⟩
theorem W1.d{N M:Nat}{h:a_}{x:m_}(a:W1 N h x)(l:M<=N):W1 M h x:=⟨a.k,a.t,a.g.le l,a.n,a.l⟩
theorem IL.k{N M:Nat}{h:a_}{v:V}{X:List m_}(a:IL N h v X)(l:M<=N):IL M h v X:=⟨a.g.le l,fun x m=>(a.i x m).d l,a.d,a.n⟩
theorem IL.j{N:Nat}{h:a_}{v:V}{X:List m_}(a:IL N h v X):q_ m_.s 4 h v X:=ZT (n:=X.length) a.g (aC dP X) oM
theorem _root_.Go.Ev.Gs.lt{h:a_}{B e:Nat}{v:V}(w:WF h)(g:Gs h B e v cs):∀z∈vb v,z<h.e:=by obtain⟨rfl,_⟩|⟨b,n,rfl,_,_,_,o⟩:=g;simp[Go.Ev.vb];intro z m;simp[Go.Ev.vb]at m;have:=o.lt w;omega
theorem MN{h:a_}{v:V}{L:List (Nat×Nat×Nat×Nat)}(w:WF h)(a:C_ q4 4 h v L)(hb:∀q∈L,q.1<256/\q.2.1<256/\q.2.2.1<256/\q.2.2.2<256):
 ao go 30 [.B [v]] h fun u h'=>Fr [] h h'/\∃X,IL h.e h' u X/\X.length<=12:=by
 let⟨h1,af,K,aT⟩:=aq w [v];have n1:=x_ af;refine ah ?_;simp[b_,<-af];refine aA (fun n env hh=>Fr [] h hh/\Fr [] h1 hh/\∃(i:Nat)(u:V)(X:List m_),env.c_ 4=some (ZZ i)/\env.c_ 3=some u/\env.c_ 1=some (.u h.e 0)/\i<=L.length/\i<=12/\X.length<=i/\IL h1.e hh u X/\n=12-i) 12 oM ?_ ?_;exact⟨K,Wl K.o,0,.r,[],iS,iS,iS,oM,oM,iS,⟨.inl ⟨rfl,rfl⟩,iS,iS,iS⟩,rfl⟩;rintro n env hh ⟨F,F1,i,u,X,g4,g3,g1,hi,a5,hX,il,rfl⟩;have ob:=F1.i aT;have l0:ab hh h.e 0=some v:=ob.j 0;have len:=(a.fr F).t_;by_cases c1:i<L.length;by_cases c2:i<12;let⟨bi,oi,q,p1,_,p3,p4⟩:=(a.fr F).ix (f:=q4) (k:=4) (fun _=>rfl) .i64 (i:Int) oM oM;rw[pi]at p4;let⟨b1,b2,b3,b4⟩:=hb q (Wc p4);simp only[b_,seval,g4,g1,l0,len,(oM:(i:Int)<L.length),(oM:(i:Int)<12),p1,p3];refine aa (J4 F.o b1 b2 b3 b4) ?_;rintro _ h2 ⟨F2,x,rfl,gx⟩;let⟨h3,ak,ar,az⟩:=aq F2.o [ZX 0,ZY 0,.f [],.r];simp only[b_,seval,<-ak];refine ai (c':=x.s) ar.o az rfl gx.H.U rfl ?_;rintro h4 o4 F4 n4;have n3:=x_ ak;have n2:=F2.e;have nh:=F1.e;have aJ:Fr [] h2 h4:=ar.z F4 F2.o oM;have ac:=F2.c aJ;have ax:=il.e ac;have a3:=gx.a aJ iS;have k0:ab h4 h2.e 0=some (ZX (x.J:Int)):=o4.j 0;have a0:aj h4 h2.e 0 4=some x.s:=by rw[o4.N];rfl
 simp only[b_,seval,g3,k0];refine aa (Ih ax.j oM) ?_;rintro _ _ ⟨rfl,r,rfl,hr⟩;by_cases c3:r<0;let⟨h5,an,Z,aN⟩:=aq F4.o x.s;have u1:bG [ZX 0,ZY 0,.f [],.r] 0 x.s=some x.s:=rfl;simp only[b_,seval,g3,eq_true c3,a0,(iR:x.s.length=4),u1,<-an];have n5:=x_ an;have ae:=ax.e Z;have aR:=a3.a Z iS;refine Ym (bytes:=56) (n:=1) Z.o ae.g (Xy aN rfl) oM oM gx.H.U oM (by rw[aC dP X];omega) ?_;intro u' h6 G6 e6 F6;have ul:=il.g.lt F.o;have ub:=il.g.vb;have xb:=gx.g.vb;have a2:=aR.a F6 (fun z m c=>by have:=ul z m;have:=xb z c;omega);have i6:∀y∈X,W1 h1.e h6 y:=fun y m=>(ae.i y m).a F6 (ae.d y m);have xl:=aR.g.lt Z.o;have n6:=F6.e;have ay:=ac.c Z;have FN:Fr [] h h6:=XD w (F.c ay) F6 (fun y hy=>by have:=ub _ hy;omega);have a4:Fr [] h1 h6:=XD K.o (F1.c ay) F6 (fun y hy=>ub _ hy);have eq:(X++[x]).flatMap m_.s=X.flatMap m_.s++x.s:=by simp
 have nk:∀y∈X,y.J≠x.J:=fun y m e=>by have:=hr.2 ⟨y,m,e⟩;omega
 have a1:IL h1.e h6 u' (X++[x]):=by refine⟨by rw[eq];exact G6,?_,?_,?_⟩;intro y m;obtain m|m:=Wa.1 m;exact i6 y m;rw[Wi.1 m];exact a2.d oM;intro y m z hz c;rw[e6,Wi]at hz;subst hz;obtain m|m:=Wa.1 m;have:=(ae.i y m).g.lt Z.o _ c;omega;grind;rw[Xe,YT];refine⟨il.n,iS,?_⟩;intro p hp p' aH e;obtain⟨y,ym,rfl⟩:=WP.1 hp;simp at aH;exact nk y ym (by rw[e,aH])
 simp(disch:=omega) only[b_,seval,ag,g4];refine s_ ⟨12-(i+1),oM,FN,a4,i+1,u',X++[x],iS,iS,iX,oM,oM,by simp;omega,a1,rfl⟩;simp(disch:=omega) only[b_,seval,ag,g4,eq_false c3];refine s_ ⟨12-(i+1),oM,F.c ac,F1.c ac,i+1,u,X,iS,iX,iX,oM,oM,oM,ax,rfl⟩;simp[b_,g4,g3,g1,l0,len,(oM:(i:Int)<L.length),(oM:¬(i:Int)<12)];exact⟨F,X,il.k oM,oM⟩;simp[b_,g4,g3,g1,l0,len,(oM:¬(i:Int)<L.length)];exact⟨F,X,il.k oM,oM⟩
structure d_ where
 x:m_
 b:Int
 kn:Bool
def d_.s(e:d_):List V:=e.x.ent e.b e.kn
theorem aM(e:d_):e.s.length=6:=rfl
def b8(n:Nat):List V:=[ZY (n:Int)]
structure EOk(Ks:List p_)(X:List m_)(e:d_):Prop where
 m:e.x∈X
 o:Q2 e.x 3=true
 r:cG Ks 12 e.x=0
 b:e.kn=false->e.b=aQ Ks e.x
 c:e.kn=true->1<=e.b/\e.b<=50
set_option maxHeartbeats 1000000 in
theorem MY{h:a_}{vI vH:V}{kb:Nat}{L:List (Nat×Nat×Nat×Nat)}{H:List Nat}(w:WF h)(a:C_ q4 4 h vI L)(hb:∀q∈L,q.1<256/\q.2.1<256/\q.2.2.1<256/\q.2.2.2<256)
 (aH:C_ b8 1 h vH H) (hH:∀n∈H,n<256) (hk:kb<256):
 ao go 6 [.B [vI,vH,ZY (kb:Int)]] h fun u h'=>Fr [] h h'/\∃vK Ks vX X vE,∃E:List d_,u=.D [.B [vK,ZZ 12],.B [vE]]/\q_ p_.s 9 h' vK Ks/\(∀q∈Ks,Q9 h' q)/\GK Ks/\X5 Ks 12=true/\Ks.length=3/\
  IL h.e h' vX X/\Gs h' h.e 6 vE (E.flatMap d_.s)/\(∀e∈E,EOk Ks X e)/\(E.map fun e=>e.x.J).Nodup/\E.length<=12:=by
 let⟨h1,a7,bm,bt⟩:=aq w [vI,vH,ZY (kb:Int)];let⟨h2,ba,bf,bB⟩:=aq bm.o [.r,ZZ 0];let⟨h3,a8,a0,bC⟩:=aq bf.o [.r];have n1:=x_ a7;have n2:=x_ ba;have n3:=x_ a8;have bz:=bf.c a0;have k2:ab h3 h.e 2=some (ZY (kb:Int)):=(bz.i bt).j 2;refine ah ?_;simp only[b_,seval,<-a7,<-ba,<-a8,k2];refine aa (EA a0.o hk) ?_;rintro vK h4 ⟨F4,Ks,bA,gk,cO,lk⟩;let⟨rk,kh⟩:=bA [] h4 iS (Wl F4.o);have v1:=Xs rk;have o4:=F4.i (bz.i bt);let⟨h5,bg,bk,bT⟩:=aq F4.o [.r,ZZ 0];have n4:=F4.e;have n5:=x_ bg;simp only[b_,seval,aF v1,<-bg];refine ai (o:=0) (v:=.B [vK,ZZ 12]) (c':=[vK,ZZ 12]) bk.o bT rfl (by show aw [_,_]=true;simp only[au,aB,v1];rfl) rfl ?_;rintro h6 o6 F6 n6;have an:Fr [] h4 h6:=bk.z F6 F4.o oM;have l0:aj h6 h.e 0 1=some [vI]:=by rw[(an.i o4).N];rfl
 have cc:=(bm.c bz).c (F4.c an);simp only[b_,seval,l0];apply aa (MN an.o (a.fr cc) hb);rintro vX h7 ⟨F7,X,il,hX⟩;let⟨h8,a9,ay,cg⟩:=aq F7.o [.r];have n7:=F7.e;have n8:=x_ a9;simp only[b_,<-a9];have bv:=cc.c F7;have cy:=F7.i (an.i o4);have aJ:=F7.i o6;have FH:Fr [] h h8:=bv.c ay;have oa:=ay.i (F7.i (an.i (F4.i (a0.i bB))));have oc:=ay.i (F7.i (an.i (F4.i bC)));refine aA (fun n env hh=>Fr [] h7 hh/\∃(i:Nat)(vE:V)(E:List d_),env.c_ 7=some (ZZ i)/\env.c_ 1=some (.u h.e 0)/\env.c_ 2=some (.u h1.e 0)/\env.c_ 3=some (.u h2.e 0)/\env.c_ 4=some (.u h4.e 0)/\env.c_ 5=some vX/\env.c_ 6=some (.u h7.e 0)/\
  i<=X.length/\e_ hh h1.e [.r,ZZ 0]/\e_ hh h2.e [.r]/\e_ hh h7.e [vE]/\Gs hh h8.e 6 vE (E.flatMap d_.s)/\(∀e∈E,EOk Ks X e)/\(E.map d_.x).Sublist (X.take i)/\n=X.length-i) X.length oM ?_ ?_
 exact⟨ay,0,.r,[],iS,iS,iS,iS,iS,iS,iS,oM,oa,oc,cg,.inl ⟨rfl,rfl⟩,iS,iS,rfl⟩;rintro n env hh ⟨G,i,vE,E,g7,g1,g2,g3,g4,g5,g6,hi,oa,oc,oe,GE,a4,sub,rfl⟩;have bu:=il.e G;have len:=bu.j.t_;have El:E.length<=i:=by have:=sub.length_le;simp at this;omega
 by_cases c1:i<X.length;let⟨bi,oi,x,p1,_,p3,p4⟩:=YX dP bu.j .i64 (i:Int) oM oM;rw[pi]at p4;have xm:=Wc p4;have kl:aj hh h4.e 0 2=some [vK,ZZ 12]:=by rw[(G.i aJ).N];rfl
 have a5:Fr [] h4 hh:=an.c (F7.c G);simp only[b_,seval,j_,g7,g4,g5,len,(oM:(i:Int)<X.length),kl,p1,p3];apply aa (HU G.o (Xn rk a5) (fun q m=>(kh q m).fr a5) gk oM (bu.i x xm).H);rintro _ ha ⟨Fa,e,rfl,e0,he,_⟩;have Ga:=G.c Fa;have cn:aj ha h4.e 0 2=some [vK,ZZ 12]:=by rw[(Ga.i aJ).N];rfl
 let⟨ct,cx,x',a3,_,cb,aT⟩:=YX dP (il.e Ga).j .i64 (i:Int) oM oM;rw[pi,p4]at aT;cases aT;rw[p1]at a3;cases a3;by_cases c2:0<e;simp(disch:=omega) only[b_,seval,DF,j_,ag,g7,g4,kl,p3,eq_true c2];refine s_ ⟨X.length-(i+1),oM,Ga,i+1,vE,E,iS,iX,iX,iX,iX,iX,iX,oM,Fa.i oa,Fa.i oc,Fa.i oe,GE.fr Fa,a4,sub.trans (List.take_sublist_take_left oM),rfl⟩;simp only[b_,seval,DF,j_,g4,kl,p3,eq_false c2];let⟨a6,bw⟩:=he oM;have ht:x.K<Ks.length:=by have:=a6;simp only[Q2,VY,decide_eq_true_eq]at this;exact this.2.1
 apply Dt [⟨none,.a 2 true (.v 4),none⟩,⟨none,.p .o [.v 5],none⟩,⟨none,.p .o [.v 7],none⟩,⟨none,.p (.c 4) [.l 1,.l 0],none⟩,⟨none,.a 4 true (.l 0),none⟩,⟨none,.d 32 [.l 4,.l 0],none⟩] [⟨none,.h 6 (.l 0) (.l 1),none⟩] rfl;let⟨hb,bj,a2,ci⟩:=aq Fa.o [ZX 0,ZY 0,.f [],.r,ZZ 0,.h false];have nb:=x_ bj;have na:=Ga.e;have it:∀{H},Fr [] h7 H->aj H bi oi 4=some x.s:=by intro H f;let⟨ct,cx,x',a3,_,cb,aT⟩:=YX dP (il.e f).j .i64 (i:Int) oM oM;rw[pi,p4]at aT;cases aT;rw[p1]at a3;cases a3;exact cb
 have kk:∀{H},Fr [] h7 H->aj H h4.e 0 2=some [vK,ZZ 12]:=by intro H f;rw[(f.i aJ).N];rfl
 have Gb:=Ga.c a2;simp only[b_,seval,j_,<-bj,g7,g4,g5,kk Gb,p1,it Gb];apply aa (EM a2.o (Xn rk (an.c (F7.c Gb))) ((il.e Gb).i x xm).H ht);rintro _ hc ⟨rfl,Fc⟩;have Gc:=Gb.c Fc;simp only[b_,j_,rV];refine ai (o:=0) (v:=.B (x.ent (aQ Ks x) false)) (c':=x.ent (aQ Ks x) false) Fc.o (Fc.i ci) rfl (by show aw (x.s++[_,_])=true;rw[aW,((il.e Gb).i x xm).H.U];rfl) rfl ?_;rintro hd od Fd nd;have nc:=Fc.e;have c6:=oe.lt G.o;have nG:=Fa.e;have az:Fr [] ha hd:=(a2.c Fc).z Fd Fa.o oM;have Gd:=Ga.c az;have cq:=az.i (Fa.i oe);have le:=cq.j 0;have Ed:=ZT (n:=E.length) (GE.fr (Fa.c az)) (aC aM E) oM;have co:=Gd.i cy;have lH:=co.j 1;have cl:=aH.fr (bv.c Gd);simp only[b_,seval,DF,g1,g4,g6,kk Gb,it Gb,le,Ed.t_,lH,cl.t_];by_cases c3:E.length<H.length;let⟨bh,oh,ae,q1,q2,_,ca⟩:=cl.ix (f:=b8) (k:=1) (fun _=>rfl) .i64 (E.length:Int) oM oM;rw[pi]at ca;have cU:=hH ae (Wc ca);have q3:ab hd bh oh=some (ZY (ae:Int)):=q2 0 oM;by_cases c4:0<(ae:Int);simp(disch:=omega) only[b_,seval,eq_true (oM:(E.length:Int)<H.length),g1,q1,q3,eq_true c4,lH,uY ae 40 40 rfl dI,ag];apply B_ Fd.o od;rintro c0 ch Fe ne;simp only[b_,seval];apply B_ Fe.o ch;rintro hf cr Ff nf;simp only[b_,seval,g6];have K:=((az.z Fe Fa.o oM).z Ff Fa.o oM);have a1:=K.i (Fa.i oe);have aR:aj hf ha.e 0 6=some (d_.s ⟨x,1+((ae%40:Nat):Int),true⟩):=by rw[(cr).N];rfl
 have u1:bG [ZX 0,ZY 0,.f [],.r,ZZ 0,.h false] 0 (d_.s ⟨x,1+((ae%40:Nat):Int),true⟩)=some (d_.s ⟨x,1+((ae%40:Nat):Int),true⟩):=rfl;have on:aw (d_.s ⟨x,1+((ae%40:Nat):Int),true⟩)=true:=by show aw (x.s++[_,_])=true;rw[aW,((il.e Gb).i x xm).H.U];rfl
 obtain⟨hx,ac⟩:∃hx,hx=h_ hf (d_.s ⟨x,1+((ae%40:Nat):Int),true⟩):=⟨_,rfl⟩;have Z:Fr [] hf hx:=ac▸WA K.o _;have ar:e_ hx hf.e (d_.s ⟨x,1+((ae%40:Nat):Int),true⟩):=ac▸Xc K.o _;simp only[b_,seval,a1.j 0,aR,u1,(iR:(d_.s ⟨x,1+((ae%40:Nat):Int),true⟩).length=6),<-ac];have ax:=GE.vb;have nH:=((Fa.c K).c Z).e;have bn:=(oe.lt G.o);have aN:h8.e<=hx.e:=oM;refine Ym (bytes:=72) (n:=1) Z.o (GE.fr ((Fa.c K).c Z)) (Xy ar rfl) oM oM on aN (by rw[aC aM E];omega) ?_;intro ak hy Gy ey Fy;have tk:∀{B:Nat}{cs:List V},e_ hh B cs->B<h8.e->e_ hy B cs:=fun o l=>Fy.I _ _ (fun m=>by have:=ax _ m;omega) (((Fa.c K).c Z).i o);have af:ak.U=true:=by obtain⟨rfl,_⟩|⟨b,n,rfl,_⟩:=Gy<;>rfl
 simp only[b_,seval,g6];refine ai (c':=[ak]) Fy.o (tk oe oM) (by rw[aF af];rfl) (by rw[aF af];simp only[au,aB,af];rfl) (by rw[aF af];rfl) ?_;rintro hz oz Fz nz;have FN:Fr [] h7 hz:=(XD F7.o (G.c ((Fa.c K).c Z)) Fy (fun y hy=>by have:=ax _ hy;omega)).z Fz F7.o oM;have eq:(E++[(⟨x,1+((ae%40:Nat):Int),true⟩:d_)]).flatMap d_.s=E.flatMap d_.s++d_.s ⟨x,1+((ae%40:Nat):Int),true⟩:=by simp
 simp(disch:=omega) only[b_,seval,ag,g7];refine s_ ⟨X.length-(i+1),oM,FN,i+1,ak,E++[⟨x,1+((ae%40:Nat):Int),true⟩],iS,iX,iX,iX,iX,iX,iX,oM,Fz.I _ _ oO (tk oa oM),Fz.I _ _ oO (tk oc oM),oz,by rw[eq];exact Gy.keep Fz oO,?_,?_,rfl⟩;intro e' m;obtain m|m:=Wa.1 m;exact a4 e' m;rw[Wi.1 m];exact⟨xm,by rw[<-lk];exact a6,bw,fun z=>(by cases z),fun _=>⟨by show(1:Int)<=1+((ae%40:Nat):Int);omega,by show 1+((ae%40:Nat):Int)<=50;omega⟩⟩;rw[Xe,Wn,p4];exact sub.append (Yx _);simp only[b_,seval,eq_true (oM:(E.length:Int)<H.length),g6,q1,q3,eq_false c4];have K:=az;have a1:=K.i (Fa.i oe);have aR:aj hd ha.e 0 6=some (d_.s ⟨x,aQ Ks x,false⟩):=by rw[(od).N];rfl
 have u1:bG [ZX 0,ZY 0,.f [],.r,ZZ 0,.h false] 0 (d_.s ⟨x,aQ Ks x,false⟩)=some (d_.s ⟨x,aQ Ks x,false⟩):=rfl;have on:aw (d_.s ⟨x,aQ Ks x,false⟩)=true:=by show aw (x.s++[_,_])=true;rw[aW,((il.e Gb).i x xm).H.U];rfl
 obtain⟨hx,ac⟩:∃hx,hx=h_ hd (d_.s ⟨x,aQ Ks x,false⟩):=⟨_,rfl⟩;have Z:Fr [] hd hx:=ac▸WA K.o _;have ar:e_ hx hd.e (d_.s ⟨x,aQ Ks x,false⟩):=ac▸Xc K.o _;simp only[b_,seval,a1.j 0,aR,u1,(iR:(d_.s ⟨x,aQ Ks x,false⟩).length=6),<-ac];have ax:=GE.vb;have nH:=((Fa.c K).c Z).e;have bn:=(oe.lt G.o);have aN:h8.e<=hx.e:=oM;refine Ym (bytes:=72) (n:=1) Z.o (GE.fr ((Fa.c K).c Z)) (Xy ar rfl) oM oM on aN (by rw[aC aM E];omega) ?_;intro ak hy Gy ey Fy;have tk:∀{B:Nat}{cs:List V},e_ hh B cs->B<h8.e->e_ hy B cs:=fun o l=>Fy.I _ _ (fun m=>by have:=ax _ m;omega) (((Fa.c K).c Z).i o);have af:ak.U=true:=by obtain⟨rfl,_⟩|⟨b,n,rfl,_⟩:=Gy<;>rfl
 simp only[b_,seval,g6];refine ai (c':=[ak]) Fy.o (tk oe oM) (by rw[aF af];rfl) (by rw[aF af];simp only[au,aB,af];rfl) (by rw[aF af];rfl) ?_;rintro hz oz Fz nz;have FN:Fr [] h7 hz:=(XD F7.o (G.c ((Fa.c K).c Z)) Fy (fun y hy=>by have:=ax _ hy;omega)).z Fz F7.o oM;have eq:(E++[(⟨x,aQ Ks x,false⟩:d_)]).flatMap d_.s=E.flatMap d_.s++d_.s ⟨x,aQ Ks x,false⟩:=by simp
 simp(disch:=omega) only[b_,seval,ag,g7];refine s_ ⟨X.length-(i+1),oM,FN,i+1,ak,E++[⟨x,aQ Ks x,false⟩],iS,iX,iX,iX,iX,iX,iX,oM,Fz.I _ _ oO (tk oa oM),Fz.I _ _ oO (tk oc oM),oz,by rw[eq];exact Gy.keep Fz oO,?_,?_,rfl⟩;intro e' m;obtain m|m:=Wa.1 m;exact a4 e' m;rw[Wi.1 m];exact⟨xm,by rw[<-lk];exact a6,bw,fun _=>rfl,fun z=>by cases z⟩;rw[Xe,Wn,p4];exact sub.append (Yx _);simp only[b_,seval,eq_false (oM:¬(E.length:Int)<H.length),g6];have K:=az;have a1:=K.i (Fa.i oe);have aR:aj hd ha.e 0 6=some (d_.s ⟨x,aQ Ks x,false⟩):=by rw[(od).N];rfl
 have u1:bG [ZX 0,ZY 0,.f [],.r,ZZ 0,.h false] 0 (d_.s ⟨x,aQ Ks x,false⟩)=some (d_.s ⟨x,aQ Ks x,false⟩):=rfl;have on:aw (d_.s ⟨x,aQ Ks x,false⟩)=true:=by show aw (x.s++[_,_])=true;rw[aW,((il.e Gb).i x xm).H.U];rfl
 obtain⟨hx,ac⟩:∃hx,hx=h_ hd (d_.s ⟨x,aQ Ks x,false⟩):=⟨_,rfl⟩;have Z:Fr [] hd hx:=ac▸WA K.o _;have ar:e_ hx hd.e (d_.s ⟨x,aQ Ks x,false⟩):=ac▸Xc K.o _;simp only[b_,seval,a1.j 0,aR,u1,(iR:(d_.s ⟨x,aQ Ks x,false⟩).length=6),<-ac];have ax:=GE.vb;have nH:=((Fa.c K).c Z).e;have bn:=(oe.lt G.o);have aN:h8.e<=hx.e:=oM;refine Ym (bytes:=72) (n:=1) Z.o (GE.fr ((Fa.c K).c Z)) (Xy ar rfl) oM oM on aN (by rw[aC aM E];omega) ?_;intro ak hy Gy ey Fy;have tk:∀{B:Nat}{cs:List V},e_ hh B cs->B<h8.e->e_ hy B cs:=fun o l=>Fy.I _ _ (fun m=>by have:=ax _ m;omega) (((Fa.c K).c Z).i o);have af:ak.U=true:=by obtain⟨rfl,_⟩|⟨b,n,rfl,_⟩:=Gy<;>rfl
 simp only[b_,seval,g6];refine ai (c':=[ak]) Fy.o (tk oe oM) (by rw[aF af];rfl) (by rw[aF af];simp only[au,aB,af];rfl) (by rw[aF af];rfl) ?_;rintro hz oz Fz nz;have FN:Fr [] h7 hz:=(XD F7.o (G.c ((Fa.c K).c Z)) Fy (fun y hy=>by have:=ax _ hy;omega)).z Fz F7.o oM;have eq:(E++[(⟨x,aQ Ks x,false⟩:d_)]).flatMap d_.s=E.flatMap d_.s++d_.s ⟨x,aQ Ks x,false⟩:=by simp
 simp(disch:=omega) only[b_,seval,ag,g7];refine s_ ⟨X.length-(i+1),oM,FN,i+1,ak,E++[⟨x,aQ Ks x,false⟩],iS,iX,iX,iX,iX,iX,iX,oM,Fz.I _ _ oO (tk oa oM),Fz.I _ _ oO (tk oc oM),oz,by rw[eq];exact Gy.keep Fz oO,?_,?_,rfl⟩;intro e' m;obtain m|m:=Wa.1 m;exact a4 e' m;rw[Wi.1 m];exact⟨xm,by rw[<-lk];exact a6,bw,fun _=>rfl,fun z=>by cases z⟩;rw[Xe,Wn,p4];exact sub.append (Yx _);have kl:aj hh h4.e 0 2=some [vK,ZZ 12]:=by rw[(G.i aJ).N];rfl
 have le:aj hh h7.e 0 1=some [vE]:=by rw[oe.N];rfl
 have cu:vE.U=true:=by obtain⟨rfl,_⟩|⟨b,n,rfl,_⟩:=GE<;>rfl
 have a5:Fr [] h4 hh:=an.c (F7.c G);have nG:=G.e;simp only[b_,seval,j_,g7,g2,g4,g5,g6,len,(oM:¬(i:Int)<X.length),kl,le];refine ai (o:=0) (v:=.B [vK,ZZ 12]) (c':=[vK,ZZ 12]) G.o oa rfl (by show aw [_,_]=true;simp only[au,aB,v1];rfl) rfl ?_;rintro ha xa Fa na;have cn:aj ha h4.e 0 2=some [vK,ZZ 12]:=by rw[(Fa.I _ _ oO (G.i aJ)).N];rfl
 have cB:=Fa.I _ _ oO oe;have cz:aj ha h7.e 0 1=some [vE]:=by rw[cB.N];rfl
 simp only[b_,seval,j_,g3];refine ai (o:=0) (v:=.B [vE]) (c':=[vE]) Fa.o (Fa.I _ _ oO oc) rfl (by show aw [_]=true;simp only[au,aB,cu];rfl) rfl ?_;rintro hz xz Fz nz;have r1:aj hz h1.e 0 2=some [vK,ZZ 12]:=by rw[(Fz.I _ _ oO xa).N];rfl
 have r2:aj hz h2.e 0 1=some [vE]:=by rw[xz.N];rfl
 simp only[b_,seval,DF,g2,g3,g4,g6,kl,le,cz,r1,r2];have cj:Fr [h1.e] h4 ha:=Wp a5 Fa F4.o iS (fun x m=>.inl m);have bE:Fr [h1.e,h2.e] h4 hz:=Wp cj Fz F4.o iS (fun x m=>.inl (by simp at m|-;exact .inr m));let⟨rz,kz⟩:=bA _ hz oO bE;have FN:Fr [] h hz:=((bv.c G).z Fa w oM).z Fz w oM;have cA:=((il.e G).f Fa oO).f Fz oO;have Gz:=((GE.keep Fa oO).keep Fz oO).le (C:=h.e) oM;refine⟨FN,vK,Ks,vX,X,vE,E,rfl,rz,kz,gk,cO,lk,cA.k oM,Gz,a4,?_,oM⟩;have:=(sub.trans (Xp _ _)).map m_.J;rw[WL]at this;exact this.nodup il.n
def R2(m:Nat->Option Nat)(E:List d_):Prop:=∀k j,m k=some j↔∃e,E[j]? =some e/\e.x.J=k
def Y1(E:List d_):Prop:=∀e∈E,1<=e.b/\e.b<=2305843009213693952
theorem Y1.d:∀{E:List d_},Y1 E→0≤(E.map d_.b).sum
 |[],_=>by simp
 |e::E,h=>by have h1:=h e iS;have h2:=Y1.d (E:=E) fun x m=>h x iX;simp only[List.map_cons,List.sum_cons];omega
theorem Y1.g{E:List d_}(h:Y1 E)(i:Nat):Y1 (E.take i):=fun e m=>h e (WX m)
theorem Y1.f{E:List d_}(h:Y1 E)(i:Nat):Y1 (E.drop i):=fun e m=>h e (WR m)
theorem Y1.e{E:List d_}(i:Nat):(E.map d_.b).sum=((E.take i).map d_.b).sum+((E.drop i).map d_.b).sum:=by rw[<-XG,<-Xe,WO]
theorem vL{E:List d_}{i:Nat}{e:d_}(h:E[i]? =some e):((E.take (i+1)).map d_.b).sum=((E.take i).map d_.b).sum+e.b:=by rw[Wn,h];simp
theorem vu:∀(d:List V)(o:Nat),bG d o []=some d
 |[],o=>jE o
 |x::l,0=>dK x l
 |x::l,o+1=>by rw[bM,vu l o];rfl
theorem mg(d:List V):∀(c:List V)(o:Nat)(vs c':List V),bG c o vs=some c'->bG (c++d) o vs=some (c'++d)
 |[],o,[],c',e=>by rw[jE]at e;cases e;exact vu d o
 |[],o,v::vs,c',e=>by rw[nm]at e;cases e
 |x::l,0,[],c',e=>by rw[dK]at e;cases e;rfl
 |x::l,0,v::vs,c',e=>by
  rw[aY]at e;cases q:bG l 0 vs with
  |none=>rw[q]at e;cases e
  |some r=>rw[q]at e;cases e;rw[Xz,aY,mg d l 0 vs r q];rfl
 |x::l,o+1,vs,c',e=>by
  rw[bM]at e;cases q:bG l o vs with
  |none=>rw[q]at e;cases e
  |some r=>rw[q]at e;cases e;rw[Xz,bM,mg d l o vs r q];rfl
theorem nN(d:List V)(o:Nat)(vs d':List V)(e:bG d o vs=some d'):∀(c:List V),bG (c++d) (c.length+o) vs=some (c++d')
 |[]=>by simpa using e
 |x::l=>by rw[Xz,Wv,(oM:l.length+1+o=(l.length+o)+1),bM,nN d o vs d' e l];rfl
theorem ir{f:α->List V}{k:Nat}(hf:∀x,(f x).length=k){y:α}{o:Nat}{vs:List V}:∀(L:List α)(i:Nat)(x:α),L[i]? =some x->bG (f x) o vs=some (f y)->bG (L.flatMap f) (i*k+o) vs=some ((L.set i y).flatMap f)
 |z::L,0,x,h,e=>by simp at h;subst h;rw[WH,Zq,WG,Yt,WH];exact mg _ _ _ _ _ e
 |z::L,i+1,x,h,e=>by rw[WH,Zl,WH,show(i+1) *k+o=(f z).length+(i*k+o) by rw[hf,Yq];omega];exact nN _ _ _ _ (ir hf L i x (eV h) e) _
theorem _root_.Go.Ev.Gs.u{h:a_}{B e:Nat}{v:V}{n:Nat}(g:Gs h B e v cs)(hn:cs.length=n*e)(K:0<e){i:Nat}(hi:i<n):∃b,vb v=[b]/\B<=b/\e_ h b cs/\(∀k,aP (.c e) [v,.A k (i:Int)]=some (.u b (i*e)))/\∀h' c',e_ h' b c'->c'.length=cs.length->Gs h' B e v c':=by obtain⟨rfl,rfl⟩|⟨b,m,rfl,h1,h2,Z,o⟩:=g;have h0:0=n*e:=hn;have:=ZQ (oM:0<n) K;omega;have:m=n:=Nat.eq_of_mul_eq_mul_right K oM;subst this;refine⟨b,rfl,Z,o,fun k=>?_,fun h' c' o' hl=>.inr ⟨b,m,rfl,oM,h2,Z,o'⟩⟩;rw[lK _ _ _ _ _ _ _ oM oM];simp
theorem d_.upd_b(e:d_)(s:Int):bG e.s 4 [ZZ s]=some (d_.s ⟨e.x,s,e.kn⟩):=rfl
theorem d_.upd_k(e:d_)(t:Bool):bG e.s 5 [.h t]=some (d_.s ⟨e.x,e.b,t⟩):=rfl
theorem jr{h:a_}{e:d_}(a:u_ h e.x):aw e.s=true:=by show aw (e.x.s++[_,_])=true;rw[aW,a.U];rfl
theorem R2.l?{m:Nat->Option Nat}{E E':List d_}(ix:R2 m E)(e:E'.map d_.x=E.map d_.x):R2 m E':=by intro k j;rw[ix k j];have:=congrArg (fun l=>l[j]?) e;simp at this;constructor;grind;grind
def m_.sx(x:m_):Nat×Nat×g_×List g_:=(x.J,x.K,x.X,x.C)
def d_.sx(e:d_):(Nat×Nat×g_×List g_)×Int×Bool:=(e.x.sx,e.b,e.kn)
theorem Ng{h:a_}{vb:V}{L:List g_}(a:C_ sS 1 h va L)(b:C_ sS 1 h vb L)(hn:L.length<=4096):ao go 196 [va,vb] h fun u h'=>u=.h true/\h=h':=by refine ah ?_;simp[b_,a.t_,b.t_];refine aA (fun n env Z=>h=Z/\∃i:Nat,env.c_ 13=some (ZZ i)/\env.c_ 12=some (ZZ L.length)/\env.c_ 0=some va/\env.c_ 1=some vb/\i<=L.length/\n=L.length-i) L.length oM ?_ ?_;exact⟨rfl,0,iS,iS,iS,iS,oM,rfl⟩;rintro n env Z ⟨rfl,i,g13,g12,g0,g1,hi,rfl⟩;by_cases c:i<L.length;let⟨b1,o1,K,p1,p2,_,p4⟩:=a.ix fW .i64 (i:Int) oM oM;let⟨b2,o2,s2,q1,q2,_,q4⟩:=b.ix fW .i64 (i:Int) oM oM;rw[p4]at q4;cases q4;have x1:ab h b1 o1=some (.f K):=p2 0 oM;have x2:ab h b2 o2=some (.f K):=q2 0 oM;simp(disch:=omega)[b_,DF,j_,ag,g13,g12,g0,g1,(oM:(i:Int)<L.length),p1,q1,x1,x2,bD,beq_self_eq_true];refine s_ ⟨L.length-(i+1),oM,rfl,i+1,iS,iX,iX,iX,oM,rfl⟩;simp[b_,g13,g12,(oM:¬(i:Int)<L.length)]
theorem m_.val_eq{x y:m_}(e:x.sx=y.sx):x.J=y.J/\x.K=y.K/\x.X=y.X/\x.C=y.C:=by simp[m_.sx]at e;exact e
theorem GG{h:a_}{x y:m_}(w:WF h)(a:u_ h x)(b:u_ h y)(e:x.sx=y.sx):ao go 132 [.B x.s,.B y.s] h fun u h'=>u=.h true/\Fr [] h h':=by
 let⟨e1,e2,e3,e4⟩:=m_.val_eq e;let⟨h1,ak,ac,af⟩:=aq w x.s;let⟨h2,ae,K,Z⟩:=aq ac.o y.s;have F:=ac.c K;have o1:=K.i af;have x0:ab h2 h.e 0=some (ZX (x.J:Int)):=o1.j 0;have x1:ab h2 h.e 1=some (ZY (x.K:Int)):=o1.j 1;have x2:ab h2 h.e 2=some (.f x.X):=o1.j 2;have x3:ab h2 h.e 3=some x.vm:=o1.j 3;have y0:ab h2 h1.e 0=some (ZX (x.J:Int)):=by rw[e1];exact Z.j 0
 have y1:ab h2 h1.e 1=some (ZY (x.K:Int)):=by rw[e2];exact Z.j 1
 have y2:ab h2 h1.e 2=some (.f x.X):=by rw[e3];exact Z.j 2
 have y3:ab h2 h1.e 3=some y.vm:=Z.j 3;refine ah ?_;simp[b_,<-ak,<-ae,x0,x1,x2,x3,y0,y1,y2,y3,aS];refine aa (Ng (a.m.fr F) (by rw[e4];exact b.m.fr F) a.n) ?_;rintro _ _ ⟨rfl,rfl⟩;simp[b_];exact F
theorem GH{h:a_}{x y:d_}(w:WF h)(a:u_ h x.x)(b:u_ h y.x)(e:x.sx=y.sx):ao go 131 [.B x.s,.B y.s] h fun u h'=>u=.h true/\Fr [] h h':=by
 simp[d_.sx]at e;let⟨e1,e2,e3⟩:=e;let⟨h1,ak,ac,af⟩:=aq w x.s;let⟨h2,ae,Z,K⟩:=aq ac.o y.s;have F:=ac.c Z;have o1:=Z.i af;have x4:ab h2 h.e 4=some (ZZ x.b):=o1.j 4;have x5:ab h2 h.e 5=some (.h x.kn):=o1.j 5;have y4:ab h2 h1.e 4=some (ZZ x.b):=by rw[e2];exact K.j 4
 have y5:ab h2 h1.e 5=some (.h x.kn):=by rw[e3];exact K.j 5
 have lx:aj h2 h.e 0 4=some x.x.s:=by rw[o1.N];rfl
 have ly:aj h2 h1.e 0 4=some y.x.s:=by rw[K.N];rfl
 refine ah ?_;simp[b_,<-ak,<-ae,x4,x5,y4,y5,lx,ly];refine aa (GG Z.o (a.fr F) (b.fr F) e1) ?_;rintro _ h3 ⟨rfl,F3⟩;simp[b_];exact F.c F3
theorem Nh{h:a_}{vb:V}{Z E:List d_}(w:WF h)(a:q_ d_.s 6 h va Z)(b:q_ d_.s 6 h vb E)(za:∀z∈Z,u_ h z.x)(ea:∀e∈E,u_ h e.x)(eq:Z.map d_.sx=E.map d_.sx)(hn:E.length<=4096):
 ao go 130 [va,vb,.E (.func 131) [] []] h fun u h'=>u=.h true/\Fr [] h h':=by
 have ln:Z.length=E.length:=by have:=congrArg List.length eq;simpa using this
 have la:=a.t_;rw[ln]at la;refine ah ?_;simp[b_,la,b.t_];refine aA (fun n env hh=>Fr [] h hh/\∃i:Nat,env.c_ 17=some (ZZ i)/\env.c_ 16=some (ZZ E.length)/\env.c_ 15=some va/\env.c_ 1=some vb/\env.c_ 2=some (.E (.func 131) [] [])/\i<=E.length/\n=E.length-i) E.length oM ?_ ?_;exact⟨Wl w,0,iS,iS,iS,iS,iS,oM,rfl⟩;rintro n env hh ⟨F,i,an,aJ,aN,g1,g2,hi,rfl⟩;by_cases c:i<E.length;let⟨b1,o1,z,p1,_,p3,p4⟩:=(a.fr F).ix aM .i64 (i:Int) oM oM;rw[pi]at p4;have zm:=Wc p4;have az:=(za z zm).fr F;let⟨h3,ax,ak,ar⟩:=aq F.o [ZX 0,ZY 0,.f [],.r,ZZ 0,.h false];simp[b_,an,aJ,aN,(oM:(i:Int)<E.length),p1,p3,<-ax];refine ai (c':=z.s) ak.o ar rfl (jr az) rfl ?_;rintro h4 o4 F4 n4;have K:Fr [] hh h4:=ak.z F4 F.o (VZ _);let⟨b2,o2,e,q1,_,q3,q4⟩:=(b.fr (F.c K)).ix aM .i64 (i:Int) oM oM;rw[pi]at q4;have em:=Wc q4;have ae:=(ea e em).fr (F.c K);let⟨h5,ay,af,aH⟩:=aq F4.o [ZX 0,ZY 0,.f [],.r,ZZ 0,.h false];simp[b_,g1,q1,q3,<-ay];refine ai (c':=e.s) af.o aH rfl (jr ae) rfl ?_;rintro h6 o6 F6 n6;have ac:Fr [] h4 h6:=af.z F6 F4.o (VZ _);have lz:aj h6 hh.e 0 6=some z.s:=by rw[(ac.i o4).N];rfl
 have le:aj h6 h4.e 0 6=some e.s:=by rw[o6.N];rfl
 have ev:z.sx=e.sx:=by have:=congrArg (fun l=>l[i]?) eq;simp only[WM,p4,q4,Ws]at this;exact Xl this
 have aR:119<1099511627776:=oM;simp[b_,g2,lz,le];refine aa (GH F6.o (az.fr (K.c ac)) (ae.fr ac) ev) ?_;rintro _ h7 ⟨rfl,F7⟩;simp(disch:=omega)[b_,ag,an];refine s_ ⟨E.length-(i+1),oM,F.c (K.c (ac.c F7)),i+1,iS,iX,iX,iX,iX,oM,rfl⟩;simp[b_,an,aJ,(oM:¬(i:Int)<E.length)];exact F
theorem GF{h:a_}{vb:V}{Z E:List d_}(w:WF h)(a:q_ d_.s 6 h va Z)(b:q_ d_.s 6 h vb E)(za:∀z∈Z,u_ h z.x)(ea:∀e∈E,u_ h e.x)(eq:Z.map d_.sx=E.map d_.sx)(hn:E.length<=4096):
 ao go 69 [.B [va],.B [vb]] h fun u h'=>u=.h true/\Fr [] h h':=by
 have v1:va.U=true:=Xs a;have v2:vb.U=true:=Xs b;let⟨h1,ak,ac,an⟩:=aq w [va];let⟨h2,ae,K,af⟩:=aq ac.o [vb];have F:=ac.c K;have x0:ab h2 h.e 0=some va:=(K.i an).j 0;have y0:ab h2 h1.e 0=some vb:=af.j 0;refine ah ?_;simp[b_,<-ak,<-ae,x0,y0];refine aa (Nh K.o (a.fr F) (b.fr F) (fun z m=>(za z m).fr F) (fun z m=>(ea z m).fr F) eq hn) ?_;rintro _ h3 ⟨rfl,F3⟩;simp[b_];exact F.c F3
def E0:List V:=[ZX 0,ZY 0,.f [],.r,ZZ 0,.h false]
theorem ue{Z:List d_}{z:d_}{n i:Nat}(K:Z.length=i)(hi:i<n):bG (Z.flatMap d_.s++bq E0 (n-i)) (i*6) z.s=some ((Z++[z]).flatMap d_.s++bq E0 (n-(i+1))):=by
 have l:(Z.flatMap d_.s).length=i*6:=by rw[aC aM,K]
 rw[(oM:n-i=n-(i+1)+1),fX,<-l,<-Yp (Z.flatMap d_.s).length,nN (E0++bq E0 (n-(i+1))) 0 z.s (z.s++bq E0 (n-(i+1))) (mg _ _ _ _ _ rfl),XS];simp
theorem Q4.kl{h:a_}{b:Nat}{l:List Int}{ks bs:List Bool}(a:Q4 h b pm l ks bs):ks.length=l.length/\I_ l:=by let⟨p,Z,o,v1,ix,mk,e⟩:=a;exact⟨ix.t_.1,ix.fit⟩
theorem wy{l:List α}{i:Nat}(d:α)(h:i<l.length):l.take (i+1)=l.take i++[l.getD i d]:=by rw[Wn,Xo,Wf h];rfl
def Y7(N:Nat)(h:a_)(v:V)(Z:List d_):Prop:=(Z=[]/\v=.r)\/∃b,v=.y b 0 Z.length Z.length/\N<=b/\e_ h b (Z.flatMap d_.s)/\∀z∈Z,R0 (b+1) h z.x.vm z.x.C
theorem R0.le{N M:Nat}{h:a_}{v:V}{L:List (List UInt8)}(a:R0 N h v L)(l:M<=N):R0 M h v L:=by obtain⟨e,rfl|⟨b,rfl,Z,o⟩⟩|⟨b,e,Z,o⟩:=a;exact .inl ⟨e,.inl rfl⟩;exact .inl ⟨e,.inr ⟨b,rfl,oM,o⟩⟩;exact .inr ⟨b,e,oM,o⟩
theorem Y7.rs{N:Nat}{h:a_}{v:V}{Z:List d_}(a:Y7 N h v Z):q_ d_.s 6 h v Z:=by obtain⟨rfl,rfl⟩|⟨b,rfl,_,o,_⟩:=a;exact ZI;exact Xy o (aC aM Z)
theorem D7{h:a_}{b B S:Nat}{X:List m_}{l:List Int}{mc:dN}(w:WF h)(s:L_ n0 h b Ks cap X l kn st vK bg B bm S bl pm mc)(nz:∀x∈X,nZ x.vm=true)(hx:X.length<=1024):
 ao go 22 [.u b 0] h fun u h'=>Fr [] h h'/\∃v Z,u=.B [v]/\Y7 h.e h' v Z/\Z.map (fun z=>z.x.sx)=X.map m_.sx/\Z.map d_.b=l/\Z.map d_.kn=kn/\∀z∈Z,u_ h' z.x:=by
 have kl:=s.lo.kl.1;have ll:=s.t_;let⟨h1,ar,az,a6⟩:=aq w [.r];let⟨h2,ay,af,a3⟩:=aq az.o [.r];have n1:=x_ ar;have n2:=x_ ay;refine ah ?_;simp only[b_,seval,<-ar,<-ay];refine ai (o:=0) (v:=.B [.r]) (c':=[.r]) af.o a3 rfl rfl rfl ?_;rintro K o3 F3 n3;have aN:Fr [] h K:=(az.c af).z F3 w oM;have aT:=F3.I _ _ oO (af.i a6);have s3:=s.fr w aN;simp only[b_,seval];apply aa (oX s3);rintro _ _ ⟨rfl,rfl⟩;by_cases c0:X.length=0;have l3:aj K h1.e 0 1=some [.r]:=by rw[o3.N];rfl
 simp only[b_,seval,eq_true (oM:((X.length:Nat):Int)=0),l3];apply ai (o:=0) (v:=.B [.r]) (c':=[.r]) F3.o aT rfl rfl rfl;rintro h4 o4 F4 n4;have l4:aj h4 h.e 0 1=some [.r]:=by rw[o4.N];rfl
 simp only[b_,seval,l4];have e1:X=[]:=Wu.1 c0;have e2:l=[]:=Wu.1 oM;have e3:kn=[]:=Wu.1 oM;subst e1 e2 e3;exact⟨aN.z F4 w oM,.r,[],rfl,.inl ⟨rfl,rfl⟩,rfl,rfl,rfl,iS⟩;simp only[b_,seval,eq_false (oM:¬((X.length:Nat):Int)=0)];apply aa (oX s3);rintro _ _ ⟨rfl,rfl⟩;simp only[b_];refine(bV _ _ _ _ _ _ _ _ oM oM oM oM).2 ?_;simp only[pi];obtain⟨h4,ac⟩:∃h4,h4=h_ K (bq [ZX 0,ZY 0,.f [],.r,ZZ 0,.h false] X.length):=⟨_,rfl⟩;have ae:Fr [] K h4:=ac▸WA F3.o _;have o4:e_ h4 K.e (bq E0 X.length):=ac▸Xc F3.o _;have n4:=x_ ac;rw[<-ac];clear ac;simp only[b_,seval];apply ai (o:=0) (c':=[.y K.e 0 X.length X.length]) ae.o (ae.i o3) rfl rfl rfl;rintro h5 o5 F5 n5;have a1:Fr [] h h5:=(aN.c ae).z F5 w oM;have s5:=s.fr w a1;have b2:ab h5 b 2=some (.u bg 0):=s5.ob.j 2;have bn:=s.ob.lt w;have bh:=F5.I _ _ oO o4;simp only[b_,seval,b2];apply aa (H8 F5.o s5.g);rintro vG h6 ⟨b',bw,tb,F6⟩;have n6:=F6.e;simp only[b_,seval,tb.t_];refine aA (fun n env hh=>Fr [K.e] h6 hh/\∃(i:Nat)(Z:List d_),env.c_ 25=some (ZZ i)/\env.c_ 24=some (ZZ X.length)/\env.c_ 23=some vG/\env.c_ 3=some (.u h1.e 0)/\env.c_ 2=some (.u h.e 0)/\env.c_ 0=some (.u b 0)/\i<=X.length/\Z.length=i/\
  e_ hh K.e (Z.flatMap d_.s++bq E0 (X.length-i))/\Z.map (fun z=>z.x.sx)=(X.take i).map m_.sx/\Z.map d_.b=l.take i/\Z.map d_.kn=kn.take i/\(∀z∈Z,R0 h6.e hh z.x.vm z.x.C/\∀H,R0 h6.e H z.x.vm z.x.C->u_ H z.x)/\n=X.length-i) X.length oM ?_ ?_
 exact⟨Wl F6.o,0,[],iS,iS,iS,iS,iS,iS,oM,rfl,F6.i bh,rfl,rfl,rfl,iS,rfl⟩;rintro n env hh ⟨F,i,Z,aJ,a5,a9,g3,g2,g0,hi,zl,oo,zv,zb,zk,zi,rfl⟩;have nF:=F.e;have a7:Fr [] h hh:=XD w (a1.c F6) F oO;have sh:=s.fr w a7;have aR:e_ hh h1.e [.y K.e 0 X.length X.length]:=F.I _ _ oO (F6.i o5);have ba:e_ hh h.e [.r]:=F.I _ _ oO (F6.i (F5.I _ _ oO (ae.i aT)));have rs:q_ m_.s 4 hh vG X:=(tb.fr F oO).sl;by_cases c:i<X.length;have hc:(0:Int)<=(i:Int)/\(i:Int)<((l.length:Nat):Int):=oM;let⟨bi,oi,x,p1,_,p3,p4⟩:=rs.ix dP .i64 (i:Int) oM oM;rw[pi]at p4;have xm:=Wc p4;have ax:=(sh.rd [] hh iS (Wl F.o)).2.2 x xm;let⟨ha,a8,aH,a4⟩:=aq F.o [ZX 0,ZY 0,.f [],.r];simp only[b_,seval,aJ,a5,a9,(oM:(i:Int)<X.length),p1,p3,<-a8];refine ai (c':=x.s) aH.o a4 rfl ax.U rfl ?_;rintro hb ob Fb nb;have a0:Fr [] hh hb:=aH.z Fb F.o (VZ _);have sb:=sh.fr F.o a0;have b4:ab hb b 4=some (.u bl 0):=sb.ob.j 4;simp only[b_,seval,g0,b4];apply aa (Ju Fb.o sb.lo.lo);rintro _ bu ⟨rfl,Fc⟩;rw[if_pos hc,pi];have sc:=sb.fr Fb.o Fc;have bt:ab bu b 4=some (.u bl 0):=sc.ob.j 4;simp only[b_,seval,g0,bt];apply aa (Ioa Fc.o sc.lo.lo);rintro _ hd ⟨rfl,Fd⟩;rw[if_pos hc,pi];have an:Fr [] hh hd:=a0.c (Fc.c Fd);have x4:aj hd hh.e 0 4=some x.s:=by rw[((Fc.c Fd).i ob).N];rfl
 have d3:ab hd h1.e 0=some (.y K.e 0 X.length X.length):=(an.i aR).j 0;simp only[b_,seval,j_,g3,x4,d3];apply aa (uo Fd.o (ax.fr an) (nz x xm));rintro _ he ⟨vy,rfl,Fe,a2⟩;have v1:=a2.U;have ak:=an.c Fe;have e3:ab he h1.e 0=some (.y K.e 0 X.length X.length):=(ak.i aR).j 0;have px:aP (.c 6) [.y K.e 0 X.length X.length,ZZ (i:Int)]=some (.u K.e (i*6)):=by rw[dh _ _ _ _ _ _ _ oM oM];simp
 have oe:=ak.i oo;have on:aw (d_.s ⟨x.I vy,l.getD i 0,kn.getD i false⟩)=true:=by show aw [ZX (x.J:Int),ZY (x.K:Int),.f x.X,vy,ZZ _,.h _]=true;simp only[au,aB,v1];rfl
 simp only[b_,seval,j_,px,ip];apply ai (v:=.B (d_.s ⟨x.I vy,l.getD i 0,kn.getD i false⟩)) Fe.o oe rfl on (ue zl c);rintro hf bj Ff nf;have FN:Fr [K.e] h6 hf:=Wp (Wp (T:=[K.e]) F ak F6.o (fun x m=>.inl m) iS) Ff F6.o (fun x m=>.inl m) (fun x m=>.inl m);have bz:=ak.e;have bv:=an.e;have bf:∀z∈Z++[(⟨x.I vy,l.getD i 0,kn.getD i false⟩:d_)],R0 h6.e hf z.x.vm z.x.C/\∀H,R0 h6.e H z.x.vm z.x.C->u_ H z.x:=by intro z m;obtain m|m:=Wa.1 m;let⟨c1,c2⟩:=zi z m;exact⟨(c1.fr ak iS).fr Ff oO,c2⟩;rw[Wi.1 m];exact⟨(a2.le oM).fr Ff oO,fun H c=>⟨ax.k,ax.t,Sl.a c.rs,ax.n,ax.l⟩⟩
 simp(disch:=omega) only[b_,seval,DF,ag,aJ,x4,d3,e3];refine s_ ⟨X.length-(i+1),oM,FN,i+1,Z++[⟨x.I vy,l.getD i 0,kn.getD i false⟩],iS,iX,iX,iX,iX,iX,oM,by simp[zl],bj,?_,?_,?_,bf,rfl⟩;rw[Wn,p4,Xe,Xe,zv];rfl;rw[wy 0 oM,Xe,zb];rfl;rw[wy false oM,Xe,zk];rfl;have e:i=X.length:=oM;subst e;rw[Wj oM]at zv zb zk;have z0:bq E0 (X.length-X.length)=[]:=by rw[Yf];rfl
 rw[z0,Xg]at oo;have l3:aj hh h1.e 0 1=some [.y K.e 0 X.length X.length]:=by rw[aR.N];rfl
 simp only[b_,seval,aJ,a5,g3,g2,(oM:¬(X.length:Int)<X.length),l3];apply ai (o:=0) (v:=.B [.y K.e 0 X.length X.length]) (c':=[.y K.e 0 X.length X.length]) F.o ba rfl rfl rfl;rintro hz oz Fz nz;have lz:aj hz h.e 0 1=some [.y K.e 0 X.length X.length]:=by rw[oz.N];rfl
 simp only[b_,seval,lz,g2];have bk:=Fz.I _ _ oO oo;have cz:∀z∈Z,R0 h6.e hz z.x.vm z.x.C:=fun z m=>(zi z m).1.fr Fz oO;refine⟨a7.z Fz w oM,_,Z,rfl,.inr ⟨K.e,by rw[zl],oM,bk,fun z m=>(cz z m).le oM⟩,zv,zb,zk,fun z m=>(zi z m).2 hz (cz z m)⟩
theorem GL{h:a_}{b B S:Nat}{X:List m_}{l:List Int}{mc:dN}(w:WF h)(s:L_ n0 h b Ks cap X l kn st vK bg B bm S bl pm mc)(nz:∀x∈X,nZ x.vm=true)(K:X.length<=1024):
 ao go 22 [.u b 0] h fun u h'=>Fr [] h h'/\∃v Z,u=.B [v]/\q_ d_.s 6 h' v Z/\Z.map (fun z=>z.x.sx)=X.map m_.sx/\Z.map d_.b=l/\Z.map d_.kn=kn/\∀z∈Z,u_ h' z.x:=by
 apply ZW (D7 w s nz K);rintro _ h' ⟨f,v,Z,e,a,r⟩;exact⟨f,v,Z,e,a.rs,r⟩
def SE(N:Nat)(Ks:List p_)(h:a_)(b:Nat)(E:List d_):Prop:=
 ∃n0 K X st vK bg B bm S bl pm mc,L_ n0 h b K 12 X (E.map d_.b) (E.map d_.kn) st vK bg B bm S bl pm mc/\bX Ks K/\X.map m_.sx=E.map (fun e=>e.x.sx)/\(∀x∈X,nZ x.vm=true)/\R2 mc.1 E/\mc.2<=1024/\(∀y∈Wr b bg B bm S bl pm,N<=y)/\N<=n0.1
theorem SE.fr{N:Nat}{h:a_}{b:Nat}{E:List d_}(w:WF h)(s:SE N Ks h b E)(f:Fr [] h h'):SE N Ks h' b E:=by let⟨n0,K,X,st,vK,Z,B,bm,S,bl,pm,mc,s,r⟩:=s;exact⟨n0,K,X,st,vK,Z,B,bm,S,bl,pm,mc,s.fr w f,r⟩
def SA(Ks:List p_)(h:a_)(b:Nat)(E:List d_):Prop:=
 ∃n0 K X st vK bg B bm S bl pm mc,L_ n0 h b K 12 X (E.map d_.b) (E.map d_.kn) st vK bg B bm S bl pm mc/\bX Ks K/\X.map m_.sx=E.map (fun e=>e.x.sx)/\(∀x∈X,nZ x.vm=true)/\R2 mc.1 E
theorem SE.a{N:Nat}{h:a_}{b:Nat}{E:List d_}(s:SE N Ks h b E):SA Ks h b E:=by let⟨n0,K,X,st,vK,bg,B,bm,S,bl,pm,mc,s,r1,Z,r3,r4,_⟩:=s;exact⟨n0,K,X,st,vK,bg,B,bm,S,bl,pm,mc,s,r1,Z,r3,r4⟩
theorem Bc{h:a_}{b:Nat}{E:List d_}(w:WF h)(s:SA Ks h b E)(re:q_ d_.s 6 h vE E)(ie:∀e∈E,u_ h e.x)(hE:E.length<=1024):
 ao go 25 [.u b 0,.B [vE]] h fun u h'=>u=ZZ 1/\Fr [] h h':=by
 let⟨n0,K,X,st,vK,bg,B,bm,S,bl,pm,mc,s,sk,ev,nz,ix⟩:=s;have lx:X.length=E.length:=by have:=congrArg List.length ev;simpa using this
 have fit:=s.lo.kl.2;have v1:vE.U=true:=Xs re;let⟨h1,ar,ac,ae⟩:=aq w [vE];have s1:=s.fr w ac;have x0:∀{h'},Fr [] h1 h'->ab h' h.e 0=some vE:=fun f=>(f.i ae).j 0;have x1:∀{h'},Fr [] h1 h'->aj h' h.e 0 1=some [vE]:=fun f=>by rw[(f.i ae).N];rfl
 have y0:=x0 (Wl ac.o);have y1:=x1 (Wl ac.o);refine ah ?_;simp[b_,j_,<-ar];refine aa (oX s1) ?_;rintro _ _ ⟨rfl,rfl⟩;simp[b_,j_,re.t_,y0,lx];apply aa (GL ac.o s1 nz oM);rintro _ h2 ⟨F2,vz,Z,rfl,rz,zv,zb,zk,iz⟩;have aN:=x0 F2;have ax:=x1 F2;have eq:Z.map d_.sx=E.map d_.sx:=by
  have l1:Z.length=E.length:=by have:=congrArg List.length zb;simpa using this
  refine Yy fun i=>?_;rw[WM,WM];rw[ev]at zv;have a1:=congrArg (fun l=>l[i]?) zv;have a2:=congrArg (fun l=>l[i]?) zb;have a3:=congrArg (fun l=>l[i]?) zk;simp at a1 a2 a3;cases q:Z[i]? with
  |none=>rw[Xa (by have:=Za.1 q;omega)]
  |some z=>have il:=(Wk.1 q).1;have q2:E[i]? =some E[i]:=Wf oM;rw[q,q2]at a1 a2 a3;rw[q2];simp at a1 a2 a3|-;simp[d_.sx,a1,a2,a3]
 simp[b_,j_,ax];apply aa (GF F2.o rz (re.fr (ac.c F2)) iz (fun e m=>(ie e m).fr (ac.c F2)) eq oM);rintro _ h3 ⟨rfl,F3⟩;have az:=F2.c F3;simp[b_,DF,j_,y0,y1,ax];refine aA (fun n env hh=>Fr [] h1 hh/\∃i:Nat,env.c_ 6=some (ZZ i)/\env.c_ 5=some (ZZ ((E.map d_.b).take i).sum)/\env.c_ 0=some (.u b 0)/\env.c_ 3=some (.u h.e 0)/\i<=E.length/\n=E.length-i) E.length oM ?_ ?_;exact⟨az,0,iS,iS,iS,iS,oM,rfl⟩;rintro n env hh ⟨F,i,g6,g5,g0,g3,hi,rfl⟩;have z0:=x0 F;have s5:=s1.fr ac.o F;have F0:=ac.c F;by_cases c:i<E.length;let⟨bi,oi,e,p1,p2,_,p4⟩:=(re.fr F0).ix aM .i64 (i:Int) oM oM;rw[pi]at p4;have q0:ab hh bi oi=some (ZX (e.x.J:Int)):=p2 0 oM;have kb:=(ie e (Wc p4)).k;simp[b_,g6,g0,g3,z0,re.t_,(oM:(i:Int)<E.length),p1,q0];apply aa (GM F.o s5 kb);rintro _ h4 ⟨rfl,F4⟩;rw[(ix _ i).2 ⟨e,p4,rfl⟩];have af:=x0 (F.c F4);let⟨bj,oj,e',aH,ay,_,ak⟩:=(re.fr (F0.c F4)).ix aM .i64 (i:Int) oM oM;rw[pi,p4]at ak;cases ak;have q4:ab h4 bj (oj+4)=some (ZZ e.b):=ay 4 oM;have ts:((E.map d_.b).take (i+1)).sum=((E.map d_.b).take i).sum+e.b:=by rw[Wn,WM,p4];simp
 have f1:I_ ((E.map d_.b).take i):=fit.sub (Xp _ _);have f2:I_ ((E.map d_.b).take (i+1)):=fit.sub (Xp _ _);have n1:=f1.nn;have n2:=f2.nn;have m2:=f2.2.1;simp(disch:=omega)[b_,ag,g6,g5,g3,fJ,af,aH,q4];refine s_ ⟨E.length-(i+1),oM,F.c F4,i+1,iS,iX,iX,iX,oM,rfl⟩;have e:i=E.length:=oM;subst e;rw[Wj iS]at g5;simp[b_,g6,g0,g3,z0,re.t_];apply aa (Bg F.o s5);rintro _ h4 ⟨c',aJ,rfl,_,_,lo,F4⟩;have af:=x0 (F.c F4);have aR:=x1 (F.c F4);have lm:((E.map d_.b).length:Int)=E.length:=by simp
 simp[b_,j_];apply aa (ku F4.o lo.lo);rintro _ h5 ⟨rfl,F5⟩;have an:=x0 ((F.c F4).c F5);simp[b_,j_,g3,re.t_,an];apply aa (qP F5.o (lo.fr F5).lo);rintro _ h6 ⟨rfl,F6⟩;simp[b_,DF,j_,g5,af,an];exact F0.c ((F4.c F5).c F6)
theorem qt(x:m_):∀{a b:PT},PT.l? a b->bZ x a=bZ x b
 |.w_,.w_,_=>rfl
 |.o_ _ _ _ _ _ _ _ s n,.o_ _ _ _ _ _ _ _ s' n',⟨h1,h2,h3,h4,h5,h6,h7⟩=>by subst h1 h2 h3 h4 h5;simp[bZ,qt x h6,qt x h7]
 |.w_,.o_ _ _ _ _ _ _ _ _ _,h=>h.elim
 |.o_ _ _ _ _ _ _ _ _ _,.w_,h=>h.elim
theorem D6(h:bX Ks K)(cap:Int)(x:m_):cG K cap x=cG Ks cap x:=by
 unfold cG;cases e:Ks[x.K]? with
 |none=>
  have:K[x.K]? =none:=by rw[Za]at e|-;rw[<-eX h];exact e
  rw[this]
 |some q=>let⟨p,e2,s⟩:=nR h e;rw[e2];let⟨h1,h2,h3,h4,h5,_,_,_,Z⟩:=s;simp[fL,h1,h2,h3,h4,h5,PT.R? _ _ _ _ _ Z,qt x Z]
theorem zW{K:List p_}{cap:Int}{p:Nat→Bool}:∀{seen:List Nat}{Y:List m_},(∀y∈Y,Q2 y K.length=true∧cG K cap y=0∧p y.J=false∧y.J∉seen)→(Y.map m_.J).Nodup→pF K cap p seen Y=0
 |_,[],_,_=>rfl
 |seen,y::Y,h,n=>by let⟨h1,h2,h3,h4⟩:=h y iS;rw[List.map_cons,List.nodup_cons]at n;simp only[pF];rw[h1,if_neg dI,if_neg iX,if_neg iX];refine zW (fun z m=>?_) n.2;let⟨g1,g2,g3,g4⟩:=h z iX;refine⟨g1,g2,g3,fun c=>?_⟩;obtain c|c:=List.mem_append.1 c;exact g4 c;grind
theorem vN:∀{L:List Int}{t:Int},(∀x∈L,1≤x∧x≤50)→t+50*L.length≤4611686018427387904→xD t L=0
 |[],_,_,_=>rfl
 |x::L,t,h,c=>by have:=h x iS;rw[List.length_cons]at c;simp only[xD];rw[if_neg oM,if_neg oM];exact vN (fun y m=>h y iX) oM
theorem iA:∀{L:List Int},(∀x∈L,1≤x∧x≤50)→0≤L.sum∧L.sum≤50*L.length
 |[],_=>by simp
 |x::L,h=>by have:=h x iS;have:=iA (L:=L) fun y m=>h y iX;simp only[List.sum_cons,List.length_cons];omega
theorem DN{L:List Int}(h:∀x∈L,1<=x/\x<=50)(Z:L.length<=1000):c9 [] 0 L=0:=by have:=iA h;unfold c9;rw[if_pos iS,if_neg oO,if_pos (vN h oM),if_neg oO]
theorem zw:∀(X:List m_)(mc:dN)(i:Nat),(X.map m_.J).Nodup→∀k j,(iF mc X i).1 k=some j↔(∃n x,X[n]? =some x∧x.J=k∧j=i+n)∨((∀x∈X,x.J≠k)∧mc.1 k=some j)
 |[],mc,i,_,k,j=>by simp[iF]
 |x::r,mc,i,nd,k,j=>by
  rw[List.map_cons,List.nodup_cons]at nd;have ih:=zw r (xM mc x.J i) (i+1) nd.2 k j;simp only[iF];rw[ih];have ms:(xM mc x.J i).1 k=if k=x.J then some i else mc.1 k:=by simp only[xM,gy]
  rw[ms];constructor;rintro(⟨n,y,h1,h2,h3⟩|⟨h1,h2⟩);exact .inl ⟨n+1,y,by simpa using h1,h2,oM⟩;by_cases c:k=x.J;rw[if_pos c]at h2;exact .inl ⟨0,x,rfl,c.symm,by cases h2;rfl⟩;grind;grind
theorem zy:∀(X:List m_)(mc:dN)(i:Nat),(iF mc X i).2≤mc.2+X.length
 |[],_,_=>Nat.le_refl _
 |x::r,mc,i=>by
  have:=zy r (xM mc x.J i) (i+1);have h2:(xM mc x.J i).2≤mc.2+1:=by simp only[xM];split<;>omega
  simp only[iF,List.length_cons];omega
def d_.ht(e:d_):Nat×Int:=(e.x.J,e.b)
theorem wk{m:Nat→Option Nat}{E:List d_}{bs:d_→Int}(ix:R2 m E)(hb:∀e∈E,1≤bs e∧bs e≤50)(h0:∀e∈E,e.kn=false→e.b=bs e)(h1:∀e∈E,e.kn=true→1≤e.b∧e.b≤50)(hl:E.length≤1000):
 ∀(n i c:Nat),i+n=E.length→∃c',j5 m (((E.drop i).filter d_.kn).map d_.ht) c ((E.take i).map d_.b++(E.drop i).map bs) ((E.take i).map d_.kn++List.replicate n false)=(0,c',E.map d_.b,E.map d_.kn)
 |0,i,c,e=>by rw[List.drop_of_length_le oM,List.take_of_length_le oM];exact⟨c,by simp[j5]⟩
 |n+1,i,c,hi=>by
  have il:i<E.length:=oM;have p:E[i]? =some E[i]:=List.getElem?_eq_getElem il;generalize E[i]=e at p;have em:=List.mem_of_getElem? p;have lb:((E.take i).map d_.b++(E.drop i).map bs).length=E.length:=by simp;omega
  have ih:=fun c=>wk ix hb h0 h1 hl n (i+1) c oM;have tk:((E.take i).map d_.b).length=i:=by simp;omega
  have tk2:((E.take i).map d_.kn).length=i:=by simp;omega
  rw[aL p];cases ek:e.kn with
  |false=>let⟨c',r⟩:=ih c;refine⟨c',?_⟩;rw[List.filter_cons_of_neg iX];rw[List.take_add_one,p]at r;simp only[Option.toList_some,List.map_append,List.map_cons,List.map_nil,List.append_assoc,List.singleton_append,ek,h0 e em ek]at r;rw[List.map_cons,List.replicate_succ];exact r
  |true=>
   let⟨c',r⟩:=ih (c+1);refine⟨c',?_⟩;rw[List.filter_cons_of_pos iX,List.map_cons,List.map_cons,List.replicate_succ];have mk:m e.x.J=some i:=(ix _ i).2 ⟨e,p,rfl⟩;have all:∀x∈(E.take i).map d_.b++bs e::(E.drop (i+1)).map bs,1≤x∧x≤50:=by grind
   have sl:=iA all;have ll:((E.take i).map d_.b++bs e::(E.drop (i+1)).map bs).length=E.length:=by simp;omega
   have g:((E.take i).map d_.b++bs e::(E.drop (i+1)).map bs).getD i 0=bs e:=by grind
   have hx:bJ ((E.take i).map d_.b++bs e::(E.drop (i+1)).map bs) i e.b=0:=by have b1:=h1 e em ek;have b2:=hb e em;unfold bJ;rw[if_pos ⟨oM,by rw[ll];omega⟩,if_neg oM,Int.toNat_natCast,g,if_neg (by rw[ll]at sl;omega)]
   have s1:((E.take i).map d_.b++bs e::(E.drop (i+1)).map bs).set i e.b=(E.take i).map d_.b++e.b::(E.drop (i+1)).map bs:=by grind
   have s2:((E.take i).map d_.kn++false::List.replicate n false).set i true=(E.take i).map d_.kn++true::List.replicate n false:=by grind
   rw[List.take_add_one,p]at r;simp only[Option.toList_some,List.map_append,List.map_cons,List.map_nil,List.append_assoc,List.singleton_append,ek]at r;simp only[j5,d_.ht,mk,hx,if_pos,s1,s2];exact r
theorem Pp(q i:Nat)(Z:i<5):aP (.c 2) [.y q 0 5 5,ZZ (i:Int)]=some (.u q (i*2)):=by have:i=0\/i=1\/i=2\/i=3\/i=4:=oM;obtain rfl|rfl|rfl|rfl|rfl:=this<;>simp[aP]<;>exact⟨_,rfl,rfl⟩
def It(b:Nat):List V:=[ZY 1,.E (.func 57) [.u b 0] [],ZY 2,.E (.func 58) [.u b 0] [],ZY 3,.E (.func 59) [.u b 0] [],ZY 4,.E (.func 60) [.u b 0] [],ZY 5,.E (.func 61) [.u b 0] []]
theorem D9{h:a_}{b B S k n:Nat}{a c t:Int}{X:List m_}{l:List Int}{v:V}{mc:dN}{R:V->a_->Prop}(w:WF h)(s:L_ n0 h b Ks cap X l kn st vK bg B bm S bl pm mc)
 (hk:k<256) (sl:T5 h 4 v n cs) (hE:∀h',eO k a c t n≠0->Fr [] h h'->R (ZZ (eO k a c t n)) h') (hD:eO k a c t n=0->∀h',Fr [] h h'->ao go (56+k) [.u b 0,.B [ZY (k:Int),ZZ a,ZZ c,ZZ t,v]] h' R):
 ao go 18 [.u b 0,.B [ZY (k:Int),ZZ a,ZZ c,ZZ t,v]] h R:=by
 have v1:v.U=true:=T5.U sl;let⟨h1,ax,K,af⟩:=aq w [ZY (k:Int),ZZ a,ZZ c,ZZ t,v];have s1:=s.fr w K;have l5:aj h1 h.e 0 5=some [ZY (k:Int),ZZ a,ZZ c,ZZ t,v]:=by rw[af.N];rfl
 refine ah ?_;simp[b_,<-ax];refine aa (mA s1) ?_;rintro _ _ ⟨rfl,rfl⟩;simp[b_,l5];apply aa (Er K.o hk (sl.fr K));rintro _ h2 ⟨rfl,F2⟩;have aJ:=K.c F2;by_cases c0:eO k a c t n=0;have kk:1<=k/\k<=5:=by unfold eO at c0;split at c0;cases c0;omega
 simp only[b_,↓reduceIte,Nat.reduceEqDiff,Nat.reduceLT,c0];obtain⟨h3,Z⟩:∃h3,h3=h_ h2 (It b):=⟨_,rfl⟩;have ac:Fr [] h2 h3:=Z▸WA F2.o _;have o3:e_ h3 h2.e (It b):=Z▸Xc F2.o _;change W _ _ _ (h_ h2 (It b)) _;rw[<-Z];have n3:=x_ Z;have row:∀hh,Fr [] h3 hh->∀i,i<5->aj hh h2.e (i*2) 2=some [ZY ((i+1:Nat):Int),.E (.func (57+i)) [.u b 0] []]:=by intro hh f i hi;have:i=0\/i=1\/i=2\/i=3\/i=4:=oM;rw[(f.i o3).N];obtain rfl|rfl|rfl|rfl|rfl:=this<;>rfl
 refine aA (fun n env hh=>Fr [] h3 hh/\∃(i:Nat),env.c_ 32=some (ZZ i)/\env.c_ 31=some (ZZ (5:Nat))/\env.c_ 30=some (.y h2.e 0 5 5)/\env.c_ 0=some (.u b 0)/\env.c_ 3=some (.u h.e 0)/\i<k/\n=5-i) 5 oM ?_ ?_;exact⟨Wl ac.o,0,iS,iS,iS,iS,iS,oM,rfl⟩;rintro n env hh ⟨F,i,aN,a0,aR,g0,g3,hi,rfl⟩;have aH:i<5:=oM;have ay:(i:Int)<(5:Nat):=oM;have p1:=Pp h2.e i aH;have p3:=row hh F i aH;let⟨h4,ar,ae,az⟩:=aq F.o [ZY 0,.R];simp only[b_,↓reduceIte,Nat.reduceEqDiff,aN,a0,aR,ay,p1,p3,<-ar];apply B_ ae.o az;rintro h5 o5 F5 n5;have an:Fr [] hh h5:=ae.z F5 F.o (VZ _);have x0:ab h5 hh.e 0=some (ZY ((i+1:Nat):Int)):=o5.j 0;have x1:ab h5 hh.e 1=some (.E (.func (57+i)) [.u b 0] []):=o5.j 1;have Fa:=((aJ.c ac).c F).c an;have on:=((((F2.c ac).c F).c an).i af);have y0:ab h5 h.e 0=some (ZY (k:Int)):=on.j 0;have y5:aj h5 h.e 0 5=some [ZY (k:Int),ZZ a,ZZ c,ZZ t,v]:=by rw[on.N];rfl
 by_cases ek:k=i+1;have ak:(((i+1:Nat):Int)=(k:Int)):=oM;have aT:57+i<1099511627776:=oM;simp only[b_,↓reduceIte,Nat.reduceEqDiff,g3,x0,x1,y0,y5,eq_true ak,aT];refine ZW (show ao go (57+i) _ h5 R from ?_) ?_;have:=hD c0 h5 Fa;rw[(oM:56+k=57+i)]at this;exact this;intro u h' r;simp[b_];exact r;have ak:¬(((i+1:Nat):Int)=(k:Int)):=oM;simp(disch:=omega) only[b_,↓reduceIte,Nat.reduceEqDiff,ag,aN,g3,x0,y0,eq_false ak];refine s_ ⟨5-(i+1),oM,F.c an,i+1,iS,iX,iX,iX,iX,oM,rfl⟩;simp[b_,eq_false c0];exact hE _ c0 aJ
structure V0(Ks:List p_)(h:a_)(E:List d_):Prop where
 h:∀e∈E,u_ h e.x/\nZ e.x.vm=true/\Q2 e.x 3=true/\cG Ks 12 e.x=0
 b:∀e∈E,e.kn=false->e.b=aQ Ks e.x
 c:∀e∈E,e.kn=true->1<=e.b/\e.b<=50
 n:(E.map fun e=>e.x.J).Nodup
 l:E.length<=1000
 r:X5 Ks 12=true/\Ks.length=3/\GK Ks
theorem L_.wrlt{h:a_}{b B S:Nat}{X:List m_}{l:List Int}{mc:dN}(w:WF h)(s:L_ n0 h b Ks cap X l kn st vK bg B bm S bl pm mc):∀y∈Wr b bg B bm S bl pm,y<h.e:=by intro y m;simp only[Wr,Wa,Wt,Xb,or_false]at m;obtain(rfl|rfl|rfl|rfl|rfl|rfl)|m:=m;exact s.ob.lt w;exact s.g.c.1.lt w;exact s.gB.lt w;exact s.k.lt w;exact s.Sl';exact s.bl';exact s.pl y (eV m)
theorem mE{h:a_}{b o n m:Nat}{r:List V}(e:aj h b o n=some r)(l:m<=n):aj h b o m=some (r.take m):=by unfold aj at e|-;split at e;obtain⟨rfl,q⟩:=kJ e;rw[bN _ _ oM,Yu,XN l];cases e
theorem V0.f{h:a_}{E:List d_}(a:V0 Ks h E)(f:Fr [] h h'):V0 Ks h' E:=⟨fun e m=>⟨(a.h e m).1.fr f,(a.h e m).2⟩,a.b,a.c,a.n,a.l,a.r⟩
theorem V0.d{h:a_}{E:List d_}(a:V0 Ks h E):∀e∈E,1<=aQ Ks e.x/\aQ Ks e.x<=50:=by intro e m;have t:=(a.h e m).2.2.1;simp only[Q2,VY,decide_eq_true_eq]at t;have p:Ks[e.x.K]? =some (Ks[e.x.K]'(by rw[a.r.2.1];exact t.2.1)):=Wf _;generalize Ks[e.x.K]'(by rw[a.r.2.1];exact t.2.1)=q at p;have g:=(a.r.2.2 q (Wc p)).2.2;rw[aQ,p];exact g
theorem V0.e{h:a_}{E:List d_}(a:V0 Ks h E):Y1 E:=by intro e m;cases Z:e.kn;have:=a.d e m;rw[a.b e m Z];omega;have:=a.c e m Z;omega
theorem V0.i{h:a_}{E:List d_}(a:V0 Ks h E):∀e∈E,0<e.x.J:=by intro e m;have t:=(a.h e m).2.2.1;simp only[Q2,VY,decide_eq_true_eq]at t;omega
theorem _root_.Go.Ev.Gs.dj{h:a_}{B e:Nat}{v:V}(g:Gs h B e v cs)(f:Fr Z h h')(d:∀z∈Z,z∉vb v):Gs h' B e v cs:=by obtain z|⟨b,n,K,z2,z3,z4,o⟩:=g;exact .inl z;exact .inr ⟨b,n,K,z2,z3,z4,f.I _ _ (fun m=>d _ m (by rw[K];simp[vb])) o⟩
theorem X_.vals:∀{a b:List m_},X_ a b→b.map m_.sx=a.map m_.sx
 |[],[],_=>rfl
 |_::_,_::_,h=>by obtain⟨⟨v,rfl,_⟩,h2⟩:=h;simp only[List.map_cons,X_.vals h2];rfl
 |[],_::_,h=>h.elim
 |_::_,[],h=>h.elim
theorem EB{X:List m_}{E:List d_}(ev:X.map m_.sx=E.map (fun e=>e.x.sx))(n:(E.map fun e=>e.x.J).Nodup):R2 (iF (fun _=>none,0) X 0).1 E:=by
 have ek:X.map m_.J=E.map (fun e=>e.x.J):=by have:=congrArg (List.map Prod.fst) ev;rw[WL,WL]at this;exact this
 intro k j;rw[zw X _ 0 (by rw[ek];exact n)];constructor;rintro(⟨n,x,K,Z,h3⟩|⟨_,Z⟩);have:=congrArg (fun l=>l[n]?) ek;simp only[WM,K]at this;cases q:E[n]? with
 |none=>rw[q]at this;cases this
 |some e=>rw[q]at this;exact⟨e,by rw[(oM:j=n)];exact q,by rw[<-Z];exact(Xl this).symm⟩
 cases Z;rintro⟨e,K,Z⟩;have:=congrArg (fun l=>l[j]?) ek;simp only[WM,K]at this;cases q:X[j]? with
 |none=>rw[q]at this;cases this
 |some x=>rw[q]at this;exact .inl ⟨j,x,q,by rw[<-Z];exact Xl this,oM⟩
theorem KM{N:Nat}{h:a_}{b B S:Nat}{v:V}{E:List d_}(w:WF h)(s:L_ n0 h b K 12 [] [] [] [] vK bg B bm S bl pm (fun _=>none,0))(sk:bX Ks K)(wr:∀y∈Wr b bg B bm S bl pm,y<N)(o:V0 Ks h E)
 (hi:∀(Z:List Nat)(h':a_),(∀z∈Z,z∈Wr b bg B bm S bl pm\/h.e<=z)->Fr Z h h'->∀e∈E,u_ h' e.x) (g:Gs h N 4 v ((E.map d_.x).flatMap m_.s)):ao go 18 [.u b 0,.B [ZY 1,ZZ 0,ZZ 0,ZZ 0,v]] h fun u h'=>u=ZZ 0/\Fr (Wr b bg B bm S bl pm) h h'/\
  ∃X B' S' pm' mc,L_ n0 h' b K 12 X (E.map fun e=>aQ Ks e.x) (List.replicate E.length false) (E.map fun e=>bI Ks e.x) vK bg B' bm S' bl pm' mc/\X.map m_.sx=E.map (fun e=>e.x.sx)/\(∀x∈X,nZ x.vm=true)/\R2 mc.1 E/\mc.2<=1024/\
   ∀y∈Wr b bg B' bm S' bl pm',y∈Wr b bg B bm S bl pm\/h.e<=y:=by
 have sl:Sl h 4 v (E.map d_.x).length ((E.map d_.x).flatMap m_.s):=ZT g (aC dP _) oM;have v1:=sl.U;have el:(E.map d_.x).length=E.length:=by simp
 have hl:=o.l;have ae:X5 K 12=true:=by rw[<-Bd sk];exact o.r.1
 have e0:eO 1 0 0 0 (E.map d_.x).length=0:=by simp[eO]
 refine D9 (k:=1) (n:=(E.map d_.x).length) w s oM (Sl.a sl) (fun h' c f=>absurd e0 c) (fun _ h1 f1=>?_);have s1:=s.fr w f1;have eb:(E.map d_.x).map (aQ K)=E.map fun e=>aQ Ks e.x:=by rw[WL];exact List.map_congr_left fun e m=>(ql sk e.x).1
 have es:(E.map d_.x).map (bI K)=E.map fun e=>bI Ks e.x:=by rw[WL];exact List.map_congr_left fun e m=>(ql sk e.x).2
 have nd:((E.map d_.x).map m_.J).Nodup:=by rw[WL];exact o.n
 have er:m8 K 12 0 [] (E.map d_.x) [] (fun _=>false)=0:=by
  unfold m8;have af:pF K 12 (fun _=>false) [] (E.map d_.x)=0:=by refine zW (fun y m=>?_) nd;obtain⟨e,em,rfl⟩:=WP.1 m;let⟨_,_,q1,q2⟩:=o.h e em;exact⟨by rw[<-eX sk,o.r.2.1];exact q1,by rw[D6 sk];exact q2,rfl,iS⟩
  rw[if_neg iS,if_neg oO,af,if_neg dI,eb];exact DN (fun x m=>by obtain⟨e,em,rfl⟩:=WP.1 m;exact o.d e em) oO
 refine ZW (ED (a:=0) f1.o s1 oM ae iS iS iS (Y:=E.map d_.x) (fun Z h' hZ f=>?_) (fun y m=>?_) oM (by simp only[au,aB,v1];rfl)) ?_;have n1:=f1.e;have gl:=g.lt w;have f':Fr Z h h':=Wp f1 f w iS (fun x m=>.inl m);refine⟨Sl.a (ZT (g.dj f' fun z m c=>?_) (aC dP _) oM),fun y m=>?_⟩;have:=g.vb z c;have:=gl z c;obtain q|q:=hZ z m;grind;omega;grind;obtain⟨e,em,rfl⟩:=WP.1 m;exact(o.h e em).2.1;rintro _ h' ⟨rfl,_,r2⟩;have ac:m8 K 12 0 [] (E.map d_.x) [] (fun x=>(((fun _=>none,0):dN).1 x).isSome)=0:=er;rw[ac]at r2|-;let⟨_,_,_,Y',B',S',pm',cp,s2,f2,q1,q2,q3⟩:=r2 rfl;rw[eb,es]at s2;simp at s2;have ev:Y'.map m_.sx=E.map (fun e=>e.x.sx):=by rw[cp.vals,WL];rfl
 refine⟨rfl,Wp f1 f2 w iS (fun x m=>.inl m),Y',B',S',pm',_,s2,ev,cp.nz,EB ev o.n,?_,?_⟩;have:=zy Y' (fun _=>none,0) 0;have:=cp.t_;simp only[]at *;omega;have n1:=f1.e;intro y m;simp only[Wr,Wa,Wt,Xb,or_false]at m|-;obtain(m|m|m|m|m|m)|m:=m;omega;omega;omega;omega;omega;omega;grind
theorem Kf{h:a_}{b B S:Nat}{v:V}{E:List d_}{X:List m_}{mc:dN}(w:WF h)(s:L_ n0 h b K 12 X (E.map fun e=>aQ Ks e.x) (List.replicate E.length false) st vK bg B bm S bl pm mc)
 (ix:R2 mc.1 E) (o:V0 Ks h E) (sv:∀(Z:List Nat)(h':a_),(∀z∈Z,z∈Wr b bg B bm S bl pm\/h.e<=z)->Fr Z h h'->C_ htC 2 h' v ((E.filter d_.kn).map d_.ht)):
 ao go 15 [.u b 0,v] h fun u h'=>∃c:Int,u=.D [ZZ c,ZZ 0]/\Fr (bl::pm.toList) h h'/\L_ n0 h' b K 12 X (E.map d_.b) (E.map d_.kn) st vK bg B bm S bl pm mc:=by
 have hl:=o.l;let⟨c',em⟩:=wk ix o.d o.b o.c oM E.length 0 0 oM;simp at em;refine ZW (zf w s sv (fun x m=>?_) (by have:=Ys d_.kn E;simp;omega) (fun k j q=>?_)) ?_;obtain⟨e,me,rfl⟩:=WP.1 m;have ac:=Yj.1 me;have:=o.c e ac.1 ac.2;exact⟨(o.h e ac.1).1.k,by show _<=e.b;omega,by show e.b<=_;omega⟩;let⟨e,h1,_⟩:=(ix k j).1 q;have:=(Wk.1 h1).1;omega;rintro _ h' ⟨rfl,r1,_⟩;rw[em]at r1|-;let⟨f,s2⟩:=r1 rfl;exact⟨_,rfl,f,s2⟩
def SES(N:Nat)(Ks:List p_)(h:a_)(b:Nat)(E:List d_):Prop:=
 ∃n0 K X vK bg B bm S bl pm mc,L_ n0 h b K 12 X (E.map d_.b) (E.map d_.kn) (E.map fun e=>bI Ks e.x) vK bg B bm S bl pm mc/\bX Ks K/\X.map m_.sx=E.map (fun e=>e.x.sx)/\(∀x∈X,nZ x.vm=true)/\R2 mc.1 E/\mc.2<=1024/\(∀y∈Wr b bg B bm S bl pm,N<=y)/\N<=n0.1
theorem SES.se{N:Nat}{h:a_}{b:Nat}{E:List d_}(s:SES N Ks h b E):SE N Ks h b E:=by let⟨n0,K,X,vK,Z,B,bm,S,bl,pm,mc,s,r⟩:=s;exact⟨n0,K,X,_,vK,Z,B,bm,S,bl,pm,mc,s,r⟩
theorem DX{h:a_}{E:List d_}(w:WF h)(rk:q_ p_.s 9 h vK Ks)(kh:∀q∈Ks,Q9 h q)(re:q_ d_.s 6 h vE E)(o:V0 Ks h E):
 ao go 7 [.B [vK,ZZ 12],.B [vE]] h fun u h'=>∃b,u=.u b 0/\Fr [] h h'/\SES h.e Ks h' b E:=by
 have v1:vK.U=true:=Xs rk;have v2:vE.U=true:=Xs re;have hl:=o.l;let⟨h1,ay,a0,bk⟩:=aq w [vK,ZZ 12];let⟨h2,aJ,aN,az⟩:=aq a0.o [vE];have n1:=x_ ay;have n2:=x_ aJ;have an:=a0.c aN;have c0:aj h2 h.e 0 2=some [vK,ZZ 12]:=by rw[(aN.i bk).N];rfl
 refine ah ?_;simp[b_,<-ay,<-aJ,c0];refine aa (JP an.o (Xn rk an) (fun q m=>(kh q m).fr an) (by rw[o.r.2.1];omega) o.r.1) ?_;rintro _ h3 ⟨b,bg,bm,bl,bv,K,rfl,F3,sk,s3,ge⟩;have bh:=an.c F3;simp[b_];let⟨h4,aH,aR,a5⟩:=aq F3.o [ZY 0,ZZ 0,ZZ 0,ZZ 0,.r];have n4:=x_ aH;simp[<-aH];apply B_ aR.o a5;rintro h5 o5 F5 n5;have bC:Fr [] h3 h5:=aR.z F5 F3.o (VZ _);have wl:∀y∈Wr b bg h2.e bm bm bl none,h2.e<=y/\y<h3.e:=fun y m=>⟨ge y m,s3.wrlt F3.o y m⟩;simp[b_];refine aA (fun n env hh=>Fr [] h3 hh/\∃(i:Nat)(vI vT:V),env.c_ 9=some (ZZ i)/\env.c_ 8=some vT/\env.c_ 7=some (.u h3.e 0)/\env.c_ 5=some (.u b 0)/\env.c_ 3=some (.u h1.e 0)/\i<=E.length/\e_ hh h3.e [ZY 1,ZZ 0,ZZ 0,ZZ 0,vI]/\
  Gs hh h4.e 4 vI (((E.take i).map d_.x).flatMap m_.s)/\Gs hh h4.e 2 vT ((((E.take i).filter d_.kn).map d_.ht).flatMap htC)/\(∀z∈vb vI,z∉vb vT)/\n=E.length-i) E.length oM ?_ ?_
 exact⟨bC,0,.r,.r,iS,iS,iS,iS,iS,oM,o5,.inl ⟨rfl,rfl⟩,.inl ⟨rfl,rfl⟩,by simp[vb],rfl⟩;rintro n env hh ⟨F,i,vI,vT,g9,g8,g7,g5,g3,hi,on,GI,GT,dj,rfl⟩;have nF:=F.e;have cc:=on.lt F.o;have ak:=bh.c F;have a1:ab hh h1.e 0=some vE:=((F3.c F).i az).j 0;by_cases c:i<E.length;have p4:E[i]? =some E[i]:=Wf c;generalize E[i]=e at p4;have em:=Wc p4;have ae:=((o.h e em).1).fr ak;have rd:∀{H},Fr [] h H->∃bi oi,aP (.c 6) [vE,ZZ (i:Int)]=some (.u bi oi)/\aj H bi oi 4=some e.x.s/\ab H bi oi=some (ZX (e.x.J:Int))/\ab H bi (oi+4)=some (ZZ e.b)/\ab H bi (oi+5)=some (.h e.kn):=by intro H f;let⟨bi,oi,e',p1,p2,p3,a7⟩:=(re.fr f).ix aM .i64 (i:Int) oM oM;rw[pi,p4]at a7;cases a7;exact⟨bi,oi,p1,mE p3 oM,p2 0 oM,p2 4 oM,p2 5 oM⟩
 let⟨bi,oi,p1,p3,_⟩:=rd ak;let⟨hx,aT,ac,a8⟩:=aq F.o e.x.s;have nx:=x_ aT;have i0:ab hh h3.e 4=some vI:=on.j 4;have i1:ab hx h3.e 4=some vI:=(ac.i on).j 4;have u1:bG [ZX 0,ZY 0,.f [],.r] 0 e.x.s=some e.x.s:=rfl;simp only[b_,seval,j_,g9,g7,g3,a1,re.t_,(oM:(i:Int)<E.length),i0,p1,p3,u1,(iR:e.x.s.length=4),<-aT];have ib:=GI.vb;have il:=GI.lt F.o;have tb:=GT.vb;have tl:=GT.lt F.o;refine Ym (bytes:=56) (n:=1) ac.o (GI.fr ac) (Xy a8 rfl) oM oM ae.U oM (by rw[aC dP];simp;omega) ?_;intro ar hy bj eI FI;have cb:=FI.I _ _ (fun m=>by have:=ib _ m;omega) (ac.i on);have c1:=bj.U;simp only[b_,seval,j_,g7];refine ai (c':=[ZY 1,ZZ 0,ZZ 0,ZZ 0,ar]) FI.o cb (by rw[aF c1];rfl) (by rw[aF c1];simp only[au,aB,c1];rfl) (by rw[aF c1];rfl) ?_;rintro hz oz Fz nz;have nI:=FI.e;have n3:=F.e;have FN:Fr [] h3 hz:=(XD F3.o (F.c ac) FI (fun z m=>by have:=ib z m;omega)).z Fz F3.o (VZ _);have ca:=bh.c FN;have a4:=bj.keep Fz oO;have ba:=((GT.fr ac).dj FI (fun z m=>dj z m)).keep Fz oO;have dz:∀z∈vb ar,z∉vb vT:=by grind
 have a3:ab hz h1.e 0=some vE:=((F3.c FN).i az).j 0;let⟨bz,cg,q1,q3,q0,q4,q5⟩:=rd ca;have bn:((E.take (i+1)).map d_.x).flatMap m_.s=((E.take i).map d_.x).flatMap m_.s++e.x.s:=by rw[Wn,p4];simp
 simp(disch:=omega) only[b_,seval,DF,j_,ag,g9,g8,g3,a3,q1,q5,i0,i1,a1,p3];cases ek:e.kn with
 |false=>
  have a2:(E.take (i+1)).filter d_.kn=(E.take i).filter d_.kn:=by rw[Wn,p4,Xu];simp[ek]
  simp only[seval];refine s_ ⟨E.length-(i+1),oM,FN,i+1,ar,vT,iS,iX,iX,iX,iX,oM,oz,by rw[bn];exact a4,by rw[a2];exact ba,dz,rfl⟩
 |true=>
  let⟨hq,ax,af,a6⟩:=aq Fz.o [ZX (e.x.J:Int),ZZ e.b];have nq:=x_ ax;simp only[b_,seval,j_,g9,g3,a3,q1,q0,q4,<-ax];refine Ym (bytes:=16) (n:=1) af.o (ba.fr af) (Xy a6 rfl) oM oM rfl oM (by rw[aC (f:=htC) (k:=2) (fun _=>rfl)];have:=Ys d_.kn (E.take i);simp at this|-;omega) ?_;intro bt hr bu eT FT;have FR:Fr [] h3 hr:=XD F3.o (FN.c af) FT (fun z m=>by have:=tb z m;omega);have bA:=FT.I _ _ (fun m=>by have:=tb _ m;omega) (af.i oz);have bB:=(a4.fr af).dj FT (fun z m c=>dz z c m);have bE:=a4.lt Fz.o;have a2:(((E.take (i+1)).filter d_.kn).map d_.ht).flatMap htC=(((E.take i).filter d_.kn).map d_.ht).flatMap htC++[ZX (e.x.J:Int),ZZ e.b]:=by rw[Wn,p4,Xu];simp[ek];rfl
  simp(disch:=omega) only[b_,seval,DF,j_,ag,g9,a3,q0,q4];refine s_ ⟨E.length-(i+1),oM,FR,i+1,ar,bt,iS,iS,iX,iX,iX,oM,bA,by rw[bn];exact bB,by rw[a2];exact bu,?_,rfl⟩;intro z m c;rw[eT,Wi]at c;have:=bE z m;omega
 have ei:i=E.length:=oM;subst ei;rw[Wj (VZ _)]at GI GT;have l5:aj hh h3.e 0 5=some [ZY 1,ZZ 0,ZZ 0,ZZ 0,vI]:=by rw[on.N];rfl
 have tb:=GT.vb;have tl:=GT.lt F.o;have sh:=s3.fr F3.o F;have oh:=o.f ak;simp[b_,g9,g7,g5,g3,a1,re.t_,l5];refine aa (KM (N:=h4.e) F.o sh sk (fun y m=>by have:=wl y m;omega) oh (fun Z h' hZ f e m=>?_) GI) ?_;refine(o.h e m).1.fr (XD w ak f fun z mz=>?_);have:=ak.e;obtain q|q:=hZ z mz;grind;omega;rintro _ ha ⟨rfl,Fa,X,B',S',a9,mc,sa,ev,nz,ix,bT,bw⟩;have bf:Fr [] h ha:=XD w ak Fa (fun z m=>by have:=wl z m;omega);have na:=Fa.e;simp[b_,g8,g5];refine aa (Kf Fa.o sa ix (o.f bf) (fun Z h' hZ f=>?_)) ?_;refine Sl.a (ZT (n:=((E.filter d_.kn).map d_.ht).length) ((GT.dj Fa (fun z m c=>?_)).dj f (fun z m c=>?_)) (aC (f:=htC) (k:=2) (fun _=>rfl) _) oM);grind;grind;rintro _ hb ⟨c',rfl,Fb,sb⟩;simp only[b_,seval,g5];have wn:∀y∈Wr b bg B' bm S' bl a9,h.e<=y:=by intro y m;obtain q|q:=bw y m;grind;have:=ak.e;omega
 refine⟨b,rfl,XD w bf Fb (fun z m=>wn z ?_),(h2.e,none),K,X,bv,bg,B',bm,S',bl,a9,mc,sb,sk,ev,nz,ix,bT,wn,an.e⟩;obtain rfl|m:=Wt.1 m;simp[Wr];exact Wa.2 (.inr m)
section
variable {n0 : NL} {h : a_} {b bg B bm S bl : Nat} {Ks : List p_} {cap : Int} {X : List m_} {l : List Int} {kn st : List Bool} {vK : V} {pm : Option Nat} {mc : dN}
end
theorem Id{h:a_}{q key:Nat}{e:d_}(w:WF h)(o:e_ h q [ZX (key:Int)])(a:u_ h e.x):ao go 96 [.B e.s,.u q 0] h fun u h'=>u=.h (decide (e.x.J=key))/\Fr [] h h':=by let⟨h1,K,Z,ac⟩:=aq w e.s;have x0:ab h1 h.e 0=some (ZX (e.x.J:Int)):=ac.j 0;have y0:ab h1 q 0=some (ZX (key:Int)):=(Z.i o).j 0;have d:decide ((e.x.J:Int)=(key:Int))=decide (e.x.J=key):=decide_eq_decide.2 oM;refine ah ?_;simp[b_,<-K,x0,y0,d];exact Z
theorem zS{h:a_}{E:List d_}{key:Nat}{m:Nat->Option Nat}(w:WF h)(re:q_ d_.s 6 h vE E)(ie:∀e∈E,u_ h e.x)(hE:E.length<=4096)(ix:R2 m E):ao go 44 [.B [vE],ZX (key:Int)] h fun u h'=>u=fJ (m key)/\Fr [] h h':=by
 have v1:vE.U=true:=Xs re;let⟨h1,af,ac,ar⟩:=aq w [vE];let⟨h2,ak,Z,an⟩:=aq ac.o [ZX (key:Int)];have K:=ac.c Z;have x0:ab h2 h.e 0=some vE:=(Z.i ar).j 0;refine ah ?_;simp[b_,<-af,<-ak,x0];refine aa (R:=fun u h'=>u=ZZ (match m key with|some j=>(j:Int)|none=>-1)/\Fr [] h2 h') ?_ ?_
 refine ah ?_;simp[b_,(re.fr K).t_];refine aA (fun n env hh=>Fr [] h2 hh/\∃i:Nat,env.c_ 8=some (ZZ i)/\env.c_ 7=some (ZZ E.length)/\env.c_ 0=some vE/\env.c_ 1=some (.E (.func 96) [] [.u h1.e 0])/\i<=E.length/\(∀j e,j<i->E[j]? =some e->e.x.J≠key)/\n=E.length-i) E.length oM ?_ ?_;exact⟨Wl Z.o,0,iS,iS,iS,iS,oM,fun j e c=>by omega,rfl⟩;rintro n env hh ⟨F,i,g8,g7,g0,g1,hi,hn,rfl⟩;by_cases c:i<E.length;let⟨bi,oi,e,p1,_,p3,p4⟩:=(re.fr (K.c F)).ix aM .i64 (i:Int) oM oM;rw[pi]at p4;have ae:=(ie e (Wc p4)).fr (K.c F);have ax:69<1099511627776:=oM;simp only[b_,seval,g8,g7,g0,g1,(oM:(i:Int)<E.length),p1,p3];refine aa (Id F.o (F.i an) ae) ?_;rintro _ h3 ⟨rfl,F3⟩;by_cases ck:e.x.J=key;simp only[b_,seval,decide_eq_true ck];rw[(ix key i).2 ⟨e,p4,ck⟩];exact⟨rfl,F.c F3⟩;simp(disch:=omega) only[b_,seval,ag,g8,decide_eq_false ck];refine s_ ⟨E.length-(i+1),oM,F.c F3,i+1,iS,iX,iX,iX,oM,?_,rfl⟩;intro j e' hj hx;by_cases cj:j=i;grind;grind;simp only[b_,seval,g8,g7,(oM:¬(i:Int)<E.length)];refine⟨?_,F⟩;cases e:m key with
 |none=>rfl
 |some j=>let⟨e',q1,q2⟩:=(ix key j).1 e;have:=(Wk.1 q1).1;exact absurd q2 (hn j e' oM q1)
 rintro _ h3 ⟨rfl,F3⟩;cases e:m key with
 |none=>simp[b_,fJ,(oM:max (-1:Int) 0=0)];exact K.c F3
 |some j=>simp[b_,fJ];exact K.c F3
theorem h?.on{N:Nat}{x:m_}(t:h? N h' Ks x cs)(f:Fr Z h' h2)(hZ:∀z∈Z,z<N):h? N h2 Ks x cs:=by let⟨q,s,va,vc,t1,t2,t3,t4⟩:=t;refine⟨q,s,va,vc,t1,t2,fun X h3 K g=>?_,t4⟩;refine t3 (Z++X) h3 (fun y m=>(Wa.1 m).elim (hZ y) (K y)) ⟨Wy f.e g.e,g.o,fun b c hb o=>g.I b c (fun m=>hb (Wa.2 (.inr m))) (f.I b c (fun m=>hb (Wa.2 (.inl m))) o),fun b c hb o=>g.pl b c (fun m=>hb (Wa.2 (.inr m))) (f.pl b c (fun m=>hb (Wa.2 (.inl m))) o),fun b x hx e=>g.lp b x hx (f.lp b x hx e),fun b c r=>g.ro b c (f.ro b c r)⟩
theorem h?.le{N M:Nat}{x:m_}(t:h? N h' Ks x cs)(l:M<=N):h? M h' Ks x cs:=by let⟨q,s,va,vc,t1,t2,t3,K⟩:=t;exact⟨q,s,va,vc,t1,t2,fun X h3 Z g=>t3 X h3 (fun y m=>Xh (Z y m) l) g,K⟩
theorem tL{h:a_}{x:m_}(w:WF h)(rk:q_ p_.s 9 h vK Ks)(kh:∀q∈Ks,Q9 h q)(a:u_ h x)(ht:x.K<Ks.length):
 ao go 92 [.B [vK,ZZ cap],.B x.s] h fun u h'=>∃cs,u=.D [.B cs,ZZ (cG Ks cap x)]/\Fr [] h h'/\aw cs=true/\cs.length=6/\(cG Ks cap x=0->h? h.e h' Ks x cs):=by
 have v1:vK.U=true:=Xs rk;let⟨h0,ae,af,ar⟩:=aq w [vK,ZZ cap];let⟨h1,ak,K,ax⟩:=aq af.o x.s;let⟨h2,an,Z,ay⟩:=aq K.o [ZY 0,.f [],.f [],.r,.f [],.r];have n0:=x_ ae;have n1:=x_ ak;have n2:=x_ an;have ac:=af.c (K.c Z);have ob:=Z.i (K.i ar);have ox:=Z.i ax;have l0:ab h2 h.e 0=some vK:=ob.j 0;have l1:ab h2 h.e 1=some (ZZ cap):=ob.j 1;have x1:ab h2 h0.e 1=some (ZY (x.K:Int)):=ox.j 1;have x4:aj h2 h0.e 0 4=some x.s:=by rw[ox.N];rfl
 let⟨bk,ok',q,p1,_,p3,p4⟩:=(Xn rk ac).ix cS .u8 (x.K:Int) oM oM;rw[pi]at p4;have hq:=kh q (Wc p4);have er:cG Ks cap x=fL q.k q.tg q.ky q.sl q.tx q.sub x cap:=by simp[cG,p4]
 have p6:aj h2 bk ok' 6=some q.part:=mE p3 oM;refine ah ?_;simp[b_,j_,<-ae,<-ak,<-an,l0,x1,p1,p6,x4,l1];refine aa (v7 (vs:=q.vs) (vp:=q.vp) Z.o (hq.fr ac) (a.fr ac)) ?_;rintro _ h3 ⟨cs,rfl,F3,z1,z2⟩;have on:aw cs=true/\cs.length=6:=by by_cases z:fL q.k q.tg q.ky q.sl q.tx q.sub x cap=0;obtain⟨s,va,vc,rfl,n,_⟩:=z2 z;exact⟨NH.ones (n [] h3 iS (Wl F3.o)),rfl⟩;rw[z1 z];exact⟨rfl,rfl⟩
 have az:=F3.i ay;simp[b_,j_];refine ai (c':=cs) F3.o az on.2 on.1 (by
  rw[cD _ _ _ (by show 0+cs.length<=6;omega)];simp[V.s];omega) ?_
 rintro h4 o4 F4 n4;have l4:aj h4 h1.e 0 6=some cs:=by rw[o4.N,fY,bN _ _ oM,Wj oM]
 simp only[b_,seval,DF,j_,l0,x1,p6,x4,l1,l4];refine⟨cs,by rw[er],(ac.c F3).z F4 w oM,on.1,on.2,fun z=>?_⟩;rw[er]at z;let⟨s,va,vc,e,n,es⟩:=z2 z;refine h?.le (N:=h2.e) ⟨q,s,va,vc,p4,e,fun X hh hX f=>n ([h1.e]++X) hh (fun y m=>?_) (Wp F4 f F3.o (fun y m=>.inl (Wa.2 (.inl m))) (fun y m=>.inl (Wa.2 (.inr m)))),es,qU z⟩ oM;obtain m|m:=Wa.1 m;simp at m;omega;exact hX y m
theorem jJ{h:a_}{E:List d_}(w:WF h)(re:q_ d_.s 6 h vE E)(ie:∀e∈E,u_ h e.x)(hE:E.length<=4096)(ok:Y1 E)(hs:(E.map d_.b).sum<=4611686018427387904):
 ao go 129 [.B [vE]] h fun u h'=>u=ZZ (E.map d_.b).sum/\Fr [] h h':=by
 have v1:vE.U=true:=Xs re;let⟨h1,ae,Z,an⟩:=aq w [vE];have x0:ab h1 h.e 0=some vE:=an.j 0;refine ah ?_;simp[b_,<-ae,x0,(re.fr Z).t_];refine aA (fun n env hh=>Fr [] h hh/\∃i:Nat,env.c_ 10=some (ZZ i)/\env.c_ 9=some (ZZ E.length)/\env.c_ 8=some vE/\env.c_ 3=some (ZZ ((E.take i).map d_.b).sum)/\i<=E.length/\n=E.length-i) E.length oM ?_ ?_;exact⟨Z,0,iS,iS,iS,iS,oM,rfl⟩;rintro n env hh ⟨F,i,ac,g9,g8,g3,hi,rfl⟩;have nn:=(ok.g i).d;by_cases c:i<E.length;let⟨bi,oi,e,p1,_,p3,p4⟩:=(re.fr F).ix aM .i64 (i:Int) oM oM;rw[pi]at p4;have em:=Wc p4;have ob:=ok e em;have ts:=vL p4;have:=(ok.f (i+1)).d;have:=Y1.e (E:=E) (i+1);let⟨h3,ak,K,af⟩:=aq F.o [ZX 0,ZY 0,.f [],.r,ZZ 0,.h false];simp only[b_,seval,ac,g9,g8,(oM:(i:Int)<E.length),p1,p3,<-ak];refine ai (c':=e.s) K.o af rfl (jr ((ie e em).fr F)) rfl ?_;rintro h4 o4 F4 n4;have ar:Fr [] hh h4:=K.z F4 F.o (VZ _);have l4:ab h4 hh.e 4=some (ZZ e.b):=o4.j 4;simp(disch:=omega) only[b_,seval,ag,ac,g3,l4,(oM:max e.b 0=e.b),eq_false (oM:¬4611686018427387904-((E.take i).map d_.b).sum<e.b)];refine s_ ⟨E.length-(i+1),oM,F.c ar,i+1,iS,iX,iX,(by rw[ts];simp),oM,rfl⟩;rw[Wj oM]at g3;simp[b_,ac,g9,g3,(oM:¬(i:Int)<E.length)];exact F
theorem wp{h:a_}{E:List d_}(w:WF h)(re:q_ d_.s 6 h vE E)(ie:∀e∈E,u_ h e.x)(hE:E.length<=4096)(ok:Y1 E)(hs:(E.map d_.b).sum<=4611686018427387904):
 ao go 94 [.B [vE]] h fun u h'=>u=ZZ 0/\Fr [] h h':=by
 have v1:vE.U=true:=Xs re;let⟨h1,K,Z,ac⟩:=aq w [vE];have x1:aj h1 h.e 0 1=some [vE]:=by rw[ac.N];rfl
 refine ah ?_;simp[b_,<-K,x1];refine aa (jJ Z.o (re.fr Z) (fun e m=>(ie e m).fr Z) hE ok hs) ?_;rintro _ h2 ⟨rfl,F2⟩;simp[b_,eq_false (oM:¬4611686018427387904<(E.map d_.b).sum)];exact Z.c F2
theorem V0.g{h:a_}{E:List d_}(o:V0 Ks h E):(E.map d_.b).sum<=50000:=by
 have:=iA (L:=E.map d_.b) (fun x m=>by
  obtain⟨e,Z,rfl⟩:=WP.1 m;cases K:e.kn;rw[o.b e Z K];exact o.d e Z;exact o.c e Z K)
 have hl:=o.l;simp at this;omega
theorem qy{h:a_}{E:List d_}(w:WF h)(rk:q_ p_.s 9 h vK Ks)(kh:∀q∈Ks,Q9 h q)(re:q_ d_.s 6 h vE E)(o:V0 Ks h E):
 ao go 43 [.B [vK,ZZ 12],.B [vE]] h fun u h'=>u=ZZ 0/\Fr [] h h':=by
 have v1:vK.U=true:=Xs rk;have v2:vE.U=true:=Xs re;have hl:=o.l;have k3:=o.r.2.1;let⟨h1,ay,aR,ae⟩:=aq w [vK,ZZ 12];let⟨h2,aH,Z,az⟩:=aq aR.o [vE];have n1:=x_ ay;have n2:=x_ aH;have a5:=aR.c Z;have c0:aj h2 h.e 0 2=some [vK,ZZ 12]:=by rw[(Z.i ae).N];rfl
 refine ah ?_;simp[b_,<-ay,<-aH,c0];refine aa (nM Z.o (Xn rk a5) (fun q m=>(kh q m).fr a5) oM) ?_;rintro _ K ⟨rfl,F3⟩;rw[o.r.1];have kk:∀{H},Fr [] K H->aj H h.e 0 2=some [vK,ZZ 12]:=fun f=>by rw[(f.i (F3.i (Z.i ae))).N];rfl
 have k0:∀{H},Fr [] K H->ab H h.e 0=some vK:=fun f=>(f.i (F3.i (Z.i ae))).j 0;have ee:∀{H},Fr [] K H->ab H h1.e 0=some vE:=fun f=>(f.i (F3.i az)).j 0;have e1:∀{H},Fr [] K H->aj H h1.e 0 1=some [vE]:=fun f=>by rw[(f.i (F3.i az)).N];rfl
 have e3:=ee (Wl F3.o);have a1:=a5.c F3;simp[b_,e3,re.t_,(oM:¬(1024:Int)<E.length)];obtain⟨h4,ac⟩:∃h4,h4=m9 K:=⟨_,rfl⟩;have aJ:Fr [] K h4:=ac▸Fr.hnew F3.o _;have s4:m? h4 K.e []:=⟨[],0,by rw[ac];exact ua _ _,rfl,iS⟩;have e4:=ee aJ;simp[b_,LF,<-ac,e4,re.t_];refine aA (fun n env hh=>Fr [] K hh/\∃(i:Nat),env.c_ 25=some (ZZ i)/\env.c_ 24=some (ZZ E.length)/\env.c_ 23=some vE/\env.c_ 2=some (.u h.e 0)/\env.c_ 3=some (.u h1.e 0)/\env.c_ 6=some (.map K.e)/\
  i<=E.length/\m? hh K.e ((E.take i).map fun e=>e.x.J)/\n=E.length-i) E.length oM ?_ ?_
 exact⟨aJ,0,iS,iS,iS,iS,iS,iS,oM,s4,rfl⟩;rintro n env hh ⟨F,i,ak,a8,bn,g2,g3,g6,hi,S,rfl⟩;have F0:=a1.c F;by_cases c:i<E.length;let⟨bi,oi,e,p1,_,p3,p4⟩:=(re.fr F0).ix aM .i64 (i:Int) oM oM;rw[pi]at p4;have em:=Wc p4;let⟨ax,nz,oi,bu⟩:=o.h e em;have a2:Q2 e.x Ks.length=true:=by rw[k3];exact oi
 have ht:e.x.K<Ks.length:=by simp only[Q2,VY,decide_eq_true_eq]at a2;exact a2.2.1
 let⟨h5,a7,aN,a9⟩:=aq F.o [ZX 0,ZY 0,.f [],.r,ZZ 0,.h false];simp only[b_,seval,ak,a8,bn,(oM:(i:Int)<E.length),p1,p3,<-a7];refine ai (c':=e.s) aN.o a9 rfl (jr (ax.fr F0)) rfl ?_;rintro h6 o6 F6 n6;have ar:Fr [] hh h6:=aN.z F6 F.o (VZ _);have bg:=F.c ar;have i4:∀{H},e_ H hh.e e.s->aj H hh.e 0 4=some e.x.s:=fun o=>by rw[o.N];rfl
 have i0:∀{H},e_ H hh.e e.s->ab H hh.e 0=some (ZX (e.x.J:Int)):=fun o=>o.j 0;have bw:=i4 o6;have bz:=k0 bg;simp only[b_,seval,g2,bw,bz,(ZU rk)];apply aa (uC ar.o (ax.fr (F0.c ar)) oM);rintro _ h7 ⟨rfl,F7⟩;rw[a2];have o7:=F7.i o6;have bm:=i0 o7;have S7:=(S.a ar).a F7;have nk:e.x.J∉(E.take i).map fun e=>e.x.J:=by
  intro m;have nd:=o.n;have:E.map (fun e=>e.x.J)=(E.take i).map (fun e=>e.x.J)++e.x.J::(E.drop (i+1)).map (fun e=>e.x.J):=by rw[<-WK (f:=fun e:d_=>e.x.J),<-aL p4,<-Xe,WO]
  rw[this,YT]at nd;exact nd.2.2 _ m _ iS rfl
 simp only[b_,seval,g6,bm,Ht,uT,xR S7,decide_eq_false nk,LE,AT];apply CK F7.o S7 nk;intro h8 S8 B8 n8;have af:Fr [] K h8:=V5.j F3.o (bg.c F7) B8 iS (VZ _);have a0:=a1.c af;have o8:=B8.d _ _ iS o7;have bv:=i4 o8;have bt:=kk af;simp only[b_,seval,g2,bv,bt];apply aa (tL af.o (Xn rk a0) (fun q m=>(kh q m).fr a0) (ax.fr a0) ht);rintro _ h9 ⟨cs,rfl,F9,on,cl,_⟩;let⟨ha,bf,aT,a6⟩:=aq F9.o [ZY 0,.f [],.f [],.r,.f [],.r];simp only[b_,<-bf];refine ai (c':=cs) aT.o a6 cl on (by
  rw[cD _ _ _ (by show 0+cs.length<=6;omega)];simp[V.s];omega) ?_
 rintro hb ob Fb nb;have a3:Fr [] h8 hb:=(F9.c aT).z Fb af.o F9.e;have an:=af.c a3;have a4:=a3.i o8;have b4:ab hb hh.e 4=some (ZZ e.b):=a4.j 4;have b5:ab hb hh.e 5=some (.h e.kn):=a4.j 5;have Sb:=S8.a a3;have es:(E.take (i+1)).map (fun e=>e.x.J)=(E.take i).map (fun e=>e.x.J)++[e.x.J]:=by rw[Wn,p4];simp
 simp only[b_,seval,j_,bu,b4];apply aa (wv e.b);rintro _ _ ⟨rfl,rfl⟩;have bj:I? e.b=true:=by have:=o.e e em;simp[I?];exact this
 cases ek:e.kn with
 |true=>rw[ek]at b5;simp(disch:=omega) only[b_,seval,DF,j_,ag,ak,b4,b5,bj];refine s_ ⟨E.length-(i+1),oM,an,i+1,iS,iX,iX,iX,iX,iX,oM,by rw[es];exact Sb,rfl⟩
 |false=>
  rw[ek]at b5;have bh:=k0 an;have b1:ab hb hh.e 1=some (ZY (e.x.K:Int)):=a4.j 1;let⟨bk,ok',q,q1,q2,q3,q4⟩:=(Xn rk (a1.c an)).ix cS .u8 (e.x.K:Int) oM oM;rw[pi]at q4;have q6:ab hb bk (ok'+6)=some (ZZ q.P):=q2 6 oM;have qb:e.b=q.P:=by rw[o.b e em ek];simp[aQ,q4]
  have ba:I? q.P=true:=by grind
  simp(disch:=omega) only[b_,seval,DF,j_,ag,ak,g2,b4,b5,ba,bh,b1,q1,q6,qb];refine s_ ⟨E.length-(i+1),oM,an,i+1,iS,iX,iX,iX,iX,iX,oM,by rw[es];exact Sb,rfl⟩
 have l1:=e1 F;simp[b_,ak,a8,g3,(oM:¬(i:Int)<E.length),l1];have os:=o.g;apply aa (wp F.o (re.fr F0) (fun e m=>((o.h e m).1).fr F0) oM o.e oM);rintro _ h5 ⟨rfl,F5⟩;simp[b_];exact F0.c F5
structure W9(N M:Nat)(h:a_)(Ks:List p_)(vE:V)(X:List m_)(E:List d_):Prop where
 g:Gs h N 6 vE (E.flatMap d_.s)
 l:∀z∈vb vE,z<M
 i:∀e∈E,W1 N h e.x
 f:∀e∈E,∀z∈vb e.x.vm,z<M
 o:∀h',(∀e∈E,u_ h' e.x)->V0 Ks h' E
 n:E.length<=12
theorem W9.d{N M:Nat}{h:a_}{X:List m_}{E:List d_}(d:W9 N M h Ks vE X E)(f:Fr Z h h')(l:∀z∈Z,z<N\/M<=z):W9 N M h' Ks vE X E:=
 ⟨d.g.dj f (fun z m c=>by have:=d.l z c;have:=d.g.vb z c;have:=l z m;omega),d.l,fun e m=>(d.i e m).a f (fun z mz c=>by have:=d.f e m z c;have:=(d.i e m).g.vb z c;have:=l z mz;omega),d.f,d.o,d.n⟩
theorem W9.H{N M:Nat}{h:a_}{X:List m_}{E:List d_}(d:W9 N M h Ks vE X E):∀e∈E,u_ h e.x:=fun e m=>(d.i e m).H
theorem W9.e{N M:Nat}{h:a_}{X:List m_}{E:List d_}(d:W9 N M h Ks vE X E):V0 Ks h E:=d.o h d.H
theorem W9.j{N M:Nat}{h:a_}{X:List m_}{E:List d_}(d:W9 N M h Ks vE X E):q_ d_.s 6 h vE E:=ZT (n:=E.length) d.g (aC aM _) oM
open Go.Ev.St
abbrev zz:g_:=[122,122]
theorem GJ{L M:List g_}(e:L.flatMap sS=M.flatMap sS):L.length=M.length:=by have:=congrArg List.length e;rw[aC fW,aC fW]at this;omega
theorem R0.lenS{N:Nat}{h:a_}{v:V}{L:List g_}(a:R0 N h v L):aP .d [v]=some (ZZ L.length):=a.rs.t_
theorem R0.capS{N:Nat}{h:a_}{v:V}{L:List g_}(a:R0 N h v L):aP .y [v]=some (ZZ L.length):=by obtain⟨rfl,rfl|⟨b,rfl,_⟩⟩|⟨b,rfl,_⟩:=a<;>rfl
theorem R0.wr{N b:Nat}{h:a_}{v:V}{L M K:List g_}(a:R0 N h v L)(f:Fr [b] h h')(o:e_ h b (M.flatMap sS))(o':e_ h' b (K.flatMap sS))(e:K.length=M.length):∃L',L'.length=L.length/\R0 N h' v L':=by obtain⟨rfl,rfl|⟨b',rfl,Z,ob⟩⟩|⟨b',rfl,Z,ob⟩:=a;exact⟨[],rfl,.inl ⟨rfl,.inl rfl⟩⟩;by_cases c:b'=b;subst c;have q:M.flatMap sS=([]:List g_).flatMap sS:=o.uniq ob;have q2:=GJ q;have:K=[]:=Wu.1 (by rw[e,q2];rfl);subst this;exact⟨[],rfl,.inl ⟨rfl,.inr ⟨_,rfl,Z,o'⟩⟩⟩;exact⟨[],rfl,.inl ⟨rfl,.inr ⟨_,rfl,Z,f.I _ _ (eV c) ob⟩⟩⟩;by_cases c:b'=b;subst c;have q2:=GJ (o.uniq ob);exact⟨K,oM,.inr ⟨_,by rw[e,q2],Z,o'⟩⟩;exact⟨L,rfl,.inr ⟨_,rfl,Z,f.I _ _ (eV c) ob⟩⟩
theorem R0.ix{N:Nat}{h:a_}{v:V}{L:List g_}{i:Nat}(a:R0 N h v L)(Z:i<L.length):∃b,N<=b/\e_ h b (L.flatMap sS)/\aP (.c 1) [v,ZZ (i:Int)]=some (.u b i)/\bG (L.flatMap sS) i [.f zz]=some ((L.set i zz).flatMap sS):=by have p:L[i]? =some L[i]:=Wf Z;have u:=ir (y:=zz) (o:=0) (vs:=[.f zz]) fW L i L[i] p rfl;rw[Xv,Yp]at u;obtain⟨rfl,_⟩|⟨b,rfl,K,o⟩:=a;simp at Z;refine⟨b,K,o,?_,u⟩;rw[dh _ _ _ _ _ _ _ oM oM];simp
section
variable {env : T V} {h h7 : a_} {N : Nat} (w7 : WF h7) (hN : h7.e <= N)
include w7 hN
def LsW(N bo:Nat)(h:a_)(Z Z':List d_):Prop:=bo<N/\e_ h bo (Z'.flatMap d_.s)/\Z'.map d_.x=Z.map d_.x/\∀z∈Z,∃L',L'.length=z.x.C.length/\R0 N h z.x.vm L'
end
open Go.Ev.St
section
variable {env : T V} {h h7 : a_} {N : Nat} (w7 : WF h7)
theorem LsW.wr{bo b:Nat}{h:a_}{Z Z':List d_}{M K:List g_}(a:LsW N bo h Z Z')(hb:N<=b)(f:Fr [b] h h')(o:e_ h b (M.flatMap sS))(o':e_ h' b (K.flatMap sS))(e:K.length=M.length):LsW N bo h' Z Z':=by let⟨l,ob,ex,cs⟩:=a;refine⟨l,f.I _ _ oO ob,ex,fun z m=>?_⟩;let⟨L,e1,c1⟩:=cs z m;let⟨L',e2,c2⟩:=c1.wr f o o' e;exact⟨L',oM,c2⟩
include w7
end
open Go.Ev.St
theorem xP(k t:Nat)(x:g_)(m:List g_)(v u:V):∀p:PT,bZ ⟨k,t,x,m,v⟩ p=bZ ⟨k,t,x,m,u⟩ p
 |.w_=>rfl
 |.o_ _ _ _ _ _ _ _ s n=>by simp[bZ,xP k t x m v u s,xP k t x m v u n];rfl
theorem A3{y z:m_}(e:y.sx=z.sx):y=⟨z.J,z.K,z.X,z.C,y.vm⟩:=by let⟨e1,K,Z,e4⟩:=m_.val_eq e;let⟨a,b,c,d,v⟩:=y;simp at e1 K Z e4;subst e1 K Z e4;rfl
theorem HF{y z:m_}(e:y.sx=z.sx)(p:PT):bZ y p=bZ z p:=by rw[A3 e];exact xP _ _ _ _ _ _ p
theorem K8{y z:m_}(e:y.sx=z.sx):N_ y=N_ z:=by rw[A3 e];rfl
theorem GY{y z:m_}(e:y.sx=z.sx):cG Ks cap y=cG Ks cap z:=by
 unfold cG;let⟨_,Z,_⟩:=m_.val_eq e;rw[Z];split;unfold fL;rw[HF e,K8 e];have:iG y=iG z:=by rw[A3 e];rfl
 rw[this];rfl
theorem Gp.f{h:a_}{b B D n:Nat}{l:List V}(g:Gp h b B n l)(gD:O_ h D)(hD:D≠b):∃B',(B'=D\/B'=B)/\Gp h b B' n l/\O_ h B':=by let⟨v,c1,G,c2,a,Z,m,k,x⟩:=g;obtain⟨K,⟨e,z⟩|⟨e,o⟩⟩:=id k.d;exact⟨D,.inl rfl,⟨v,c1,G,c2,a,Z,m,{k with d:=⟨K,.inl ⟨e,z⟩⟩,i:=hD},x⟩,gD⟩;exact⟨B,.inr rfl,⟨v,c1,G,c2,a,Z,m,k,x⟩,⟨_,o,oM,Bt k.o⟩⟩
theorem L_.step{h:a_}{b B S B' S':Nat}{X X':List m_}{l l':List Int}{ae ac:List Bool}{mc K:dN}(w:WF h)(s:L_ n0 h b Ks cap X l kn st vK bg B bm S bl pm mc)
 (f:Fr (Wr b bg B bm S bl pm) h h') (ob:e_ h' b [vK,ZZ cap,.u bg 0,.u bm 0,.u bl 0]) (g:Gp h' bg B' X'.length (X'.flatMap m_.s)) (gB:O_ h' B') (k:Km h' bm S' K.1 K.2) (gS:O_ h' S') (lo:Q4 h' bl pm l' ae ac)
 (len:l'.length=X'.length) (hB:B'=B\/h.e<=B') (hS:S'=S\/h.e<=S') (sub:∀x∈X',x∈X) (dB:B'≠S'):L_ n0 h' b Ks cap X' l' ae ac vK bg B' bm S' bl pm K:=by
 have d:=s.d;have fn:=f.e;have n0l:=s.n0l;have lb:=s.ob.lt w;have lg:bg<h.e:=s.g.c.1.lt w;have lm:=s.k.lt w;have ll:=s.bl';have pl:=s.pl;refine⟨ob,g,gB,k,gS,lo,len,?_,?_,gS.lt f.o,fun q e=>by have:=pl q e;omega,oM,fun z q=>by have:=n0l z q;omega⟩;intro Z h2 hZ f2;have r:=s.rd (Wr b bg B bm S bl pm++Z) h2 (fun z m=>?_) (Wp f f2 w (fun x m=>.inl (Wa.2 (.inl m))) (fun x m=>.inl (Wa.2 (.inr m))));grind;obtain m|m:=Wa.1 m;exact .inl m;obtain q|q|q:=hZ z m;simp only[Wr,Wa,Wt,Xb,or_false]at q|-;obtain(q|q|q|q|q|q)|q:=q;omega;omega;omega;omega;omega;omega;exact .inl (.inr q);omega;exact .inr (.inr q);have nB:∀y,y<h.e->y≠B->y≠B':=fun y a c=>by obtain rfl|q:=hB<;>omega
 have nS:∀y,y<h.e->y≠S->y≠S':=fun y a c=>by obtain rfl|q:=hS<;>omega
 refine⟨d.m,nB b lb d.i,d.n,nS b lb d.o,d.r,d.j,nS bg lg d.e,d.f,(nB bm lm d.d.symm).symm,dB,(nB bl ll d.c.symm).symm,d.k,(nS bl ll d.g.symm).symm,fun q e=>?_⟩;let⟨y1,y2,y3,y4,y5,y6⟩:=d.p q e;exact⟨y1,y2,nB q (pl q e) y3,y4,nS q (pl q e) y5,y6⟩
def C5(mc:dN):List m_->dN
 |[]=>mc
 |x::r=>C5 (fun y=>if y=x.J then none else mc.1 y,mc.2-1) r
theorem JT{X:List α}{a c:Nat}(h:a+c<=X.length):(kP X a c).length=X.length-c:=by unfold kP;simp;omega
theorem G8{X:List α}{a c:Nat}{x:α}(m:x∈kP X a c):x∈X:=(tu X a c).subset m
def W6(l:List Int):Prop:=∀x∈l,1<=x/\x<=50
theorem W6.f{a b:List Int}(h:W6 a)(g:W6 b):W6 (a++b):=fun x m=>(Wa.1 m).elim (h x) (g x)
theorem W6.e{a:List Int}(h:W6 a)(n:Nat):W6 (a.take n):=fun x m=>h x (WX m)
theorem W6.d{a:List Int}(h:W6 a)(n:Nat):W6 (a.drop n):=fun x m=>h x (WR m)
theorem yK{l:List Int}{i:Nat}{s:Int}(h:W6 l)(hl:l.length<=1000)(K:1<=s/\s<=50)(Z:i<l.length):bJ l i s=0:=by
 have sl:=iA h;have:0<=l.getD i 0:=by rw[Xo,Wf Z];have:=h _ (Zt Z);simp only[Zb];omega
 unfold bJ;rw[if_pos ⟨oM,oM⟩,if_neg oM,pi,if_neg oM]
def IxL(m:Nat->Option Nat)(L:List Nat):Prop:=∀k j:Nat,m k=some j↔L[j]? =some k
theorem kY{m:Nat->Option Nat}{E:List d_}:R2 m E↔IxL m (E.map fun e=>e.x.J):=by
 unfold R2 IxL;refine forall_congr' fun k=>forall_congr' fun j=>?_;rw[WM];cases E[j]? with
 |none=>simp
 |some e=>simp
structure Ntc where
 k:Nat
 a:Int
 c:Int
 t:Int
 Y:List m_
def eF(Ks:List p_)(Y:List m_):List d_:=Y.map fun y=>⟨y,aQ Ks y,false⟩
def kW(E:List d_):List Nat:=E.map fun e=>e.x.J
def RK(Ks:List p_):Prop:=X5 Ks 12=true/\Ks.length=3/\GK Ks
structure LV(Ks:List p_)(E:List d_):Prop where
 o:∀e∈E,Q2 e.x 3=true/\cG Ks 12 e.x=0
 b:∀e∈E,e.kn=false->e.b=aQ Ks e.x
 c:∀e∈E,e.kn=true->1<=e.b/\e.b<=50
 n:(kW E).Nodup
theorem RK.d(r:RK Ks){x:m_}(o:Q2 x 3=true):1<=aQ Ks x/\aQ Ks x<=50:=by simp only[Q2,VY,decide_eq_true_eq]at o;have p:Ks[x.K]? =some (Ks[x.K]'(by rw[r.2.1];exact o.2.1)):=Wf _;generalize Ks[x.K]'(by rw[r.2.1];exact o.2.1)=q at p;have g:=(r.2.2 q (Wc p)).2.2;rw[aQ,p];exact g
theorem V0.j{h:a_}{E:List d_}(a:V0 Ks h E):LV Ks E:=⟨fun e m=>⟨(a.h e m).2.2.1,(a.h e m).2.2.2⟩,a.b,a.c,a.n⟩
theorem LV.g{h:a_}{E:List d_}(a:LV Ks E)(r:RK Ks)(H:∀e∈E,u_ h e.x)(l:E.length<=1000):V0 Ks h E:=⟨fun e m=>⟨H e m,rfl,a.o e m⟩,a.b,a.c,a.n,l,r⟩
theorem LV.d{E:List d_}(a:LV Ks E)(r:RK Ks):W6 (E.map d_.b):=by intro x m;obtain⟨e,Z,rfl⟩:=WP.1 m;cases K:e.kn;rw[a.b e Z K];exact r.d (a.o e Z).1;exact a.c e Z K
theorem KF{Y:List m_}:kW (eF Ks Y)=Y.map m_.J:=by simp[eF,kW]
theorem CX{Y:List m_}:(eF Ks Y).length=Y.length:=by simp[eF]
theorem LV.k{A B:List d_}(a:LV Ks A)(b:LV Ks B)(d:∀k∈kW A,k∉kW B):LV Ks (A++B):=by refine⟨fun e m=>(Wa.1 m).elim (a.o e) (b.o e),fun e m=>(Wa.1 m).elim (a.b e) (b.b e),fun e m=>(Wa.1 m).elim (a.c e) (b.c e),?_⟩;rw[kW,Xe,YT];exact⟨a.n,b.n,fun x K y Z e=>d x K (e▸Z)⟩
theorem LV.j{A B:List d_}(a:LV Ks B)(s:A.Sublist B):LV Ks A:=⟨fun e m=>a.o e (s.subset m),fun e m=>a.b e (s.subset m),fun e m=>a.c e (s.subset m),a.n.sublist (s.map _)⟩
theorem LV.f{Y:List m_}(r:RK Ks)(h:∀y∈Y,Q2 y Ks.length=true/\cG Ks 12 y=0)(n:(Y.map m_.J).Nodup):LV Ks (eF Ks Y):=by refine⟨fun e m=>?_,fun e m _=>?_,fun e m k=>?_,by rw[KF];exact n⟩<;>obtain⟨y,Z,rfl⟩:=WP.1 m;have:=h y Z;rw[r.2.1]at this;exact this;rfl;cases k
open Go.Ev.St
def SW(n0:NL)(W:Nat->Prop)(C:Nat)(Ks:List p_)(h:a_)(b:Nat)(E:List d_):Prop:=∃K X st vK bg B bm S bl pm mc,L_ n0 h b K 12 X (E.map d_.b) (E.map d_.kn) st vK bg B bm S bl pm mc/\bX Ks K/\X.map m_.sx=E.map (fun e=>e.x.sx)/\IxL mc.1 (kW E)/\mc.2<=C/\∀y∈Wr b bg B bm S bl pm,W y
theorem SW.fr{W:Nat->Prop}{C:Nat}{h:a_}{b:Nat}{E:List d_}(w:WF h)(s:SW n0 W C Ks h b E)(f:Fr [] h h'):SW n0 W C Ks h' b E:=by let⟨K,X,st,vK,Z,B,bm,S,bl,pm,mc,s,r⟩:=s;exact⟨K,X,st,vK,Z,B,bm,S,bl,pm,mc,s.fr w f,r⟩
theorem SW.mono{W W':Nat->Prop}{C Z:Nat}{h:a_}{b:Nat}{E:List d_}(s:SW n0 W C Ks h b E)(hW:∀y,W y->W' y)(hC:C<=Z):SW n0 W' Z Ks h b E:=by let⟨K,X,st,vK,bg,B,bm,S,bl,pm,mc,s,sk,ev,ix,c,r⟩:=s;exact⟨K,X,st,vK,bg,B,bm,S,bl,pm,mc,s,sk,ev,ix,Wy c hC,fun y m=>hW y (r y m)⟩
section
variable {n0 : NL} {W : Nat -> Prop} {C : Nat} {Ks : List p_} {h : a_} {b : Nat} {E : List d_} {Y : List m_} {a c t : Int} {v k0 a0 c0 t0 : V}
def WZ(W:Nat->Prop)(h h':a_):Prop:=∃Z,(∀z∈Z,W z\/h.e<=z)/\Fr Z h h'
end
open Go.Ev.St
def P?(a:Int):Prop:=-9223372036854775808<=a/\a<=9223372036854775807
def SV(W:Nat->Prop)(h:a_)(v:V)(Y:List m_):Prop:=∀(Z:List Nat)(h':a_),(∀z∈Z,W z\/h.e<=z)->Fr Z h h'->C_ m_.s 4 h' v Y/\∀y∈Y,u_ h' y
theorem SV.keep{W:Nat->Prop}{h:a_}{v:V}{Y:List m_}(s:SV W h v Y)(w:WF h)(f:WZ W h h'):SV (fun z=>W z\/h.e<=z) h' v Y:=by let⟨Z0,K,f⟩:=f;have n:=f.e;intro Z h2 hZ f2;refine s (Z0++Z) h2 (fun z m=>?_) (Wp f f2 w (fun x m=>.inl (Wa.2 (.inl m))) (fun x m=>.inl (Wa.2 (.inr m))));obtain m|m:=Wa.1 m;exact K z m;grind
theorem SV.fr{W:Nat->Prop}{h:a_}{v:V}{Y:List m_}(s:SV W h v Y)(w:WF h)(f:Fr [] h h'):SV W h' v Y:=by have n:=f.e;intro Z h2 K f2;exact s Z h2 (fun z m=>(K z m).imp id fun q=>by omega) (Wp f f2 w iS (fun x m=>.inl m))
theorem WZ.pre{W:Nat->Prop}{h K:a_}(w:WF h)(f:Fr [] h K)(z:WZ W K h2):WZ W h h2:=by let⟨Z,hZ,g⟩:=z;have n:=f.e;exact⟨Z,fun z m=>(hZ z m).imp id fun q=>by omega,Wp f g w iS (fun x m=>.inl m)⟩
structure Nt where
 n:Ntc
 v:V
def Nt.J_(x:Nt):List V:=[ZY (x.n.k:Int),ZZ x.n.a,ZZ x.n.c,ZZ x.n.t,x.v]
def NV(W:Nat->Prop)(h:a_)(v:V)(L:List Nt):Prop:=(∀(Z:List Nat)(h':a_),(∀z∈Z,W z\/h.e<=z)->Fr Z h h'->C_ Nt.J_ 5 h' v L)/\∀x∈L,SV W h x.v x.n.Y/\x.n.k<256/\P? x.n.a/\P? x.n.c/\P? x.n.t
theorem WZ.fr{W:Nat->Prop}{h:a_}(f:Fr [] h h'):WZ W h h':=⟨[],iS,f⟩
theorem WZ.trans{W W':Nat->Prop}{h K:a_}(w:WF h)(a:WZ W h K)(b:WZ W' K h2)(i:∀y,W' y->W y\/h.e<=y):WZ W h h2:=by let⟨Z,hZ,f⟩:=a;let⟨Z',ac,f'⟩:=b;have n:=f.e;refine⟨Z++Z',fun z m=>?_,Wp f f' w (fun x m=>.inl (Wa.2 (.inl m))) (fun x m=>.inl (Wa.2 (.inr m)))⟩;obtain m|m:=Wa.1 m;exact hZ z m;grind
theorem SV.on{W W':Nat->Prop}{h:a_}{v:V}{Y:List m_}(s:SV W h v Y)(w:WF h)(f:WZ W h h')(i:∀y,W' y->W y\/h.e<=y):SV W' h' v Y:=by let⟨Z0,K,f⟩:=f;have n:=f.e;intro Z h2 hZ f2;refine s (Z0++Z) h2 (fun z m=>?_) (Wp f f2 w (fun x m=>.inl (Wa.2 (.inl m))) (fun x m=>.inl (Wa.2 (.inr m))));obtain m|m:=Wa.1 m;exact K z m;grind
theorem NV.on{W W':Nat->Prop}{h:a_}{v:V}{L:List Nt}(s:NV W h v L)(w:WF h)(f:WZ W h h')(i:∀y,W' y->W y\/h.e<=y):NV W' h' v L:=by refine⟨?_,fun x m=>⟨(s.2 x m).1.on w f i,(s.2 x m).2⟩⟩;let⟨Z0,K,f⟩:=f;have n:=f.e;intro Z h2 hZ f2;refine s.1 (Z0++Z) h2 (fun z m=>?_) (Wp f f2 w (fun x m=>.inl (Wa.2 (.inl m))) (fun x m=>.inl (Wa.2 (.inr m))));obtain m|m:=Wa.1 m;exact K z m;grind
theorem Nt.U{W:Nat->Prop}{h:a_}{x:Nt}(w:WF h)(s:SV W h x.v x.n.Y):aw x.J_=true:=by have:=T5.U (s [] h iS (Wl w)).1;show aw [_,_,_,_,_]=true;simp only[au,aB,this];rfl
theorem DO{h:a_}{a c:Int}{n:Nat}(Z:P? a)(hc:P? c)(hn:n<=4096):ao go 186 [ZZ a,ZZ c,ZZ (n:Int)] h fun u h'=>u=.h (decide (¬pM n a c))/\h=h':=by let⟨a0,K⟩:=Z;let⟨b0,b1⟩:=hc;unfold pM;by_cases c1:0<=a;by_cases c2:a<=n;by_cases c3:0<=c;by_cases c4:c<=(n:Int)-a;refine ah ?_;simp(disch:=omega) only[b_,seval,ag,c1,c2,c3,c4];simp;omega;refine ah ?_;simp(disch:=omega) only[b_,seval,ag,c1,c2,c3,c4];simp;omega;refine ah ?_;simp only[b_,seval,c1,c2,c3];simp;omega;refine ah ?_;simp only[b_,seval,c1,c2];simp;omega;refine ah ?_;simp only[b_,seval,c1];simp;omega
theorem yA{h:a_}{b N len n e bytes:Nat}{c Z:List V}{x:V}{K:V->a_->Prop}(w:WF h)(o:e_ h b c)(hc:c.length=N*e)(a:T5 h e x n Z)(h1:aw Z=true)(hl:len+n<=N)
 (k:∀h',e_ h' b (c.take (len*e)++Z++c.drop ((len+n) *e))->Fr [b] h h'->h'.e=h.e->K (.y b 0 (len+n) N) h'):OQ (jQ h e bytes (.y b 0 len N) x) K:=by
 let⟨s1,s2,_⟩:=a.src rfl;have hx:=a.1;unfold jQ;rw[s1];simp only[];by_cases c0:n=0;subst c0;have:Z=[]:=Wu.1 oM;subst this;rw[lF rfl,cond_true];exact(cF _ _ _).2 (k h (eV o) (Wl w) rfl);rw[fC c0,cond_false,s2];simp only[];rw[(Yg ..).mpr hl,cond_true];have hm:(len+n) *e<=N*e:=WW _ hl;rw[Yi]at hm;let⟨h',e1,o1,f1,n1⟩:=ig w o h1 (cD c (0+len*e) Z oM);rw[e1];simp;rw[WG,hx,<-Yi]at o1;exact(cF _ _ _).2 (k h' o1 f1 n1)
theorem Ao{h:a_}:∀{E:List d_},(∀e∈E,u_ h e.x)->aw (E.flatMap d_.s)=true
 |[],_=>rfl
 |e::E,a=>by rw[WH,aW,jr (a e iS),Ao fun x m=>a x iX];rfl
theorem DZ{h:a_}{vI:V}{E A:List d_}{p q:Nat}(w:WF h)(re:q_ d_.s 6 h vE E)(ra:q_ d_.s 6 h vI A)(hv:vE≠.L)(oE:aw (E.flatMap d_.s)=true)(oA:aw (A.flatMap d_.s)=true)(hp:p+q<=E.length)(hE:E.length<=4096)(hA:A.length<=4096):
 ao go 188 [vE,ZZ (p:Int),ZZ (q:Int),vI] h fun u h'=>u=.y h.e 0 (E.length-q+A.length) (E.length-q+A.length)/\e_ h' h.e ((E.take p++A++E.drop (p+q)).flatMap d_.s)/\Fr [] h h':=by
 let⟨u1,e1,s1⟩:=Sl.upto re oM hv .i64 (p:Int) oM oM;rw[pi,mM aM]at s1;have ln:((E.length:Int)-q)+A.length=((E.length-q+A.length:Nat):Int):=oM;refine ah ?_;simp(disch:=omega) only[b_,seval,ag,re.t_,ra.t_,ln];refine(bV _ _ _ _ _ _ _ _ oM oM oM oM).2 ?_;simp only[pi,(iR:(0:Int).toNat=0)];generalize hN:E.length-q+A.length=N;let⟨h1,Z,F1,o1⟩:=aq w (bq [ZX 0,ZY 0,.f [],.r,ZZ 0,.h false] N);rw[<-Z];have n1:=x_ Z;clear Z;simp only[b_,seval,e1];refine yA F1.o o1 (dV _ _) (Sl.a (s1.fr F1)) (by rw[<-mM aM];exact eY _ oE) oM ?_;intro h2 o2 F2 n2;have ac:Fr [] h h2:=XD w F1 F2 iS;rw[WG,Zq,YZ,XO]at o2;have l1:((E.take p).flatMap d_.s).length=p*6:=by rw[aC aM];simp;omega
 simp only[b_,seval];have af:((E.take p).flatMap d_.s++(bq [ZX 0,ZY 0,.f [],.r,ZZ 0,.h false] N).drop (p*6)).length=N*6:=by rw[Wq,l1,Yl,dV];simp;omega
 apply yA F2.o o2 af (Sl.a (Sl.fr ra ac)) oA oM;intro h3 o3 F3 n3;have K:Fr [] h h3:=XD w ac F3 iS;have l2:(A.flatMap d_.s).length=A.length*6:=aC aM _;have ae:((E.take p).flatMap d_.s++(bq [ZX 0,ZY 0,.f [],.r,ZZ 0,.h false] N).drop (p*6)).take (p*6)=(E.take p).flatMap d_.s:=List.take_left' l1;rw[ae]at o3;let⟨u3,e3,s3⟩:=Sl.from' (re.fr K) oM hv .i64 ((p+q:Nat):Int) oM oM;rw[pi,ef aM]at s3;simp(disch:=omega) only[b_,seval,ag,(oM:(p:Int)+q=((p+q:Nat):Int)),e3];generalize hd:((E.take p).flatMap d_.s++(bq [ZX 0,ZY 0,.f [],.r,ZZ 0,.h false] N).drop (p*6)).drop ((p+A.length) *6)=R at o3;have hR:R.length=N*6-(p+A.length) *6:=by grind
 refine yA F3.o o3 (by rw[Wq,Wq,l1,l2,hR];omega) (Sl.a s3) (by rw[<-ef aM];exact dY _ oE) oM ?_;intro h4 o4 F4 n4;simp only[b_,seval];have lA:((E.take p).flatMap d_.s++A.flatMap d_.s).length=(p+A.length) *6:=by grind
 have hz:((E.take p).flatMap d_.s++A.flatMap d_.s++R).drop ((p+A.length+(E.length-(p+q))) *6)=[]:=Wo (by rw[Wq,lA,hR];omega);rw[List.take_left' lA,hz,Xg,<-XS,<-XS]at o4;exact⟨by rw[(oM:p+A.length+(E.length-(p+q))=N)],o4,XD w K F4 iS⟩
theorem Ic{h:a_}{v:V}{Y:List m_}(w:WF h)(rk:q_ p_.s 9 h vK Ks)(ra:C_ m_.s 4 h v Y)(hY:∀y∈Y,u_ h y/\y.K<Ks.length)(hn:Y.length<=4096):
 ao go 248 [.B [vK,ZZ 12],v] h fun u h'=>∃b,u=.y b 0 Y.length Y.length/\h.e<=b/\e_ h' b ((eF Ks Y).flatMap d_.s)/\Fr [] h h':=by
 have v1:vK.U=true:=Xs rk;let⟨h1,ae,Z,ak⟩:=aq w [vK,ZZ 12];have n1:=x_ ae;refine ah ?_;simp[b_,<-ae,(ra.fr Z).t_];refine(bV _ _ _ _ _ _ _ _ oM oM oM oM).2 ?_;simp;let⟨h2,ac,F2,o2⟩:=aq Z.o (bq [ZX 0,ZY 0,.f [],.r,ZZ 0,.h false] Y.length);rw[<-ac];have n2:=x_ ac;clear ac;have az:=Z.c F2;simp[b_,(ra.fr Z).t_];refine aA (fun n env hh=>Fr [h1.e] h2 hh/\∃i:Nat,env.c_ 13=some (ZZ i)/\env.c_ 12=some (ZZ Y.length)/\env.c_ 11=some v/\env.c_ 5=some (.y h1.e 0 Y.length Y.length)/\env.c_ 2=some (.u h.e 0)/\
  i<=Y.length/\e_ hh h1.e ((eF Ks (Y.take i)).flatMap d_.s++bq E0 (Y.length-i))/\n=Y.length-i) Y.length oM ?_ ?_
 exact⟨Wl F2.o,0,iS,iS,iS,iS,iS,oM,o2,rfl⟩;rintro n env hh ⟨F,i,g13,g12,g11,g5,g2,hi,oo,rfl⟩;have F0:Fr [] h hh:=XD w az F oO;have nF:=F.e;by_cases c:i<Y.length;let⟨bi,oi,y,p1,_,p3,p4⟩:=(ra.fr F0).ix dP .i64 (i:Int) oM oM;rw[pi]at p4;let⟨ay,ty⟩:=hY y (Wc p4);have ay:=ay.fr F0;let⟨h3,ar,af,an⟩:=aq F.o [ZX 0,ZY 0,.f [],.r];simp[b_,g13,g12,g11,(oM:(i:Int)<Y.length),p1,p3,<-ar];refine ai (c':=y.s) af.o an rfl ay.U rfl ?_;rintro h4 o4 F4 n4;have K:Fr [] hh h4:=af.z F4 F.o (VZ _);have ax:=F0.c K;have y4:aj h4 hh.e 0 4=some y.s:=by rw[o4.N];rfl
 have y1:ab h4 hh.e 1=some (ZY (y.K:Int)):=o4.j 1;have k0:ab h4 h.e 0=some vK:=(K.i (F.I _ _ oO (F2.i ak))).j 0;let⟨bk,ok',q,q1,q2,q3,q4⟩:=YX cS (Xn rk ax) .u8 (y.K:Int) oM oM;rw[pi]at q4;have q6:ab h4 bk (ok'+6)=some (ZZ q.P):=q2 6 oM;have eb:aQ Ks y=q.P:=by simp[aQ,q4]
 have px:aP (.c 6) [.y h1.e 0 Y.length Y.length,ZZ (i:Int)]=some (.u h1.e (i*6)):=by rw[dh _ _ _ _ _ _ _ oM oM];simp
 have u1:bG [ZX 0,ZY 0,.f [],.r,ZZ 0,.h false] 0 y.s=some (y.s++[ZZ 0,.h false]):=rfl;have u2:∀b:Int,bG (y.s++[ZZ 0,.h false]) 4 [ZZ b]=some (d_.s ⟨y,b,false⟩):=fun _=>rfl;have yl:y.s.length=4:=rfl;simp[b_,j_,g5,g2,y4,y1,k0,q1,q6,px,u1,u2,yl];refine ai (v:=.B (d_.s ⟨y,q.P,false⟩)) K.o (K.i oo) rfl (jr (ay.fr K)) (ue (by simp[eF];omega) c) ?_;rintro h5 o5 F5 n5;simp(disch:=omega)[b_,DF,ag,g13,y4,y1,k0,q6];have et:eF Ks (Y.take (i+1))=eF Ks (Y.take i)++[⟨y,q.P,false⟩]:=by rw[eF,eF,Wn,p4,Xe,<-eb];rfl
 refine s_ ⟨Y.length-(i+1),oM,Wp (Wp F K F2.o (fun x m=>.inl m) iS) F5 F2.o (fun x m=>.inl m) (fun x m=>.inl m),i+1,iS,iX,iX,iX,iX,oM,by rw[et];exact o5,rfl⟩;have e:i=Y.length:=oM;subst e;simp only[b_,seval,g13,g12,g5,(oM:¬(Y.length:Int)<Y.length)];have z0:bq E0 (Y.length-Y.length)=[]:=by rw[Yf];rfl
 rw[z0,Xg,Wj (VZ _)]at oo;exact⟨h1.e,rfl,oM,oo,F0⟩
end Go.Ev.Lay
