/- An evaluator of the program, and contracts over it: StcD to StcR. -/
import Derived.Test.YtdbfhmneijcjbaaGreatP12
set_option linter.unusedSimpArgs false
set_option linter.unusedVariables false
set_option linter.constructorNameAsVariable false
set_option linter.unnecessarySimpa false
set_option maxRecDepth 4000
namespace Go.Ev.Lay
variable{n0:NL}{bg bm bl B' S' C:Nat}{Ks:List w_}{cap:Int}{X:List e_}{kn st:List Bool}{vK:V}{pm:Option Nat}{h' h2:b_}{α:Type}{E Z:List d_}
open Go.Ev.St
theorem H_.wo{h:b_}{b B S:Nat}{l:List Int}{mc:cJ}(s:H_ n0 h b Ks cap X l kn st vK bg B bm S bl pm mc):V5 h (Wr b bg B bm S bl pm):=by have a:=(((((V5.D s.ob iS (gM (n:=2) rfl)).W3 (A:=[b]) s.g.c.1.an).W3 s.gB.an).W3 s.k.ao.an).W3 s.gS.an).W3 s.lo.an;intro x m;apply a x;simp only[Wr,Vc,Vo,VD,or_false]at m|-;obtain(m|m|m|m|m|m)|m:=m<;>simp[m]
theorem Gp.e{h:b_}{b B D n:Nat}{l:List V}(g:Gp h b B n l)(Z:P_ h D)(K:D≠b):∃B',(B'=D\/B'=B)/\Gp h b B' n l/\P_ h B':=by let⟨v,c1,G,c2,a,gg,m,k,x⟩:=g;obtain⟨hl,⟨e,z⟩|⟨e,o⟩⟩:=id k.d;exact⟨D,.inl rfl,⟨v,c1,G,c2,a,gg,m,{k with d:=⟨hl,.inl ⟨e,z⟩⟩,l:=K},x⟩,Z⟩;exact⟨B,.inr rfl,⟨v,c1,G,c2,a,gg,m,k,x⟩,⟨_,o,oM,yx k.p⟩⟩
theorem Ad{D:Nat}{h:b_}{b B S:Nat}{l:List Int}{mc:cJ}(w:WF h)(s:H_ n0 h b Ks cap X l kn st vK bg B bm S bl pm mc)(v1:vK.O=true)(hx:X.length<=1024)
 (gD:P_ h D) (hD:D∉Wr b bg B bm S bl pm) (a4:Lx n0 D):
 av go 22 [.u b 0] h fun u h'=>Fr [] h h'/\∃c bg' B' bm' S' bl' pm',u=.u c 0/\(∀y∈Wr c bg' B' bm' S' bl' pm',h.i<=y\/y=D)/\h.i<=c/\
  ∀(Z:List Nat)(h2:b_),(∀z∈Z,z∈Wr b bg B bm S bl pm\/h'.i<=z)->Fr Z h' h2->H_ n0 h2 c Ks cap X l kn st vK bg' B' bm' S' bl' pm' mc:=by
 have b2:ag h b 2=some (.u bg 0):=s.ob.o 2;refine ai ?_;simp only[a_,seval];refine aa (jm s) ?_;rintro _ _ ⟨rfl,rfl⟩;simp only[a_,seval,b2];apply aa (AK w s.g);rintro vG h1 ⟨b',a1,tb,F1⟩;let⟨gl,_,bh⟩:=s.g.t;let⟨gv,c1,G,c2,ga,gg,gm,gk,ge,gn⟩:=id s.g;have ak:R6 (X.flatMap e_.s):=by rw[ge];exact gk.p.c fun x m=>by simp at m|-;obtain m|m:=m<;>simp[m]
 simp only[a_];apply aa (Kp F1.r tb.sl bh ak oM);rintro _ h2 ⟨bg',B1,rfl,hg,hB,g2,F2⟩;have K:=F1.c F2;have s2:=s.fr w K;have b3:ag h2 b 3=some (.u bm 0):=s2.ob.o 3;have b4:ag h2 b 4=some (.u bl 0):=s2.ob.o 4;have b0:aq h2 b 0 2=some [vK,ZZ cap]:=by rw[s2.ob.J];rfl
 simp only[a_,seval,g_,b3,b0];apply aa (HK F2.r s2.k s2.gS);rintro _ h3 ⟨bm',S',rfl,hm,hS,lS,k3,F3,a0⟩;have s3:=s2.fr F2.r F3;have af:ag h3 b 4=some (.u bl 0):=s3.ob.o 4;have aH:aq h3 b 0 2=some [vK,ZZ cap]:=by rw[s3.ob.J];rfl
 simp only[a_,seval,g_,af];apply aa (rH F3.r s3.lo);rintro _ h4 ⟨bl',pm',rfl,hl,hp,ae,F4⟩;have s4:=s3.fr F3.r F4;have ay:aq h4 b 0 2=some [vK,ZZ cap]:=by rw[s4.ob.J];rfl
 let⟨h5,e5,F5,o5⟩:=au F4.r [vK,ZZ cap,.u bg' 0,.u bm' 0,.u bl' 0];have n5:=s_ e5;simp only[a_,seval,DF,g_,b3,b4,b0,af,aH,ay,<-e5];have a8:=gD.lt w;have a7:=K.i;have ba:=F1.i;have a6:=F2.i;have bc:=F3.i;have a5:=F4.i;have a9:=g2.c.1.lt F2.r;have a3:=k3.lt F3.r;let⟨pl,bi⟩:=ae.aX F4.r;have an:=ae.ne;have ab:=F3.c (F4.c F5);have aj:=F4.c F5;let⟨B',eB,gz,bf⟩:=g2.e (gD.fr K iS) oM;have g5:=gz.f ab iS iS;have ar:=bf.fr ab iS;have a2:(B'=D\/h1.i<=B')/\B'<h2.i:=⟨oM,bf.lt F2.r⟩;have ac:=K.c ab;have s5:=s.fr w ac;have wl:=s.aL w;refine⟨ac,h4.i,bg',B',bm',S',bl',pm',rfl,?_,oM,?_⟩;intro y m;simp only[Wr,Vc,Vo,VD,or_false]at m;obtain(m|m|m|m|m|m)|m:=m;omega;omega;omega;omega;omega;omega;grind;intro Z hz hZ f;have nz:∀y,(h.i<=y/\y<h5.i)\/y=D->y∉Z:=by grind
 have xc:=nz h4.i (.inl oM);have xg:=nz bg' (.inl oM);have xm:=nz bm' (.inl oM);have xS:=nz S' (.inl oM);have xl:=nz bl' (.inl oM);have xp:∀q,pm'=some q->q∉Z:=fun q e=>nz q (.inl (by have:=hp q e;have:=pl q e;omega));have xB:B'∉Z:=by grind
 have oZ:V5 h5 Z:=by intro z m c o;obtain q|q:=hZ z m;exact s5.wo z q c o;have:=o.lt F5.r;omega
 have fz:=f.i;have n0l:=s.ax;refine⟨f.D _ _ xc o5,g5.f f xg xB,ar.fr f xB,(k3.fr aj).ap f xm xS,(a0.fr aj iS).fr f xS,(ae.fr F5).ap f oZ xl xp,s.A_,?_,?_,oM,fun q e=>by have:=pl q e;omega,oM,fun z q=>by have:=n0l z q;omega⟩;intro Z2 h6 ax f2;refine s.rd (Z++Z2) h6 (fun z m=>?_) (Vn (Vn ac f w iS (fun x m=>.inl (Vc.2 (.inl m)))) f2 w (fun x m=>.inl m) (fun x m=>.inl (Vc.2 (.inr m))));obtain m|m:=Vc.1 m;grind;obtain q|q|q:=ax z m;simp only[Wr,Vc,Vo,VD,or_false]at q;obtain(q|q|q|q|q|q)|q:=q;omega;omega;grind;omega;omega;omega;grind;omega;exact .inr (.inr q);refine⟨oM,oM,oM,oM,oM,oM,oM,oM,oM,oM,oM,oM,oM,fun q e=>?_⟩;have:=hp q e;have:=an q e;have:=pl q e;omega
theorem H_.aE{h:b_}{b B S:Nat}{X':List e_}{l l':List Int}{ac ab:List Bool}{mc K:cJ}(w:WF h)(s:H_ n0 h b Ks cap X l kn st vK bg B bm S bl pm mc)
 (f:Fr (Wr b bg B bm S bl pm) h h') (ob:f_ h' b [vK,ZZ cap,.u bg 0,.u bm 0,.u bl 0]) (g:Gp h' bg B' X'.length (X'.flatMap e_.s)) (gB:P_ h' B') (k:Km h' bm S' K.1 K.2) (gS:P_ h' S') (lo:P3 h' bl pm l' ac ab)
 (len:l'.length=X'.length) (hB:B'=B\/h.i<=B') (hS:S'=S\/h.i<=S') (sub:∀x∈X',x∈X) (dB:B'≠S'):H_ n0 h' b Ks cap X' l' ac ab vK bg B' bm S' bl pm K:=by
 have d:=s.d;have fn:=f.i;have n0l:=s.ax;have lb:=s.ob.lt w;have lg:bg<h.i:=s.g.c.1.lt w;have lm:=s.k.lt w;have ll:=s.au;have pl:=s.pl;refine⟨ob,g,gB,k,gS,lo,len,?_,?_,gS.lt f.r,fun q e=>by have:=pl q e;omega,oM,fun z q=>by have:=n0l z q;omega⟩;intro Z h2 hZ f2;have r:=s.rd (Wr b bg B bm S bl pm++Z) h2 (fun z m=>?_) (Vn f f2 w (fun x m=>.inl (Vc.2 (.inl m))) (fun x m=>.inl (Vc.2 (.inr m))));grind;obtain m|m:=Vc.1 m;exact .inl m;obtain q|q|q:=hZ z m;simp only[Wr,Vc,Vo,VD,or_false]at q|-;obtain(q|q|q|q|q|q)|q:=q;omega;omega;omega;omega;omega;omega;exact .inl (.inr q);omega;exact .inr (.inr q);have nB:∀y,y<h.i->y≠B->y≠B':=fun y a c=>by obtain rfl|q:=hB<;>omega
 have nS:∀y,y<h.i->y≠S->y≠S':=fun y a c=>by obtain rfl|q:=hS<;>omega
 refine⟨d.o,nB b lb d.n,d.j,nS b lb d.k,d.r,d.e,nS bg lg d.d,d.m,(nB bm lm d.c.symm).symm,dB,(nB bl ll d.g.symm).symm,d.i,(nS bl ll d.f.symm).symm,fun q e=>?_⟩;let⟨y1,y2,y3,y4,y5,y6⟩:=d.p q e;exact⟨y1,y2,nB q (pl q e) y3,y4,nS q (pl q e) y5,y6⟩
def fR(mc:cJ):List e_->cJ
 |[]=>mc
 |x::r=>fR (fun y=>if y=x.A then none else mc.1 y,mc.2-1) r
theorem xo:∀(A:List e_)(mc:cJ)(x:e_),fR mc (A++[x])=(fun y=>if y=x.A then none else(fR mc A).1 y,(fR mc A).2-1)
 |[],_,_=>rfl
 |_::A,_,x=>xo A _ x
theorem mU:∀(A:List e_)(mc:cJ)(k:Nat),(fR mc A).1 k=if k∈A.map e_.A then none else mc.1 k
 |[],_,_=>by simp[fR]
 |x::A,mc,k=>by simp only[fR];rw[mU A];by_cases c:k∈A.map e_.A;grind;grind
theorem qZ:∀(A:List e_)(mc:cJ),(fR mc A).2<=mc.2
 |[],_=>Ve _
 |_::A,_=>VC (qZ A _) (Nat.sub_le _ _)
theorem Gr{a i:Nat}{x:e_}(nd:(X.map e_.A).Nodup)(e:X[a+i]? =some x):x.A∉((X.drop a).take i).map e_.A:=by
 intro m;let⟨y,ym,hy⟩:=VK.1 m;let⟨j,Z⟩:=Xc.1 ym;rw[Xd]at Z;split at Z;rename_i c;rw[Wh]at Z;have K:(X.map e_.A)[a+j]? =some x.A:=by grind
 have a2:(X.map e_.A)[a+i]? =some x.A:=by grind
 have:=(List.getElem?_inj (Vt.1 K).1 nd).1 (K.trans a2.symm);omega;cases Z
theorem Od{h:b_}{S:Nat}{sl:List bu}(K:8<=sl.length)(o:f_ h S (sl.flatMap sc)):P_ h S:=by
 have Z:=pU sl;refine⟨_,o,?_,?_⟩;omega;intro L p e;cases sl with
 |nil=>simp at K
 |cons s r=>
  cases L with
  |nil=>simp at p
  |cons q L=>rw[VM,VM]at e;simp[sc,sp]at e
theorem EL{h:b_}{b S key x:Nat}{m:Nat->Option Nat}{c:Nat}(w:WF h)(k:Km h b S m c)(hk:key<18446744073709551616)(Z:m key=some x):
 av go 97 [.u b 0,ZX (key:Int)] h fun u h'=>u=.h true/\Km h' b S (fun y=>if y=key then none else m y) (c-1)/\Fr [b,S] h h'/\∃sl:List bu,8<=sl.length/\f_ h' S (sl.flatMap sc):=by
 have k0:=k;obtain⟨o,_,h1⟩|⟨v,sl,t,k,fill⟩:=k;grind;have cp:=k.bj Z;refine ai ?_;simp[a_];refine aa (Dg k0) ?_;rintro _ _ ⟨rfl,hh⟩;replace hh:=hh.symm;subst hh;simp only[a_,seval,eq_false (oM:¬(c:Int)=0)];refine aa (pL w k.ob k.tb k.op (by have:=k.nb;omega) hk) ?_;rintro _ h2 ⟨at',found,rfl,L,F⟩;cases found;let⟨i,K⟩:=(k.mp key x).1 Z;exact absurd K ((L.f rfl).1 i x);let⟨y,hy⟩:=L.d rfl;have k2:=k.fr F;have ix:=k2.tb.ix _ L.c;have ne:=k2.ne;have l0:ag h2 b 0=some v:=k2.ob.o 0;simp[a_,l0,ix];apply ao (c':=(sl.set at' (2,0,0)).flatMap sc) F.r k2.tb.2 rfl rfl (lI (2,0,0) sl at' L.c);rintro h3 o3 F3 n3;have ab:f_ h3 b [v,ZZ (c:Int),ZZ (t:Int)]:=F3.D b _ (eV ne) k2.ob;have l1:ag h3 b 1=some (ZZ (c:Int)):=ab.o 1;have cb:c<=20000/\t<=20000:=by have:=k.b?;have:=k.nb;omega
 simp(disch:=omega)[a_,ah,l1];apply u_ F3.r ab;rintro h4 o4 F4 n4;have l2:ag h4 b 2=some (ZZ (t:Int)):=o4.o 2;simp(disch:=omega)[a_,ah,l2];apply u_ F4.r o4;rintro h5 o5 F5 n5;simp[a_];have ac:Tb h5 v S (sl.set at' (2,0,0)):=⟨by rw[VV];exact k.tb.1,F5.D S _ (by simp;exact fun e=>ne e.symm) (F4.D S _ (by simp;exact fun e=>ne e.symm) o3)⟩;have e1:=gY (c:=1) (x:=(2,0,0)) hy;have e2:=gY (c:=2) (x:=(2,0,0)) hy;simp at e1 e2;refine⟨.inr ⟨v,_,t+1,⟨?_,ac,k.op.o hy 0 0,by rw[VV];exact k.n8,by rw[VV];exact k.nb,by have:=k.c1;omega,by have:=k.c2;omega,?_,j5 k.kb ⟨iS,iS⟩⟩,by rw[VV];omega⟩,?_,_,by rw[VV];exact k.n8,ac.2⟩;grind;intro k' x';constructor;intro e;by_cases ck:k'=key;simp[ck]at e;rw[if_neg ck]at e;let⟨i,K⟩:=(k.mp k' x').1 e;refine⟨i,?_⟩;rw[Ws];exact K;grind;rintro⟨i,K⟩;obtain⟨_,e,_⟩|⟨ci,K⟩:=gy _ _ _ _ _ K;cases e;have ck:k'≠key:=by rintro rfl;exact ci (k.op.c _ _ _ _ _ K hy)
 rw[if_neg ck];exact(k.mp k' x').2 ⟨i,K⟩;have A:Fr [b,S] h2 h4:=F3.P F4 F.r (fun x Z=>.inl (by simp at Z;simp[Z])) (fun x Z=>.inl (by simp at Z;simp[Z]));have B:Fr [b,S] h2 h5:=A.P F5 F.r (fun x Z=>.inl Z) (fun x Z=>.inl (by simp at Z;simp[Z]));exact F.P B w (fun x Z=>by simp at Z) (fun x Z=>.inl Z)
theorem Ah{a c:Nat}:(X.flatMap e_.s).take (a*4)++(X.flatMap e_.s).drop ((a+c) *4)=(aV X a c).flatMap e_.s:=by rw[cZ aT,bI aT,aV,Wx,Wd]
theorem mC{X:List α}{a c:Nat}(h:a+c<=X.length):(aV X a c).length=X.length-c:=by unfold aV;simp;omega
theorem kR{X:List α}{a c:Nat}{x:α}(m:x∈aV X a c):x∈X:=(iw X a c).subset m
theorem BM{h:b_}{b B S:Nat}{a c:Int}{l:List Int}{mc:cJ}{k0 t0 v:V}(w:WF h)(s:H_ n0 h b Ks cap X l kn st vK bg B bm S bl pm mc)
 (ha:-9223372036854775808<=a/\a<=9223372036854775807) (hc:-9223372036854775808<=c/\c<=9223372036854775807) (hX:∀x∈X,0<x.A) (nd:(X.map e_.A).Nodup) (hm:∀x∈X,(mc.1 x.A).isSome=true) (hx:X.length<=1024) (hk:mc.2+1024<=4096)
 (ones:aw [k0,ZZ a,ZZ c,t0,v]=true):
 av go 47 [.u b 0,.B [k0,ZZ a,ZZ c,t0,v]] h fun u h'=>u=ZZ (if bS X.length a c then 4 else 0)/\(bS X.length a c->Fr (bl::pm.toList) h h'/\H_ n0 h' b Ks cap X l kn st vK bg B bm S bl pm mc)/\
  (¬bS X.length a c->Fr (Wr b bg B bm S bl pm) h h'/\∃S',(S'=S\/h.i<=S')/\H_ n0 h' b Ks cap (aV X a.toNat c.toNat) (aV l a.toNat c.toNat) (aV kn a.toNat c.toNat) (aV st a.toNat c.toNat) vK bg B bm S' bl pm
   (dS (fR mc ((X.drop a.toNat).take c.toNat)) ((aV X a.toNat c.toNat).drop a.toNat) a.toNat)):=by
 have xh:=(s.rd [] h iS (Vk w)).2.2;have sl:=s.A_;let⟨h1,bE,bC,bD⟩:=au w [k0,ZZ a,ZZ c,t0,v];have n1:=s_ bE;have s1:=s.fr w bC;have l1:ag h1 h.i 1=some (ZZ a):=bD.o 1;have l2:ag h1 h.i 2=some (ZZ c):=bD.o 2;have b4:ag h1 b 4=some (.u bl 0):=s1.ob.o 4;refine ai ?_;simp only[a_,seval,g_,<-bE,l1,l2,b4];refine aa (Jm bC.r s1.lo ha.1 ha.2 hc.1 hc.2) ?_;rintro _ h2 ⟨F2,rfl,K⟩;rw[sl]at K|-;have wl:=s.aL w;have nn:h.i∉bl::pm.toList:=fun m=>by
  have:h.i∈Wr b bg B bm S bl pm:=by obtain q|q:=Vo.1 m;simp[Wr,q];exact Vc.2 (.inr q)
  have:=wl _ this;omega
 have ae:Fr (bl::pm.toList) h h2:=Vn bC F2 w iS (fun x m=>.inl m);by_cases cc:bS X.length a c;rw[if_pos cc]at K|-;simp only[a_,seval,DF,g_,l1,l2,b4];exact⟨fun _=>⟨ae,s.aZ w ae K sl (.inl rfl)⟩,fun n=>absurd cc n⟩;rw[if_neg cc]at K|-;have cn:=cc;unfold bS at cn;obtain⟨p,rfl⟩:∃p:Nat,a=p:=⟨a.toNat,oM⟩;obtain⟨q,rfl⟩:∃q:Nat,c=q:=⟨c.toNat,oM⟩;simp only[pi]at K|-;have aj:p+q<=X.length:=oM;have aH:=F2.D _ _ nn bD;have ba:ag h2 h.i 2=some (ZZ (q:Int)):=aH.o 2;have d:=s.d;have nb:∀y,y≠bl->(∀q,pm=some q->q≠y)->y∉bl::pm.toList:=by grind
 have xb:=nb b d.r fun q e=>(d.p q e).1;have xg:=nb bg d.m fun q e=>(d.p q e).2.1;have xB:=nb B d.g fun q e=>(d.p q e).2.2.1;have xm:=nb bm d.i fun q e=>(d.p q e).2.2.2.1;have xS:=nb S d.f fun q e=>(d.p q e).2.2.2.2.1;have bf:=F2.D _ _ xb s1.ob;have g2:=s1.g.f F2 xg xB;have ay:=s1.gB.fr F2 xB;have k2:=s1.k.ap F2 xm xS;have a4:=s1.gS.fr F2 xS;have n2:=ae.i;have bz:=s.k.lt w;have lS:=s.aB;have lg:=s.g.c.1.lt w;have lB:=s.gB.lt w;have bo:=s.ob.lt w;have ll:=s.au;simp only[a_,seval,DF,g_,l1,l2,b4,ba];refine aC (fun n env hh=>Fr [bm,S] h2 hh/\∃(i:Nat),env.c_ 24=some (ZZ i)/\env.c_ 23=some (ZZ q)/\env.c_ 0=some (.u b 0)/\env.c_ 3=some (.u h.i 0)/\
  i<=q/\Km hh bm S (fR mc ((X.drop p).take i)).1 (fR mc ((X.drop p).take i)).2/\P_ hh S/\n=q-i) q oM ?_ ?_
 exact⟨Vk F2.r,0,iS,iS,iS,iS,oM,by simpa[fR]using k2,a4,rfl⟩;rintro n env hh ⟨F,i,ak,a0,g0,g3,hi,kh,bj,rfl⟩;have Z:=F.D _ _ (by simp;exact⟨d.j,d.k⟩) bf;have gh:=g2.f F (by simp;exact⟨d.e,d.d⟩) (by simp;exact⟨d.c,d.a⟩);have ac:=F.D h.i _ oO aH;have nF:=F.i;by_cases ci:i<q;simp only[a_,seval,ak,a0,(oM:(i:Int)<q)];apply xT [⟨none,.p .o [.v 0],none⟩,⟨none,.p .e [.l 0],none⟩,⟨none,.p (.b 2) [.l 0],none⟩,⟨none,.a 1 false (.l 0),none⟩,⟨none,.p (.b 1) [.v 3],none⟩,⟨none,.a 1 false (.l 0),none⟩,⟨none,.p .o [.v 6],none⟩,⟨none,.p (.h .add) [.l 1,.l 0],none⟩,⟨none,.c 70 [.l 4,.l 0],none⟩,⟨none,.p .o [.l 0],none⟩,⟨none,.p (.v 0) [.l 0],none⟩,⟨none,.p (.v 1) [.l 1],none⟩] _ rfl;have F6:=VL F.r [ZX 0,ZY 0,.f [],.j];have o6:=Wi F.r [ZX 0,ZY 0,.f [],.j];generalize k_ hh [ZX 0,ZY 0,.f [],.j]=h6 at F6 o6|-;obtain⟨x,ex⟩:∃x,X[p+i]? =some x:=⟨_,Vp oM⟩;let⟨v9,bT,G,bV,a9,g9,m9,k9,ec,en⟩:=gh.f F6 iS iS;have ax:=Vg ex;have xk:=xh x ax;have b2:ag h6 b 2=some (.u bg 0):=(F6.c_ Z).o 2;have a5:=F6.c_ ac;have a6:ag h6 h.i 1=some (ZZ (p:Int)):=a5.o 1;have ea:(p:Int)+i=((p+i:Nat):Int):=oM;simp(disch:=omega) only[a_,seval,g_,ah,g0,g3,b2,a6,ea];apply aa (uJ F6.r k9 (i:=p+i) oM);rintro _ h7 ⟨F7,rfl⟩;rw[<-ec,Bn ex];have bB:ag h7 b 2=some (.u bg 0):=(F7.c_ (F6.c_ Z)).o 2;have bp:ag h7 h.i 1=some (ZZ (p:Int)):=(F7.c_ a5).o 1;simp only[a_,g_,de,mJ];have nH:=F6.i;refine ao (c':=x.s) F7.r (F7.c_ o6) rfl xk.O rfl ?_;rintro h8 o8 F8 bA;have ab:Fr [] hh h8:=(F6.c F7).y F8 F.r (Ve _);have x0:ag h8 hh.i 0=some (ZX (x.A:Int)):=o8.o 0;have b3:ag h8 b 3=some (.u bm 0):=(ab.c_ Z).o 3;simp only[a_,seval,DF,g_,g0,b2,a6,x0,b3];have k8:=kh.ap ab iS iS;have ek:(fR mc ((X.drop p).take i)).1 x.A=mc.1 x.A:=by rw[mU,if_neg (Gr nd ex)]
 let⟨j,hj⟩:=XD.1 (hm x ax);apply aa (EL ab.r k8 xk.k (ek.trans hj));rintro _ h9 ⟨rfl,a7,F9,s9,l9,o9⟩;have br:ag h9 b 3=some (.u bm 0):=(F9.D _ _ (by simp;exact⟨d.j,d.k⟩) (ab.c_ Z)).o 3;have bt:ag h9 hh.i 0=some (ZX (x.A:Int)):=(F9.D _ _ oO o8).o 0;have et:(X.drop p).take (i+1)=(X.drop p).take i++[x]:=by rw[Vs,Wh,ex];rfl
 have ks:Km h9 bm S (fR mc ((X.drop p).take (i+1))).1 (fR mc ((X.drop p).take (i+1))).2:=by rw[et,xo];exact a7
 simp(disch:=omega) only[a_,seval,DF,ah,ak,b3,x0];refine t_ ⟨q-(i+1),oM,Vn (Vn F ab F2.r (fun x m=>.inl m) iS) F9 F2.r (fun x m=>.inl m) (fun x m=>.inl m),i+1,iS,iX,iX,iX,oM,ks,Od l9 o9,rfl⟩;have:i=q:=oM;subst this;have b2:ag hh b 2=some (.u bg 0):=Z.o 2;have a3:ag hh h.i 1=some (ZZ (p:Int)):=ac.o 1;have a2:ag hh h.i 2=some (ZZ (i:Int)):=ac.o 2;simp only[a_,seval,g_,ak,a0,g0,g3,(oM:¬(i:Int)<i),b2,a3,a2];apply aa (uI F.r gh aj);rintro _ h3 ⟨rfl,an,F3,bc⟩;rw[Ah,<-mC aj]at an;have af:=F3.D _ _ (by simp;exact⟨d.o,d.n⟩) Z;have ar:=F3.D h.i _ oO ac;have bw:ag h3 b 2=some (.u bg 0):=af.o 2;have bi:ag h3 h.i 1=some (ZZ (p:Int)):=ar.o 1;have bv:ag h3 h.i 2=some (ZZ (i:Int)):=ar.o 2;have k3:=kh.ap F3 (by simp;exact⟨d.e.symm,d.c.symm⟩) (by simp;exact⟨d.d.symm,d.a.symm⟩);have a1:=bj.fr F3 (by simp;exact⟨d.d.symm,d.a.symm⟩);simp only[a_,seval,DF,g_,g0,g3,bi,b2,a3,a2];have rl:=mC aj;have dc:=qZ ((X.drop p).take i) mc;have n3:=F3.i;apply aa (yN F3.r af an k3 (fun x m=>⟨hX x (kR m),(xh x (kR m)).k⟩) oM oM d.j d.k d.e d.d d.c d.a oM a1);rintro _ h4 ⟨rfl,S',hS,k4,F4,bk⟩;simp only[a_,seval];have n4:=F4.i;have FW:Fr (Wr b bg B bm S bl pm) h h4:=by
  refine Vn (Vn (Vn ae F w (fun x m=>.inl ?_) (fun x m=>.inl ?_)) F3 w (fun x m=>.inl m) (fun x m=>.inl ?_)) F4 w (fun x m=>.inl m) (fun x m=>.inl ?_);obtain m|m:=Vo.1 m;simp[Wr,m];exact Vc.2 (.inr m);all_goals
   simp at m;obtain m|m:=m<;>simp[Wr,m]
 have a8:V5 hh [bg,B]:=(gh.c.1.an).W3 (A:=[bg]) ((ay.fr F (by simp;exact⟨d.c,d.a⟩)).an);have bh:=((K.ap F (k2.ao.an.W3 (A:=[bm]) a4.an) (by simp;exact⟨d.i.symm,d.f.symm⟩) (fun z e=>by simp;exact⟨(d.p z e).2.2.2.1,(d.p z e).2.2.2.2.1⟩)).ap F3 a8 (by simp;exact⟨d.m.symm,d.g.symm⟩) (fun z e=>by simp;exact⟨(d.p z e).2.1,(d.p z e).2.2.1⟩)).ap F4 (k3.ao.an.W3 (A:=[bm]) a1.an) (by simp;exact⟨d.i.symm,d.f.symm⟩) (fun z e=>by simp;exact⟨(d.p z e).2.2.2.1,(d.p z e).2.2.2.2.1⟩);have bn:=an.f F4 (by simp;exact⟨d.e,d.d⟩) (by simp;exact⟨d.c,d.a⟩);refine⟨fun n=>absurd n cc,fun _=>⟨FW,S',hS.imp id (fun z=>by omega),s.aE w FW (F4.D _ _ (by simp;exact⟨d.j,d.k⟩) af) bn ((bc (ay.fr F (by simp;exact⟨d.c,d.a⟩))).fr F4 (by simp;exact⟨d.c,d.a⟩)) k4 bk bh (by rw[mC oM,rl,sl]) (.inl rfl) (hS.imp id fun z=>by omega) (fun x m=>kR m) ?_⟩⟩;obtain rfl|z:=hS;exact d.a;omega
theorem Hy{a c t:Nat}:((X.flatMap e_.s).take (a*4)++(X.flatMap e_.s).drop ((a+c) *4)).take (t*4)++((X.flatMap e_.s).drop (a*4)).take (c*4)++((X.flatMap e_.s).take (a*4)++(X.flatMap e_.s).drop ((a+c) *4)).drop (t*4)=(cG X a c t).flatMap e_.s:=by rw[Ah,cZ aT,bI aT,bI aT,cZ aT,cG,Wx,Wx]
theorem dN(X:List α)(a c t:Nat):(cG X a c t).Perm X:=by
 have h:=wB X a c;refine List.Perm.trans ?_ h;unfold cG;have e:aV X a c++(X.drop a).take c=((aV X a c).take t++(aV X a c).drop t)++(X.drop a).take c:=by rw[VA]
 rw[e,VN,VN];exact Yz _ XW
theorem GM{h:b_}{b B S:Nat}{a c t:Int}{l:List Int}{mc:cJ}{k0 v:V}(w:WF h)(s:H_ n0 h b Ks cap X l kn st vK bg B bm S bl pm mc)
 (ha:-9223372036854775808<=a/\a<=9223372036854775807) (hc:-9223372036854775808<=c/\c<=9223372036854775807) (ht:-9223372036854775808<=t/\t<=9223372036854775807) (hX:∀x∈X,0<x.A) (hx:X.length<=1024) (hk:mc.2+1024<=4096)
 (ones:aw [k0,ZZ a,ZZ c,ZZ t,v]=true):
 av go 48 [.u b 0,.B [k0,ZZ a,ZZ c,ZZ t,v]] h fun u h'=>u=ZZ (if dt X.length a c t then 4 else 0)/\(dt X.length a c t->Fr (bl::pm.toList) h h'/\H_ n0 h' b Ks cap X l kn st vK bg B bm S bl pm mc)/\
  (¬dt X.length a c t->Fr (Wr b bg B bm S bl pm) h h'/\∃B' S',(B'=B\/h.i<=B')/\(S'=S\/h.i<=S')/\H_ n0 h' b Ks cap (cG X a.toNat c.toNat t.toNat) (cG l a.toNat c.toNat t.toNat) (cG kn a.toNat c.toNat t.toNat) (cG st a.toNat c.toNat t.toNat) vK bg B' bm S' bl pm
   (dS mc ((cG X a.toNat c.toNat t.toNat).drop (min a.toNat t.toNat)) (min a.toNat t.toNat))):=by
 have xh:=(s.rd [] h iS (Vk w)).2.2;have sl:=s.A_;let⟨h1,bf,bc,ba⟩:=au w [k0,ZZ a,ZZ c,ZZ t,v];have n1:=s_ bf;have s1:=s.fr w bc;have l1:ag h1 h.i 1=some (ZZ a):=ba.o 1;have l2:ag h1 h.i 2=some (ZZ c):=ba.o 2;have l3:ag h1 h.i 3=some (ZZ t):=ba.o 3;have b4:ag h1 b 4=some (.u bl 0):=s1.ob.o 4;refine ai ?_;simp only[a_,seval,g_,<-bf,l1,l2,l3,b4];refine aa (Jn bc.r s1.lo ha.1 ha.2 hc.1 hc.2 ht.1 ht.2) ?_;rintro _ h2 ⟨F2,rfl,Z⟩;rw[sl]at Z|-;have wl:=s.aL w;have nn:h.i∉bl::pm.toList:=fun m=>by
  have:h.i∈Wr b bg B bm S bl pm:=by obtain q|q:=Vo.1 m;simp[Wr,q];exact Vc.2 (.inr q)
  have:=wl _ this;omega
 have ab:Fr (bl::pm.toList) h h2:=Vn bc F2 w iS (fun x m=>.inl m);by_cases cc:dt X.length a c t;rw[if_pos cc]at Z|-;simp only[a_,seval,DF,g_,l1,l2,l3,b4];exact⟨fun _=>⟨ab,s.aZ w ab Z sl (.inl rfl)⟩,fun n=>absurd cc n⟩;rw[if_neg cc]at Z|-;have cn:=cc;unfold dt bS at cn;obtain⟨p,rfl⟩:∃p:Nat,a=p:=⟨a.toNat,oM⟩;obtain⟨q,rfl⟩:∃q:Nat,c=q:=⟨c.toNat,oM⟩;obtain⟨r,rfl⟩:∃r:Nat,t=r:=⟨t.toNat,oM⟩;simp only[pi]at Z|-;have ac:=F2.D _ _ nn ba;have ar:ag h2 h.i 1=some (ZZ (p:Int)):=ac.o 1;have ay:ag h2 h.i 2=some (ZZ (q:Int)):=ac.o 2;have an:ag h2 h.i 3=some (ZZ (r:Int)):=ac.o 3;have d:=s.d;have nb:∀y,y≠bl->(∀q,pm=some q->q≠y)->y∉bl::pm.toList:=by grind
 have xb:=nb b d.r fun q e=>(d.p q e).1;have xg:=nb bg d.m fun q e=>(d.p q e).2.1;have xB:=nb B d.g fun q e=>(d.p q e).2.2.1;have xm:=nb bm d.i fun q e=>(d.p q e).2.2.2.1;have xS:=nb S d.f fun q e=>(d.p q e).2.2.2.2.1;have aH:=F2.D _ _ xb s1.ob;have g2:=s1.g.f F2 xg xB;have ax:=s1.gB.fr F2 xB;have k2:=s1.k.ap F2 xm xS;have a2:=s1.gS.fr F2 xS;have n2:=ab.i;have ak:=s.k.lt w;have lS:=s.aB;have lg:=s.g.c.1.lt w;have lB:=s.gB.lt w;have a8:=s.ob.lt w;have ll:=s.au;have b2:ag h2 b 2=some (.u bg 0):=aH.o 2;simp only[a_,seval,DF,g_,l1,l2,l3,b4,ar,ay,an,b2];apply aa (HV F2.r g2 (p:=p) (q:=q) (t:=r) oM oM);rintro _ h3 ⟨rfl,B',hB,g3,F3,K⟩;rw[Hy]at g3;have pl:=(dN X p q r).length_eq;rw[<-pl]at g3;have K:=K ax;have af:=F3.D _ _ (by simp;exact⟨d.o,d.n⟩) aH;have aj:=F3.D h.i _ oO ac;have a3:ag h3 h.i 1=some (ZZ (p:Int)):=aj.o 1;have a9:ag h3 h.i 2=some (ZZ (q:Int)):=aj.o 2;have a1:ag h3 h.i 3=some (ZZ (r:Int)):=aj.o 3;have a6:ag h3 b 2=some (.u bg 0):=af.o 2;have k3:=k2.ap F3 (by simp;exact⟨d.e.symm,d.c.symm⟩) (by simp;exact⟨d.d.symm,d.a.symm⟩);have a0:=a2.fr F3 (by simp;exact⟨d.d.symm,d.a.symm⟩);have n3:=F3.i;have ae:∀x,x<h.i->x≠B->B'≠x:=fun x a c=>by omega
 have me:min (p:Int) (r:Int)=((min p r:Nat):Int):=oM;simp only[a_,seval,DF,g_,a3,a1,ar,ay,an,b2,me];have pX:∀x∈cG X p q r,x∈X:=fun x m=>(dN X p q r).subset m;apply aa (yN F3.r af g3 k3 (fun x m=>⟨hX x (pX x m),(xh x (pX x m)).k⟩) oM oM d.j d.k d.e d.d (ae bm ak d.c.symm) (ae S lS d.a.symm) (K.lt F3.r) a0);rintro _ h4 ⟨rfl,S',hS,k4,F4,a4⟩;simp only[a_,seval];have n4:=F4.i;have a7:=K.lt F3.r;have FW:Fr (Wr b bg B bm S bl pm) h h4:=by
  refine Vn (Vn ab F3 w (fun x m=>.inl ?_) (fun x m=>.inl ?_)) F4 w (fun x m=>.inl m) (fun x m=>.inl ?_);obtain m|m:=Vo.1 m;simp[Wr,m];exact Vc.2 (.inr m);all_goals
   simp at m;obtain m|m:=m<;>simp[Wr,m]
 have a5:=(Z.ap F3 ((g2.c.1.an).W3 (A:=[bg]) ax.an) (by simp;exact⟨d.m.symm,d.g.symm⟩) (fun z e=>by simp;exact⟨(d.p z e).2.1,(d.p z e).2.2.1⟩)).ap F4 (k3.ao.an.W3 (A:=[bm]) a0.an) (by simp;exact⟨d.i.symm,d.f.symm⟩) (fun z e=>by simp;exact⟨(d.p z e).2.2.2.1,(d.p z e).2.2.2.2.1⟩);have nB:B'∉[bm,S]:=by simp;exact⟨ae bm ak d.c.symm,ae S lS d.a.symm⟩
 refine⟨fun n=>absurd n cc,fun _=>⟨FW,B',S',hB.imp id (fun z=>by omega),hS.imp id (fun z=>by omega),s.aE w FW (F4.D _ _ (by simp;exact⟨d.j,d.k⟩) af) (g3.f F4 (by simp;exact⟨d.e,d.d⟩) nB) (K.fr F4 nB) k4 a4 a5 (by rw[pl,(dN l p q r).length_eq,sl]) (hB.imp id fun z=>by omega) (hS.imp id fun z=>by omega) pX ?_⟩⟩;obtain rfl|z:=hS;grind;omega
def R5(l:List Int):Prop:=∀x∈l,1<=x/\x<=40
theorem R5.f{a b:List Int}(h:R5 a)(g:R5 b):R5 (a++b):=fun x m=>(Vc.1 m).elim (h x) (g x)
theorem R5.e{a:List Int}(h:R5 a)(n:Nat):R5 (a.take n):=fun x m=>h x (Wl m)
theorem R5.d{a:List Int}(h:R5 a)(n:Nat):R5 (a.drop n):=fun x m=>h x (VU m)
theorem Em{l:List Int}{i:Nat}{s:Int}(h:R5 l)(hl:l.length<=1000)(K:1<=s/\s<=40)(Z:i<l.length):fF l i s=0:=by
 have sl:=jW h;have:0<=l.getD i 0:=by rw[Wg,Vp Z];have:=h _ (List.getElem_mem Z);simp only[Ye];omega
 unfold fF;rw[if_pos ⟨oM,oM⟩,if_neg oM,pi,if_neg oM]
theorem sW{old:List Int}{r:Bool}:∀(m:List Int)(i:Nat)(l:List Int)(kn:List Bool),R5 l->R5 m->l.length<=1000->i+m.length<=l.length->kn.length=l.length->
 ∃l' kn',Zr old r i m l kn=(0,l',kn')/\R5 l'/\l'.length=l.length/\kn'.length=l.length/\∀j:Nat,(l'[j]? =if i<=j/\j<i+m.length/\decide (old.getD j 0<m.getD (j-i) 0)=r then some (m.getD (j-i) 0)else l[j]?)/\
  (kn'[j]? =if i<=j/\j<i+m.length/\decide (old.getD j 0<m.getD (j-i) 0)=r then some false else kn[j]?)
 |[],i,l,kn,h,_,_,_,hk=>⟨l,kn,rfl,h,rfl,hk,fun j=>by rw[if_neg oO,if_neg oO];exact⟨rfl,rfl⟩⟩
 |s::m,i,l,kn,h,hm,hl,hi,hk=>by
  have hs:=hm s iS;have hm':R5 m:=fun x q=>hm x iX;rw[Vy]at hi;have nx:∀j,i<j->(s::m).getD (j-i) 0=m.getD (j-(i+1)) 0:=by intro j hj;rw[(oM:j-i=(j-(i+1))+1),List.getD_cons_succ]
  have x1:∀j,j<i+1->¬(i+1<=j/\j<i+1+m.length/\decide (old.getD j 0<m.getD (j-(i+1)) 0)=r):=fun j hj q=>by omega
  have x2:∀j,j<i->¬(i<=j/\j<i+(s::m).length/\decide (old.getD j 0<(s::m).getD (j-i) 0)=r):=fun j hj q=>by omega
  have Z:∀j,i<j->((i+1<=j/\j<i+1+m.length/\decide (old.getD j 0<m.getD (j-(i+1)) 0)=r)↔(i<=j/\j<i+(s::m).length/\decide (old.getD j 0<(s::m).getD (j-i) 0)=r)):=by intro j hj;rw[nx j hj,Vy];exact⟨fun q=>⟨oM,oM,q.2.2⟩,fun q=>⟨oM,oM,q.2.2⟩⟩
  by_cases c:decide (old.getD i 0<s)=r;have hset:R5 (l.set i s):=fun x q=>by obtain q|rfl:=WH q;exact h x q;exact hs
  obtain⟨l',kn',e,g,n1,n2,f⟩:=sW m (i+1) (l.set i s) (kn.set i false) hset hm' (eV hl) oO (eV hk);simp only[VV]at n1 n2;refine⟨l',kn',?_,g,n1,n2,fun j=>?_⟩;simp only[Zr];rw[if_pos c,if_pos (Em h hl hs oM)];exact e;let⟨f1,f2⟩:=f j;rw[f1,f2];obtain lt|rfl|gt:=Yw j i;rw[if_neg (x1 j oM),if_neg (x1 j oM),if_neg (x2 j lt),if_neg (x2 j lt),Ws oM,Ws oM];exact⟨rfl,rfl⟩;have K:j<=j/\j<j+(s::m).length/\decide (old.getD j 0<(s::m).getD (j-j) 0)=r:=⟨Ve _,iS,by rw[WP];exact c⟩;rw[if_neg (x1 j oM),if_neg (x1 j oM),if_pos K,if_pos K,Yt oM,Yt oM,WP];exact⟨rfl,rfl⟩;by_cases d:i+1<=j/\j<i+1+m.length/\decide (old.getD j 0<m.getD (j-(i+1)) 0)=r;rw[if_pos d,if_pos d,if_pos ((Z j gt).1 d),if_pos ((Z j gt).1 d),nx j gt];exact⟨rfl,rfl⟩;rw[if_neg d,if_neg d,if_neg (fun q=>d ((Z j gt).2 q)),if_neg (fun q=>d ((Z j gt).2 q)),Ws oM,Ws oM];exact⟨rfl,rfl⟩;obtain⟨l',kn',e,g,n1,n2,f⟩:=sW m (i+1) l kn h hm' hl oM hk;refine⟨l',kn',?_,g,n1,n2,fun j=>?_⟩;simp only[Zr];rw[if_neg c];exact e;let⟨f1,f2⟩:=f j;rw[f1,f2];obtain lt|rfl|gt:=Yw j i;rw[if_neg (x1 j oM),if_neg (x1 j oM),if_neg (x2 j lt),if_neg (x2 j lt)];exact⟨rfl,rfl⟩;have K:¬(j<=j/\j<j+(s::m).length/\decide (old.getD j 0<(s::m).getD (j-j) 0)=r):=fun q=>c (by have:=q.2.2;rw[WP]at this;exact this);rw[if_neg (x1 j oM),if_neg (x1 j oM),if_neg K,if_neg K];exact⟨rfl,rfl⟩;by_cases d:i+1<=j/\j<i+1+m.length/\decide (old.getD j 0<m.getD (j-(i+1)) 0)=r;rw[if_pos d,if_pos d,if_pos ((Z j gt).1 d),if_pos ((Z j gt).1 d),nx j gt];exact⟨rfl,rfl⟩;rw[if_neg d,if_neg d,if_neg (fun q=>d ((Z j gt).2 q)),if_neg (fun q=>d ((Z j gt).2 q))];exact⟨rfl,rfl⟩
theorem yh{l M:List α}{a:Nat}(Z:a+M.length<=l.length)(j:Nat):(l.take a++M++l.drop (a+M.length))[j]? =if a<=j/\j<a+M.length then M[j-a]? else l[j]? :=by by_cases c1:j<a;grind;grind
theorem KH{old M l:List Int}{a:Nat}(h:R5 l)(hM:R5 M)(hl:l.length<=1000)(Z:a+M.length<=l.length)(hk:kn.length=l.length):
 Zj old a M 2 l kn=(0,l.take a++M++l.drop (a+M.length),kn.take a++List.replicate M.length false++kn.drop (a+M.length)):=by
 let⟨l1,k1,e1,g1,n1,m1,f1⟩:=sW (old:=old) (r:=false) M a l kn h hM hl Z hk;let⟨l2,k2,e2,g2,n2,m2,f2⟩:=sW (old:=old) (r:=true) M a l1 k1 g1 hM oM oM oM;have e:Zj old a M 2 l kn=(0,l2,k2):=by have z1:((1:Nat)==0)=false:=rfl;have z0:((0:Nat)==0)=true:=rfl;simp[Zj,e1,e2]
 rw[e];have gm:∀j,j-a<M.length->M[j-a]? =some (M.getD (j-a) 0):=fun j hj=>by rw[Wg,Vp hj];rfl
 congr 1;congr 1;refine XZ fun j=>?_;rw[(f2 j).1,(f1 j).1,yh Z];by_cases c:a<=j/\j<a+M.length;grind;grind;refine XZ fun j=>?_;have K:(List.replicate M.length false).length=M.length:=by simp
 have sg:=yh (l:=kn) (M:=List.replicate M.length false) (a:=a) (by rw[K];omega) j;rw[K]at sg;rw[(f2 j).2,(f1 j).2,sg];by_cases c:a<=j/\j<a+M.length;grind;grind
theorem Jt{l M:List Int}{a:Nat}(h:R5 l)(Z:R5 M)(ha:a<=l.length)(hl:l.length+M.length<=1000):cC l a M=0:=by have K:=jW h;have s2:=jW Z;unfold cC;rw[if_pos ⟨oM,oM⟩,if_neg oM,if_pos (qD Z oM),if_neg oM]
def g?(m:Nat->Option Nat)(L:List Nat):Prop:=∀k j:Nat,m k=some j↔L[j]? =some k
theorem gH{m:Nat->Option Nat}:R1 m E↔g? m (E.map fun e=>e.x.A):=by
 unfold R1 g?;refine forall_congr' fun k=>forall_congr' fun j=>?_;rw[VY];cases E[j]? with
 |none=>simp
 |some e=>simp
theorem JI(X:List e_)(mc:cJ)(i:Nat)(Z:(X.map e_.A).Nodup)(k j:Nat):(dS mc X i).1 k=some j↔(∃n,(X.map e_.A)[n]? =some k/\j=i+n)\/(k∉X.map e_.A/\mc.1 k=some j):=by
 rw[tW X mc i Z];refine or_congr ?_ (and_congr_left' ?_);refine exists_congr fun n=>?_;rw[VY];cases X[n]? with
 |none=>simp
 |some x=>simp
 grind
theorem sR{mc ac:cJ}{X':List e_}{L:List Nat}{a:Nat}{D:List Nat}(ix:g? mc.1 L)(nd:L.Nodup)(K:(X'.map e_.A).Nodup)(tk:(X'.map e_.A).take a=L.take a)(mD:∀k,ac.1 k=if k∈D then none else mc.1 k)
 (hD:∀k∈D,k∈L.drop a) (hd:∀k∈L.drop a,k∈D\/k∈(X'.map e_.A).drop a):g? (dS ac (X'.drop a) a).1 (X'.map e_.A):=by
 intro k j;rw[JI _ _ _ (by rw[<-VZ]at *;exact K.sublist (List.Sublist.map _ (WR _ _))),VZ,mD];generalize X'.map e_.A=L' at K tk hd|-;have ab:∀{L:List Nat},L.Nodup->∀{j k:Nat},L[j]? =some k->j<a->k∉L.drop a:=by intro L nd j k e Z m;let⟨n,hn⟩:=Xc.1 m;rw[Wh]at hn;have:=(List.getElem?_inj (Vt.1 e).1 nd).1 (e.trans hn.symm);omega
 have pre:∀j,j<a->L'[j]? =L[j]? :=by intro j Z;have:=congrArg (fun l=>l[j]?) tk;simpa only[Xd,if_pos Z]using this
 constructor;rintro(⟨n,e,rfl⟩|⟨h1,h2⟩);grind;split at h2;cases h2;rename_i kD;have e:=(ix k j).1 h2;by_cases Z:j<a;grind;exfalso;have:k∈L.drop a:=Xc.2 ⟨j-a,by rw[Wh,(oM:a+(j-a)=j)];exact e⟩;obtain q|q:=hd k this;exact kD q;exact h1 q;intro e;by_cases Z:j<a;refine .inr ⟨ab K e Z,?_⟩;rw[pre j Z]at e;rw[if_neg (fun q=>ab nd e Z (hD k q))];exact(ix k j).2 e;exact .inl ⟨j-a,by rw[Wh,(oM:a+(j-a)=j)];exact e,oM⟩
theorem qL:∀(X:List e_)(mc:cJ)(i:Nat),(dS mc X i).2<=mc.2+(X.filter fun x=>(mc.1 x.A).isNone).length
 |[],_,_=>by simp[dS]
 |x::r,mc,i=>by
  have ih:=qL r (np mc x.A i) (i+1);simp only[dS];have mono:(r.filter fun y=>((np mc x.A i).1 y.A).isNone).length<=(r.filter fun y=>(mc.1 y.A).isNone).length:=by rw[<-List.countP_eq_length_filter,<-List.countP_eq_length_filter];refine List.countP_mono_left fun y _ Z=>?_;simp only[np,kW]at Z;split at Z;cases Z;exact Z
  rw[Yh];cases e:mc.1 x.A with
  |none=>simp only[np,e]at ih|-;simp only[np]at mono;simp at ih|-;omega
  |some j=>simp only[np,e]at ih|-;simp only[np]at mono;simp at ih|-;omega
structure ZQ where
 k:Nat
 a:Int
 c:Int
 t:Int
 Y:List e_
def aQ(Ks:List w_)(Y:List e_):List d_:=Y.map fun y=>⟨y,aF Ks y,false⟩
def aE(E:List d_):List Nat:=E.map fun e=>e.x.A
def vS(E:List d_)(k:Nat):Bool:=decide (k∈aE E)
def oU(Ks:List w_)(a:Int)(E:List d_)(Y:List e_):Int:=if a<0\/(E.length:Int)<a then 4 else dZ Ks 12 (vS E) [] Y
def Zx(Ks:List w_)(a:Int)(E:List d_)(Y:List e_):Int:=if a<0\/(E.length:Int)<a\/(E.length:Int)-a<Y.length then 4 else bU Ks 12 (E.map d_.x) a.toNat Y
def h?(Ks:List w_)(n:ZQ)(E:List d_):Int:=match n.k with
 |1=>oU Ks n.a E n.Y
 |2=>if bS E.length n.a n.c then 4 else 0
 |3=>if dt E.length n.a n.c n.t then 4 else 0
 |4=>Zx Ks n.a E n.Y
 |_=>dZ Ks 12 (fun _=>false) [] n.Y
def c?(Ks:List w_)(n:ZQ)(E:List d_):List d_:=match n.k with
 |1=>E.take n.a.toNat++aQ Ks n.Y++E.drop n.a.toNat
 |2=>aV E n.a.toNat n.c.toNat
 |3=>cG E n.a.toNat n.c.toNat n.t.toNat
 |4=>E.take n.a.toNat++aQ Ks n.Y++E.drop (n.a.toNat+n.Y.length)
 |_=>aQ Ks n.Y
def Y5(Ks:List w_)(n:ZQ)(E:List d_):Int:=if dG n.k n.a n.c n.t n.Y.length≠0 then dG n.k n.a n.c n.t n.Y.length else h? Ks n E
def ZI(Ks:List w_)(n:ZQ)(E:List d_):List d_:=if Y5 Ks n E=0 then c? Ks n E else E
def RK(Ks:List w_):Prop:=U3 Ks 12=true/\Ks.length=3/\GK Ks
structure LV(Ks:List w_)(E:List d_):Prop where
 o:∀e∈E,P0 e.x 3=true/\bP Ks 12 e.x=0
 b:∀e∈E,e.kn=false->e.b=aF Ks e.x
 c:∀e∈E,e.kn=true->1<=e.b/\e.b<=40
 n:(aE E).Nodup
theorem RK.d(r:RK Ks){x:e_}(o:P0 x 3=true):1<=aF Ks x/\aF Ks x<=40:=by simp only[P0,Vd,decide_eq_true_eq]at o;have p:Ks[x.N]? =some (Ks[x.N]'(by rw[r.2.1];exact o.2.1)):=Vp _;generalize Ks[x.N]'(by rw[r.2.1];exact o.2.1)=q at p;have g:=(r.2.2 q (Vg p)).2.2;rw[aF,p];exact g
theorem X4.d{h:b_}(a:X4 Ks h E):LV Ks E:=⟨fun e m=>⟨(a.h e m).2.2.1,(a.h e m).2.2.2⟩,a.b,a.c,a.n⟩
theorem LV.i{h:b_}(a:LV Ks E)(r:RK Ks)(H:∀e∈E,q_ h e.x)(l:E.length<=1000):X4 Ks h E:=⟨fun e m=>⟨H e m,rfl,a.o e m⟩,a.b,a.c,a.n,l,r⟩
theorem LV.d(a:LV Ks E)(r:RK Ks):R5 (E.map d_.b):=by intro x m;obtain⟨e,Z,rfl⟩:=VK.1 m;cases K:e.kn;rw[a.b e Z K];exact r.d (a.o e Z).1;exact a.c e Z K
theorem yQ{Y:List e_}:(aQ Ks Y).map d_.b=Y.map (aF Ks):=by simp[aQ]
theorem yP{Y:List e_}:(aQ Ks Y).map d_.kn=List.replicate Y.length false:=by rw[aQ,VW];exact List.map_eq_replicate_iff.2 fun _ _=>rfl
theorem yO{Y:List e_}:((aQ Ks Y).map fun e=>e.x.Y)=Y.map e_.Y:=by simp[aQ]
theorem sT{Y:List e_}:aE (aQ Ks Y)=Y.map e_.A:=by simp[aQ,aE]
theorem gA{Y:List e_}:(aQ Ks Y).length=Y.length:=by simp[aQ]
theorem iC{p:Nat->Bool}:∀{Y:List e_}{seen:List Nat},dZ Ks cap p seen Y=0->(∀y∈Y,P0 y Ks.length=true/\bP Ks cap y=0/\p y.A=false/\y.A∉seen)/\(Y.map e_.A).Nodup
 |[],_,_=>by simp
 |y::Y,seen,h=>by
  simp only[dZ]at h;split at h;cases h;rename_i h1;split at h;cases h;rename_i h2;split at h;omega;rename_i h3;let⟨a,b⟩:=iC h;have h2':y.A∉seen/\p y.A=false:=⟨fun m=>h2 (.inl m),by cases e:p y.A;rfl;exact absurd (.inr e) h2⟩;have h3':bP Ks cap y=0:=Classical.byContradiction h3;have h1':P0 y Ks.length=true:=by grind
  refine⟨fun z m=>?_,?_⟩;grind;grind
theorem qT{K:List w_}(h:cK Ks K){cap:Int}{p q:Nat->Bool}(hp:∀k,p k=q k):∀(Y:List e_)(seen:List Nat),dZ K cap p seen Y=dZ Ks cap q seen Y
 |[],_=>rfl
 |y::Y,seen=>by simp[dZ,<-eg h,qI h,hp,qT h hp Y]
theorem xw{K:List w_}(h:cK Ks K){cap:Int}{X Z:List e_}(e:X.map e_.A=Z.map e_.A):∀(Y:List e_)(i:Nat),bU K cap X i Y=bU Ks cap Z i Y
 |[],_=>rfl
 |y::Y,i=>by
  have:X[i]?.map e_.A=Z[i]?.map e_.A:=by rw[<-VY,<-VY,e]
  simp only[bU,<-eg h,qI h,this,xw h e Y]
theorem qe:∀{Y:List e_}{i:Nat},bU Ks cap X i Y=0->(∀y∈Y,P0 y Ks.length=true/\bP Ks cap y=0)/\∀j y,Y[j]? =some y->X[i+j]?.map e_.A=some y.A
 |[],_,_=>by simp
 |y::Y,i,h=>by simp only[bU]at h;split at h;cases h;rename_i h1;split at h;cases h;rename_i h2;split at h;omega;rename_i h3;let⟨a,b⟩:=qe h;refine⟨fun z m=>?_,fun j z e=>?_⟩;grind;grind
theorem LV.j{A B:List d_}(a:LV Ks A)(b:LV Ks B)(d:∀k∈aE A,k∉aE B):LV Ks (A++B):=by refine⟨fun e m=>(Vc.1 m).elim (a.o e) (b.o e),fun e m=>(Vc.1 m).elim (a.b e) (b.b e),fun e m=>(Vc.1 m).elim (a.c e) (b.c e),?_⟩;rw[aE,VF,Xq];exact⟨a.n,b.n,fun x Z y K e=>d x Z (e▸K)⟩
theorem LV.g{A B:List d_}(a:LV Ks B)(s:A.Sublist B):LV Ks A:=⟨fun e m=>a.o e (s.subset m),fun e m=>a.b e (s.subset m),fun e m=>a.c e (s.subset m),a.n.sublist (s.map _)⟩
theorem LV.f{A B:List d_}(a:LV Ks B)(s:A.Perm B):LV Ks A:=⟨fun e m=>a.o e (s.subset m),fun e m=>a.b e (s.subset m),fun e m=>a.c e (s.subset m),(s.map _).nodup_iff.2 a.n⟩
theorem LV.e{Y:List e_}(r:RK Ks)(h:∀y∈Y,P0 y Ks.length=true/\bP Ks 12 y=0)(n:(Y.map e_.A).Nodup):LV Ks (aQ Ks Y):=by
 refine⟨fun e m=>?_,fun e m _=>?_,fun e m k=>?_,by rw[sT];exact n⟩<;>obtain⟨y,Z,rfl⟩:=VK.1 m
 have:=h y Z;rw[r.2.1]at this;exact this;rfl;cases k
theorem yK{Y:List e_}{a:Int}(r:RK Ks)(o:LV Ks E)(z:oU Ks a E Y=0):LV Ks (E.take a.toNat++aQ Ks Y++E.drop a.toNat):=by
 unfold oU at z;split at z;cases z;let⟨K,h2⟩:=iC z;have p:(E.take a.toNat++aQ Ks Y++E.drop a.toNat).Perm (aQ Ks Y++E):=by
  have:aQ Ks Y++E=aQ Ks Y++(E.take a.toNat++E.drop a.toNat):=by rw[VA]
  rw[this,<-VN];exact List.Perm.append_right _ XW
 refine LV.f (LV.j (LV.e r (fun y m=>⟨(K y m).1,(K y m).2.1⟩) h2) o fun k hk=>?_) p;rw[sT]at hk;obtain⟨y,Z,rfl⟩:=VK.1 hk;have:=(K y Z).2.2.1;simpa[vS]using this
theorem DC{Y:List e_}{a:Int}(z:Zx Ks a E Y=0):aE (E.take a.toNat++aQ Ks Y++E.drop (a.toNat+Y.length))=aE E:=by
 unfold Zx at z;split at z;cases z;rename_i c;let⟨_,h2⟩:=qe z;have K:aE (E.take a.toNat++aQ Ks Y++E.drop (a.toNat+Y.length))=(aE E).take a.toNat++Y.map e_.A++(aE E).drop (a.toNat+(Y.map e_.A).length):=by rw[WG,<-sT (Ks:=Ks)];simp[aE]
 rw[K];refine XZ fun j=>?_;have lk:(aE E).length=E.length:=by simp[aE]
 rw[yh (by rw[lk,WG];omega)];split;rename_i d;rw[VY];obtain⟨y,Z⟩:∃y,Y[j-a.toNat]? =some y:=⟨_,Vp (by rw[WG]at d;omega)⟩;have:=h2 _ _ Z;rw[(oM:a.toNat+(j-a.toNat)=j),VY]at this;rw[Z,aE,VY];cases q:E[j]? with
 |none=>rw[q]at this;cases this
 |some e=>rw[q]at this;exact this.symm
 rfl
theorem Iq{Y:List e_}{a:Int}(r:RK Ks)(o:LV Ks E)(z:Zx Ks a E Y=0):LV Ks (E.take a.toNat++aQ Ks Y++E.drop (a.toNat+Y.length)):=by
 have k:=DC z;unfold Zx at z;split at z;cases z;let⟨K,_⟩:=qe z;have x:∀e∈E.take a.toNat++aQ Ks Y++E.drop (a.toNat+Y.length),e∈E\/e∈aQ Ks Y:=by grind
 have f:∀e∈aQ Ks Y,(P0 e.x 3=true/\bP Ks 12 e.x=0)/\e.b=aF Ks e.x/\e.kn=false:=by intro e m;obtain⟨y,Z,rfl⟩:=VK.1 m;have:=K y Z;rw[r.2.1]at this;exact⟨this,rfl,rfl⟩
 refine⟨fun e m=>?_,fun e m q=>?_,fun e m q=>?_,by rw[k];exact o.n⟩<;>obtain m|m:=x e m
 exact o.o e m;exact(f e m).1;exact o.b e m q;exact(f e m).2.1;exact o.c e m q;grind
theorem MO{n:ZQ}(r:RK Ks)(o:LV Ks E)(z:h? Ks n E=0):LV Ks (c? Ks n E):=by unfold h? at z;unfold c?;split;exact yK r o (by simpa[*]using z);exact o.g (iw _ _ _);exact o.f (dN _ _ _ _);exact Iq r o (by simpa[*]using z);split at z;contradiction;contradiction;contradiction;contradiction;let⟨Z,K⟩:=iC z;exact LV.e r (fun y m=>⟨(Z y m).1,(Z y m).2.1⟩) K
theorem Na{n:ZQ}(z:Y5 Ks n E=0):h? Ks n E=0:=by unfold Y5 at z;split at z;omega;exact z
theorem Cw{n:ZQ}(r:RK Ks)(o:LV Ks E):LV Ks (ZI Ks n E):=by unfold ZI;split;rename_i z;exact MO r o (Na z);exact o
theorem Kb{n:ZQ}:(c? Ks n E).length<=E.length+n.Y.length:=by unfold c?;split;simp[gA];omega;have:=(iw E n.a.toNat n.c.toNat).length_le;omega;have:=(dN E n.a.toNat n.c.toNat n.t.toNat).length_eq;omega;simp[gA];omega;rw[gA];omega
theorem zy{n:ZQ}:(ZI Ks n E).length<=E.length+n.Y.length:=by unfold ZI;split;exact Kb;omega
open Go.Ev.St
theorem nY:∀{a b c:PT},PT.W2 a b->PT.W2 b c->PT.W2 a c
 |.z_,.z_,.z_,_,_=>trivial
 |.p_ _ _ _ _ _ _ _ _ _,.p_ _ _ _ _ _ _ _ _ _,.p_ _ _ _ _ _ _ _ _ _,⟨h1,h2,h3,h4,h5,h6,h7⟩,⟨g1,g2,g3,g4,g5,g6,g7⟩=>⟨h1.trans g1,h2.trans g2,h3.trans g3,h4.trans g4,h5.trans g5,nY h6 g6,nY h7 g7⟩
 |.z_,.p_ _ _ _ _ _ _ _ _ _,_,h,_=>h.elim
 |.p_ _ _ _ _ _ _ _ _ _,.z_,_,h,_=>h.elim
 |.z_,.z_,.p_ _ _ _ _ _ _ _ _ _,_,h=>h.elim
 |.p_ _ _ _ _ _ _ _ _ _,.p_ _ _ _ _ _ _ _ _ _,.z_,_,h=>h.elim
theorem pC:∀{a b c:List w_},cK a b->cK b c->cK a c
 |[],[],[],_,_=>trivial
 |_::_,_::_,_::_,⟨⟨h1,h2,h3,h4,h5,h6,h7,h8,h9⟩,h'⟩,⟨⟨g1,g2,g3,g4,g5,g6,g7,g8,g9⟩,g'⟩=>⟨⟨h1.trans g1,h2.trans g2,h3.trans g3,h4.trans g4,h5.trans g5,h6.trans g6,h7.trans g7,h8.trans g8,nY h9 g9⟩,pC h' g'⟩
 |[],_::_,_,h,_=>h.elim
 |_::_,[],_,h,_=>h.elim
 |[],[],_::_,_,h=>h.elim
 |_::_,_::_,[],_,h=>h.elim
def SW(n0:NL)(W:Nat->Prop)(C:Nat)(Ks:List w_)(h:b_)(b:Nat)(E:List d_):Prop:=∃K X st vK bg B bm S bl pm mc,H_ n0 h b K 12 X (E.map d_.b) (E.map d_.kn) st vK bg B bm S bl pm mc/\cK Ks K/\X.map e_.Y=E.map (fun e=>e.x.Y)/\g? mc.1 (aE E)/\mc.2<=C/\∀y∈Wr b bg B bm S bl pm,W y
theorem SW.fr{W:Nat->Prop}{h:b_}{b:Nat}(w:WF h)(s:SW n0 W C Ks h b E)(f:Fr [] h h'):SW n0 W C Ks h' b E:=by let⟨K,X,st,vK,Z,B,bm,S,bl,pm,mc,s,r⟩:=s;exact⟨K,X,st,vK,Z,B,bm,S,bl,pm,mc,s.fr w f,r⟩
theorem SW.ag{W W':Nat->Prop}{Z:Nat}{h:b_}{b:Nat}(s:SW n0 W C Ks h b E)(hW:∀y,W y->W' y)(hC:C<=Z):SW n0 W' Z Ks h b E:=by let⟨K,X,st,vK,bg,B,bm,S,bl,pm,mc,s,sk,ev,ix,c,r⟩:=s;exact⟨K,X,st,vK,bg,B,bm,S,bl,pm,mc,s,sk,ev,ix,VC c hC,fun y m=>hW y (r y m)⟩
theorem WrW{W:Nat->Prop}{N b B S bl':Nat}{Z:Option Nat}(hW:∀y∈Wr b bg B bm S bl pm,W y)(hB:B'=B\/N<=B')(hS:S'=S\/N<=S')(hl:bl'=bl\/N<=bl')(K:Z=pm\/∀q,Z=some q->N<=q):∀y∈Wr b bg B' bm S' bl' Z,W y\/N<=y:=by intro y m;simp only[Wr,Vc,Vo,VD,or_false]at m;have q:∀{z},z∈Wr b bg B bm S bl pm->y=z->W y\/N<=y:=fun h e=>.inl (e▸hW _ h);obtain(m|m|m|m|m|m)|m:=m;exact q (by simp[Wr]) m;exact q (by simp[Wr]) m;obtain e|e:=hB;exact q (by simp[Wr]) (m.trans e);omega;exact q (by simp[Wr]) m;obtain e|e:=hS;exact q (by simp[Wr]) (m.trans e);omega;obtain e|e:=hl;exact q (by simp[Wr]) (m.trans e);omega;obtain e|e:=K;rw[e]at m;exact q (Vc.2 (.inr m)) rfl;grind
theorem Ax(ev:X.map e_.Y=E.map fun e=>e.x.Y):X.map e_.A=aE E:=by have:=congrArg (List.map Prod.fst) ev;rw[VW,VW]at this;exact this
theorem Dk{m:Nat->Option Nat}(ix:g? m (aE E))(k:Nat):(m k).isSome=vS E k:=by
 unfold vS;by_cases c:k∈aE E;let⟨j,e⟩:=Xc.1 c;rw[(ix k j).2 e,decide_eq_true c];rfl;rw[decide_eq_false c];cases e:m k with
 |none=>rfl
 |some j=>exact absurd (Xc.2 ⟨j,(ix k j).1 e⟩) c
theorem Dx{mc:cJ}{L:List Nat}{A:List e_}{i:Nat}(ix:g? mc.1 L)(h:∀x∈X,x.A∈L):(dS mc (A++X) i).2<=mc.2+A.length:=by
 refine VC (qL _ _ _) (Nat.add_le_add_left ?_ _);rw[Xe,Vv];have e:X.filter (fun x=>(mc.1 x.A).isNone)=[]:=by rw[Ys];intro x m q;let⟨j,Z⟩:=Xc.1 (h x m);rw[(ix x.A j).2 Z]at q;cases q
 rw[e];have:=XT (fun x:e_=>(mc.1 x.A).isNone) A;simp;omega
section
variable {n0 : NL} {W : Nat -> Prop} {C : Nat} {Ks : List w_} {h : b_} {b : Nat} {E : List d_} {Y : List e_} {a c t : Int} {v k0 a0 c0 t0 : V}
def WZ(W:Nat->Prop)(h h':b_):Prop:=∃Z,(∀z∈Z,W z\/h.i<=z)/\Fr Z h h'
theorem Gw(w:WF h)(s:SW n0 W C Ks h b E)(o:LV Ks E)(r:RK Ks)(ha:-9223372036854775808<=a/\a<9223372036854775808)(hl:E.length+Y.length<=1000)(hC:C+1024<=4096)
 (sv:∀(Z:List Nat)(h':b_),(∀z∈Z,W z\/h.i<=z)->Fr Z h h'->C_ e_.s 4 h' v Y/\∀y∈Y,q_ h' y) (ones:aw [k0,ZZ a,c0,t0,v]=true):
 av go 46 [.u b 0,.B [k0,ZZ a,c0,t0,v]] h fun u h'=>u=ZZ (oU Ks a E Y)/\WZ W h h'/\SW n0 (fun z=>W z\/h.i<=z) (C+Y.length) Ks h' b (if oU Ks a E Y=0 then E.take a.toNat++aQ Ks Y++E.drop a.toNat else E):=by
 let⟨K,X,st,vK,bg,B,bm,S,bl,pm,mc,s,sk,ev,ix,hc,hW⟩:=s;have kx:=Ax ev;have lx:X.length=E.length:=by have:=congrArg List.length ev;simpa using this
 have ab:U3 K 12=true:=by rw[<-jZ sk];exact r.1
 have base:Y.map (aF K)=Y.map (aF Ks):=Xt fun y _=>(hU sk y).1;have er:kH K 12 a X Y (E.map d_.b) (fun x=>(mc.1 x).isSome)=oU Ks a E Y:=by unfold kH oU;rw[lx];by_cases d:a<0\/(E.length:Int)<a;omega;rw[if_neg d,if_neg d,if_neg oM,qT sk (Dk ix)];by_cases z:dZ Ks 12 (vS E) [] Y=0;rw[if_neg iX,z,base];refine Jt (o.d r) (fun x m=>?_) oO oO;obtain⟨y,ym,rfl⟩:=VK.1 m;have:=((iC z).1 y ym).1;rw[r.2.1]at this;exact r.d this;rw[if_pos z]
 have key:∀x∈X,0<x.A:=by intro x m;have:x.A∈aE E:=kx▸VK.2 ⟨x,m,rfl⟩;let⟨e,em,q⟩:=VK.1 this;have oi:=(o.o e em).1;simp only[P0,Vd,decide_eq_true_eq]at oi;omega
 apply Xk (wU (Y:=Y) w s ha ab key oM oM (fun Z h' hZ f=>sv Z h' (fun z m=>(hZ z m).imp (hW z) id) f) (fun _ _=>rfl) oM ones);rintro u h' ⟨rfl,r1,r2⟩;rw[er]at r1 r2|-;by_cases z:oU Ks a E Y=0;let⟨a1,a2,_,Y',B',S',ac,cp,s2,f2,q1,q2,q3⟩:=r2 z;have lv:=yK r o z;rw[if_pos z];have e1:(E.take a.toNat++aQ Ks Y++E.drop a.toNat).map d_.b=(E.map d_.b).take a.toNat++Y.map (aF K)++(E.map d_.b).drop a.toNat:=by rw[base,<-yQ];simp
 have e2:(E.take a.toNat++aQ Ks Y++E.drop a.toNat).map d_.kn=(E.map d_.kn).take a.toNat++List.replicate Y.length false++(E.map d_.kn).drop a.toNat:=by rw[<-yP (Ks:=Ks)];simp
 have e3:(X.take a.toNat++Y'++X.drop a.toNat).map e_.Y=(E.take a.toNat++aQ Ks Y++E.drop a.toNat).map fun e=>e.x.Y:=by rw[VF,VF,VF,VF,cp.aV,yO,Wf,VZ,Wf,VZ,ev]
 have k3:=Ax e3;rw[<-e1,<-e2]at s2;have la:a.toNat<=X.length:=oM;have lt:(X.take a.toNat).length=a.toNat:=by simp;omega
 have dp:(X.take a.toNat++Y'++X.drop a.toNat).drop a.toNat=Y'++X.drop a.toNat:=by grind
 refine⟨rfl,⟨_,fun y m=>.inl (hW y m),f2⟩,K,_,_,vK,bg,B',bm,S',bl,ac,_,s2,sk,e3,?_,?_,WrW hW q1 q2 (.inl rfl) q3⟩;rw[<-k3];refine sR (mc:=mc) (L:=aE E) (D:=[]) ix o.n (by rw[k3];exact lv.n) ?_ (fun k=>by simp) iS (fun k m=>.inr ?_);rw[<-kx,VF,VF,VN,VI oO,Wf,WL,Nat.min_self];rw[<-VZ,dp,VF];refine Vc.2 (.inr ?_);rw[VZ,kx];exact m;rw[dp];have:=Dx (A:=Y') (i:=a.toNat) (X:=X.drop a.toNat) ix fun x m=>kx▸VK.2 ⟨x,VU m,rfl⟩;have:=cp.A_;omega;let⟨f,ac,ae,s2⟩:=r1 z;rw[if_neg z];refine⟨rfl,⟨_,fun y m=>.inl (hW y ?_),f⟩,K,X,st,vK,bg,B,bm,S,bl,ac,mc,s2,sk,ev,ix,oM,WrW hW (.inl rfl) (.inl rfl) (.inl rfl) ae⟩;obtain q|q:=Vo.1 m;simp[Wr,q];exact Vc.2 (.inr q)
theorem Lw(o:LV Ks E){X:List e_}(Z:X.map e_.A=aE E):∀x∈X,0<x.A:=by intro x m;have:x.A∈aE E:=Z▸VK.2 ⟨x,m,rfl⟩;let⟨e,em,q⟩:=VK.1 this;have K:=(o.o e em).1;simp only[P0,Vd,decide_eq_true_eq]at K;omega
theorem yB{b B S:Nat}:∀y∈bl::pm.toList,y∈Wr b bg B bm S bl pm:=by intro y m;obtain q|q:=Vo.1 m;simp[Wr,q];exact Vc.2 (.inr q)
theorem Ai{L:List α}{a c:Nat}(h:a<=L.length):(aV L a c).drop a=(L.drop a).drop c:=by unfold aV;exact List.drop_left' oO
theorem Gu(w:WF h)(s:SW n0 W C Ks h b E)(o:LV Ks E)(ha:-9223372036854775808<=a/\a<=9223372036854775807)(hc:-9223372036854775808<=c/\c<=9223372036854775807)(hl:E.length<=1000)(hC:C+1024<=4096)(ones:aw [k0,ZZ a,ZZ c,t0,v]=true):
 av go 47 [.u b 0,.B [k0,ZZ a,ZZ c,t0,v]] h fun u h'=>u=ZZ (if bS E.length a c then 4 else 0)/\WZ W h h'/\SW n0 (fun z=>W z\/h.i<=z) C Ks h' b (if(if bS E.length a c then(4:Int)else 0)=0 then aV E a.toNat c.toNat else E):=by
 let⟨K,X,st,vK,bg,B,bm,S,bl,pm,mc,s,sk,ev,ix,ab,hW⟩:=s;have Z:=Ax ev;have lx:X.length=E.length:=by have:=congrArg List.length ev;simpa using this
 have isS:∀x∈X,(mc.1 x.A).isSome=true:=fun x m=>by rw[Dk ix];exact decide_eq_true (Z▸VK.2 ⟨x,m,rfl⟩)
 refine Xk (BM w s ha hc (Lw o Z) (by rw[Z];exact o.n) isS oM oM ones) ?_;rintro u h' ⟨rfl,r1,r2⟩;rw[lx]at r1 r2|-;by_cases z:bS E.length a c;let⟨f,s2⟩:=r1 z;rw[if_pos z,if_neg (dI:¬(4:Int)=0)];exact⟨rfl,⟨_,fun y m=>.inl (hW y (yB y m)),f⟩,K,X,st,vK,bg,B,bm,S,bl,pm,mc,s2,sk,ev,ix,ab,fun y m=>.inl (hW y m)⟩;let⟨f,S',hS,s2⟩:=r2 z;rw[if_neg z,if_pos rfl];have rm:∀{α β:Type}(g:α->β)(L:List α),(aV L a.toNat c.toNat).map g=aV (L.map g) a.toNat c.toNat:=fun g L=>by simp[aV]
 have e3:(aV X a.toNat c.toNat).map e_.Y=(aV E a.toNat c.toNat).map fun e=>e.x.Y:=by rw[rm,rm,ev]
 have k3:=Ax e3;have kr:aE (aV E a.toNat c.toNat)=aV (aE E) a.toNat c.toNat:=by grind
 have lv:=o.g (iw E a.toNat c.toNat);have ll:(aE E).length=E.length:=by simp[aE]
 have zz:=z;unfold bS at zz;rw[<-rm,<-rm]at s2;refine⟨rfl,⟨_,fun y m=>.inl (hW y m),f⟩,K,_,_,vK,bg,B,bm,S',bl,pm,_,s2,sk,e3,?_,?_,WrW hW (.inl rfl) hS (.inl rfl) (.inl rfl)⟩;rw[<-k3];refine sR (mc:=mc) (L:=aE E) (D:=((X.drop a.toNat).take c.toNat).map e_.A) ix o.n (by rw[k3];exact lv.n) ?_ (fun k=>mU _ _ _) (fun k m=>?_) (fun k m=>?_);rw[k3,kr,aV,VI oO,WL,Nat.min_self];rw[<-Z,<-VZ];let⟨x,xm,e⟩:=VK.1 m;exact VK.2 ⟨x,Wl xm,e⟩;rw[k3,kr,Wf,VZ,Z,Ai oM];rw[<-VA c.toNat ((aE E).drop a.toNat)]at m;exact Vc.1 m;have d0:=qZ ((X.drop a.toNat).take c.toNat) mc;apply VC (qL _ _ _);have e:((aV X a.toNat c.toNat).drop a.toNat).filter (fun x=>((fR mc ((X.drop a.toNat).take c.toNat)).1 x.A).isNone)=[]:=by
  rw[Ys];intro x m q;rw[mU]at q;split at q;rename_i dm;rw[Ai oM]at m;have nd:(((X.drop a.toNat)).map e_.A).Nodup:=by rw[VZ,Z];exact o.n.sublist (WR _ _)
  rw[<-VA c.toNat (X.drop a.toNat),VF,Xq]at nd;exact nd.2.2 _ dm _ (VK.2 ⟨x,m,rfl⟩) rfl;have:=isS x (kR (VU m));cases e:mc.1 x.A with
  |none=>rw[e]at this;cases this
  |some j=>rw[e]at q;cases q
 rw[e];simp;omega
theorem Gv(w:WF h)(s:SW n0 W C Ks h b E)(o:LV Ks E)(ha:-9223372036854775808<=a/\a<=9223372036854775807)(hc:-9223372036854775808<=c/\c<=9223372036854775807)(ht:-9223372036854775808<=t/\t<=9223372036854775807)(hl:E.length<=1000)(hC:C+1024<=4096)(ones:aw [k0,ZZ a,ZZ c,ZZ t,v]=true):
 av go 48 [.u b 0,.B [k0,ZZ a,ZZ c,ZZ t,v]] h fun u h'=>u=ZZ (if dt E.length a c t then 4 else 0)/\WZ W h h'/\SW n0 (fun z=>W z\/h.i<=z) C Ks h' b (if(if dt E.length a c t then(4:Int)else 0)=0 then cG E a.toNat c.toNat t.toNat else E):=by
 let⟨K,X,st,vK,bg,B,bm,S,bl,pm,mc,s,sk,ev,ix,ab,hW⟩:=s;have kx:=Ax ev;have lx:X.length=E.length:=by have:=congrArg List.length ev;simpa using this
 apply Xk (GM w s ha hc ht (Lw o kx) oM oM ones);rintro u h' ⟨rfl,r1,r2⟩;rw[lx]at r1 r2|-;by_cases z:dt E.length a c t;let⟨f,s2⟩:=r1 z;rw[if_pos z,if_neg (dI:¬(4:Int)=0)];exact⟨rfl,⟨_,fun y m=>.inl (hW y (yB y m)),f⟩,K,X,st,vK,bg,B,bm,S,bl,pm,mc,s2,sk,ev,ix,ab,fun y m=>.inl (hW y m)⟩;let⟨f,B',S',hB,hS,s2⟩:=r2 z;rw[if_neg z,if_pos rfl];have rm:∀{α β:Type}(g:α->β)(L:List α),(cG L a.toNat c.toNat t.toNat).map g=cG (L.map g) a.toNat c.toNat t.toNat:=fun g L=>by simp[cG,aV]
 have e3:(cG X a.toNat c.toNat t.toNat).map e_.Y=(cG E a.toNat c.toNat t.toNat).map fun e=>e.x.Y:=by rw[rm,rm,ev]
 have Z:=Ax e3;have kr:aE (cG E a.toNat c.toNat t.toNat)=cG (aE E) a.toNat c.toNat t.toNat:=by grind
 have lv:=o.f (dN E a.toNat c.toNat t.toNat);have ll:(aE E).length=E.length:=by simp[aE]
 have zz:=z;unfold dt bS at zz;rw[<-rm,<-rm]at s2;have pk:=dN (aE E) a.toNat c.toNat t.toNat;have tk:(cG (aE E) a.toNat c.toNat t.toNat).take (min a.toNat t.toNat)=(aE E).take (min a.toNat t.toNat):=by
  have r1:(aV (aE E) a.toNat c.toNat).take (min a.toNat t.toNat)=(aE E).take (min a.toNat t.toNat):=by rw[aV,VI oO,WL,WE oM]
  rw[cG,VN,VI (by rw[Xg,mC oM];omega),WL,WE oM,r1]
 refine⟨rfl,⟨_,fun y m=>.inl (hW y m),f⟩,K,_,_,vK,bg,B',bm,S',bl,pm,_,s2,sk,e3,?_,?_,WrW hW hB hS (.inl rfl) (.inl rfl)⟩;rw[<-Z];refine sR (mc:=mc) (L:=aE E) (D:=[]) ix o.n (by rw[Z];exact lv.n) (by rw[Z,kr];exact tk) (fun k=>by simp) iS (fun k m=>.inr ?_);rw[Z,kr];generalize min a.toNat t.toNat=p at tk m|-;have n1:(cG (aE E) a.toNat c.toNat t.toNat).Nodup:=pk.nodup_iff.2 o.n;have:k∈cG (aE E) a.toNat c.toNat t.toNat:=pk.symm.subset (VU m);rw[<-VA p (cG _ _ _ _)]at this;obtain q|q:=Vc.1 this;rw[tk]at q;have:=o.n;rw[<-VA p (aE E),Xq]at this;exact absurd rfl (this.2.2 k q k m);exact q;refine VC (Dx (A:=[]) ix fun x m=>?_) oO;exact kx▸VK.2 ⟨x,(dN X a.toNat c.toNat t.toNat).subset (VU m),rfl⟩
theorem Gx(w:WF h)(s:SW n0 W C Ks h b E)(o:LV Ks E)(r:RK Ks)(ha:-9223372036854775808<=a/\a<9223372036854775808)(hl:E.length+Y.length<=1000)
 (sv:∀(Z:List Nat)(h':b_),(∀z∈Z,W z\/h.i<=z)->Fr Z h h'->C_ e_.s 4 h' v Y/\∀y∈Y,q_ h' y) (ones:aw [k0,ZZ a,c0,t0,v]=true):
 av go 49 [.u b 0,.B [k0,ZZ a,c0,t0,v]] h fun u h'=>u=ZZ (Zx Ks a E Y)/\WZ W h h'/\SW n0 (fun z=>W z\/h.i<=z) C Ks h' b (if Zx Ks a E Y=0 then E.take a.toNat++aQ Ks Y++E.drop (a.toNat+Y.length)else E):=by
 let⟨K,X,st,vK,bg,B,bm,S,bl,pm,mc,s,sk,ev,ix,ae,hW⟩:=s;have kx:=Ax ev;have lx:X.length=E.length:=by have:=congrArg List.length ev;simpa using this
 have ab:U3 K 12=true:=by rw[<-jZ sk];exact r.1
 have base:Y.map (aF K)=Y.map (aF Ks):=Xt fun y _=>(hU sk y).1;have ac:X.map e_.A=(E.map d_.x).map e_.A:=by rw[kx,VW];rfl
 have cR:¬(a<0\/(E.length:Int)<a\/(E.length:Int)-a<Y.length)->bU Ks 12 (E.map d_.x) a.toNat Y=0->Zj (E.map d_.b) a.toNat (Y.map (aF K)) 2 (E.map d_.b) (E.map d_.kn)=(0,(E.map d_.b).take a.toNat++Y.map (aF Ks)++(E.map d_.b).drop (a.toNat+Y.length),(E.map d_.kn).take a.toNat++List.replicate Y.length false++(E.map d_.kn).drop (a.toNat+Y.length)):=by intro d z;have:=KH (old:=E.map d_.b) (M:=Y.map (aF Ks)) (l:=E.map d_.b) (kn:=E.map d_.kn) (a:=a.toNat) (o.d r) (fun x m=>?_) oO oO iS;grind;obtain⟨y,ym,rfl⟩:=VK.1 m;have:=((qe z).1 y ym).1;rw[r.2.1]at this;exact r.d this
 have er:rg K 12 a X Y (E.map d_.b) (E.map d_.kn)=Zx Ks a E Y:=by unfold rg Zx;rw[lx];by_cases d:a<0\/(E.length:Int)<a\/(E.length:Int)-a<Y.length;omega;rw[if_neg d,if_neg d,xw sk ac];by_cases z:bU Ks 12 (E.map d_.x) a.toNat Y=0;grind;rw[if_pos z]
 apply Xk (Fw (Y:=Y) w s ha ab oM (fun Z h' hZ f=>sv Z h' (fun z m=>(hZ z m).imp (hW z) id) f) (fun _ _=>rfl) oM ones);rintro u h' ⟨rfl,r1,r2⟩;rw[er]at r1 r2|-;by_cases z:Zx Ks a E Y=0;let⟨a1,a2,f2,Y',cp,s2⟩:=r2 z;have kc:=DC z;have z':=z;unfold Zx at z';split at z';cases z';rename_i d;rw[cR d z']at s2;rw[if_pos z];have e1:(E.take a.toNat++aQ Ks Y++E.drop (a.toNat+Y.length)).map d_.b=(E.map d_.b).take a.toNat++Y.map (aF Ks)++(E.map d_.b).drop (a.toNat+Y.length):=by rw[<-yQ];simp
 have e2:(E.take a.toNat++aQ Ks Y++E.drop (a.toNat+Y.length)).map d_.kn=(E.map d_.kn).take a.toNat++List.replicate Y.length false++(E.map d_.kn).drop (a.toNat+Y.length):=by rw[<-yP (Ks:=Ks)];simp
 have e3:(X.take a.toNat++Y'++X.drop (a.toNat+Y.length)).map e_.Y=(E.take a.toNat++aQ Ks Y++E.drop (a.toNat+Y.length)).map fun e=>e.x.Y:=by rw[VF,VF,VF,VF,cp.aV,yO,Wf,VZ,Wf,VZ,ev]
 simp only[]at s2;rw[<-e1,<-e2]at s2;refine⟨rfl,⟨_,fun y m=>.inl (hW y ?_),f2⟩,K,_,_,vK,bg,B,bm,S,bl,pm,_,s2,sk,e3,by rw[kc];exact ix,ae,fun y m=>.inl (hW y m)⟩;obtain q|q:=Vo.1 m;simp[Wr,q];exact yB y q;let⟨f,bl',aj,hb,af,s2⟩:=r1 z;rw[if_neg z];refine⟨rfl,⟨_,fun y m=>.inl (hW y ?_),f⟩,K,X,st,vK,bg,B,bm,S,bl',aj,mc,s2,sk,ev,ix,ae,WrW hW (.inl rfl) (.inl rfl) hb af⟩;obtain q|q:=Vo.1 m;simp[Wr,q];exact yB y q
theorem Gt(w:WF h)(s:SW n0 W C Ks h b E)(r:RK Ks)(hl:Y.length<=1000)(hC:0<=C)
 (sv:C_ e_.s 4 h v Y/\∀y∈Y,q_ h y) (ones:aw [k0,a0,c0,t0,v]=true):
 av go 50 [.u b 0,.B [k0,a0,c0,t0,v]] h fun u h'=>u=ZZ (dZ Ks 12 (fun _=>false) [] Y)/\WZ W h h'/\SW n0 (fun z=>W z\/h.i<=z) (C+Y.length) Ks h' b (if dZ Ks 12 (fun _=>false) [] Y=0 then aQ Ks Y else E):=by
 have s0:=s;let⟨K,X,st,vK,bg,B,bm,S,bl,pm,mc,s,sk,ev,ix,ak,hW⟩:=s;have ab:U3 K 12=true:=by rw[<-jZ sk];exact r.1
 have base:Y.map (aF K)=Y.map (aF Ks):=Xt fun y _=>(hU sk y).1;have er:Ez K 12 Y=dZ Ks 12 (fun _=>false) [] Y:=by unfold Ez;rw[if_neg oM,qT sk (fun _=>rfl)];by_cases z:dZ Ks 12 (fun _=>false) [] Y=0;rw[if_neg iX,z,base];refine wa (fun x m=>?_) oO;obtain⟨y,ym,rfl⟩:=VK.1 m;have:=((iC z).1 y ym).1;rw[r.2.1]at this;exact r.d this;rw[if_pos z]
 apply Xk (GO (Y:=Y) w s ab sv.1 (fun y m=>⟨sv.2 y m,rfl⟩) oM ones);rintro u h' ⟨rfl,r1,r2⟩;rw[er]at r1 r2|-;by_cases z:dZ Ks 12 (fun _=>false) [] Y=0;let⟨f,K',Y',af,ac,B',Z,S',bl',ae,aj,cp,s2,wn⟩:=r2 z;rw[if_pos z];have nd:=(iC z).2;have e3:Y'.map e_.Y=(aQ Ks Y).map fun e=>e.x.Y:=by rw[cp.aV,yO]
 have k3:=Ax e3;rw[base,<-yQ,<-yP (Ks:=Ks)]at s2;refine⟨rfl,⟨_,fun y m=>.inl (hW y (by simp at m;simp[Wr,m])),f⟩,K',Y',_,af,ac,B',Z,S',bl',ae,_,s2,pC sk aj,e3,?_,?_,fun y m=>?_⟩;rw[<-k3];exact sR (mc:=(fun _=>none,0)) (L:=[]) (a:=0) (D:=[]) (fun k j=>by simp) List.nodup_nil (by rw[k3,sT];exact nd) rfl (fun k=>by simp) iS iS;have:=tY Y' (fun _=>none,0) 0;have:=cp.A_;simp only[]at *;omega;have m':y=b\/y∈[ac,B',Z,S',bl']++ae.toList:=by simp only[Wr,Vc,Vo,VD,or_false]at m|-;obtain(m|m)|m:=m;exact .inl m;exact .inr (.inl m);exact .inr (.inr m)
 obtain e|e:=m';exact .inl (hW y (by simp[Wr,e]));exact .inr (wn y e);rw[if_neg z];exact⟨rfl,⟨[],iS,r1 z⟩,(s0.fr w (r1 z)).ag (fun y q=>.inl q) oM⟩
end
open Go.Ev.St
def P8(a:Int):Prop:=-9223372036854775808<=a/\a<=9223372036854775807
def SV(W:Nat->Prop)(h:b_)(v:V)(Y:List e_):Prop:=∀(Z:List Nat)(h':b_),(∀z∈Z,W z\/h.i<=z)->Fr Z h h'->C_ e_.s 4 h' v Y/\∀y∈Y,q_ h' y
theorem SV.ai{W:Nat->Prop}{h:b_}{v:V}{Y:List e_}(s:SV W h v Y)(w:WF h)(f:WZ W h h'):SV (fun z=>W z\/h.i<=z) h' v Y:=by let⟨Z0,ab,f⟩:=f;have n:=f.i;intro Z K hZ f2;refine s (Z0++Z) K (fun z m=>?_) (Vn f f2 w (fun x m=>.inl (Vc.2 (.inl m))) (fun x m=>.inl (Vc.2 (.inr m))));obtain m|m:=Vc.1 m;exact ab z m;grind
theorem SV.fr{W:Nat->Prop}{h:b_}{v:V}{Y:List e_}(s:SV W h v Y)(w:WF h)(f:Fr [] h h'):SV W h' v Y:=by have n:=f.i;intro Z h2 K f2;exact s Z h2 (fun z m=>(K z m).imp id fun q=>by omega) (Vn f f2 w iS (fun x m=>.inl m))
theorem WZ.bh{W:Nat->Prop}{h K:b_}(w:WF h)(f:Fr [] h K)(z:WZ W K h2):WZ W h h2:=by let⟨Z,hZ,g⟩:=z;have n:=f.i;exact⟨Z,fun z m=>(hZ z m).imp id fun q=>by omega,Vn f g w iS (fun x m=>.inl m)⟩
theorem Jz{W:Nat->Prop}{h:b_}{b:Nat}{n:ZQ}{v:V}(w:WF h)(s:SW n0 W C Ks h b E)(o:LV Ks E)(r:RK Ks)(hk:n.k<256)(ha:P8 n.a)(hc:P8 n.c)(ht:P8 n.t)(hl:E.length+n.Y.length<=1000)(hC:C+1024<=4096)
 (sv:SV W h v n.Y):av go 9 [.u b 0,.B [ZY (n.k:Int),ZZ n.a,ZZ n.c,ZZ n.t,v]] h fun u h'=>u=ZZ (Y5 Ks n E)/\WZ W h h'/\SW n0 (fun z=>W z\/h.i<=z) (C+n.Y.length) Ks h' b (ZI Ks n E):=by
 have sl:=(sv [] h iS (Vk w)).1;have ones:aw [ZY (n.k:Int),ZZ n.a,ZZ n.c,ZZ n.t,v]=true:=by simp only[aA,aD,Yu sl];rfl
 let⟨k,a,c,t,Y⟩:=n;have ae:E.length+Y.length<=1000:=hl;have ac:-9223372036854775808<=a/\a<9223372036854775808:=⟨ha.1,Int.lt_add_one_of_le ha.2⟩;have s0:=s;let⟨K,X,st,vK,bg,B,bm,S,bl,pm,mc,s,sk,ev,ix,af,hW⟩:=s;refine wx (k:=k) (n:=Y.length) w s hk sl (fun h' Z f=>?_) (fun Z h1 f1=>?_);have e:Y5 Ks ⟨k,a,c,t,Y⟩ E=dG k a c t Y.length:=by unfold Y5;rw[if_pos Z]
 have e2:ZI Ks ⟨k,a,c,t,Y⟩ E=E:=by unfold ZI;rw[e,if_neg Z]
 rw[e,e2];exact⟨rfl,⟨[],iS,f⟩,(s0.fr w f).ag (fun y q=>.inl q) oM⟩;have e:Y5 Ks ⟨k,a,c,t,Y⟩ E=h? Ks ⟨k,a,c,t,Y⟩ E:=by unfold Y5;rw[if_neg (fun q=>q Z)]
 have kk:k=1\/k=2\/k=3\/k=4\/k=5:=by unfold dG at Z;split at Z;cases Z;omega
 have n1:=f1.i;have up:∀{C':Nat}{b:Nat}{L:List d_}{h':b_},SW n0 (fun z=>W z\/h1.i<=z) C' Ks h' b L->C'<=C+Y.length->SW n0 (fun z=>W z\/h.i<=z) (C+Y.length) Ks h' b L:=fun s q=>s.ag (fun y z=>z.imp id fun z=>by omega) q;have s1:=s0.fr w f1;have ab:=sv.fr w f1;rw[ZI,e];obtain rfl|rfl|rfl|rfl|rfl:=kk;apply Xk (Gw f1.r s1 o r ac hl hC ab ones);rintro u h' ⟨rfl,z,q⟩;exact⟨rfl,z.bh w f1,up q (Ve _)⟩;apply Xk (Gu f1.r s1 o ha hc oM hC ones);rintro u h' ⟨rfl,z,q⟩;exact⟨rfl,z.bh w f1,up q oM⟩;apply Xk (Gv f1.r s1 o ha hc ht oM hC ones);rintro u h' ⟨rfl,z,q⟩;exact⟨rfl,z.bh w f1,up q oM⟩;apply Xk (Gx f1.r s1 o r ac hl ab ones);rintro u h' ⟨rfl,z,q⟩;exact⟨rfl,z.bh w f1,up q oM⟩;apply Xk (Gt f1.r s1 r oM oM (ab [] h1 iS (Vk f1.r)) ones);rintro u h' ⟨rfl,z,q⟩;exact⟨rfl,z.bh w f1,up q (Ve _)⟩
theorem H_.bw{D c b B S ab K bl':Nat}{h h3:b_}{l:List Int}{ac:Option Nat}{mc:cJ}{Z:List Nat}(w:WF h)(s:H_ n0 h b Ks cap X l kn st vK bg B bm S bl pm mc)
 (f:Fr Z h h2) (hZ:∀z∈Z,z∈Wr b bg B bm S bl pm\/h.i<=z) (sc:H_ n0 h2 c Ks cap X l kn st vK ab B' K S' bl' ac mc) (ge:∀y∈Wr c ab B' K S' bl' ac,h.i<=y\/y=D) (hD:D∉Wr b bg B bm S bl pm) (af:Lx n0 D)
 {c0:List V} (o0:f_ h2 b c0) (h5:c0.length=5) (g:Fr [b] h2 h3) (ob:f_ h3 b [vK,ZZ cap,.u ab 0,.u K 0,.u bl' 0]):H_ n0 h3 b Ks cap X l kn st vK ab B' K S' bl' ac mc:=by
 have lb:=s.ob.lt w;have bD:b≠D:=fun e=>hD (by simp[Wr,<-e]);have nb:∀y,y∈Wr c ab B' K S' bl' ac->b≠y:=fun y m=>by obtain q|q:=ge y m<;>omega
 have g1:=nb ab (by simp[Wr]);have g2:=nb B' (by simp[Wr]);have g3:=nb K (by simp[Wr]);have g4:=nb S' (by simp[Wr]);have g5:=nb bl' (by simp[Wr]);have g6:∀q,ac=some q->b≠q:=fun q e=>nb q (by simp[Wr,e]);have d:=sc.d;have n1:=f.i;have n2:=g.i;have n0l:=s.ax;have x:∀{y},b≠y->y∉[b]:=fun e m=>e (Vu.1 m).symm;refine⟨ob,sc.g.f g (x g1) (x g2),sc.gB.fr g (x g2),sc.k.ap g (x g3) (x g4),sc.gS.fr g (x g4),sc.lo.ap g (V5.D o0 oM (gM (n:=2) h5)) (x g5) (fun q e=>x (g6 q e)),sc.A_,?_,⟨g1,g2,g3,g4,g5,d.e,d.d,d.m,d.c,d.a,d.g,d.i,d.f,fun q e=>⟨(g6 q e).symm,(d.p q e).2⟩⟩,by have:=sc.aB;omega,fun q e=>by have:=sc.pl q e;omega,by have:=sc.au;omega,fun z q=>by have:=n0l z q;omega⟩;intro Z2 h4 ae f2;refine s.rd ((Z++[b])++Z2) h4 (fun z m=>?_) (Vn (Vn f g w (fun x m=>.inl (Vc.2 (.inl m))) (fun x m=>.inl (Vc.2 (.inr m)))) f2 w (fun x m=>.inl (Vc.2 (.inl m))) (fun x m=>.inl (Vc.2 (.inr m))));have bW:b∈Wr b bg B bm S bl pm:=by simp[Wr]
 obtain m|m:=Vc.1 m;obtain m|m:=Vc.1 m;exact(hZ z m).imp id .inl;rw[Vu.1 m];exact .inl bW;obtain q|q|q:=ae z m;have:z=b\/z∈Wr c ab B' K S' bl' ac:=by simp only[Wr,Vc,Vo,VD,or_false]at q|-;obtain(q|q)|q:=q;exact .inl q;exact .inr (.inl (.inr q));exact .inr (.inr q)
 obtain e|e:=this;exact .inl (e▸bW);obtain q|q:=ge z e;exact .inr (.inl q);exact .inr (.inr (q▸af));exact .inr (.inl oM);exact .inr (.inr q)
structure Nt where
 n:ZQ
 v:V
def Nt.s(x:Nt):List V:=[ZY (x.n.k:Int),ZZ x.n.a,ZZ x.n.c,ZZ x.n.t,x.v]
theorem yw(x:Nt):x.s.length=5:=rfl
def NV(W:Nat->Prop)(h:b_)(v:V)(L:List Nt):Prop:=(∀(Z:List Nat)(h':b_),(∀z∈Z,W z\/h.i<=z)->Fr Z h h'->C_ Nt.s 5 h' v L)/\∀x∈L,SV W h x.v x.n.Y/\x.n.k<256/\P8 x.n.a/\P8 x.n.c/\P8 x.n.t
theorem WZ.fr{W:Nat->Prop}{h:b_}(f:Fr [] h h'):WZ W h h':=⟨[],iS,f⟩
theorem WZ.P{W W':Nat->Prop}{h K:b_}(w:WF h)(a:WZ W h K)(b:WZ W' K h2)(i:∀y,W' y->W y\/h.i<=y):WZ W h h2:=by let⟨Z,hZ,f⟩:=a;let⟨Z',ab,f'⟩:=b;have n:=f.i;refine⟨Z++Z',fun z m=>?_,Vn f f' w (fun x m=>.inl (Vc.2 (.inl m))) (fun x m=>.inl (Vc.2 (.inr m)))⟩;obtain m|m:=Vc.1 m;exact hZ z m;grind
theorem SV.on{W W':Nat->Prop}{h:b_}{v:V}{Y:List e_}(s:SV W h v Y)(w:WF h)(f:WZ W h h')(i:∀y,W' y->W y\/h.i<=y):SV W' h' v Y:=by let⟨Z0,ab,f⟩:=f;have n:=f.i;intro Z K hZ f2;refine s (Z0++Z) K (fun z m=>?_) (Vn f f2 w (fun x m=>.inl (Vc.2 (.inl m))) (fun x m=>.inl (Vc.2 (.inr m))));obtain m|m:=Vc.1 m;exact ab z m;grind
theorem NV.on{W W':Nat->Prop}{h:b_}{v:V}{L:List Nt}(s:NV W h v L)(w:WF h)(f:WZ W h h')(i:∀y,W' y->W y\/h.i<=y):NV W' h' v L:=by refine⟨?_,fun x m=>⟨(s.2 x m).1.on w f i,(s.2 x m).2⟩⟩;let⟨Z0,ab,f⟩:=f;have n:=f.i;intro Z K hZ f2;refine s.1 (Z0++Z) K (fun z m=>?_) (Vn f f2 w (fun x m=>.inl (Vc.2 (.inl m))) (fun x m=>.inl (Vc.2 (.inr m))));obtain m|m:=Vc.1 m;exact ab z m;grind
def eY(L:List Nt):Nat:=(L.map fun x=>x.n.Y.length).sum
def ku(Ks:List w_):List Nt->Nat->List d_->Nat×Int×List d_
 |[],i,E=>(i,0,E)
 |x::r,i,E=>if Y5 Ks x.n E=0 then ku Ks r (i+1) (ZI Ks x.n E)else(i,Y5 Ks x.n E,E)
theorem DH(r:RK Ks):∀(L:List Nt)(i:Nat)(E:List d_),LV Ks E->LV Ks (ku Ks L i E).2.2/\(ku Ks L i E).2.2.length<=E.length+eY L/\(ku Ks L i E).1<=i+L.length
 |[],_,_,o=>⟨o,by simp[ku,eY],by simp[ku]⟩
 |x::L,i,E,o=>by simp only[ku];split;let⟨h1,h2,h3⟩:=DH r L (i+1) (ZI Ks x.n E) (Cw r o);have:=zy (Ks:=Ks) (n:=x.n) (E:=E);simp only[eY,VT,Xb,Vy]at h2|-;exact⟨h1,oM,oM⟩;grind
theorem Eo{x:Nt}{L:List Nt}:eY (x::L)=x.n.Y.length+eY L:=by simp[eY]
theorem wg{L:List Nt}{i:Nat}{x:Nt}(e:L[i]? =some x):eY (L.drop i)=x.n.Y.length+eY (L.drop (i+1)):=by rw[aN e,Eo]
theorem Jw{L:List Nt}(i:Nat):eY (L.drop i)<=eY L:=by
 have:eY L=eY (L.take i)+eY (L.drop i):=by unfold eY;rw[<-XF,<-VF,VA]
 omega
theorem Nt.O{W:Nat->Prop}{h:b_}{x:Nt}(w:WF h)(s:SV W h x.v x.n.Y):aw x.s=true:=by have:=Yu (s [] h iS (Vk w)).1;show aw [_,_,_,_,_]=true;simp only[aA,aD,this];rfl
def SWD(n0:NL)(D:Nat)(W:Nat->Prop)(C:Nat)(Ks:List w_)(h:b_)(b:Nat)(E:List d_):Prop:=∃K X st vK bg B bm S bl pm mc,H_ n0 h b K 12 X (E.map d_.b) (E.map d_.kn) st vK bg B bm S bl pm mc/\cK Ks K/\X.map e_.Y=E.map (fun e=>e.x.Y)/\g? mc.1 (aE E)/\mc.2<=C/\(∀y∈Wr b bg B bm S bl pm,W y)/\Lx n0 D/\D∉Wr b bg B bm S bl pm
def Zq(Ks:List w_)(L:List Nt)(E:List d_):Nat×Int×List d_:=if 32<L.length then(0,3,E)else if(ku Ks L 0 E).2.1=0 then ku Ks L 0 E else((ku Ks L 0 E).1,(ku Ks L 0 E).2.1,E)
theorem GB{W:Nat->Prop}{D:Nat}{h:b_}{b:Nat}{v:V}{L:List Nt}(w:WF h)(s:SWD n0 D W C Ks h b E)(o:LV Ks E)(r:RK Ks)(hl:E.length+eY L<=1000)(hL:L.length<=4096)(hC:C+eY L+1024<=4096)(nv:NV W h v L)(gD:P_ h D):
 av go 23 [.u b 0,v] h fun u h'=>u=.G [ZZ ((Zq Ks L E).1:Int),ZZ (Zq Ks L E).2.1]/\WZ W h h'/\SW n0 (fun z=>W z\/h.i<=z\/z=D) (C+eY L) Ks h' b (Zq Ks L E).2.2:=by
 let⟨K,X,st,vK,bg,B,bm,S,bl,pm,mc,s,sk,ev,ix,bc,hW,a9,ba⟩:=s;have s0:SW n0 (fun y=>y∈Wr b bg B bm S bl pm) C Ks h b E:=⟨K,X,st,vK,bg,B,bm,S,bl,pm,mc,s,sk,ev,ix,bc,fun y m=>m⟩;have lx:X.length=E.length:=by have:=congrArg List.length ev;simpa using this
 have v1:vK.O=true:=Wj (s.rd [] h iS (Vk w)).1;have nl:=(nv.1 [] h iS (Vk w)).A_;have up:∀{C' h' L'},SW n0 (fun y=>y∈Wr b bg B bm S bl pm\/h.i<=y) C' Ks h' b L'->C'<=C+eY L->SW n0 (fun z=>W z\/h.i<=z\/z=D) (C+eY L) Ks h' b L':=fun s q=>s.ag (fun y z=>z.imp (hW y) .inl) q;unfold Zq;by_cases ak:32<L.length;rw[if_pos ak];refine ai ?_;simp only[a_,↓reduceIte,Nat.reduceEqDiff];refine aa (jm s) ?_;rintro _ _ ⟨rfl,rfl⟩;simp only[a_,↓reduceIte,Nat.reduceEqDiff,nl,(oM:(32:Int)<L.length)];exact⟨rfl,WZ.fr (Vk w),s0.ag (fun y m=>.inl (hW y m)) oM⟩;rw[if_neg ak];refine ai ?_;simp[a_];refine aa (jm s) ?_;rintro _ _ ⟨rfl,rfl⟩;simp[a_,nl,(oM:¬(32:Int)<L.length)];apply aa (Ad w s v1 oM gD ba a9);rintro _ h1 ⟨F1,c,ae,B',ac,S',bl',ax,rfl,ge,a2,a0⟩;have n1:=F1.i;simp[a_,nl];refine aC (fun k env hh=>WZ (fun y=>y∈Wr b bg B bm S bl pm) h1 hh/\∃(i:Nat)(E':List d_),env.c_ 19=some (ZZ i)/\env.c_ 18=some (ZZ L.length)/\env.c_ 17=some v/\env.c_ 0=some (.u b 0)/\env.c_ 1=some v/\env.c_ 6=some (.u c 0)/\i<=L.length/\
  SW n0 (fun y=>y∈Wr b bg B bm S bl pm\/h1.i<=y) (C+eY L-eY (L.drop i)) Ks hh b E'/\LV Ks E'/\E'.length+eY (L.drop i)<=1000/\ku Ks (L.drop i) i E'=ku Ks L 0 E/\k=L.length-i) L.length oM ?_ ?_
 exact⟨WZ.fr (Vk F1.r),0,E,iS,iS,iS,iS,iS,iS,oM,(s0.fr w F1).ag (fun y m=>.inl m) iS,o,hl,rfl,rfl⟩;rintro k env hh ⟨F,i,E',af,ay,aH,g0,g1,g6,hi,sw,o',a1,em,rfl⟩;let⟨Zf,bo,Fz⟩:=id F;have nz:=Fz.i;have F0:WZ (fun y=>y∈Wr b bg B bm S bl pm) h hh:=WZ.bh w F1 F;have an:NV (fun y=>y∈Wr b bg B bm S bl pm\/h1.i<=y) hh v L:=nv.on (W':=fun y=>y∈Wr b bg B bm S bl pm\/h1.i<=y) w (by
  let⟨Z,hZ,f⟩:=F0;exact⟨Z,fun z m=>(hZ z m).imp (hW z) id,f⟩) (fun y q=>q.imp (hW y) fun q=>by omega)
 have rv:=an.1 [] hh iS (Vk Fz.r);by_cases ci:i<L.length;let⟨bi,oi,x,p1,_,p3,p4⟩:=rv.ix yw .i64 (i:Int) oM oM;rw[pi]at p4;let⟨sx,x1,x2,x3,x4⟩:=an.2 x (Vg p4);let⟨h3,a5,a4,a8⟩:=au Fz.r [ZY 0,ZZ 0,ZZ 0,ZZ 0,.j];have n3:=s_ a5;simp only[a_,↓reduceIte,Nat.reduceEqDiff,af,ay,aH,(oM:(i:Int)<L.length),p1,p3,<-a5];refine ao (c':=x.s) a4.r a8 rfl (Nt.O Fz.r sx) rfl ?_;rintro h4 o4 F4 n4;have ab:Fr [] hh h4:=a4.y F4 Fz.r (Ve _);have l5:aq h4 hh.i 0 5=some x.s:=by rw[o4.J];rfl
 have td:=wg p4;have tl:=Jw (L:=L) i;simp only[a_,↓reduceIte,Nat.reduceEqDiff,g0,l5];apply aa (Jz (n:=x.n) ab.r (sw.fr Fz.r ab) o' r x1 x2 x3 x4 oM oM (sx.fr Fz.r ab));rintro _ h5 ⟨rfl,F5,s5⟩;have a3:=ab.i;have aj:WZ (fun y=>y∈Wr b bg B bm S bl pm) h1 h5:=WZ.P F1.r F (WZ.bh Fz.r ab F5) (fun y q=>q);have ed:=aN p4;rw[ed]at em;simp[ku]at em;by_cases z:Y5 Ks x.n E'=0;rw[if_pos z]at em;have al:=zy (Ks:=Ks) (n:=x.n) (E:=E');simp(disch:=omega) only[a_,↓reduceIte,Nat.reduceEqDiff,ah,af,eq_true z];refine t_ ⟨L.length-(i+1),oM,aj,i+1,ZI Ks x.n E',iS,iX,iX,iX,iX,iX,oM,s5.ag (fun y q=>?_) oM,Cw r o',oM,em,rfl⟩;obtain q|q:=q;exact q;exact .inr oM;rw[if_neg z]at em;rw[<-em,if_neg z];let⟨Z5,a6,f5⟩:=aj;have sc:=a0 Z5 h5 a6 f5;have lc:aq h5 c 0 5=some [vK,ZZ 12,.u ae 0,.u ac 0,.u bl' 0]:=by rw[sc.ob.J];rfl
 let⟨K',X',bk,bh,bf,B2,bj,S2,bp,br,bn,a7,_⟩:=s5;simp only[a_,↓reduceIte,Nat.reduceEqDiff,g0,g6,eq_false z,lc];refine ao (c':=[vK,ZZ 12,.u ae 0,.u ac 0,.u bl' 0]) f5.r a7.ob rfl (by show aw [_,_,_,_,_]=true;simp only[aA,aD,v1];rfl) rfl ?_;rintro h6 o6 F6 n6;have ar:Fr Z5 h h5:=Vn F1 f5 w iS (fun x m=>.inl m);have bW:b∈Wr b bg B bm S bl pm:=by simp[Wr]
 have sr:=s.bw w ar (fun z m=>(a6 z m).imp id fun q=>by omega) sc ge ba a9 a7.ob rfl F6 o6;simp[a_];refine⟨⟨Z5++[b],fun z m=>?_,Vn ar F6 w (fun x m=>.inl (Vc.2 (.inl m))) (fun x m=>.inl (Vc.2 (.inr m)))⟩,K,X,st,vK,ae,B',ac,S',bl',ax,mc,sr,sk,ev,ix,oM,fun y m=>?_⟩;obtain m|m:=Vc.1 m;exact(a6 z m).imp (hW z) fun q=>by omega
 rw[Vu.1 m];exact .inl (hW _ bW);have:y=b\/y∈Wr c ae B' ac S' bl' ax:=by simp only[Wr,Vc,Vo,VD,or_false]at m|-;obtain(m|m)|m:=m;exact .inl m;exact .inr (.inl (.inr m));exact .inr (.inr m)
 obtain e|e:=this;exact .inl (e▸hW _ bW);exact .inr (ge y e);have e:i=L.length:=oM;subst e;rw[WV]at em;simp[ku]at em;rw[<-em];simp[a_,af,ay,g1,rv.A_];let⟨Z,hZ,f⟩:=F0;exact⟨⟨Z,fun z m=>(hZ z m).imp (hW z) id,f⟩,up (sw.ag (fun y q=>q.imp id fun q=>by omega) (Nat.sub_le _ _)) (Ve _)⟩
theorem jA{h:b_}{a c:Int}{n:Nat}(ha:P8 a)(hc:P8 c)(hn:n<=4096):av go 124 [ZZ a,ZZ c,ZZ (n:Int)] h fun u h'=>u=.h (decide (¬bS n a c))/\h=h':=by let⟨a0,a1⟩:=ha;let⟨b0,b1⟩:=hc;unfold bS;by_cases c1:0<=a;by_cases c2:a<=n;by_cases Z:0<=c;by_cases K:c<=(n:Int)-a;refine ai ?_;simp(disch:=omega) only[a_,seval,ah,c1,c2,Z,K];simp;omega;refine ai ?_;simp(disch:=omega) only[a_,seval,ah,c1,c2,Z,K];simp;omega;refine ai ?_;simp only[a_,seval,c1,c2,Z];simp;omega;refine ai ?_;simp only[a_,seval,c1,c2];simp;omega;refine ai ?_;simp only[a_,seval,c1];simp;omega
theorem zq{h:b_}{b N len n e bytes:Nat}{c xs:List V}{x:V}{K:V->b_->Prop}(w:WF h)(o:f_ h b c)(hc:c.length=N*e)(a:T5 h e x n xs)(h1:aw xs=true)(hl:len+n<=N)
 (k:∀h',f_ h' b (c.take (len*e)++xs++c.drop ((len+n) *e))->Fr [b] h h'->h'.i=h.i->K (.z b 0 (len+n) N) h'):OQ (jO h e bytes (.z b 0 len N) x) K:=by
 let⟨s1,s2,_⟩:=a.aT rfl;have hx:=a.1;unfold jO;rw[s1];simp only[];by_cases Z:n=0;subst Z;have:xs=[]:=VH.1 oM;subst this;rw[lV rfl,cond_true];exact(cU _ _ _).2 (k h (eV o) (Vk w) rfl);rw[fD Z,cond_false,s2];simp only[];rw[(Xu ..).mpr hl,cond_true];have hm:(len+n) *e<=N*e:=Wb _ hl;rw[Xs]at hm;let⟨h',e1,o1,f1,n1⟩:=ig w o h1 (bN c (0+len*e) xs oM);rw[e1];simp;rw[VR,hx,<-Xs]at o1;exact(cU _ _ _).2 (k h' o1 f1 n1)
theorem iI{h:b_}:∀{E:List d_},(∀e∈E,q_ h e.x)->aw (E.flatMap d_.s)=true
 |[],_=>rfl
 |e::E,a=>by rw[VM,aO,dF (a e iS),iI fun x m=>a x iX];rfl
theorem jC{h:b_}{vE vI:V}{A:List d_}{p q:Nat}(w:WF h)(re:o_ d_.s 6 h vE E)(ra:o_ d_.s 6 h vI A)(hv:vE≠.F)(oE:aw (E.flatMap d_.s)=true)(oA:aw (A.flatMap d_.s)=true)(hp:p+q<=E.length)(hE:E.length<=4096)(hA:A.length<=4096):
 av go 126 [vE,ZZ (p:Int),ZZ (q:Int),vI] h fun u h'=>u=.z h.i 0 (E.length-q+A.length) (E.length-q+A.length)/\f_ h' h.i ((E.take p++A++E.drop (p+q)).flatMap d_.s)/\Fr [] h h':=by
 let⟨u1,e1,s1⟩:=Sl.ba re oM hv .i64 (p:Int) oM oM;rw[pi,cZ aK]at s1;have ln:((E.length:Int)-q)+A.length=((E.length-q+A.length:Nat):Int):=oM;refine ai ?_;simp(disch:=omega) only[a_,seval,ah,re.M,ra.M,ln];refine(dy _ _ _ _ _ _ _ _ oM oM oM oM).2 ?_;simp only[pi,(iR:(0:Int).toNat=0)];generalize hN:E.length-q+A.length=N;let⟨h1,ae,F1,o1⟩:=au w (aW [ZX 0,ZY 0,.f [],.j,ZZ 0,.h false] N);rw[<-ae];have n1:=s_ ae;clear ae;simp only[a_,seval,e1];refine zq F1.r o1 (c9 _ _) (Sl.a (s1.fr F1)) (by rw[<-cZ aK];exact bQ _ oE) oM ?_;intro h2 o2 F2 n2;have K:Fr [] h h2:=Ww w F1 F2 iS;rw[VR,YO,XN,Wv]at o2;have l1:((E.take p).flatMap d_.s).length=p*6:=by rw[aG aK];simp;omega
 simp only[a_,seval];have ac:((E.take p).flatMap d_.s++(aW [ZX 0,ZY 0,.f [],.j,ZZ 0,.h false] N).drop (p*6)).length=N*6:=by rw[Vv,l1,Xv,c9];simp;omega
 apply zq F2.r o2 ac (Sl.a (Sl.fr ra K)) oA oM;intro h3 o3 F3 n3;have Z:Fr [] h h3:=Ww w K F3 iS;have l2:(A.flatMap d_.s).length=A.length*6:=aG aK _;have ab:((E.take p).flatMap d_.s++(aW [ZX 0,ZY 0,.f [],.j,ZZ 0,.h false] N).drop (p*6)).take (p*6)=(E.take p).flatMap d_.s:=List.take_left' l1;rw[ab]at o3;let⟨u3,e3,s3⟩:=Sl.aO (re.fr Z) oM hv .i64 ((p+q:Nat):Int) oM oM;rw[pi,bI aK]at s3;simp(disch:=omega) only[a_,seval,ah,(oM:(p:Int)+q=((p+q:Nat):Int)),e3];generalize hd:((E.take p).flatMap d_.s++(aW [ZX 0,ZY 0,.f [],.j,ZZ 0,.h false] N).drop (p*6)).drop ((p+A.length) *6)=R at o3;have hR:R.length=N*6-(p+A.length) *6:=by grind
 refine zq F3.r o3 (by rw[Vv,Vv,l1,l2,hR];omega) (Sl.a s3) (by rw[<-bI aK];exact bH _ oE) oM ?_;intro h4 o4 F4 n4;simp only[a_,seval];have lA:((E.take p).flatMap d_.s++A.flatMap d_.s).length=(p+A.length) *6:=by grind
 have hz:((E.take p).flatMap d_.s++A.flatMap d_.s++R).drop ((p+A.length+(E.length-(p+q))) *6)=[]:=Vq (by rw[Vv,lA,hR];omega);rw[List.take_left' lA,hz,Wk,<-Wx,<-Wx]at o4;exact⟨by rw[(oM:p+A.length+(E.length-(p+q))=N)],o4,Ww w Z F4 iS⟩
theorem HX{h:b_}{v:V}{Y:List e_}(w:WF h)(rk:o_ w_.s 9 h vK Ks)(ra:C_ e_.s 4 h v Y)(hY:∀y∈Y,q_ h y/\y.N<Ks.length)(hn:Y.length<=4096):
 av go 194 [.B [vK,ZZ 12],v] h fun u h'=>∃b,u=.z b 0 Y.length Y.length/\h.i<=b/\f_ h' b ((aQ Ks Y).flatMap d_.s)/\Fr [] h h':=by
 have v1:vK.O=true:=Wj rk;let⟨h1,ax,ak,aH⟩:=au w [vK,ZZ 12];have n1:=s_ ax;refine ai ?_;simp[a_,<-ax,(ra.fr ak).A_];refine(dy _ _ _ _ _ _ _ _ oM oM oM oM).2 ?_;simp;let⟨h2,an,F2,o2⟩:=au ak.r (aW [ZX 0,ZY 0,.f [],.j,ZZ 0,.h false] Y.length);rw[<-an];have n2:=s_ an;clear an;have af:=ak.c F2;simp[a_,(ra.fr ak).A_];refine aC (fun n env K=>Fr [h1.i] h2 K/\∃i:Nat,env.c_ 13=some (ZZ i)/\env.c_ 12=some (ZZ Y.length)/\env.c_ 11=some v/\env.c_ 5=some (.z h1.i 0 Y.length Y.length)/\env.c_ 2=some (.u h.i 0)/\
  i<=Y.length/\f_ K h1.i ((aQ Ks (Y.take i)).flatMap d_.s++aW E0 (Y.length-i))/\n=Y.length-i) Y.length oM ?_ ?_
 exact⟨Vk F2.r,0,iS,iS,iS,iS,iS,oM,o2,rfl⟩;rintro n env K ⟨F,i,ab,ac,ae,g5,g2,hi,oo,rfl⟩;have F0:Fr [] h K:=Ww w af F oO;have nF:=F.i;by_cases c:i<Y.length;let⟨bi,oi,y,p1,_,p3,p4⟩:=(ra.fr F0).ix aT .i64 (i:Int) oM oM;rw[pi]at p4;let⟨ay,ty⟩:=hY y (Vg p4);have ay:=ay.fr F0;let⟨h3,a1,ar,a0⟩:=au F.r [ZX 0,ZY 0,.f [],.j];simp[a_,ab,ac,ae,(oM:(i:Int)<Y.length),p1,p3,<-a1];refine ao (c':=y.s) ar.r a0 rfl ay.O rfl ?_;rintro h4 o4 F4 n4;have Z:Fr [] K h4:=ar.y F4 F.r (Ve _);have aj:=F0.c Z;have y4:aq h4 K.i 0 4=some y.s:=by rw[o4.J];rfl
 have y1:ag h4 K.i 1=some (ZY (y.N:Int)):=o4.o 1;have k0:ag h4 h.i 0=some vK:=(Z.c_ (F.D _ _ oO (F2.c_ aH))).o 0;let⟨bk,ok',q,q1,q2,q3,q4⟩:=Yj fg (VJ rk aj) .u8 (y.N:Int) oM oM;rw[pi]at q4;have q6:ag h4 bk (ok'+6)=some (ZZ q.W):=q2 6 oM;have eb:aF Ks y=q.W:=by simp[aF,q4]
 have px:aP (.c 6) [.z h1.i 0 Y.length Y.length,ZZ (i:Int)]=some (.u h1.i (i*6)):=by rw[eM _ _ _ _ _ _ _ oM oM];simp
 have u1:bq [ZX 0,ZY 0,.f [],.j,ZZ 0,.h false] 0 y.s=some (y.s++[ZZ 0,.h false]):=rfl;have u2:∀b:Int,bq (y.s++[ZZ 0,.h false]) 4 [ZZ b]=some (d_.s ⟨y,b,false⟩):=fun _=>rfl;have yl:y.s.length=4:=rfl;simp[a_,g_,g5,g2,y4,y1,k0,q1,q6,px,u1,u2,yl];refine ao (v:=.B (d_.s ⟨y,q.W,false⟩)) Z.r (Z.c_ oo) rfl (dF (ay.fr Z)) (AN (by simp[aQ];omega) c) ?_;rintro h5 o5 F5 n5;simp(disch:=omega)[a_,DF,ah,ab,y4,y1,k0,q6];have et:aQ Ks (Y.take (i+1))=aQ Ks (Y.take i)++[⟨y,q.W,false⟩]:=by rw[aQ,aQ,Vs,p4,VF,<-eb];rfl
 refine t_ ⟨Y.length-(i+1),oM,Vn (Vn F Z F2.r (fun x m=>.inl m) iS) F5 F2.r (fun x m=>.inl m) (fun x m=>.inl m),i+1,iS,iX,iX,iX,iX,oM,by rw[et];exact o5,rfl⟩;have e:i=Y.length:=oM;subst e;simp only[a_,seval,ab,ac,g5,(oM:¬(Y.length:Int)<Y.length)];have z0:aW E0 (Y.length-Y.length)=[]:=by rw[WP];rfl
 rw[z0,Wk,Vm (Ve _)]at oo;exact⟨h1.i,rfl,oM,oo,F0⟩
theorem Bb{h:b_}{b n e:Nat}{c xs:List V}{x:V}{K:V->b_->Prop}(w:WF h)(o:f_ h b c)(hc:c.length=n*e)(a:T5 h e x n xs)(h1:aw xs=true)
 (k:∀h',f_ h' b xs->Fr [b] h h'->h'.i=h.i->K (ZZ (n:Int)) h'):OQ (nR h e (.z b 0 n n) x) K:=by
 let⟨s1,s2,_⟩:=a.aT rfl;have hx:=a.1;unfold nR OQ;have hd:iK (.z b 0 n n)=some n:=rfl;simp[hd,s1];by_cases Z:n=0;subst Z;have:xs=[]:=VH.1 oM;have:c=[]:=VH.1 oM;subst xs c;exact⟨_,_,rfl,k h o (Vk w) rfl⟩;rw[fD Z];let⟨h',e1,o1,f1,n1⟩:=ig w o h1 (bN c 0 xs oM);refine⟨_,h',?_,k h' ?_ f1 n1⟩;grind;grind
theorem Ho:∀L:List i_,aw (L.flatMap sS)=true
 |[]=>rfl
 |s::L=>by rw[VM,aO,Ho L];rfl
theorem H7{h:b_}{v:V}{L:List i_}(w:WF h)(a:C_ sS 1 h v L)(hn:L.length<=4096):av go 275 [v] h fun u h'=>T8 h.i h' u L/\Fr [] h h':=by by_cases c:L.length=0;refine ai ?_;simp only[a_,seval,a.A_,eq_true (oM:(L.length:Int)=0)];exact⟨.inl ⟨VH.1 c,.inl rfl⟩,Vk w⟩;refine ai ?_;simp only[a_,seval,a.A_,eq_false (oM:¬(L.length:Int)=0)];refine(dy _ _ _ _ _ _ _ _ oM oM oM oM).2 ?_;simp;let⟨h1,ab,Z,o1⟩:=au w (aW [.f []] L.length);rw[<-ab];clear ab;simp[a_];apply Bb Z.r o1 (c9 _ _) (a.fr Z) (Ho L);intro h2 o2 K n2;simp[a_];exact⟨.inr ⟨h.i,rfl,Ve _,o2⟩,Ww w Z K iS⟩
theorem EZ{h:b_}{b:Nat}{x:e_}(w:WF h)(o:f_ h b x.s)(a:q_ h x):av go 274 [.z b 0 1 1] h fun u h'=>u=.z h.i 0 1 1/\f_ h' h.i x.s/\Fr [] h h':=by refine ai ?_;simp only[a_,↓reduceIte,Nat.reduceEqDiff];refine(dy _ _ _ _ _ _ _ _ oM oM oM dI).2 ?_;let⟨h1,ab,F1,o1⟩:=au w (aW Z4 1);rw[(iR:((1:Nat):Int).toNat=1),<-ab];clear ab;simp only[a_,↓reduceIte,Nat.reduceEqDiff];apply Bb F1.r o1 rfl (Sl.a (Wy (F1.c_ o) rfl)) a.O;intro K o2 Z n2;simp[a_];exact⟨o2,Ww w F1 Z iS⟩
theorem Ij{h:b_}{b:Nat}{x:e_}(w:WF h)(o:f_ h b x.s)(a:q_ h x):av go 244 [.z b 0 1 1] h fun u h'=>∃b' v,u=.z b' 0 1 1/\h.i<=b'/\f_ h' b' (x.D v).s/\T8 h.i h' v x.E/\Fr [] h h':=by refine ai ?_;simp only[a_,seval];refine aa (EZ w o a) ?_;rintro _ h1 ⟨rfl,o1,Z⟩;have ac:=o1.lt Z.r;simp only[a_,seval];refine aC (fun k env K=>∃v,Fr [h.i] h1 K/\env.c_ 8=some (ZZ 1)/\env.c_ 3=some (.z h.i 0 1 1)/\((env.c_ 9=some (ZZ 0)/\k=1/\K=h1)\/(env.c_ 9=some (ZZ 1)/\k=0/\f_ K h.i (x.D v).s/\T8 h.i K v x.E))) 1 oM ?_ ?_;exact⟨.j,Vk Z.r,iS,iS,.inl ⟨iS,rfl,rfl⟩⟩;rintro k env K ⟨v,F,g8,g3,⟨g9,rfl,rfl⟩|⟨g9,rfl,ow,cp⟩⟩;have px:aP (.c 4) [.z h.i 0 1 1,ZZ 0]=some (.u h.i 0):=rfl;have l3:ag K h.i 3=some x.vm:=o1.o 3;simp only[a_,seval,g8,g3,g9,px,l3];apply aa (H7 Z.r (a.m.fr Z) a.n);rintro v' h2 ⟨cp,F2⟩;simp only[a_,seval,g3,px];have n1:=Z.i;have c1:=cp.O;refine ao (c':=(x.D v').s) F2.r (F2.c_ o1) (by rw[az c1];rfl) (by rw[az c1];simp only[aA,aD,c1];rfl) (by rw[az c1];rfl) ?_;rintro h3 o3 F3 n3;simp only[a_,seval,ah,g9];have n2:=F2.i;have ab:=cp.fr F3 oO;refine t_ ⟨0,oM,v',Vn F2 F3 Z.r iS (fun x m=>.inl m),iX,iX,.inr ⟨iS,rfl,o3,ab.le oM⟩⟩;simp only[a_,seval,g8,g3,g9];exact⟨h.i,v,rfl,Ve _,ow,cp,Ww w Z F iS⟩
theorem Mx{h:b_}{v:V}(w:WF h)(re:o_ d_.s 6 h v E)(hE:∀e∈E,q_ h e.x)(hn:E.length<=4096):
 av go 193 [v] h fun u h'=>Fr [] h h'/\∃v' Z,u=.B [v']/\X5 h.i h' v' Z/\Z.map d_.Y=E.map d_.Y/\∀z∈Z,q_ h' z.x:=by
 let⟨h1,a9,a7,bg⟩:=au w [.j];have n1:=s_ a9;by_cases c0:E.length=0;refine ai ?_;simp only[a_,seval,<-a9,re.M,eq_true (oM:(E.length:Int)=0)];refine ao (o:=0) (v:=.B [.j]) (c':=[.j]) a7.r bg rfl rfl rfl ?_;rintro h2 o2 F2 n2;have l2:aq h2 h.i 0 1=some [.j]:=by rw[o2.J];rfl
 simp only[a_,seval,l2];have:E=[]:=VH.1 c0;subst this;exact⟨a7.y F2 w (Ve _),.j,[],rfl,.inl ⟨rfl,rfl⟩,rfl,iS⟩;refine ai ?_;simp only[a_,seval,<-a9,re.M,eq_false (oM:¬(E.length:Int)=0)];refine(dy _ _ _ _ _ _ _ _ oM oM oM oM).2 ?_;simp only[pi];let⟨h2,ba,F2,o2⟩:=au a7.r (aW [ZX 0,ZY 0,.f [],.j,ZZ 0,.h false] E.length);rw[<-ba];have n2:=s_ ba;clear ba;have aH:=a7.c F2;simp only[a_,seval,re.M];refine aC (fun k env hh=>Fr [h1.i] h2 hh/\∃(i:Nat)(Z:List d_),env.c_ 15=some (ZZ i)/\env.c_ 14=some (ZZ E.length)/\env.c_ 13=some v/\env.c_ 3=some (.z h1.i 0 E.length E.length)/\env.c_ 2=some (.u h.i 0)/\i<=E.length/\Z.length=i/\
  f_ hh h1.i (Z.flatMap d_.s++aW E0 (E.length-i))/\Z.map d_.Y=(E.take i).map d_.Y/\(∀z∈Z,T8 h2.i hh z.x.vm z.x.E/\∀H,T8 h2.i H z.x.vm z.x.E->q_ H z.x)/\k=E.length-i) E.length oM ?_ ?_
 exact⟨Vk F2.r,0,[],iS,iS,iS,iS,iS,oM,rfl,o2,rfl,iS,rfl⟩;rintro k env hh ⟨F,i,Z,aj,ak,a3,g3,g2,hi,zl,oo,zv,zi,rfl⟩;have nF:=F.i;have ac:Fr [] h hh:=Ww w aH F oO;have ar:f_ hh h.i [.j]:=F.D _ _ oO (F2.c_ bg);by_cases c:i<E.length;let⟨bi,oi,e,p1,_,p3,p4⟩:=(re.fr ac).ix aK .i64 (i:Int) oM oM;rw[pi]at p4;have em:=Vg p4;have ae:=(hE e em).fr ac;let⟨ha,bf,bc,bk⟩:=au F.r [ZX 0,ZY 0,.f [],.j,ZZ 0,.h false];have na:=s_ bf;simp only[a_,seval,aj,ak,a3,(oM:(i:Int)<E.length),p1,p3,<-bf];refine ao (c':=e.s) bc.r bk rfl (dF ae) rfl ?_;rintro hb ob Fb nb;have af:Fr [] hh hb:=bc.y Fb F.r (Ve _);have b4:aq hb hh.i 0 4=some e.x.s:=by rw[ob.J];rfl
 have ax:=ae.fr af;have u1:bq [ZX 0,ZY 0,.f [],.j] 0 e.x.s=some e.x.s:=rfl;let⟨hc,bh,a8,bj⟩:=au Fb.r e.x.s;have nc:=s_ bh;simp only[a_,seval,b4,u1,(iR:e.x.s.length=4),<-bh];apply aa (Ij a8.r bj (ax.fr a8));rintro _ hd ⟨b',K,rfl,a4,od,cp,Fd⟩;have px:aP (.c 4) [.z b' 0 1 1,ZZ 0]=some (.u b' 0):=rfl;have a0:aq hd b' 0 4=some (e.x.D K).s:=by rw[od.J];rfl
 have v1:=cp.O;have an:=a8.c Fd;have nd:=Fd.i;have on:aw (e.x.D K).s=true:=by rw[fW];simp only[aA,aD,v1];rfl
 have yl:(e.x.D K).s.length=4:=rfl;have up:bq e.s 0 (e.x.D K).s=some (d_.s ⟨e.x.D K,e.b,e.kn⟩):=rfl;simp only[a_,seval,px,a0];apply ao (v:=.B (e.x.D K).s) (c':=d_.s ⟨e.x.D K,e.b,e.kn⟩) Fd.r (an.c_ ob) yl on up;rintro he oe Fe ne;have l6:aq he hh.i 0 6=some (d_.s ⟨e.x.D K,e.b,e.kn⟩):=by rw[oe.J];rfl
 have py:aP (.c 6) [.z h1.i 0 E.length E.length,ZZ (i:Int)]=some (.u h1.i (i*6)):=by rw[eM _ _ _ _ _ _ _ oM oM];simp
 have ab:Fr [] hh he:=(af.c an).y Fe F.r (Ve _);have one:aw (d_.s ⟨e.x.D K,e.b,e.kn⟩)=true:=by show aw [ZX (e.x.A:Int),ZY (e.x.N:Int),.f e.x.U,K,ZZ _,.h _]=true;simp only[aA,aD,v1];rfl
 simp only[a_,seval,g3,l6,py];apply ao (v:=.B (d_.s ⟨e.x.D K,e.b,e.kn⟩)) Fe.r (ab.c_ oo) rfl one (AN zl c);rintro hf ay Ff nf;have a6:=ab.i;have a5:=af.i;have FN:Fr [h1.i] h2 hf:=Vn (Vn (T:=[h1.i]) F ab F2.r (fun x m=>.inl m) iS) Ff F2.r (fun x m=>.inl m) (fun x m=>.inl m);have a1:∀z∈Z++[(⟨e.x.D K,e.b,e.kn⟩:d_)],T8 h2.i hf z.x.vm z.x.E/\∀H,T8 h2.i H z.x.vm z.x.E->q_ H z.x:=by intro z m;obtain m|m:=Vc.1 m;let⟨c1,c2⟩:=zi z m;exact⟨(c1.fr ab iS).fr Ff oO,c2⟩;rw[Vu.1 m];exact⟨((cp.fr Fe oO).le (M:=h2.i) oM).fr Ff oO,fun H c=>⟨ae.k,ae.t,Sl.a c.rs,ae.n,ae.l⟩⟩
 simp(disch:=omega) only[a_,seval,ah,aj];refine t_ ⟨E.length-(i+1),oM,FN,i+1,Z++[⟨e.x.D K,e.b,e.kn⟩],iS,iX,iX,iX,iX,oM,by simp[zl],ay,?_,a1,rfl⟩;rw[Vs,p4,VF,VF,zv];rfl;have e:i=E.length:=oM;subst e;rw[Vm oM]at zv;have z0:aW E0 (E.length-E.length)=[]:=by rw[WP];rfl
 rw[z0,Wk]at oo;simp only[a_,seval,aj,ak,g3,g2,(oM:¬(E.length:Int)<E.length)];apply ao (o:=0) (v:=.B [.z h1.i 0 E.length E.length]) (c':=[.z h1.i 0 E.length E.length]) F.r ar rfl rfl rfl;rintro hz oz Fz nz;have lz:aq hz h.i 0 1=some [.z h1.i 0 E.length E.length]:=by rw[oz.J];rfl
 simp only[a_,seval,lz,g2];have a2:=Fz.D _ _ oO oo;have cz:∀z∈Z,T8 h2.i hz z.x.vm z.x.E:=fun z m=>(zi z m).1.fr Fz oO;exact⟨ac.y Fz w (Ve _),_,Z,rfl,.inr ⟨h1.i,by rw[zl],oM,a2,fun z m=>(cz z m).le oM⟩,zv,fun z m=>(zi z m).2 hz (cz z m)⟩
def W9(Ks:List w_)(KE:Nat->e_->Int):Nat->List e_->Int
 |_,[]=>0
 |i,y::r=>if P0 y Ks.length=false then 6 else if KE i y≠0 then KE i y else if bP Ks 12 y≠0 then bP Ks 12 y else W9 Ks KE (i+1) r
structure DB(h0:b_)(Ks:List w_)(vK vE:V)(E:List d_):Prop where
 w:WF h0
 e:o_ w_.s 9 h0 vK Ks
 f:∀q∈Ks,Q4 h0 q
 d:o_ d_.s 6 h0 vE E
 o:X4 Ks h0 E
theorem FrB.d{m q:Nat}{h hx hz:b_}(w:WF h)(a:Q6 [] m h hx)(b:Fr [q] hx hz)(hq:h.i<=q):Q6 [] m h hz:=
 ⟨VC a.g b.i,b.r,fun x c _ o=>b.D x c (fun e=>by have:=o.lt w;have:=Vu.1 e;omega) (a.d x c iS o),fun x c _ o=>b.pl x c (fun e=>by have:=o.a.lt w;have:=Vu.1 e;omega) (a.j x c iS o),
  fun x k hx' hk e=>b.lp x k hk (a.i x k hx' hk e),fun x c r=>b.ro x c (a.l x c r)⟩
theorem Dc{KE:Nat->e_->Int}:∀{Y:List e_}{i:Nat},W9 Ks KE i Y=0->∀{y},y∈Y->y.N<Ks.length
 |y::Y,i,h,z,m=>by
  simp only[W9]at h;split at h;cases h;rename_i d1;obtain rfl|m:=Vo.1 m;have d1:P0 z Ks.length=true:=by cases q:P0 z Ks.length;exact absurd q d1;rfl
  simp only[P0,Vd,decide_eq_true_eq]at d1;exact d1.2.1;split at h;omega;split at h;omega;exact Dc h m
 |[],_,_,_,m=>by simp at m
theorem X5.ai{N:Nat}{h:b_}{v:V}{S:List Nat}(a:X5 N h v Z)(f:Fr S h h')(l:∀y∈S,y<N):X5 N h' v Z:=by obtain e|⟨b,e,K,o,c⟩:=a;exact .inl e;exact .inr ⟨b,e,K,f.D _ _ (fun m=>by have:=l b m;omega) o,fun z m=>(c z m).fr f fun y q=>by have:=l y q;omega⟩
theorem X5.le{N M:Nat}{h:b_}{v:V}(a:X5 N h v Z)(l:M<=N):X5 M h v Z:=by obtain e|⟨b,e,K,o,c⟩:=a;exact .inl e;exact .inr ⟨b,e,VC l K,o,c⟩
theorem X5.aw{N:Nat}{h h9:b_}{v:V}(a:X5 N h v Z)(i:∀z∈Z,q_ h9 z.x):∀z∈Z,q_ h z.x:=by intro z m;obtain⟨e,_⟩|⟨b,e,hb,o,c⟩:=a;grind;have K:=i z m;exact⟨K.k,K.t,Sl.a (c z m).rs,K.n,K.l⟩
theorem A8{h0 h:b_}{vE vI fk fm:V}{E':List d_}{Y:List e_}{K:Bool}{cnt:Int}{m gk gm:Nat}{ck cm:List V}{KI:Nat->b_->Prop}{KE:Nat->e_->Int}(d:DB h0 Ks vK vE E)(f0:Fr [] h0 h)(hm:h0.i<=m)
 (ra:C_ e_.s 4 h0 vI Y) (hY:∀y∈Y,q_ h0 y) (bC:Y.length<=4096) (hc:0<=cnt/\cnt<=1024)
 (ek:Y≠[]->fk=.I (.func gk) [] ck) (b7:fk.O=true) (em:fm=.I (.func gm) [] cm) (bk:gk<1099511627776) (bm:gm<1099511627776)
 (kf:∀i hh h',KI i hh->Fr [] hh h'->KI i h') (ki:KI 0 h)
 (hK:∀(i:Nat) y hh,K=true->Y[i]? =some y->KI i hh->Fr [] h0 hh->Q6 [] m h hh->P0 y Ks.length=true->av go gk (ZZ (i:Int)::.B y.s::ck) hh fun u h'=>u=ZZ (KE i y)/\Q6 [] m hh h'/\(KE i y=0->KI (i+1) h'))
 (hM:∀hh v,K=true->W9 Ks KE 0 Y=0->Fr [] h0 hh->Q6 [] m h hh->o_ d_.s 6 hh v (aQ Ks Y)->av go gm (v::cm) hh fun u h'=>o_ d_.s 6 h' u E'/\Fr [] hh h')
 (hE:K=true->W9 Ks KE 0 Y=0->LV Ks E'/\E'.length<=1000/\∀e∈E',e∈E\/e∈aQ Ks Y):
 av go 123 [.B [vK,ZZ 12],.B [vE],.B [.h K,ZZ cnt,vI,fk,fm]] h fun u h'=>Q6 [] m h h'/\∃v',u=.G [.B [v'],ZZ (if K=true then W9 Ks KE 0 Y else 4)]/\
  ((if K=true then W9 Ks KE 0 Y else 4)≠0->v'=.j)/\((if K=true then W9 Ks KE 0 Y else 4)=0->∃Z,X5 h.i h' v' Z/\Z.map d_.Y=E'.map d_.Y/\∀z∈Z,q_ h' z.x):=by
 have v1:vK.O=true:=Wj d.e;have v2:vE.O=true:=Wj d.d;have v3:vI.O=true:=Yu ra;have v5:fm.O=true:=by rw[em];rfl
 have w:=f0.r;have k3:=d.o.r.2.1;let⟨h1,ch,cn,cy⟩:=au w [vK,ZZ 12];let⟨h2,ce,cc,cu⟩:=au cn.r [vE];let⟨h3,cj,cb,cr⟩:=au cc.r [.h K,ZZ cnt,vI,fk,fm];let⟨h4,co,ca,ct⟩:=au cb.r [.j];have n1:=s_ ch;have n2:=s_ ce;have n3:=s_ cj;have n4:=s_ co;have F4:=cn.c (cc.c (cb.c ca));have ac:=f0.c F4;have oK:f_ h4 h.i [vK,ZZ 12]:=ca.c_ (cb.c_ (cc.c_ cy));have oE:f_ h4 h1.i [vE]:=ca.c_ (cb.c_ cu);have oN:f_ h4 h2.i [.h K,ZZ cnt,vI,fk,fm]:=ca.c_ cr;have c0:aq h4 h.i 0 2=some [vK,ZZ 12]:=by rw[oK.J];rfl
 have c1:aq h4 h1.i 0 1=some [vE]:=by rw[oE.J];rfl
 refine ai ?_;simp only[a_,↓reduceIte,Nat.reduceEqDiff,Nat.reduceAdd,<-ch,<-ce,<-cj,<-co,c0,c1];refine aa (qS F4.r (VJ d.e ac) (fun q m=>(d.f q m).fr ac) (d.d.fr ac) (d.o.f ac)) ?_;rintro _ h5 ⟨rfl,F5⟩;have ak:=F5.c_ oN;have x0:ag h5 h2.i 0=some (.h K):=ak.o 0;have x1:ag h5 h2.i 1=some (ZZ cnt):=ak.o 1;have x2:ag h5 h2.i 2=some vI:=ak.o 2;have a1:=F5.c_ ct;have af:=F4.c F5;have n5:=F5.i;cases K with
 |false=>
  simp only[a_,↓reduceIte,Nat.reduceEqDiff,x0];apply ao (o:=0) (v:=.B [.j]) (c':=[.j]) F5.r a1 rfl rfl rfl;rintro h6 o6 F6 n6;have l6:aq h6 h3.i 0 1=some [.j]:=by rw[o6.J];rfl
  simp only[a_,↓reduceIte,Nat.reduceEqDiff,l6];exact⟨(af.y F6 w oM).b iS,.j,rfl,fun _=>rfl,fun e=>absurd e dI⟩
 |true=>
  simp only[↓reduceIte];simp only[a_,↓reduceIte,Nat.reduceEqDiff,x0,x1,x2,(oM:¬(1024:Int)<cnt),(ra.fr (ac.c F5)).A_];refine aC (fun n env hh=>Q6 [] m h5 hh/\∃i:Nat,env.c_ 34=some (ZZ i)/\env.c_ 33=some (ZZ Y.length)/\env.c_ 32=some vI/\env.c_ 3=some (.u h.i 0)/\env.c_ 5=some (.u h2.i 0)/\env.c_ 6=some (.u h3.i 0)/\
   i<=Y.length/\KI i hh/\W9 Ks KE i (Y.drop i)=W9 Ks KE 0 Y/\n=Y.length-i) Y.length oM ?_ ?_
  exact⟨Fr.b (S':=[]) (Vk F5.r) iS,0,iS,iS,iS,iS,iS,iS,oM,kf _ _ _ ki af,rfl,rfl⟩;rintro n env hh ⟨F,i,aH,a5,bo,g3,g5,g6,hi,kI,e,rfl⟩;have nF:=F.g;have F0:Fr [] h0 hh:=YE d.w (ac.c F5) F iS hm;have Fh:Q6 [] m h hh:=(af.b iS).a F;have bg:=F.d _ _ iS (F5.c_ oK);have ar:=F.d _ _ iS ak;have bc:=F.d _ _ iS a1;by_cases b6:i<Y.length;let⟨bi,oi,y,p1,_,p3,p4⟩:=(ra.fr F0).ix aT .i64 (i:Int) oM oM;rw[pi]at p4;have ym:=Vg p4;have bT:=ek (List.ne_nil_of_mem ym);have ay:=(hY y ym).fr F0;rw[aN p4]at e;simp only[W9]at e;let⟨ha,cq,ci,cx⟩:=au F.e [ZX 0,ZY 0,.f [],.j];simp only[a_,↓reduceIte,Nat.reduceEqDiff,aH,a5,bo,(oM:(i:Int)<Y.length),p1,p3,<-cq];refine ao (c':=y.s) ci.r cx rfl ay.O rfl ?_;rintro hb ob Fb nb;have aj:Fr [] hh hb:=ci.y Fb F.e (Ve _);have y4:aq hb hh.i 0 4=some y.s:=by rw[ob.J];rfl
  have kb:ag hb h.i 0=some vK:=(aj.c_ bg).o 0;simp only[a_,↓reduceIte,Nat.reduceEqDiff,g3,y4,kb,(YY (VJ d.e (F0.c aj)))];apply aa (qg aj.r (ay.fr aj) oM);rintro _ ax ⟨rfl,Fc⟩;have ab:=aj.c Fc;have oy:=Fc.c_ ob;have bt:aq ax hh.i 0 4=some y.s:=by rw[oy.J];rfl
  have bB:ag ax h2.i 3=some fk:=(ab.c_ ar).o 3;cases d1:P0 y Ks.length;rw[d1,if_pos rfl]at e;simp(disch:=omega) only[a_,↓reduceIte,Nat.reduceEqDiff,ah,aH,g3,g5,g6];apply ao (o:=0) (v:=.B [.j]) (c':=[.j]) Fc.r (ab.c_ bc) rfl rfl rfl;rintro hz oz Fz nz;have lz:aq hz h3.i 0 1=some [.j]:=by rw[oz.J];rfl
  simp only[a_,↓reduceIte,Nat.reduceEqDiff,g6,lz];rw[<-e];exact⟨FrB.d w (Fh.a (ab.b iS)) Fz oM,.j,rfl,fun _=>rfl,fun e=>absurd e dI⟩;rw[d1,if_neg iS]at e;have ht:y.N<Ks.length:=by simp only[P0,Vd,decide_eq_true_eq]at d1;exact d1.2.1
  have br:=F0.c ab;have a7:Q6 [] m h ax:=Fh.a (ab.b iS);simp only[a_,↓reduceIte,Nat.reduceEqDiff,g5,bB,bT,bt,bk];apply aa (hK i y ax rfl p4 (kf _ _ _ kI ab) br a7 d1);rintro _ hd ⟨rfl,Fd,bE⟩;have bz:=Fd.d _ _ iS oy;have bw:aq hd hh.i 0 4=some y.s:=by rw[bz.J];rfl
  have ae:Q6 [] m h5 hd:=(F.a (ab.b iS)).a Fd;have a3:Fr [] h0 hd:=YE d.w (ac.c F5) ae iS hm;have bp:=ae.d _ _ iS (F5.c_ oK);have a8:=ae.d _ _ iS a1;have k2:aq hd h.i 0 2=some [vK,ZZ 12]:=by rw[bp.J];rfl
  by_cases c2:KE i y=0;rw[if_neg iX]at e;simp only[a_,↓reduceIte,Nat.reduceEqDiff,g3,eq_true c2,k2,bw];apply aa (uo Fd.e (VJ d.e a3) (fun q m=>(d.f q m).fr a3) ((hY y ym).fr a3) ht);rintro _ he ⟨cs,rfl,Fe,on,cl,_⟩;by_cases c3:bP Ks 12 y=0;rw[if_neg iX]at e;simp(disch:=omega) only[a_,↓reduceIte,Nat.reduceEqDiff,ah,aH,c3];refine t_ ⟨Y.length-(i+1),oM,ae.a (Fe.b iS),i+1,iS,iX,iX,iX,iX,iX,oM,kf _ _ _ (bE c2) Fe,e,rfl⟩;rw[if_pos c3]at e;simp only[a_,↓reduceIte,Nat.reduceEqDiff,g6,eq_false c3];apply ao (o:=0) (v:=.B [.j]) (c':=[.j]) Fe.r (Fe.c_ a8) rfl rfl rfl;rintro hz oz Fz nz;have lz:aq hz h3.i 0 1=some [.j]:=by rw[oz.J];rfl
  simp only[a_,↓reduceIte,Nat.reduceEqDiff,g6,lz];rw[<-e];exact⟨FrB.d w (((af.b iS).a ae).a (Fe.b iS)) Fz oM,.j,rfl,fun _=>rfl,fun e=>absurd e c3⟩;rw[if_pos c2]at e;simp only[a_,↓reduceIte,Nat.reduceEqDiff,g6,eq_false c2];apply ao (o:=0) (v:=.B [.j]) (c':=[.j]) Fd.e a8 rfl rfl rfl;rintro hz oz Fz nz;have lz:aq hz h3.i 0 1=some [.j]:=by rw[oz.J];rfl
  simp only[a_,↓reduceIte,Nat.reduceEqDiff,g6,lz];rw[<-e];exact⟨FrB.d w ((af.b iS).a ae) Fz oM,.j,rfl,fun _=>rfl,fun e=>absurd e c2⟩;have ei:i=Y.length:=oM;subst ei;rw[WV]at e;simp[W9]at e;let⟨lv,ll,sub⟩:=hE rfl e.symm;rw[<-e];simp only[a_,↓reduceIte,aH,a5,(oM:¬(Y.length:Int)<Y.length)];apply xT [⟨none,.p (.b 4) [.v 5],none⟩,⟨none,.a 1 false (.l 0),none⟩,⟨none,.a 2 true (.v 3),none⟩,⟨none,.p (.b 2) [.v 5],none⟩,⟨none,.a 1 false (.l 0),none⟩,⟨none,.c 194 [.l 2,.l 0],none⟩,⟨none,.e (.l 4) [.l 0],none⟩,⟨none,.c 193 [.l 0],none⟩] _ rfl;have F6:=VL F.e [.j];have o6:=Wi F.e [.j];have bn:(k_ hh [.j]).i=hh.i+1:=rfl;generalize k_ hh [.j]=h6 at F6 o6 bn|-;have f4:ag h6 h2.i 4=some fm:=(F6.c_ ar).o 4;have f2:ag h6 h2.i 2=some vI:=(F6.c_ ar).o 2;have k2:aq h6 h.i 0 2=some [vK,ZZ 12]:=by rw[(F6.c_ bg).J];rfl
  have a2:=F0.c F6;have bD:∀y∈Y,y.N<Ks.length:=by intro y ym;exact Dc (e.symm) ym
  simp only[a_,↓reduceIte,Nat.reduceEqDiff,g_,g3,g5,f4,f2,k2,em];apply aa (HX F6.r (VJ d.e a2) (ra.fr a2) (fun y ym=>⟨(hY y ym).fr a2,bD y ym⟩) bC);rintro _ h7 ⟨bf,rfl,b9,bj,F7⟩;have bV:ag h7 h2.i 4=some fm:=(F7.c_ (F6.c_ ar)).o 4;have rf:o_ d_.s 6 h7 (.z bf 0 Y.length Y.length) (aQ Ks Y):=by have:=Wy (esz:=6) bj (aG aK (aQ Ks Y));rw[gA]at this;unfold o_;rw[gA];exact this
  have a4:=F6.c F7;simp only[a_,g_,bm];apply aa (hM h7 _ rfl e.symm (F0.c a4) (Fh.a (a4.b iS)) rf);rintro vM h8 ⟨rM,F8⟩;have a6:=(F0.c a4).c F8;have iE:∀x∈E',q_ h8 x.x:=by intro x xm;obtain q|q:=sub x xm;exact(d.o.h x q).1.fr a6;obtain⟨y,ym,rfl⟩:=VK.1 q;exact(hY y ym).fr a6
  simp only[a_,g_];apply aa (Mx F8.r rM iE oM);rintro _ h9 ⟨F9,v',Z,rfl,lo,zv,iz⟩;have zl:Z.length=E'.length:=by have:=congrArg List.length zv;simpa using this
  have bh:v'.O=true:=Wj lo.rs;have an:=F7.c (F8.c F9);have n9:=an.i;have n8:=F8.i;have n7:=F7.i;simp only[a_,g_,mJ];refine ao (o:=0) (v:=.B [v']) (c':=[v']) F9.r (an.c_ o6) rfl (by show aw [_]=true;simp only[aA,aD,bh];rfl) rfl ?_;rintro ha oa Fa na;have la:aq ha hh.i 0 1=some [v']:=by rw[oa.J];rfl
  have a0:=lo.ai Fa oO;have bW:=a0.aw iz;have zb:Z.map d_.b=E'.map d_.b:=by have:=congrArg (List.map fun p=>p.2.1) zv;rw[VW,VW]at this;exact this
  have a9:=lv.d d.o.r;have sm:=jW a9;have bA:V0 Z:=by intro z zm;have:z.b∈Z.map d_.b:=VK.2 ⟨z,zm,rfl⟩;rw[zb]at this;have:=a9 _ this;omega
  simp only[a_,↓reduceIte,Nat.reduceEqDiff,DF,g3,f4,bV,f2,k2,em,la];refine aa (wR Fa.r a0.rs bW oM bA (by rw[zb];simp at sm;omega)) ?_;rintro _ hb ⟨rfl,Fb⟩;have lb:aq hb hh.i 0 1=some [v']:=by rw[(Fb.c_ oa).J];rfl
  have nb:=Fb.i;have bv:Fr [hh.i] h6 hb:=Vn (Vn an Fa F6.r iS (fun x m=>.inl m)) Fb F6.r (fun x m=>.inl m) iS;simp only[a_,↓reduceIte,Nat.reduceEqDiff,g6,lb];refine ao (o:=0) (v:=.B [v']) (c':=[v']) Fb.r (bv.D _ _ oO (F6.c_ bc)) rfl (by show aw [_]=true;simp only[aA,aD,bh];rfl) rfl ?_;rintro hz oz Fz nz;have lz:aq hz h3.i 0 1=some [v']:=by rw[oz.J];rfl
  simp only[a_,↓reduceIte,Nat.reduceEqDiff,g6,lz];have ba:=(a0.ai Fb iS).ai Fz oO;have fA:Q6 [] m h ha:=FrB.d w ((Fh.a (F6.b iS)).a (an.b iS)) Fa oM;have fB:Q6 [] m h hz:=FrB.d w (fA.a (Fb.b iS)) Fz oM;exact⟨fB,v',rfl,fun x=>absurd rfl x,fun _=>⟨Z,ba.le oM,zv,ba.aw iz⟩⟩
end Go.Ev.Lay
