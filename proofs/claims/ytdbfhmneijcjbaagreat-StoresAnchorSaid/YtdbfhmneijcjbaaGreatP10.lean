/- An evaluator of the program, and contracts over it: StaN to StbC. -/
import Derived.Test.YtdbfhmneijcjbaaGreatP09
set_option linter.unusedSimpArgs false
set_option linter.unusedVariables false
set_option linter.constructorNameAsVariable false
set_option linter.unnecessarySimpa false
set_option maxRecDepth 4000
namespace Go.Ev.Lay
variable{h':b_}{Ks:List w_}{cap:Int}{X:List e_}{bg bm bl:Nat}{vK k0:V}{env:T V}{late:List Nat}{loc cs:List V}{st ks bs kn:List Bool}{pm:Option Nat}
def T_(h:b_)(b:Nat)(Ks:List w_)(cap:Int):Prop:=∃vK c2 c3 c4,f_ h b [vK,ZZ cap,c2,c3,c4]/\o_ w_.s 9 h vK Ks/\∀q∈Ks,Q4 h q
theorem T_.fr{h:b_}{b:Nat}(r:T_ h b Ks cap)(f:Fr [] h h'):T_ h' b Ks cap:=by let⟨vK,c2,Z,K,o,r,k⟩:=r;exact⟨vK,c2,Z,K,f.c_ o,VJ r f,fun q m=>(k q m).fr f⟩
def bP(Ks:List w_)(cap:Int)(x:e_):Int:=match Ks[x.N]? with
 |some q=>fL q.k q.tg q.ky q.sl q.tx q.ar x cap
 |none=>0
def Zg(N:Nat)(h':b_)(Ks:List w_)(x:e_)(cs:List V):Prop:=∃q s va vc,Ks[x.N]? =some q/\cs=[ZY 1,.f q.tg,.f q.ky,va,.f [],vc]/\(∀(X:List Nat)(h2:b_),(∀y∈X,y<N)->Fr X h' h2->NH h2 (.y_ 1 q.tg q.ky (q.sl.map (P1 x)) [] va vc s .D_))/\
 s.sh=cH x q.ar/\ST.U_ 1 q.tg q.ky (q.sl.map (P1 x)) [] (cH x q.ar)≠0
theorem rL{k:Nat}{tg ky tx:i_}{sl:List Q5}{sub:PT}{x:e_}{Z:Int}(e:fL k tg ky sl tx sub x Z=0):ST.U_ 1 tg ky (sl.map (P1 x)) [] (cH x sub)≠0:=by intro z;unfold fL at e;split at e;cases e;omega
theorem zY{h:b_}{b:Nat}{x:e_}(w:WF h)(r:T_ h b Ks cap)(a:q_ h x)(ht:x.N<Ks.length):
 av go 72 [.u b 0,.B x.s] h fun u h'=>∃cs,u=.G [.B cs,ZZ (bP Ks cap x)]/\Fr [] h h'/\aw cs=true/\cs.length=6/\(bP Ks cap x=0->Zg h.i h' Ks x cs):=by
 let⟨vK,c2,c3,c4,o,rk,kh⟩:=r;let⟨h1,af,aj,an⟩:=au w x.s;let⟨K,ak,ae,ar⟩:=au aj.r [ZY 0,.f [],.f [],.j,.f [],.j];have n1:=s_ af;have Z:=aj.c ae;have ob:=Z.c_ o;have ox:=ae.c_ an;have l0:ag K b 0=some vK:=ob.o 0;have l1:ag K b 1=some (ZZ cap):=ob.o 1;have x1:ag K h.i 1=some (ZY (x.N:Int)):=ox.o 1;have x4:aq K h.i 0 4=some x.s:=by rw[ox.J];rfl
 let⟨bk,ok',q,p1,p2,p3,p4⟩:=(VJ rk Z).ix fg .u8 (x.N:Int) oM oM;rw[pi]at p4;have hq:=kh q (Vg p4);have er:bP Ks cap x=fL q.k q.tg q.ky q.sl q.tx q.ar x cap:=by simp[bP,p4]
 have p6:aq K bk ok' 6=some q.as:=by
  let⟨b',o',e1,_,g2⟩:=Sl.ix (VJ rk Z) .u8 (x.N:Int) oM oM;rw[p1]at e1;cases e1;simp[aq]at p3|-;cases cc:dW K bk with
  |none=>rw[cc]at p3;cases p3
  |some C=>
   rw[cc]at p3;simp[bR]at p3|-;have hl:9<=(C.drop ok').length:=by
    obtain z|z:=Wt (C.drop ok').length 9;exfalso;have tk:∀(n:Nat)(l:List V),l.length<n->dL n l=none:=by
     intro n;induction n with
     |zero=>intro l hl;omega
     |succ n ih=>
      intro l hl;cases l with
      |nil=>rfl
      |cons a l=>rw[fT,ih l (eV hl)];rfl
    rw[tk 9 _ z]at p3;cases p3;exact z
   rw[bO _ _ hl]at p3;rw[bO _ _ oM];have ab:=WU p3;have:(C.drop ok').take 6=((C.drop ok').take 9).take 6:=by grind
   rw[this,ab];rfl
 refine ai ?_;simp[a_,g_,<-af,<-ak,l0,x1,p1,p6,x4,l1];refine aa (wA (vs:=q.vs) (vp:=q.vp) ae.r (hq.fr Z) (a.fr Z)) ?_;rintro _ h3 ⟨cs,rfl,F3,z1,z2⟩;have on:aw cs=true/\cs.length=6:=by by_cases z:fL q.k q.tg q.ky q.sl q.tx q.ar x cap=0;obtain⟨s,va,vc,rfl,n,_⟩:=z2 z;exact⟨NH.aF (n [] h3 iS (Vk F3.r)),rfl⟩;rw[z1 z];exact⟨rfl,rfl⟩
 have ac:=F3.c_ ar;simp[a_,g_];refine ao (c':=cs) F3.r ac on.2 on.1 (by
  rw[bN _ _ _ (by show 0+cs.length<=6;omega)];simp[V.s];omega) ?_
 rintro h4 o4 F4 n4;have l4:aq h4 h1.i 0 6=some cs:=by rw[o4.J,fY,bO _ _ oM,Vm oM]
 simp only[a_,seval,DF,g_,l0,x1,p6,x4,l1,l4];refine⟨cs,by rw[er],(Z.c F3).y F4 w oM,on.1,on.2,fun z=>?_⟩;rw[er]at z;let⟨s,va,vc,e,n,es⟩:=z2 z;refine⟨q,s,va,vc,p4,e,fun X hh hX f=>n ([h1.i]++X) hh (fun y m=>?_) (Vn F4 f F3.r (fun y m=>.inl (Vc.2 (.inl m))) (fun y m=>.inl (Vc.2 (.inr m)))),es,rL z⟩;have:=ae.i;have n2:=s_ ak;obtain m|m:=Vc.1 m;simp at m;omega;grind
theorem tF{h:b_}{b:Nat}{x:e_}(w:WF h)(r:T_ h b Ks cap)(a:q_ h x)(ht:x.N<Ks.length):
 av go 72 [.u b 0,.B x.s] h fun u h'=>∃cs,u=.G [.B cs,ZZ (bP Ks cap x)]/\Fr [] h h'/\aw cs=true/\cs.length=6:=by
 apply Xk (zY w r a ht);rintro _ h' ⟨cs,e,f,o,l,_⟩;exact⟨cs,e,f,o,l⟩
def D2(h0:b_)(g:Nat)(caps:List V)(p:Nat->Bool):Prop:=g<1099511627776/\∀(h:b_)(k:Nat),Fr [] h0 h->k<18446744073709551616->av go g (ZX (k:Int)::caps) h fun u h'=>u=.h (p k)/\Fr [] h h'
def dZ(Ks:List w_)(cap:Int)(p:Nat->Bool):List Nat->List e_->Int
 |_,[]=>0
 |seen,x::r=>if P0 x Ks.length=false then 6 else if x.A∈seen\/p x.A=true then 8 else if bP Ks cap x≠0 then bP Ks cap x else dZ Ks cap p (seen++[x.A]) r
theorem rR{h:b_}{b g:Nat}{v:V}{caps:List V}{p:Nat->Bool}(w:WF h)(r:T_ h b Ks cap)(hK:Ks.length<=8)(sl:C_ e_.s 4 h v X)(hX:∀x∈X,q_ h x)(hn:X.length<=4096)(Th:D2 h g caps p):
 av go 94 [.u b 0,v,.I (.func g) [] caps] h fun u h'=>u=ZZ (dZ Ks cap p [] X)/\Fr [] h h':=by
 obtain⟨h1,Z⟩:∃h1,h1=lF h:=⟨_,rfl⟩;have an:Fr [] h h1:=Z▸Fr.aP w _;have s1:T2 h1 h.i []:=⟨[],0,by rw[Z];exact jJ _ _,rfl,iS⟩;refine ai ?_;simp[a_,Hk,<-Z,sl.A_];refine aC (fun n env hh=>Fr [] h hh/\∃(i:Nat)(seen:List Nat),env.c_ 16=some (ZZ i)/\env.c_ 15=some (ZZ X.length)/\env.c_ 14=some v/\env.c_ 0=some (.u b 0)/\env.c_ 2=some (.I (.func g) [] caps)/\env.c_ 7=some (.ad h.i)/\
  i<=X.length/\T2 hh h.i seen/\dZ Ks cap p seen (X.drop i)=dZ Ks cap p [] X/\n=X.length-i) X.length oM ?_ ?_
 ·exact⟨an,0,[],iS,iS,iS,iS,iS,iS,oM,s1,rfl,rfl⟩
 ·rintro n env hh ⟨F,i,seen,af,ak,a0,g0,g2,g7,hi,S,e,rfl⟩;by_cases a4:i<X.length
  ·have ac:(i:Int)<X.length:=oM
   let⟨bi,oi,x,p1,_,p3,p4⟩:=(sl.fr F).ix (f:=e_.s) (k:=4) (fun _=>rfl) .i64 (i:Int) oM ac;rw[pi]at p4;have a:=hX x (Vg p4);rw[aN p4]at e;simp only[dZ]at e;let⟨h3,a8,a6,a7⟩:=au F.r [ZX 0,ZY 0,.f [],.j];simp only[a_,seval,af,ak,a0,ac,p1,p3,<-a8];refine ao (c':=x.s) a6.r a7 rfl a.O rfl ?_;rintro h4 o4 F4 n4;have ae:Fr [] hh h4:=a6.y F4 F.r (Ve _);have F0:=F.c ae;let⟨vK,c2,c3,c4,ob,rk,kh⟩:=r.fr F0;have x4:aq h4 hh.i 0 4=some x.s:=by rw[o4.J];rfl
   have l0:ag h4 b 0=some vK:=ob.o 0;simp only[a_,seval,g_,g0,x4,l0,(YY rk)];refine aa (qg ae.r (a.fr F0) oM) ?_;rintro _ h5 ⟨rfl,F5⟩;cases c1:P0 x Ks.length
   ·rw[c1,if_pos rfl]at e;simp only[a_,seval,DF,g_,x4,l0];exact⟨by rw[<-e],F0.c F5⟩
   rw[c1,if_neg iS]at e;have aj:=F0.c F5;have o5:=F5.c_ o4;have k0:ag h5 hh.i 0=some (ZX (x.A:Int)):=o5.o 0;have S5:=(S.a ae).a F5;by_cases c2:x.A∈seen
   ·rw[if_pos (.inl c2)]at e;simp only[a_,seval,DF,g_,g7,x4,l0,k0,Am,ma,pN S5,c2];exact⟨by rw[<-e],aj⟩
   simp only[a_,seval,DF,g_,g2,g7,x4,l0,k0,Am,ma,pN S5,c2,Th.1];refine aa (Th.2 h5 x.A aj a.k) ?_;rintro _ h6 ⟨rfl,F6⟩;have ar:=aj.c F6;have o6:=F6.c_ o5;have ay:ag h6 hh.i 0=some (ZX (x.A:Int)):=o6.o 0;cases c3:p x.A
   ·rw[if_neg iX]at e;simp only[a_,seval,g7,ay,C8,qy];refine sQ F6.r (S5.a F6) c2 ?_;intro h7 S7 B7 n7;have K:Fr [] h h7:=YE w ar B7 iS (Ve _);have o7:=B7.d _ _ iS o6;have x7:aq h7 hh.i 0 4=some x.s:=by rw[o7.J];rfl
    have ht:x.N<Ks.length:=by
     simp only[P0,Vd,decide_eq_true_eq]at c1;exact c1.2.1
    simp only[a_,seval,g0,x7];refine aa (tF K.r (r.fr K) (a.fr K) ht) ?_;rintro _ h8 ⟨cs,rfl,F8,on,cl⟩;let⟨h9,a9,a5,ba⟩:=au F8.r [ZY 0,.f [],.f [],.j,.f [],.j];simp only[a_,<-a9];refine ao (c':=cs) a5.r ba cl on (by
     rw[bN _ _ _ (by show 0+cs.length<=6;omega)];simp[V.s];omega) ?_
    rintro a1 a2 aH a3;have ax:Fr [] h7 a1:=(F8.c a5).y aH K.r (by have:=F8.i;omega);have ab:=K.c ax;by_cases c4:bP Ks cap x=0
    ·rw[if_neg iX]at e;simp(disch:=omega) only[a_,seval,ah,af,c4];refine t_ ⟨X.length-(i+1),oM,ab,i+1,seen++[x.A],iS,iX,iX,iX,iX,iX,oM,S7.a ax,e,rfl⟩
     done
    ·rw[if_pos c4]at e;simp only[a_,seval,c4];exact⟨by rw[<-e],ab⟩
   ·rw[if_pos (.inr c3)]at e;simp only[a_,seval];exact⟨by rw[<-e],ar⟩
  ·simp only[a_,seval,af,ak,(oM:¬(i:Int)<X.length)];rw[Vq oM]at e;exact⟨by rw[<-e];rfl,F⟩
open Go.Ev.St
theorem aT(x:e_):x.s.length=4:=rfl
theorem yJ{i:Nat}{x:e_}(h:X[i]? =some x):((X.flatMap e_.s).drop (i*4)).take 4=x.s:=by rw[bI aT,aN h];rfl
def P_(h:b_)(B:Nat):Prop:=∃c,f_ h B c/\c.length≠6/\∀L:List (Int×Int),0<L.length->c≠L.flatMap sp
theorem P_.fr{h:b_}{B:Nat}{S:List Nat}(g:P_ h B)(f:Fr S h h')(Z:B∉S):P_ h' B:=by let⟨c,o,x⟩:=g;exact⟨c,f.D _ _ Z o,x⟩
theorem Km.bV{h:b_}{b S c:Nat}{m:Nat->Option Nat}(k:Km h b S m c){key x:Nat}(Z:m key=some x):P_ h S:=by
 obtain⟨_,_,z⟩|⟨v,sl,t,k,_⟩:=k;grind;have n8:=k.n8;have K:=pU sl;refine⟨_,k.tb.2,oM,?_⟩;intro L p e;cases sl with
 |nil=>simp at n8
 |cons s r=>
  cases L with
  |nil=>simp at p
  |cons q L=>rw[VM,VM]at e;simp[sc,sp]at e
abbrev cJ:=(Nat->Option Nat)×Nat
def np(mc:cJ)(key i:Nat):cJ:=(kW mc.1 key i,if(mc.1 key).isSome=true then mc.2 else mc.2+1)
def dS(mc:cJ):List e_->Nat->cJ
 |[],_=>mc
 |x::r,i=>dS (np mc x.A i) r (i+1)
theorem yN{h:b_}{b B S i:Nat}{vc vl:V}{mc:cJ}(w:WF h)(ob:f_ h b [vK,vc,.u bg 0,.u bm 0,vl])(g:Gp h bg B X.length (X.flatMap e_.s))(k:Km h bm S mc.1 mc.2)
 (hX:∀x∈X,0<x.A/\x.A<18446744073709551616) (hi:i<=X.length) (hc:mc.2+X.length<=4096) (d1:b≠bm) (d2:b≠S) (d3:bg≠bm) (d4:bg≠S) (d5:B≠bm) (d6:B≠S) (lt:B<h.i) (gS:P_ h S):
 av go 99 [.u b 0,ZZ (i:Int)] h fun u h'=>u=.G []/\∃S',(S'=S\/h.i<=S')/\Km h' bm S' (dS mc (X.drop i) i).1 (dS mc (X.drop i) i).2/\Fr [bm,S] h h'/\P_ h' S':=by
 have hn:=g.t.2.1;have blt:=ob.lt w;have ax:bg<h.i:=by let⟨v,c1,G,c2,a,gg,m,k,_⟩:=g;exact k.c.lt w
 refine ai ?_;simp only[a_];refine aC (fun n env K=>∃(j S':Nat)(Z:cJ),(S'=S\/h.i<=S')/\Km K bm S' Z.1 Z.2/\Fr [bm,S] h K/\P_ K S'/\env.c_ 0=some (.u b 0)/\env.c_ 1=some (ZZ (j:Int))/\j<=X.length/\
  dS Z (X.drop j) j=dS mc (X.drop i) i/\Z.2+(X.length-j)<=4096/\n=X.length-j) (X.length-i) oM ?_ ?_
 exact⟨i,S,mc,.inl rfl,k,Vk w,gS,iS,iS,hi,rfl,oM,oM⟩;rintro n env K ⟨j,S',Z,hS,km,F,gd,g0,g1,hj,e,ar,rfl⟩;have e1:S'≠b:=oM;have ae:=F.D b _ (by simp;exact⟨d1,d2⟩) ob;have ab:=g.f F (by simp;exact⟨d3,d4⟩) (by simp;exact⟨d5,d6⟩);have l2:ag K b 2=some (.u bg 0):=ae.o 2;simp only[a_,g0,l2];refine aa (AL ab) ?_;rintro _ _ ⟨rfl,rfl⟩;by_cases an:j<X.length;obtain⟨x,hx⟩:∃x,X[j]? =some x:=⟨_,Vp an⟩;have xk:=hX x (Vg hx);simp only[a_,seval,g0,g1,l2,(oM:(j:Int)<(X.length:Nat))];let⟨v,c1,G,c2,a,gg,m,gt,el,en⟩:=ab;refine aa (uJ F.r gt (i:=j) oM) ?_;rintro _ h4 ⟨F4,rfl⟩;rw[<-el,yJ hx];let⟨h5,aH,ay,a0⟩:=au F4.r [ZX 0,ZY 0,.f [],.j];simp only[a_,seval,<-aH];have on:aw x.s=true:=by rw[<-yJ hx];exact bQ 4 (bH _ g.t.2.2)
 refine ao (c':=x.s) ay.r a0 rfl on rfl ?_;rintro h6 o6 F6 n6;have Fa:Fr [] K h6:=(F4.c ay).y F6 F.r (by have:=F4.i;omega);have l3:ag h6 b 3=some (.u bm 0):=(Fa.c_ ae).o 3;have x0:ag h6 h4.i 0=some (ZX (x.A:Int)):=o6.o 0;rw[aN hx]at e;simp[dS]at e;simp only[a_,seval,g_,g0,g1,l3,x0];refine aa (Kc Fa.r (km.fr Fa) (.inl oM) xk.1 xk.2 oM) ?_;rintro _ h7 ⟨rfl,S2,aj,ac,F7⟩;have ak:Fr [bm,S] h h7:=by refine Vn (Vn (T:=[bm,S]) F Fa w (fun y hy=>.inl hy) iS) F7 w (fun y hy=>.inl hy) (fun y hy=>?_);simp at hy;obtain rfl|rfl:=hy;exact .inl iS;grind
 have af:S2=S\/h.i<=S2:=by obtain rfl|q:=aj;exact hS;exact .inr (VC (VC F.i Fa.i) q)
 simp(disch:=omega) only[a_,seval,DF,ah,g1,l3,x0];refine t_ ⟨X.length-(j+1),oM,j+1,S2,np Z x.A j,af,ac,ak,ac.bV (key:=x.A) (x:=j) (by simp[kW]),iX,iS,oM,e,?_,rfl⟩;simp[np];split<;>omega
 simp only[a_,seval,g1,(oM:¬(j:Int)<(X.length:Nat))];rw[Vq oM]at e;simp[dS]at e;refine⟨S',hS,?_,F,gd⟩;rw[<-e];exact km
def aF(Ks:List w_)(x:e_):Int:=match Ks[x.N]? with
 |some q=>q.W
 |none=>0
def bK(Ks:List w_)(x:e_):Bool:=match Ks[x.N]? with
 |some q=>q.Z
 |none=>false
theorem du{call:aL}{s:n_}{l:List n_}{i:Nat}{h:b_}{v:V}(K:late.contains i=false)(Z:g_ s.a=false)(e:aS call loc env h s.a=some (v,h')):
 Q8 call env late (s::l) i loc h=(Q8 call env late l (i+1) (v::loc) h).map fun r=>((s,none)::r.1,r.2):=by
 simp only[Q8,K,cond_false,wZ,Z,e];cases Q8 call env late l (i+1) (v::loc) h<;>rfl
theorem Av{call:aL}{s:n_}{l:List n_}{i:Nat}{h:b_}(K:late.contains i=false)(Z:g_ s.a=true):
 Q8 call env late (s::l) i loc h=(Q8 call env late l (i+1) (.G []::loc) h).map fun r=>((s,none)::r.1,r.2):=by
 simp only[Q8,K,cond_false,wZ,Z,cond_true];cases Q8 call env late l (i+1) (V.G []::loc) h<;>rfl
theorem De{call:aL}{s:n_}{l:List n_}{i:Nat}{h:b_}{c:List V}{k:Option (Nat×Nat)}(Z:late.contains i=true)(e:jG loc env s.a=some (c,k)):
 Q8 call env late (s::l) i loc h=(Q8 call env late l (i+1) (eZ h.i k::loc) (k_ h c)).map fun r=>((s,some (eZ h.i k,c))::r.1,r.2):=by
 simp only[Q8,Z,cond_true,e];cases Q8 call env late l (i+1) (eZ h.i k::loc) (k_ h c)<;>rfl
theorem Pa{h:b_}{b8:Nat}{v4 v5:V}{base:Int}{st:Bool}(g4:env.c_ 4=some v4)(g5:env.c_ 5=some v5)(g8:env.c_ 8=some (.u b8 0))(l6:ag h b8 6=some (ZZ base))(l7:ag (k_ h [ZZ base]) b8 7=some (.h st)):
 Q8 go env [3,8] [⟨none,.p .o [.v 4],none⟩,⟨none,.p (.b 6) [.v 8],none⟩,⟨none,.a 1 false (.l 0),none⟩,⟨none,.b [(ZZ 0)] [(0,1)] 1 [.l 0],none⟩,⟨none,.i 1 8 (.l 3) (.l 0),none⟩,⟨none,.p .o [.v 5],none⟩,⟨none,.p (.b 7) [.v 8],none⟩,⟨none,.a 1 false (.l 0),none⟩,⟨none,.b [(.h false)] [(0,1)] 1 [.l 0],none⟩,⟨none,.i 1 1 (.l 3) (.l 0),none⟩,⟨none,.p .o [.l 5],none⟩,⟨none,.p .o [.l 1],none⟩] 0 [] h=
  some ([(⟨none,.p .o [.v 4],none⟩,none),(⟨none,.p (.b 6) [.v 8],none⟩,none),(⟨none,.a 1 false (.l 0),none⟩,none),(⟨none,.b [(ZZ 0)] [(0,1)] 1 [.l 0],none⟩,some (.z h.i 0 1 1,[ZZ base])),(⟨none,.i 1 8 (.l 3) (.l 0),none⟩,none),(⟨none,.p .o [.v 5],none⟩,none),(⟨none,.p (.b 7) [.v 8],none⟩,none),(⟨none,.a 1 false (.l 0),none⟩,none),(⟨none,.b [(.h false)] [(0,1)] 1 [.l 0],none⟩,some (.z (h.i+1) 0 1 1,[.h st])),(⟨none,.i 1 1 (.l 3) (.l 0),none⟩,none),(⟨none,.p .o [.l 5],none⟩,none),(⟨none,.p .o [.l 1],none⟩,none)],
   k_ (k_ h [ZZ base]) [.h st]):=by
 have K:∀(Z:List V)(h:b_)(x:G_)(v:V),E_ Z env x=some v->aS go Z env h (.p .o [x])=some (v,h):=fun Z h x v e=>by simp[aS,gR,dP,e,dg,aP]
 have ab:∀(Z:List V)(h:b_)(k:Nat),aS go Z env h (.p (.b k) [.v 8])=some (.u b8 k,h):=fun Z h k=>by simp[aS,gR,dP,jn,g8,dg,jP]
 have ac:∀(Z:List V)(h:b_)(k:Nat)(v:V),ag h b8 k=some v->aS go (.u b8 k::Z) env h (.a 1 false (.l 0))=some (v,h):=fun Z h k v e=>by simp[aS,rU,bX,gu,e]
 rw[du rfl rfl (K _ _ _ _ (by rw[jn];exact g4)),du rfl rfl (ab _ _ _),du rfl rfl (ac _ _ _ _ l6)];rw[De (c:=[ZZ base]) (k:=some (1,1)) rfl rfl,Av rfl rfl,du rfl rfl (K _ _ _ _ (by rw[jn];exact g5)),du rfl rfl (ab _ _ _),du rfl rfl (ac _ _ _ _ l7)];rw[De (c:=[.h st]) (k:=some (1,1)) rfl rfl,Av rfl rfl,du (v:=.G []) rfl rfl (K _ _ _ _ rfl),du (v:=.G []) rfl rfl (K _ _ _ _ rfl)];rfl
theorem N2(Z:List V)(env:T V)(n:Nat)(b:Int):cI (ZZ b::Z) env (.b [ZZ 0] [(0,1)] 1 [.l 0]) (.z n 0 1 1) [ZZ b]=true:=by have e:jG (ZZ b::Z) env (.b [ZZ 0] [(0,1)] 1 [.l 0])=some ([ZZ b],some (1,1)):=rfl;simp[cI,e,S_,eZ,eW,nT]
theorem N1(Z:List V)(env:T V)(n:Nat)(b:Bool):cI (.h b::Z) env (.b [.h false] [(0,1)] 1 [.l 0]) (.z n 0 1 1) [.h b]=true:=by have e:jG (.h b::Z) env (.b [.h false] [(0,1)] 1 [.l 0])=some ([.h b],some (1,1)):=rfl;simp[cI,e,S_,eZ,eW,nT]
theorem qk{h:b_}{b:Nat}{v:V}(w:WF h)(r:T_ h b Ks cap)(sl:C_ e_.s 4 h v X)(hX:∀x∈X,q_ h x/\x.N<Ks.length)(hn:X.length<=4096):
 av go 103 [.u b 0,v] h fun u h'=>∃v4 v5,u=.G [v4,v5]/\Gs h' h.i 1 v4 (X.map fun x=>ZZ (aF Ks x))/\Gs h' h.i 1 v5 (X.map fun x=>.h (bK Ks x))/\Fr [] h h':=by
 refine ai ?_;simp[a_,sl.A_];refine aC (fun n env hh=>Fr [] h hh/\∃(i:Nat)(v4 v5:V),env.c_ 11=some (ZZ i)/\env.c_ 10=some (ZZ X.length)/\env.c_ 9=some v/\env.c_ 0=some (.u b 0)/\env.c_ 4=some v4/\env.c_ 5=some v5/\
  i<=X.length/\Gs hh h.i 1 v4 ((X.take i).map fun x=>ZZ (aF Ks x))/\Gs hh h.i 1 v5 ((X.take i).map fun x=>.h (bK Ks x))/\(∀y∈vb v4,y∉vb v5)/\n=X.length-i) X.length oM ?_ ?_
 exact⟨Vk w,0,.j,.j,iS,iS,iS,iS,iS,iS,oM,.inl ⟨rfl,rfl⟩,.inl ⟨rfl,rfl⟩,by simp[vb],rfl⟩;rintro n env hh ⟨F,i,v4,v5,ak,a3,g9,g0,g4,g5,hi,G4,G5,dj,rfl⟩;by_cases br:i<X.length;have ae:(i:Int)<X.length:=oM;let⟨bi,oi,x,p1,_,p3,p4⟩:=(sl.fr F).ix (f:=e_.s) (k:=4) (fun _=>rfl) .i64 (i:Int) oM ae;rw[pi]at p4;let⟨a,ht⟩:=hX x (Vg p4);let⟨h3,bC,bz,bB⟩:=au F.r [ZX 0,ZY 0,.f [],.j];simp only[a_,seval,ak,a3,g9,ae,p1,p3,<-bC];refine ao (c':=x.s) bz.r bB rfl a.O rfl ?_;rintro h4 o4 F4 n4;have ab:Fr [] hh h4:=bz.y F4 F.r (Ve _);have F0:=F.c ab;let⟨vK,c2,c3,c4,ob,rk,kh⟩:=r.fr F0;have l0:ag h4 b 0=some vK:=ob.o 0;have x1:ag h4 hh.i 1=some (ZY (x.N:Int)):=o4.o 1;let⟨bk,ok',q,q1,_,q3,q4⟩:=(Yj fg rk .u8 (x.N:Int) oM oM);rw[pi]at q4;have hq:=kh q (Vg q4);have e1:aF Ks x=q.W:=by simp[aF,q4]
 have e2:bK Ks x=q.Z:=by simp[bK,q4]
 let⟨h5,bA,bw,bD⟩:=au ab.r [ZY 0,.f [],.f [],.j,.f [],.j,ZZ 0,.h false,ZZ 0];simp only[a_,seval,g_,g0,l0,x1,q1,q3,<-bA];have a8:ag h5 b 0=some vK:=(bw.c_ ob).o 0;refine ao (c':=q.s) bw.r bD rfl hq.bO rfl ?_;rintro Z o6 F6 n6;have K:Fr [] h4 Z:=bw.y F6 ab.r (Ve _);have bt:ag Z hh.i 1=some (ZY (x.N:Int)):=(K.c_ o4).o 1;have bh:ag Z b 0=some vK:=(K.c_ ob).o 0;have a1:∀h',Fr [] h4 h'->aq h' bk ok' 9=some q.s:=by intro h' f;let⟨b9,o9,_,r1,_,r3,r4⟩:=(Yj fg (VJ rk f) .u8 (x.N:Int) oM oM);rw[pi,q4]at r4;cases r4;rw[q1]at r1;cases r1;exact r3
 have q5:=a1 h5 bw;have q6:=a1 Z K;have x5:ag h5 hh.i 1=some (ZY (x.N:Int)):=(bw.c_ o4).o 1;simp only[a_,DF,l0,x1,q3,a8,q5,x5];have F7:=VL K.r [ZZ q.W];have o7:=F7.c_ o6;have F8:=VL F7.r [.h q.Z];have w1:=Wi K.r [ZZ q.W];have w2:=Wi F7.r [.h q.Z];have l6:ag Z h4.i 6=some (ZZ q.W):=o6.o 6;have l7:ag (k_ Z [ZZ q.W]) h4.i 7=some (.h q.Z):=o7.o 7;refine(FM _ _ _ _ _ _).2 ?_;rw[Pa (v4:=v4) (v5:=v5) (b8:=h4.i) iX iX iS l6 l7,jQ];have o8:=F8.c_ o7;have af:ag (k_ (k_ Z [ZZ q.W]) [.h q.Z]) h4.i 6=some (ZZ q.W):=o8.o 6;have a5:ag (k_ (k_ Z [ZZ q.W]) [.h q.Z]) h4.i 7=some (.h q.Z):=o8.o 7;have a4:=F8.c_ w1;have aH:f_ (k_ (k_ Z [ZZ q.W]) [.h q.Z]) (Z.i+1) [.h q.Z]:=w2;have an:Fr [] Z (k_ (k_ Z [ZZ q.W]) [.h q.Z]):=F7.c F8;have nx:(k_ (k_ Z [ZZ q.W]) [.h q.Z]).i=Z.i+2:=rfl;generalize k_ (k_ Z [ZZ q.W]) [.h q.Z]=h8 at af a5 a4 aH an nx o8|-;simp only[a_,seval,g_,g4,af,N2];have ac:Fr [] hh h8:=(ab.c K).c an;have bn:=ac.i;have bj:=K.i;have bv:=F.i;have aj:∀y∈vb v4,y<hh.i:=by obtain⟨rfl,_⟩|⟨b,n,rfl,_,_,_,o⟩:=G4;simp[vb];have:=o.lt F.r;simp only[vb,Vu];rintro y rfl;exact this
 have ba:∀y∈vb v5,y<hh.i:=by obtain⟨rfl,_⟩|⟨b,n,rfl,_,_,_,o⟩:=G5;simp[vb];have:=o.lt F.r;simp only[vb,Vu];rintro y rfl;exact this
 have bm:hh.i<=h4.i:=ab.i;refine WY (n:=1) an.r (G4.fr ac) (Wy a4 rfl) oM oM rfl oM oO ?_;intro a6 h9 G9 e9 F9;have bp:ag h9 h4.i 6=some (ZZ q.W):=(F9.D _ _ (fun m=>by have:=aj _ m;omega) o8).o 6;have ar:ag h9 h4.i 7=some (.h q.Z):=(F9.D _ _ (fun m=>by have:=aj _ m;omega) o8).o 7;have bf:=F9.D _ _ (fun m=>by have:=aj _ m;omega) aH;have a7:Gs h9 h.i 1 v5 ((X.take i).map fun x=>.h (bK Ks x)):=by obtain⟨rfl,z⟩|⟨b,n,rfl,z1,z2,z3,o⟩:=G5.fr ac;exact .inl ⟨rfl,z⟩;exact .inr ⟨b,n,rfl,z1,z2,z3,F9.D _ _ (fun m=>dj _ m (by simp[vb])) o⟩
 simp only[a_,seval,g_,g5,ar,N1];have bo:=F9.i;refine WY (n:=1) F9.r a7 (Wy bf rfl) oM oM rfl oM oO ?_;intro bc a0 a9 bg ay;have ax:Fr [] h a0:=by refine Ww w (Ww w (F.c ac) F9 (fun y hy=>?_)) ay (fun y hy=>?_);obtain⟨rfl,_⟩|⟨b,n,rfl,_,_,hb,o⟩:=G4;simp[vb]at hy;simp[vb]at hy;omega;obtain⟨rfl,_⟩|⟨b,n,rfl,_,_,hb,o⟩:=G5;simp[vb]at hy;simp[vb]at hy;omega
 have a2:Gs a0 h.i 1 a6 ((X.take i).map (fun x=>ZZ (aF Ks x))++[ZZ q.W]):=by obtain⟨rfl,z⟩|⟨b,n,rfl,z1,z2,z3,o⟩:=G9;exact .inl ⟨rfl,z⟩;refine .inr ⟨b,n,rfl,z1,z2,z3,ay.D _ _ (fun m=>?_) o⟩;have:=ba _ m;simp[vb]at e9;omega
 simp(disch:=omega) only[a_,seval,DF,g_,ah,ak,af,a5,ar];refine t_ ⟨X.length-(i+1),oM,ax,i+1,a6,bc,iS,iX,iX,iX,iS,iS,oM,?_,?_,?_,rfl⟩;rw[Vs,p4];simpa[e1]using a2;rw[Vs,p4];simpa[e2]using a9;have:h8.i<h9.i:=by obtain⟨rfl,_⟩|⟨b,n,rfl,_,_,_,o⟩:=G9;simp[vb]at e9;have:=o.lt F9.r;simp[vb]at e9;omega
 rw[e9,bg];simp;omega;simp only[a_,seval,ak,a3,g4,g5,(oM:¬(i:Int)<X.length)];rw[Vm oM]at G4 G5;exact⟨v4,v5,rfl,G4,G5,F⟩
def V5(h:b_)(S:List Nat):Prop:=∀b∈S,∀c,f_ h b c->c.length≠6/\∀L:List (Int×Int),0<L.length->c≠L.flatMap sp
theorem At.ap{h:b_}{S:List Nat}(f:Fr S h h')(o:V5 h S):∀{t:Tr}{p:Option Nat},At h t p->At h' t p
 |.D_,_,a=>a
 |.X l s r,_,⟨q,pl,pr,e,oq,al,ar⟩=>⟨q,pl,pr,e,f.D _ _ (fun m=>(o q m _ oq).1 rfl) oq,At.ap f o al,At.ap f o ar⟩
theorem P3.ap{h:b_}{b:Nat}{l:List Int}{S:List Nat}(a:P3 h b pm l ks bs)(f:Fr S h h')(o:V5 h S)(hb:b∉S)(hp:∀q,pm=some q->q∉S):P3 h' b pm l ks bs:=by
 let⟨p,vk,ow,v1,⟨p',ab,L,e1,⟨t,p2,e2,at',tl,ft⟩,sL,x⟩,mk,e⟩:=a;refine⟨p,vk,f.D _ _ hb ow,v1,⟨p',ab,L,e1,⟨t,p2,e2,At.ap f o at',tl,ft⟩,?_,x⟩,?_,e⟩;obtain z|⟨q,e3,Z,K⟩:=sL;exact .inl z;exact .inr ⟨q,e3,f.D _ _ (fun m=>(o q m _ Z).2 L K rfl) Z,K⟩;cases pm with
 |none=>exact mk
 |some q=>let⟨ws,Z,y⟩:=mk;exact⟨ws,f.D _ _ (hp q rfl) Z,y⟩
theorem yx{c:List V}(n:R6 c):∀L:List (Int×Int),0<L.length->c≠L.flatMap sp:=by
 intro L p e;cases L with
 |nil=>simp at p
 |cons s L=>exact n (ZZ s.1) (by rw[e];simp[sp]) _ rfl
open Go.Ev.St
theorem Km.ap{h:b_}{b S c:Nat}{m:Nat->Option Nat}{X:List Nat}(k:Km h b S m c)(f:Fr X h h')(Z:b∉X)(hS:S∉X):Km h' b S m c:=by obtain⟨o,x⟩|⟨v,sl,t,k,x⟩:=k;exact .inl ⟨f.D _ _ Z o,x⟩;exact .inr ⟨v,sl,t,{k with ob:=f.D _ _ Z k.ob,tb:=⟨k.tb.1,f.D _ _ hS k.tb.2⟩},x⟩
theorem Km.lt{h:b_}{b S c:Nat}{m:Nat->Option Nat}(k:Km h b S m c)(w:WF h):b<h.i:=by obtain⟨o,x⟩|⟨v,sl,t,k,x⟩:=k;exact o.lt w;exact k.ob.lt w
theorem gM{c:List V}{n:Nat}(h:c.length=2*n+1):∀L:List (Int×Int),0<L.length->c≠L.flatMap sp:=by rintro L _ rfl;have:=aG eQ L;omega
theorem V5.W3{h:b_}{A B:List Nat}(a:V5 h A)(b:V5 h B):V5 h (A++B):=fun x m=>(Vc.1 m).elim (a x) (b x)
theorem V5.D{h:b_}{b:Nat}{c:List V}(o:f_ h b c)(Z:c.length≠6)(hs:∀L:List (Int×Int),0<L.length->c≠L.flatMap sp):V5 h [b]:=by intro x m c' K;simp at m;subst m;rw[K.ae o];exact⟨Z,hs⟩
theorem Gp.g{h:b_}{b B n:Nat}{l:List V}(w:WF h)(g:Gp h b B n l)(Z:B<h.i->f_ h B []\/∀c,f_ h B c->c.length%4=0/\R6 c):V5 h [b,B]:=by
 let⟨v,c1,G,c2,a,gg,m,k,_⟩:=g;intro x mx c o;simp at mx;obtain rfl|rfl:=mx;rw[o.ae k.c];exact⟨iS,gM (n:=1) rfl⟩;obtain e|e:=Z (o.lt w);rw[o.ae e];exact⟨iS,fun L p q=>by cases L with|nil=>simp at p|cons s L=>simp[sp]at q⟩
 let⟨e1,K⟩:=e c o;exact⟨oM,yx K⟩
theorem P_.an{h:b_}{B:Nat}(g:P_ h B):V5 h [B]:=by let⟨c,o,a,b⟩:=g;exact V5.D o a b
theorem Gp.a{h:b_}{b B n:Nat}{l:List V}(g:Gp h b B n l)(h0:0<n):P_ h B:=by obtain⟨v,c1,G,c2,a,Z,m,k,_,rfl⟩:=g;obtain⟨K,⟨_,z⟩|⟨_,o⟩⟩:=k.d;omega;exact⟨_,o,oM,yx k.p⟩
theorem Gp.c{h:b_}{b B n:Nat}{l:List V}(g:Gp h b B n l):P_ h b/\B≠b:=by obtain⟨v,c1,G,c2,a,Z,m,k,_,rfl⟩:=g;exact⟨⟨_,k.c,iS,gM (n:=1) rfl⟩,k.l⟩
structure Dis(b bg B bm S bl:Nat)(pm:Option Nat):Prop where
 o:b≠bg
 n:b≠B
 j:b≠bm
 k:b≠S
 r:b≠bl
 e:bg≠bm
 d:bg≠S
 m:bg≠bl
 c:B≠bm
 a:B≠S
 g:B≠bl
 i:bm≠bl
 f:S≠bl
 p:∀q,pm=some q->q≠b/\q≠bg/\q≠B/\q≠bm/\q≠S/\q≠bl
def Wr(b bg B bm S bl:Nat)(pm:Option Nat):List Nat:=[b,bg,B,bm,S,bl]++pm.toList
abbrev NL:=Nat×Option Nat
def Lx(n:NL)(z:Nat):Prop:=z<n.1\/n.2=some z
theorem Lx.a{n z:Nat}(h:Lx (n,none) z):z<n:=h.elim id fun e=>by cases e
structure H_(n0:NL)(h:b_)(b:Nat)(Ks:List w_)(cap:Int)(X:List e_)(l:List Int)(kn st:List Bool)(vK:V)(bg B bm S bl:Nat)(pm:Option Nat)(mc:cJ):Prop where
 ob:f_ h b [vK,ZZ cap,.u bg 0,.u bm 0,.u bl 0]
 g:Gp h bg B X.length (X.flatMap e_.s)
 gB:P_ h B
 k:Km h bm S mc.1 mc.2
 gS:P_ h S
 lo:P3 h bl pm l kn st
 A_:l.length=X.length
 rd:∀(Z:List Nat)(h':b_),(∀z∈Z,z∈Wr b bg B bm S bl pm\/h.i<=z\/Lx n0 z)->Fr Z h h'->o_ w_.s 9 h' vK Ks/\(∀q∈Ks,Q4 h' q)/\∀x∈X,q_ h' x
 d:Dis b bg B bm S bl pm
 aB:S<h.i
 pl:∀q,pm=some q->q<h.i
 au:bl<h.i
 ax:∀z,Lx n0 z->z<h.i
theorem Sl.aJ{h:b_}{e:Nat}{v:V}{n:Nat}(a:Sl h e v n cs)(k:IntKind)(i:Int):v≠.C k i:=by rintro rfl;exact a.2.elim
theorem fW(x:e_)(v:V):(x.D v).s=[ZX (x.A:Int),ZY (x.N:Int),.f x.U,v]:=rfl
theorem Km.ao{h:b_}{b S c:Nat}{m:Nat->Option Nat}(k:Km h b S m c):P_ h b:=by obtain⟨o,x⟩|⟨v,sl,t,k,x⟩:=k;exact⟨_,o,iS,gM (n:=1) rfl⟩;exact⟨_,k.ob,iS,gM (n:=1) rfl⟩
theorem P_.lt{h:b_}{b:Nat}(g:P_ h b)(w:WF h):b<h.i:=by let⟨c,o,_⟩:=g;exact o.lt w
theorem P3.aX{h:b_}{b:Nat}{l:List Int}(a:P3 h b pm l ks bs)(w:WF h):(∀q,pm=some q->q<h.i)/\b<h.i:=by let⟨p,vk,o,_,_,mk,_⟩:=a;refine⟨?_,o.lt w⟩;rintro q rfl;let⟨K,Z,_⟩:=mk;exact Z.lt w
theorem C9{x:e_}{v:V}(h:∀n:Int,v≠ ZZ n):R6 (x.D v).s:=by intro y m n;rw[fW]at m;simp at m;obtain rfl|rfl|rfl|rfl:=m;simp;simp;simp;exact h n
def U8:List e_->List e_->Prop
 |[],[]=>True
 |x::l,y::m=>(∃v,y=x.D v/\nZ v=true)/\U8 l m
 |_,_=>False
theorem U8.A_:∀{a b:List e_},U8 a b->a.length=b.length
 |[],[],_=>rfl
 |_::_,_::_,h=>by simp[U8.A_ h.2]
 |[],_::_,h=>h.elim
 |_::_,[],h=>h.elim
theorem U8.W3:∀{a b c d:List e_},U8 a b->U8 c d->U8 (a++c) (b++d)
 |[],[],_,_,_,g=>g
 |_::_,_::_,_,_,h,g=>⟨h.1,U8.W3 h.2 g⟩
 |[],_::_,_,_,h,_=>h.elim
 |_::_,[],_,_,h,_=>h.elim
theorem U8.bM:∀{a b:List e_}{y:e_},U8 a b->y∈b->∃x∈a,∃v,y=x.D v
 |x::a,z::b,y,h,m=>by obtain rfl|m:=Vo.1 m;let⟨⟨v,e,_⟩,_⟩:=h;exact⟨x,iS,v,e⟩;let⟨x',hx,e⟩:=U8.bM h.2 m;exact⟨x',by simp[hx],e⟩
 |[],[],_,_,m=>by simp at m
 |[],_::_,_,h,_=>h.elim
 |_::_,[],_,h,_=>h.elim
theorem Sl.nz{h:b_}{e:Nat}{v:V}{n:Nat}(a:Sl h e v n cs):nZ v=true:=by cases v<;>first|rfl|exact a.2.elim
theorem U8.nz:∀{a b:List e_},U8 a b->∀y∈b,nZ y.vm=true
 |x::a,z::b,h,y,m=>by obtain rfl|m:=Vo.1 m;obtain⟨⟨v,rfl,z⟩,_⟩:=h;exact z;exact U8.nz h.2 y m
 |[],[],_,_,m=>by simp at m
 |[],_::_,h,_,_=>h.elim
theorem CU{n0:NL}{h:b_}{b B S p:Nat}{Y:List e_}{l:List Int}{v:V}{mc:cJ}(w:WF h)(s:H_ n0 h b Ks cap X l kn st vK bg B bm S bl pm mc)
 (hp:p<=X.length) (hn:X.length+Y.length<=1024) (hc:mc.2+(X.length+Y.length)<=4096)
 (sv:∀(Z:List Nat)(K:b_),(∀z∈Z,z∈Wr b bg B bm S bl pm\/h.i<=z)->Fr Z h K->C_ e_.s 4 K v Y/\∀y∈Y,q_ K y)
 (hY:∀y∈Y,nZ y.vm=true/\y.N<Ks.length/\0<y.A) (hX:∀x∈X,0<x.A) (e0:cC l p (Y.map (aF Ks))=0):
 av go 96 [.u b 0,ZZ (p:Int),v] h fun u K=>u=ZZ 0/\∃Y' B' S' pm',U8 Y Y'/\
  H_ n0 K b Ks cap (X.take p++Y'++X.drop p) (l.take p++Y.map (aF Ks)++l.drop p) (kn.take p++List.replicate Y.length false++kn.drop p) (st.take p++Y.map (bK Ks)++st.drop p) vK bg B' bm S' bl pm'
   (dS mc ((X.take p++Y'++X.drop p).drop p) p)/\Fr (Wr b bg B bm S bl pm) h K/\(B'=B\/h.i<=B')/\(S'=S\/h.i<=S')/\(pm'=pm\/∀q,pm'=some q->h.i<=q):=by
 let⟨sY,cz⟩:=sv [] h iS (Vk w);let⟨rk,kh,xh⟩:=s.rd [] h iS (Vk w);refine ai ?_;simp only[a_,seval];refine aa (qk w ⟨vK,_,_,_,s.ob,rk,kh⟩ sY (fun y m=>⟨cz y m,(hY y m).2.1⟩) oM) ?_;rintro _ h1 ⟨v4,v5,rfl,G4,G5,F1⟩;have am:qz h1 v4 (Y.map (aF Ks)):=by have:=G4.sl (n:=(Y.map (aF Ks)).length) iS oM;unfold qz Q3;rw[VW];exact this
 have as:J_ h1 v5 (Y.map (bK Ks)):=by have:=G5.sl (n:=(Y.map (bK Ks)).length) iS oM;unfold J_ Q3;rw[VW];exact this
 have l4:ag h1 b 4=some (.u bl 0):=(F1.c_ s.ob).o 4;simp only[a_,seval,l4];apply aa (vw F1.r (s.lo.fr F1) am as oO iS oM oM);rintro _ h2 ⟨rfl,F2,pm',ba,ax⟩;rw[e0,if_pos rfl]at ax;simp only[pi,WG]at ax;have d:=s.d;have cc:∀q,pm'=some q->pm=some q\/h.i<=q:=by intro q hq;obtain rfl|⟨_,x⟩:=ba;exact .inl hq;exact .inr (VC F1.i (x q hq))
 have ac:Fr (bl::pm.toList) h h2:=Vn F1 F2 w iS (fun x m=>.inl m);have af:∀x,(∀q,pm=some q->q≠x)->bl≠x->x∉bl::pm.toList:=by intro x a c m;obtain q|q:=Vo.1 m;exact c q.symm;simp at q;exact a _ q rfl
 have bk:=ac.D b _ (af b (fun q e=>(d.p q e).1) d.r.symm) s.ob;have g2:=s.g.f ac (af bg (fun q e=>(d.p q e).2.1) d.m.symm) (af B (fun q e=>(d.p q e).2.2.1) d.g.symm);have a3:=s.gB.fr ac (af B (fun q e=>(d.p q e).2.2.1) d.g.symm);have k2:=s.k.ap ac (af bm (fun q e=>(d.p q e).2.2.2.1) d.i.symm) (af S (fun q e=>(d.p q e).2.2.2.2.1) d.f.symm);have bC:bg<h2.i:=by let⟨c,o,_⟩:=g2.c.1;exact o.lt F2.r
 have Bl:B<h2.i:=by let⟨c,o,_⟩:=a3;exact o.lt F2.r
 have a5:∀x,x∈bl::pm.toList->x∈Wr b bg B bm S bl pm:=by intro x m;simp only[Vo]at m;simp only[Wr,Vc,Vo];obtain m|m:=m;exact .inl (.inr (.inr (.inr (.inr (.inr (.inl m))))));exact .inr m
 have bf:∀K,Fr [bg,B] h2 K->C_ e_.s 4 K v Y/\∀y∈Y,q_ K y:=by intro K f;refine sv ((bl::pm.toList)++[bg,B]) K (fun z m=>?_) (Vn ac f w (fun x m=>.inl (Vc.2 (.inl m))) (fun x m=>.inl (Vc.2 (.inr m))));obtain m|m:=Vc.1 m;exact .inl (a5 z m);simp at m;left;simp only[Wr,Vc,Vo];obtain m|m:=m<;>simp[m]
 have bn:=(bf h2 (Vk F2.r)).1.A_;simp only[a_,seval,bn,e0];refine aC (fun n env hh=>∃(i B':Nat)(D:List e_),Fr [bg,B] h2 hh/\(B'=B\/h2.i<=B')/\B'<hh.i/\env.c_ 32=some (ZZ i)/\env.c_ 31=some (ZZ (Y.length:Nat))/\env.c_ 30=some v/\env.c_ 0=some (.u b 0)/\env.c_ 1=some (ZZ (p:Int))/\
  i<=Y.length/\U8 (Y.take i) D/\Gp hh bg B' (X.length+i) ((X.take p++D++X.drop p).flatMap e_.s)/\P_ hh B'/\
  (∀(Z:List Nat)(K:b_),(∀z∈Z,z<h2.i\/z=B'\/hh.i<=z)->Fr Z hh K->∀x∈D,o_ sS 1 K x.vm x.E)/\n=Y.length-i) Y.length oM ?_ ?_
 exact⟨0,B,[],Vk F2.r,.inl rfl,Bl,iS,iS,iS,iS,iS,oM,trivial,by simpa using g2,a3,iS,rfl⟩;rintro n env hh ⟨i,B',D,F,ae,bz,a2,bc,bw,g0,g1,hi,cp,gp,gd,bp,rfl⟩;have ak:=F.D b _ (by simp;exact⟨d.o,d.n⟩) bk;have dl:=cp.A_;rw[Xg,WE hi]at dl;by_cases co:i<Y.length;have a1:(i:Int)<Y.length:=oM;let⟨cS,c3⟩:=bf hh F;let⟨bi,oi,y,p1,_,p3,p4⟩:=cS.ix (f:=e_.s) (k:=4) (fun _=>rfl) .i64 (i:Int) oM a1;rw[pi]at p4;have ym:=Vg p4;have ay:=c3 y ym;let⟨h3,cE,cx,cA⟩:=au F.r [ZX 0,ZY 0,.f [],.j];simp only[a_,seval,a2,bc,bw,a1,p1,p3,<-cE];refine ao (c':=y.s) cx.r cA rfl ay.O rfl ?_;rintro h4 o4 F4 n4;have an:Fr [] hh h4:=cx.y F4 F.r (Ve _);have l2:ag h4 b 2=some (.u bg 0):=(an.c_ ak).o 2;have y4:aq h4 hh.i 0 4=some y.s:=by rw[o4.J];rfl
 simp(disch:=omega) only[a_,seval,g_,ah,g0,g1,l2,y4];apply aa (xv an.r (ay.fr an) (hY y ym).1);rintro _ h5 ⟨vy,rfl,F5,nE,v1,br⟩;have aH:=an.c F5;have b6:ag h5 b 2=some (.u bg 0):=(aH.c_ ak).o 2;let⟨h6,cy,ct,cu⟩:=au F5.r [ZX (y.A:Int),ZY (y.N:Int),.f y.U,vy];have n6:=s_ cy;have bV:ag h6 b 2=some (.u bg 0):=(ct.c_ (aH.c_ ak)).o 2;simp only[a_,seval,g_,fW,<-cy];have a4:=aH.c ct;have bA:=F.i;have ce:=an.i;have cn:=F5.i;have s6:Sl h6 4 (.z h5.i 0 1 1) 1 (y.D vy).s:=Wy cu rfl;have bT:aw (y.D vy).s=true:=by rw[fW];simp only[aA,aD,v1];rfl
 have bt:=br [] h5 iS (Vk F5.r);have bE:=gp.f a4 iS iS;apply aa (oX (p:=p+i) (q:=1) ct.r bE (fun K f=>Wy (f.D _ _ oO cu) rfl) bT (C9 fun n=>Sl.aJ bt _ _) oM oM);rintro _ h7 ⟨rfl,B2,a7,a8,F7⟩;have ch:ag h7 b 2=some (.u bg 0):=(F7.D _ _ (by simp;exact⟨d.o,by obtain rfl|q:=ae;exact d.n;have:=bk.lt F2.r;omega⟩) (ct.c_ (aH.c_ ak))).o 2
 simp(disch:=omega) only[a_,seval,DF,g_,ah,a2,l2,y4,b6,bV];have bh:=a8.a oM;have b7:B2<h7.i:=by let⟨c,o,_⟩:=bh;exact o.lt F7.r
 have b9:Fr [bg,B] h2 h7:=by refine Vn (Vn (T:=[bg,B]) F a4 F2.r (fun x m=>.inl m) iS) F7 F2.r (fun x m=>.inl m) (fun x m=>?_);simp at m;obtain rfl|rfl:=m;exact .inl iS;obtain rfl|q:=ae;exact .inl iS;exact .inr q
 have lA:(X.take p++D).length=p+i:=by simp;omega
 have eA:((X.take p++D++X.drop p).flatMap e_.s).take ((p+i) *4)++(y.D vy).s++((X.take p++D++X.drop p).flatMap e_.s).drop ((p+i) *4)=(X.take p++(D++[y.D vy])++X.drop p).flatMap e_.s:=by rw[cZ aT,bI aT,<-lA,XA,Xn];simp
 rw[<-fW y vy,eA,WJ]at a8;have f7:∀(Z:List Nat)(K:b_),Fr Z h7 K->Fr ([bg,B']++Z) h6 K:=fun Z K f=>Vn F7 f ct.r (fun x m=>.inl (Vc.2 (.inl m))) (fun x m=>.inl (Vc.2 (.inr m)));have ci:=F7.i;refine t_ ⟨Y.length-(i+1),oM,i+1,B2,D++[y.D vy],b9,?_,b7,iS,iX,iX,iX,iX,oM,?_,a8,bh,?_,rfl⟩;obtain rfl|q:=a7;exact ae;exact .inr oM;rw[Vs,p4];exact U8.W3 cp ⟨⟨vy,rfl,Sl.nz bt⟩,trivial⟩;intro Z K hZ f x hx;have f6:=f7 Z K f;obtain hx|hx:=Vc.1 hx;refine bp _ K (fun z m=>?_) (Vn a4 f6 F.r iS (fun x m=>.inl m)) x hx;obtain m|m:=Vc.1 m;simp at m;obtain rfl|rfl:=m;exact .inl bC;exact .inr (.inl rfl);obtain q|q|q:=hZ z m;exact .inl q;subst q;obtain q|q:=a7;exact .inr (.inl q);exact .inr (.inr oM);exact .inr (.inr oM);simp at hx;subst hx;have f5:=(Vn (T:=[bg,B']++Z) ct f6 F5.r iS (fun x m=>.inl m)).bK F5.r;refine br _ K (fun z m=>?_) f5;simp only[XE,decide_eq_true_eq]at m;let⟨m,m2⟩:=m;obtain m|m:=Vc.1 m;simp at m;obtain rfl|rfl:=m<;>omega
 obtain q|q|q:=hZ z m;omega;subst q;obtain q|q:=a7<;>omega
 omega;have bB:i=Y.length:=oM;subst bB;rw[Vm (Ve _)]at cp;have bj:Km hh bm S mc.1 mc.2:=k2.ap F (by simp;exact⟨d.e.symm,d.c.symm⟩) (by simp;exact⟨d.d.symm,d.a.symm⟩);have bv:P_ hh S:=(s.gS.fr ac (af S (fun q e=>(d.p q e).2.2.2.2.1) d.f.symm)).fr F (by simp;exact⟨d.d.symm,d.a.symm⟩);have lX:(X.take p++D++X.drop p).length=X.length+Y.length:=by simp;omega
 rw[<-lX]at gp;have a0:bm<h.i:=s.k.lt w;have key:∀x∈X.take p++D++X.drop p,0<x.A/\x.A<18446744073709551616:=by intro x m;obtain m|m:=Vc.1 m;obtain m|m:=Vc.1 m;have m:=Wl m;exact⟨hX x m,(xh x m).k⟩;obtain⟨y,ym,vy,rfl⟩:=cp.bM m;exact⟨(hY y ym).2.2,(cz y ym).k⟩;have m:=VU m;exact⟨hX x m,(xh x m).k⟩
 have cl:=F1.i;have bA:=F2.i;have cj:=F.i;have ar:=s.aB;have ab:∀x,x<h.i->x≠B->B'≠x:=fun x a c=>by obtain rfl|q:=ae;exact c.symm;omega
 simp only[a_,seval,a2,bc,g0,g1,(oM:¬((Y.length:Nat):Int)<(Y.length:Nat))];refine aa (yN (mc:=mc) F.r ak gp bj key oM (by rw[lX];exact hc) d.j d.k d.e d.d (ab bm a0 d.c.symm) (ab S ar d.a.symm) bz bv) ?_;rintro _ h3 ⟨rfl,S',aj,k3,F3,bo⟩;simp only[a_,seval];have b0:=s.ob.lt w;have cq:=s.g.c.1.lt w;have B0:=s.gB.lt w;have cb:=s.au;have S3:=bo.lt F3.r;have cr:=F3.i;let⟨cO,c4⟩:=ax.aX F2.r;have a9:∀q,pm'=some q->(pm=some q/\q<h.i)\/(h1.i<=q/\q<h2.i):=by intro q hq;obtain e|⟨_,x⟩:=ba;rw[e]at hq;exact .inl ⟨hq,s.pl q hq⟩;exact .inr ⟨x q hq,cO q hq⟩
 have a6:∀q,pm'=some q->q≠b/\q≠bg/\q≠B/\q≠B'/\q≠bm/\q≠S/\q≠S'/\q≠bl:=by
  intro q hq;obtain⟨e,z⟩|⟨z1,z2⟩:=a9 q hq;let⟨y1,y2,y3,y4,y5,y6⟩:=d.p q e;refine⟨y1,y2,y3,?_,y4,y5,?_,y6⟩;obtain rfl|r:=ae;exact y3;omega;obtain rfl|r:=aj;exact y5;omega;refine⟨oM,oM,oM,?_,oM,oM,?_,oM⟩;obtain rfl|r:=ae<;>omega
  obtain rfl|r:=aj<;>omega
 have nS:∀x,x<hh.i->x≠S->S'≠x:=fun x a c=>by obtain rfl|q:=aj;exact c.symm;omega
 have ca:P3 h3 bl pm' (l.take p++Y.map (aF Ks)++l.drop p) (kn.take p++List.replicate Y.length false++kn.drop p) (st.take p++Y.map (bK Ks)++st.drop p):=by refine P3.ap (P3.ap ax F (V5.W3 (A:=[bg]) g2.c.1.an a3.an) (by simp;exact⟨d.m.symm,d.g.symm⟩) (fun q e=>?_)) F3 (V5.W3 (A:=[bm]) bj.ao.an bv.an) (by simp;exact⟨d.i.symm,d.f.symm⟩) (fun q e=>?_);let⟨y1,y2,y3,y4,y5,y6,y7,y8⟩:=a6 q e;simp;exact⟨y2,y3⟩;let⟨y1,y2,y3,y4,y5,y6,y7,y8⟩:=a6 q e;simp;exact⟨y5,y6⟩
 refine⟨D,B',S',pm',cp,⟨F3.D b _ (by simp;exact⟨d.j,d.k⟩) ak,gp.f F3 (by simp;exact⟨d.e,d.d⟩) (by simp;exact⟨ab bm a0 d.c.symm,ab S ar d.a.symm⟩),gd.fr F3 (by simp;exact⟨ab bm a0 d.c.symm,ab S ar d.a.symm⟩),k3,bo,ca,?_,?_,?_,S3,fun q e=>by have:=cO q e;omega,oM,by exact fun z q=>by have:=s.ax z q;omega⟩,?_,?_,?_,?_⟩;have:=s.A_;simp;omega;intro Z K hZ f;have bW:Fr ([bg,B]++[bm,S]++Z) h2 K:=by refine Vn (Vn (T:=[bg,B]++[bm,S]) F F3 F2.r (fun x m=>.inl (Vc.2 (.inl m))) (fun x m=>.inl (Vc.2 (.inr m)))) f F2.r (fun x m=>.inl (Vc.2 (.inl m))) (fun x m=>.inl (Vc.2 (.inr m)))
 have f0:Fr ((bl::pm.toList)++([bg,B]++[bm,S]++Z)) h K:=Vn ac bW w (fun x m=>.inl (Vc.2 (.inl m))) (fun x m=>.inl (Vc.2 (.inr m)));have bD:∀z∈(bl::pm.toList)++([bg,B]++[bm,S]++Z),z∈Wr b bg B bm S bl pm\/h.i<=z\/Lx n0 z:=by
  intro z m;obtain m|m:=Vc.1 m;exact .inl (a5 z m);obtain m|m:=Vc.1 m;left;simp only[Wr,Vc,Vo,VD,or_false]at m|-;obtain(m|m)|(m|m):=m<;>simp[m]
  obtain q|q|q:=hZ z m;simp only[Wr,Vc,Vo,VD,or_false]at q;obtain(q|q|q|q|q|q)|q:=q;exact .inl (by simp[Wr,q]);exact .inl (by simp[Wr,q]);subst q;obtain r|r:=ae;exact .inl (by simp[Wr,r]);exact .inr (.inl oM);exact .inl (by simp[Wr,q]);subst q;obtain r|r:=aj;exact .inl (by simp[Wr,r]);exact .inr (.inl oM);exact .inl iX;simp at q;obtain⟨e,_⟩|⟨z1,_⟩:=a9 z q;exact .inl (by simp[Wr,e]);exact .inr (.inl oM);exact .inr (.inl oM);exact .inr (.inr q)
 let⟨cR,c0,cB⟩:=s.rd _ K bD f0;refine⟨cR,c0,fun x m=>?_⟩;obtain m|m:=Vc.1 m;obtain m|m:=Vc.1 m;exact cB x (Wl m);have fh:Fr ([bm,S]++Z) hh K:=Vn F3 f F.r (fun x m=>.inl (Vc.2 (.inl m))) (fun x m=>.inl (Vc.2 (.inr m)));have r:=bp _ K (fun z m=>?_) fh x m;obtain⟨y,ym,vy,rfl⟩:=cp.bM m;have ay:=cz y ym;exact⟨ay.k,ay.t,Sl.a r,ay.n,ay.l⟩;obtain m|m:=Vc.1 m;simp at m;obtain rfl|rfl:=m;exact .inl oM;exact .inl oM;obtain q|q|q:=hZ z m;simp only[Wr,Vc,Vo,VD,or_false]at q;obtain(q|q|q|q|q|q)|q:=q;exact .inl oM;exact .inl oM;exact .inr (.inl q);exact .inl oM;obtain r|r:=aj;exact .inl oM;exact .inr (.inr oM);exact .inl oM;simp at q;obtain⟨_,z1⟩|⟨_,z2⟩:=a9 z q;exact .inl oM;exact .inl oM;exact .inr (.inr oM);exact .inl (by have:=s.ax z q;omega);exact cB x (VU m);exact⟨d.o,(ab b b0 d.n).symm,d.j,(nS b oM d.k).symm,d.r,d.e,(nS bg oM d.d).symm,d.m,ab bm a0 d.c.symm,by
  obtain rfl|q:=aj;exact ab _ ar d.a.symm;omega,ab bl cb d.g.symm,d.i,nS bl oM d.f.symm,fun q e=>by
  let⟨y1,y2,y3,y4,y5,y6,y7,y8⟩:=a6 q e;exact⟨y1,y2,y4,y5,y7,y8⟩⟩
 refine Vn (Vn (T:=Wr b bg B bm S bl pm) ac F w (fun x m=>.inl (a5 x m)) (fun x m=>.inl ?_)) F3 w (fun x m=>.inl m) (fun x m=>.inl ?_);simp only[Wr,Vc,Vo,VD,or_false]at m|-;obtain m|m:=m<;>simp[m]
 simp only[Wr,Vc,Vo,VD,or_false]at m|-;obtain m|m:=m<;>simp[m]
 obtain r|r:=ae;exact .inl r;exact .inr oM;obtain r|r:=aj;exact .inl r;exact .inr oM;obtain e|⟨_,x⟩:=ba;exact .inl e;exact .inr fun q hq=>by have:=x q hq;omega
open Go.Ev.St
theorem CY{h:b_}{v:V}{L:List w_}(w:WF h)(a:o_ w_.s 9 h v L)(hL:∀q∈L,Q4 h q)(hn:L.length<=4096)(ok:U3 L cap=true):
 av go 8 [.B [v,ZZ cap]] h fun u h'=>∃b bg bm bl vK K,u=.G [.u b 0,ZZ 0]/\Fr [] h h'/\cK L K/\H_ (h.i,none) h' b K cap [] [] [] [] vK bg h.i bm bm bl none (fun _=>none,0)/\(∀y∈Wr b bg h.i bm bm bl none,h.i<=y):=by
 have nv:∀n:Int,v≠ ZZ n:=fun n=>Sl.aJ a _ _;apply Xk (Nz w a hL hn ok);rintro u h' ⟨b,bg,bm,bl,vK,K,rfl,F,sK,ob,ab,km,lo,c1,c2,c3,c4,c5,oB,st⟩;have w':=F.r;have gB:P_ h' h.i:=⟨_,oB,iS,by
  intro L p e;cases L with
  |nil=>simp at p
  |cons q L=>simp[sp]at e;exact nv _ e.1⟩
 have pl:=lo.aX w';refine⟨b,bg,bm,bl,vK,K,rfl,F,sK,⟨ob,?_,gB,km,km.ao,lo,rfl,?_,?_,km.lt w',iS,pl.2,fun z q=>Wn q.a F.i⟩,?_⟩;exact⟨.j,[],[],[],0,0,0,⟨ab,⟨rfl,.inl ⟨rfl,rfl⟩⟩,rfl,rfl,rfl,rfl,rfl,oM,oM,oM,fun x m=>by simp at m⟩,rfl,rfl⟩;intro Z h2 hZ f;let⟨x1,x2⟩:=st Z h2 (fun y m=>by
  obtain q|q|q:=hZ y m;simp[Wr]at q;obtain q|q|q|q|q:=q;exact .inr (.inl q);omega;omega;omega;omega;omega;exact .inl (by have:=q.a;omega)) f
 exact⟨x1,x2,iS⟩;exact⟨oM,oM,oM,oM,oM,oM,oM,oM,oM,oM,oM,oM,oM,iS⟩;intro y m;simp[Wr]at m;omega
section
variable {n0 : NL} {h : b_} {b : Nat} {Ks : List w_} {cap : Int} {X : List e_} {l : List Int} {kn st : List Bool} {vK : V} {bg B bm S bl : Nat} {pm : Option Nat} {mc : cJ}
theorem jm(s:H_ n0 h b Ks cap X l kn st vK bg B bm S bl pm mc):av go 44 [.u b 0] h fun u h'=>u=.h false/\h=h':=by have l2:ag h b 2=some (.u bg 0):=s.ob.o 2;refine ai ?_;simp[a_,l2]
theorem mA(s:H_ n0 h b Ks cap X l kn st vK bg B bm S bl pm mc):av go 11 [.u b 0] h fun u h'=>u=ZZ (X.length:Nat)/\h=h':=by have l2:ag h b 2=some (.u bg 0):=s.ob.o 2;refine ai ?_;simp[a_];refine aa (jm s) ?_;rintro _ _ ⟨rfl,rfl⟩;simp[a_,l2];apply aa (AL s.g);rintro _ _ ⟨rfl,rfl⟩;simp[a_]
end
open Go.Ev.St
theorem GG{n0:NL}{h:b_}{b B S p:Nat}{Y:List e_}{l:List Int}{v:V}{mc:cJ}(w:WF h)(s:H_ n0 h b Ks cap X l kn st vK bg B bm S bl pm mc)
 (hp:p<=X.length) (hn:Y.length<=1024) (hx:X.length<=1024) (sY:C_ e_.s 4 h v Y) (ab:∀y∈Y,q_ h y/\y.N<Ks.length) (e0:cC l p (Y.map (aF Ks))≠0):
 av go 96 [.u b 0,ZZ (p:Int),v] h fun u h'=>u=ZZ (cC l p (Y.map (aF Ks)))/\Fr (bl::pm.toList) h h':=by
 let⟨rk,kh,xh⟩:=s.rd [] h iS (Vk w);refine ai ?_;simp[a_];refine aa (qk w ⟨vK,_,_,_,s.ob,rk,kh⟩ sY ab oM) ?_;rintro _ K ⟨v4,v5,rfl,G4,G5,Z⟩;have am:qz K v4 (Y.map (aF Ks)):=by have:=G4.sl (n:=(Y.map (aF Ks)).length) iS oM;unfold qz Q3;rw[VW];exact this
 have as:J_ K v5 (Y.map (bK Ks)):=by have:=G5.sl (n:=(Y.map (bK Ks)).length) iS oM;unfold J_ Q3;rw[VW];exact this
 have l4:ag K b 4=some (.u bl 0):=(Z.c_ s.ob).o 4;simp[a_,l4];apply aa (vw Z.r (s.lo.fr Z) am as oO iS oM oM);rintro _ h2 ⟨rfl,F2,_⟩;simp[a_,eq_false e0];exact Vn Z F2 w iS (fun x m=>.inl m)
theorem H_.bW{n0:Nat}{m0:NL}{h:b_}{b b' B S:Nat}{l:List Int}{mc:cJ}{c0:List V}(w:WF h)(s:H_ (n0,none) h b' Ks cap X l kn st vK bg B bm S bl pm mc)
 (ge:∀y∈Wr b' bg B bm S bl pm,n0<=y) (o0:f_ h b c0) (h5:c0.length=5) (hb:b<n0) (hm:∀z,Lx m0 z->z<n0) (f:Fr [b] h h') (ob:f_ h' b [vK,ZZ cap,.u bg 0,.u bm 0,.u bl 0]):
 H_ m0 h' b Ks cap X l kn st vK bg B bm S bl pm mc:=by
 have g:∀y∈Wr b' bg B bm S bl pm,y≠b:=fun y m=>by have:=ge y m;omega
 simp only[Wr,Vc,Vo,VD,or_false]at g;have g1:=g bg iS;have g2:=g B iS;have g3:=g bm iS;have K:=g S iS;have g5:=g bl iS;have g6:∀q,pm=some q->q≠b:=fun q e=>g q iX;have d:=s.d;have fn:=f.i;have n0l:=s.ax;refine⟨ob,s.g.f f (eV g1) (eV g2),s.gB.fr f (eV g2),s.k.ap f (eV g3) (eV K),s.gS.fr f (eV K),?_,s.A_,?_,?_,by have:=s.aB;omega,fun q e=>by have:=s.pl q e;omega,by have:=s.au;omega,fun z q=>by have:=hm z q;have:=n0l z (.inl this);omega⟩
 ·exact s.lo.ap f (V5.D o0 oM (gM (n:=2) h5)) (eV g5) (fun q e=>by simpa using g6 q e)
 ·intro Z h2 hZ f2;refine s.rd ([b]++Z) h2 (fun z m=>?_) (Vn f f2 w (fun x m=>.inl (Vc.2 (.inl m))) (fun x m=>.inl (Vc.2 (.inr m))));obtain m|m:=Vc.1 m
  ·simp at m;subst m;exact .inr (.inr (.inl hb))
  ·obtain q|q|q:=hZ z m
   ·simp only[Wr,Vc,Vo,VD,or_false]at q|-;obtain(q|q|q|q|q|q)|q:=q
    ·exact .inr (.inr (.inl oM))
    all_goals exact .inl iX
   ·omega
   ·exact .inr (.inr (.inl (hm z q)))
 ·exact⟨g1.symm,g2.symm,g3.symm,K.symm,g5.symm,d.e,d.d,d.m,d.c,d.a,d.g,d.i,d.f,fun q e=>⟨g6 q e,(d.p q e).2⟩⟩
theorem yL{p:Nat->Bool}:∀{seen:List Nat}{Y:List e_},dZ Ks cap p seen Y=0->∀y∈Y,P0 y Ks.length=true
 |_,[],_,y,m=>by simp at m
 |seen,x::r,e,y,m=>by simp only[dZ]at e;by_cases c1:P0 x Ks.length=false;grind;rw[if_neg c1]at e;by_cases c2:x.A∈seen\/p x.A=true;grind;rw[if_neg c2]at e;by_cases c3:bP Ks cap x≠0;omega;rw[if_neg c3]at e;obtain rfl|m:=Vo.1 m;simpa using c1;exact yL e y m
theorem hU{K:List w_}(h:cK Ks K)(y:e_):aF K y=aF Ks y/\bK K y=bK Ks y:=by
 unfold aF bK;cases e:Ks[y.N]? with
 |none=>
  have:K[y.N]? =none:=by rw[List.getElem?_eq_none_iff]at e|-;rw[<-eg h];exact e
  rw[this];exact⟨rfl,rfl⟩
 |some q=>let⟨p,e2,s⟩:=ou h e;rw[e2];let⟨_,_,_,_,_,h6,Z,_⟩:=s;exact⟨h6.symm,Z.symm⟩
theorem JU(h0:b_):D2 h0 106 [] (fun _=>false):=⟨dI,fun h k f _=>by
 refine ai ?_;simp[a_];exact Vk f.r⟩
def Ez(Ks:List w_)(cap:Int)(Y:List e_):Int:=if 1024<Y.length then 3 else if dZ Ks cap (fun _=>false) [] Y≠0 then dZ Ks cap (fun _=>false) [] Y else cC [] 0 (Y.map (aF Ks))
theorem GO{n0:NL}{h:b_}{b B S:Nat}{Y:List e_}{l:List Int}{v:V}{mc:cJ}{a0 c0 t0:V}(w:WF h)(s:H_ n0 h b Ks cap X l kn st vK bg B bm S bl pm mc)(ok:U3 Ks cap=true)
 (sY:C_ e_.s 4 h v Y) (hY:∀y∈Y,q_ h y/\nZ y.vm=true) (hl:Y.length<=4096) (ones:aw [k0,a0,c0,t0,v]=true):
 av go 50 [.u b 0,.B [k0,a0,c0,t0,v]] h fun u h'=>u=ZZ (Ez Ks cap Y)/\(Ez Ks cap Y≠0->Fr [] h h')/\
  (Ez Ks cap Y=0->Fr [b] h h'/\∃K Y' vK' bg' B' bm' S' bl' pm',cK Ks K/\U8 Y Y'/\H_ n0 h' b K cap Y' (Y.map (aF Ks)) (List.replicate Y.length false) (Y.map (bK Ks)) vK' bg' B' bm' S' bl' pm' (dS (fun _=>none,0) Y' 0)/\∀y∈[bg',B',bm',S',bl']++pm'.toList,h.i<=y):=by
 let⟨rk,kh,xh⟩:=s.rd [] h iS (Vk w);have hK:Ks.length<=8:=by simp only[U3,Vd,decide_eq_true_eq]at ok;exact ok.2.1
 let⟨h1,a6,a5,a7⟩:=au w [k0,a0,c0,t0,v];have n1:=s_ a6;have l4:ag h1 h.i 4=some v:=a7.o 4;unfold Ez;by_cases c1:1024<Y.length;refine ai ?_;simp only[a_,↓reduceIte,Nat.reduceEqDiff,<-a6,l4,(sY.fr a5).A_,(oM:(1024:Int)<(Y.length:Nat))];rw[if_pos c1];exact⟨rfl,fun _=>a5,fun e=>by cases e⟩;refine ai ?_;simp only[a_,↓reduceIte,Nat.reduceEqDiff,<-a6,l4,(sY.fr a5).A_,(oM:¬(1024:Int)<(Y.length:Nat))];rw[if_neg c1];apply aa (rR a5.r (T_.fr ⟨vK,_,_,_,s.ob,rk,kh⟩ a5) hK (sY.fr a5) (fun y m=>(hY y m).1.fr a5) hl (JU h1));rintro _ h2 ⟨rfl,F2⟩;have ab:=a5.c F2;by_cases c2:dZ Ks cap (fun _=>false) [] Y=0;have good:=yL c2;rw[c2,if_neg iS];have a2:=ab.c_ s.ob;have r2:aq h2 b 0 2=some [vK,ZZ cap]:=by rw[a2.J];rfl
 simp only[a_,↓reduceIte,Nat.reduceEqDiff,r2];apply aa (CY ab.r (VJ rk ab) (fun q m=>(kh q m).fr ab) oM ok);rintro _ h3 ⟨b',bg',bm',bl',vK',K,rfl,F3,sK,s3,ae⟩;have aj:=ab.c F3;have ar:ag h3 h.i 4=some v:=(F3.c_ (F2.c_ a7)).o 4;have a3:=ab.i;have eb:Y.map (aF K)=Y.map (aF Ks):=Xt fun y _=>(hU sK y).1;have es:Y.map (bK K)=Y.map (bK Ks):=Xt fun y _=>(hU sK y).2;have ak:∀y∈Wr b' bg' h2.i bm' bm' bl' none,h.i<=y:=fun y m=>by have:=ae y m;omega
 have ht:∀y∈Y,y.N<K.length/\0<y.A:=by intro y m;have:=good y m;simp only[P0,Vd,decide_eq_true_eq]at this;rw[<-eg sK];exact⟨this.2.1,oM⟩
 by_cases c3:cC [] 0 (Y.map (aF K))=0;have ac:=c3;rw[eb]at ac;have ax:∀x∈([]:List e_),0<x.A:=by simp
 simp only[a_,↓reduceIte,Nat.reduceEqDiff,ar];refine aa (CU (p:=0) F3.r s3 iS oO oO (fun Z x hZ f=>?_) (fun y m=>⟨(hY y m).2,ht y m⟩) ax c3) ?_;have fz:Fr [] h x:=Ww w aj f (fun y m=>by
  obtain q|q:=hZ y m;exact ak y q;have:=F3.i;omega)
 exact⟨sY.fr fz,fun y m=>(hY y m).1.fr fz⟩;rintro _ h4 ⟨rfl,Y',B',S',pm',cp,s4,F4,aH,a1,ay⟩;have af:Fr [] h h4:=Ww w aj F4 ak;simp[eb,es]at s4;have l5:aq h4 b' 0 5=some [vK',ZZ cap,.u bg' 0,.u bm' 0,.u bl' 0]:=by rw[s4.ob.J];rfl
 simp only[a_,↓reduceIte,Nat.reduceEqDiff,l5];refine ao (c':=[vK',ZZ cap,.u bg' 0,.u bm' 0,.u bl' 0]) af.r (af.c_ s.ob) rfl (by
  have v1:vK'.O=true:=Wj (s4.rd [] h4 iS (Vk F4.r)).1;simp only[V.s,aA,aD,v1];rfl) rfl ?_
 intro h5 o5 F5 n5;have a4:=F3.i;have wr:∀y∈Wr b' bg' B' bm' S' bl' pm',h2.i<=y:=by
  intro y m;simp only[Wr,Vc,Vo,VD,or_false]at m ae;obtain(rfl|rfl|rfl|rfl|rfl|rfl)|m:=m;exact ae _ iS;exact ae _ iS;obtain rfl|q:=aH<;>omega
  exact ae _ iS;obtain rfl|q:=a1;exact ae _ iS;omega;exact ae _ iS;obtain rfl|q:=ay;simp at m;have:=q y (eV m);omega
 have s5:=H_.bW (m0:=n0) F4.r s4 wr (af.c_ s.ob) rfl ((ab.c_ s.ob).lt ab.r) (fun z q=>by have:=s.ax z q;have:=ab.i;omega) F5 o5;have f5:Fr [b] h h5:=Vn af F5 w (fun y hy=>by simp at hy) (fun y hy=>.inl hy);simp only[a_,↓reduceIte,eq_true ac];refine⟨by rw[ac],fun e=>absurd ac e,fun _=>⟨f5,K,Y',vK',bg',B',bm',S',bl',pm',sK,cp,s5,fun y m=>?_⟩⟩;have:=wr y (by
  simp only[Wr,Wq,Wv,Vo]at m|-;exact .inr m)
 omega;have ac:=c3;rw[eb]at ac;simp only[a_,↓reduceIte,Nat.reduceEqDiff,ar];apply aa (GG (p:=0) F3.r s3 iS oM iS (sY.fr aj) (fun y m=>⟨(hY y m).1.fr aj,(ht y m).1⟩) c3);rintro _ h4 ⟨rfl,F4⟩;rw[eb];have af:Fr [] h h4:=Ww w aj F4 (fun y m=>by
  have:=ae y (by simp[Wr]at m|-;omega);omega)
 have an:¬cC [] ((0:Nat):Int) (Y.map (aF Ks))=0:=ac;simp only[a_,↓reduceIte,Nat.reduceEqDiff,eq_false an];refine⟨rfl,fun _=>af,fun e=>absurd e ac⟩;rw[if_pos c2];simp only[a_,↓reduceIte,Nat.reduceEqDiff,eq_false c2];exact⟨fun _=>ab,fun e=>e.elim⟩
theorem H_.fr{n0:NL}{h:b_}{b B S:Nat}{l:List Int}{mc:cJ}(w:WF h)(s:H_ n0 h b Ks cap X l kn st vK bg B bm S bl pm mc)(f:Fr [] h h'):
 H_ n0 h' b Ks cap X l kn st vK bg B bm S bl pm mc:=by
 have fn:=f.i;refine⟨f.c_ s.ob,s.g.f f iS iS,s.gB.fr f iS,s.k.fr f,s.gS.fr f iS,s.lo.fr f,s.A_,?_,s.d,by have:=s.aB;omega,fun q e=>by have:=s.pl q e;omega,by have:=s.au;omega,by exact fun z q=>by have:=s.ax z q;omega⟩;intro Z h2 K f2;refine s.rd Z h2 (fun z m=>?_) (Vn f f2 w (fun x m=>by simp at m) (fun x m=>.inl m));obtain q|q|q:=K z m;exact .inl q;omega;exact .inr (.inr q)
theorem H_.aZ{n0:NL}{h:b_}{b B S:Nat}{l l':List Int}{ac ab:List Bool}{K:Option Nat}{mc:cJ}(w:WF h)(s:H_ n0 h b Ks cap X l kn st vK bg B bm S bl pm mc)(f:Fr (bl::pm.toList) h h')
 (a:P3 h' bl K l' ac ab) (hl:l'.length=X.length) (hp:K=pm\/∀q,K=some q->h.i<=q):H_ n0 h' b Ks cap X l' ac ab vK bg B bm S bl K mc:=by
 have d:=s.d;have fn:=f.i;have n0l:=s.ax;have nb:∀y,y≠bl->(∀q,pm=some q->q≠y)->y∉bl::pm.toList:=by grind
 have lb:=s.ob.lt w;have lg:bg<h.i:=s.g.c.1.lt w;have lB:=s.gB.lt w;have lm:=s.k.lt w;have lS:=s.aB;have ll:=s.au;have pl:=a.aX f.r;have dp:=d.p;have xb:=nb b d.r fun q e=>(dp q e).1;have xg:=nb bg d.m fun q e=>(dp q e).2.1;have xB:=nb B d.g fun q e=>(dp q e).2.2.1;have xm:=nb bm d.i fun q e=>(dp q e).2.2.2.1;have xS:=nb S d.f fun q e=>(dp q e).2.2.2.2.1;refine⟨f.D _ _ xb s.ob,s.g.f f xg xB,s.gB.fr f xB,s.k.ap f xm xS,s.gS.fr f xS,a,hl,?_,?_,oM,pl.1,oM,fun z q=>by have:=n0l z q;omega⟩;intro Z h2 hZ f2;refine s.rd ((bl::pm.toList)++Z) h2 (fun z m=>?_) (Vn f f2 w (fun x m=>.inl (Vc.2 (.inl m))) (fun x m=>.inl (Vc.2 (.inr m))));obtain m|m:=Vc.1 m;refine .inl ?_;obtain rfl|m:=Vo.1 m;simp[Wr];exact Vc.2 (.inr m);obtain q|q|q:=hZ z m;obtain q|q:=Vc.1 q;exact .inl (Vc.2 (.inl q));grind;omega;exact .inr (.inr q);refine⟨d.o,d.n,d.j,d.k,d.r,d.e,d.d,d.m,d.c,d.a,d.g,d.i,d.f,fun q e=>?_⟩;obtain rfl|hp:=hp;exact dp q e;grind
theorem JA{n0:NL}{h:b_}{b B S p:Nat}{Y:List e_}{l:List Int}{v:V}{mc:cJ}(w:WF h)(s:H_ n0 h b Ks cap X l kn st vK bg B bm S bl pm mc)
 (hp:p<=X.length) (hn:Y.length<=1024) (hx:X.length<=1024) (sY:C_ e_.s 4 h v Y) (ab:∀y∈Y,q_ h y/\y.N<Ks.length) (e0:cC l p (Y.map (aF Ks))≠0):
 av go 96 [.u b 0,ZZ (p:Int),v] h fun u h'=>u=ZZ (cC l p (Y.map (aF Ks)))/\Fr (bl::pm.toList) h h'/\∃pm',(pm'=pm\/∀q,pm'=some q->h.i<=q)/\H_ n0 h' b Ks cap X l kn st vK bg B bm S bl pm' mc:=by
 let⟨rk,kh,xh⟩:=s.rd [] h iS (Vk w);refine ai ?_;simp only[a_,seval];refine aa (qk w ⟨vK,_,_,_,s.ob,rk,kh⟩ sY ab oM) ?_;rintro _ h1 ⟨v4,v5,rfl,G4,G5,Z⟩;have am:qz h1 v4 (Y.map (aF Ks)):=by have:=G4.sl (n:=(Y.map (aF Ks)).length) iS oM;unfold qz Q3;rw[VW];exact this
 have as:J_ h1 v5 (Y.map (bK Ks)):=by have:=G5.sl (n:=(Y.map (bK Ks)).length) iS oM;unfold J_ Q3;rw[VW];exact this
 have l4:ag h1 b 4=some (.u bl 0):=(Z.c_ s.ob).o 4;simp only[a_,seval,l4];apply aa (vw Z.r (s.lo.fr Z) am as oO iS oM oM);rintro _ h2 ⟨rfl,F2,pm',hp,a⟩;rw[if_neg e0]at a;have n1:=Z.i;have K:pm'=pm\/∀q,pm'=some q->h1.i<=q:=by grind
 have s2:=(s.fr w Z).aZ Z.r F2 a s.A_ K;simp only[a_,seval,eq_false e0];refine⟨Vn Z F2 w iS (fun x m=>.inl m),pm',?_,s2⟩;obtain hp|hp:=K;exact .inl hp;grind
theorem Jx{h:b_}{g b S c:Nat}{m:Nat->Option Nat}{k1 k3:V}{k2:V}(og:f_ h g [.u b 0])(ob:f_ h b [k0,k1,k2,.u bm 0,k3])(k:Km h bm S m c):D2 h 95 [.u g 0] (fun x=>(m x).isSome):=⟨dI,fun h1 x f hx=>by
 have l0:ag h1 g 0=some (.u b 0):=(f.c_ og).o 0;have l3:ag h1 b 3=some (.u bm 0):=(f.c_ ob).o 3;refine ai ?_;simp[a_,l0,l3];refine aa (yI f.r (k.fr f) hx) ?_;rintro _ h2 ⟨rfl,F2⟩;cases e:m x with
 |none=>simp[a_,dh];exact F2
 |some i=>simp[a_,dh];exact F2⟩
def kH(Ks:List w_)(cap at_:Int)(X Y:List e_)(l:List Int)(p:Nat->Bool):Int:=
 if at_<0\/(X.length:Int)<at_ then 4 else if(1024:Int)-X.length<Y.length then 3 else if dZ Ks cap p [] Y≠0 then dZ Ks cap p [] Y else cC l at_.toNat (Y.map (aF Ks))
theorem wU{n0:NL}{h:b_}{b B S:Nat}{a:Int}{Y:List e_}{l:List Int}{v:V}{mc:cJ}{c0 t0:V}(w:WF h)(s:H_ n0 h b Ks cap X l kn st vK bg B bm S bl pm mc)(ha:-9223372036854775808<=a/\a<9223372036854775808)
 (ok:U3 Ks cap=true) (hX:∀x∈X,0<x.A) (hx:X.length<=1024) (hc:mc.2+1024<=4096)
 (sv:∀(Z:List Nat)(h':b_),(∀z∈Z,z∈Wr b bg B bm S bl pm\/h.i<=z)->Fr Z h h'->C_ e_.s 4 h' v Y/\∀y∈Y,q_ h' y) (hY:∀y∈Y,nZ y.vm=true) (hl:Y.length<=4096) (ones:aw [k0,ZZ a,c0,t0,v]=true):
 av go 46 [.u b 0,.B [k0,ZZ a,c0,t0,v]] h fun u h'=>u=ZZ (kH Ks cap a X Y l (fun x=>(mc.1 x).isSome))/\
  (kH Ks cap a X Y l (fun x=>(mc.1 x).isSome)≠0->Fr (bl::pm.toList) h h'/\∃pm',(pm'=pm\/∀q,pm'=some q->h.i<=q)/\H_ n0 h' b Ks cap X l kn st vK bg B bm S bl pm' mc)/\
  (kH Ks cap a X Y l (fun x=>(mc.1 x).isSome)=0->0<=a/\a<=X.length/\X.length+Y.length<=1024/\∃Y' B' S' pm',U8 Y Y'/\
   H_ n0 h' b Ks cap (X.take a.toNat++Y'++X.drop a.toNat) (l.take a.toNat++Y.map (aF Ks)++l.drop a.toNat) (kn.take a.toNat++List.replicate Y.length false++kn.drop a.toNat) (st.take a.toNat++Y.map (bK Ks)++st.drop a.toNat) vK bg B' bm S' bl pm'
    (dS mc ((X.take a.toNat++Y'++X.drop a.toNat).drop a.toNat) a.toNat)/\Fr (Wr b bg B bm S bl pm) h h'/\(B'=B\/h.i<=B')/\(S'=S\/h.i<=S')/\(pm'=pm\/∀q,pm'=some q->h.i<=q)):=by
 let⟨rk,kh,xh⟩:=s.rd [] h iS (Vk w);let⟨sY,a0⟩:=sv [] h iS (Vk w);have hK:Ks.length<=8:=by simp only[U3,Vd,decide_eq_true_eq]at ok;exact ok.2.1
 have same:∀{h'},Fr [] h h'->Fr (bl::pm.toList) h h'/\∃pm',(pm'=pm\/∀q,pm'=some q->h.i<=q)/\H_ n0 h' b Ks cap X l kn st vK bg B bm S bl pm' mc:=fun f=>⟨Zy f,pm,.inl rfl,s.fr w f⟩;let⟨h0,ay,ax,ar⟩:=au w [.u b 0];let⟨h1,aH,ak,an⟩:=au ax.r [k0,ZZ a,c0,t0,v];have K:=ax.c ak;have s1:=s.fr w K;have l0:ag h1 h.i 0=some (.u b 0):=(ak.c_ ar).o 0;have l1:ag h1 h0.i 1=some (ZZ a):=an.o 1;have l4:ag h1 h0.i 4=some v:=an.o 4;by_cases c1:a<0;refine ai ?_;simp only[a_,↓reduceIte,Nat.reduceEqDiff,Nat.reduceAdd,DF,g_,Nat.reduceSub,<-ay,<-aH,l1,eq_true c1];have e:kH Ks cap a X Y l (fun x=>(mc.1 x).isSome)=4:=by rw[kH,if_pos (.inl c1)]
 rw[e];exact⟨rfl,fun _=>same K,fun e=>by cases e⟩;refine ai ?_;simp only[a_,↓reduceIte,Nat.reduceEqDiff,g_,<-ay,<-aH,l0,l1,eq_false c1];apply aa (mA s1);rintro _ _ ⟨rfl,rfl⟩;by_cases c2:(X.length:Int)<a;simp only[a_,↓reduceIte,Nat.reduceEqDiff,Nat.reduceAdd,DF,g_,Nat.reduceSub,eq_true c2,l0,l1];have e:kH Ks cap a X Y l (fun x=>(mc.1 x).isSome)=4:=by rw[kH,if_pos (.inr c2)]
 rw[e];exact⟨rfl,fun _=>same K,fun e=>by cases e⟩;simp only[a_,↓reduceIte,Nat.reduceEqDiff,Nat.reduceAdd,DF,g_,Nat.reduceSub,eq_false c2,l0,l1,l4,(sY.fr K).A_];apply aa (mA s1);rintro _ _ ⟨rfl,rfl⟩;have ac:¬(a<0\/(X.length:Int)<a):=oM;by_cases c3:(1024:Int)-X.length<Y.length;simp(disch:=omega) only[a_,↓reduceIte,Nat.reduceEqDiff,Nat.reduceAdd,DF,g_,Nat.reduceSub,ah,eq_true c3,l0,l4];have e:kH Ks cap a X Y l (fun x=>(mc.1 x).isSome)=3:=by rw[kH,if_neg ac,if_pos c3]
 rw[e];exact⟨rfl,fun _=>same K,fun e=>by cases e⟩;have th:D2 h1 95 [.u h.i 0] (fun x=>(mc.1 x).isSome):=Jx (ak.c_ ar) s1.ob s1.k;simp(disch:=omega) only[a_,↓reduceIte,Nat.reduceEqDiff,Nat.reduceAdd,DF,g_,Nat.reduceSub,ah,eq_false c3,l0,l4];apply aa (rR ak.r (T_.fr ⟨vK,_,_,_,s.ob,rk,kh⟩ K) hK (sY.fr K) (fun y m=>(a0 y m).fr K) hl th);rintro _ h2 ⟨rfl,F2⟩;have ab:=K.c F2;have l0:=(F2.c_ (ak.c_ ar)).o 0;have l1:ag h2 h0.i 1=some (ZZ a):=(F2.c_ an).o 1;have l4:ag h2 h0.i 4=some v:=(F2.c_ an).o 4;by_cases c4:dZ Ks cap (fun x=>(mc.1 x).isSome) [] Y=0;have good:=yL c4;obtain⟨p,rfl⟩:∃p:Nat,a=p:=⟨a.toNat,oM⟩;have hp:p<=X.length:=oM;have hn:X.length+Y.length<=1024:=oM;have e:kH Ks cap p X Y l (fun x=>(mc.1 x).isSome)=cC l p (Y.map (aF Ks)):=by rw[kH,if_neg ac,if_neg c3,if_neg iX];rfl
 have ht:∀y∈Y,y.N<Ks.length/\0<y.A:=by intro y m;have:=good y m;simp only[P0,Vd,decide_eq_true_eq]at this;exact⟨this.2.1,oM⟩
 simp only[a_,↓reduceIte,Nat.reduceEqDiff,c4,l0,l1,l4];rw[e];have s2:=s.fr w ab;have n2:=ab.i;by_cases c5:cC l p (Y.map (aF Ks))=0;refine aa (CU (p:=p) F2.r s2 hp hn oM (fun Z x hZ f=>?_) (fun y m=>⟨hY y m,ht y m⟩) hX c5) ?_;refine sv Z x (fun z m=>?_) (Vn ab f w (fun x m=>by simp at m) (fun x m=>.inl m));obtain q|q:=hZ z m;exact .inl q;omega;rintro _ h4 ⟨rfl,Y',B',S',pm',cp,s4,F4,af,aj,ae⟩;have f4:Fr (Wr b bg B bm S bl pm) h h4:=Vn ab F4 w (fun x m=>by simp at m) (fun x m=>.inl m);rw[c5];simp only[a_,↓reduceIte];have q1:B'=B\/h.i<=B':=oM;have q2:S'=S\/h.i<=S':=oM;have q3:pm'=pm\/∀q,pm'=some q->h.i<=q:=by grind
 exact⟨fun e=>absurd rfl e,fun _=>⟨oM,oM,hn,Y',B',S',pm',cp,s4,f4,q1,q2,q3⟩⟩;apply aa (JA (p:=p) F2.r s2 hp oM hx (sY.fr ab) (fun y m=>⟨(a0 y m).fr ab,(ht y m).1⟩) c5);rintro _ h4 ⟨rfl,F4,pm',ae,s4⟩;have f4:Fr (bl::pm.toList) h h4:=Vn ab F4 w (fun x m=>by simp at m) (fun x m=>.inl m);simp only[a_,↓reduceIte,eq_false c5];have q3:pm'=pm\/∀q,pm'=some q->h.i<=q:=by grind
 exact⟨fun _=>⟨f4,pm',q3,s4⟩,fun e=>e.elim⟩;have e:kH Ks cap a X Y l (fun x=>(mc.1 x).isSome)=dZ Ks cap (fun x=>(mc.1 x).isSome) [] Y:=by rw[kH,if_neg ac,if_neg c3,if_pos c4]
 simp only[a_,↓reduceIte,Nat.reduceEqDiff,eq_false c4];rw[e];exact⟨rfl,fun _=>same ab,fun e=>absurd e c4⟩
open Go.Ev.St
section
variable {n0 : NL} {h : b_} {b bg B bm S bl : Nat} {Ks : List w_} {cap : Int} {X : List e_} {l : List Int} {kn st : List Bool} {vK : V} {pm : Option Nat} {mc : cJ}
theorem pD{key:Nat}(w:WF h)(s:H_ n0 h b Ks cap X l kn st vK bg B bm S bl pm mc)(hk:key<18446744073709551616):av go 10 [.u b 0,ZX (key:Int)] h fun u h'=>u=dh (mc.1 key)/\Fr [] h h':=by
 have K:ag h b 3=some (.u bm 0):=s.ob.o 3;refine ai ?_;simp[a_];refine aa (jm s) ?_;rintro _ _ ⟨rfl,rfl⟩;simp[a_,K];apply aa (yI w s.k hk);rintro _ h2 ⟨rfl,Z⟩;cases e:mc.1 key with
 |none=>simp[a_,dh];exact Z
 |some i=>simp[a_,dh];exact Z
end
open Go.Ev.St
theorem Ca{h:b_}{b B:Nat}{v:V}{c1 G c2:List V}{a g m:Nat}(k:Y1 h b B v c1 G c2 a g m){i:Nat}(hi:i<a+m)(K:cs.length=4)(ho:aw cs=true)(nx:R6 cs):
 ∃c1' c2',bq (c1++G++c2) ((if a<=i then i+g else i) *4) cs=some (c1'++G++c2')/\(c1'.length=a*4/\c2'.length=m*4)/\c1'++c2'=(c1++c2).take (i*4)++cs++(c1++c2).drop (i*4+4)/\aw c1'=true/\aw c2'=true/\R6 (c1'++G++c2'):=by
 have l1:=k.i;have lg:=k.o;have l2:=k.n;have n6:=k.p;have up:∀n,n*4+4<=(c1++G++c2).length->bq (c1++G++c2) (n*4) cs=some ((c1++G++c2).take (n*4)++cs++(c1++G++c2).drop (n*4+4)):=by intro n hn;rw[bN _ _ _ (by rw[K];exact hn),K]
 by_cases c:a<=i;rw[if_pos c,up _ oO];obtain⟨j,rfl⟩:∃j,i=a+j:=⟨i-a,oM⟩;have t1:(c1++G++c2).take ((a+j+g) *4)=c1++G++c2.take (j*4):=by grind
 have t2:(c1++G++c2).drop ((a+j+g) *4+4)=c2.drop (j*4+4):=by rw[List.drop_append,Vq oO,Wv];congr 1;simp;omega
 have t3:(c1++c2).take ((a+j) *4)=c1++c2.take (j*4):=by grind
 have Z:(c1++c2).drop ((a+j) *4+4)=c2.drop (j*4+4):=by rw[List.drop_append,Vq oM,Wv];congr 1;omega
 refine⟨c1,c2.take (j*4)++cs++c2.drop (j*4+4),by rw[t1,t2];simp,⟨l1,by simp;omega⟩,by rw[t3,Z];simp,k.r,?_,?_⟩;rw[aO,aO,bQ _ k.s,ho,bH _ k.s];rfl;refine Yx (n6.c fun x m=>by simp at m|-;obtain m|m:=m<;>simp[m]) (Yx (Yx (n6.c fun x m=>?_) nx) (n6.c fun x m=>?_))
 grind;grind;rw[if_neg c,up _ oO];have t1:(c1++G++c2).take (i*4)=c1.take (i*4):=by grind
 have t2:(c1++G++c2).drop (i*4+4)=c1.drop (i*4+4)++G++c2:=by grind
 have t3:(c1++c2).take (i*4)=c1.take (i*4):=by grind
 have Z:(c1++c2).drop (i*4+4)=c1.drop (i*4+4)++c2:=by grind
 refine⟨c1.take (i*4)++cs++c1.drop (i*4+4),c2,by rw[t1,t2];simp,⟨by simp;omega,l2⟩,by rw[t3,Z];simp,?_,k.s,?_⟩;rw[aO,aO,bQ _ k.r,ho,bH _ k.r];rfl;refine Yx (Yx (Yx (Yx (n6.c fun x m=>?_) nx) (n6.c fun x m=>?_)) (n6.c fun x m=>?_)) (n6.c fun x m=>?_);grind;grind;simp[m];simp[m]
theorem Ko{h:b_}{b B:Nat}{v:V}{c1 G c2:List V}{a g m:Nat}{x y z u:V}(w:WF h)(k:Y1 h b B v c1 G c2 a g m){i:Nat}(K:i<a+m)(ho:aw [x,y,z,u]=true)(nx:R6 [x,y,z,u]):
 av go 105 [.u b 0,ZZ (i:Int),.B [x,y,z,u]] h fun r h'=>r=ZZ 0/\Fr [B] h h'/\∃c1' c2',Y1 h' b B v c1' G c2' a g m/\c1'++c2'=(c1++c2).take (i*4)++[x,y,z,u]++(c1++c2).drop (i*4+4):=by
 have am:=k.q;let⟨h1,af,ac,ae⟩:=au w [x,y,z,u];have Z:=k.f ac iS iS;have l0:=Z.c.o 0;simp[bX]at l0;have⟨a1,a2⟩:=Z.y K;have l5:aq h1 h.i 0 4=some [x,y,z,u]:=by rw[ae.J];rfl
 refine ai ?_;simp only[a_,seval,<-af];refine aa (eO Z i 1) ?_;rintro _ _ ⟨rfl,rfl⟩;simp only[a_,seval,g_,Dn K];simp only[a_,seval,g_,l0];apply aa (uf Z i oM);rintro _ _ ⟨rfl,rfl⟩;simp only[a_,seval,g_,a1,l5];obtain⟨hl,⟨rfl,z⟩|⟨rfl,o⟩⟩:=Z.d;omega;let⟨c1',c2',e1,e2,e3,o1,o2,n1⟩:=Ca Z K rfl ho nx;refine ao ac.r o rfl ho e1 ?_;rintro h2 ab F2 n2;have ne:=k.l;have nb:=F2.D b _ (by simp;exact fun e=>ne e.symm) Z.c;simp only[a_,seval,DF,l0,l5];refine⟨Vn ac F2 w iS (fun x m=>.inl m),c1',c2',⟨nb,⟨?_,.inr ⟨rfl,ab⟩⟩,e2.1,k.o,e2.2,o1,o2,k.l,k.w,k.q,n1⟩,e3⟩;have:=k.o;have:=e2.1;have:=e2.2;simp;omega
theorem H_.bf{n0:NL}{h:b_}{b B S c:Nat}{l l':List Int}{ac ab:List Bool}{K:Option Nat}{mc:cJ}(w:WF h)(s:H_ n0 h b Ks cap X l kn st vK bg B bm S bl pm mc)(f:Fr (b::bl::pm.toList) h h')
 (ob:f_ h' b [vK,ZZ cap,.u bg 0,.u bm 0,.u c 0]) (a:P3 h' c K l' ac ab) (hl:l'.length=X.length) (hc:h.i<=c) (hp:∀q,K=some q->h.i<=q/\q≠c):H_ n0 h' b Ks cap X l' ac ab vK bg B bm S c K mc:=by
 have d:=s.d;have fn:=f.i;have n0l:=s.ax;have nb:∀y,b≠y->y≠bl->(∀q,pm=some q->q≠y)->y∉b::bl::pm.toList:=by grind
 have lb:=s.ob.lt w;have lg:bg<h.i:=s.g.c.1.lt w;have lB:=s.gB.lt w;have lm:=s.k.lt w;have lS:=s.aB;have ll:=s.au;have pl:=a.aX f.r;have dp:=d.p;have xg:=nb bg d.o d.m fun q e=>(dp q e).2.1;have xB:=nb B d.n d.g fun q e=>(dp q e).2.2.1;have xm:=nb bm d.j d.i fun q e=>(dp q e).2.2.2.1;have xS:=nb S d.k d.f fun q e=>(dp q e).2.2.2.2.1;refine⟨ob,s.g.f f xg xB,s.gB.fr f xB,s.k.ap f xm xS,s.gS.fr f xS,a,hl,?_,?_,oM,pl.1,pl.2,fun z q=>by have:=n0l z q;omega⟩;intro Z h2 hZ f2;refine s.rd ((b::bl::pm.toList)++Z) h2 (fun z m=>?_) (Vn f f2 w (fun x m=>.inl (Vc.2 (.inl m))) (fun x m=>.inl (Vc.2 (.inr m))));obtain m|m:=Vc.1 m;refine .inl ?_;obtain rfl|m:=Vo.1 m;simp[Wr];obtain rfl|m:=Vo.1 m;simp[Wr];exact Vc.2 (.inr m);obtain q|q|q:=hZ z m;obtain q|q:=Vc.1 q;simp at q;obtain q|q|q|q|q|q:=q;exact .inl (by simp[Wr,q]);exact .inl (by simp[Wr,q]);exact .inl (by simp[Wr,q]);exact .inl (by simp[Wr,q]);exact .inl (by simp[Wr,q]);omega;grind;omega;exact .inr (.inr q);refine⟨d.o,d.n,d.j,d.k,oM,d.e,d.d,oM,d.c,d.a,oM,oM,oM,fun q e=>?_⟩;have:=hp q e;omega
theorem P3.ne{h:b_}{b:Nat}{l:List Int}(a:P3 h b pm l ks bs):∀q,pm=some q->q≠b:=by let⟨p,vk,o,v1,ix,mk,e⟩:=a;rintro q rfl;let⟨K,Z,x⟩:=mk;refine Own.ne Z o fun e=>?_;unfold R3 at e;cases p<;>simp[pv]at e
theorem P3.an{h:b_}{b:Nat}{l:List Int}(a:P3 h b pm l ks bs):V5 h (b::pm.toList):=by
 let⟨p,vk,o,v1,ix,mk,e⟩:=a;apply V5.W3 (A:=[b]) (V5.D o iS (gM (n:=1) rfl));cases pm with
 |none=>exact fun x m=>by simp at m
 |some q=>
  let⟨ws,oq,x,_⟩:=mk;have Z:=x.A_;refine V5.D oq (by simp[R3];omega) ?_;intro L K e;match ws,Z,L with
  |w1::w2::ws,_,(x1,x2)::(y1,y2)::L=>simp[R3,sp,uw]at e
  |w1::w2::ws,_,[(x1,x2)]=>simp[R3,sp]at e
def B?(x:Nat×Int):List V:=[ZX (x.1:Int),ZZ x.2]
def j7(m:Nat->Option Nat):List (Nat×Int)->Nat->List Int->List Bool->Int×Nat×List Int×List Bool
 |[],i,l,kn=>(0,i,l,kn)
 |x::r,i,l,kn=>match m x.1 with
  |none=>(11,i,l,kn)
  |some j=>if fF l j x.2=0 then j7 m r (i+1) (l.set j x.2) (kn.set j true)else(fF l j x.2,i,l,kn)
theorem Ac{n0:NL}{h:b_}{b B S:Nat}{l:List Int}{v:V}{mc:cJ}{H:List (Nat×Int)}(w:WF h)(s:H_ n0 h b Ks cap X l kn st vK bg B bm S bl pm mc)
 (sv:∀(Z:List Nat)(h':b_),(∀z∈Z,z∈Wr b bg B bm S bl pm\/h.i<=z)->Fr Z h h'->C_ B? 2 h' v H) (hH:∀x∈H,x.1<18446744073709551616/\-9223372036854775808<=x.2/\x.2<=9223372036854775807) (hl:H.length<=4096) (hm:∀k j,mc.1 k=some j->j<=4096):
 av go 12 [.u b 0,v] h fun u h'=>u=.G [ZZ ((j7 mc.1 H 0 l kn).2.1:Int),ZZ (j7 mc.1 H 0 l kn).1]/\
  ((j7 mc.1 H 0 l kn).1=0->Fr (bl::pm.toList) h h'/\H_ n0 h' b Ks cap X (j7 mc.1 H 0 l kn).2.2.1 (j7 mc.1 H 0 l kn).2.2.2 st vK bg B bm S bl pm mc)/\
  ((j7 mc.1 H 0 l kn).1≠0->Fr (b::bl::pm.toList) h h'/\∃c pm',h.i<=c/\(∀q,pm'=some q->h.i<=q)/\H_ n0 h' b Ks cap X l kn st vK bg B bm S c pm' mc):=by
 have l4:ag h b 4=some (.u bl 0):=s.ob.o 4;have sH:=sv [] h iS (Vk w);refine ai ?_;simp only[a_,seval];refine aa (jm s) ?_;rintro _ _ ⟨rfl,rfl⟩;simp only[a_,seval,l4];apply aa (rH w s.lo);rintro _ h1 ⟨c,ae,rfl,hc,hp,a1,F1⟩;simp only[a_,seval,(sH.fr F1).A_];have ay:=P3.ne a1;have n1:=F1.i;have wm:∀z,z∈bl::pm.toList->z∈Wr b bg B bm S bl pm:=by intro z m;obtain rfl|m:=Vo.1 m;simp[Wr];exact Vc.2 (.inr m)
 have wl:∀z,z∈bl::pm.toList->z<h.i:=by intro z m;obtain rfl|m:=Vo.1 m;exact s.au;exact s.pl z (eV m)
 have bn:=s.ob.lt w;refine aC (fun n env hh=>Fr (bl::pm.toList) h1 hh/\∃(i:Nat)(l2:List Int)(af:List Bool),P3 hh c ae l kn st/\H_ n0 hh b Ks cap X l2 af st vK bg B bm S bl pm mc/\
  env.c_ 21=some (ZZ i)/\env.c_ 20=some (ZZ H.length)/\env.c_ 19=some v/\env.c_ 0=some (.u b 0)/\env.c_ 1=some v/\env.c_ 6=some (.u c 0)/\i<=H.length/\j7 mc.1 (H.drop i) i l2 af=j7 mc.1 H 0 l kn/\n=H.length-i) H.length oM ?_ ?_
 exact⟨Zy (Vk F1.r),0,l,kn,a1,s.fr w F1,iS,iS,iS,iS,iS,iS,oM,rfl,rfl⟩;rintro n env hh ⟨F,i,l2,af,ac,ss,ak,ax,a2,g0,g1,g6,hi,em,rfl⟩;have Fh:Fr (bl::pm.toList) h hh:=Vn F1 F w iS (fun x m=>.inl m);have ar:=sv (bl::pm.toList) hh (fun z m=>.inl (wm z m)) Fh;by_cases a5:i<H.length;have ab:(i:Int)<H.length:=oM;let⟨bi,oi,x,p1,_,p3,p4⟩:=ar.ix (f:=B?) (k:=2) (fun _=>rfl) .i64 (i:Int) oM ab;rw[pi]at p4;let⟨k0,z0,z1⟩:=hH x (Vg p4);have hd:H.drop i=x::H.drop (i+1):=aN p4;let⟨h3,a9,a7,a8⟩:=au F.r [ZX 0,ZZ 0];simp only[a_,seval,ak,ax,a2,ab,p1,p3,<-a9];apply u_ a7.r a8;rintro h4 o4 F4 n4;have an:Fr [] hh h4:=a7.y F4 F.r (Ve _);have s4:=ss.fr F.r an;have x0:ag h4 hh.i 0=some (ZX (x.1:Int)):=o4.o 0;have x1:ag h4 hh.i 1=some (ZZ x.2):=o4.o 1;have b3:ag h4 b 3=some (.u bm 0):=s4.ob.o 3;simp only[a_,seval,g_,g0,x0,b3];apply aa (yI an.r s4.k k0);rintro _ h5 ⟨rfl,F5⟩;have K:=an.c F5;have s5:=ss.fr F.r K;have x1:ag h5 hh.i 1=some (ZZ x.2):=(F5.c_ o4).o 1;have b4:ag h5 b 4=some (.u bl 0):=s5.ob.o 4;cases ek:mc.1 x.1 with
 |none=>
  have e:j7 mc.1 H 0 l kn=(11,i,l2,af):=by rw[<-em,hd];simp[j7,ek]
  rw[e];simp only[a_,seval,DF,g_,dh,x0,b3,g0,g6];apply u_ K.r s5.ob;rintro h6 o6 F6 n6;have aj:P3 h6 c ae l kn st:=(ac.fr K).ap F6 (V5.D s5.ob iS (gM (n:=2) rfl)) oO (fun q e=>by have:=hp q e;simp;omega);have f6:Fr (b::bl::pm.toList) h h6:=Vn (Vn Fh K w (fun x m=>.inl m) (fun x m=>by simp at m)) F6 w (fun x m=>.inl (WI _ m)) (fun x m=>.inl (by simp at m;simp[m]));have s6:=s.bf w f6 o6 aj s.A_ hc (fun q e=>⟨hp q e,ay q e⟩);simp only[a_,seval];exact⟨fun e=>e.elim,fun _=>⟨f6,c,ae,hc,hp,s6⟩⟩
 |some j=>
  have jl:=hm _ _ ek;simp only[a_,seval,DF,g_,dh,x0,b3,x1,b4,g0];apply aa (BC K.r s5.lo z0 z1 oM oM);rintro _ h6 ⟨rfl,a6,F6⟩;have a3:ag h6 b 4=some (.u bl 0):=(F6.D b _ (fun m=>by have:=s.d;obtain m|m:=Vo.1 m;exact this.r m;exact(this.p b (eV m)).1 rfl) s5.ob).o 4
  have a4:ag h6 hh.i 1=some (ZZ x.2):=(F6.D _ _ (fun m=>by have:=F.i;have:=wl _ m;omega) (F5.c_ o4)).o 1;have aj:P3 h6 c ae l kn st:=(ac.fr K).ap F6 s5.lo.an (fun m=>by have:=wl _ m;omega) (fun q e m=>by have:=hp q e;have:=wl _ m;omega);by_cases c5:fF l2 j x.2=0;rw[if_pos c5]at a6;have s6:=s5.aZ K.r F6 a6 (eG ss.A_) (.inl rfl);have a0:Fr (bl::pm.toList) h1 h6:=Vn (Vn F K F1.r (fun x m=>.inl m) (fun x m=>by simp at m)) F6 F1.r (fun x m=>.inl m) (fun x m=>.inl m);have e:j7 mc.1 (H.drop (i+1)) (i+1) (l2.set j x.2) (af.set j true)=j7 mc.1 H 0 l kn:=by rw[<-em,hd];simp[j7,ek,c5]
  simp(disch:=omega) only[a_,seval,DF,g_,ah,x1,b4,ak,eq_true c5];refine t_ ⟨H.length-(i+1),oM,a0,i+1,_,_,aj,s6,iS,iX,iX,iX,iX,iX,oM,e,rfl⟩;rw[if_neg c5]at a6;have s6:=s5.aZ K.r F6 a6 ss.A_ (.inl rfl);have e:j7 mc.1 H 0 l kn=(fF l2 j x.2,i,l2,af):=by rw[<-em,hd];simp[j7,ek,c5]
  rw[e];simp only[a_,seval,DF,g_,x1,b4,g0,g6,eq_false c5];apply u_ F6.r s6.ob;rintro h7 o7 F7 n7;have aH:P3 h7 c ae l kn st:=aj.ap F7 (V5.D s6.ob iS (gM (n:=2) rfl)) oO (fun q e=>by have:=hp q e;simp;omega);have f7:Fr (b::bl::pm.toList) h h7:=Vn (Vn (Vn Fh K w (fun x m=>.inl m) (fun x m=>by simp at m)) F6 w (fun x m=>.inl m) (fun x m=>.inl m)) F7 w (fun x m=>.inl (WI _ m)) (fun x m=>.inl (by simp at m;simp[m]));have s7:=s.bf w f7 o7 aH s.A_ hc (fun q e=>⟨hp q e,ay q e⟩);simp only[a_,seval];exact⟨fun e=>e.elim,fun _=>⟨f7,c,ae,hc,hp,s7⟩⟩
 have:i=H.length:=oM;subst this;rw[WV]at em;rw[<-em];have ab:¬(H.length:Int)<H.length:=oM;simp only[a_,seval,ak,ax,g1,eq_false ab,ar.A_];exact⟨rfl,fun _=>⟨Fh,ss⟩,fun e=>absurd rfl e⟩
def li:List V:=[.f [],.h false,.h false,.h false,.h false,.R,.f [105,110,115,101,114,116],.h true,.h false,.h false,.h true,.I (.func 128) [] [],.f [114,101,109,111,118,101],.h true,.h true,.h false,.h false,.I (.func 130) [] [],
 .f [109,111,118,101],.h true,.h true,.h true,.h false,.I (.func 131) [] [],.f [99,104,97,110,103,101],.h true,.h false,.h false,.h true,.I (.func 133) [] [],.f [114,101,115,101,116],.h false,.h false,.h false,.h true,.I (.func 135) [] []]
theorem Ay{h:b_}(w:WF h):av go 67 [] h fun u h'=>u=.B li/\Fr [] h h':=by
 let⟨h1,ae,ab,ac⟩:=au w [.f [],.h false,.h false,.h false,.h false,.R,.f [],.h false,.h false,.h false,.h false,.R,.f [],.h false,.h false,.h false,.h false,.R,.f [],.h false,.h false,.h false,.h false,.R,.f [],.h false,.h false,.h false,.h false,.R,.f [],.h false,.h false,.h false,.h false,.R];refine ai ?_;simp[a_,<-ae];refine u_ ab.r ac ?_;rintro K o2 F2 n2;have l2:aq K h.i 0 36=some li:=by rw[o2.J];rfl
 have Z:Fr [] h K:=ab.y F2 w (Ve _);simp[a_,l2];exact Z
def dG(k:Nat)(a c t:Int)(n:Nat):Int:=
 if k<1\/5<k then 1 else if(k=5/\a≠0)\/(¬(k=2\/k=3)/\c≠0)\/(k≠3/\t≠0)\/((k=2\/k=3)/\0<n)then 5 else 0
theorem NY{call:aL}{s:n_}{l:List n_}{i:Nat}{h:b_}(K:late.contains i=false)(Z:g_ s.a=false)(e:aS call loc env h s.a=none):
 Q8 call env late (s::l) i loc h=(Q8 call env late l (i+1) (.G []::loc) h).map fun r=>((s,none)::r.1,r.2):=by
 simp only[Q8,K,cond_false,wZ,Z,e];cases Q8 call env late l (i+1) (V.G []::loc) h<;>rfl
abbrev Ae:List V:=[.f [],.h false,.h false,.h false,.h false,.R]
theorem OO{h:b_}{b1:Nat}{k:Nat}(g1:env.c_ 1=some (.u b1 0))(l0:ag h b1 0=some (ZY (k:Int))):
 Q8 go env [4] [⟨none,.c 67 [],none⟩,⟨none,.p (.b 0) [.v 1],none⟩,⟨none,.a 1 false (.l 0),none⟩,⟨none,.p (.f 6 6 true) [.l 2,.l 0],none⟩,⟨none,.d Ae,none⟩,⟨none,.g 6 (.l 0) (.l 1),none⟩] 0 [] h=
  some ([(⟨none,.c 67 [],none⟩,none),(⟨none,.p (.b 0) [.v 1],none⟩,none),(⟨none,.a 1 false (.l 0),none⟩,none),(⟨none,.p (.f 6 6 true) [.l 2,.l 0],none⟩,none),(⟨none,.d Ae,none⟩,some (.u h.i 0,Ae)),(⟨none,.g 6 (.l 0) (.l 1),none⟩,none)],k_ h Ae):=by
 have K:∀(Z:List V)(h:b_)(k:Nat),aS go Z env h (.p (.b k) [.v 1])=some (.u b1 k,h):=fun Z h k=>by simp[aS,gR,dP,jn,g1,dg,jP]
 have ab:∀(Z:List V)(h:b_)(k:Nat)(v:V),ag h b1 k=some v->aS go (.u b1 k::Z) env h (.a 1 false (.l 0))=some (v,h):=fun Z h k v e=>by simp[aS,rU,bX,gu,e]
 rw[Av rfl rfl,du rfl rfl (K _ _ _),du rfl rfl (ab _ _ _ _ l0),NY rfl rfl rfl,De (c:=Ae) (k:=none) rfl rfl,Av rfl rfl];rfl
theorem Aw(Z:List V)(env:T V)(n:Nat):cI Z env (.d Ae) (.u n 0) Ae=true:=by simp[cI,jG,nT,R4,eZ,S_]
theorem wN{h:b_}{k n:Nat}{a c t:Int}{v:V}(w:WF h)(hk:k<256)(sl:T5 h 4 v n cs):
 av go 45 [.B [ZY (k:Int),ZZ a,ZZ c,ZZ t,v]] h fun u h'=>u=ZZ (dG k a c t n)/\Fr [] h h':=by
 have v1:v.O=true:=Yu sl;let⟨h1,an,af,aj⟩:=au w [ZY (k:Int),ZZ a,ZZ c,ZZ t,v];have l0:ag h1 h.i 0=some (ZY (k:Int)):=aj.o 0;by_cases c1:k<1;have ac:(k:Int)<1:=oM;refine ai ?_;simp only[a_,↓reduceIte,Nat.reduceEqDiff,<-an,l0,eq_true ac];rw[dG,if_pos (.inl c1)];exact⟨rfl,af⟩;have ac:¬(k:Int)<1:=oM;by_cases c2:5<k;have ae:(5:Int)<k:=oM;refine ai ?_;simp only[a_,↓reduceIte,Nat.reduceEqDiff,<-an,l0,eq_false ac,eq_true ae];rw[dG,if_pos (.inr c2)];exact⟨rfl,af⟩;have ae:¬(5:Int)<k:=oM;refine ai ?_;simp[a_,<-an,l0,eq_false ac,eq_false ae];refine(FM _ _ _ _ _ _).2 ?_;rw[OO (b1:=h.i) iS l0,jQ];let⟨h3,ay,ak,ar⟩:=au af.r Ae;simp[a_,g_,<-ay];refine aa (Ay ak.r) ?_;rintro _ h4 ⟨rfl,F4⟩;have l0:ag h4 h.i 0=some (ZY (k:Int)):=((ak.c F4).c_ aj).o 0;have ob:=F4.c_ ar;have K:ag h3 h.i 0=some (ZY (k:Int)):=(ak.c_ aj).o 0;have nq:h1.i≠h.i:=by rw[an];simp[k_]
 obtain rfl|rfl|rfl|rfl|rfl:k=1\/k=2\/k=3\/k=4\/k=5:=oM;have ax:aP (PK.f 6 6 true) [.B li,ZY ((1:Nat):Int)]=some (.B [.f [105,110,115,101,114,116],.h true,.h false,.h false,.h true,.I (.func 128) [] []]):=rfl;simp only[a_,↓reduceIte,Nat.reduceEqDiff,g_,l0,Aw,ax];refine u_ F4.r ob ?_;rintro h5 o5 F5 n5;have ab:Fr [] h1 h5:=(ak.c F4).y F5 af.r (Ve _);have Z:=af.c ab;have om:=ab.c_ aj;have m0:=om.o 0;have m1:=om.o 1;have m2:=om.o 2;have m3:=om.o 3;have m4:=om.o 4;have r1:=o5.o 1;have r2:=o5.o 2;have r3:=o5.o 3;have r4:=o5.o 4;simp only[bX,db]at m0 m1 m2 m3 m4 r1 r2 r3 r4;by_cases hc:c=0;by_cases ht:t=0;simp only[a_,↓reduceIte,Nat.reduceEqDiff,DF,l0,K,m2,m3,r1,r2,r3,r4,eq_true hc,eq_true ht];exact⟨by rw[dG,if_neg oM];split<;>first|rfl|omega,Z⟩
 simp only[a_,↓reduceIte,Nat.reduceEqDiff,DF,l0,K,m2,m3,r1,r2,r3,eq_true hc,eq_false ht];exact⟨by rw[dG,if_neg oM];split<;>first|rfl|omega,Z⟩
 by_cases ht:t=0;simp only[a_,↓reduceIte,Nat.reduceEqDiff,DF,l0,K,m2,r1,r2,eq_false hc];exact⟨by rw[dG,if_neg oM];split<;>first|rfl|omega,Z⟩
 simp only[a_,↓reduceIte,Nat.reduceEqDiff,DF,l0,K,m2,r1,r2,eq_false hc];exact⟨by rw[dG,if_neg oM];split<;>first|rfl|omega,Z⟩
 have ax:aP (PK.f 6 6 true) [.B li,ZY ((2:Nat):Int)]=some (.B [.f [114,101,109,111,118,101],.h true,.h true,.h false,.h false,.I (.func 130) [] []]):=rfl;simp only[a_,↓reduceIte,Nat.reduceEqDiff,g_,l0,Aw,ax];refine u_ F4.r ob ?_;rintro h5 o5 F5 n5;have ab:Fr [] h1 h5:=(ak.c F4).y F5 af.r (Ve _);have Z:=af.c ab;have om:=ab.c_ aj;have m0:=om.o 0;have m1:=om.o 1;have m2:=om.o 2;have m3:=om.o 3;have m4:=om.o 4;have r1:=o5.o 1;have r2:=o5.o 2;have r3:=o5.o 3;have r4:=o5.o 4;simp only[bX,db]at m0 m1 m2 m3 m4 r1 r2 r3 r4;by_cases ht:t=0;by_cases hn:(0:Int)<(n:Int);simp only[a_,↓reduceIte,Nat.reduceEqDiff,DF,l0,K,m3,m4,r1,r2,r3,r4,(sl.fr Z).A_,eq_true ht,eq_true hn];exact⟨by rw[dG,if_neg oM];split<;>first|rfl|omega,Z⟩
 simp only[a_,↓reduceIte,Nat.reduceEqDiff,DF,l0,K,m3,m4,r1,r2,r3,r4,(sl.fr Z).A_,eq_true ht,eq_false hn];exact⟨by rw[dG,if_neg oM];split<;>first|rfl|omega,Z⟩
 by_cases hn:(0:Int)<(n:Int);simp only[a_,↓reduceIte,Nat.reduceEqDiff,DF,l0,K,m3,r1,r2,r3,eq_false ht];exact⟨by rw[dG,if_neg oM];split<;>first|rfl|omega,Z⟩
 simp only[a_,↓reduceIte,Nat.reduceEqDiff,DF,l0,K,m3,r1,r2,r3,eq_false ht];exact⟨by rw[dG,if_neg oM];split<;>first|rfl|omega,Z⟩
 have ax:aP (PK.f 6 6 true) [.B li,ZY ((3:Nat):Int)]=some (.B [.f [109,111,118,101],.h true,.h true,.h true,.h false,.I (.func 131) [] []]):=rfl;simp only[a_,↓reduceIte,Nat.reduceEqDiff,g_,l0,Aw,ax];refine u_ F4.r ob ?_;rintro h5 o5 F5 n5;have ab:Fr [] h1 h5:=(ak.c F4).y F5 af.r (Ve _);have Z:=af.c ab;have om:=ab.c_ aj;have m0:=om.o 0;have m1:=om.o 1;have m2:=om.o 2;have m3:=om.o 3;have m4:=om.o 4;have r1:=o5.o 1;have r2:=o5.o 2;have r3:=o5.o 3;have r4:=o5.o 4;simp only[bX,db]at m0 m1 m2 m3 m4 r1 r2 r3 r4;by_cases hn:(0:Int)<(n:Int);simp only[a_,↓reduceIte,Nat.reduceEqDiff,DF,l0,K,m4,r1,r2,r3,r4,(sl.fr Z).A_,eq_true hn];exact⟨by rw[dG,if_neg oM];split<;>first|rfl|omega,Z⟩
 simp only[a_,↓reduceIte,Nat.reduceEqDiff,DF,l0,K,m4,r1,r2,r3,r4,(sl.fr Z).A_,eq_false hn];exact⟨by rw[dG,if_neg oM];split<;>first|rfl|omega,Z⟩
 have ax:aP (PK.f 6 6 true) [.B li,ZY ((4:Nat):Int)]=some (.B [.f [99,104,97,110,103,101],.h true,.h false,.h false,.h true,.I (.func 133) [] []]):=rfl;simp only[a_,↓reduceIte,Nat.reduceEqDiff,g_,l0,Aw,ax];refine u_ F4.r ob ?_;rintro h5 o5 F5 n5;have ab:Fr [] h1 h5:=(ak.c F4).y F5 af.r (Ve _);have Z:=af.c ab;have om:=ab.c_ aj;have m0:=om.o 0;have m1:=om.o 1;have m2:=om.o 2;have m3:=om.o 3;have m4:=om.o 4;have r1:=o5.o 1;have r2:=o5.o 2;have r3:=o5.o 3;have r4:=o5.o 4;simp only[bX,db]at m0 m1 m2 m3 m4 r1 r2 r3 r4;by_cases hc:c=0;by_cases ht:t=0;simp only[a_,↓reduceIte,Nat.reduceEqDiff,DF,l0,K,m2,m3,r1,r2,r3,r4,eq_true hc,eq_true ht];exact⟨by rw[dG,if_neg oM];split<;>first|rfl|omega,Z⟩
 simp only[a_,↓reduceIte,Nat.reduceEqDiff,DF,l0,K,m2,m3,r1,r2,r3,eq_true hc,eq_false ht];exact⟨by rw[dG,if_neg oM];split<;>first|rfl|omega,Z⟩
 by_cases ht:t=0;simp only[a_,↓reduceIte,Nat.reduceEqDiff,DF,l0,K,m2,r1,r2,eq_false hc];exact⟨by rw[dG,if_neg oM];split<;>first|rfl|omega,Z⟩
 simp only[a_,↓reduceIte,Nat.reduceEqDiff,DF,l0,K,m2,r1,r2,eq_false hc];exact⟨by rw[dG,if_neg oM];split<;>first|rfl|omega,Z⟩
 have ax:aP (PK.f 6 6 true) [.B li,ZY ((5:Nat):Int)]=some (.B [.f [114,101,115,101,116],.h false,.h false,.h false,.h true,.I (.func 135) [] []]):=rfl;simp only[a_,↓reduceIte,Nat.reduceEqDiff,g_,l0,Aw,ax];refine u_ F4.r ob ?_;rintro h5 o5 F5 n5;have ab:Fr [] h1 h5:=(ak.c F4).y F5 af.r (Ve _);have Z:=af.c ab;have om:=ab.c_ aj;have m0:=om.o 0;have m1:=om.o 1;have m2:=om.o 2;have m3:=om.o 3;have m4:=om.o 4;have r1:=o5.o 1;have r2:=o5.o 2;have r3:=o5.o 3;have r4:=o5.o 4;simp only[bX,db]at m0 m1 m2 m3 m4 r1 r2 r3 r4;by_cases ha:a=0;by_cases hc:c=0;by_cases ht:t=0;simp only[a_,↓reduceIte,Nat.reduceEqDiff,DF,l0,K,m1,m2,m3,r1,r2,r3,r4,eq_true ha,eq_true hc,eq_true ht];exact⟨by rw[dG,if_neg oM];split<;>first|rfl|omega,Z⟩
 simp only[a_,↓reduceIte,Nat.reduceEqDiff,DF,l0,K,m1,m2,m3,r1,r2,r3,eq_true ha,eq_true hc,eq_false ht];exact⟨by rw[dG,if_neg oM];split<;>first|rfl|omega,Z⟩
 by_cases ht:t=0;simp only[a_,↓reduceIte,Nat.reduceEqDiff,DF,l0,K,m1,m2,r1,r2,eq_true ha,eq_false hc];exact⟨by rw[dG,if_neg oM];split<;>first|rfl|omega,Z⟩
 simp only[a_,↓reduceIte,Nat.reduceEqDiff,DF,l0,K,m1,m2,r1,r2,eq_true ha,eq_false hc];exact⟨by rw[dG,if_neg oM];split<;>first|rfl|omega,Z⟩
 by_cases hc:c=0;by_cases ht:t=0;simp only[a_,↓reduceIte,Nat.reduceEqDiff,DF,l0,K,m1,r1,eq_false ha];exact⟨by rw[dG,if_neg oM];split<;>first|rfl|omega,Z⟩
 simp only[a_,↓reduceIte,Nat.reduceEqDiff,DF,l0,K,m1,r1,eq_false ha];exact⟨by rw[dG,if_neg oM];split<;>first|rfl|omega,Z⟩
 by_cases ht:t=0;simp only[a_,↓reduceIte,Nat.reduceEqDiff,DF,l0,K,m1,r1,eq_false ha];exact⟨by rw[dG,if_neg oM];split<;>first|rfl|omega,Z⟩
 simp only[a_,↓reduceIte,Nat.reduceEqDiff,DF,l0,K,m1,r1,eq_false ha];exact⟨by rw[dG,if_neg oM];split<;>first|rfl|omega,Z⟩
theorem qn{z:i_}{i:Nat}(Z:i<z.length)(p:Int->Bool):fE p (z.drop i)=(p ((z[i]).toNat:Int)||fE p (z.drop (i+1))):=by unfold fE;rw[Wm Z,YI]
theorem sX{z:i_}{i:Nat}(Z:z.length<=i)(p:Int->Bool):fE p (z.drop i)=false:=by rw[Vq Z];rfl
def kT(b:Bool):Int:=if b then 1 else 0
theorem mh{h:b_}{z:i_}:av go 183 [.f z] h fun u h'=>u=ZZ (kT (Q0 z))/\h=h':=by
 by_cases c1:(64:Int)<(z.length:Nat);refine ai ?_;simp[a_,aM,eq_true c1];have:Q0 z=false:=by unfold Q0;rw[decide_eq_false oM];rfl
 rw[this];rfl;refine ai ?_;simp[a_,aM,eq_false c1];refine aC (fun k env hh=>hh=h/\∃(i:Nat),env.c_ 3=some (ZZ i)/\env.c_ 0=some (.f z)/\i<=z.length/\fE i7 (z.drop i)=fE i7 z/\k=z.length-i) z.length oM ?_ ?_;exact⟨rfl,0,iS,iS,oM,rfl,rfl⟩;rintro k env hh ⟨rfl,i,g3,g0,hi,e,rfl⟩;by_cases K:i<z.length;have Z:(i:Int)<z.length:=oM;rw[qn K]at e;by_cases c2:((z[i]).toNat:Int)<32;simp[a_,g3,g0,aM,Z,cg K,eq_true c2];have:Q0 z=false:=by unfold Q0;rw[<-e];simp[i7,c2]
 rw[this];rfl;by_cases c3:(126:Int)<((z[i]).toNat:Int);simp[a_,g3,g0,aM,Z,cg K,eq_false c2,eq_true c3];have:Q0 z=false:=by unfold Q0;rw[<-e];simp[i7,c3]
 rw[this];rfl;simp(disch:=omega)[a_,ah,g3,g0,aM,Z,cg K,eq_false c2,eq_false c3];have b0:i7 ((z[i]).toNat:Int)=false:=by simp only[i7,Bool.or_eq_false_iff,decide_eq_false_iff_not];exact⟨c2,c3⟩
 rw[b0,Xj]at e;refine t_ ⟨z.length-(i+1),oM,rfl,i+1,iS,iX,oM,e,rfl⟩;simp[a_,g3,g0,aM,(oM:¬(i:Int)<z.length)];rw[sX oM]at e;have:Q0 z=true:=by unfold Q0;rw[<-e,decide_eq_true oM];rfl
 rw[this];rfl
theorem kM{h:b_}{z:i_}:av go 238 [.f z] h fun u h'=>u=.h (Q0 z)/\h=h':=by
 by_cases c1:(64:Int)<(z.length:Nat);refine ai ?_;simp[a_,aM,eq_true c1];have:Q0 z=false:=by unfold Q0;rw[decide_eq_false oM];rfl
 rw[this];refine ai ?_;simp[a_,aM,eq_false c1];refine aC (fun k env hh=>hh=h/\∃(i:Nat),env.c_ 3=some (ZZ i)/\env.c_ 0=some (.f z)/\i<=z.length/\fE i7 (z.drop i)=fE i7 z/\k=z.length-i) z.length oM ?_ ?_;exact⟨rfl,0,iS,iS,oM,rfl,rfl⟩;rintro k env hh ⟨rfl,i,g3,g0,hi,e,rfl⟩;by_cases K:i<z.length;have Z:(i:Int)<z.length:=oM;rw[qn K]at e;by_cases c2:((z[i]).toNat:Int)<32;simp[a_,g3,g0,aM,Z,cg K,eq_true c2];have:Q0 z=false:=by unfold Q0;rw[<-e];simp[i7,c2]
 rw[this];by_cases c3:(126:Int)<((z[i]).toNat:Int);simp[a_,g3,g0,aM,Z,cg K,eq_false c2,eq_true c3];have:Q0 z=false:=by unfold Q0;rw[<-e];simp[i7,c3]
 rw[this];simp(disch:=omega)[a_,ah,g3,g0,aM,Z,cg K,eq_false c2,eq_false c3];have b0:i7 ((z[i]).toNat:Int)=false:=by simp only[i7,Bool.or_eq_false_iff,decide_eq_false_iff_not];exact⟨c2,c3⟩
 rw[b0,Xj]at e;refine t_ ⟨z.length-(i+1),oM,rfl,i+1,iS,iX,oM,e,rfl⟩;simp[a_,g3,g0,aM,(oM:¬(i:Int)<z.length)];rw[sX oM]at e;have:Q0 z=true:=by unfold Q0;rw[<-e,decide_eq_true oM];rfl
 rw[this]
theorem Hx{h:b_}{z:i_}:av go 184 [.f z] h fun u h'=>u=ZZ (kT (F_ z))/\h=h':=by
 by_cases c0:(z.length:Int)<1;refine ai ?_;simp[a_,aM,eq_true c0];have:F_ z=false:=by unfold F_;rw[decide_eq_false oM];rfl
 rw[this];rfl;by_cases c1:(16:Int)<(z.length:Nat);refine ai ?_;simp[a_,aM,eq_false c0,eq_true c1];have:F_ z=false:=by unfold F_;rw[decide_eq_false (oM:¬z.length<=16)];simp
 rw[this];rfl;refine ai ?_;simp[a_,aM,eq_false c0,eq_false c1];refine aC (fun k env hh=>hh=h/\∃(i:Nat),env.c_ 3=some (ZZ i)/\env.c_ 0=some (.f z)/\i<=z.length/\fE dH (z.drop i)=fE dH z/\k=z.length-i) z.length oM ?_ ?_;exact⟨rfl,0,iS,iS,oM,rfl,rfl⟩;rintro k env hh ⟨rfl,i,g3,g0,hi,e,rfl⟩;by_cases K:i<z.length;have Z:(i:Int)<z.length:=oM;rw[qn K]at e;have bad:dH ((z[i]).toNat:Int)=true->F_ z=false:=fun q=>by unfold F_;rw[<-e,q];simp
 have good:dH ((z[i]).toNat:Int)=false->fE dH (z.drop (i+1))=fE dH z:=fun q=>by rw[<-e,q];rfl
 by_cases c1:(97:Int)<=((z[i]).toNat:Int);by_cases c2:((z[i]).toNat:Int)<=122;simp(disch:=omega)[a_,ah,g3,g0,aM,Z,cg K,eq_true c1,eq_true c2];refine t_ ⟨z.length-(i+1),oM,rfl,i+1,iS,iX,oM,good (by simp[dH];omega),rfl⟩;by_cases c3:(48:Int)<=((z[i]).toNat:Int);have c4:¬((z[i]).toNat:Int)<=57:=oM;simp[a_,g3,g0,aM,Z,cg K,eq_true c1,eq_false c2,eq_true c3,eq_false c4];rw[bad (by simp[dH];omega)];rfl;omega;by_cases c3:(48:Int)<=((z[i]).toNat:Int);by_cases c4:((z[i]).toNat:Int)<=57;simp(disch:=omega)[a_,ah,g3,g0,aM,Z,cg K,eq_false c1,eq_true c3,eq_true c4];refine t_ ⟨z.length-(i+1),oM,rfl,i+1,iS,iX,oM,good (by simp[dH];omega),rfl⟩;simp[a_,g3,g0,aM,Z,cg K,eq_false c1,eq_true c3,eq_false c4];rw[bad (by simp[dH];omega)];rfl;simp[a_,g3,g0,aM,Z,cg K,eq_false c1,eq_false c3];rw[bad (by simp[dH];omega)];rfl;simp[a_,g3,g0,aM,(oM:¬(i:Int)<z.length)];rw[sX oM]at e;have:F_ z=true:=by unfold F_;rw[<-e,decide_eq_true oM,decide_eq_true (oM:z.length<=16)];rfl
 rw[this];rfl
theorem fH{h:b_}{z:i_}:av go 239 [.f z] h fun u h'=>u=.h (F_ z)/\h=h':=by
 refine ai ?_;simp[a_];refine aC (fun k env hh=>hh=h/\∃(i:Nat),env.c_ 3=some (ZZ i)/\env.c_ 0=some (.f z)/\i<=z.length/\i<=17/\fE dH (z.drop i)=fE dH z/\k=17-i) 17 oM ?_ ?_;exact⟨rfl,0,iS,iS,oM,oM,rfl,rfl⟩;rintro k env hh ⟨rfl,i,g3,g0,hi,ac,e,rfl⟩;by_cases K:i<z.length;have Z:(i:Int)<z.length:=oM;by_cases ab:(i:Int)<17;rw[qn K]at e;have bad:dH ((z[i]).toNat:Int)=true->F_ z=false:=fun q=>by unfold F_;rw[<-e,q];simp
 have good:dH ((z[i]).toNat:Int)=false->fE dH (z.drop (i+1))=fE dH z:=fun q=>by rw[<-e,q];rfl
 by_cases c1:((z[i]).toNat:Int)<97;by_cases c3:((z[i]).toNat:Int)<48;simp[a_,g3,g0,aM,Z,cg K,eq_true c1,eq_true c3,eq_true ab];rw[bad (by simp[dH];omega)];by_cases c4:(57:Int)<((z[i]).toNat:Int);simp[a_,g3,g0,aM,Z,cg K,eq_true c1,eq_false c3,eq_true c4,eq_true ab];rw[bad (by simp[dH];omega)];simp(disch:=omega)[a_,ah,g3,g0,aM,Z,cg K,eq_true c1,eq_false c3,eq_false c4,eq_true ab];refine t_ ⟨17-(i+1),oM,rfl,i+1,iS,iX,oM,oM,good (by simp[dH];omega),rfl⟩;by_cases c2:(122:Int)<((z[i]).toNat:Int);have c3:¬((z[i]).toNat:Int)<48:=oM;have c4:(57:Int)<((z[i]).toNat:Int):=oM;simp[a_,g3,g0,aM,Z,cg K,eq_false c1,eq_true c2,eq_false c3,eq_true c4,eq_true ab];rw[bad (by simp[dH];omega)];simp(disch:=omega)[a_,ah,g3,g0,aM,Z,cg K,eq_false c1,eq_false c2,eq_true ab];refine t_ ⟨17-(i+1),oM,rfl,i+1,iS,iX,oM,oM,good (by simp[dH];omega),rfl⟩;simp[a_,g3,g0,aM,Z,eq_false ab,(oM:(1:Int)<=(z.length:Nat)),(oM:¬((z.length:Nat):Int)<=16)];have:F_ z=false:=by unfold F_;rw[decide_eq_false (oM:¬z.length<=16)];simp
 rw[this];rw[sX oM]at e;by_cases c0:(1:Int)<=(z.length:Nat);have e2:F_ z=decide (((z.length:Nat):Int)<=16):=by
  unfold F_;rw[<-e,decide_eq_true oM];have:decide (z.length<=16)=decide (((z.length:Nat):Int)<=16):=by rw[decide_eq_decide];omega
  rw[this];simp
 by_cases c1:((z.length:Nat):Int)<=16;simp[a_,g3,g0,aM,(oM:¬(i:Int)<z.length),eq_true c0,eq_true c1];rw[e2,decide_eq_true c1];simp[a_,g3,g0,aM,(oM:¬(i:Int)<z.length),eq_true c0,eq_false c1];rw[e2,decide_eq_false c1];simp[a_,g3,g0,aM,(oM:¬(i:Int)<z.length),eq_false c0];have:F_ z=false:=by unfold F_;rw[decide_eq_false oM];rfl
 rw[this]
theorem If:∀d,d<10->aP (.A true true) [.f [48,49,50,51,52,53,54,55,56,57],ZX (d:Nat),ZX ((d:Nat)+1)]=some (.f [UInt8.ofNat (48+d)]):=by
 intro d Z;match d,Z with
 |0,_=>rfl
 |1,_=>rfl
 |2,_=>rfl
 |3,_=>rfl
 |4,_=>rfl
 |5,_=>rfl
 |6,_=>rfl
 |7,_=>rfl
 |8,_=>rfl
 |9,_=>rfl
theorem IH(a b:i_)(h:a.length+b.length<9223372036854775808):aP (.C .add) [.f a,.f b]=some (.f (a++b)):=by simp[aP,qE,(VE ..).mpr h]
theorem Dv:∀(k n:Nat),n<10^(k+1)->(W0 n).length<=k+1
 |k,n,h=>by
  by_cases c:n<10;rw[yY c];simp;match k,h with
  |0,h=>omega
  |k+1,h=>rw[Ch c,Vv];have:=Dv k (n/10) (by rw[Nat.pow_succ]at h;omega);simp only[Vy,XU];omega
theorem xr{n:Nat}(h:n<18446744073709551616):(W0 n).length<=20:=Dv 19 n oM
theorem pZ{h:b_}:∀(k n:Nat),n<k->n<18446744073709551616->av go 240 [ZX (n:Int)] h fun u h'=>u=.f (W0 n)/\h=h'
 |0,_,hk,_=>by omega
 |k+1,n,hk,hn=>by
  by_cases c:n<10;have c':(n:Int)<10:=oM;have f1:bF .u64 ((n:Int)+1)=(n:Int)+1:=bY _ oM oM;refine ai ?_;simp only[a_,seval,eq_true c',f1,If n c];rw[yY c];have c':¬(n:Int)<10:=oM;have r1:aP (.h .rem) [ZX (n:Int),ZX 10]=some (ZX ((n%10:Nat):Int)):=by rw[jy _ _ _ dI];rfl
  have Z:aP (.h .quo) [ZX (n:Int),ZX 10]=some (ZX ((n/10:Nat):Int)):=by rw[pp _ _ _ dI,(iR:((n:Int)).tdiv 10=((n/10:Nat):Int)),bY _ oM oM]
  refine ai ?_;simp only[a_,seval,eq_false c',Z];apply aa (pZ k (n/10) oM oM);rintro _ _ ⟨rfl,rfl⟩;simp only[a_,seval,r1];apply aa (pZ k (n%10) oM oM);rintro _ _ ⟨rfl,rfl⟩;have K:=xr (n:=n/10) oM;have q2:=xr (n:=n%10) oM;simp only[a_,seval,IH _ _ (oM:(W0 (n/10)).length+(W0 (n%10)).length<9223372036854775808)];rw[Ch c,yY (WN n dI)]
theorem rZ{h:b_}{x:e_}(w:WF h)(a:q_ h x):av go 186 [.B x.s] h fun u h'=>u=ZZ (if iA x then 0 else 6)/\Fr [] h h':=by
 let⟨h1,af,ac,ae⟩:=au w x.s;have l0:ag h1 h.i 0=some (ZX (x.A:Int)):=ae.o 0;have l2:ag h1 h.i 2=some (.f x.U):=ae.o 2;have K:ag h1 h.i 3=some x.vm:=ae.o 3;have am:=a.m.fr ac;by_cases c0:(x.A:Int)=0;refine ai ?_;simp only[a_,seval,<-af,l0,eq_true c0];exact⟨by simp[iA,(oM:x.A=0)],ac⟩;refine ai ?_;simp only[a_,seval,<-af,l0,eq_false c0,l2];apply aa kM;rintro _ _ ⟨rfl,rfl⟩;cases c2:Q0 x.U;simp only[a_,seval];exact⟨by simp[iA,c2],ac⟩;by_cases c3:(8:Int)<(x.E.length:Nat);simp only[a_,seval,K,am.A_,eq_true c3];exact⟨by simp[iA,Zz,(oM:¬x.E.length<=8)],ac⟩;simp[a_,K,am.A_,eq_false c3];refine aC (fun k env hh=>hh=h1/\∃(i:Nat),env.c_ 3=some (ZZ i)/\env.c_ 1=some (.u h.i 0)/\i<=x.E.length/\(x.E.drop i).all F_=x.E.all F_/\k=x.E.length-i) x.E.length oM ?_ ?_;exact⟨rfl,0,iS,iS,oM,rfl,rfl⟩;rintro k env hh ⟨rfl,i,g3,g1,hi,e,rfl⟩;by_cases ab:i<x.E.length;have Z:(i:Int)<x.E.length:=oM;let⟨b,o,s,e1,e2,_,e5⟩:=am.ix iu .i64 i oM Z;have e4:ag hh b o=some (.f s):=e2 0 oM;rw[pi]at e5;rw[aN e5,Xi]at e;simp[a_,g3,g1,K,am.A_,Z,e1,e4];apply aa fH;rintro _ _ ⟨rfl,rfl⟩;cases c:F_ s;simp only[a_,seval];rw[c]at e;have e':x.E.all F_=false:=by rw[<-e];rfl
 exact⟨by simp[iA,Zz,e'],ac⟩;simp(disch:=omega)[a_,ah,g3];rw[c]at e;refine t_ ⟨x.E.length-(i+1),oM,rfl,i+1,iS,iX,oM,by simpa using e,rfl⟩;simp only[a_,seval,g3,g1,K,am.A_,(oM:¬(i:Int)<x.E.length)];rw[Vq oM]at e;have e':x.E.all F_=true:=by rw[<-e];rfl
 exact⟨by simp[iA,Zz,e',c2,(oM:x.A≠0),(oM:x.E.length<=8)],ac⟩
theorem AQ{h:b_}{v:V}{key:Nat}(a:o_ e_.s 4 h v X)(hn:X.length<=4096):
 av go 113 [v,ZX (key:Int)] h fun u h'=>h=h'/\∃r:Int,u=ZZ r/\(0<=r↔∃x∈X,x.A=key):=by
 refine ai ?_;simp[a_];refine aC (fun k env hh=>hh=h/\∃(i:Nat),env.c_ 5=some (ZZ i)/\env.c_ 0=some v/\env.c_ 1=some (ZX (key:Int))/\i<=X.length/\(∀x∈X.take i,x.A≠key)/\k=X.length-i) X.length oM ?_ ?_;exact⟨rfl,0,iS,iS,iS,oM,iS,rfl⟩;rintro k env hh ⟨rfl,i,K,g0,g1,hi,e,rfl⟩;by_cases ab:i<X.length;have Z:(i:Int)<X.length:=oM;let⟨b,o,x,e1,e2,_,e5⟩:=Yj (f:=e_.s) (k:=4) (fun _=>rfl) a .i64 i oM Z;have e4:ag hh b o=some (ZX (x.A:Int)):=e2 0 oM;rw[pi]at e5;by_cases c:x.A=key;simp only[a_,seval,K,g0,g1,a.M,Z,e1,e4,c];exact⟨(i:Int),rfl,fun _=>⟨x,Vg e5,c⟩,fun _=>by omega⟩;have c':¬(x.A:Int)=(key:Int):=oM;simp(disch:=omega) only[a_,seval,ah,K,g0,g1,a.M,Z,e1,e4,eq_false c'];refine t_ ⟨X.length-(i+1),oM,rfl,i+1,iS,iX,iX,oM,?_,rfl⟩;rw[Vs,e5];intro y m;obtain m|m:=Vc.1 m;exact e y m;grind;simp only[a_,seval,K,g0,a.M,(oM:¬(i:Int)<X.length)];rw[Vm oM]at e;exact⟨-1,rfl,fun q=>by omega,fun⟨x,m,q⟩=>absurd q (e x m)⟩
theorem Hq(a b:Bool):kT a*kT b=kT (a&&b):=by cases a<;>cases b<;>rfl
theorem jo{h:b_}{x:e_}{b0:Bool}{bb:Nat}{R:V->b_->Prop}(w:WF h)(o:f_ h bb x.s)(a:q_ h x)(g2:env.c_ 2=some (.u bb 0))(K:env.c_ 5=some (ZZ (kT b0)))
 (k:∀h',h=h'->R (ZZ (if(b0&&x.E.all F_)then 0 else 6)) h'):
 W go ckR env h (jz [.t 4] R):=by
 have l3:ag h bb 3=some x.vm:=o.o 3;have am:=a.m;have an:=a.n;simp[a_,ckR];refine aC (fun k env hh=>hh=h/\∃(i:Nat)(c:Bool),env.c_ 6=some (ZZ i)/\env.c_ 2=some (.u bb 0)/\env.c_ 5=some (ZZ (kT c))/\i<=x.E.length/\(c&&(x.E.drop i).all F_)=(b0&&x.E.all F_)/\k=x.E.length-i) x.E.length oM ?_ ?_;exact⟨rfl,0,b0,iS,iX,iX,oM,rfl,rfl⟩;rintro k' env hh ⟨rfl,i,c,g6,g2,K,hi,e,rfl⟩;by_cases ab:i<x.E.length;have Z:(i:Int)<x.E.length:=oM;let⟨b,o,s,e1,e2,_,e5⟩:=am.ix iu .i64 i oM Z;have e4:ag hh b o=some (.f s):=e2 0 oM;rw[pi]at e5;rw[aN e5,Xi]at e;simp only[a_,seval,g6,g2,K,l3,am.A_,Z,e1,e4];apply aa Hx;rintro _ _ ⟨rfl,rfl⟩;have m1:bF .i64 (kT c*kT (F_ s))=kT (c&&F_ s):=by rw[Hq,ah _ (by unfold kT;split<;>omega) (by unfold kT;split<;>omega)]
 simp(disch:=omega) only[a_,seval,ah,g6,m1];refine t_ ⟨x.E.length-(i+1),oM,rfl,i+1,c&&F_ s,iS,iX,iS,oM,by rw[<-e,Bool.and_assoc],rfl⟩;rw[Vq oM]at e;have e':c=(b0&&x.E.all F_):=by rw[<-e];simp
 cases c;simp[a_,g6,g2,K,l3,am.A_,(oM:¬(i:Int)<x.E.length),kT];rw[<-e']at k;exact k _ rfl;simp[a_,g6,g2,K,l3,am.A_,(oM:¬(i:Int)<x.E.length),kT];rw[<-e']at k;exact k _ rfl
theorem xx{h:b_}{x:e_}{Z:Nat}(w:WF h)(a:q_ h x)(ht:Z<256):av go 114 [.B x.s,ZZ (Z:Int)] h fun u h'=>u=ZZ (if P0 x Z then 0 else 6)/\Fr [] h h':=by
 let⟨h1,ae,ac,ab⟩:=au w x.s;have l0:ag h1 h.i 0=some (ZX (x.A:Int)):=ab.o 0;have l1:ag h1 h.i 1=some (ZY (x.N:Int)):=ab.o 1;have l2:ag h1 h.i 2=some (.f x.U):=ab.o 2;have l3:ag h1 h.i 3=some x.vm:=ab.o 3;have K:=a.fr ac;have at':=a.t;have bad:P0 x Z=false->∀h',h1=h'->(ZZ (if(false&&x.E.all F_)then 0 else 6)=ZZ (if P0 x Z then 0 else 6)/\Fr [] h h'):=by grind
 have cv:bF .i64 (x.N:Int)=(x.N:Int):=ah _ oM oM;by_cases c0:(x.A:Int)=0;refine ai ?_;simp[a_,<-ae,l2];refine aa mh ?_;rintro _ _ ⟨rfl,rfl⟩;simp only[a_,seval,l0,eq_true c0];exact jo (b0:=false) ac.r ab K iS (by simp[kT]) (bad (by simp[P0,(oM:x.A=0)]));by_cases c1:(Z:Int)<=(x.N:Int);refine ai ?_;simp[a_,<-ae,l2];refine aa mh ?_;rintro _ _ ⟨rfl,rfl⟩;simp only[a_,seval,l0,l1,eq_false c0,cv,eq_true c1];exact jo (b0:=false) ac.r ab K iS (by simp[kT]) (bad (by simp[P0,(oM:¬x.N<Z)]));by_cases c2:(8:Int)<(x.E.length:Nat);refine ai ?_;simp[a_,<-ae,l2];refine aa mh ?_;rintro _ _ ⟨rfl,rfl⟩;simp only[a_,seval,l0,l1,l3,K.m.A_,eq_false c0,cv,eq_false c1,eq_true c2];exact jo (b0:=false) ac.r ab K iS (by simp[kT]) (bad (by simp[P0,Zz,(oM:¬x.E.length<=8)]));refine ai ?_;simp[a_,<-ae,l2];refine aa mh ?_;rintro _ _ ⟨rfl,rfl⟩;simp only[a_,seval,l0,l1,l3,K.m.A_,eq_false c0,cv,eq_false c1,eq_false c2];apply jo (b0:=Q0 x.U) ac.r ab K iS iS;rintro _ rfl;have:(Q0 x.U&&x.E.all F_)=P0 x Z:=by simp[P0,Zz,(oM:x.A≠0),(oM:x.N<Z),(oM:x.E.length<=8)]
 rw[this];exact⟨rfl,ac⟩
end Go.Ev.Lay
