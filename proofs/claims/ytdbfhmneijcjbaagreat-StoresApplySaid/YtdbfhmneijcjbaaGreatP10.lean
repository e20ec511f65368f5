/- An evaluator of the program, and contracts over it: StaN to StbC. -/
import Derived.Test.YtdbfhmneijcjbaaGreatP09
set_option linter.unusedSimpArgs false
set_option linter.unusedVariables false
set_option linter.constructorNameAsVariable false
set_option linter.unnecessarySimpa false
namespace Go.Ev.Lay
variable{h':Heap}{Ks:List Knd}{cap:Int}{X:List Itm}{bg bm bl:Nat}{vK k0:V}{env:T V}{late:List Nat}{loc cs:List V}{st ks bs kn:List Bool}{pm:Option Nat}
set_option maxRecDepth 4000
def RulesAt(h:Heap)(b:Nat)(Ks:List Knd)(cap:Int):Prop:=∃vK c2 c3 c4,Own h b [vK,ZZ cap,c2,c3,c4]/\Recs Knd.cells 9 h vK Ks/\∀q∈Ks,KndH h q
theorem RulesAt.fr{h:Heap}{b:Nat}(r:RulesAt h b Ks cap)(f:Fr [] h h'):RulesAt h' b Ks cap:=by let⟨vK,c2,c3,c4,o,r,k⟩:=r;exact⟨vK,c2,c3,c4,f.get o,TK r f,fun q m=>(k q m).fr f⟩
def bO(Ks:List Knd)(cap:Int)(x:Itm):Int:=match Ks[x.type]? with
 |some q=>fu q.k q.tg q.ky q.sl q.tx q.sub x cap
 |none=>0
def TreeS(N:Nat)(h':Heap)(Ks:List Knd)(x:Itm)(cs:List V):Prop:=∃q s va vc,Ks[x.type]? =some q/\cs=[ZY 1,.str q.tg,.str q.ky,va,.str [],vc]/\(∀(X:List Nat)(h2:Heap),(∀y∈X,y<N)->Fr X h' h2->NH h2 (.cons 1 q.tg q.ky (q.sl.map (att x)) [] va vc s .nil))/\
 s.sh=cE x q.sub/\ST.count 1 q.tg q.ky (q.sl.map (att x)) [] (cE x q.sub)≠0
theorem qg{k:Nat}{tg ky tx:Str}{sl:List Slo}{sub:PT}{x:Itm}{Z:Int}(e:fu k tg ky sl tx sub x Z=0):ST.count 1 tg ky (sl.map (att x)) [] (cE x sub)≠0:=by intro z;unfold fu at e;split at e;cases e;omega
theorem ya{h:Heap}{b:Nat}{x:Itm}(w:WF h)(r:RulesAt h b Ks cap)(a:ItmH h x)(ht:x.type<Ks.length):
 ao go 72 [.ptr b 0,.agg x.cells] h fun u h'=>∃cs,u=.tup [.agg cs,ZZ (bO Ks cap x)]/\Fr [] h h'/\au cs=true/\cs.length=6/\(bO Ks cap x=0->TreeS h.next h' Ks x cs):=by
 let⟨vK,c2,c3,c4,o,rk,kh⟩:=r;let⟨h1,e_h1,F_h1,o_h1⟩:=aq w x.cells;let⟨h2,e_h2,F_h2,o_h2⟩:=aq F_h1.wf [ZY 0,.str [],.str [],.nils,.str [],.nils];have n1:=hnx e_h1;have Z:=F_h1.then F_h2;have ob:=Z.get o;have ox:=F_h2.get o_h1;have l0:ab h2 b 0=some vK:=ob.ld1 0;have l1:ab h2 b 1=some (ZZ cap):=ob.ld1 1;have x1:ab h2 h.next 1=some (ZY (x.type:Int)):=ox.ld1 1;have x4:aj h2 h.next 0 4=some x.cells:=by rw[ox.ld];rfl
 let⟨bk,ok',q,p1,p2,K,p4⟩:=(TK rk Z).ix eM .u8 (x.type:Int) oM oM;rw[RX]at p4;have hq:=kh q (RZ p4);have er:bO Ks cap x=fu q.k q.tg q.ky q.sl q.tx q.sub x cap:=by simp[bO,p4]
 have p6:aj h2 bk ok' 6=some q.part:=by
  let⟨b',o',e1,_,g2⟩:=Sl.ix (TK rk Z) .u8 (x.type:Int) oM oM;rw[p1]at e1;cases e1;simp only[aj]at K|-;cases cc:dN h2 bk with
  |none=>rw[cc]at K;cases K
  |some C=>
   rw[cc]at K;simp only[bM]at K|-;have hl:9<=(C.drop ok').length:=by
    obtain z|z:=TB (C.drop ok').length 9;exfalso;have tk:∀(n:Nat)(l:List V),l.length<n->dA n l=none:=by
     intro n;induction n with
     |zero=>intro l hl;omega
     |succ n ih=>
      intro l hl;cases l with
      |nil=>rfl
      |cons a l=>rw[fF,ih l (eV hl)];rfl
    rw[tk 9 _ z]at K;cases K;exact z
   rw[bK _ _ hl]at K;rw[bK _ _ oM];have ac:=TW K;have:(C.drop ok').take 6=((C.drop ok').take 9).take 6:=by grind
   rw[this,ac];rfl
 refine ag ?_;simp only[evs,seval,eff,<-e_h1,<-e_h2,l0,x1,p1,p6,x4,l1];refine aa (uD (vs:=q.vs) (vp:=q.vp) F_h2.wf (hq.fr Z) (a.fr Z)) ?_;rintro _ h3 ⟨cs,rfl,F3,z1,z2⟩;have on:au cs=true/\cs.length=6:=by by_cases z:fu q.k q.tg q.ky q.sl q.tx q.sub x cap=0;obtain⟨s,va,vc,rfl,n,_⟩:=z2 z;exact⟨NH.ones (n [] h3 iS (Sn F3.wf)),rfl⟩;rw[z1 z];exact⟨rfl,rfl⟩
 have ae:=F3.get o_h2;simp only[evs,seval,eff];refine ai (c':=cs) F3.wf ae on.2 on.1 (by
  rw[bQ _ _ _ (by show 0+cs.length<=6;omega)];simp[V.cells];omega) ?_
 rintro h4 o4 F4 n4;have l4:aj h4 h1.next 0 6=some cs:=by rw[o4.ld,fK,bK _ _ oM,Sf oM]
 simp only[evs,seval,DF,eff,l0,x1,p6,x4,l1,l4];refine⟨cs,by rw[er],(Z.then F3).fresh F4 w oM,on.1,on.2,fun z=>?_⟩;rw[er]at z;let⟨s,va,vc,e,n,es⟩:=z2 z;refine⟨q,s,va,vc,p4,e,fun X hh hX f=>n ([h1.next]++X) hh (fun y m=>?_) (Sj F4 f F3.wf (fun y m=>.inl (pi.2 (.inl m))) (fun y m=>.inl (pi.2 (.inr m)))),es,qg z⟩;have:=F_h2.next;have n2:=hnx e_h2;obtain m|m:=pi.1 m;simp at m;omega;grind
theorem rj{h:Heap}{b:Nat}{x:Itm}(w:WF h)(r:RulesAt h b Ks cap)(a:ItmH h x)(ht:x.type<Ks.length):
 ao go 72 [.ptr b 0,.agg x.cells] h fun u h'=>∃cs,u=.tup [.agg cs,ZZ (bO Ks cap x)]/\Fr [] h h'/\au cs=true/\cs.length=6:=by
 apply Uu (ya w r a ht);rintro _ h' ⟨cs,e,f,o,l,_⟩;exact⟨cs,e,f,o,l⟩
def Ch(h0:Heap)(g:Nat)(caps:List V)(p:Nat->Bool):Prop:=g<1099511627776/\∀(h:Heap)(k:Nat),Fr [] h0 h->k<18446744073709551616->ao go g (ZX (k:Int)::caps) h fun u h'=>u=.bool (p k)/\Fr [] h h'
def dQ(Ks:List Knd)(cap:Int)(p:Nat->Bool):List Nat->List Itm->Int
 |_,[]=>0
 |seen,x::r=>if okI x Ks.length=false then 6 else if x.key∈seen\/p x.key=true then 8 else if bO Ks cap x≠0 then bO Ks cap x else dQ Ks cap p (seen++[x.key]) r
theorem qi{h:Heap}{b g:Nat}{v:V}{caps:List V}{p:Nat->Bool}(w:WF h)(r:RulesAt h b Ks cap)(hK:Ks.length<=8)(sl:ARecs Itm.cells 4 h v X)(hX:∀x∈X,ItmH h x)(hn:X.length<=4096)(Th:Ch h g caps p):
 ao go 94 [.ptr b 0,v,.func (.func g) [] caps] h fun u h'=>u=ZZ (dQ Ks cap p [] X)/\Fr [] h h':=by
 obtain⟨h1,K⟩:∃h1,h1=kw h:=⟨_,rfl⟩;have ar:Fr [] h h1:=K▸Fr.hnew w _;have s1:Seen h1 h.next []:=⟨[],0,by rw[K];exact ku _ _,rfl,iS⟩;refine ag ?_;simp only[evs,seval,EB,<-K,sl.len];refine aC (fun n env hh=>Fr [] h hh/\∃(i:Nat)(seen:List Nat),env.get 16=some (ZZ i)/\env.get 15=some (ZZ X.length)/\env.get 14=some v/\env.get 0=some (.ptr b 0)/\env.get 2=some (.func (.func g) [] caps)/\env.get 7=some (.map h.next)/\
  i<=X.length/\Seen hh h.next seen/\dQ Ks cap p seen (X.drop i)=dQ Ks cap p [] X/\n=X.length-i) X.length oM ?_ ?_
 ·exact⟨ar,0,[],iS,iS,iS,iS,iS,iS,oM,s1,rfl,rfl⟩
 ·rintro n env hh ⟨F,i,seen,af,az,a2,g0,g2,g7,hi,S,e,rfl⟩;by_cases a5:i<X.length
  ·have ae:(i:Int)<X.length:=oM
   let⟨bi,oi,x,p1,_,p3,p4⟩:=(sl.fr F).ix (f:=Itm.cells) (k:=4) (fun _=>rfl) .i64 (i:Int) oM ae;rw[RX]at p4;have a:=hX x (RZ p4);rw[aK p4]at e;simp only[dQ]at e;let⟨h3,e_h3,F_h3,o_h3⟩:=aq F.wf [ZX 0,ZY 0,.str [],.nils];simp only[evs,seval,af,az,a2,ae,p1,p3,<-e_h3];refine ai (c':=x.cells) F_h3.wf o_h3 rfl a.one rfl ?_;rintro h4 o4 F4 n4;have an:Fr [] hh h4:=F_h3.fresh F4 F.wf (RW _);have F0:=F.then an;let⟨vK,c2,c3,c4,ob,rk,kh⟩:=r.fr F0;have x4:aj h4 hh.next 0 4=some x.cells:=by rw[o4.ld];rfl
   have l0:ab h4 b 0=some vK:=ob.ld1 0;simp only[evs,seval,eff,g0,x4,l0,(VV rk)];refine aa (oJ an.wf (a.fr F0) oM) ?_;rintro _ h5 ⟨rfl,F5⟩;cases c1:okI x Ks.length
   ·rw[c1,if_pos rfl]at e;simp only[evs,seval,DF,eff,x4,l0];exact⟨by rw[<-e],F0.then F5⟩
   rw[c1,if_neg iS]at e;have ak:=F0.then F5;have o5:=F5.get o4;have k0:ab h5 hh.next 0=some (ZX (x.key:Int)):=o5.ld1 0;have S5:=(S.fr an).fr F5;by_cases c2:x.key∈seen
   ·rw[if_pos (.inl c2)]at e;simp only[evs,seval,DF,eff,g7,x4,l0,k0,yu,kQ,nM S5,c2];exact⟨by rw[<-e],ak⟩
   simp only[evs,seval,DF,eff,g2,g7,x4,l0,k0,yu,kQ,nM S5,c2,Th.1];refine aa (Th.2 h5 x.key ak a.k) ?_;rintro _ h6 ⟨rfl,F6⟩;have ax:=ak.then F6;have o6:=F6.get o5;have aH:ab h6 hh.next 0=some (ZX (x.key:Int)):=o6.ld1 0;cases c3:p x.key
   ·rw[if_neg iX]at e;simp only[evs,seval,g7,aH,Bj,pj];refine qG F6.wf (S5.fr F6) c2 ?_;intro h7 S7 B7 n7;have Z:Fr [] h h7:=VX w ax B7 iS (RW _);have o7:=B7.own _ _ iS o6;have x7:aj h7 hh.next 0 4=some x.cells:=by rw[o7.ld];rfl
    have ht:x.type<Ks.length:=by
     simp only[okI,RU,decide_eq_true_eq]at c1;exact c1.2.1
    simp only[evs,seval,g0,x7];refine aa (rj Z.wf (r.fr Z) (a.fr Z) ht) ?_;rintro _ h8 ⟨cs,rfl,F8,on,cl⟩;let⟨h9,e_h9,F_h9,o_h9⟩:=aq F8.wf [ZY 0,.str [],.str [],.nils,.str [],.nils];simp only[evs,<-e_h9];refine ai (c':=cs) F_h9.wf o_h9 cl on (by
     rw[bQ _ _ _ (by show 0+cs.length<=6;omega)];simp[V.cells];omega) ?_
    rintro a0 a3 a1 a4;have ay:Fr [] h7 a0:=(F8.then F_h9).fresh a1 Z.wf (by have:=F8.next;omega);have ac:=Z.then ay;by_cases c4:bO Ks cap x=0
    ·rw[if_neg iX]at e;simp(disch:=omega) only[evs,seval,ah,af,c4];refine rqn ⟨X.length-(i+1),oM,ac,i+1,seen++[x.key],iS,iX,iX,iX,iX,iX,oM,S7.fr ay,e,rfl⟩
     done
    ·rw[if_pos c4]at e;simp only[evs,seval,c4];exact⟨by rw[<-e],ac⟩
   ·rw[if_pos (.inr c3)]at e;simp only[evs,seval];exact⟨by rw[<-e],ax⟩
  ·simp only[evs,seval,af,az,(oM:¬(i:Int)<X.length)];rw[So oM]at e;exact⟨by rw[<-e];rfl,F⟩
open Go.Ev.St
set_option maxRecDepth 4000
theorem aZ(x:Itm):x.cells.length=4:=rfl
theorem E5{i:Nat}{x:Itm}(h:X[i]? =some x):((X.flatMap Itm.cells).drop (i*4)).take 4=x.cells:=by rw[bJ aZ,aK h];rfl
def Good(h:Heap)(B:Nat):Prop:=∃c,Own h B c/\c.length≠6/\∀L:List (Int×Int),0<L.length->c≠L.flatMap sp
theorem Good.fr{h:Heap}{B:Nat}{S:List Nat}(g:Good h B)(f:Fr S h h')(Z:B∉S):Good h' B:=by let⟨c,o,x⟩:=g;exact⟨c,f.own _ _ Z o,x⟩
theorem Km.good{h:Heap}{b S c:Nat}{m:Nat->Option Nat}(k:Km h b S m c){key x:Nat}(Z:m key=some x):Good h S:=by
 obtain⟨_,_,z⟩|⟨v,sl,t,k,_⟩:=k;grind;have n8:=k.n8;have K:=nU sl;refine⟨_,k.tb.2,oM,?_⟩;intro L p e;cases sl with
 |nil=>simp at n8
 |cons s r=>
  cases L with
  |nil=>simp at p
  |cons q L=>rw[SL,SL]at e;simp[sc,sp]at e
abbrev cC:=(Nat->Option Nat)×Nat
def lY(mc:cC)(key i:Nat):cC:=(j7 mc.1 key i,if(mc.1 key).isSome=true then mc.2 else mc.2+1)
def dJ(mc:cC):List Itm->Nat->cC
 |[],_=>mc
 |x::r,i=>dJ (lY mc x.key i) r (i+1)
theorem wY{h:Heap}{b B S i:Nat}{vc vl:V}{mc:cC}(w:WF h)(ob:Own h b [vK,vc,.ptr bg 0,.ptr bm 0,vl])(g:Gp h bg B X.length (X.flatMap Itm.cells))(k:Km h bm S mc.1 mc.2)
 (hX:∀x∈X,0<x.key/\x.key<18446744073709551616) (hi:i<=X.length) (hc:mc.2+X.length<=4096) (d1:b≠bm) (d2:b≠S) (d3:bg≠bm) (d4:bg≠S) (d5:B≠bm) (d6:B≠S) (lt:B<h.next) (gS:Good h S):
 ao go 99 [.ptr b 0,ZZ (i:Int)] h fun u h'=>u=.tup []/\∃S',(S'=S\/h.next<=S')/\Km h' bm S' (dJ mc (X.drop i) i).1 (dJ mc (X.drop i) i).2/\Fr [bm,S] h h'/\Good h' S':=by
 have hn:=g.len.2.1;have blt:=ob.lt w;have ay:bg<h.next:=by let⟨v,c1,G,c2,a,gg,m,k,_⟩:=g;exact k.ob.lt w
 refine ag ?_;simp only[evs,seval];refine aC (fun n env K=>∃(j S':Nat)(Z:cC),(S'=S\/h.next<=S')/\Km K bm S' Z.1 Z.2/\Fr [bm,S] h K/\Good K S'/\env.get 0=some (.ptr b 0)/\env.get 1=some (ZZ (j:Int))/\j<=X.length/\
  dJ Z (X.drop j) j=dJ mc (X.drop i) i/\Z.2+(X.length-j)<=4096/\n=X.length-j) (X.length-i) oM ?_ ?_
 exact⟨i,S,mc,.inl rfl,k,Sn w,gS,iS,iS,hi,rfl,oM,oM⟩;rintro n env K ⟨j,S',Z,hS,km,F,gd,g0,g1,hj,e,az,rfl⟩;have e1:S'≠b:=oM;have ac:=F.own b _ (by simp;exact⟨d1,d2⟩) ob;have ae:=g.fr F (by simp;exact⟨d3,d4⟩) (by simp;exact⟨d5,d6⟩);have l2:ab K b 2=some (.ptr bg 0):=ac.ld1 2;simp only[evs,g0,l2];refine aa (yR ae) ?_;rintro _ _ ⟨rfl,rfl⟩;by_cases ar:j<X.length;obtain⟨x,hx⟩:∃x,X[j]? =some x:=⟨_,Sm ar⟩;have xk:=hX x (RZ hx);simp only[evs,seval,g0,g1,l2,(oM:(j:Int)<(X.length:Nat))];let⟨v,c1,G,c2,a,gg,m,gt,el,en⟩:=ae;refine aa (Aw F.wf gt (i:=j) oM) ?_;rintro _ h4 ⟨F4,rfl⟩;rw[<-el,E5 hx];let⟨h5,e_h5,F_h5,o_h5⟩:=aq F4.wf [ZX 0,ZY 0,.str [],.nils];simp only[evs,seval,<-e_h5];have on:au x.cells=true:=by rw[<-E5 hx];exact bL 4 (bq _ g.len.2.2)
 refine ai (c':=x.cells) F_h5.wf o_h5 rfl on rfl ?_;rintro h6 o6 F6 n6;have Fa:Fr [] K h6:=(F4.then F_h5).fresh F6 F.wf (by have:=F4.next;omega);have l3:ab h6 b 3=some (.ptr bm 0):=(Fa.get ac).ld1 3;have x0:ab h6 h4.next 0=some (ZX (x.key:Int)):=o6.ld1 0;rw[aK hx]at e;simp only[dJ]at e;simp only[evs,seval,eff,g0,g1,l3,x0];refine aa (Im Fa.wf (km.fr Fa) (.inl oM) xk.1 xk.2 oM) ?_;rintro _ h7 ⟨rfl,S2,an,af,F7⟩;have ak:Fr [bm,S] h h7:=by refine Sj (Sj (T:=[bm,S]) F Fa w (fun y hy=>.inl hy) iS) F7 w (fun y hy=>.inl hy) (fun y hy=>?_);simp at hy;obtain rfl|rfl:=hy;exact .inl iS;grind
 have ax:S2=S\/h.next<=S2:=by obtain rfl|q:=an;exact hS;exact .inr (SD (SD F.next Fa.next) q)
 simp(disch:=omega) only[evs,seval,DF,ah,g1,l3,x0];refine rqn ⟨X.length-(j+1),oM,j+1,S2,lY Z x.key j,ax,af,ak,af.good (key:=x.key) (x:=j) (by simp[j7]),iX,iS,oM,e,?_,rfl⟩;simp only[lY];split<;>omega
 simp only[evs,seval,g1,(oM:¬(j:Int)<(X.length:Nat))];rw[So oM]at e;simp only[dJ]at e;refine⟨S',hS,?_,F,gd⟩;rw[<-e];exact km
set_option maxRecDepth 4000
def aF(Ks:List Knd)(x:Itm):Int:=match Ks[x.type]? with
 |some q=>q.base
 |none=>0
def bG(Ks:List Knd)(x:Itm):Bool:=match Ks[x.type]? with
 |some q=>q.sticky
 |none=>false
theorem db{call:aI}{s:IStep}{l:List IStep}{i:Nat}{h:Heap}{v:V}(Z:late.contains i=false)(K:eff s.op=false)(e:aO call loc env h s.op=some (v,h')):
 lay call env late (s::l) i loc h=(lay call env late l (i+1) (v::loc) h).map fun r=>((s,none)::r.1,r.2):=by
 simp only[lay,Z,cond_false,u9,K,e];cases lay call env late l (i+1) (v::loc) h<;>rfl
theorem yC{call:aI}{s:IStep}{l:List IStep}{i:Nat}{h:Heap}(Z:late.contains i=false)(K:eff s.op=true):
 lay call env late (s::l) i loc h=(lay call env late l (i+1) (.tup []::loc) h).map fun r=>((s,none)::r.1,r.2):=by
 simp only[lay,Z,cond_false,u9,K,cond_true];cases lay call env late l (i+1) (V.tup []::loc) h<;>rfl
theorem Bs{call:aI}{s:IStep}{l:List IStep}{i:Nat}{h:Heap}{c:List V}{k:Option (Nat×Nat)}(Z:late.contains i=true)(e:iZ loc env s.op=some (c,k)):
 lay call env late (s::l) i loc h=(lay call env late l (i+1) (eF h.next k::loc) (halloc h c)).map fun r=>((s,some (eF h.next k,c))::r.1,r.2):=by
 simp only[lay,Z,cond_true,e];cases lay call env late l (i+1) (eF h.next k::loc) (halloc h c)<;>rfl
theorem Mp{h:Heap}{b8:Nat}{v4 v5:V}{base:Int}{st:Bool}(g4:env.get 4=some v4)(g5:env.get 5=some v5)(g8:env.get 8=some (.ptr b8 0))(l6:ab h b8 6=some (ZZ base))(l7:ab (halloc h [ZZ base]) b8 7=some (.bool st)):
 lay go env [3,8] [⟨none,.p .mv [.v 4],none⟩,⟨none,.p (.faddr 6) [.v 8],none⟩,⟨none,.ld 1 false (.l 0),none⟩,⟨none,.bs [(ZZ 0)] [(0,1)] 1 [.l 0],none⟩,⟨none,.ap 1 8 (.l 3) (.l 0),none⟩,⟨none,.p .mv [.v 5],none⟩,⟨none,.p (.faddr 7) [.v 8],none⟩,⟨none,.ld 1 false (.l 0),none⟩,⟨none,.bs [(.bool false)] [(0,1)] 1 [.l 0],none⟩,⟨none,.ap 1 1 (.l 3) (.l 0),none⟩,⟨none,.p .mv [.l 5],none⟩,⟨none,.p .mv [.l 1],none⟩] 0 [] h=
  some ([(⟨none,.p .mv [.v 4],none⟩,none),(⟨none,.p (.faddr 6) [.v 8],none⟩,none),(⟨none,.ld 1 false (.l 0),none⟩,none),(⟨none,.bs [(ZZ 0)] [(0,1)] 1 [.l 0],none⟩,some (.slice h.next 0 1 1,[ZZ base])),(⟨none,.ap 1 8 (.l 3) (.l 0),none⟩,none),(⟨none,.p .mv [.v 5],none⟩,none),(⟨none,.p (.faddr 7) [.v 8],none⟩,none),(⟨none,.ld 1 false (.l 0),none⟩,none),(⟨none,.bs [(.bool false)] [(0,1)] 1 [.l 0],none⟩,some (.slice (h.next+1) 0 1 1,[.bool st])),(⟨none,.ap 1 1 (.l 3) (.l 0),none⟩,none),(⟨none,.p .mv [.l 5],none⟩,none),(⟨none,.p .mv [.l 1],none⟩,none)],
   halloc (halloc h [ZZ base]) [.bool st]):=by
 have Z:∀(K:List V)(h:Heap)(x:Opd)(v:V),evO K env x=some v->aO go K env h (.p .mv [x])=some (v,h):=fun K h x v e=>by simp only[aO,gu,dE,e,cU,aP]
 have ae:∀(K:List V)(h:Heap)(k:Nat),aO go K env h (.p (.faddr k) [.v 8])=some (.ptr b8 k,h):=fun K h k=>by simp only[aO,gu,dE,iB,g8,cU,jm,Tj]
 have ac:∀(K:List V)(h:Heap)(k:Nat)(v:V),ab h b8 k=some v->aO go (.ptr b8 k::K) env h (.ld 1 false (.l 0))=some (v,h):=fun K h k v e=>by simp only[aO,ql,bR,fO,e]
 rw[db rfl rfl (Z _ _ _ _ (by rw[iB];exact g4)),db rfl rfl (ae _ _ _),db rfl rfl (ac _ _ _ _ l6)];rw[Bs (c:=[ZZ base]) (k:=some (1,1)) rfl rfl,yC rfl rfl,db rfl rfl (Z _ _ _ _ (by rw[iB];exact g5)),db rfl rfl (ae _ _ _),db rfl rfl (ac _ _ _ _ l7)];rw[Bs (c:=[.bool st]) (k:=some (1,1)) rfl rfl,yC rfl rfl,db (v:=.tup []) rfl rfl (Z _ _ _ _ rfl),db (v:=.tup []) rfl rfl (Z _ _ _ _ rfl)];rfl
theorem Lm(Z:List V)(env:T V)(n:Nat)(b:Int):cy (ZZ b::Z) env (.bs [ZZ 0] [(0,1)] 1 [.l 0]) (.slice n 0 1 1) [ZZ b]=true:=by have e:iZ (ZZ b::Z) env (.bs [ZZ 0] [(0,1)] 1 [.l 0])=some ([ZZ b],some (1,1)):=rfl;simp only[cy,e,lid,eF,ew,mC,Ui]
theorem Ll(Z:List V)(env:T V)(n:Nat)(b:Bool):cy (.bool b::Z) env (.bs [.bool false] [(0,1)] 1 [.l 0]) (.slice n 0 1 1) [.bool b]=true:=by have e:iZ (.bool b::Z) env (.bs [.bool false] [(0,1)] 1 [.l 0])=some ([.bool b],some (1,1)):=rfl;simp only[cy,e,lid,eF,ew,mC,Ui]
theorem oR{h:Heap}{b:Nat}{v:V}(w:WF h)(r:RulesAt h b Ks cap)(sl:ARecs Itm.cells 4 h v X)(hX:∀x∈X,ItmH h x/\x.type<Ks.length)(hn:X.length<=4096):
 ao go 103 [.ptr b 0,v] h fun u h'=>∃v4 v5,u=.tup [v4,v5]/\Gs h' h.next 1 v4 (X.map fun x=>ZZ (aF Ks x))/\Gs h' h.next 1 v5 (X.map fun x=>.bool (bG Ks x))/\Fr [] h h':=by
 refine ag ?_;simp only[evs,seval,sl.len];refine aC (fun n env hh=>Fr [] h hh/\∃(i:Nat)(v4 v5:V),env.get 11=some (ZZ i)/\env.get 10=some (ZZ X.length)/\env.get 9=some v/\env.get 0=some (.ptr b 0)/\env.get 4=some v4/\env.get 5=some v5/\
  i<=X.length/\Gs hh h.next 1 v4 ((X.take i).map fun x=>ZZ (aF Ks x))/\Gs hh h.next 1 v5 ((X.take i).map fun x=>.bool (bG Ks x))/\(∀y∈vb v4,y∉vb v5)/\n=X.length-i) X.length oM ?_ ?_
 exact⟨Sn w,0,.nils,.nils,iS,iS,iS,iS,iS,iS,oM,.inl ⟨rfl,rfl⟩,.inl ⟨rfl,rfl⟩,by simp[vb],rfl⟩;rintro n env hh ⟨F,i,v4,v5,ax,a7,g9,g0,g4,g5,hi,G4,G5,dj,rfl⟩;by_cases bp:i<X.length;have af:(i:Int)<X.length:=oM;let⟨bi,oi,x,p1,_,p3,p4⟩:=(sl.fr F).ix (f:=Itm.cells) (k:=4) (fun _=>rfl) .i64 (i:Int) oM af;rw[RX]at p4;let⟨a,ht⟩:=hX x (RZ p4);let⟨h3,e_h3,F_h3,o_h3⟩:=aq F.wf [ZX 0,ZY 0,.str [],.nils];simp only[evs,seval,ax,a7,g9,af,p1,p3,<-e_h3];refine ai (c':=x.cells) F_h3.wf o_h3 rfl a.one rfl ?_;rintro h4 o4 F4 n4;have ac:Fr [] hh h4:=F_h3.fresh F4 F.wf (RW _);have F0:=F.then ac;let⟨vK,c2,c3,c4,ob,rk,kh⟩:=r.fr F0;have l0:ab h4 b 0=some vK:=ob.ld1 0;have x1:ab h4 hh.next 1=some (ZY (x.type:Int)):=o4.ld1 1;let⟨bk,ok',q,q1,_,q3,q4⟩:=(Vi eM rk .u8 (x.type:Int) oM oM);rw[RX]at q4;have hq:=kh q (RZ q4);have e1:aF Ks x=q.base:=by simp[aF,q4]
 have e2:bG Ks x=q.sticky:=by simp[bG,q4]
 let⟨h5,e_h5,F_h5,o_h5⟩:=aq ac.wf [ZY 0,.str [],.str [],.nils,.str [],.nils,ZZ 0,.bool false,ZZ 0];simp only[evs,seval,eff,g0,l0,x1,q1,q3,<-e_h5];have bh:ab h5 b 0=some vK:=(F_h5.get ob).ld1 0;refine ai (c':=q.cells) F_h5.wf o_h5 rfl hq.ones9 rfl ?_;rintro Z o6 F6 n6;have K:Fr [] h4 Z:=F_h5.fresh F6 ac.wf (RW _);have bw:ab Z hh.next 1=some (ZY (x.type:Int)):=(K.get o4).ld1 1;have bj:ab Z b 0=some vK:=(K.get ob).ld1 0;have a0:∀h',Fr [] h4 h'->aj h' bk ok' 9=some q.cells:=by intro h' f;let⟨b9,o9,_,r1,_,r3,r4⟩:=(Vi eM (TK rk f) .u8 (x.type:Int) oM oM);rw[RX,q4]at r4;cases r4;rw[q1]at r1;cases r1;exact r3
 have q5:=a0 h5 F_h5;have q6:=a0 Z K;have x5:ab h5 hh.next 1=some (ZY (x.type:Int)):=(F_h5.get o4).ld1 1;simp only[evs,seval,DF,l0,x1,q3,bh,q5,x5];have F7:=SO K.wf [ZZ q.base];have o7:=F7.get o6;have F8:=SO F7.wf [.bool q.sticky];have w1:=Ts K.wf [ZZ q.base];have w2:=Ts F7.wf [.bool q.sticky];have l6:ab Z h4.next 6=some (ZZ q.base):=o6.ld1 6;have l7:ab (halloc Z [ZZ q.base]) h4.next 7=some (.bool q.sticky):=o7.ld1 7;refine(Dz _ _ _ _ _ _).2 ?_;rw[Mp (v4:=v4) (v5:=v5) (b8:=h4.next) iX iX iS l6 l7,jn];have o8:=F8.get o7;have ak:ab (halloc (halloc Z [ZZ q.base]) [.bool q.sticky]) h4.next 6=some (ZZ q.base):=o8.ld1 6;have a5:ab (halloc (halloc Z [ZZ q.base]) [.bool q.sticky]) h4.next 7=some (.bool q.sticky):=o8.ld1 7;have a3:=F8.get w1;have a4:Own (halloc (halloc Z [ZZ q.base]) [.bool q.sticky]) (Z.next+1) [.bool q.sticky]:=w2;have an:Fr [] Z (halloc (halloc Z [ZZ q.base]) [.bool q.sticky]):=F7.then F8;have nx:(halloc (halloc Z [ZZ q.base]) [.bool q.sticky]).next=Z.next+2:=rfl;generalize halloc (halloc Z [ZZ q.base]) [.bool q.sticky]=h8 at ak a5 a3 a4 an nx o8|-;simp only[evs,seval,eff,g4,ak,cK,Lm];have ae:Fr [] hh h8:=(ac.then K).then an;have bo:=ae.next;have bm:=K.next;have bn:=F.next;have ar:∀y∈vb v4,y<hh.next:=by obtain⟨rfl,_⟩|⟨b,n,rfl,_,_,_,o⟩:=G4;simp[vb];have:=o.lt F.wf;simp only[vb,Su];rintro y rfl;exact this
 have ba:∀y∈vb v5,y<hh.next:=by obtain⟨rfl,_⟩|⟨b,n,rfl,_,_,_,o⟩:=G5;simp[vb];have:=o.lt F.wf;simp only[vb,Su];rintro y rfl;exact this
 have br:hh.next<=h4.next:=ac.next;refine Uw (n:=1) an.wf (G4.fr ae) (TH a3 rfl) oM oM rfl oM oO ?_;intro a2 h9 G9 e9 F9;have bt:ab h9 h4.next 6=some (ZZ q.base):=(F9.own _ _ (fun m=>by have:=ar _ m;omega) o8).ld1 6;have ay:ab h9 h4.next 7=some (.bool q.sticky):=(F9.own _ _ (fun m=>by have:=ar _ m;omega) o8).ld1 7;have bg:=F9.own _ _ (fun m=>by have:=ar _ m;omega) a4;have bc:Gs h9 h.next 1 v5 ((X.take i).map fun x=>.bool (bG Ks x)):=by obtain⟨rfl,z⟩|⟨b,n,rfl,z1,z2,z3,o⟩:=G5.fr ae;exact .inl ⟨rfl,z⟩;exact .inr ⟨b,n,rfl,z1,z2,z3,F9.own _ _ (fun m=>dj _ m (by simp[vb])) o⟩
 simp only[evs,seval,eff,g5,ay,cK,Ll];have bv:=F9.next;refine Uw (n:=1) F9.wf bc (TH bg rfl) oM oM rfl oM oO ?_;intro bf az a8 a9 a6;have aH:Fr [] h az:=by refine TL w (TL w (F.then ae) F9 (fun y hy=>?_)) a6 (fun y hy=>?_);obtain⟨rfl,_⟩|⟨b,n,rfl,_,_,hb,o⟩:=G4;simp[vb]at hy;simp[vb]at hy;omega;obtain⟨rfl,_⟩|⟨b,n,rfl,_,_,hb,o⟩:=G5;simp[vb]at hy;simp[vb]at hy;omega
 have a1:Gs az h.next 1 a2 ((X.take i).map (fun x=>ZZ (aF Ks x))++[ZZ q.base]):=by obtain⟨rfl,z⟩|⟨b,n,rfl,z1,z2,z3,o⟩:=G9;exact .inl ⟨rfl,z⟩;refine .inr ⟨b,n,rfl,z1,z2,z3,a6.own _ _ (fun m=>?_) o⟩;have:=ba _ m;simp[vb]at e9;omega
 simp(disch:=omega) only[evs,seval,DF,eff,ah,ax,ak,a5,ay];refine rqn ⟨X.length-(i+1),oM,aH,i+1,a2,bf,iS,iX,iX,iX,iS,iS,oM,?_,?_,?_,rfl⟩;rw[Sr,p4];simpa[e1]using a1;rw[Sr,p4];simpa[e2]using a8;have:h8.next<h9.next:=by obtain⟨rfl,_⟩|⟨b,n,rfl,_,_,_,o⟩:=G9;simp[vb]at e9;have:=o.lt F9.wf;simp[vb]at e9;omega
 rw[e9,a9];simp;omega;simp only[evs,seval,ax,a7,g4,g5,(oM:¬(i:Int)<X.length)];rw[Sf oM]at G4 G5;exact⟨v4,v5,rfl,G4,G5,F⟩
def Oth(h:Heap)(S:List Nat):Prop:=∀b∈S,∀c,Own h b c->c.length≠6/\∀L:List (Int×Int),0<L.length->c≠L.flatMap sp
theorem At.frS{h:Heap}{S:List Nat}(f:Fr S h h')(o:Oth h S):∀{t:Tr}{p:Option Nat},At h t p->At h' t p
 |.nil,_,a=>a
 |.node l s r,_,⟨q,pl,pr,e,oq,al,ar⟩=>⟨q,pl,pr,e,f.own _ _ (fun m=>(o q m _ oq).1 rfl) oq,At.frS f o al,At.frS f o ar⟩
theorem LoP.frS{h:Heap}{b:Nat}{l:List Int}{S:List Nat}(a:LoP h b pm l ks bs)(f:Fr S h h')(o:Oth h S)(hb:b∉S)(hp:∀q,pm=some q->q∉S):LoP h' b pm l ks bs:=by
 let⟨p,vk,ow,v1,⟨p',vk',L,e1,⟨t,p2,e2,at',tl,ft⟩,sL,x⟩,mk,e⟩:=a;refine⟨p,vk,f.own _ _ hb ow,v1,⟨p',vk',L,e1,⟨t,p2,e2,At.frS f o at',tl,ft⟩,?_,x⟩,?_,e⟩;obtain z|⟨q,e3,Z,K⟩:=sL;exact .inl z;exact .inr ⟨q,e3,f.own _ _ (fun m=>(o q m _ Z).2 L K rfl) Z,K⟩;cases pm with
 |none=>exact mk
 |some q=>let⟨ws,Z,y⟩:=mk;exact⟨ws,f.own _ _ (hp q rfl) Z,y⟩
theorem wJ{c:List V}(n:NoI c):∀L:List (Int×Int),0<L.length->c≠L.flatMap sp:=by
 intro L p e;cases L with
 |nil=>simp at p
 |cons s L=>exact n (ZZ s.1) (by rw[e];simp[sp]) _ rfl
open Go.Ev.St
set_option maxRecDepth 4000
theorem Km.frS{h:Heap}{b S c:Nat}{m:Nat->Option Nat}{X:List Nat}(k:Km h b S m c)(f:Fr X h h')(Z:b∉X)(hS:S∉X):Km h' b S m c:=by obtain⟨o,x⟩|⟨v,sl,t,k,x⟩:=k;exact .inl ⟨f.own _ _ Z o,x⟩;exact .inr ⟨v,sl,t,{k with ob:=f.own _ _ Z k.ob,tb:=⟨k.tb.1,f.own _ _ hS k.tb.2⟩},x⟩
theorem Km.lt{h:Heap}{b S c:Nat}{m:Nat->Option Nat}(k:Km h b S m c)(w:WF h):b<h.next:=by obtain⟨o,x⟩|⟨v,sl,t,k,x⟩:=k;exact o.lt w;exact k.ob.lt w
theorem fJ{c:List V}{n:Nat}(h:c.length=2*n+1):∀L:List (Int×Int),0<L.length->c≠L.flatMap sp:=by rintro L _ rfl;have:=aJ eg L;omega
theorem Oth.app{h:Heap}{A B:List Nat}(a:Oth h A)(b:Oth h B):Oth h (A++B):=fun x m=>(pi.1 m).elim (a x) (b x)
theorem Oth.own{h:Heap}{b:Nat}{c:List V}(o:Own h b c)(h6:c.length≠6)(K:∀L:List (Int×Int),0<L.length->c≠L.flatMap sp):Oth h [b]:=by intro x m c' Z;simp at m;subst m;rw[Z.uniq o];exact⟨h6,K⟩
theorem Gp.oth{h:Heap}{b B n:Nat}{l:List V}(w:WF h)(g:Gp h b B n l)(Z:B<h.next->Own h B []\/∀c,Own h B c->c.length%4=0/\NoI c):Oth h [b,B]:=by
 let⟨v,c1,G,c2,a,gg,m,k,_⟩:=g;intro x mx c o;simp at mx;obtain rfl|rfl:=mx;rw[o.uniq k.ob];exact⟨iS,fJ (n:=1) rfl⟩;obtain e|e:=Z (o.lt w);rw[o.uniq e];exact⟨iS,fun L p q=>by cases L with|nil=>simp at p|cons s L=>simp[sp]at q⟩
 let⟨e1,e2⟩:=e c o;exact⟨oM,wJ e2⟩
theorem Good.oth{h:Heap}{B:Nat}(g:Good h B):Oth h [B]:=by let⟨c,o,a,b⟩:=g;exact Oth.own o a b
theorem Gp.good{h:Heap}{b B n:Nat}{l:List V}(g:Gp h b B n l)(h0:0<n):Good h B:=by obtain⟨v,c1,G,c2,a,K,m,k,_,rfl⟩:=g;obtain⟨Z,⟨_,z⟩|⟨_,o⟩⟩:=k.tb;omega;exact⟨_,o,oM,wJ k.n6⟩
theorem Gp.ob{h:Heap}{b B n:Nat}{l:List V}(g:Gp h b B n l):Good h b/\B≠b:=by obtain⟨v,c1,G,c2,a,Z,m,k,_,rfl⟩:=g;exact⟨⟨_,k.ob,iS,fJ (n:=1) rfl⟩,k.ne⟩
structure Dis(b bg B bm S bl:Nat)(pm:Option Nat):Prop where
 b1:b≠bg
 b2:b≠B
 b3:b≠bm
 b4:b≠S
 b5:b≠bl
 g1:bg≠bm
 g2:bg≠S
 g3:bg≠bl
 t1:B≠bm
 t2:B≠S
 t3:B≠bl
 m1:bm≠bl
 m2:S≠bl
 p:∀q,pm=some q->q≠b/\q≠bg/\q≠B/\q≠bm/\q≠S/\q≠bl
def Wr(b bg B bm S bl:Nat)(pm:Option Nat):List Nat:=[b,bg,B,bm,S,bl]++pm.toList
abbrev NL:=Nat×Option Nat
def Lx(n:NL)(z:Nat):Prop:=z<n.1\/n.2=some z
theorem Lx.lt{n z:Nat}(h:Lx (n,none) z):z<n:=h.elim id fun e=>by cases e
structure Sto(n0:NL)(h:Heap)(b:Nat)(Ks:List Knd)(cap:Int)(X:List Itm)(l:List Int)(kn st:List Bool)(vK:V)(bg B bm S bl:Nat)(pm:Option Nat)(mc:cC):Prop where
 ob:Own h b [vK,ZZ cap,.ptr bg 0,.ptr bm 0,.ptr bl 0]
 g:Gp h bg B X.length (X.flatMap Itm.cells)
 gB:Good h B
 k:Km h bm S mc.1 mc.2
 gS:Good h S
 lo:LoP h bl pm l kn st
 len:l.length=X.length
 rd:∀(Z:List Nat)(h':Heap),(∀z∈Z,z∈Wr b bg B bm S bl pm\/h.next<=z\/Lx n0 z)->Fr Z h h'->Recs Knd.cells 9 h' vK Ks/\(∀q∈Ks,KndH h' q)/\∀x∈X,ItmH h' x
 d:Dis b bg B bm S bl pm
 Sl':S<h.next
 pl:∀q,pm=some q->q<h.next
 bl':bl<h.next
 n0l:∀z,Lx n0 z->z<h.next
theorem Sl.noint{h:Heap}{e:Nat}{v:V}{n:Nat}(a:Sl h e v n cs)(k:IntKind)(i:Int):v≠.int k i:=by rintro rfl;exact a.2.elim
theorem eY(x:Itm)(v:V):(x.own v).cells=[ZX (x.key:Int),ZY (x.type:Int),.str x.text,v]:=rfl
theorem Km.bmgood{h:Heap}{b S c:Nat}{m:Nat->Option Nat}(k:Km h b S m c):Good h b:=by obtain⟨o,x⟩|⟨v,sl,t,k,x⟩:=k;exact⟨_,o,iS,fJ (n:=1) rfl⟩;exact⟨_,k.ob,iS,fJ (n:=1) rfl⟩
theorem Good.lt{h:Heap}{b:Nat}(g:Good h b)(w:WF h):b<h.next:=by let⟨c,o,_⟩:=g;exact o.lt w
theorem LoP.pmlt{h:Heap}{b:Nat}{l:List Int}(a:LoP h b pm l ks bs)(w:WF h):(∀q,pm=some q->q<h.next)/\b<h.next:=by let⟨p,vk,o,_,_,mk,_⟩:=a;refine⟨?_,o.lt w⟩;rintro q rfl;let⟨ws,oq,_⟩:=mk;exact oq.lt w
theorem Bk{x:Itm}{v:V}(h:∀n:Int,v≠ ZZ n):NoI (x.own v).cells:=by intro y m n;rw[eY]at m;simp at m;obtain rfl|rfl|rfl|rfl:=m;simp;simp;simp;exact h n
def Cps:List Itm->List Itm->Prop
 |[],[]=>True
 |x::l,y::m=>(∃v,y=x.own v/\nZ v=true)/\Cps l m
 |_,_=>False
theorem Cps.len:∀{a b:List Itm},Cps a b->a.length=b.length
 |[],[],_=>rfl
 |_::_,_::_,h=>by simp[Cps.len h.2]
 |[],_::_,h=>h.elim
 |_::_,[],h=>h.elim
theorem Cps.app:∀{a b c d:List Itm},Cps a b->Cps c d->Cps (a++c) (b++d)
 |[],[],_,_,_,g=>g
 |_::_,_::_,_,_,h,g=>⟨h.1,Cps.app h.2 g⟩
 |[],_::_,_,_,h,_=>h.elim
 |_::_,[],_,_,h,_=>h.elim
theorem Cps.mem:∀{a b:List Itm}{y:Itm},Cps a b→y∈b→∃x∈a,∃v,y=x.own v
 |x::a,z::b,y,h,m=>by obtain rfl|m:=List.mem_cons.1 m;let⟨⟨v,e,_⟩,_⟩:=h;exact⟨x,iS,v,e⟩;let⟨x',hx,e⟩:=Cps.mem h.2 m;exact⟨x',by simp[hx],e⟩
 |[],[],_,_,m=>by simp at m
 |[],_::_,_,h,_=>h.elim
 |_::_,[],_,h,_=>h.elim
theorem Sl.nz{h:Heap}{e:Nat}{v:V}{n:Nat}(a:Sl h e v n cs):nZ v=true:=by cases v<;>first|rfl|exact a.2.elim
theorem Cps.nz:∀{a b:List Itm},Cps a b→∀y∈b,nZ y.vm=true
 |x::a,z::b,h,y,m=>by obtain rfl|m:=List.mem_cons.1 m;obtain⟨⟨v,rfl,z⟩,_⟩:=h;exact z;exact Cps.nz h.2 y m
 |[],[],_,_,m=>by simp at m
 |[],_::_,h,_,_=>h.elim
theorem A7{n0:NL}{h:Heap}{b B S p:Nat}{Y:List Itm}{l:List Int}{v:V}{mc:cC}(w:WF h)(s:Sto n0 h b Ks cap X l kn st vK bg B bm S bl pm mc)
 (hp:p<=X.length) (hn:X.length+Y.length<=1024) (hc:mc.2+(X.length+Y.length)<=4096)
 (sv:∀(Z:List Nat)(K:Heap),(∀z∈Z,z∈Wr b bg B bm S bl pm\/h.next<=z)->Fr Z h K->ARecs Itm.cells 4 K v Y/\∀y∈Y,ItmH K y)
 (hY:∀y∈Y,nZ y.vm=true/\y.type<Ks.length/\0<y.key) (hX:∀x∈X,0<x.key) (e0:bZ l p (Y.map (aF Ks))=0):
 ao go 96 [.ptr b 0,ZZ (p:Int),v] h fun u K=>u=ZZ 0/\∃Y' B' S' pm',Cps Y Y'/\
  Sto n0 K b Ks cap (X.take p++Y'++X.drop p) (l.take p++Y.map (aF Ks)++l.drop p) (kn.take p++List.replicate Y.length false++kn.drop p) (st.take p++Y.map (bG Ks)++st.drop p) vK bg B' bm S' bl pm'
   (dJ mc ((X.take p++Y'++X.drop p).drop p) p)/\Fr (Wr b bg B bm S bl pm) h K/\(B'=B\/h.next<=B')/\(S'=S\/h.next<=S')/\(pm'=pm\/∀q,pm'=some q->h.next<=q):=by
 let⟨sY,hYI⟩:=sv [] h iS (Sn w);let⟨rk,kh,xh⟩:=s.rd [] h iS (Sn w);refine ag ?_;simp only[evs,seval];refine aa (oR w ⟨vK,_,_,_,s.ob,rk,kh⟩ sY (fun y m=>⟨hYI y m,(hY y m).2.1⟩) oM) ?_;rintro _ h1 ⟨v4,v5,rfl,G4,G5,F1⟩;have am:pp h1 v4 (Y.map (aF Ks)):=by have:=G4.sl (n:=(Y.map (aF Ks)).length) iS oM;unfold pp Vals;rw[Te];exact this
 have as:Bools h1 v5 (Y.map (bG Ks)):=by have:=G5.sl (n:=(Y.map (bG Ks)).length) iS oM;unfold Bools Vals;rw[Te];exact this
 have l4:ab h1 b 4=some (.ptr bl 0):=(F1.get s.ob).ld1 4;simp only[evs,seval,l4];apply aa (tM F1.wf (s.lo.fr F1) am as oO iS oM oM);rintro _ h2 ⟨rfl,F2,pm',a3,az⟩;rw[e0,if_pos rfl]at az;simp only[RX,UG]at az;have d:=s.d;have ci:∀q,pm'=some q->pm=some q\/h.next<=q:=by intro q hq;obtain rfl|⟨_,x⟩:=a3;exact .inl hq;exact .inr (SD F1.next (x q hq))
 have ae:Fr (bl::pm.toList) h h2:=Sj F1 F2 w iS (fun x m=>.inl m);have ak:∀x,(∀q,pm=some q->q≠x)->bl≠x->x∉bl::pm.toList:=by intro x a c m;obtain q|q:=Sk.1 m;exact c q.symm;simp at q;exact a _ q rfl
 have bh:=ae.own b _ (ak b (fun q e=>(d.p q e).1) d.b5.symm) s.ob;have g2:=s.g.fr ae (ak bg (fun q e=>(d.p q e).2.1) d.g3.symm) (ak B (fun q e=>(d.p q e).2.2.1) d.t3.symm);have a5:=s.gB.fr ae (ak B (fun q e=>(d.p q e).2.2.1) d.t3.symm);have k2:=s.k.frS ae (ak bm (fun q e=>(d.p q e).2.2.2.1) d.m1.symm) (ak S (fun q e=>(d.p q e).2.2.2.2.1) d.m2.symm);have b7:bg<h2.next:=by let⟨c,o,_⟩:=g2.ob.1;exact o.lt F2.wf
 have Bl:B<h2.next:=by let⟨c,o,_⟩:=a5;exact o.lt F2.wf
 have a7:∀x,x∈bl::pm.toList->x∈Wr b bg B bm S bl pm:=by intro x m;simp only[Sk]at m;simp only[Wr,pi,Sk];obtain m|m:=m;exact .inl (.inr (.inr (.inr (.inr (.inr (.inl m))))));exact .inr m
 have bk:∀K,Fr [bg,B] h2 K->ARecs Itm.cells 4 K v Y/\∀y∈Y,ItmH K y:=by intro K f;refine sv ((bl::pm.toList)++[bg,B]) K (fun z m=>?_) (Sj ae f w (fun x m=>.inl (pi.2 (.inl m))) (fun x m=>.inl (pi.2 (.inr m))));obtain m|m:=pi.1 m;exact .inl (a7 z m);simp only[Sk,SH,or_false]at m;left;simp only[Wr,pi,Sk];obtain m|m:=m<;>simp[m]
 have bp:=(bk h2 (Sn F2.wf)).1.len;simp only[evs,seval,bp,e0];refine aC (fun n env hh=>∃(i B':Nat)(D:List Itm),Fr [bg,B] h2 hh/\(B'=B\/h2.next<=B')/\B'<hh.next/\env.get 32=some (ZZ i)/\env.get 31=some (ZZ (Y.length:Nat))/\env.get 30=some v/\env.get 0=some (.ptr b 0)/\env.get 1=some (ZZ (p:Int))/\
  i<=Y.length/\Cps (Y.take i) D/\Gp hh bg B' (X.length+i) ((X.take p++D++X.drop p).flatMap Itm.cells)/\Good hh B'/\
  (∀(Z:List Nat)(K:Heap),(∀z∈Z,z<h2.next\/z=B'\/hh.next<=z)->Fr Z hh K->∀x∈D,Recs sS 1 K x.vm x.marks)/\n=Y.length-i) Y.length oM ?_ ?_
 exact⟨0,B,[],Sn F2.wf,.inl rfl,Bl,iS,iS,iS,iS,iS,oM,trivial,by simpa using g2,a5,iS,rfl⟩;rintro n env hh ⟨i,B',D,F,af,bW,a9,bf,bA,g0,g1,hi,cp,gp,gd,bj,rfl⟩;have ar:=F.own b _ (by simp;exact⟨d.b1,d.b2⟩) bh;have dl:=cp.len;rw[UO,TM hi]at dl;by_cases cz:i<Y.length;have a2:(i:Int)<Y.length:=oM;let⟨sYh,hYh⟩:=bk hh F;let⟨bi,oi,y,p1,_,p3,p4⟩:=sYh.ix (f:=Itm.cells) (k:=4) (fun _=>rfl) .i64 (i:Int) oM a2;rw[RX]at p4;have ym:=RZ p4;have ay:=hYh y ym;let⟨h3,e_h3,F_h3,o_h3⟩:=aq F.wf [ZX 0,ZY 0,.str [],.nils];simp only[evs,seval,a9,bf,bA,a2,p1,p3,<-e_h3];refine ai (c':=y.cells) F_h3.wf o_h3 rfl ay.one rfl ?_;rintro h4 o4 F4 n4;have ax:Fr [] hh h4:=F_h3.fresh F4 F.wf (RW _);have l2:ab h4 b 2=some (.ptr bg 0):=(ax.get ar).ld1 2;have y4:aj h4 hh.next 0 4=some y.cells:=by rw[o4.ld];rfl
 simp(disch:=omega) only[evs,seval,eff,ah,g0,g1,l2,y4];apply aa (vN ax.wf (ay.fr ax) (hY y ym).1);rintro _ h5 ⟨vy,rfl,F5,nE,v1,br⟩;have a0:=ax.then F5;have ca:ab h5 b 2=some (.ptr bg 0):=(a0.get ar).ld1 2;let⟨h6,e_h6,F_h6,o_h6⟩:=aq F5.wf [ZX (y.key:Int),ZY (y.type:Int),.str y.text,vy];have n6:=hnx e_h6;have bV:ab h6 b 2=some (.ptr bg 0):=(F_h6.get (a0.get ar)).ld1 2;simp only[evs,seval,eff,eY,<-e_h6];have a6:=a0.then F_h6;have cc:=F.next;have cj:=ax.next;have cr:=F5.next;have s6:Sl h6 4 (.slice h5.next 0 1 1) 1 (y.own vy).cells:=TH o_h6 rfl;have ch:au (y.own vy).cells=true:=by rw[eY];simp only[av,aB,v1];rfl
 have bw:=br [] h5 iS (Sn F5.wf);have bC:=gp.fr a6 iS iS;apply aa (mY (p:=p+i) (q:=1) F_h6.wf bC (fun K f=>TH (f.own _ _ oO o_h6) rfl) ch (Bk fun n=>Sl.noint bw _ _) oM oM);rintro _ h7 ⟨rfl,B2,a8,a4,F7⟩;have cl:ab h7 b 2=some (.ptr bg 0):=(F7.own _ _ (by simp;exact⟨d.b1,by obtain rfl|q:=af;exact d.b2;have:=bh.lt F2.wf;omega⟩) (F_h6.get (a0.get ar))).ld1 2
 simp(disch:=omega) only[evs,seval,DF,eff,ah,a9,l2,y4,ca,bV];have bo:=a4.good oM;have bE:B2<h7.next:=by let⟨c,o,_⟩:=bo;exact o.lt F7.wf
 have bD:Fr [bg,B] h2 h7:=by refine Sj (Sj (T:=[bg,B]) F a6 F2.wf (fun x m=>.inl m) iS) F7 F2.wf (fun x m=>.inl m) (fun x m=>?_);simp at m;obtain rfl|rfl:=m;exact .inl iS;obtain rfl|q:=af;exact .inl iS;exact .inr q
 have lA:(X.take p++D).length=p+i:=by simp;omega
 have eA:((X.take p++D++X.drop p).flatMap Itm.cells).take ((p+i) *4)++(y.own vy).cells++((X.take p++D++X.drop p).flatMap Itm.cells).drop ((p+i) *4)=(X.take p++(D++[y.own vy])++X.drop p).flatMap Itm.cells:=by rw[dd aZ,bJ aZ,<-lA,UB,Un];simp
 rw[<-eY y vy,eA,TC]at a4;have f7:∀(Z:List Nat)(K:Heap),Fr Z h7 K->Fr ([bg,B']++Z) h6 K:=fun Z K f=>Sj F7 f F_h6.wf (fun x m=>.inl (pi.2 (.inl m))) (fun x m=>.inl (pi.2 (.inr m)));have ct:=F7.next;refine rqn ⟨Y.length-(i+1),oM,i+1,B2,D++[y.own vy],bD,?_,bE,iS,iX,iX,iX,iX,oM,?_,a4,bo,?_,rfl⟩;obtain rfl|q:=a8;exact af;exact .inr oM;rw[Sr,p4];exact Cps.app cp ⟨⟨vy,rfl,Sl.nz bw⟩,trivial⟩;intro Z K hZ f x hx;have f6:=f7 Z K f;obtain hx|hx:=pi.1 hx;refine bj _ K (fun z m=>?_) (Sj a6 f6 F.wf iS (fun x m=>.inl m)) x hx;obtain m|m:=pi.1 m;simp at m;obtain rfl|rfl:=m;exact .inl b7;exact .inr (.inl rfl);obtain q|q|q:=hZ z m;exact .inl q;subst q;obtain q|q:=a8;exact .inr (.inl q);exact .inr (.inr oM);exact .inr (.inr oM);simp at hx;subst hx;have f5:=(Sj (T:=[bg,B']++Z) F_h6 f6 F5.wf iS (fun x m=>.inl m)).old F5.wf;refine br _ K (fun z m=>?_) f5;simp only[UE,decide_eq_true_eq]at m;let⟨m,m2⟩:=m;obtain m|m:=pi.1 m;simp at m;obtain rfl|rfl:=m<;>omega
 obtain q|q|q:=hZ z m;omega;subst q;obtain q|q:=a8<;>omega
 omega;have bz:i=Y.length:=oM;subst bz;rw[Sf (RW _)]at cp;have bv:Km hh bm S mc.1 mc.2:=k2.frS F (by simp;exact⟨d.g1.symm,d.t1.symm⟩) (by simp;exact⟨d.g2.symm,d.t2.symm⟩);have bt:Good hh S:=(s.gS.fr ae (ak S (fun q e=>(d.p q e).2.2.2.2.1) d.m2.symm)).fr F (by simp;exact⟨d.g2.symm,d.t2.symm⟩);have lX:(X.take p++D++X.drop p).length=X.length+Y.length:=by simp;omega
 rw[<-lX]at gp;have a1:bm<h.next:=s.k.lt w;have key:∀x∈X.take p++D++X.drop p,0<x.key/\x.key<18446744073709551616:=by intro x m;obtain m|m:=pi.1 m;obtain m|m:=pi.1 m;have m:=Tw m;exact⟨hX x m,(xh x m).k⟩;obtain⟨y,ym,vy,rfl⟩:=cp.mem m;exact⟨(hY y ym).2.2,(hYI y ym).k⟩;have m:=Tc m;exact⟨hX x m,(xh x m).k⟩
 have cn:=F1.next;have cc:=F2.next;have cq:=F.next;have aH:=s.Sl';have ac:∀x,x<h.next->x≠B->B'≠x:=fun x a c=>by obtain rfl|q:=af;exact c.symm;omega
 simp only[evs,seval,a9,bf,g0,g1,(oM:¬((Y.length:Nat):Int)<(Y.length:Nat))];refine aa (wY (mc:=mc) F.wf ar gp bv key oM (by rw[lX];exact hc) d.b3 d.b4 d.g1 d.g2 (ac bm a1 d.t1.symm) (ac S aH d.t2.symm) bW bt) ?_;rintro _ h3 ⟨rfl,S',an,k3,F3,bn⟩;simp only[evs,seval];have b0:=s.ob.lt w;have co:=s.g.ob.1.lt w;have B0:=s.gB.lt w;have cb:=s.bl';have S3:=bn.lt F3.wf;have cu:=F3.next;let⟨pl2,bl2⟩:=az.pmlt F2.wf;have ba:∀q,pm'=some q->(pm=some q/\q<h.next)\/(h1.next<=q/\q<h2.next):=by intro q hq;obtain e|⟨_,x⟩:=a3;rw[e]at hq;exact .inl ⟨hq,s.pl q hq⟩;exact .inr ⟨x q hq,pl2 q hq⟩
 have bc:∀q,pm'=some q->q≠b/\q≠bg/\q≠B/\q≠B'/\q≠bm/\q≠S/\q≠S'/\q≠bl:=by
  intro q hq;obtain⟨e,z⟩|⟨z1,z2⟩:=ba q hq;let⟨y1,y2,y3,y4,y5,y6⟩:=d.p q e;refine⟨y1,y2,y3,?_,y4,y5,?_,y6⟩;obtain rfl|r:=af;exact y3;omega;obtain rfl|r:=an;exact y5;omega;refine⟨oM,oM,oM,?_,oM,oM,?_,oM⟩;obtain rfl|r:=af<;>omega
  obtain rfl|r:=an<;>omega
 have nS:∀x,x<hh.next->x≠S->S'≠x:=fun x a c=>by obtain rfl|q:=an;exact c.symm;omega
 have bT:LoP h3 bl pm' (l.take p++Y.map (aF Ks)++l.drop p) (kn.take p++List.replicate Y.length false++kn.drop p) (st.take p++Y.map (bG Ks)++st.drop p):=by refine LoP.frS (LoP.frS az F (Oth.app (A:=[bg]) g2.ob.1.oth a5.oth) (by simp;exact⟨d.g3.symm,d.t3.symm⟩) (fun q e=>?_)) F3 (Oth.app (A:=[bm]) bv.bmgood.oth bt.oth) (by simp;exact⟨d.m1.symm,d.m2.symm⟩) (fun q e=>?_);let⟨y1,y2,y3,y4,y5,y6,y7,y8⟩:=bc q e;simp;exact⟨y2,y3⟩;let⟨y1,y2,y3,y4,y5,y6,y7,y8⟩:=bc q e;simp;exact⟨y5,y6⟩
 refine⟨D,B',S',pm',cp,⟨F3.own b _ (by simp;exact⟨d.b3,d.b4⟩) ar,gp.fr F3 (by simp;exact⟨d.g1,d.g2⟩) (by simp;exact⟨ac bm a1 d.t1.symm,ac S aH d.t2.symm⟩),gd.fr F3 (by simp;exact⟨ac bm a1 d.t1.symm,ac S aH d.t2.symm⟩),k3,bn,bT,?_,?_,?_,S3,fun q e=>by have:=pl2 q e;omega,oM,by exact fun z q=>by have:=s.n0l z q;omega⟩,?_,?_,?_,?_⟩;have:=s.len;simp;omega;intro Z K hZ f;have bB:Fr ([bg,B]++[bm,S]++Z) h2 K:=by refine Sj (Sj (T:=[bg,B]++[bm,S]) F F3 F2.wf (fun x m=>.inl (pi.2 (.inl m))) (fun x m=>.inl (pi.2 (.inr m)))) f F2.wf (fun x m=>.inl (pi.2 (.inl m))) (fun x m=>.inl (pi.2 (.inr m)))
 have f0:Fr ((bl::pm.toList)++([bg,B]++[bm,S]++Z)) h K:=Sj ae bB w (fun x m=>.inl (pi.2 (.inl m))) (fun x m=>.inl (pi.2 (.inr m)));have b6:∀z∈(bl::pm.toList)++([bg,B]++[bm,S]++Z),z∈Wr b bg B bm S bl pm\/h.next<=z\/Lx n0 z:=by
  intro z m;obtain m|m:=pi.1 m;exact .inl (a7 z m);obtain m|m:=pi.1 m;left;simp only[Wr,pi,Sk,SH,or_false]at m|-;obtain(m|m)|(m|m):=m<;>simp[m]
  obtain q|q|q:=hZ z m;simp only[Wr,pi,Sk,SH,or_false]at q;obtain(q|q|q|q|q|q)|q:=q;exact .inl (by simp[Wr,q]);exact .inl (by simp[Wr,q]);subst q;obtain r|r:=af;exact .inl (by simp[Wr,r]);exact .inr (.inl oM);exact .inl (by simp[Wr,q]);subst q;obtain r|r:=an;exact .inl (by simp[Wr,r]);exact .inr (.inl oM);exact .inl iX;simp at q;obtain⟨e,_⟩|⟨z1,_⟩:=ba z q;exact .inl (by simp[Wr,e]);exact .inr (.inl oM);exact .inr (.inl oM);exact .inr (.inr q)
 let⟨rk',kh',xh'⟩:=s.rd _ K b6 f0;refine⟨rk',kh',fun x m=>?_⟩;obtain m|m:=pi.1 m;obtain m|m:=pi.1 m;exact xh' x (Tw m);have fh:Fr ([bm,S]++Z) hh K:=Sj F3 f F.wf (fun x m=>.inl (pi.2 (.inl m))) (fun x m=>.inl (pi.2 (.inr m)));have r:=bj _ K (fun z m=>?_) fh x m;obtain⟨y,ym,vy,rfl⟩:=cp.mem m;have ay:=hYI y ym;exact⟨ay.k,ay.t,Sl.a r,ay.n,ay.l⟩;obtain m|m:=pi.1 m;simp at m;obtain rfl|rfl:=m;exact .inl oM;exact .inl oM;obtain q|q|q:=hZ z m;simp only[Wr,pi,Sk,SH,or_false]at q;obtain(q|q|q|q|q|q)|q:=q;exact .inl oM;exact .inl oM;exact .inr (.inl q);exact .inl oM;obtain r|r:=an;exact .inl oM;exact .inr (.inr oM);exact .inl oM;simp at q;obtain⟨_,z1⟩|⟨_,z2⟩:=ba z q;exact .inl oM;exact .inl oM;exact .inr (.inr oM);exact .inl (by have:=s.n0l z q;omega);exact xh' x (Tc m);exact⟨d.b1,(ac b b0 d.b2).symm,d.b3,(nS b oM d.b4).symm,d.b5,d.g1,(nS bg oM d.g2).symm,d.g3,ac bm a1 d.t1.symm,by
  obtain rfl|q:=an;exact ac _ aH d.t2.symm;omega,ac bl cb d.t3.symm,d.m1,nS bl oM d.m2.symm,fun q e=>by
  let⟨y1,y2,y3,y4,y5,y6,y7,y8⟩:=bc q e;exact⟨y1,y2,y4,y5,y7,y8⟩⟩
 refine Sj (Sj (T:=Wr b bg B bm S bl pm) ae F w (fun x m=>.inl (a7 x m)) (fun x m=>.inl ?_)) F3 w (fun x m=>.inl m) (fun x m=>.inl ?_);simp only[Wr,pi,Sk,SH,or_false]at m|-;obtain m|m:=m<;>simp[m]
 simp only[Wr,pi,Sk,SH,or_false]at m|-;obtain m|m:=m<;>simp[m]
 obtain r|r:=af;exact .inl r;exact .inr oM;obtain r|r:=an;exact .inl r;exact .inr oM;obtain e|⟨_,x⟩:=a3;exact .inl e;exact .inr fun q hq=>by have:=x q hq;omega
open Go.Ev.St
set_option maxRecDepth 4000
theorem Bb{h:Heap}{v:V}{L:List Knd}(w:WF h)(a:Recs Knd.cells 9 h v L)(hL:∀q∈L,KndH h q)(hn:L.length<=4096)(ok:okR L cap=true):
 ao go 8 [.agg [v,ZZ cap]] h fun u h'=>∃b bg bm bl vK K,u=.tup [.ptr b 0,ZZ 0]/\Fr [] h h'/\bU L K/\Sto (h.next,none) h' b K cap [] [] [] [] vK bg h.next bm bm bl none (fun _=>none,0)/\(∀y∈Wr b bg h.next bm bm bl none,h.next<=y):=by
 have nv:∀n:Int,v≠ ZZ n:=fun n=>Sl.noint a _ _;apply Uu (KW w a hL hn ok);rintro u h' ⟨b,bg,bm,bl,vK,K,rfl,F,sK,ob,ac,km,lo,c1,c2,c3,c4,c5,oB,st⟩;have w':=F.wf;have gB:Good h' h.next:=⟨_,oB,iS,by
  intro L p e;cases L with
  |nil=>simp at p
  |cons q L=>simp[sp]at e;exact nv _ e.1⟩
 have pl:=lo.pmlt w';refine⟨b,bg,bm,bl,vK,K,rfl,F,sK,⟨ob,?_,gB,km,km.bmgood,lo,rfl,?_,?_,km.lt w',iS,pl.2,fun z q=>Ty q.lt F.next⟩,?_⟩;exact⟨.nils,[],[],[],0,0,0,⟨ac,⟨rfl,.inl ⟨rfl,rfl⟩⟩,rfl,rfl,rfl,rfl,rfl,oM,oM,oM,fun x m=>by simp at m⟩,rfl,rfl⟩;intro Z h2 hZ f;let⟨x1,x2⟩:=st Z h2 (fun y m=>by
  obtain q|q|q:=hZ y m;simp[Wr]at q;obtain q|q|q|q|q:=q;exact .inr (.inl q);omega;omega;omega;omega;omega;exact .inl (by have:=q.lt;omega)) f
 exact⟨x1,x2,iS⟩;exact⟨oM,oM,oM,oM,oM,oM,oM,oM,oM,oM,oM,oM,oM,iS⟩;intro y m;simp[Wr]at m;omega
section
variable {n0 : NL} {h : Heap} {b : Nat} {Ks : List Knd} {cap : Int} {X : List Itm} {l : List Int} {kn st : List Bool} {vK : V} {bg B bm S bl : Nat} {pm : Option Nat} {mc : cC}
theorem iA(s:Sto n0 h b Ks cap X l kn st vK bg B bm S bl pm mc):ao go 44 [.ptr b 0] h fun u h'=>u=.bool false/\h=h':=by have l2:ab h b 2=some (.ptr bg 0):=s.ob.ld1 2;refine ag ?_;simp only[evs,seval,l2]
theorem jx(s:Sto n0 h b Ks cap X l kn st vK bg B bm S bl pm mc):ao go 11 [.ptr b 0] h fun u h'=>u=ZZ (X.length:Nat)/\h=h':=by have l2:ab h b 2=some (.ptr bg 0):=s.ob.ld1 2;refine ag ?_;simp only[evs,seval];refine aa (iA s) ?_;rintro _ _ ⟨rfl,rfl⟩;simp only[evs,seval,l2];apply aa (yR s.g);rintro _ _ ⟨rfl,rfl⟩;simp only[evs,seval]
end
open Go.Ev.St
set_option maxRecDepth 4000
theorem D6{n0:NL}{h:Heap}{b B S p:Nat}{Y:List Itm}{l:List Int}{v:V}{mc:cC}(w:WF h)(s:Sto n0 h b Ks cap X l kn st vK bg B bm S bl pm mc)
 (hp:p<=X.length) (hn:Y.length<=1024) (hx:X.length<=1024) (sY:ARecs Itm.cells 4 h v Y) (K:∀y∈Y,ItmH h y/\y.type<Ks.length) (e0:bZ l p (Y.map (aF Ks))≠0):
 ao go 96 [.ptr b 0,ZZ (p:Int),v] h fun u h'=>u=ZZ (bZ l p (Y.map (aF Ks)))/\Fr (bl::pm.toList) h h':=by
 let⟨rk,kh,xh⟩:=s.rd [] h iS (Sn w);refine ag ?_;simp only[evs,seval];refine aa (oR w ⟨vK,_,_,_,s.ob,rk,kh⟩ sY K oM) ?_;rintro _ h1 ⟨v4,v5,rfl,G4,G5,Z⟩;have am:pp h1 v4 (Y.map (aF Ks)):=by have:=G4.sl (n:=(Y.map (aF Ks)).length) iS oM;unfold pp Vals;rw[Te];exact this
 have as:Bools h1 v5 (Y.map (bG Ks)):=by have:=G5.sl (n:=(Y.map (bG Ks)).length) iS oM;unfold Bools Vals;rw[Te];exact this
 have l4:ab h1 b 4=some (.ptr bl 0):=(Z.get s.ob).ld1 4;simp only[evs,seval,l4];apply aa (tM Z.wf (s.lo.fr Z) am as oO iS oM oM);rintro _ h2 ⟨rfl,F2,_⟩;simp only[evs,seval,eq_false e0];exact Sj Z F2 w iS (fun x m=>.inl m)
theorem Sto.move{n0:Nat}{m0:NL}{h:Heap}{b b' B S:Nat}{l:List Int}{mc:cC}{c0:List V}(w:WF h)(s:Sto (n0,none) h b' Ks cap X l kn st vK bg B bm S bl pm mc)
 (ge:∀y∈Wr b' bg B bm S bl pm,n0<=y) (o0:Own h b c0) (h5:c0.length=5) (hb:b<n0) (hm:∀z,Lx m0 z->z<n0) (f:Fr [b] h h') (ob:Own h' b [vK,ZZ cap,.ptr bg 0,.ptr bm 0,.ptr bl 0]):
 Sto m0 h' b Ks cap X l kn st vK bg B bm S bl pm mc:=by
 have g:∀y∈Wr b' bg B bm S bl pm,y≠b:=fun y m=>by have:=ge y m;omega
 simp only[Wr,pi,Sk,SH,or_false]at g;have g1:=g bg iS;have g2:=g B iS;have g3:=g bm iS;have K:=g S iS;have g5:=g bl iS;have g6:∀q,pm=some q->q≠b:=fun q e=>g q iX;have d:=s.d;have fn:=f.next;have n0l:=s.n0l;refine⟨ob,s.g.fr f (eV g1) (eV g2),s.gB.fr f (eV g2),s.k.frS f (eV g3) (eV K),s.gS.fr f (eV K),?_,s.len,?_,?_,by have:=s.Sl';omega,fun q e=>by have:=s.pl q e;omega,by have:=s.bl';omega,fun z q=>by have:=hm z q;have:=n0l z (.inl this);omega⟩
 ·exact s.lo.frS f (Oth.own o0 oM (fJ (n:=2) h5)) (eV g5) (fun q e=>by simpa using g6 q e)
 ·intro Z h2 hZ f2;refine s.rd ([b]++Z) h2 (fun z m=>?_) (Sj f f2 w (fun x m=>.inl (pi.2 (.inl m))) (fun x m=>.inl (pi.2 (.inr m))));obtain m|m:=pi.1 m
  ·simp at m;subst m;exact .inr (.inr (.inl hb))
  ·obtain q|q|q:=hZ z m
   ·simp only[Wr,pi,Sk,SH,or_false]at q|-;obtain(q|q|q|q|q|q)|q:=q
    ·exact .inr (.inr (.inl oM))
    all_goals exact .inl iX
   ·omega
   ·exact .inr (.inr (.inl (hm z q)))
 ·exact⟨g1.symm,g2.symm,g3.symm,K.symm,g5.symm,d.g1,d.g2,d.g3,d.t1,d.t2,d.t3,d.m1,d.m2,fun q e=>⟨g6 q e,(d.p q e).2⟩⟩
theorem wW{Ks:List Knd}{cap:Int}{p:Nat→Bool}:∀{seen:List Nat}{Y:List Itm},dQ Ks cap p seen Y=0→∀y∈Y,okI y Ks.length=true
 |_,[],_,y,m=>by simp at m
 |seen,x::r,e,y,m=>by simp only[dQ]at e;by_cases c1:okI x Ks.length=false;grind;rw[if_neg c1]at e;by_cases c2:x.key∈seen∨p x.key=true;grind;rw[if_neg c2]at e;by_cases c3:bO Ks cap x≠0;omega;rw[if_neg c3]at e;obtain rfl|m:=List.mem_cons.1 m;simpa using c1;exact wW e y m
theorem gG{K:List Knd}(h:bU Ks K)(y:Itm):aF K y=aF Ks y/\bG K y=bG Ks y:=by
 unfold aF bG;cases e:Ks[y.type]? with
 |none=>
  have:K[y.type]? =none:=by rw[Vb]at e|-;rw[<-dS h];exact e
  rw[this];exact⟨rfl,rfl⟩
 |some q=>let⟨p,e2,s⟩:=mI h e;rw[e2];let⟨_,_,_,_,_,h6,h7,_⟩:=s;exact⟨h6.symm,h7.symm⟩
theorem H7(h0:Heap):Ch h0 106 [] (fun _=>false):=⟨dI,fun h k f _=>by
 refine ag ?_;simp only[evs,seval];exact Sn f.wf⟩
def CK(Ks:List Knd)(cap:Int)(Y:List Itm):Int:=if 1024<Y.length then 3 else if dQ Ks cap (fun _=>false) [] Y≠0 then dQ Ks cap (fun _=>false) [] Y else bZ [] 0 (Y.map (aF Ks))
theorem Eh{n0:NL}{h:Heap}{b B S:Nat}{Y:List Itm}{l:List Int}{v:V}{mc:cC}{a0 c0 t0:V}(w:WF h)(s:Sto n0 h b Ks cap X l kn st vK bg B bm S bl pm mc)(ok:okR Ks cap=true)
 (sY:ARecs Itm.cells 4 h v Y) (hY:∀y∈Y,ItmH h y/\nZ y.vm=true) (hl:Y.length<=4096) (ones:au [k0,a0,c0,t0,v]=true):
 ao go 50 [.ptr b 0,.agg [k0,a0,c0,t0,v]] h fun u h'=>u=ZZ (CK Ks cap Y)/\(CK Ks cap Y≠0->Fr [] h h')/\
  (CK Ks cap Y=0->Fr [b] h h'/\∃K Y' vK' bg' B' bm' S' bl' pm',bU Ks K/\Cps Y Y'/\Sto n0 h' b K cap Y' (Y.map (aF Ks)) (List.replicate Y.length false) (Y.map (bG Ks)) vK' bg' B' bm' S' bl' pm' (dJ (fun _=>none,0) Y' 0)/\∀y∈[bg',B',bm',S',bl']++pm'.toList,h.next<=y):=by
 let⟨rk,kh,xh⟩:=s.rd [] h iS (Sn w);have hK:Ks.length<=8:=by simp only[okR,RU,decide_eq_true_eq]at ok;exact ok.2.1
 let⟨h1,e_h1,F_h1,o_h1⟩:=aq w [k0,a0,c0,t0,v];have n1:=hnx e_h1;have l4:ab h1 h.next 4=some v:=o_h1.ld1 4;unfold CK;by_cases c1:1024<Y.length;refine ag ?_;simp only[evs,↓reduceIte,Nat.reduceEqDiff,Nat.reduceAdd,<-e_h1,l4,(sY.fr F_h1).len,(oM:(1024:Int)<(Y.length:Nat))];rw[if_pos c1];exact⟨rfl,fun _=>F_h1,fun e=>by cases e⟩;refine ag ?_;simp only[evs,↓reduceIte,Nat.reduceEqDiff,Nat.reduceAdd,<-e_h1,l4,(sY.fr F_h1).len,(oM:¬(1024:Int)<(Y.length:Nat))];rw[if_neg c1];apply aa (qi F_h1.wf (RulesAt.fr ⟨vK,_,_,_,s.ob,rk,kh⟩ F_h1) hK (sY.fr F_h1) (fun y m=>(hY y m).1.fr F_h1) hl (H7 h1));rintro _ h2 ⟨rfl,F2⟩;have ac:=F_h1.then F2;by_cases c2:dQ Ks cap (fun _=>false) [] Y=0;have good:=wW c2;rw[c2,if_neg iS];have aH:=ac.get s.ob;have r2:aj h2 b 0 2=some [vK,ZZ cap]:=by rw[aH.ld];rfl
 simp only[evs,↓reduceIte,Nat.reduceEqDiff,r2];apply aa (Bb ac.wf (TK rk ac) (fun q m=>(kh q m).fr ac) oM ok);rintro _ h3 ⟨b',bg',bm',bl',vK',K,rfl,F3,sK,s3,ae⟩;have ak:=ac.then F3;have ar:ab h3 h.next 4=some v:=(F3.get (F2.get o_h1)).ld1 4;have a3:=ac.next;have eb:Y.map (aF K)=Y.map (aF Ks):=Ut fun y _=>(gG sK y).1;have es:Y.map (bG K)=Y.map (bG Ks):=Ut fun y _=>(gG sK y).2;have an:∀y∈Wr b' bg' h2.next bm' bm' bl' none,h.next<=y:=fun y m=>by have:=ae y m;omega
 have ht:∀y∈Y,y.type<K.length/\0<y.key:=by intro y m;have:=good y m;simp only[okI,RU,decide_eq_true_eq]at this;rw[<-dS sK];exact⟨this.2.1,oM⟩
 by_cases c3:bZ [] 0 (Y.map (aF K))=0;have c3':=c3;rw[eb]at c3';have ax:∀x∈([]:List Itm),0<x.key:=by simp
 simp only[evs,↓reduceIte,Nat.reduceEqDiff,ar];refine aa (A7 (p:=0) F3.wf s3 iS oO oO (fun Z x hZ f=>?_) (fun y m=>⟨(hY y m).2,ht y m⟩) ax c3) ?_;have fz:Fr [] h x:=TL w ak f (fun y m=>by
  obtain q|q:=hZ y m;exact an y q;have:=F3.next;omega)
 exact⟨sY.fr fz,fun y m=>(hY y m).1.fr fz⟩;rintro _ h4 ⟨rfl,Y',B',S',pm',cp,s4,F4,az,a2,a1⟩;have af:Fr [] h h4:=TL w ak F4 an;simp only[List.take_nil,List.drop_nil,TO,Tq,eb,es,UA]at s4;have l5:aj h4 b' 0 5=some [vK',ZZ cap,.ptr bg' 0,.ptr bm' 0,.ptr bl' 0]:=by rw[s4.ob.ld];rfl
 simp only[evs,↓reduceIte,Nat.reduceEqDiff,l5];refine ai (c':=[vK',ZZ cap,.ptr bg' 0,.ptr bm' 0,.ptr bl' 0]) af.wf (af.get s.ob) rfl (by
  have v1:vK'.one=true:=TI (s4.rd [] h4 iS (Sn F4.wf)).1;simp only[V.cells,av,aB,v1];rfl) rfl ?_
 intro h5 o5 F5 n5;have a4:=F3.next;have wr:∀y∈Wr b' bg' B' bm' S' bl' pm',h2.next<=y:=by
  intro y m;simp only[Wr,pi,Sk,SH,or_false]at m ae;obtain(rfl|rfl|rfl|rfl|rfl|rfl)|m:=m;exact ae _ iS;exact ae _ iS;obtain rfl|q:=az<;>omega
  exact ae _ iS;obtain rfl|q:=a2;exact ae _ iS;omega;exact ae _ iS;obtain rfl|q:=a1;simp at m;have:=q y (eV m);omega
 have s5:=Sto.move (m0:=n0) F4.wf s4 wr (af.get s.ob) rfl ((ac.get s.ob).lt ac.wf) (fun z q=>by have:=s.n0l z q;have:=ac.next;omega) F5 o5;have f5:Fr [b] h h5:=Sj af F5 w (fun y hy=>by simp at hy) (fun y hy=>.inl hy);simp only[evs,↓reduceIte,eq_true c3'];refine⟨by rw[c3'],fun e=>absurd c3' e,fun _=>⟨f5,K,Y',vK',bg',B',bm',S',bl',pm',sK,cp,s5,fun y m=>?_⟩⟩;have:=wr y (by
  simp only[Wr,TS,TO,Sk]at m|-;exact .inr m)
 omega;have c3':=c3;rw[eb]at c3';simp only[evs,↓reduceIte,Nat.reduceEqDiff,ar];apply aa (D6 (p:=0) F3.wf s3 iS oM iS (sY.fr ak) (fun y m=>⟨(hY y m).1.fr ak,(ht y m).1⟩) c3);rintro _ h4 ⟨rfl,F4⟩;rw[eb];have af:Fr [] h h4:=TL w ak F4 (fun y m=>by
  have:=ae y (by simp[Wr]at m|-;omega);omega)
 have ay:¬bZ [] ((0:Nat):Int) (Y.map (aF Ks))=0:=c3';simp only[evs,↓reduceIte,Nat.reduceEqDiff,eq_false ay];refine⟨rfl,fun _=>af,fun e=>absurd e c3'⟩;rw[if_pos c2];simp only[evs,↓reduceIte,Nat.reduceEqDiff,eq_false c2];exact⟨fun _=>ac,fun e=>e.elim⟩
theorem Sto.fr{n0:NL}{h:Heap}{b B S:Nat}{l:List Int}{mc:cC}(w:WF h)(s:Sto n0 h b Ks cap X l kn st vK bg B bm S bl pm mc)(f:Fr [] h h'):
 Sto n0 h' b Ks cap X l kn st vK bg B bm S bl pm mc:=by
 have fn:=f.next;refine⟨f.get s.ob,s.g.fr f iS iS,s.gB.fr f iS,s.k.fr f,s.gS.fr f iS,s.lo.fr f,s.len,?_,s.d,by have:=s.Sl';omega,fun q e=>by have:=s.pl q e;omega,by have:=s.bl';omega,by exact fun z q=>by have:=s.n0l z q;omega⟩;intro Z h2 K f2;refine s.rd Z h2 (fun z m=>?_) (Sj f f2 w (fun x m=>by simp at m) (fun x m=>.inl m));obtain q|q|q:=K z m;exact .inl q;omega;exact .inr (.inr q)
theorem Sto.lay{n0:NL}{h:Heap}{b B S:Nat}{l l':List Int}{ac ae:List Bool}{K:Option Nat}{mc:cC}(w:WF h)(s:Sto n0 h b Ks cap X l kn st vK bg B bm S bl pm mc)(f:Fr (bl::pm.toList) h h')
 (a:LoP h' bl K l' ac ae) (hl:l'.length=X.length) (hp:K=pm\/∀q,K=some q->h.next<=q):Sto n0 h' b Ks cap X l' ac ae vK bg B bm S bl K mc:=by
 have d:=s.d;have fn:=f.next;have n0l:=s.n0l;have nb:∀y,y≠bl->(∀q,pm=some q->q≠y)->y∉bl::pm.toList:=by grind
 have lb:=s.ob.lt w;have lg:bg<h.next:=s.g.ob.1.lt w;have lB:=s.gB.lt w;have lm:=s.k.lt w;have lS:=s.Sl';have ll:=s.bl';have pl:=a.pmlt f.wf;have dp:=d.p;have xb:=nb b d.b5 fun q e=>(dp q e).1;have xg:=nb bg d.g3 fun q e=>(dp q e).2.1;have xB:=nb B d.t3 fun q e=>(dp q e).2.2.1;have xm:=nb bm d.m1 fun q e=>(dp q e).2.2.2.1;have xS:=nb S d.m2 fun q e=>(dp q e).2.2.2.2.1;refine⟨f.own _ _ xb s.ob,s.g.fr f xg xB,s.gB.fr f xB,s.k.frS f xm xS,s.gS.fr f xS,a,hl,?_,?_,oM,pl.1,oM,fun z q=>by have:=n0l z q;omega⟩;intro Z h2 hZ f2;refine s.rd ((bl::pm.toList)++Z) h2 (fun z m=>?_) (Sj f f2 w (fun x m=>.inl (pi.2 (.inl m))) (fun x m=>.inl (pi.2 (.inr m))));obtain m|m:=pi.1 m;refine .inl ?_;obtain rfl|m:=Sk.1 m;simp[Wr];exact pi.2 (.inr m);obtain q|q|q:=hZ z m;obtain q|q:=pi.1 q;exact .inl (pi.2 (.inl q));grind;omega;exact .inr (.inr q);refine⟨d.b1,d.b2,d.b3,d.b4,d.b5,d.g1,d.g2,d.g3,d.t1,d.t2,d.t3,d.m1,d.m2,fun q e=>?_⟩;obtain rfl|hp:=hp;exact dp q e;grind
theorem HK{n0:NL}{h:Heap}{b B S p:Nat}{Y:List Itm}{l:List Int}{v:V}{mc:cC}(w:WF h)(s:Sto n0 h b Ks cap X l kn st vK bg B bm S bl pm mc)
 (hp:p<=X.length) (hn:Y.length<=1024) (hx:X.length<=1024) (sY:ARecs Itm.cells 4 h v Y) (ac:∀y∈Y,ItmH h y/\y.type<Ks.length) (e0:bZ l p (Y.map (aF Ks))≠0):
 ao go 96 [.ptr b 0,ZZ (p:Int),v] h fun u h'=>u=ZZ (bZ l p (Y.map (aF Ks)))/\Fr (bl::pm.toList) h h'/\∃pm',(pm'=pm\/∀q,pm'=some q->h.next<=q)/\Sto n0 h' b Ks cap X l kn st vK bg B bm S bl pm' mc:=by
 let⟨rk,kh,xh⟩:=s.rd [] h iS (Sn w);refine ag ?_;simp only[evs,seval];refine aa (oR w ⟨vK,_,_,_,s.ob,rk,kh⟩ sY ac oM) ?_;rintro _ h1 ⟨v4,v5,rfl,G4,G5,Z⟩;have am:pp h1 v4 (Y.map (aF Ks)):=by have:=G4.sl (n:=(Y.map (aF Ks)).length) iS oM;unfold pp Vals;rw[Te];exact this
 have as:Bools h1 v5 (Y.map (bG Ks)):=by have:=G5.sl (n:=(Y.map (bG Ks)).length) iS oM;unfold Bools Vals;rw[Te];exact this
 have l4:ab h1 b 4=some (.ptr bl 0):=(Z.get s.ob).ld1 4;simp only[evs,seval,l4];apply aa (tM Z.wf (s.lo.fr Z) am as oO iS oM oM);rintro _ h2 ⟨rfl,F2,pm',hp,a⟩;rw[if_neg e0]at a;have n1:=Z.next;have K:pm'=pm\/∀q,pm'=some q->h1.next<=q:=by grind
 have s2:=(s.fr w Z).lay Z.wf F2 a s.len K;simp only[evs,seval,eq_false e0];refine⟨Sj Z F2 w iS (fun x m=>.inl m),pm',?_,s2⟩;obtain hp|hp:=K;exact .inl hp;grind
theorem HI{h:Heap}{g b S c:Nat}{m:Nat->Option Nat}{k1 k3:V}{k2:V}(og:Own h g [.ptr b 0])(ob:Own h b [k0,k1,k2,.ptr bm 0,k3])(k:Km h bm S m c):Ch h 95 [.ptr g 0] (fun x=>(m x).isSome):=⟨dI,fun h1 x f hx=>by
 have l0:ab h1 g 0=some (.ptr b 0):=(f.get og).ld1 0;have l3:ab h1 b 3=some (.ptr bm 0):=(f.get ob).ld1 3;refine ag ?_;simp only[evs,seval,l0,l3];refine aa (wU f.wf (k.fr f) hx) ?_;rintro _ h2 ⟨rfl,F2⟩;cases e:m x with
 |none=>simp only[evs,seval,nR];exact F2
 |some i=>simp only[evs,seval,nR];exact F2⟩
def jP(Ks:List Knd)(cap at_:Int)(X Y:List Itm)(l:List Int)(p:Nat->Bool):Int:=
 if at_<0\/(X.length:Int)<at_ then 4 else if(1024:Int)-X.length<Y.length then 3 else if dQ Ks cap p [] Y≠0 then dQ Ks cap p [] Y else bZ l at_.toNat (Y.map (aF Ks))
theorem uY{n0:NL}{h:Heap}{b B S:Nat}{a:Int}{Y:List Itm}{l:List Int}{v:V}{mc:cC}{c0 t0:V}(w:WF h)(s:Sto n0 h b Ks cap X l kn st vK bg B bm S bl pm mc)(ha:-9223372036854775808<=a/\a<9223372036854775808)
 (ok:okR Ks cap=true) (hX:∀x∈X,0<x.key) (hx:X.length<=1024) (hc:mc.2+1024<=4096)
 (sv:∀(Z:List Nat)(h':Heap),(∀z∈Z,z∈Wr b bg B bm S bl pm\/h.next<=z)->Fr Z h h'->ARecs Itm.cells 4 h' v Y/\∀y∈Y,ItmH h' y) (hY:∀y∈Y,nZ y.vm=true) (hl:Y.length<=4096) (ones:au [k0,ZZ a,c0,t0,v]=true):
 ao go 46 [.ptr b 0,.agg [k0,ZZ a,c0,t0,v]] h fun u h'=>u=ZZ (jP Ks cap a X Y l (fun x=>(mc.1 x).isSome))/\
  (jP Ks cap a X Y l (fun x=>(mc.1 x).isSome)≠0->Fr (bl::pm.toList) h h'/\∃pm',(pm'=pm\/∀q,pm'=some q->h.next<=q)/\Sto n0 h' b Ks cap X l kn st vK bg B bm S bl pm' mc)/\
  (jP Ks cap a X Y l (fun x=>(mc.1 x).isSome)=0->0<=a/\a<=X.length/\X.length+Y.length<=1024/\∃Y' B' S' pm',Cps Y Y'/\
   Sto n0 h' b Ks cap (X.take a.toNat++Y'++X.drop a.toNat) (l.take a.toNat++Y.map (aF Ks)++l.drop a.toNat) (kn.take a.toNat++List.replicate Y.length false++kn.drop a.toNat) (st.take a.toNat++Y.map (bG Ks)++st.drop a.toNat) vK bg B' bm S' bl pm'
    (dJ mc ((X.take a.toNat++Y'++X.drop a.toNat).drop a.toNat) a.toNat)/\Fr (Wr b bg B bm S bl pm) h h'/\(B'=B\/h.next<=B')/\(S'=S\/h.next<=S')/\(pm'=pm\/∀q,pm'=some q->h.next<=q)):=by
 let⟨rk,kh,xh⟩:=s.rd [] h iS (Sn w);let⟨sY,hYI⟩:=sv [] h iS (Sn w);have hK:Ks.length<=8:=by simp only[okR,RU,decide_eq_true_eq]at ok;exact ok.2.1
 have same:∀{h'},Fr [] h h'->Fr (bl::pm.toList) h h'/\∃pm',(pm'=pm\/∀q,pm'=some q->h.next<=q)/\Sto n0 h' b Ks cap X l kn st vK bg B bm S bl pm' mc:=fun f=>⟨frQ f,pm,.inl rfl,s.fr w f⟩;let⟨h0,e_h0,F_h0,o_h0⟩:=aq w [.ptr b 0];let⟨h1,e_h1,F_h1,o_h1⟩:=aq F_h0.wf [k0,ZZ a,c0,t0,v];have K:=F_h0.then F_h1;have s1:=s.fr w K;have l0:ab h1 h.next 0=some (.ptr b 0):=(F_h1.get o_h0).ld1 0;have l1:ab h1 h0.next 1=some (ZZ a):=o_h1.ld1 1;have l4:ab h1 h0.next 4=some v:=o_h1.ld1 4;by_cases c1:a<0;refine ag ?_;simp only[evs,↓reduceIte,Nat.reduceEqDiff,Nat.reduceAdd,DF,eff,Nat.reduceSub,<-e_h0,<-e_h1,l0,l1,eq_true c1];have e:jP Ks cap a X Y l (fun x=>(mc.1 x).isSome)=4:=by rw[jP,if_pos (.inl c1)]
 rw[e];exact⟨rfl,fun _=>same K,fun e=>by cases e⟩;refine ag ?_;simp only[evs,↓reduceIte,Nat.reduceEqDiff,Nat.reduceAdd,eff,<-e_h0,<-e_h1,l0,l1,eq_false c1];apply aa (jx s1);rintro _ _ ⟨rfl,rfl⟩;by_cases c2:(X.length:Int)<a;simp only[evs,↓reduceIte,Nat.reduceEqDiff,Nat.reduceAdd,DF,eff,Nat.reduceSub,eq_true c2,l0,l1];have e:jP Ks cap a X Y l (fun x=>(mc.1 x).isSome)=4:=by rw[jP,if_pos (.inr c2)]
 rw[e];exact⟨rfl,fun _=>same K,fun e=>by cases e⟩;simp only[evs,↓reduceIte,Nat.reduceEqDiff,Nat.reduceAdd,DF,eff,Nat.reduceSub,eq_false c2,l0,l1,l4,(sY.fr K).len];apply aa (jx s1);rintro _ _ ⟨rfl,rfl⟩;have ae:¬(a<0\/(X.length:Int)<a):=oM;by_cases c3:(1024:Int)-X.length<Y.length;simp(disch:=omega) only[evs,↓reduceIte,Nat.reduceEqDiff,Nat.reduceAdd,DF,eff,Nat.reduceSub,ah,eq_true c3,l0,l4];have e:jP Ks cap a X Y l (fun x=>(mc.1 x).isSome)=3:=by rw[jP,if_neg ae,if_pos c3]
 rw[e];exact⟨rfl,fun _=>same K,fun e=>by cases e⟩;have th:Ch h1 95 [.ptr h.next 0] (fun x=>(mc.1 x).isSome):=HI (F_h1.get o_h0) s1.ob s1.k;simp(disch:=omega) only[evs,↓reduceIte,Nat.reduceEqDiff,Nat.reduceAdd,DF,eff,Nat.reduceSub,ah,eq_false c3,l0,l4];apply aa (qi F_h1.wf (RulesAt.fr ⟨vK,_,_,_,s.ob,rk,kh⟩ K) hK (sY.fr K) (fun y m=>(hYI y m).fr K) hl th);rintro _ h2 ⟨rfl,F2⟩;have ac:=K.then F2;have l0:=(F2.get (F_h1.get o_h0)).ld1 0;have l1:ab h2 h0.next 1=some (ZZ a):=(F2.get o_h1).ld1 1;have l4:ab h2 h0.next 4=some v:=(F2.get o_h1).ld1 4;by_cases c4:dQ Ks cap (fun x=>(mc.1 x).isSome) [] Y=0;have good:=wW c4;obtain⟨p,rfl⟩:∃p:Nat,a=p:=⟨a.toNat,oM⟩;have hp:p<=X.length:=oM;have hn:X.length+Y.length<=1024:=oM;have e:jP Ks cap p X Y l (fun x=>(mc.1 x).isSome)=bZ l p (Y.map (aF Ks)):=by rw[jP,if_neg ae,if_neg c3,if_neg iX];rfl
 have ht:∀y∈Y,y.type<Ks.length/\0<y.key:=by intro y m;have:=good y m;simp only[okI,RU,decide_eq_true_eq]at this;exact⟨this.2.1,oM⟩
 simp only[evs,↓reduceIte,Nat.reduceEqDiff,c4,l0,l1,l4];rw[e];have s2:=s.fr w ac;have n2:=ac.next;by_cases c5:bZ l p (Y.map (aF Ks))=0;refine aa (A7 (p:=p) F2.wf s2 hp hn oM (fun Z x hZ f=>?_) (fun y m=>⟨hY y m,ht y m⟩) hX c5) ?_;refine sv Z x (fun z m=>?_) (Sj ac f w (fun x m=>by simp at m) (fun x m=>.inl m));obtain q|q:=hZ z m;exact .inl q;omega;rintro _ h4 ⟨rfl,Y',B',S',pm',cp,s4,F4,ak,an,af⟩;have f4:Fr (Wr b bg B bm S bl pm) h h4:=Sj ac F4 w (fun x m=>by simp at m) (fun x m=>.inl m);rw[c5];simp only[evs,↓reduceIte];have q1:B'=B\/h.next<=B':=oM;have q2:S'=S\/h.next<=S':=oM;have q3:pm'=pm\/∀q,pm'=some q->h.next<=q:=by grind
 exact⟨fun e=>absurd rfl e,fun _=>⟨oM,oM,hn,Y',B',S',pm',cp,s4,f4,q1,q2,q3⟩⟩;apply aa (HK (p:=p) F2.wf s2 hp oM hx (sY.fr ac) (fun y m=>⟨(hYI y m).fr ac,(ht y m).1⟩) c5);rintro _ h4 ⟨rfl,F4,pm',af,s4⟩;have f4:Fr (bl::pm.toList) h h4:=Sj ac F4 w (fun x m=>by simp at m) (fun x m=>.inl m);simp only[evs,↓reduceIte,eq_false c5];have q3:pm'=pm\/∀q,pm'=some q->h.next<=q:=by grind
 exact⟨fun _=>⟨f4,pm',q3,s4⟩,fun e=>e.elim⟩;have e:jP Ks cap a X Y l (fun x=>(mc.1 x).isSome)=dQ Ks cap (fun x=>(mc.1 x).isSome) [] Y:=by rw[jP,if_neg ae,if_neg c3,if_pos c4]
 simp only[evs,↓reduceIte,Nat.reduceEqDiff,eq_false c4];rw[e];exact⟨rfl,fun _=>same ac,fun e=>absurd e c4⟩
open Go.Ev.St
set_option maxRecDepth 4000
section
variable {n0 : NL} {h : Heap} {b bg B bm S bl : Nat} {Ks : List Knd} {cap : Int} {X : List Itm} {l : List Int} {kn st : List Bool} {vK : V} {pm : Option Nat} {mc : cC}
theorem Eg{key:Nat}(w:WF h)(s:Sto n0 h b Ks cap X l kn st vK bg B bm S bl pm mc)(hk:key<18446744073709551616):ao go 10 [.ptr b 0,ZX (key:Int)] h fun u h'=>u=nR (mc.1 key)/\Fr [] h h':=by
 have K:ab h b 3=some (.ptr bm 0):=s.ob.ld1 3;refine ag ?_;simp only[evs,seval];refine aa (iA s) ?_;rintro _ _ ⟨rfl,rfl⟩;simp only[evs,seval,K];apply aa (wU w s.k hk);rintro _ h2 ⟨rfl,Z⟩;cases e:mc.1 key with
 |none=>simp only[evs,seval,nR];exact Z
 |some i=>simp only[evs,seval,nR];exact Z
theorem Af(w:WF h)(s:Sto n0 h b Ks cap X l kn st vK bg B bm S bl pm mc):ao go 13 [.ptr b 0] h fun u h'=>∃c pm',u=.ptr c 0/\h.next<=c/\(∀q,pm'=some q->h.next<=q)/\LoP h' c pm' l kn st/\Fr [] h h':=by have Z:ab h b 4=some (.ptr bl 0):=s.ob.ld1 4;refine ag ?_;simp only[evs,seval];refine aa (iA s) ?_;rintro _ _ ⟨rfl,rfl⟩;simp only[evs,seval,Z];apply aa (lT w s.lo);rintro _ h2 ⟨c,pm',rfl,hc,K,a,F2⟩;simp only[evs,seval];exact⟨c,pm',rfl,hc,K,a,F2⟩
end
open Go.Ev.St
set_option maxRecDepth 4000
theorem Av{h:Heap}{b B:Nat}{v:V}{c1 G c2:List V}{a g m:Nat}(k:GpT h b B v c1 G c2 a g m){i:Nat}(hi:i<a+m)(hc:cs.length=4)(K:au cs=true)(nx:NoI cs):
 ∃c1' c2',bu (c1++G++c2) ((if a<=i then i+g else i) *4) cs=some (c1'++G++c2')/\(c1'.length=a*4/\c2'.length=m*4)/\c1'++c2'=(c1++c2).take (i*4)++cs++(c1++c2).drop (i*4+4)/\au c1'=true/\au c2'=true/\NoI (c1'++G++c2'):=by
 have l1:=k.l1;have lg:=k.lg;have l2:=k.l2;have n6:=k.n6;have up:∀n,n*4+4<=(c1++G++c2).length->bu (c1++G++c2) (n*4) cs=some ((c1++G++c2).take (n*4)++cs++(c1++G++c2).drop (n*4+4)):=by intro n hn;rw[bQ _ _ _ (by rw[hc];exact hn),hc]
 by_cases c:a<=i;rw[if_pos c,up _ oO];obtain⟨j,rfl⟩:∃j,i=a+j:=⟨i-a,oM⟩;have t1:(c1++G++c2).take ((a+j+g) *4)=c1++G++c2.take (j*4):=by grind
 have t2:(c1++G++c2).drop ((a+j+g) *4+4)=c2.drop (j*4+4):=by rw[List.drop_append,So oO,TO];congr 1;simp;omega
 have t3:(c1++c2).take ((a+j) *4)=c1++c2.take (j*4):=by grind
 have Z:(c1++c2).drop ((a+j) *4+4)=c2.drop (j*4+4):=by rw[List.drop_append,So oM,TO];congr 1;omega
 refine⟨c1,c2.take (j*4)++cs++c2.drop (j*4+4),by rw[t1,t2];simp,⟨l1,by simp;omega⟩,by rw[t3,Z];simp,k.o1,?_,?_⟩;rw[aL,aL,bL _ k.o2,K,bq _ k.o2];rfl;refine Vw (n6.sub fun x m=>by simp at m|-;obtain m|m:=m<;>simp[m]) (Vw (Vw (n6.sub fun x m=>?_) nx) (n6.sub fun x m=>?_))
 grind;grind;rw[if_neg c,up _ oO];have t1:(c1++G++c2).take (i*4)=c1.take (i*4):=by grind
 have t2:(c1++G++c2).drop (i*4+4)=c1.drop (i*4+4)++G++c2:=by grind
 have t3:(c1++c2).take (i*4)=c1.take (i*4):=by grind
 have Z:(c1++c2).drop (i*4+4)=c1.drop (i*4+4)++c2:=by grind
 refine⟨c1.take (i*4)++cs++c1.drop (i*4+4),c2,by rw[t1,t2];simp,⟨by simp;omega,l2⟩,by rw[t3,Z];simp,?_,k.o2,?_⟩;rw[aL,aL,bL _ k.o1,K,bq _ k.o1];rfl;refine Vw (Vw (Vw (Vw (n6.sub fun x m=>?_) nx) (n6.sub fun x m=>?_)) (n6.sub fun x m=>?_)) (n6.sub fun x m=>?_);grind;grind;simp[m];simp[m]
theorem Iu{h:Heap}{b B:Nat}{v:V}{c1 G c2:List V}{a g m:Nat}{x y z u:V}(w:WF h)(k:GpT h b B v c1 G c2 a g m){i:Nat}(hi:i<a+m)(ho:au [x,y,z,u]=true)(nx:NoI [x,y,z,u]):
 ao go 105 [.ptr b 0,ZZ (i:Int),.agg [x,y,z,u]] h fun r h'=>r=ZZ 0/\Fr [B] h h'/\∃c1' c2',GpT h' b B v c1' G c2' a g m/\c1'++c2'=(c1++c2).take (i*4)++[x,y,z,u]++(c1++c2).drop (i*4+4):=by
 have am:=k.am;let⟨h1,e_h1,F_h1,o_h1⟩:=aq w [x,y,z,u];have Z:=k.fr F_h1 iS iS;have K:=Z.ob.ld1 0;simp only[bR]at K;have⟨a1,a2⟩:=Z.at' hi;have l5:aj h1 h.next 0 4=some [x,y,z,u]:=by rw[o_h1.ld];rfl
 refine ag ?_;simp only[evs,seval,<-e_h1];refine aa (d9 Z i 1) ?_;rintro _ _ ⟨rfl,rfl⟩;simp only[evs,seval,eff,BB hi];simp only[evs,seval,eff,K];apply aa (rS Z i oM);rintro _ _ ⟨rfl,rfl⟩;simp only[evs,seval,eff,a1,l5];obtain⟨hl,⟨rfl,z⟩|⟨rfl,o⟩⟩:=Z.tb;omega;let⟨c1',c2',e1,e2,e3,o1,o2,n1⟩:=Av Z hi rfl ho nx;refine ai F_h1.wf o rfl ho e1 ?_;rintro h2 ac F2 n2;have ne:=k.ne;have nb:=F2.own b _ (by simp;exact fun e=>ne e.symm) Z.ob;simp only[evs,seval,DF,K,l5];refine⟨Sj F_h1 F2 w iS (fun x m=>.inl m),c1',c2',⟨nb,⟨?_,.inr ⟨rfl,ac⟩⟩,e2.1,k.lg,e2.2,o1,o2,k.ne,k.nb,k.am,n1⟩,e3⟩;have:=k.lg;have:=e2.1;have:=e2.2;simp;omega
theorem Sto.relay{n0:NL}{h:Heap}{b B S c:Nat}{l l':List Int}{ac ae:List Bool}{K:Option Nat}{mc:cC}(w:WF h)(s:Sto n0 h b Ks cap X l kn st vK bg B bm S bl pm mc)(f:Fr (b::bl::pm.toList) h h')
 (ob:Own h' b [vK,ZZ cap,.ptr bg 0,.ptr bm 0,.ptr c 0]) (a:LoP h' c K l' ac ae) (hl:l'.length=X.length) (hc:h.next<=c) (hp:∀q,K=some q->h.next<=q/\q≠c):Sto n0 h' b Ks cap X l' ac ae vK bg B bm S c K mc:=by
 have d:=s.d;have fn:=f.next;have n0l:=s.n0l;have nb:∀y,b≠y->y≠bl->(∀q,pm=some q->q≠y)->y∉b::bl::pm.toList:=by grind
 have lb:=s.ob.lt w;have lg:bg<h.next:=s.g.ob.1.lt w;have lB:=s.gB.lt w;have lm:=s.k.lt w;have lS:=s.Sl';have ll:=s.bl';have pl:=a.pmlt f.wf;have dp:=d.p;have xg:=nb bg d.b1 d.g3 fun q e=>(dp q e).2.1;have xB:=nb B d.b2 d.t3 fun q e=>(dp q e).2.2.1;have xm:=nb bm d.b3 d.m1 fun q e=>(dp q e).2.2.2.1;have xS:=nb S d.b4 d.m2 fun q e=>(dp q e).2.2.2.2.1;refine⟨ob,s.g.fr f xg xB,s.gB.fr f xB,s.k.frS f xm xS,s.gS.fr f xS,a,hl,?_,?_,oM,pl.1,pl.2,fun z q=>by have:=n0l z q;omega⟩;intro Z h2 hZ f2;refine s.rd ((b::bl::pm.toList)++Z) h2 (fun z m=>?_) (Sj f f2 w (fun x m=>.inl (pi.2 (.inl m))) (fun x m=>.inl (pi.2 (.inr m))));obtain m|m:=pi.1 m;refine .inl ?_;obtain rfl|m:=Sk.1 m;simp[Wr];obtain rfl|m:=Sk.1 m;simp[Wr];exact pi.2 (.inr m);obtain q|q|q:=hZ z m;obtain q|q:=pi.1 q;simp only[Sk,SH,or_false]at q;obtain q|q|q|q|q|q:=q;exact .inl (by simp[Wr,q]);exact .inl (by simp[Wr,q]);exact .inl (by simp[Wr,q]);exact .inl (by simp[Wr,q]);exact .inl (by simp[Wr,q]);omega;grind;omega;exact .inr (.inr q);refine⟨d.b1,d.b2,d.b3,d.b4,oM,d.g1,d.g2,oM,d.t1,d.t2,oM,oM,oM,fun q e=>?_⟩;have:=hp q e;omega
theorem LoP.ne{h:Heap}{b:Nat}{l:List Int}(a:LoP h b pm l ks bs):∀q,pm=some q->q≠b:=by let⟨p,vk,o,v1,ix,mk,e⟩:=a;rintro q rfl;let⟨ws,oq,x⟩:=mk;refine Own.ne oq o fun e=>?_;unfold flc at e;cases p<;>simp[pv]at e
theorem LoP.oth{h:Heap}{b:Nat}{l:List Int}(a:LoP h b pm l ks bs):Oth h (b::pm.toList):=by
 let⟨p,vk,o,v1,ix,mk,e⟩:=a;apply Oth.app (A:=[b]) (Oth.own o iS (fJ (n:=1) rfl));cases pm with
 |none=>exact fun x m=>by simp at m
 |some q=>
  let⟨ws,oq,x,_⟩:=mk;have Z:=x.len;refine Oth.own oq (by simp[flc];omega) ?_;intro L K e;match ws,Z,L with
  |w1::w2::ws,_,(x1,x2)::(y1,y2)::L=>simp[flc,sp,uw]at e
  |w1::w2::ws,_,[(x1,x2)]=>simp[flc,sp,uw]at e
def htC(x:Nat×Int):List V:=[ZX (x.1:Int),ZZ x.2]
def jB(m:Nat->Option Nat):List (Nat×Int)->Nat->List Int->List Bool->Int×Nat×List Int×List Bool
 |[],i,l,kn=>(0,i,l,kn)
 |x::r,i,l,kn=>match m x.1 with
  |none=>(11,i,l,kn)
  |some j=>if eU l j x.2=0 then jB m r (i+1) (l.set j x.2) (kn.set j true)else(eU l j x.2,i,l,kn)
theorem yf{n0:NL}{h:Heap}{b B S:Nat}{l:List Int}{v:V}{mc:cC}{H:List (Nat×Int)}(w:WF h)(s:Sto n0 h b Ks cap X l kn st vK bg B bm S bl pm mc)
 (sv:∀(Z:List Nat)(h':Heap),(∀z∈Z,z∈Wr b bg B bm S bl pm\/h.next<=z)->Fr Z h h'->ARecs htC 2 h' v H) (hH:∀x∈H,x.1<18446744073709551616/\-9223372036854775808<=x.2/\x.2<=9223372036854775807) (hl:H.length<=4096) (hm:∀k j,mc.1 k=some j->j<=4096):
 ao go 12 [.ptr b 0,v] h fun u h'=>u=.tup [ZZ ((jB mc.1 H 0 l kn).2.1:Int),ZZ (jB mc.1 H 0 l kn).1]/\
  ((jB mc.1 H 0 l kn).1=0->Fr (bl::pm.toList) h h'/\Sto n0 h' b Ks cap X (jB mc.1 H 0 l kn).2.2.1 (jB mc.1 H 0 l kn).2.2.2 st vK bg B bm S bl pm mc)/\
  ((jB mc.1 H 0 l kn).1≠0->Fr (b::bl::pm.toList) h h'/\∃c pm',h.next<=c/\(∀q,pm'=some q->h.next<=q)/\Sto n0 h' b Ks cap X l kn st vK bg B bm S c pm' mc):=by
 have l4:ab h b 4=some (.ptr bl 0):=s.ob.ld1 4;have sH:=sv [] h iS (Sn w);refine ag ?_;simp only[evs,seval];refine aa (iA s) ?_;rintro _ _ ⟨rfl,rfl⟩;simp only[evs,seval,l4];apply aa (lT w s.lo);rintro _ h1 ⟨c,ak,rfl,hc,hp,a1,F1⟩;simp only[evs,seval,(sH.fr F1).len];have az:=LoP.ne a1;have n1:=F1.next;have wm:∀z,z∈bl::pm.toList->z∈Wr b bg B bm S bl pm:=by intro z m;obtain rfl|m:=Sk.1 m;simp[Wr];exact pi.2 (.inr m)
 have wl:∀z,z∈bl::pm.toList->z<h.next:=by intro z m;obtain rfl|m:=Sk.1 m;exact s.bl';exact s.pl z (eV m)
 have bn:=s.ob.lt w;refine aC (fun n env hh=>Fr (bl::pm.toList) h1 hh/\∃(i:Nat)(l2:List Int)(af:List Bool),LoP hh c ak l kn st/\Sto n0 hh b Ks cap X l2 af st vK bg B bm S bl pm mc/\
  env.get 21=some (ZZ i)/\env.get 20=some (ZZ H.length)/\env.get 19=some v/\env.get 0=some (.ptr b 0)/\env.get 1=some v/\env.get 6=some (.ptr c 0)/\i<=H.length/\jB mc.1 (H.drop i) i l2 af=jB mc.1 H 0 l kn/\n=H.length-i) H.length oM ?_ ?_
 exact⟨frQ (Sn F1.wf),0,l,kn,a1,s.fr w F1,iS,iS,iS,iS,iS,iS,oM,rfl,rfl⟩;rintro n env hh ⟨F,i,l2,af,ac,ss,ar,aH,a2,g0,g1,g6,hi,em,rfl⟩;have Fh:Fr (bl::pm.toList) h hh:=Sj F1 F w iS (fun x m=>.inl m);have ay:=sv (bl::pm.toList) hh (fun z m=>.inl (wm z m)) Fh;by_cases a7:i<H.length;have ae:(i:Int)<H.length:=oM;let⟨bi,oi,x,p1,_,p3,p4⟩:=ay.ix (f:=htC) (k:=2) (fun _=>rfl) .i64 (i:Int) oM ae;rw[RX]at p4;let⟨k0,z0,z1⟩:=hH x (RZ p4);have hd:H.drop i=x::H.drop (i+1):=aK p4;let⟨h3,e_h3,F_h3,o_h3⟩:=aq F.wf [ZX 0,ZZ 0];simp only[evs,seval,ar,aH,a2,ae,p1,p3,<-e_h3];apply stu F_h3.wf o_h3;rintro h4 o4 F4 n4;have ax:Fr [] hh h4:=F_h3.fresh F4 F.wf (RW _);have s4:=ss.fr F.wf ax;have x0:ab h4 hh.next 0=some (ZX (x.1:Int)):=o4.ld1 0;have x1:ab h4 hh.next 1=some (ZZ x.2):=o4.ld1 1;have b3:ab h4 b 3=some (.ptr bm 0):=s4.ob.ld1 3;simp only[evs,seval,eff,g0,x0,b3];apply aa (wU ax.wf s4.k k0);rintro _ h5 ⟨rfl,F5⟩;have K:=ax.then F5;have s5:=ss.fr F.wf K;have x1:ab h5 hh.next 1=some (ZZ x.2):=(F5.get o4).ld1 1;have b4:ab h5 b 4=some (.ptr bl 0):=s5.ob.ld1 4;cases ek:mc.1 x.1 with
 |none=>
  have e:jB mc.1 H 0 l kn=(11,i,l2,af):=by rw[<-em,hd];simp[jB,ek]
  rw[e];simp only[evs,seval,DF,eff,nR,x0,b3,g0,g6,(dI:¬(11:Int)=0)];apply stu K.wf s5.ob;rintro h6 o6 F6 n6;have an:LoP h6 c ak l kn st:=(ac.fr K).frS F6 (Oth.own s5.ob iS (fJ (n:=2) rfl)) oO (fun q e=>by have:=hp q e;simp;omega);have f6:Fr (b::bl::pm.toList) h h6:=Sj (Sj Fh K w (fun x m=>.inl m) (fun x m=>by simp at m)) F6 w (fun x m=>.inl (TE _ m)) (fun x m=>.inl (by simp at m;simp[m]));have s6:=s.relay w f6 o6 an s.len hc (fun q e=>⟨hp q e,az q e⟩);simp only[evs,seval];exact⟨fun e=>e.elim,fun _=>⟨f6,c,ak,hc,hp,s6⟩⟩
 |some j=>
  have jl:=hm _ _ ek;simp only[evs,seval,DF,eff,nR,x0,b3,x1,b4,g0];apply aa (zW K.wf s5.lo z0 z1 oM oM);rintro _ h6 ⟨rfl,a6,F6⟩;have a4:ab h6 b 4=some (.ptr bl 0):=(F6.own b _ (fun m=>by have:=s.d;obtain m|m:=Sk.1 m;exact this.b5 m;exact(this.p b (eV m)).1 rfl) s5.ob).ld1 4
  have a5:ab h6 hh.next 1=some (ZZ x.2):=(F6.own _ _ (fun m=>by have:=F.next;have:=wl _ m;omega) (F5.get o4)).ld1 1;have an:LoP h6 c ak l kn st:=(ac.fr K).frS F6 s5.lo.oth (fun m=>by have:=wl _ m;omega) (fun q e m=>by have:=hp q e;have:=wl _ m;omega);by_cases c5:eU l2 j x.2=0;rw[if_pos c5]at a6;have s6:=s5.lay K.wf F6 a6 (eG ss.len) (.inl rfl);have a3:Fr (bl::pm.toList) h1 h6:=Sj (Sj F K F1.wf (fun x m=>.inl m) (fun x m=>by simp at m)) F6 F1.wf (fun x m=>.inl m) (fun x m=>.inl m);have e:jB mc.1 (H.drop (i+1)) (i+1) (l2.set j x.2) (af.set j true)=jB mc.1 H 0 l kn:=by rw[<-em,hd];simp[jB,ek,c5]
  simp(disch:=omega) only[evs,seval,DF,eff,ah,x1,b4,ar,eq_true c5];refine rqn ⟨H.length-(i+1),oM,a3,i+1,_,_,an,s6,iS,iX,iX,iX,iX,iX,oM,e,rfl⟩;rw[if_neg c5]at a6;have s6:=s5.lay K.wf F6 a6 ss.len (.inl rfl);have e:jB mc.1 H 0 l kn=(eU l2 j x.2,i,l2,af):=by rw[<-em,hd];simp[jB,ek,c5]
  rw[e];simp only[evs,seval,DF,eff,x1,b4,g0,g6,eq_false c5];apply stu F6.wf s6.ob;rintro h7 o7 F7 n7;have a0:LoP h7 c ak l kn st:=an.frS F7 (Oth.own s6.ob iS (fJ (n:=2) rfl)) oO (fun q e=>by have:=hp q e;simp;omega);have f7:Fr (b::bl::pm.toList) h h7:=Sj (Sj (Sj Fh K w (fun x m=>.inl m) (fun x m=>by simp at m)) F6 w (fun x m=>.inl m) (fun x m=>.inl m)) F7 w (fun x m=>.inl (TE _ m)) (fun x m=>.inl (by simp at m;simp[m]));have s7:=s.relay w f7 o7 a0 s.len hc (fun q e=>⟨hp q e,az q e⟩);simp only[evs,seval];exact⟨fun e=>e.elim,fun _=>⟨f7,c,ak,hc,hp,s7⟩⟩
 have:i=H.length:=oM;subst this;rw[Ua]at em;rw[<-em];have ae:¬(H.length:Int)<H.length:=oM;simp only[evs,seval,ar,aH,g1,eq_false ae,ay.len];exact⟨rfl,fun _=>⟨Fh,ss⟩,fun e=>absurd rfl e⟩
def ke:List V:=[.str [],.bool false,.bool false,.bool false,.bool false,.nilf,.str [105,110,115,101,114,116],.bool true,.bool false,.bool false,.bool true,.func (.func 128) [] [],.str [114,101,109,111,118,101],.bool true,.bool true,.bool false,.bool false,.func (.func 130) [] [],
 .str [109,111,118,101],.bool true,.bool true,.bool true,.bool false,.func (.func 131) [] [],.str [99,104,97,110,103,101],.bool true,.bool false,.bool false,.bool true,.func (.func 133) [] [],.str [114,101,115,101,116],.bool false,.bool false,.bool false,.bool true,.func (.func 135) [] []]
theorem yF{h:Heap}(w:WF h):ao go 67 [] h fun u h'=>u=.agg ke/\Fr [] h h':=by
 let⟨h1,e_h1,F_h1,o_h1⟩:=aq w [.str [],.bool false,.bool false,.bool false,.bool false,.nilf,.str [],.bool false,.bool false,.bool false,.bool false,.nilf,.str [],.bool false,.bool false,.bool false,.bool false,.nilf,.str [],.bool false,.bool false,.bool false,.bool false,.nilf,.str [],.bool false,.bool false,.bool false,.bool false,.nilf,.str [],.bool false,.bool false,.bool false,.bool false,.nilf];refine ag ?_;simp only[evs,seval,<-e_h1];refine stu F_h1.wf o_h1 ?_;rintro K o2 F2 n2;have l2:aj K h.next 0 36=some ke:=by rw[o2.ld];rfl
 have Z:Fr [] h K:=F_h1.fresh F2 w (RW _);simp only[evs,seval,l2];exact Z
def dq(k:Nat)(a c t:Int)(n:Nat):Int:=
 if k<1\/5<k then 1 else if(k=5/\a≠0)\/(¬(k=2\/k=3)/\c≠0)\/(k≠3/\t≠0)\/((k=2\/k=3)/\0<n)then 5 else 0
theorem Li{call:aI}{s:IStep}{l:List IStep}{i:Nat}{h:Heap}(Z:late.contains i=false)(K:eff s.op=false)(e:aO call loc env h s.op=none):
 lay call env late (s::l) i loc h=(lay call env late l (i+1) (.tup []::loc) h).map fun r=>((s,none)::r.1,r.2):=by
 simp only[lay,Z,cond_false,u9,K,e];cases lay call env late l (i+1) (V.tup []::loc) h<;>rfl
abbrev yh:List V:=[.str [],.bool false,.bool false,.bool false,.bool false,.nilf]
theorem Mb{h:Heap}{b1:Nat}{k:Nat}(g1:env.get 1=some (.ptr b1 0))(l0:ab h b1 0=some (ZY (k:Int))):
 lay go env [4] [⟨none,.cf 67 [],none⟩,⟨none,.p (.faddr 0) [.v 1],none⟩,⟨none,.ld 1 false (.l 0),none⟩,⟨none,.p (.ixarr 6 6 true) [.l 2,.l 0],none⟩,⟨none,.al yh,none⟩,⟨none,.st 6 (.l 0) (.l 1),none⟩] 0 [] h=
  some ([(⟨none,.cf 67 [],none⟩,none),(⟨none,.p (.faddr 0) [.v 1],none⟩,none),(⟨none,.ld 1 false (.l 0),none⟩,none),(⟨none,.p (.ixarr 6 6 true) [.l 2,.l 0],none⟩,none),(⟨none,.al yh,none⟩,some (.ptr h.next 0,yh)),(⟨none,.st 6 (.l 0) (.l 1),none⟩,none)],halloc h yh):=by
 have K:∀(Z:List V)(h:Heap)(k:Nat),aO go Z env h (.p (.faddr k) [.v 1])=some (.ptr b1 k,h):=fun Z h k=>by simp only[aO,gu,dE,iB,g1,cU,jm,Tj]
 have ac:∀(Z:List V)(h:Heap)(k:Nat)(v:V),ab h b1 k=some v->aO go (.ptr b1 k::Z) env h (.ld 1 false (.l 0))=some (v,h):=fun Z h k v e=>by simp only[aO,ql,bR,fO,e]
 rw[yC rfl rfl,db rfl rfl (K _ _ _),db rfl rfl (ac _ _ _ _ l0),Li rfl rfl rfl,Bs (c:=yh) (k:=none) rfl rfl,yC rfl rfl];rfl
theorem yD(Z:List V)(env:T V)(n:Nat):cy Z env (.al yh) (.ptr n 0) yh=true:=by simp[cy,iZ,mC,vEq,eF,lid]
theorem uR{h:Heap}{k n:Nat}{a c t:Int}{v:V}(w:WF h)(hk:k<256)(sl:ASl h 4 v n cs):
 ao go 45 [.agg [ZY (k:Int),ZZ a,ZZ c,ZZ t,v]] h fun u h'=>u=ZZ (dq k a c t n)/\Fr [] h h':=by
 have v1:v.one=true:=VB sl;let⟨h1,e_h1,F_h1,o_h1⟩:=aq w [ZY (k:Int),ZZ a,ZZ c,ZZ t,v];have l0:ab h1 h.next 0=some (ZY (k:Int)):=o_h1.ld1 0;by_cases c1:k<1;have ae:(k:Int)<1:=oM;refine ag ?_;simp only[evs,↓reduceIte,Nat.reduceEqDiff,<-e_h1,l0,eq_true ae];rw[dq,if_pos (.inl c1)];exact⟨rfl,F_h1⟩;have ae:¬(k:Int)<1:=oM;by_cases c2:5<k;have af:(5:Int)<k:=oM;refine ag ?_;simp only[evs,↓reduceIte,Nat.reduceEqDiff,<-e_h1,l0,eq_false ae,eq_true af];rw[dq,if_pos (.inr c2)];exact⟨rfl,F_h1⟩;have af:¬(5:Int)<k:=oM;refine ag ?_;simp only[evs,↓reduceIte,Nat.reduceEqDiff,<-e_h1,l0,eq_false ae,eq_false af];refine(Dz _ _ _ _ _ _).2 ?_;rw[Mb (b1:=h.next) iS l0,jn];let⟨h3,e_h3,F_h3,o_h3⟩:=aq F_h1.wf yh;simp only[evs,eff,<-e_h3];refine aa (yF F_h3.wf) ?_;rintro _ h4 ⟨rfl,F4⟩;have l0:ab h4 h.next 0=some (ZY (k:Int)):=((F_h3.then F4).get o_h1).ld1 0;have ob:=F4.get o_h3;have K:ab h3 h.next 0=some (ZY (k:Int)):=(F_h3.get o_h1).ld1 0;have nq:h1.next≠h.next:=by rw[e_h1];simp[halloc]
 obtain rfl|rfl|rfl|rfl|rfl:k=1\/k=2\/k=3\/k=4\/k=5:=oM;have ax:aP (PK.ixarr 6 6 true) [.agg ke,ZY ((1:Nat):Int)]=some (.agg [.str [105,110,115,101,114,116],.bool true,.bool false,.bool false,.bool true,.func (.func 128) [] []]):=rfl;simp only[evs,↓reduceIte,Nat.reduceEqDiff,eff,l0,cK,yD,ax];refine stu F4.wf ob ?_;rintro h5 o5 F5 n5;have ac:Fr [] h1 h5:=(F_h3.then F4).fresh F5 F_h1.wf (RW _);have Z:=F_h1.then ac;have om:=ac.get o_h1;have m0:=om.ld1 0;have m1:=om.ld1 1;have m2:=om.ld1 2;have m3:=om.ld1 3;have m4:=om.ld1 4;have r1:=o5.ld1 1;have r2:=o5.ld1 2;have r3:=o5.ld1 3;have r4:=o5.ld1 4;simp only[bR,cQ]at m0 m1 m2 m3 m4 r1 r2 r3 r4;by_cases hc:c=0;by_cases ht:t=0;simp only[evs,↓reduceIte,Nat.reduceEqDiff,Nat.reduceAdd,DF,Nat.reduceSub,l0,K,m2,m3,r1,r2,r3,r4,eq_true hc,eq_true ht];exact⟨by rw[dq,if_neg oM];split<;>first|rfl|omega,Z⟩
 simp only[evs,↓reduceIte,Nat.reduceEqDiff,Nat.reduceAdd,DF,Nat.reduceSub,l0,K,m2,m3,r1,r2,r3,eq_true hc,eq_false ht];exact⟨by rw[dq,if_neg oM];split<;>first|rfl|omega,Z⟩
 by_cases ht:t=0;simp only[evs,↓reduceIte,Nat.reduceEqDiff,Nat.reduceAdd,DF,Nat.reduceSub,l0,K,m2,r1,r2,eq_false hc];exact⟨by rw[dq,if_neg oM];split<;>first|rfl|omega,Z⟩
 simp only[evs,↓reduceIte,Nat.reduceEqDiff,Nat.reduceAdd,DF,Nat.reduceSub,l0,K,m2,r1,r2,eq_false hc];exact⟨by rw[dq,if_neg oM];split<;>first|rfl|omega,Z⟩
 have ax:aP (PK.ixarr 6 6 true) [.agg ke,ZY ((2:Nat):Int)]=some (.agg [.str [114,101,109,111,118,101],.bool true,.bool true,.bool false,.bool false,.func (.func 130) [] []]):=rfl;simp only[evs,↓reduceIte,Nat.reduceEqDiff,eff,l0,cK,yD,ax];refine stu F4.wf ob ?_;rintro h5 o5 F5 n5;have ac:Fr [] h1 h5:=(F_h3.then F4).fresh F5 F_h1.wf (RW _);have Z:=F_h1.then ac;have om:=ac.get o_h1;have m0:=om.ld1 0;have m1:=om.ld1 1;have m2:=om.ld1 2;have m3:=om.ld1 3;have m4:=om.ld1 4;have r1:=o5.ld1 1;have r2:=o5.ld1 2;have r3:=o5.ld1 3;have r4:=o5.ld1 4;simp only[bR,cQ]at m0 m1 m2 m3 m4 r1 r2 r3 r4;by_cases ht:t=0;by_cases hn:(0:Int)<(n:Int);simp only[evs,↓reduceIte,Nat.reduceEqDiff,Nat.reduceAdd,DF,Nat.reduceSub,l0,K,m3,m4,r1,r2,r3,r4,(sl.fr Z).len,eq_true ht,eq_true hn];exact⟨by rw[dq,if_neg oM];split<;>first|rfl|omega,Z⟩
 simp only[evs,↓reduceIte,Nat.reduceEqDiff,Nat.reduceAdd,DF,Nat.reduceSub,l0,K,m3,m4,r1,r2,r3,r4,(sl.fr Z).len,eq_true ht,eq_false hn];exact⟨by rw[dq,if_neg oM];split<;>first|rfl|omega,Z⟩
 by_cases hn:(0:Int)<(n:Int);simp only[evs,↓reduceIte,Nat.reduceEqDiff,Nat.reduceAdd,DF,Nat.reduceSub,l0,K,m3,r1,r2,r3,eq_false ht];exact⟨by rw[dq,if_neg oM];split<;>first|rfl|omega,Z⟩
 simp only[evs,↓reduceIte,Nat.reduceEqDiff,Nat.reduceAdd,DF,Nat.reduceSub,l0,K,m3,r1,r2,r3,eq_false ht];exact⟨by rw[dq,if_neg oM];split<;>first|rfl|omega,Z⟩
 have ax:aP (PK.ixarr 6 6 true) [.agg ke,ZY ((3:Nat):Int)]=some (.agg [.str [109,111,118,101],.bool true,.bool true,.bool true,.bool false,.func (.func 131) [] []]):=rfl;simp only[evs,↓reduceIte,Nat.reduceEqDiff,eff,l0,cK,yD,ax];refine stu F4.wf ob ?_;rintro h5 o5 F5 n5;have ac:Fr [] h1 h5:=(F_h3.then F4).fresh F5 F_h1.wf (RW _);have Z:=F_h1.then ac;have om:=ac.get o_h1;have m0:=om.ld1 0;have m1:=om.ld1 1;have m2:=om.ld1 2;have m3:=om.ld1 3;have m4:=om.ld1 4;have r1:=o5.ld1 1;have r2:=o5.ld1 2;have r3:=o5.ld1 3;have r4:=o5.ld1 4;simp only[bR,cQ]at m0 m1 m2 m3 m4 r1 r2 r3 r4;by_cases hn:(0:Int)<(n:Int);simp only[evs,↓reduceIte,Nat.reduceEqDiff,Nat.reduceAdd,DF,Nat.reduceSub,l0,K,m4,r1,r2,r3,r4,(sl.fr Z).len,eq_true hn];exact⟨by rw[dq,if_neg oM];split<;>first|rfl|omega,Z⟩
 simp only[evs,↓reduceIte,Nat.reduceEqDiff,Nat.reduceAdd,DF,Nat.reduceSub,l0,K,m4,r1,r2,r3,r4,(sl.fr Z).len,eq_false hn];exact⟨by rw[dq,if_neg oM];split<;>first|rfl|omega,Z⟩
 have ax:aP (PK.ixarr 6 6 true) [.agg ke,ZY ((4:Nat):Int)]=some (.agg [.str [99,104,97,110,103,101],.bool true,.bool false,.bool false,.bool true,.func (.func 133) [] []]):=rfl;simp only[evs,↓reduceIte,Nat.reduceEqDiff,eff,l0,cK,yD,ax];refine stu F4.wf ob ?_;rintro h5 o5 F5 n5;have ac:Fr [] h1 h5:=(F_h3.then F4).fresh F5 F_h1.wf (RW _);have Z:=F_h1.then ac;have om:=ac.get o_h1;have m0:=om.ld1 0;have m1:=om.ld1 1;have m2:=om.ld1 2;have m3:=om.ld1 3;have m4:=om.ld1 4;have r1:=o5.ld1 1;have r2:=o5.ld1 2;have r3:=o5.ld1 3;have r4:=o5.ld1 4;simp only[bR,cQ]at m0 m1 m2 m3 m4 r1 r2 r3 r4;by_cases hc:c=0;by_cases ht:t=0;simp only[evs,↓reduceIte,Nat.reduceEqDiff,Nat.reduceAdd,DF,Nat.reduceSub,l0,K,m2,m3,r1,r2,r3,r4,eq_true hc,eq_true ht];exact⟨by rw[dq,if_neg oM];split<;>first|rfl|omega,Z⟩
 simp only[evs,↓reduceIte,Nat.reduceEqDiff,Nat.reduceAdd,DF,Nat.reduceSub,l0,K,m2,m3,r1,r2,r3,eq_true hc,eq_false ht];exact⟨by rw[dq,if_neg oM];split<;>first|rfl|omega,Z⟩
 by_cases ht:t=0;simp only[evs,↓reduceIte,Nat.reduceEqDiff,Nat.reduceAdd,DF,Nat.reduceSub,l0,K,m2,r1,r2,eq_false hc];exact⟨by rw[dq,if_neg oM];split<;>first|rfl|omega,Z⟩
 simp only[evs,↓reduceIte,Nat.reduceEqDiff,Nat.reduceAdd,DF,Nat.reduceSub,l0,K,m2,r1,r2,eq_false hc];exact⟨by rw[dq,if_neg oM];split<;>first|rfl|omega,Z⟩
 have ax:aP (PK.ixarr 6 6 true) [.agg ke,ZY ((5:Nat):Int)]=some (.agg [.str [114,101,115,101,116],.bool false,.bool false,.bool false,.bool true,.func (.func 135) [] []]):=rfl;simp only[evs,↓reduceIte,Nat.reduceEqDiff,eff,l0,cK,yD,ax];refine stu F4.wf ob ?_;rintro h5 o5 F5 n5;have ac:Fr [] h1 h5:=(F_h3.then F4).fresh F5 F_h1.wf (RW _);have Z:=F_h1.then ac;have om:=ac.get o_h1;have m0:=om.ld1 0;have m1:=om.ld1 1;have m2:=om.ld1 2;have m3:=om.ld1 3;have m4:=om.ld1 4;have r1:=o5.ld1 1;have r2:=o5.ld1 2;have r3:=o5.ld1 3;have r4:=o5.ld1 4;simp only[bR,cQ]at m0 m1 m2 m3 m4 r1 r2 r3 r4;by_cases ha:a=0;by_cases hc:c=0;by_cases ht:t=0;simp only[evs,↓reduceIte,Nat.reduceEqDiff,Nat.reduceAdd,DF,Nat.reduceSub,l0,K,m1,m2,m3,r1,r2,r3,r4,eq_true ha,eq_true hc,eq_true ht];exact⟨by rw[dq,if_neg oM];split<;>first|rfl|omega,Z⟩
 simp only[evs,↓reduceIte,Nat.reduceEqDiff,Nat.reduceAdd,DF,Nat.reduceSub,l0,K,m1,m2,m3,r1,r2,r3,eq_true ha,eq_true hc,eq_false ht];exact⟨by rw[dq,if_neg oM];split<;>first|rfl|omega,Z⟩
 by_cases ht:t=0;simp only[evs,↓reduceIte,Nat.reduceEqDiff,Nat.reduceAdd,DF,Nat.reduceSub,l0,K,m1,m2,r1,r2,eq_true ha,eq_false hc];exact⟨by rw[dq,if_neg oM];split<;>first|rfl|omega,Z⟩
 simp only[evs,↓reduceIte,Nat.reduceEqDiff,Nat.reduceAdd,DF,Nat.reduceSub,l0,K,m1,m2,r1,r2,eq_true ha,eq_false hc];exact⟨by rw[dq,if_neg oM];split<;>first|rfl|omega,Z⟩
 by_cases hc:c=0;by_cases ht:t=0;simp only[evs,↓reduceIte,Nat.reduceEqDiff,Nat.reduceAdd,DF,Nat.reduceSub,l0,K,m1,r1,eq_false ha];exact⟨by rw[dq,if_neg oM];split<;>first|rfl|omega,Z⟩
 simp only[evs,↓reduceIte,Nat.reduceEqDiff,Nat.reduceAdd,DF,Nat.reduceSub,l0,K,m1,r1,eq_false ha];exact⟨by rw[dq,if_neg oM];split<;>first|rfl|omega,Z⟩
 by_cases ht:t=0;simp only[evs,↓reduceIte,Nat.reduceEqDiff,Nat.reduceAdd,DF,Nat.reduceSub,l0,K,m1,r1,eq_false ha];exact⟨by rw[dq,if_neg oM];split<;>first|rfl|omega,Z⟩
 simp only[evs,↓reduceIte,Nat.reduceEqDiff,Nat.reduceAdd,DF,Nat.reduceSub,l0,K,m1,r1,eq_false ha];exact⟨by rw[dq,if_neg oM];split<;>first|rfl|omega,Z⟩
theorem oW{z:Str}{i:Nat}(Z:i<z.length)(p:Int->Bool):eQ p (z.drop i)=(p ((z[i]).toNat:Int)||eQ p (z.drop (i+1))):=by unfold eQ;rw[Tu Z,VH]
theorem qN{z:Str}{i:Nat}(Z:z.length<=i)(p:Int->Bool):eQ p (z.drop i)=false:=by rw[So Z];rfl
def jZ(b:Bool):Int:=if b then 1 else 0
theorem kT{h:Heap}{z:Str}:ao go 183 [.str z] h fun u h'=>u=ZZ (jZ (okT z))/\h=h':=by
 by_cases c1:(64:Int)<(z.length:Nat);refine ag ?_;simp only[evs,seval,aG,eq_true c1];have:okT z=false:=by unfold okT;rw[decide_eq_false oM];rfl
 rw[this];rfl;refine ag ?_;simp only[evs,seval,aG,eq_false c1];refine aC (fun k env hh=>hh=h/\∃(i:Nat),env.get 3=some (ZZ i)/\env.get 0=some (.str z)/\i<=z.length/\eQ ir (z.drop i)=eQ ir z/\k=z.length-i) z.length oM ?_ ?_;exact⟨rfl,0,iS,iS,oM,rfl,rfl⟩;rintro k env hh ⟨rfl,i,g3,g0,hi,e,rfl⟩;by_cases K:i<z.length;have Z:(i:Int)<z.length:=oM;rw[oW K]at e;by_cases c2:((z[i]).toNat:Int)<32;simp only[evs,seval,g3,g0,aG,Z,bY K,eq_true c2];have:okT z=false:=by unfold okT;rw[<-e];simp[ir,c2]
 rw[this];rfl;by_cases c3:(126:Int)<((z[i]).toNat:Int);simp only[evs,seval,g3,g0,aG,Z,bY K,eq_false c2,eq_true c3];have:okT z=false:=by unfold okT;rw[<-e];simp[ir,c3]
 rw[this];rfl;simp(disch:=omega) only[evs,seval,ah,g3,g0,aG,Z,bY K,eq_false c2,eq_false c3];have b0:ir ((z[i]).toNat:Int)=false:=by simp only[ir,Bool.or_eq_false_iff,decide_eq_false_iff_not];exact⟨c2,c3⟩
 rw[b0,Uk]at e;refine rqn ⟨z.length-(i+1),oM,rfl,i+1,iS,iX,oM,e,rfl⟩;simp only[evs,seval,g3,g0,aG,(oM:¬(i:Int)<z.length)];rw[qN oM]at e;have:okT z=true:=by unfold okT;rw[<-e,decide_eq_true oM];rfl
 rw[this];rfl
theorem jU{h:Heap}{z:Str}:ao go 238 [.str z] h fun u h'=>u=.bool (okT z)/\h=h':=by
 by_cases c1:(64:Int)<(z.length:Nat);refine ag ?_;simp only[evs,seval,aG,eq_true c1];have:okT z=false:=by unfold okT;rw[decide_eq_false oM];rfl
 rw[this];refine ag ?_;simp only[evs,seval,aG,eq_false c1];refine aC (fun k env hh=>hh=h/\∃(i:Nat),env.get 3=some (ZZ i)/\env.get 0=some (.str z)/\i<=z.length/\eQ ir (z.drop i)=eQ ir z/\k=z.length-i) z.length oM ?_ ?_;exact⟨rfl,0,iS,iS,oM,rfl,rfl⟩;rintro k env hh ⟨rfl,i,g3,g0,hi,e,rfl⟩;by_cases K:i<z.length;have Z:(i:Int)<z.length:=oM;rw[oW K]at e;by_cases c2:((z[i]).toNat:Int)<32;simp only[evs,seval,g3,g0,aG,Z,bY K,eq_true c2];have:okT z=false:=by unfold okT;rw[<-e];simp[ir,c2]
 rw[this];by_cases c3:(126:Int)<((z[i]).toNat:Int);simp only[evs,seval,g3,g0,aG,Z,bY K,eq_false c2,eq_true c3];have:okT z=false:=by unfold okT;rw[<-e];simp[ir,c3]
 rw[this];simp(disch:=omega) only[evs,seval,ah,g3,g0,aG,Z,bY K,eq_false c2,eq_false c3];have b0:ir ((z[i]).toNat:Int)=false:=by simp only[ir,Bool.or_eq_false_iff,decide_eq_false_iff_not];exact⟨c2,c3⟩
 rw[b0,Uk]at e;refine rqn ⟨z.length-(i+1),oM,rfl,i+1,iS,iX,oM,e,rfl⟩;simp only[evs,seval,g3,g0,aG,(oM:¬(i:Int)<z.length)];rw[qN oM]at e;have:okT z=true:=by unfold okT;rw[<-e,decide_eq_true oM];rfl
 rw[this]
theorem EL{h:Heap}{z:Str}:ao go 184 [.str z] h fun u h'=>u=ZZ (jZ (okN z))/\h=h':=by
 by_cases c0:(z.length:Int)<1;refine ag ?_;simp only[evs,seval,aG,eq_true c0];have:okN z=false:=by unfold okN;rw[decide_eq_false oM];rfl
 rw[this];rfl;by_cases c1:(16:Int)<(z.length:Nat);refine ag ?_;simp only[evs,seval,aG,eq_false c0,eq_true c1];have:okN z=false:=by unfold okN;rw[decide_eq_false (oM:¬z.length<=16)];simp
 rw[this];rfl;refine ag ?_;simp only[evs,seval,aG,eq_false c0,eq_false c1];refine aC (fun k env hh=>hh=h/\∃(i:Nat),env.get 3=some (ZZ i)/\env.get 0=some (.str z)/\i<=z.length/\eQ dt (z.drop i)=eQ dt z/\k=z.length-i) z.length oM ?_ ?_;exact⟨rfl,0,iS,iS,oM,rfl,rfl⟩;rintro k env hh ⟨rfl,i,g3,g0,hi,e,rfl⟩;by_cases K:i<z.length;have Z:(i:Int)<z.length:=oM;rw[oW K]at e;have bad:dt ((z[i]).toNat:Int)=true->okN z=false:=fun q=>by unfold okN;rw[<-e,q];simp
 have good:dt ((z[i]).toNat:Int)=false->eQ dt (z.drop (i+1))=eQ dt z:=fun q=>by rw[<-e,q];rfl
 by_cases c1:(97:Int)<=((z[i]).toNat:Int);by_cases c2:((z[i]).toNat:Int)<=122;simp(disch:=omega) only[evs,seval,ah,g3,g0,aG,Z,bY K,eq_true c1,eq_true c2];refine rqn ⟨z.length-(i+1),oM,rfl,i+1,iS,iX,oM,good (by simp[dt];omega),rfl⟩;by_cases c3:(48:Int)<=((z[i]).toNat:Int);have c4:¬((z[i]).toNat:Int)<=57:=oM;simp only[evs,seval,g3,g0,aG,Z,bY K,eq_true c1,eq_false c2,eq_true c3,eq_false c4];rw[bad (by simp[dt];omega)];rfl;omega;by_cases c3:(48:Int)<=((z[i]).toNat:Int);by_cases c4:((z[i]).toNat:Int)<=57;simp(disch:=omega) only[evs,seval,ah,g3,g0,aG,Z,bY K,eq_false c1,eq_true c3,eq_true c4];refine rqn ⟨z.length-(i+1),oM,rfl,i+1,iS,iX,oM,good (by simp[dt];omega),rfl⟩;simp only[evs,seval,g3,g0,aG,Z,bY K,eq_false c1,eq_true c3,eq_false c4];rw[bad (by simp[dt];omega)];rfl;simp only[evs,seval,g3,g0,aG,Z,bY K,eq_false c1,eq_false c3];rw[bad (by simp[dt];omega)];rfl;simp only[evs,seval,g3,g0,aG,(oM:¬(i:Int)<z.length)];rw[qN oM]at e;have:okN z=true:=by unfold okN;rw[<-e,decide_eq_true oM,decide_eq_true (oM:z.length<=16)];rfl
 rw[this];rfl
theorem eZ{h:Heap}{z:Str}:ao go 239 [.str z] h fun u h'=>u=.bool (okN z)∧h=h':=by
 refine ag ?_;simp only[evs];refine aC (fun k env hh=>hh=h∧∃(i:Nat),env.get 3=some (.int .i64 i)∧env.get 0=some (.str z)∧i≤z.length∧i≤17∧eQ dt (z.drop i)=eQ dt z∧k=17-i) 17 oM ?_ ?_;exact⟨rfl,0,iS,iS,oM,oM,rfl,rfl⟩;rintro k env hh ⟨rfl,i,g3,g0,hi,h17,e,rfl⟩;by_cases hlt:i<z.length;have hlt':(i:Int)<z.length:=oM;by_cases c17:(i:Int)<17;rw[oW hlt]at e;have bad:dt ((z[i]).toNat:Int)=true→okN z=false:=fun q=>by unfold okN;rw[←e,q];simp
 have good:dt ((z[i]).toNat:Int)=false→eQ dt (z.drop (i+1))=eQ dt z:=fun q=>by rw[←e,q];rfl
 by_cases c1:((z[i]).toNat:Int)<97;by_cases c3:((z[i]).toNat:Int)<48;simp only[evs,seval,g3,g0,aG,hlt',bY hlt,eq_true c1,eq_true c3,eq_true c17];rw[bad (by simp[dt];omega)];by_cases c4:(57:Int)<((z[i]).toNat:Int);simp only[evs,seval,g3,g0,aG,hlt',bY hlt,eq_true c1,eq_false c3,eq_true c4,eq_true c17];rw[bad (by simp[dt];omega)];simp(disch:=omega) only[evs,seval,ah,g3,g0,aG,hlt',bY hlt,eq_true c1,eq_false c3,eq_false c4,eq_true c17];refine rqn ⟨17-(i+1),oM,rfl,i+1,iS,iX,oM,oM,good (by simp[dt];omega),rfl⟩;by_cases c2:(122:Int)<((z[i]).toNat:Int);have c3:¬((z[i]).toNat:Int)<48:=oM;have c4:(57:Int)<((z[i]).toNat:Int):=oM;simp only[evs,seval,g3,g0,aG,hlt',bY hlt,eq_false c1,eq_true c2,eq_false c3,eq_true c4,eq_true c17];rw[bad (by simp[dt];omega)];simp(disch:=omega) only[evs,seval,ah,g3,g0,aG,hlt',bY hlt,eq_false c1,eq_false c2,eq_true c17];refine rqn ⟨17-(i+1),oM,rfl,i+1,iS,iX,oM,oM,good (by simp[dt];omega),rfl⟩;simp only[evs,seval,g3,g0,aG,hlt',eq_false c17,(oM:(1:Int)≤(z.length:Nat)),(oM:¬((z.length:Nat):Int)≤16)];have:okN z=false:=by unfold okN;rw[decide_eq_false (oM:¬z.length≤16)];simp
 rw[this];rw[qN oM]at e;by_cases c0:(1:Int)≤(z.length:Nat);have e2:okN z=decide (((z.length:Nat):Int)≤16):=by
  unfold okN;rw[←e,decide_eq_true oM];have:decide (z.length≤16)=decide (((z.length:Nat):Int)≤16):=by rw[decide_eq_decide];omega
  rw[this];simp
 by_cases c1:((z.length:Nat):Int)≤16;simp only[evs,seval,g3,g0,aG,(oM:¬(i:Int)<z.length),eq_true c0,eq_true c1];rw[e2,decide_eq_true c1];simp only[evs,seval,g3,g0,aG,(oM:¬(i:Int)<z.length),eq_true c0,eq_false c1];rw[e2,decide_eq_false c1];simp only[evs,seval,g3,g0,aG,(oM:¬(i:Int)<z.length),eq_false c0];have:okN z=false:=by unfold okN;rw[decide_eq_false oM];rfl
 rw[this]
theorem Iob:∀d,d<10->aP (.slstr true true) [.str [48,49,50,51,52,53,54,55,56,57],ZX (d:Nat),ZX ((d:Nat)+1)]=some (.str [UInt8.ofNat (48+d)]):=by
 intro d Z;match d,Z with
 |0,_=>rfl
 |1,_=>rfl
 |2,_=>rfl
 |3,_=>rfl
 |4,_=>rfl
 |5,_=>rfl
 |6,_=>rfl
 |7,_=>rfl
 |8,_=>rfl
 |9,_=>rfl
theorem GG(a b:Str)(h:a.length+b.length<9223372036854775808):aP (.sb .add) [.str a,.str b]=some (.str (a++b)):=by simp only[aP,pB,(SI ..).mpr h,cond_true]
theorem BJ:∀(k n:Nat),n<10^(k+1)→(dec n).length≤k+1
 |k,n,h=>by
  by_cases c:n<10;rw[xn c];simp;match k,h with
  |0,h=>omega
  |k+1,h=>rw[AE c,List.length_append];have:=BJ k (n/10) (by rw[Nat.pow_succ]at h;omega);simp only[List.length_cons,List.length_nil];omega
theorem vJ{n:Nat}(h:n<18446744073709551616):(dec n).length<=20:=BJ 19 n oM
theorem nY{h:Heap}:∀(k n:Nat),n<k→n<18446744073709551616→ao go 240 [.int .u64 (n:Int)] h fun u h'=>u=.str (dec n)∧h=h'
 |0,_,hk,_=>by omega
 |k+1,n,hk,hn=>by
  by_cases c:n<10;have c':(n:Int)<10:=oM;have f1:bX .u64 ((n:Int)+1)=(n:Int)+1:=dG _ oM oM;refine ag ?_;simp only[evs,seval,eq_true c',f1,Iob n c];rw[xn c];have c':¬(n:Int)<10:=oM;have r1:aP (.ib .rem) [.int .u64 (n:Int),.int .u64 10]=some (.int .u64 ((n%10:Nat):Int)):=by rw[nm _ _ _ dI];rfl
  have r2:aP (.ib .quo) [.int .u64 (n:Int),.int .u64 10]=some (.int .u64 ((n/10:Nat):Int)):=by rw[pZ _ _ _ dI,(iR:((n:Int)).tdiv 10=((n/10:Nat):Int)),dG _ oM oM]
  refine ag ?_;simp only[evs,seval,eq_false c',r2];apply aa (nY k (n/10) oM oM);rintro _ _ ⟨rfl,rfl⟩;simp only[evs,seval,r1];apply aa (nY k (n%10) oM oM);rintro _ _ ⟨rfl,rfl⟩;have q1:=vJ (n:=n/10) oM;have q2:=vJ (n:=n%10) oM;simp only[evs,seval,GG _ _ (oM:(dec (n/10)).length+(dec (n%10)).length<9223372036854775808)];rw[AE c,xn (Nat.mod_lt n dI)]
theorem qr{h:Heap}{x:Itm}(w:WF h)(a:ItmH h x):ao go 186 [.agg x.cells] h fun u h'=>u=ZZ (if iH x then 0 else 6)/\Fr [] h h':=by
 let⟨K,e_h1,F_h1,o_h1⟩:=aq w x.cells;have l0:ab K h.next 0=some (ZX (x.key:Int)):=o_h1.ld1 0;have l2:ab K h.next 2=some (.str x.text):=o_h1.ld1 2;have l3:ab K h.next 3=some x.vm:=o_h1.ld1 3;have am:=a.m.fr F_h1;by_cases c0:(x.key:Int)=0;refine ag ?_;simp only[evs,seval,<-e_h1,l0,eq_true c0];exact⟨by simp[iH,(oM:x.key=0)],F_h1⟩;refine ag ?_;simp only[evs,seval,<-e_h1,l0,eq_false c0,l2];apply aa jU;rintro _ _ ⟨rfl,rfl⟩;cases c2:okT x.text;simp only[evs,seval];exact⟨by simp[iH,c2],F_h1⟩;by_cases c3:(8:Int)<(x.marks.length:Nat);simp only[evs,seval,l3,am.len,eq_true c3];exact⟨by simp[iH,okM,(oM:¬x.marks.length<=8)],F_h1⟩;simp only[evs,seval,l3,am.len,eq_false c3];refine aC (fun k env hh=>hh=K/\∃(i:Nat),env.get 3=some (ZZ i)/\env.get 1=some (.ptr h.next 0)/\i<=x.marks.length/\(x.marks.drop i).all okN=x.marks.all okN/\k=x.marks.length-i) x.marks.length oM ?_ ?_;exact⟨rfl,0,iS,iS,oM,rfl,rfl⟩;rintro k env hh ⟨rfl,i,g3,g1,hi,e,rfl⟩;by_cases ac:i<x.marks.length;have Z:(i:Int)<x.marks.length:=oM;let⟨b,o,s,e1,e2,_,e5⟩:=am.ix fG .i64 i oM Z;have e4:ab hh b o=some (.str s):=e2 0 oM;rw[RX]at e5;rw[aK e5,Uj]at e;simp only[evs,seval,g3,g1,l3,am.len,Z,e1,e4];apply aa eZ;rintro _ _ ⟨rfl,rfl⟩;cases c:okN s;simp only[evs,seval];rw[c]at e;have e':x.marks.all okN=false:=by rw[<-e];rfl
 exact⟨by simp[iH,okM,e'],F_h1⟩;simp(disch:=omega) only[evs,seval,ah,g3];rw[c]at e;refine rqn ⟨x.marks.length-(i+1),oM,rfl,i+1,iS,iX,oM,by simpa using e,rfl⟩;simp only[evs,seval,g3,g1,l3,am.len,(oM:¬(i:Int)<x.marks.length)];rw[So oM]at e;have e':x.marks.all okN=true:=by rw[<-e];rfl
 exact⟨by simp[iH,okM,e',c2,(oM:x.key≠0),(oM:x.marks.length<=8)],F_h1⟩
theorem FA{h:Heap}{v:V}{key:Nat}(a:Recs Itm.cells 4 h v X)(hn:X.length<=4096):
 ao go 113 [v,ZX (key:Int)] h fun u h'=>h=h'/\∃r:Int,u=ZZ r/\(0<=r↔∃x∈X,x.key=key):=by
 refine ag ?_;simp only[evs,seval];refine aC (fun k env hh=>hh=h/\∃(i:Nat),env.get 5=some (ZZ i)/\env.get 0=some v/\env.get 1=some (ZX (key:Int))/\i<=X.length/\(∀x∈X.take i,x.key≠key)/\k=X.length-i) X.length oM ?_ ?_;exact⟨rfl,0,iS,iS,iS,oM,iS,rfl⟩;rintro k env hh ⟨rfl,i,K,g0,g1,hi,e,rfl⟩;by_cases ac:i<X.length;have Z:(i:Int)<X.length:=oM;let⟨b,o,x,e1,e2,_,e5⟩:=Vi (f:=Itm.cells) (k:=4) (fun _=>rfl) a .i64 i oM Z;have e4:ab hh b o=some (ZX (x.key:Int)):=e2 0 oM;rw[RX]at e5;by_cases c:x.key=key;simp only[evs,seval,K,g0,g1,a.len,Z,e1,e4,c];exact⟨(i:Int),rfl,fun _=>⟨x,RZ e5,c⟩,fun _=>by omega⟩;have c':¬(x.key:Int)=(key:Int):=oM;simp(disch:=omega) only[evs,seval,ah,K,g0,g1,a.len,Z,e1,e4,eq_false c'];refine rqn ⟨X.length-(i+1),oM,rfl,i+1,iS,iX,iX,oM,?_,rfl⟩;rw[Sr,e5];intro y m;obtain m|m:=pi.1 m;exact e y m;grind;simp only[evs,seval,K,g0,a.len,(oM:¬(i:Int)<X.length)];rw[Sf oM]at e;exact⟨-1,rfl,fun q=>by omega,fun⟨x,m,q⟩=>absurd q (e x m)⟩
theorem EH(a b:Bool):jZ a*jZ b=jZ (a&&b):=by cases a<;>cases b<;>rfl
theorem iD{h:Heap}{x:Itm}{b0:Bool}{bb:Nat}{R:V->Heap->Prop}(w:WF h)(o:Own h bb x.cells)(a:ItmH h x)(g2:env.get 2=some (.ptr bb 0))(K:env.get 5=some (ZZ (jZ b0)))
 (k:∀h',h=h'->R (ZZ (if(b0&&x.marks.all okN)then 0 else 6)) h'):
 W go ckR env h (iO [.t 4] R):=by
 have l3:ab h bb 3=some x.vm:=o.ld1 3;have am:=a.m;have an:=a.n;simp only[evs,ckR];refine aC (fun k env hh=>hh=h/\∃(i:Nat)(c:Bool),env.get 6=some (ZZ i)/\env.get 2=some (.ptr bb 0)/\env.get 5=some (ZZ (jZ c))/\i<=x.marks.length/\(c&&(x.marks.drop i).all okN)=(b0&&x.marks.all okN)/\k=x.marks.length-i) x.marks.length oM ?_ ?_;exact⟨rfl,0,b0,iS,iX,iX,oM,rfl,rfl⟩;rintro k' env hh ⟨rfl,i,c,g6,g2,K,hi,e,rfl⟩;by_cases ac:i<x.marks.length;have Z:(i:Int)<x.marks.length:=oM;let⟨b,o,s,e1,e2,_,e5⟩:=am.ix fG .i64 i oM Z;have e4:ab hh b o=some (.str s):=e2 0 oM;rw[RX]at e5;rw[aK e5,Uj]at e;simp only[evs,seval,g6,g2,K,l3,am.len,Z,e1,e4];apply aa EL;rintro _ _ ⟨rfl,rfl⟩;have m1:bX .i64 (jZ c*jZ (okN s))=jZ (c&&okN s):=by rw[EH,ah _ (by unfold jZ;split<;>omega) (by unfold jZ;split<;>omega)]
 simp(disch:=omega) only[evs,seval,ah,g6,m1];refine rqn ⟨x.marks.length-(i+1),oM,rfl,i+1,c&&okN s,iS,iX,iS,oM,by rw[<-e,Bool.and_assoc],rfl⟩;rw[So oM]at e;have e':c=(b0&&x.marks.all okN):=by rw[<-e];simp
 cases c;simp only[evs,seval,g6,g2,K,l3,am.len,(oM:¬(i:Int)<x.marks.length),jZ];rw[<-e']at k;exact k _ rfl;simp only[evs,seval,g6,g2,K,l3,am.len,(oM:¬(i:Int)<x.marks.length),jZ];rw[<-e']at k;exact k _ rfl
theorem Dn{h:Heap}{x:Itm}{types:Nat}(w:WF h)(a:ItmH h x)(ht:types<256):ao go 114 [.agg x.cells,.int .i64 (types:Int)] h fun u h'=>u=.int .i64 (if okI x types then 0 else 6)∧Fr [] h h':=by
 let⟨h1,e_h1,F_h1,o_h1⟩:=aq w x.cells;have l0:ab h1 h.next 0=some (.int .u64 (x.key:Int)):=o_h1.ld1 0;have l1:ab h1 h.next 1=some (.int .u8 (x.type:Int)):=o_h1.ld1 1;have l2:ab h1 h.next 2=some (.str x.text):=o_h1.ld1 2;have l3:ab h1 h.next 3=some x.vm:=o_h1.ld1 3;have a1:=a.fr F_h1;have at':=a.t;have bad:okI x types=false→∀h',h1=h'→(V.int .i64 (if(false&&x.marks.all okN)then 0 else 6)=V.int .i64 (if okI x types then 0 else 6)∧Fr [] h h'):=by grind
 have cv:bX .i64 (x.type:Int)=(x.type:Int):=ah _ oM oM;by_cases c0:(x.key:Int)=0;refine ag ?_;simp only[evs,seval,←e_h1,l2];refine aa kT ?_;rintro _ _ ⟨rfl,rfl⟩;simp only[evs,seval,l0,eq_true c0];exact iD (b0:=false) F_h1.wf o_h1 a1 iS (by simp[jZ]) (bad (by simp[okI,(oM:x.key=0)]));by_cases c1:(types:Int)≤(x.type:Int);refine ag ?_;simp only[evs,seval,←e_h1,l2];refine aa kT ?_;rintro _ _ ⟨rfl,rfl⟩;simp only[evs,seval,l0,l1,eq_false c0,cv,eq_true c1];exact iD (b0:=false) F_h1.wf o_h1 a1 iS (by simp[jZ]) (bad (by simp[okI,(oM:¬x.type<types)]));by_cases c2:(8:Int)<(x.marks.length:Nat);refine ag ?_;simp only[evs,seval,←e_h1,l2];refine aa kT ?_;rintro _ _ ⟨rfl,rfl⟩;simp only[evs,seval,l0,l1,l3,a1.m.len,eq_false c0,cv,eq_false c1,eq_true c2];exact iD (b0:=false) F_h1.wf o_h1 a1 iS (by simp[jZ]) (bad (by simp[okI,okM,(oM:¬x.marks.length≤8)]));refine ag ?_;simp only[evs,seval,←e_h1,l2];refine aa kT ?_;rintro _ _ ⟨rfl,rfl⟩;simp only[evs,seval,l0,l1,l3,a1.m.len,eq_false c0,cv,eq_false c1,eq_false c2];apply iD (b0:=okT x.text) F_h1.wf o_h1 a1 iS iS;rintro _ rfl;have:(okT x.text&&x.marks.all okN)=okI x types:=by simp[okI,okM,(oM:x.key≠0),(oM:x.type<types),(oM:x.marks.length≤8)]
 rw[this];exact⟨rfl,F_h1⟩
end Go.Ev.Lay
