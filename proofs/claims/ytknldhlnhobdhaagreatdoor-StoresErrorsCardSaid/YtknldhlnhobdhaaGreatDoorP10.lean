/- An evaluator of the program, and contracts over it: StaO to StbF. -/
import Derived.Test.YtknldhlnhobdhaaGreatDoorP09
set_option linter.unusedSimpArgs false
set_option linter.unusedVariables false
set_option linter.constructorNameAsVariable false
set_option linter.unnecessarySimpa false
namespace Go.Ev.Lay
set_option maxRecDepth 4000
def Fu(h0:Heap)(g:Nat)(caps:List V)(p:Nat→Bool):Prop:=g<1099511627776∧∀(h:Heap)(k:Nat),Fr [] h0 h→k<18446744073709551616→aj go g (.int .u64 (k:Int)::caps) h fun u h'=>u=.bool (p k)∧Fr [] h h'
def mA(Ks:List Knd)(cap:Int)(p:Nat→Bool):List Nat→List Itm→Int
 |_,[]=>0
 |seen,x::r=>if okI x Ks.length=false then 6 else if x.key∈seen∨p x.key=true then 8 else if bW Ks cap x≠0 then bW Ks cap x else mA Ks cap p (seen++[x.key]) r
theorem wC{h:Heap}{b g:Nat}{Ks:List Knd}{cap:Int}{v:V}{X:List Itm}{caps:List V}{p:Nat→Bool}(w:WF h)(r:RulesAt h b Ks cap)(hK:Ks.length≤8)(sl:ARecs Itm.cells 4 h v X)(hX:∀x∈X,ItmH h x)(hn:X.length≤4096)(Th:Fu h g caps p):
 aj go 110 [.ptr b 0,v,.func (.func g) [] caps] h fun u h'=>u=.int .i64 (mA Ks cap p [] X)∧Fr [] h h':=by
 obtain⟨h1,e_h1⟩:∃h1,h1=kI h:=⟨_,rfl⟩;have F_h1:Fr [] h h1:=e_h1▸Fr.hnew w _;have s1:Seen h1 h.next []:=⟨[],0,by rw[e_h1];exact qt _ _,rfl,iS⟩;refine ab ?_;simp only[evs,seval,Im,←e_h1,sl.len];refine aA (fun n env hh=>Fr [] h hh∧∃(i:Nat)(seen:List Nat),env.get 16=some (.int .i64 i)∧env.get 15=some (.int .i64 X.length)∧env.get 14=some v∧env.get 0=some (.ptr b 0)∧env.get 2=some (.func (.func g) [] caps)∧env.get 7=some (.map h.next)∧
  i≤X.length∧Seen hh h.next seen∧mA Ks cap p seen (X.drop i)=mA Ks cap p [] X∧n=X.length-i) X.length oM ?_ ?_
 ·exact⟨F_h1,0,[],iS,iS,iS,iS,iS,iS,oM,s1,rfl,rfl⟩
 ·rintro n env hh ⟨F,i,seen,g16,g15,g14,g0,g2,g7,hi,S,e,rfl⟩;by_cases hlt:i<X.length
  ·have hlt':(i:Int)<X.length:=oM
   let⟨bi,oi,x,p1,_,p3,p4⟩:=(sl.fr F).ix (f:=Itm.cells) (k:=4) (fun _=>rfl) .i64 (i:Int) oM hlt';rw[Int.toNat_natCast]at p4;have a:=hX x (List.mem_of_getElem? p4);rw[aG p4]at e;simp only[mA]at e;let⟨h3,e_h3,F_h3,o_h3⟩:=ao F.wf [.int .u64 0,.int .u8 0,.str [],.nils];simp only[evs,seval,g16,g15,g14,hlt',p1,p3,←e_h3];refine ai (c':=x.cells) F_h3.wf o_h3 rfl a.one rfl ?_;rintro h4 o4 F4 n4;have F04:Fr [] hh h4:=F_h3.fresh F4 F.wf (Nat.le_refl _);have F0:=F.then F04;let⟨vK,c2,c3,c4,ob,rk,kh⟩:=r.fr F0;have x4:ak h4 hh.next 0 4=some x.cells:=by rw[o4.ld];rfl
   have l0:ag h4 b 0=some vK:=ob.ld1 0;simp only[evs,seval,eff,g0,x4,l0,(Recs.len rk)];refine aa (xr F04.wf (a.fr F0) oM) ?_;rintro _ h5 ⟨rfl,F5⟩;cases c1:okI x Ks.length
   ·rw[c1,if_pos rfl]at e;simp only[evs,seval,DF,eff,x4,l0];exact⟨by rw[←e],F0.then F5⟩
   rw[c1,if_neg iS]at e;have F05:=F0.then F5;have o5:=F5.get o4;have k0:ag h5 hh.next 0=some (.int .u64 (x.key:Int)):=o5.ld1 0;have S5:=(S.fr F04).fr F5;by_cases c2:x.key∈seen
   ·rw[if_pos (.inl c2)]at e;simp only[evs,seval,DF,eff,g7,x4,l0,k0,Di,qY,uJ S5,c2];exact⟨by rw[←e],F05⟩
   simp only[evs,seval,DF,eff,g2,g7,x4,l0,k0,Di,qY,uJ S5,c2,Th.1];refine aa (Th.2 h5 x.key F05 a.k) ?_;rintro _ h6 ⟨rfl,F6⟩;have F06:=F05.then F6;have o6:=F6.get o5;have k0':ag h6 hh.next 0=some (.int .u64 (x.key:Int)):=o6.ld1 0;cases c3:p x.key
   ·rw[if_neg iX]at e;simp only[evs,seval,g7,k0',Il,xM];refine Ag F6.wf (S5.fr F6) c2 ?_;intro h7 S7 B7 n7;have F07:Fr [] h h7:=FrB.fr w F06 B7 iS (Nat.le_refl _);have o7:=B7.own _ _ iS o6;have x7:ak h7 hh.next 0 4=some x.cells:=by rw[o7.ld];rfl
    have ht:x.type<Ks.length:=by
     simp only[okI,Bool.and_eq_true,decide_eq_true_eq]at c1;exact c1.2.1
    simp only[evs,seval,g0,x7];refine aa (xX F07.wf (r.fr F07) (a.fr F07) ht) ?_;rintro _ h8 ⟨cs,rfl,F8,on,cl⟩;let⟨h9,e_h9,F_h9,o_h9⟩:=ao F8.wf [.int .u8 0,.str [],.str [],.nils,.str [],.nils];simp only[evs,←e_h9];refine ai (c':=cs) F_h9.wf o_h9 cl on (by
     rw[cD _ _ _ (by show 0+cs.length≤6;omega)];simp[V.cells];omega) ?_
    rintro h10 o10 F10 n10;have F8a:Fr [] h7 h10:=(F8.then F_h9).fresh F10 F07.wf (by have:=F8.next;omega);have F010:=F07.then F8a;by_cases c4:bW Ks cap x=0
    ·rw[if_neg iX]at e;simp(disch:=omega) only[evs,seval,ah,g16,c4];refine rqn ⟨X.length-(i+1),oM,F010,i+1,seen++[x.key],iS,iX,iX,iX,iX,iX,oM,S7.fr F8a,e,rfl⟩
     done
    ·rw[if_pos c4]at e;simp only[evs,seval,c4];exact⟨by rw[←e],F010⟩
   ·rw[if_pos (.inr c3)]at e;simp only[evs,seval];exact⟨by rw[←e],F06⟩
  ·simp only[evs,seval,g16,g15,(oM:¬(i:Int)<X.length)];rw[List.drop_of_length_le oM]at e;exact⟨by rw[←e];rfl,F⟩
open Go.Ev.St
set_option maxRecDepth 4000
theorem d8(x:Itm):x.cells.length=4:=rfl
theorem yG{X:List Itm}{i:Nat}{x:Itm}(h:X[i]? =some x):((X.flatMap Itm.cells).drop (i*4)).take 4=x.cells:=by rw[eO d8,aG h];rfl
def Good_s(h:Heap)(B:Nat):Prop:=∃c,Own h B c∧c.length≠6∧∀L:List (Int×Int),0<L.length→c≠L.flatMap sp
theorem Good_s.fr{h h':Heap}{B:Nat}{S:List Nat}(g:Good_s h B)(f:Fr S h h')(hB:B∉S):Good_s h' B:=by let⟨c,o,x⟩:=g;exact⟨c,f.own _ _ hB o,x⟩
theorem Km.good{h:Heap}{b S c:Nat}{m:Nat→Option Nat}(k:Km h b S m c){key x:Nat}(hm:m key=some x):Good_s h S:=by
 obtain⟨_,_,z⟩|⟨v,sl,t,k,_⟩:=k;grind;have n8:=k.n8;have hl:=oL sl;refine⟨_,k.tb.2,oM,?_⟩;intro L p e;cases sl with
 |nil=>simp at n8
 |cons s r=>
  cases L with
  |nil=>simp at p
  |cons q L=>rw[List.flatMap_cons,List.flatMap_cons]at e;simp[sc,sp]at e
abbrev dX:=(Nat→Option Nat)×Nat
def uB(mc:dX)(key i:Nat):dX:=(im mc.1 key i,if(mc.1 key).isSome=true then mc.2 else mc.2+1)
def fW(mc:dX):List Itm→Nat→dX
 |[],_=>mc
 |x::r,i=>fW (uB mc x.key i) r (i+1)
theorem Hu{h:Heap}{b bg B bm S i:Nat}{vK vc vl:V}{X:List Itm}{mc:dX}(w:WF h)(ob:Own h b [vK,vc,.ptr bg 0,.ptr bm 0,vl])(g:Gp h bg B X.length (X.flatMap Itm.cells))(k:Km h bm S mc.1 mc.2)
 (hX:∀x∈X,0<x.key∧x.key<18446744073709551616) (hi:i≤X.length) (hc:mc.2+X.length≤4096) (d1:b≠bm) (d2:b≠S) (d3:bg≠bm) (d4:bg≠S) (d5:B≠bm) (d6:B≠S) (lt:B<h.next) (gS:Good_s h S):
 aj go 116 [.ptr b 0,.int .i64 (i:Int)] h fun u h'=>u=.tup []∧∃S',(S'=S∨h.next≤S')∧Km h' bm S' (fW mc (X.drop i) i).1 (fW mc (X.drop i) i).2∧Fr [bm,S] h h'∧Good_s h' S':=by
 have hn:=g.len.2.1;have blt:=ob.lt w;have glt:bg<h.next:=by let⟨v,c1,G,c2,a,gg,m,k,_⟩:=g;exact k.ob.lt w
 refine ab ?_;simp only[evs,seval];refine aA (fun n env hh=>∃(j S':Nat)(mc':dX),(S'=S∨h.next≤S')∧Km hh bm S' mc'.1 mc'.2∧Fr [bm,S] h hh∧Good_s hh S'∧env.get 0=some (.ptr b 0)∧env.get 1=some (.int .i64 (j:Int))∧j≤X.length∧
  fW mc' (X.drop j) j=fW mc (X.drop i) i∧mc'.2+(X.length-j)≤4096∧n=X.length-j) (X.length-i) oM ?_ ?_
 exact⟨i,S,mc,.inl rfl,k,Fr.refl w,gS,iS,iS,hi,rfl,oM,oM⟩;rintro n env hh ⟨j,S',mc',hS,km,F,gd,g0,g1,hj,e,hc',rfl⟩;have e1:S'≠b:=oM;have ob':=F.own b _ (by simp;exact⟨d1,d2⟩) ob;have gp':=g.fr F (by simp;exact⟨d3,d4⟩) (by simp;exact⟨d5,d6⟩);have l2:ag hh b 2=some (.ptr bg 0):=ob'.ld1 2;simp only[evs,g0,l2];refine aa (wL gp') ?_;rintro _ _ ⟨rfl,rfl⟩;by_cases hlt:j<X.length;obtain⟨x,hx⟩:∃x,X[j]? =some x:=⟨_,List.getElem?_eq_getElem hlt⟩;have xk:=hX x (List.mem_of_getElem? hx);simp only[evs,seval,g0,g1,l2,(oM:(j:Int)<(X.length:Nat))];let⟨v,c1,G,c2,a,gg,m,gt,el,en⟩:=gp';refine aa (D3 F.wf gt (i:=j) oM) ?_;rintro _ h4 ⟨F4,rfl⟩;rw[←el,yG hx];let⟨h5,e_h5,F_h5,o_h5⟩:=ao F4.wf [.int .u64 0,.int .u8 0,.str [],.nils];simp only[evs,seval,←e_h5];have on:av x.cells=true:=by rw[←yG hx];exact eN 4 (dQ _ g.len.2.2)
 refine ai (c':=x.cells) F_h5.wf o_h5 rfl on rfl ?_;rintro h6 o6 F6 n6;have Fa:Fr [] hh h6:=(F4.then F_h5).fresh F6 F.wf (by have:=F4.next;omega);have l3:ag h6 b 3=some (.ptr bm 0):=(Fa.get ob').ld1 3;have x0:ag h6 h4.next 0=some (.int .u64 (x.key:Int)):=o6.ld1 0;rw[aG hx]at e;simp only[fW]at e;simp only[evs,seval,eff,g0,g1,l3,x0];refine aa (Ak Fa.wf (km.fr Fa) (.inl oM) xk.1 xk.2 oM) ?_;rintro _ h7 ⟨rfl,S2,hS2,km7,F7⟩;have F07:Fr [bm,S] h h7:=by refine Fr.trans (Fr.trans (T:=[bm,S]) F Fa w (fun y hy=>.inl hy) iS) F7 w (fun y hy=>.inl hy) (fun y hy=>?_);simp at hy;obtain rfl|rfl:=hy;exact .inl iS;grind
 have hS3:S2=S∨h.next≤S2:=by obtain rfl|q:=hS2;exact hS;exact .inr (Nat.le_trans (Nat.le_trans F.next Fa.next) q)
 simp(disch:=omega) only[evs,seval,DF,ah,g1,l3,x0];refine rqn ⟨X.length-(j+1),oM,j+1,S2,uB mc' x.key j,hS3,km7,F07,km7.good (key:=x.key) (x:=j) (by simp[im]),iX,iS,oM,e,?_,rfl⟩;simp only[uB];split<;>omega
 simp only[evs,seval,g1,(oM:¬(j:Int)<(X.length:Nat))];rw[List.drop_of_length_le oM]at e;simp only[fW]at e;refine⟨S',hS,?_,F,gd⟩;rw[←e];exact km
set_option maxRecDepth 4000
def aL(Ks:List Knd)(x:Itm):Int:=match Ks[x.type]? with
 |some q=>q.base
 |none=>0
def cJ(Ks:List Knd)(x:Itm):Bool:=match Ks[x.type]? with
 |some q=>q.sticky
 |none=>false
theorem cI{call:aC}{env:T V}{late:List Nat}{s:IStep}{l:List IStep}{i:Nat}{loc:List V}{h h':Heap}{v:V}(hi:late.contains i=false)(he:eff s.op=false)(e:aK call loc env h s.op=some (v,h')):
 lay call env late (s::l) i loc h=(lay call env late l (i+1) (v::loc) h).map fun r=>((s,none)::r.1,r.2):=by
 simp only[lay,hi,cond_false,sV,he,e];cases lay call env late l (i+1) (v::loc) h<;>rfl
theorem wx{call:aC}{env:T V}{late:List Nat}{s:IStep}{l:List IStep}{i:Nat}{loc:List V}{h:Heap}(hi:late.contains i=false)(he:eff s.op=true):
 lay call env late (s::l) i loc h=(lay call env late l (i+1) (.tup []::loc) h).map fun r=>((s,none)::r.1,r.2):=by
 simp only[lay,hi,cond_false,sV,he,cond_true];cases lay call env late l (i+1) (V.tup []::loc) h<;>rfl
theorem Aj{call:aC}{env:T V}{late:List Nat}{s:IStep}{l:List IStep}{i:Nat}{loc:List V}{h:Heap}{c:List V}{k:Option (Nat×Nat)}(hi:late.contains i=true)(e:io loc env s.op=some (c,k)):
 lay call env late (s::l) i loc h=(lay call env late l (i+1) (dF h.next k::loc) (halloc h c)).map fun r=>((s,some (dF h.next k,c))::r.1,r.2):=by
 simp only[lay,hi,cond_true,e];cases lay call env late l (i+1) (dF h.next k::loc) (halloc h c)<;>rfl
theorem LN{env:T V}{h:Heap}{b8:Nat}{v4 v5:V}{base:Int}{st:Bool}(g4:env.get 4=some v4)(g5:env.get 5=some v5)(g8:env.get 8=some (.ptr b8 0))(l6:ag h b8 6=some (.int .i64 base))(l7:ag (halloc h [.int .i64 base]) b8 7=some (.bool st)):
 lay go env [3,8] [⟨none,.p .mv [.v 4],none⟩,⟨none,.p (.faddr 6) [.v 8],none⟩,⟨none,.ld 1 false (.l 0),none⟩,⟨none,.bs [(.int .i64 0)] [(0,1)] 1 [.l 0],none⟩,⟨none,.ap 1 8 (.l 3) (.l 0),none⟩,⟨none,.p .mv [.v 5],none⟩,⟨none,.p (.faddr 7) [.v 8],none⟩,⟨none,.ld 1 false (.l 0),none⟩,⟨none,.bs [(.bool false)] [(0,1)] 1 [.l 0],none⟩,⟨none,.ap 1 1 (.l 3) (.l 0),none⟩,⟨none,.p .mv [.l 5],none⟩,⟨none,.p .mv [.l 1],none⟩] 0 [] h=
  some ([(⟨none,.p .mv [.v 4],none⟩,none),(⟨none,.p (.faddr 6) [.v 8],none⟩,none),(⟨none,.ld 1 false (.l 0),none⟩,none),(⟨none,.bs [(.int .i64 0)] [(0,1)] 1 [.l 0],none⟩,some (.slice h.next 0 1 1,[.int .i64 base])),(⟨none,.ap 1 8 (.l 3) (.l 0),none⟩,none),(⟨none,.p .mv [.v 5],none⟩,none),(⟨none,.p (.faddr 7) [.v 8],none⟩,none),(⟨none,.ld 1 false (.l 0),none⟩,none),(⟨none,.bs [(.bool false)] [(0,1)] 1 [.l 0],none⟩,some (.slice (h.next+1) 0 1 1,[.bool st])),(⟨none,.ap 1 1 (.l 3) (.l 0),none⟩,none),(⟨none,.p .mv [.l 5],none⟩,none),(⟨none,.p .mv [.l 1],none⟩,none)],
   halloc (halloc h [.int .i64 base]) [.bool st]):=by
 have ev_mv:∀(loc:List V)(h:Heap)(x:Opd)(v:V),evO loc env x=some v→aK go loc env h (.p .mv [x])=some (v,h):=fun loc h x v e=>by simp only[aK,eg,bY,e,bK,aP]
 have ev_fa:∀(loc:List V)(h:Heap)(k:Nat),aK go loc env h (.p (.faddr k) [.v 8])=some (.ptr b8 k,h):=fun loc h k=>by simp only[aK,eg,bY,ga,g8,bK,iA,Nat.zero_add]
 have ev_ld:∀(loc:List V)(h:Heap)(k:Nat)(v:V),ag h b8 k=some v→aK go (.ptr b8 k::loc) env h (.ld 1 false (.l 0))=some (v,h):=fun loc h k v e=>by simp only[aK,kS,bj,dV,e]
 rw[cI rfl rfl (ev_mv _ _ _ _ (by rw[ga];exact g4)),cI rfl rfl (ev_fa _ _ _),cI rfl rfl (ev_ld _ _ _ _ l6)];rw[Aj (c:=[.int .i64 base]) (k:=some (1,1)) rfl rfl,wx rfl rfl,cI rfl rfl (ev_mv _ _ _ _ (by rw[ga];exact g5)),cI rfl rfl (ev_fa _ _ _),cI rfl rfl (ev_ld _ _ _ _ l7)];rw[Aj (c:=[.bool st]) (k:=some (1,1)) rfl rfl,wx rfl rfl,cI (v:=.tup []) rfl rfl (ev_mv _ _ _ _ rfl),cI (v:=.tup []) rfl rfl (ev_mv _ _ _ _ rfl)];rfl
theorem Kt(loc:List V)(env:T V)(n:Nat)(b:Int):bJ (.int .i64 b::loc) env (.bs [.int .i64 0] [(0,1)] 1 [.l 0]) (.slice n 0 1 1) [.int .i64 b]=true:=by have e:io (.int .i64 b::loc) env (.bs [.int .i64 0] [(0,1)] 1 [.l 0])=some ([.int .i64 b],some (1,1)):=rfl;simp only[bJ,e,lid,dF,dE,kV,Bool.and_self]
theorem Kr(loc:List V)(env:T V)(n:Nat)(b:Bool):bJ (.bool b::loc) env (.bs [.bool false] [(0,1)] 1 [.l 0]) (.slice n 0 1 1) [.bool b]=true:=by have e:io (.bool b::loc) env (.bs [.bool false] [(0,1)] 1 [.l 0])=some ([.bool b],some (1,1)):=rfl;simp only[bJ,e,lid,dF,dE,kV,Bool.and_self]
theorem xw{h:Heap}{b:Nat}{Ks:List Knd}{cap:Int}{v:V}{X:List Itm}(w:WF h)(r:RulesAt h b Ks cap)(sl:ARecs Itm.cells 4 h v X)(hX:∀x∈X,ItmH h x∧x.type<Ks.length)(hn:X.length≤4096):
 aj go 119 [.ptr b 0,v] h fun u h'=>∃v4 v5,u=.tup [v4,v5]∧Gs h' h.next 1 v4 (X.map fun x=>.int .i64 (aL Ks x))∧Gs h' h.next 1 v5 (X.map fun x=>.bool (cJ Ks x))∧Fr [] h h':=by
 refine ab ?_;simp only[evs,seval,sl.len];refine aA (fun n env hh=>Fr [] h hh∧∃(i:Nat)(v4 v5:V),env.get 11=some (.int .i64 i)∧env.get 10=some (.int .i64 X.length)∧env.get 9=some v∧env.get 0=some (.ptr b 0)∧env.get 4=some v4∧env.get 5=some v5∧
  i≤X.length∧Gs hh h.next 1 v4 ((X.take i).map fun x=>.int .i64 (aL Ks x))∧Gs hh h.next 1 v5 ((X.take i).map fun x=>.bool (cJ Ks x))∧(∀y∈vb v4,y∉vb v5)∧n=X.length-i) X.length oM ?_ ?_
 exact⟨Fr.refl w,0,.nils,.nils,iS,iS,iS,iS,iS,iS,oM,.inl ⟨rfl,rfl⟩,.inl ⟨rfl,rfl⟩,by simp[vb],rfl⟩;rintro n env hh ⟨F,i,v4,v5,g11,g10,g9,g0,g4,g5,hi,G4,G5,dj,rfl⟩;by_cases hlt:i<X.length;have hlt':(i:Int)<X.length:=oM;let⟨bi,oi,x,p1,_,p3,p4⟩:=(sl.fr F).ix (f:=Itm.cells) (k:=4) (fun _=>rfl) .i64 (i:Int) oM hlt';rw[Int.toNat_natCast]at p4;let⟨a,ht⟩:=hX x (List.mem_of_getElem? p4);let⟨h3,e_h3,F_h3,o_h3⟩:=ao F.wf [.int .u64 0,.int .u8 0,.str [],.nils];simp only[evs,seval,g11,g10,g9,hlt',p1,p3,←e_h3];refine ai (c':=x.cells) F_h3.wf o_h3 rfl a.one rfl ?_;rintro h4 o4 F4 n4;have F04:Fr [] hh h4:=F_h3.fresh F4 F.wf (Nat.le_refl _);have F0:=F.then F04;let⟨vK,c2,c3,c4,ob,rk,kh⟩:=r.fr F0;have l0:ag h4 b 0=some vK:=ob.ld1 0;have x1:ag h4 hh.next 1=some (.int .u8 (x.type:Int)):=o4.ld1 1;let⟨bk,ok',q,q1,_,q3,q4⟩:=(Recs.ix dy rk .u8 (x.type:Int) oM oM);rw[Int.toNat_natCast]at q4;have hq:=kh q (List.mem_of_getElem? q4);have e1:aL Ks x=q.base:=by simp[aL,q4]
 have e2:cJ Ks x=q.sticky:=by simp[cJ,q4]
 let⟨h5,e_h5,F_h5,o_h5⟩:=ao F04.wf [.int .u8 0,.str [],.str [],.nils,.str [],.nils,.int .i64 0,.bool false,.int .i64 0];simp only[evs,seval,eff,g0,l0,x1,q1,q3,←e_h5];have l0':ag h5 b 0=some vK:=(F_h5.get ob).ld1 0;refine ai (c':=q.cells) F_h5.wf o_h5 rfl hq.ones9 rfl ?_;rintro h6 o6 F6 n6;have F46:Fr [] h4 h6:=F_h5.fresh F6 F04.wf (Nat.le_refl _);have x1':ag h6 hh.next 1=some (.int .u8 (x.type:Int)):=(F46.get o4).ld1 1;have l0'':ag h6 b 0=some vK:=(F46.get ob).ld1 0;have q3f:∀h',Fr [] h4 h'→ak h' bk ok' 9=some q.cells:=by intro h' f;let⟨b9,o9,_,r1,_,r3,r4⟩:=(Recs.ix dy (Recs.fr rk f) .u8 (x.type:Int) oM oM);rw[Int.toNat_natCast,q4]at r4;cases r4;rw[q1]at r1;cases r1;exact r3
 have q5:=q3f h5 F_h5;have q6:=q3f h6 F46;have x5:ag h5 hh.next 1=some (.int .u8 (x.type:Int)):=(F_h5.get o4).ld1 1;simp only[evs,seval,DF,l0,x1,q3,l0',q5,x5];have F7:=Fr.halloc F46.wf [.int .i64 q.base];have o7:=F7.get o6;have F8:=Fr.halloc F7.wf [.bool q.sticky];have w1:=Own.new F46.wf [.int .i64 q.base];have w2:=Own.new F7.wf [.bool q.sticky];have l6:ag h6 h4.next 6=some (.int .i64 q.base):=o6.ld1 6;have l7:ag (halloc h6 [.int .i64 q.base]) h4.next 7=some (.bool q.sticky):=o7.ld1 7;refine(Cp _ _ _ _ _ _).2 ?_;rw[LN (v4:=v4) (v5:=v5) (b8:=h4.next) iX iX iS l6 l7,iD];have o8:=F8.get o7;have l68:ag (halloc (halloc h6 [.int .i64 q.base]) [.bool q.sticky]) h4.next 6=some (.int .i64 q.base):=o8.ld1 6;have l78:ag (halloc (halloc h6 [.int .i64 q.base]) [.bool q.sticky]) h4.next 7=some (.bool q.sticky):=o8.ld1 7;have w1':=F8.get w1;have w2':Own (halloc (halloc h6 [.int .i64 q.base]) [.bool q.sticky]) (h6.next+1) [.bool q.sticky]:=w2;have F68:Fr [] h6 (halloc (halloc h6 [.int .i64 q.base]) [.bool q.sticky]):=F7.then F8;have nx:(halloc (halloc h6 [.int .i64 q.base]) [.bool q.sticky]).next=h6.next+2:=rfl;generalize halloc (halloc h6 [.int .i64 q.base]) [.bool q.sticky]=h8 at l68 l78 w1' w2' F68 nx o8⊢;simp only[evs,seval,eff,g4,l68,dg,Kt];have Fh8:Fr [] hh h8:=(F04.then F46).then F68;have hnh:=Fh8.next;have h4n:=F46.next;have h0n:=F.next;have v4l:∀y∈vb v4,y<hh.next:=by obtain⟨rfl,_⟩|⟨b,n,rfl,_,_,_,o⟩:=G4;simp[vb];have:=o.lt F.wf;simp only[vb,List.mem_singleton];rintro y rfl;exact this
 have v5l:∀y∈vb v5,y<hh.next:=by obtain⟨rfl,_⟩|⟨b,n,rfl,_,_,_,o⟩:=G5;simp[vb];have:=o.lt F.wf;simp only[vb,List.mem_singleton];rintro y rfl;exact this
 have n4h:hh.next≤h4.next:=F04.next;refine Gs.append1 (n:=1) F68.wf (G4.fr Fh8) (Sl.lit w1' rfl) oM oM rfl oM oO ?_;intro v4' h9 G9 e9 F9;have l69:ag h9 h4.next 6=some (.int .i64 q.base):=(F9.own _ _ (fun m=>by have:=v4l _ m;omega) o8).ld1 6;have l79:ag h9 h4.next 7=some (.bool q.sticky):=(F9.own _ _ (fun m=>by have:=v4l _ m;omega) o8).ld1 7;have w29:=F9.own _ _ (fun m=>by have:=v4l _ m;omega) w2';have G59:Gs h9 h.next 1 v5 ((X.take i).map fun x=>.bool (cJ Ks x)):=by obtain⟨rfl,z⟩|⟨b,n,rfl,z1,z2,z3,o⟩:=G5.fr Fh8;exact .inl ⟨rfl,z⟩;exact .inr ⟨b,n,rfl,z1,z2,z3,F9.own _ _ (fun m=>dj _ m (by simp[vb])) o⟩
 simp only[evs,seval,eff,g5,l79,dg,Kr];have h9n:=F9.next;refine Gs.append1 (n:=1) F9.wf G59 (Sl.lit w29 rfl) oM oM rfl oM oO ?_;intro v5' h10 G10 e10 F10;have F010:Fr [] h h10:=by refine Fr.new w (Fr.new w (F.then Fh8) F9 (fun y hy=>?_)) F10 (fun y hy=>?_);obtain⟨rfl,_⟩|⟨b,n,rfl,_,_,hb,o⟩:=G4;simp[vb]at hy;simp[vb]at hy;omega;obtain⟨rfl,_⟩|⟨b,n,rfl,_,_,hb,o⟩:=G5;simp[vb]at hy;simp[vb]at hy;omega
 have G410:Gs h10 h.next 1 v4' ((X.take i).map (fun x=>.int .i64 (aL Ks x))++[.int .i64 q.base]):=by obtain⟨rfl,z⟩|⟨b,n,rfl,z1,z2,z3,o⟩:=G9;exact .inl ⟨rfl,z⟩;refine .inr ⟨b,n,rfl,z1,z2,z3,F10.own _ _ (fun m=>?_) o⟩;have:=v5l _ m;simp[vb]at e9;omega
 simp(disch:=omega) only[evs,seval,DF,eff,ah,g11,l68,l78,l79];refine rqn ⟨X.length-(i+1),oM,F010,i+1,v4',v5',iS,iX,iX,iX,iS,iS,oM,?_,?_,?_,rfl⟩;rw[List.take_add_one,p4];simpa[e1]using G410;rw[List.take_add_one,p4];simpa[e2]using G10;have:h8.next<h9.next:=by obtain⟨rfl,_⟩|⟨b,n,rfl,_,_,_,o⟩:=G9;simp[vb]at e9;have:=o.lt F9.wf;simp[vb]at e9;omega
 rw[e9,e10];simp;omega;simp only[evs,seval,g11,g10,g4,g5,(oM:¬(i:Int)<X.length)];rw[List.take_of_length_le oM]at G4 G5;exact⟨v4,v5,rfl,G4,G5,F⟩
def Oth(h:Heap)(S:List Nat):Prop:=∀b∈S,∀c,Own h b c→c.length≠6∧∀L:List (Int×Int),0<L.length→c≠L.flatMap sp
theorem At.frS{h h':Heap}{S:List Nat}(f:Fr S h h')(o:Oth h S):∀{t:Tr}{p:Option Nat},At h t p→At h' t p
 |.nil,_,a=>a
 |.node l s r,_,⟨q,pl,pr,e,oq,al,ar⟩=>⟨q,pl,pr,e,f.own _ _ (fun m=>(o q m _ oq).1 rfl) oq,At.frS f o al,At.frS f o ar⟩
theorem LoP.frS{h h':Heap}{b:Nat}{pm:Option Nat}{l:List Int}{ks bs:List Bool}{S:List Nat}(a:LoP h b pm l ks bs)(f:Fr S h h')(o:Oth h S)(hb:b∉S)(hp:∀q,pm=some q→q∉S):LoP h' b pm l ks bs:=by
 let⟨p,vk,ow,v1,⟨p',vk',L,e1,⟨t,p2,e2,at',tl,ft⟩,sL,x⟩,mk,e⟩:=a;refine⟨p,vk,f.own _ _ hb ow,v1,⟨p',vk',L,e1,⟨t,p2,e2,At.frS f o at',tl,ft⟩,?_,x⟩,?_,e⟩;obtain z|⟨q,e3,oq,lq⟩:=sL;exact .inl z;exact .inr ⟨q,e3,f.own _ _ (fun m=>(o q m _ oq).2 L lq rfl) oq,lq⟩;cases pm with
 |none=>exact mk
 |some q=>let⟨ws,oq,y⟩:=mk;exact⟨ws,f.own _ _ (hp q rfl) oq,y⟩
theorem yw{c:List V}(n:NoI c):∀L:List (Int×Int),0<L.length→c≠L.flatMap sp:=by
 intro L p e;cases L with
 |nil=>simp at p
 |cons s L=>exact n (.int .i64 s.1) (by rw[e];simp[sp]) _ rfl
open Go.Ev.St
set_option maxRecDepth 4000
theorem Km.frS{h h':Heap}{b S c:Nat}{m:Nat→Option Nat}{X:List Nat}(k:Km h b S m c)(f:Fr X h h')(hb:b∉X)(hS:S∉X):Km h' b S m c:=by obtain⟨o,x⟩|⟨v,sl,t,k,x⟩:=k;exact .inl ⟨f.own _ _ hb o,x⟩;exact .inr ⟨v,sl,t,{k with ob:=f.own _ _ hb k.ob,tb:=⟨k.tb.1,f.own _ _ hS k.tb.2⟩},x⟩
theorem Km.lt{h:Heap}{b S c:Nat}{m:Nat→Option Nat}(k:Km h b S m c)(w:WF h):b<h.next:=by obtain⟨o,x⟩|⟨v,sl,t,k,x⟩:=k;exact o.lt w;exact k.ob.lt w
theorem iN{c:List V}{n:Nat}(h:c.length=2*n+1):∀L:List (Int×Int),0<L.length→c≠L.flatMap sp:=by rintro L _ rfl;have:=aE dO L;omega
theorem Oth.app{h:Heap}{A B:List Nat}(a:Oth h A)(b:Oth h B):Oth h (A++B):=fun x m=>(List.mem_append.1 m).elim (a x) (b x)
theorem Oth.own{h:Heap}{b:Nat}{c:List V}(o:Own h b c)(h6:c.length≠6)(hs:∀L:List (Int×Int),0<L.length→c≠L.flatMap sp):Oth h [b]:=by intro x m c' o';simp at m;subst m;rw[o'.uniq o];exact⟨h6,hs⟩
theorem Gp.oth{h:Heap}{b B n:Nat}{l:List V}(w:WF h)(g:Gp h b B n l)(hB:B<h.next→Own h B []∨∀c,Own h B c→c.length%4=0∧NoI c):Oth h [b,B]:=by
 let⟨v,c1,G,c2,a,gg,m,k,_⟩:=g;intro x mx c o;simp at mx;obtain rfl|rfl:=mx;rw[o.uniq k.ob];exact⟨iS,iN (n:=1) rfl⟩;obtain e|e:=hB (o.lt w);rw[o.uniq e];exact⟨iS,fun L p q=>by cases L with|nil=>simp at p|cons s L=>simp[sp]at q⟩
 let⟨e1,e2⟩:=e c o;exact⟨oM,yw e2⟩
theorem Good_s.oth{h:Heap}{B:Nat}(g:Good_s h B):Oth h [B]:=by let⟨c,o,a,b⟩:=g;exact Oth.own o a b
theorem Gp.good{h:Heap}{b B n:Nat}{l:List V}(g:Gp h b B n l)(h0:0<n):Good_s h B:=by obtain⟨v,c1,G,c2,a,gg,m,k,_,rfl⟩:=g;obtain⟨hl,⟨_,z⟩|⟨_,o⟩⟩:=k.tb;omega;exact⟨_,o,oM,yw k.n6⟩
theorem Gp.ob{h:Heap}{b B n:Nat}{l:List V}(g:Gp h b B n l):Good_s h b∧B≠b:=by obtain⟨v,c1,G,c2,a,gg,m,k,_,rfl⟩:=g;exact⟨⟨_,k.ob,iS,iN (n:=1) rfl⟩,k.ne⟩
structure Dis(b bg B bm S bl:Nat)(pm:Option Nat):Prop where
 b1:b≠bg
 b2:b≠B
 b3:b≠bm
 b4:b≠S
 b5:b≠bl
 g1:bg≠bm
 g2:bg≠S
 g3:bg≠bl
 t1:B≠bm
 t2:B≠S
 t3:B≠bl
 m1:bm≠bl
 m2:S≠bl
 p:∀q,pm=some q→q≠b∧q≠bg∧q≠B∧q≠bm∧q≠S∧q≠bl
def Wr(b bg B bm S bl:Nat)(pm:Option Nat):List Nat:=[b,bg,B,bm,S,bl]++pm.toList
abbrev NL:=Nat×Option Nat
def Lx(n:NL)(z:Nat):Prop:=z<n.1∨n.2=some z
theorem Lx.lt{n z:Nat}(h:Lx (n,none) z):z<n:=h.elim id fun e=>by cases e
structure Sto(n0:NL)(h:Heap)(b:Nat)(Ks:List Knd)(cap:Int)(X:List Itm)(l:List Int)(kn st:List Bool)(vK:V)(bg B bm S bl:Nat)(pm:Option Nat)(mc:dX):Prop where
 ob:Own h b [vK,.int .i64 cap,.ptr bg 0,.ptr bm 0,.ptr bl 0]
 g:Gp h bg B X.length (X.flatMap Itm.cells)
 gB:Good_s h B
 k:Km h bm S mc.1 mc.2
 gS:Good_s h S
 lo:LoP h bl pm l kn st
 len:l.length=X.length
 rd:∀(Z:List Nat)(h':Heap),(∀z∈Z,z∈Wr b bg B bm S bl pm∨h.next≤z∨Lx n0 z)→Fr Z h h'→Recs Knd.cells 9 h' vK Ks∧(∀q∈Ks,KndH h' q)∧∀x∈X,ItmH h' x
 d:Dis b bg B bm S bl pm
 Sl':S<h.next
 pl:∀q,pm=some q→q<h.next
 bl':bl<h.next
 n0l:∀z,Lx n0 z→z<h.next
theorem Sl.noint{h:Heap}{e:Nat}{v:V}{n:Nat}{cs:List V}(a:Sl h e v n cs)(k:IntKind)(i:Int):v≠.int k i:=by rintro rfl;exact a.2.elim
theorem j6(x:Itm)(v:V):(x.own v).cells=[.int .u64 (x.key:Int),.int .u8 (x.type:Int),.str x.text,v]:=rfl
theorem Km.bmgood{h:Heap}{b S c:Nat}{m:Nat→Option Nat}(k:Km h b S m c):Good_s h b:=by obtain⟨o,x⟩|⟨v,sl,t,k,x⟩:=k;exact⟨_,o,iS,iN (n:=1) rfl⟩;exact⟨_,k.ob,iS,iN (n:=1) rfl⟩
theorem Good_s.lt{h:Heap}{b:Nat}(g:Good_s h b)(w:WF h):b<h.next:=by let⟨c,o,_⟩:=g;exact o.lt w
theorem LoP.pmlt{h:Heap}{b:Nat}{pm:Option Nat}{l:List Int}{ks bs:List Bool}(a:LoP h b pm l ks bs)(w:WF h):(∀q,pm=some q→q<h.next)∧b<h.next:=by let⟨p,vk,o,_,_,mk,_⟩:=a;refine⟨?_,o.lt w⟩;rintro q rfl;let⟨ws,oq,_⟩:=mk;exact oq.lt w
theorem GW{x:Itm}{v:V}(h:∀n:Int,v≠.int .i64 n):NoI (x.own v).cells:=by intro y m n;rw[j6]at m;simp at m;obtain rfl|rfl|rfl|rfl:=m;simp;simp;simp;exact h n
def Cps:List Itm→List Itm→Prop
 |[],[]=>True
 |x::l,y::m=>(∃v,y=x.own v∧nZ v=true)∧Cps l m
 |_,_=>False
theorem Cps.len:∀{a b:List Itm},Cps a b→a.length=b.length
 |[],[],_=>rfl
 |_::_,_::_,h=>by simp[Cps.len h.2]
 |[],_::_,h=>h.elim
 |_::_,[],h=>h.elim
theorem Cps.app:∀{a b c d:List Itm},Cps a b→Cps c d→Cps (a++c) (b++d)
 |[],[],_,_,_,g=>g
 |_::_,_::_,_,_,h,g=>⟨h.1,Cps.app h.2 g⟩
 |[],_::_,_,_,h,_=>h.elim
 |_::_,[],_,_,h,_=>h.elim
theorem Cps.mem:∀{a b:List Itm}{y:Itm},Cps a b→y∈b→∃x∈a,∃v,y=x.own v
 |x::a,z::b,y,h,m=>by obtain rfl|m:=List.mem_cons.1 m;let⟨⟨v,e,_⟩,_⟩:=h;exact⟨x,iS,v,e⟩;let⟨x',hx,e⟩:=Cps.mem h.2 m;exact⟨x',by simp[hx],e⟩
 |[],[],_,_,m=>by simp at m
 |[],_::_,_,h,_=>h.elim
 |_::_,[],_,h,_=>h.elim
theorem Sl.nz{h:Heap}{e:Nat}{v:V}{n:Nat}{cs:List V}(a:Sl h e v n cs):nZ v=true:=by cases v<;>first|rfl|exact a.2.elim
theorem Cps.nz:∀{a b:List Itm},Cps a b→∀y∈b,nZ y.vm=true
 |x::a,z::b,h,y,m=>by obtain rfl|m:=List.mem_cons.1 m;obtain⟨⟨v,rfl,z⟩,_⟩:=h;exact z;exact Cps.nz h.2 y m
 |[],[],_,_,m=>by simp at m
 |[],_::_,h,_,_=>h.elim
theorem Gt{n0:NL}{h:Heap}{b bg B bm S bl p:Nat}{Ks:List Knd}{cap:Int}{X Y:List Itm}{l:List Int}{kn st:List Bool}{vK v:V}{pm:Option Nat}{mc:dX}(w:WF h)(s:Sto n0 h b Ks cap X l kn st vK bg B bm S bl pm mc)
 (hp:p≤X.length) (hn:X.length+Y.length≤1024) (hc:mc.2+(X.length+Y.length)≤4096)
 (sv:∀(Z:List Nat)(h':Heap),(∀z∈Z,z∈Wr b bg B bm S bl pm∨h.next≤z)→Fr Z h h'→ARecs Itm.cells 4 h' v Y∧∀y∈Y,ItmH h' y)
 (hY:∀y∈Y,nZ y.vm=true∧y.type<Ks.length∧0<y.key) (hX:∀x∈X,0<x.key) (e0:cG l p (Y.map (aL Ks))=0):
 aj go 112 [.ptr b 0,.int .i64 (p:Int),v] h fun u h'=>u=.int .i64 0∧∃Y' B' S' pm',Cps Y Y'∧
  Sto n0 h' b Ks cap (X.take p++Y'++X.drop p) (l.take p++Y.map (aL Ks)++l.drop p) (kn.take p++List.replicate Y.length false++kn.drop p) (st.take p++Y.map (cJ Ks)++st.drop p) vK bg B' bm S' bl pm'
   (fW mc ((X.take p++Y'++X.drop p).drop p) p)∧Fr (Wr b bg B bm S bl pm) h h'∧(B'=B∨h.next≤B')∧(S'=S∨h.next≤S')∧(pm'=pm∨∀q,pm'=some q→h.next≤q):=by
 let⟨sY,hYI⟩:=sv [] h iS (Fr.refl w);let⟨rk,kh,xh⟩:=s.rd [] h iS (Fr.refl w);refine ab ?_;simp only[evs,seval];refine aa (xw w ⟨vK,_,_,_,s.ob,rk,kh⟩ sY (fun y m=>⟨hYI y m,(hY y m).2.1⟩) oM) ?_;rintro _ h1 ⟨v4,v5,rfl,G4,G5,F1⟩;have am:ou h1 v4 (Y.map (aL Ks)):=by have:=G4.sl (n:=(Y.map (aL Ks)).length) iS oM;unfold ou Vals;rw[List.map_map];exact this
 have as:Bools h1 v5 (Y.map (cJ Ks)):=by have:=G5.sl (n:=(Y.map (cJ Ks)).length) iS oM;unfold Bools Vals;rw[List.map_map];exact this
 have l4:ag h1 b 4=some (.ptr bl 0):=(F1.get s.ob).ld1 4;simp only[evs,seval,l4];apply aa (xN F1.wf (s.lo.fr F1) am as oO iS oM oM);rintro _ h2 ⟨rfl,F2,pm',hpm,lo2⟩;rw[e0,if_pos rfl]at lo2;simp only[Int.toNat_natCast,List.length_map]at lo2;have d:=s.d;have hpm2:∀q,pm'=some q→pm=some q∨h.next≤q:=by intro q hq;obtain rfl|⟨_,x⟩:=hpm;exact .inl hq;exact .inr (Nat.le_trans F1.next (x q hq))
 have F12:Fr (bl::pm.toList) h h2:=Fr.trans F1 F2 w iS (fun x m=>.inl m);have npm:∀x,(∀q,pm=some q→q≠x)→bl≠x→x∉bl::pm.toList:=by intro x a c m;obtain q|q:=List.mem_cons.1 m;exact c q.symm;simp at q;exact a _ q rfl
 have ob2:=F12.own b _ (npm b (fun q e=>(d.p q e).1) d.b5.symm) s.ob;have g2:=s.g.fr F12 (npm bg (fun q e=>(d.p q e).2.1) d.g3.symm) (npm B (fun q e=>(d.p q e).2.2.1) d.t3.symm);have gB2:=s.gB.fr F12 (npm B (fun q e=>(d.p q e).2.2.1) d.t3.symm);have k2:=s.k.frS F12 (npm bm (fun q e=>(d.p q e).2.2.2.1) d.m1.symm) (npm S (fun q e=>(d.p q e).2.2.2.2.1) d.m2.symm);have bgl:bg<h2.next:=by let⟨c,o,_⟩:=g2.ob.1;exact o.lt F2.wf
 have Bl:B<h2.next:=by let⟨c,o,_⟩:=gB2;exact o.lt F2.wf
 have bmW:∀x,x∈bl::pm.toList→x∈Wr b bg B bm S bl pm:=by intro x m;simp only[List.mem_cons]at m;simp only[Wr,List.mem_append,List.mem_cons];obtain m|m:=m;exact .inl (.inr (.inr (.inr (.inr (.inr (.inl m))))));exact .inr m
 have sv2:∀h',Fr [bg,B] h2 h'→ARecs Itm.cells 4 h' v Y∧∀y∈Y,ItmH h' y:=by intro h' f;refine sv ((bl::pm.toList)++[bg,B]) h' (fun z m=>?_) (Fr.trans F12 f w (fun x m=>.inl (List.mem_append.2 (.inl m))) (fun x m=>.inl (List.mem_append.2 (.inr m))));obtain m|m:=List.mem_append.1 m;exact .inl (bmW z m);simp only[List.mem_cons,List.not_mem_nil,or_false]at m;left;simp only[Wr,List.mem_append,List.mem_cons];obtain m|m:=m<;>simp[m]
 have len2:=(sv2 h2 (Fr.refl F2.wf)).1.len;simp only[evs,seval,len2,e0];refine aA (fun n env hh=>∃(i B':Nat)(D:List Itm),Fr [bg,B] h2 hh∧(B'=B∨h2.next≤B')∧B'<hh.next∧env.get 32=some (.int .i64 i)∧env.get 31=some (.int .i64 (Y.length:Nat))∧env.get 30=some v∧env.get 0=some (.ptr b 0)∧env.get 1=some (.int .i64 (p:Int))∧
  i≤Y.length∧Cps (Y.take i) D∧Gp hh bg B' (X.length+i) ((X.take p++D++X.drop p).flatMap Itm.cells)∧Good_s hh B'∧
  (∀(Z:List Nat)(h':Heap),(∀z∈Z,z<h2.next∨z=B'∨hh.next≤z)→Fr Z hh h'→∀x∈D,Recs sS 1 h' x.vm x.marks)∧n=Y.length-i) Y.length oM ?_ ?_
 exact⟨0,B,[],Fr.refl F2.wf,.inl rfl,Bl,iS,iS,iS,iS,iS,oM,trivial,by simpa using g2,gB2,iS,rfl⟩;rintro n env hh ⟨i,B',D,F,hB',B'l,g32,g31,g30,g0,g1,hi,cp,gp,gd,st',rfl⟩;have obh:=F.own b _ (by simp;exact⟨d.b1,d.b2⟩) ob2;have dl:=cp.len;rw[List.length_take,Nat.min_eq_left hi]at dl;by_cases hlt:i<Y.length;have hlt':(i:Int)<Y.length:=oM;let⟨sYh,hYh⟩:=sv2 hh F;let⟨bi,oi,y,p1,_,p3,p4⟩:=sYh.ix (f:=Itm.cells) (k:=4) (fun _=>rfl) .i64 (i:Int) oM hlt';rw[Int.toNat_natCast]at p4;have ym:=List.mem_of_getElem? p4;have ay:=hYh y ym;let⟨h3,e_h3,F_h3,o_h3⟩:=ao F.wf [.int .u64 0,.int .u8 0,.str [],.nils];simp only[evs,seval,g32,g31,g30,hlt',p1,p3,←e_h3];refine ai (c':=y.cells) F_h3.wf o_h3 rfl ay.one rfl ?_;rintro h4 o4 F4 n4;have F04:Fr [] hh h4:=F_h3.fresh F4 F.wf (Nat.le_refl _);have l2:ag h4 b 2=some (.ptr bg 0):=(F04.get obh).ld1 2;have y4:ak h4 hh.next 0 4=some y.cells:=by rw[o4.ld];rfl
 simp(disch:=omega) only[evs,seval,eff,ah,g0,g1,l2,y4];apply aa (B5 F04.wf (ay.fr F04) (hY y ym).1);rintro _ h5 ⟨vy,rfl,F5,nE,v1,stb⟩;have F05:=F04.then F5;have l25:ag h5 b 2=some (.ptr bg 0):=(F05.get obh).ld1 2;let⟨h6,e_h6,F_h6,o_h6⟩:=ao F5.wf [.int .u64 (y.key:Int),.int .u8 (y.type:Int),.str y.text,vy];have n6:=hnx e_h6;have l26:ag h6 b 2=some (.ptr bg 0):=(F_h6.get (F05.get obh)).ld1 2;simp only[evs,seval,eff,j6,←e_h6];have F06:=F05.then F_h6;have h2n:=F.next;have h4n:=F04.next;have h5n:=F5.next;have s6:Sl h6 4 (.slice h5.next 0 1 1) 1 (y.own vy).cells:=Sl.lit o_h6 rfl;have on6:av (y.own vy).cells=true:=by rw[j6];simp only[aB,aF,v1];rfl
 have sv0:=stb [] h5 iS (Fr.refl F5.wf);have gp6:=gp.fr F06 iS iS;apply aa (yK (p:=p+i) (q:=1) F_h6.wf gp6 (fun h' f=>Sl.lit (f.own _ _ oO o_h6) rfl) on6 (GW fun n=>Sl.noint sv0 _ _) oM oM);rintro _ h7 ⟨rfl,B2,hB2,gp7,F7⟩;have l27:ag h7 b 2=some (.ptr bg 0):=(F7.own _ _ (by simp;exact⟨d.b1,by obtain rfl|q:=hB';exact d.b2;have:=ob2.lt F2.wf;omega⟩) (F_h6.get (F05.get obh))).ld1 2
 simp(disch:=omega) only[evs,seval,DF,eff,ah,g32,l2,y4,l25,l26];have gd7:=gp7.good oM;have B2l:B2<h7.next:=by let⟨c,o,_⟩:=gd7;exact o.lt F7.wf
 have F27:Fr [bg,B] h2 h7:=by refine Fr.trans (Fr.trans (T:=[bg,B]) F F06 F2.wf (fun x m=>.inl m) iS) F7 F2.wf (fun x m=>.inl m) (fun x m=>?_);simp at m;obtain rfl|rfl:=m;exact .inl iS;obtain rfl|q:=hB';exact .inl iS;exact .inr q
 have lA:(X.take p++D).length=p+i:=by simp;omega
 have eA:((X.take p++D++X.drop p).flatMap Itm.cells).take ((p+i) *4)++(y.own vy).cells++((X.take p++D++X.drop p).flatMap Itm.cells).drop ((p+i) *4)=(X.take p++(D++[y.own vy])++X.drop p).flatMap Itm.cells:=by rw[td d8,eO d8,←lA,List.take_left,List.drop_left];simp
 rw[←j6 y vy,eA,Nat.add_assoc]at gp7;have f7:∀(Z:List Nat)(h':Heap),Fr Z h7 h'→Fr ([bg,B']++Z) h6 h':=fun Z h' f=>Fr.trans F7 f F_h6.wf (fun x m=>.inl (List.mem_append.2 (.inl m))) (fun x m=>.inl (List.mem_append.2 (.inr m)));have h7n:=F7.next;refine rqn ⟨Y.length-(i+1),oM,i+1,B2,D++[y.own vy],F27,?_,B2l,iS,iX,iX,iX,iX,oM,?_,gp7,gd7,?_,rfl⟩;obtain rfl|q:=hB2;exact hB';exact .inr oM;rw[List.take_add_one,p4];exact Cps.app cp ⟨⟨vy,rfl,Sl.nz sv0⟩,trivial⟩;intro Z h' hZ f x hx;have f6:=f7 Z h' f;obtain hx|hx:=List.mem_append.1 hx;refine st' _ h' (fun z m=>?_) (Fr.trans F06 f6 F.wf iS (fun x m=>.inl m)) x hx;obtain m|m:=List.mem_append.1 m;simp at m;obtain rfl|rfl:=m;exact .inl bgl;exact .inr (.inl rfl);obtain q|q|q:=hZ z m;exact .inl q;subst q;obtain q|q:=hB2;exact .inr (.inl q);exact .inr (.inr oM);exact .inr (.inr oM);simp at hx;subst hx;have f5:=(Fr.trans (T:=[bg,B']++Z) F_h6 f6 F5.wf iS (fun x m=>.inl m)).old F5.wf;refine stb _ h' (fun z m=>?_) f5;simp only[List.mem_filter,decide_eq_true_eq]at m;let⟨m,m2⟩:=m;obtain m|m:=List.mem_append.1 m;simp at m;obtain rfl|rfl:=m<;>omega
 obtain q|q|q:=hZ z m;omega;subst q;obtain q|q:=hB2<;>omega
 omega;have hi':i=Y.length:=oM;subst hi';rw[List.take_of_length_le (Nat.le_refl _)]at cp;have kh2:Km hh bm S mc.1 mc.2:=k2.frS F (by simp;exact⟨d.g1.symm,d.t1.symm⟩) (by simp;exact⟨d.g2.symm,d.t2.symm⟩);have gSh:Good_s hh S:=(s.gS.fr F12 (npm S (fun q e=>(d.p q e).2.2.2.2.1) d.m2.symm)).fr F (by simp;exact⟨d.g2.symm,d.t2.symm⟩);have lX:(X.take p++D++X.drop p).length=X.length+Y.length:=by simp;omega
 rw[←lX]at gp;have bm2:bm<h.next:=s.k.lt w;have key:∀x∈X.take p++D++X.drop p,0<x.key∧x.key<18446744073709551616:=by intro x m;obtain m|m:=List.mem_append.1 m;obtain m|m:=List.mem_append.1 m;have m:=List.mem_of_mem_take m;exact⟨hX x m,(xh x m).k⟩;obtain⟨y,ym,vy,rfl⟩:=cp.mem m;exact⟨(hY y ym).2.2,(hYI y ym).k⟩;have m:=List.mem_of_mem_drop m;exact⟨hX x m,(xh x m).k⟩
 have h1n:=F1.next;have h2n:=F2.next;have hhn:=F.next;have Sln:=s.Sl';have neB:∀x,x<h.next→x≠B→B'≠x:=fun x a c=>by obtain rfl|q:=hB';exact c.symm;omega
 simp only[evs,seval,g32,g31,g0,g1,(oM:¬((Y.length:Nat):Int)<(Y.length:Nat))];refine aa (Hu (mc:=mc) F.wf obh gp kh2 key oM (by rw[lX];exact hc) d.b3 d.b4 d.g1 d.g2 (neB bm bm2 d.t1.symm) (neB S Sln d.t2.symm) B'l gSh) ?_;rintro _ h3 ⟨rfl,S',hS',k3,F3,gS3⟩;simp only[evs,seval];have b0:=s.ob.lt w;have bg0:=s.g.ob.1.lt w;have B0:=s.gB.lt w;have bl0:=s.bl';have S3:=gS3.lt F3.wf;have h3n:=F3.next;let⟨pl2,bl2⟩:=lo2.pmlt F2.wf;have pm2:∀q,pm'=some q→(pm=some q∧q<h.next)∨(h1.next≤q∧q<h2.next):=by intro q hq;obtain e|⟨_,x⟩:=hpm;rw[e]at hq;exact .inl ⟨hq,s.pl q hq⟩;exact .inr ⟨x q hq,pl2 q hq⟩
 have npS:∀q,pm'=some q→q≠b∧q≠bg∧q≠B∧q≠B'∧q≠bm∧q≠S∧q≠S'∧q≠bl:=by
  intro q hq;obtain⟨e,z⟩|⟨z1,z2⟩:=pm2 q hq;let⟨y1,y2,y3,y4,y5,y6⟩:=d.p q e;refine⟨y1,y2,y3,?_,y4,y5,?_,y6⟩;obtain rfl|r:=hB';exact y3;omega;obtain rfl|r:=hS';exact y5;omega;refine⟨oM,oM,oM,?_,oM,oM,?_,oM⟩;obtain rfl|r:=hB'<;>omega
  obtain rfl|r:=hS'<;>omega
 have nS:∀x,x<hh.next→x≠S→S'≠x:=fun x a c=>by obtain rfl|q:=hS';exact c.symm;omega
 have lo3:LoP h3 bl pm' (l.take p++Y.map (aL Ks)++l.drop p) (kn.take p++List.replicate Y.length false++kn.drop p) (st.take p++Y.map (cJ Ks)++st.drop p):=by refine LoP.frS (LoP.frS lo2 F (Oth.app (A:=[bg]) g2.ob.1.oth gB2.oth) (by simp;exact⟨d.g3.symm,d.t3.symm⟩) (fun q e=>?_)) F3 (Oth.app (A:=[bm]) kh2.bmgood.oth gSh.oth) (by simp;exact⟨d.m1.symm,d.m2.symm⟩) (fun q e=>?_);let⟨y1,y2,y3,y4,y5,y6,y7,y8⟩:=npS q e;simp;exact⟨y2,y3⟩;let⟨y1,y2,y3,y4,y5,y6,y7,y8⟩:=npS q e;simp;exact⟨y5,y6⟩
 refine⟨D,B',S',pm',cp,⟨F3.own b _ (by simp;exact⟨d.b3,d.b4⟩) obh,gp.fr F3 (by simp;exact⟨d.g1,d.g2⟩) (by simp;exact⟨neB bm bm2 d.t1.symm,neB S Sln d.t2.symm⟩),gd.fr F3 (by simp;exact⟨neB bm bm2 d.t1.symm,neB S Sln d.t2.symm⟩),k3,gS3,lo3,?_,?_,?_,S3,fun q e=>by have:=pl2 q e;omega,oM,by exact fun z q=>by have:=s.n0l z q;omega⟩,?_,?_,?_,?_⟩;have:=s.len;simp;omega;intro Z h' hZ f;have f23:Fr ([bg,B]++[bm,S]++Z) h2 h':=by refine Fr.trans (Fr.trans (T:=[bg,B]++[bm,S]) F F3 F2.wf (fun x m=>.inl (List.mem_append.2 (.inl m))) (fun x m=>.inl (List.mem_append.2 (.inr m)))) f F2.wf (fun x m=>.inl (List.mem_append.2 (.inl m))) (fun x m=>.inl (List.mem_append.2 (.inr m)))
 have f0:Fr ((bl::pm.toList)++([bg,B]++[bm,S]++Z)) h h':=Fr.trans F12 f23 w (fun x m=>.inl (List.mem_append.2 (.inl m))) (fun x m=>.inl (List.mem_append.2 (.inr m)));have hZ0:∀z∈(bl::pm.toList)++([bg,B]++[bm,S]++Z),z∈Wr b bg B bm S bl pm∨h.next≤z∨Lx n0 z:=by
  intro z m;obtain m|m:=List.mem_append.1 m;exact .inl (bmW z m);obtain m|m:=List.mem_append.1 m;left;simp only[Wr,List.mem_append,List.mem_cons,List.not_mem_nil,or_false]at m⊢;obtain(m|m)|(m|m):=m<;>simp[m]
  obtain q|q|q:=hZ z m;simp only[Wr,List.mem_append,List.mem_cons,List.not_mem_nil,or_false]at q;obtain(q|q|q|q|q|q)|q:=q;exact .inl (by simp[Wr,q]);exact .inl (by simp[Wr,q]);subst q;obtain r|r:=hB';exact .inl (by simp[Wr,r]);exact .inr (.inl oM);exact .inl (by simp[Wr,q]);subst q;obtain r|r:=hS';exact .inl (by simp[Wr,r]);exact .inr (.inl oM);exact .inl iX;simp at q;obtain⟨e,_⟩|⟨z1,_⟩:=pm2 z q;exact .inl (by simp[Wr,e]);exact .inr (.inl oM);exact .inr (.inl oM);exact .inr (.inr q)
 let⟨rk',kh',xh'⟩:=s.rd _ h' hZ0 f0;refine⟨rk',kh',fun x m=>?_⟩;obtain m|m:=List.mem_append.1 m;obtain m|m:=List.mem_append.1 m;exact xh' x (List.mem_of_mem_take m);have fh:Fr ([bm,S]++Z) hh h':=Fr.trans F3 f F.wf (fun x m=>.inl (List.mem_append.2 (.inl m))) (fun x m=>.inl (List.mem_append.2 (.inr m)));have r:=st' _ h' (fun z m=>?_) fh x m;obtain⟨y,ym,vy,rfl⟩:=cp.mem m;have ay:=hYI y ym;exact⟨ay.k,ay.t,Sl.a r,ay.n,ay.l⟩;obtain m|m:=List.mem_append.1 m;simp at m;obtain rfl|rfl:=m;exact .inl oM;exact .inl oM;obtain q|q|q:=hZ z m;simp only[Wr,List.mem_append,List.mem_cons,List.not_mem_nil,or_false]at q;obtain(q|q|q|q|q|q)|q:=q;exact .inl oM;exact .inl oM;exact .inr (.inl q);exact .inl oM;obtain r|r:=hS';exact .inl oM;exact .inr (.inr oM);exact .inl oM;simp at q;obtain⟨_,z1⟩|⟨_,z2⟩:=pm2 z q;exact .inl oM;exact .inl oM;exact .inr (.inr oM);exact .inl (by have:=s.n0l z q;omega);exact xh' x (List.mem_of_mem_drop m);exact⟨d.b1,(neB b b0 d.b2).symm,d.b3,(nS b oM d.b4).symm,d.b5,d.g1,(nS bg oM d.g2).symm,d.g3,neB bm bm2 d.t1.symm,by
  obtain rfl|q:=hS';exact neB _ Sln d.t2.symm;omega,neB bl bl0 d.t3.symm,d.m1,nS bl oM d.m2.symm,fun q e=>by
  let⟨y1,y2,y3,y4,y5,y6,y7,y8⟩:=npS q e;exact⟨y1,y2,y4,y5,y7,y8⟩⟩
 refine Fr.trans (Fr.trans (T:=Wr b bg B bm S bl pm) F12 F w (fun x m=>.inl (bmW x m)) (fun x m=>.inl ?_)) F3 w (fun x m=>.inl m) (fun x m=>.inl ?_);simp only[Wr,List.mem_append,List.mem_cons,List.not_mem_nil,or_false]at m⊢;obtain m|m:=m<;>simp[m]
 simp only[Wr,List.mem_append,List.mem_cons,List.not_mem_nil,or_false]at m⊢;obtain m|m:=m<;>simp[m]
 obtain r|r:=hB';exact .inl r;exact .inr oM;obtain r|r:=hS';exact .inl r;exact .inr oM;obtain e|⟨_,x⟩:=hpm;exact .inl e;exact .inr fun q hq=>by have:=x q hq;omega
open Go.Ev.St
set_option maxRecDepth 4000
theorem GB{h:Heap}{v:V}{L:List Knd}{cap:Int}(w:WF h)(a:Recs Knd.cells 9 h v L)(hL:∀q∈L,KndH h q)(hn:L.length≤4096)(ok:okR L cap=true):
 aj go 11 [.agg [v,.int .i64 cap]] h fun u h'=>∃b bg bm bl vK K,u=.tup [.ptr b 0,.int .i64 0]∧Fr [] h h'∧cM L K∧Sto (h.next,none) h' b K cap [] [] [] [] vK bg h.next bm bm bl none (fun _=>none,0)∧(∀y∈Wr b bg h.next bm bm bl none,h.next≤y):=by
 have nv:∀n:Int,v≠.int .i64 n:=fun n=>Sl.noint a _ _;apply OQ.mono (J1 w a hL hn ok);rintro u h' ⟨b,bg,bm,bl,vK,K,rfl,F,sK,ob,obg,km,lo,c1,c2,c3,c4,c5,oB,st⟩;have w':=F.wf;have gB:Good_s h' h.next:=⟨_,oB,iS,by
  intro L p e;cases L with
  |nil=>simp at p
  |cons q L=>simp[sp]at e;exact nv _ e.1⟩
 have pl:=lo.pmlt w';refine⟨b,bg,bm,bl,vK,K,rfl,F,sK,⟨ob,?_,gB,km,km.bmgood,lo,rfl,?_,?_,km.lt w',iS,pl.2,fun z q=>Nat.lt_of_lt_of_le q.lt F.next⟩,?_⟩;exact⟨.nils,[],[],[],0,0,0,⟨obg,⟨rfl,.inl ⟨rfl,rfl⟩⟩,rfl,rfl,rfl,rfl,rfl,oM,oM,oM,fun x m=>by simp at m⟩,rfl,rfl⟩;intro Z h2 hZ f;let⟨x1,x2⟩:=st Z h2 (fun y m=>by
  obtain q|q|q:=hZ y m;simp[Wr]at q;obtain q|q|q|q|q:=q;exact .inr (.inl q);omega;omega;omega;omega;omega;exact .inl (by have:=q.lt;omega)) f
 exact⟨x1,x2,iS⟩;exact⟨oM,oM,oM,oM,oM,oM,oM,oM,oM,oM,oM,oM,oM,iS⟩;intro y m;simp[Wr]at m;omega
section
variable {n0 : NL} {h : Heap} {b : Nat} {Ks : List Knd} {cap : Int} {X : List Itm} {l : List Int} {kn st : List Bool} {vK : V} {bg B bm S bl : Nat} {pm : Option Nat} {mc : dX}
theorem pu(s:Sto n0 h b Ks cap X l kn st vK bg B bm S bl pm mc):aj go 33 [.ptr b 0] h fun u h'=>u=.bool false∧h=h':=by have l2:ag h b 2=some (.ptr bg 0):=s.ob.ld1 2;refine ab ?_;simp only[evs,seval,l2]
theorem zW(s:Sto n0 h b Ks cap X l kn st vK bg B bm S bl pm mc):aj go 21 [.ptr b 0] h fun u h'=>u=.int .i64 (X.length:Nat)∧h=h':=by have l2:ag h b 2=some (.ptr bg 0):=s.ob.ld1 2;refine ab ?_;simp only[evs,seval];refine aa (pu s) ?_;rintro _ _ ⟨rfl,rfl⟩;simp only[evs,seval,l2];apply aa (wL s.g);rintro _ _ ⟨rfl,rfl⟩;simp only[evs,seval]
end
open Go.Ev.St
set_option maxRecDepth 4000
theorem Sto.move{n0:Nat}{m0:NL}{h h':Heap}{b b' bg B bm S bl:Nat}{Ks:List Knd}{cap:Int}{X:List Itm}{l:List Int}{kn st:List Bool}{vK:V}{pm:Option Nat}{mc:dX}{c0:List V}(w:WF h)(s:Sto (n0,none) h b' Ks cap X l kn st vK bg B bm S bl pm mc)
 (ge:∀y∈Wr b' bg B bm S bl pm,n0≤y) (o0:Own h b c0) (h5:c0.length=5) (hb:b<n0) (hm:∀z,Lx m0 z→z<n0) (f:Fr [b] h h') (ob:Own h' b [vK,.int .i64 cap,.ptr bg 0,.ptr bm 0,.ptr bl 0]):
 Sto m0 h' b Ks cap X l kn st vK bg B bm S bl pm mc:=by
 have g:∀y∈Wr b' bg B bm S bl pm,y≠b:=fun y m=>by have:=ge y m;omega
 simp only[Wr,List.mem_append,List.mem_cons,List.not_mem_nil,or_false]at g;have g1:=g bg iS;have g2:=g B iS;have g3:=g bm iS;have g4:=g S iS;have g5:=g bl iS;have g6:∀q,pm=some q→q≠b:=fun q e=>g q iX;have d:=s.d;have fn:=f.next;have n0l:=s.n0l;refine⟨ob,s.g.fr f (eV g1) (eV g2),s.gB.fr f (eV g2),s.k.frS f (eV g3) (eV g4),s.gS.fr f (eV g4),?_,s.len,?_,?_,by have:=s.Sl';omega,fun q e=>by have:=s.pl q e;omega,by have:=s.bl';omega,fun z q=>by have:=hm z q;have:=n0l z (.inl this);omega⟩
 ·exact s.lo.frS f (Oth.own o0 oM (iN (n:=2) h5)) (eV g5) (fun q e=>by simpa using g6 q e)
 ·intro Z h2 hZ f2;refine s.rd ([b]++Z) h2 (fun z m=>?_) (Fr.trans f f2 w (fun x m=>.inl (List.mem_append.2 (.inl m))) (fun x m=>.inl (List.mem_append.2 (.inr m))));obtain m|m:=List.mem_append.1 m
  ·simp at m;subst m;exact .inr (.inr (.inl hb))
  ·obtain q|q|q:=hZ z m
   ·simp only[Wr,List.mem_append,List.mem_cons,List.not_mem_nil,or_false]at q⊢;obtain(q|q|q|q|q|q)|q:=q
    ·exact .inr (.inr (.inl oM))
    all_goals exact .inl iX
   ·omega
   ·exact .inr (.inr (.inl (hm z q)))
 ·exact⟨g1.symm,g2.symm,g3.symm,g4.symm,g5.symm,d.g1,d.g2,d.g3,d.t1,d.t2,d.t3,d.m1,d.m2,fun q e=>⟨g6 q e,(d.p q e).2⟩⟩
theorem Ao{Ks:List Knd}{cap:Int}{p:Nat→Bool}:∀{seen:List Nat}{Y:List Itm},mA Ks cap p seen Y=0→∀y∈Y,okI y Ks.length=true
 |_,[],_,y,m=>by simp at m
 |seen,x::r,e,y,m=>by simp only[mA]at e;by_cases c1:okI x Ks.length=false;grind;rw[if_neg c1]at e;by_cases c2:x.key∈seen∨p x.key=true;grind;rw[if_neg c2]at e;by_cases c3:bW Ks cap x≠0;omega;rw[if_neg c3]at e;obtain rfl|m:=List.mem_cons.1 m;simpa using c1;exact Ao e y m
theorem sj{Ks K:List Knd}(h:cM Ks K)(y:Itm):aL K y=aL Ks y∧cJ K y=cJ Ks y:=by
 unfold aL cJ;cases e:Ks[y.type]? with
 |none=>
  have:K[y.type]? =none:=by rw[List.getElem?_eq_none_iff]at e⊢;rw[←eM h];exact e
  rw[this];exact⟨rfl,rfl⟩
 |some q=>let⟨p,e2,s⟩:=kZ h e;rw[e2];let⟨_,_,_,_,_,h6,h7,_⟩:=s;exact⟨h6.symm,h7.symm⟩
theorem Sto.fr{n0:NL}{h h':Heap}{b bg B bm S bl:Nat}{Ks:List Knd}{cap:Int}{X:List Itm}{l:List Int}{kn st:List Bool}{vK:V}{pm:Option Nat}{mc:dX}(w:WF h)(s:Sto n0 h b Ks cap X l kn st vK bg B bm S bl pm mc)(f:Fr [] h h'):
 Sto n0 h' b Ks cap X l kn st vK bg B bm S bl pm mc:=by
 have fn:=f.next;refine⟨f.get s.ob,s.g.fr f iS iS,s.gB.fr f iS,s.k.fr f,s.gS.fr f iS,s.lo.fr f,s.len,?_,s.d,by have:=s.Sl';omega,fun q e=>by have:=s.pl q e;omega,by have:=s.bl';omega,by exact fun z q=>by have:=s.n0l z q;omega⟩;intro Z h2 hZ f2;refine s.rd Z h2 (fun z m=>?_) (Fr.trans f f2 w (fun x m=>by simp at m) (fun x m=>.inl m));obtain q|q|q:=hZ z m;exact .inl q;omega;exact .inr (.inr q)
theorem Sto.lay{n0:NL}{h h':Heap}{b bg B bm S bl:Nat}{Ks:List Knd}{cap:Int}{X:List Itm}{l l':List Int}{kn st kn' st':List Bool}{vK:V}{pm pm':Option Nat}{mc:dX}(w:WF h)(s:Sto n0 h b Ks cap X l kn st vK bg B bm S bl pm mc)(f:Fr (bl::pm.toList) h h')
 (a:LoP h' bl pm' l' kn' st') (hl:l'.length=X.length) (hp:pm'=pm∨∀q,pm'=some q→h.next≤q):Sto n0 h' b Ks cap X l' kn' st' vK bg B bm S bl pm' mc:=by
 have d:=s.d;have fn:=f.next;have n0l:=s.n0l;have nb:∀y,y≠bl→(∀q,pm=some q→q≠y)→y∉bl::pm.toList:=by grind
 have lb:=s.ob.lt w;have lg:bg<h.next:=s.g.ob.1.lt w;have lB:=s.gB.lt w;have lm:=s.k.lt w;have lS:=s.Sl';have ll:=s.bl';have pl:=a.pmlt f.wf;have dp:=d.p;have xb:=nb b d.b5 fun q e=>(dp q e).1;have xg:=nb bg d.g3 fun q e=>(dp q e).2.1;have xB:=nb B d.t3 fun q e=>(dp q e).2.2.1;have xm:=nb bm d.m1 fun q e=>(dp q e).2.2.2.1;have xS:=nb S d.m2 fun q e=>(dp q e).2.2.2.2.1;refine⟨f.own _ _ xb s.ob,s.g.fr f xg xB,s.gB.fr f xB,s.k.frS f xm xS,s.gS.fr f xS,a,hl,?_,?_,oM,pl.1,oM,fun z q=>by have:=n0l z q;omega⟩;intro Z h2 hZ f2;refine s.rd ((bl::pm.toList)++Z) h2 (fun z m=>?_) (Fr.trans f f2 w (fun x m=>.inl (List.mem_append.2 (.inl m))) (fun x m=>.inl (List.mem_append.2 (.inr m))));obtain m|m:=List.mem_append.1 m;refine .inl ?_;obtain rfl|m:=List.mem_cons.1 m;simp[Wr];exact List.mem_append.2 (.inr m);obtain q|q|q:=hZ z m;obtain q|q:=List.mem_append.1 q;exact .inl (List.mem_append.2 (.inl q));grind;omega;exact .inr (.inr q);refine⟨d.b1,d.b2,d.b3,d.b4,d.b5,d.g1,d.g2,d.g3,d.t1,d.t2,d.t3,d.m1,d.m2,fun q e=>?_⟩;obtain rfl|hp:=hp;exact dp q e;grind
theorem Gu{n0:NL}{h:Heap}{b bg B bm S bl p:Nat}{Ks:List Knd}{cap:Int}{X Y:List Itm}{l:List Int}{kn st:List Bool}{vK v:V}{pm:Option Nat}{mc:dX}(w:WF h)(s:Sto n0 h b Ks cap X l kn st vK bg B bm S bl pm mc)
 (hp:p≤X.length) (hn:Y.length≤1024) (hx:X.length≤1024) (sY:ARecs Itm.cells 4 h v Y) (hYI:∀y∈Y,ItmH h y∧y.type<Ks.length) (e0:cG l p (Y.map (aL Ks))≠0):
 aj go 112 [.ptr b 0,.int .i64 (p:Int),v] h fun u h'=>u=.int .i64 (cG l p (Y.map (aL Ks)))∧Fr (bl::pm.toList) h h'∧∃pm',(pm'=pm∨∀q,pm'=some q→h.next≤q)∧Sto n0 h' b Ks cap X l kn st vK bg B bm S bl pm' mc:=by
 let⟨rk,kh,xh⟩:=s.rd [] h iS (Fr.refl w);refine ab ?_;simp only[evs,seval];refine aa (xw w ⟨vK,_,_,_,s.ob,rk,kh⟩ sY hYI oM) ?_;rintro _ h1 ⟨v4,v5,rfl,G4,G5,F1⟩;have am:ou h1 v4 (Y.map (aL Ks)):=by have:=G4.sl (n:=(Y.map (aL Ks)).length) iS oM;unfold ou Vals;rw[List.map_map];exact this
 have as:Bools h1 v5 (Y.map (cJ Ks)):=by have:=G5.sl (n:=(Y.map (cJ Ks)).length) iS oM;unfold Bools Vals;rw[List.map_map];exact this
 have l4:ag h1 b 4=some (.ptr bl 0):=(F1.get s.ob).ld1 4;simp only[evs,seval,l4];apply aa (xN F1.wf (s.lo.fr F1) am as oO iS oM oM);rintro _ h2 ⟨rfl,F2,pm',hp,a⟩;rw[if_neg e0]at a;have n1:=F1.next;have hp':pm'=pm∨∀q,pm'=some q→h1.next≤q:=by grind
 have s2:=(s.fr w F1).lay F1.wf F2 a s.len hp';simp only[evs,seval,eq_false e0];refine⟨Fr.trans F1 F2 w iS (fun x m=>.inl m),pm',?_,s2⟩;obtain hp|hp:=hp';exact .inl hp;grind
theorem Gl{h:Heap}{g b bm S c:Nat}{m:Nat→Option Nat}{k0 k1 k3:V}{k2:V}(og:Own h g [.ptr b 0])(ob:Own h b [k0,k1,k2,.ptr bm 0,k3])(k:Km h bm S m c):Fu h 111 [.ptr g 0] (fun x=>(m x).isSome):=⟨dI,fun h1 x f hx=>by
 have l0:ag h1 g 0=some (.ptr b 0):=(f.get og).ld1 0;have l3:ag h1 b 3=some (.ptr bm 0):=(f.get ob).ld1 3;refine ab ?_;simp only[evs,seval,l0,l3];refine aa (pw f.wf (k.fr f) hx) ?_;rintro _ h2 ⟨rfl,F2⟩;cases e:m x with
 |none=>simp only[evs,seval,fZ];exact F2
 |some i=>simp only[evs,seval,fZ];exact F2⟩
def kH(Ks:List Knd)(cap at_:Int)(X Y:List Itm)(l:List Int)(p:Nat→Bool):Int:=
 if at_<0∨(X.length:Int)<at_ then 4 else if(1024:Int)-X.length<Y.length then 3 else if mA Ks cap p [] Y≠0 then mA Ks cap p [] Y else cG l at_.toNat (Y.map (aL Ks))
theorem BK{n0:NL}{h:Heap}{b bg B bm S bl:Nat}{Ks:List Knd}{cap a:Int}{X Y:List Itm}{l:List Int}{kn st:List Bool}{vK v:V}{pm:Option Nat}{mc:dX}{k0 c0 t0:V}(w:WF h)(s:Sto n0 h b Ks cap X l kn st vK bg B bm S bl pm mc)(ha:-9223372036854775808≤a∧a<9223372036854775808)
 (ok:okR Ks cap=true) (hX:∀x∈X,0<x.key) (hx:X.length≤1024) (hc:mc.2+1024≤4096)
 (sv:∀(Z:List Nat)(h':Heap),(∀z∈Z,z∈Wr b bg B bm S bl pm∨h.next≤z)→Fr Z h h'→ARecs Itm.cells 4 h' v Y∧∀y∈Y,ItmH h' y) (hY:∀y∈Y,nZ y.vm=true) (hl:Y.length≤4096) (ones:av [k0,.int .i64 a,c0,t0,v]=true):
 aj go 57 [.ptr b 0,.agg [k0,.int .i64 a,c0,t0,v]] h fun u h'=>u=.int .i64 (kH Ks cap a X Y l (fun x=>(mc.1 x).isSome))∧
  (kH Ks cap a X Y l (fun x=>(mc.1 x).isSome)≠0→Fr (bl::pm.toList) h h'∧∃pm',(pm'=pm∨∀q,pm'=some q→h.next≤q)∧Sto n0 h' b Ks cap X l kn st vK bg B bm S bl pm' mc)∧
  (kH Ks cap a X Y l (fun x=>(mc.1 x).isSome)=0→0≤a∧a≤X.length∧X.length+Y.length≤1024∧∃Y' B' S' pm',Cps Y Y'∧
   Sto n0 h' b Ks cap (X.take a.toNat++Y'++X.drop a.toNat) (l.take a.toNat++Y.map (aL Ks)++l.drop a.toNat) (kn.take a.toNat++List.replicate Y.length false++kn.drop a.toNat) (st.take a.toNat++Y.map (cJ Ks)++st.drop a.toNat) vK bg B' bm S' bl pm'
    (fW mc ((X.take a.toNat++Y'++X.drop a.toNat).drop a.toNat) a.toNat)∧Fr (Wr b bg B bm S bl pm) h h'∧(B'=B∨h.next≤B')∧(S'=S∨h.next≤S')∧(pm'=pm∨∀q,pm'=some q→h.next≤q)):=by
 let⟨rk,kh,xh⟩:=s.rd [] h iS (Fr.refl w);let⟨sY,hYI⟩:=sv [] h iS (Fr.refl w);have hK:Ks.length≤8:=by simp only[okR,Bool.and_eq_true,decide_eq_true_eq]at ok;exact ok.2.1
 have same:∀{h'},Fr [] h h'→Fr (bl::pm.toList) h h'∧∃pm',(pm'=pm∨∀q,pm'=some q→h.next≤q)∧Sto n0 h' b Ks cap X l kn st vK bg B bm S bl pm' mc:=fun f=>⟨frQ f,pm,.inl rfl,s.fr w f⟩;let⟨h0,e_h0,F_h0,o_h0⟩:=ao w [.ptr b 0];let⟨h1,e_h1,F_h1,o_h1⟩:=ao F_h0.wf [k0,.int .i64 a,c0,t0,v];have F01:=F_h0.then F_h1;have s1:=s.fr w F01;have l0:ag h1 h.next 0=some (.ptr b 0):=(F_h1.get o_h0).ld1 0;have l1:ag h1 h0.next 1=some (.int .i64 a):=o_h1.ld1 1;have l4:ag h1 h0.next 4=some v:=o_h1.ld1 4;by_cases c1:a<0;refine ab ?_;simp only[evs,↓reduceIte,Nat.reduceEqDiff,Nat.reduceAdd,DF,eff,Nat.reduceSub,←e_h0,←e_h1,l0,l1,eq_true c1];have e:kH Ks cap a X Y l (fun x=>(mc.1 x).isSome)=4:=by rw[kH,if_pos (.inl c1)]
 rw[e];exact⟨rfl,fun _=>same F01,fun e=>by cases e⟩;refine ab ?_;simp only[evs,↓reduceIte,Nat.reduceEqDiff,Nat.reduceAdd,eff,←e_h0,←e_h1,l0,l1,eq_false c1];apply aa (zW s1);rintro _ _ ⟨rfl,rfl⟩;by_cases c2:(X.length:Int)<a;simp only[evs,↓reduceIte,Nat.reduceEqDiff,Nat.reduceAdd,DF,eff,Nat.reduceSub,eq_true c2,l0,l1];have e:kH Ks cap a X Y l (fun x=>(mc.1 x).isSome)=4:=by rw[kH,if_pos (.inr c2)]
 rw[e];exact⟨rfl,fun _=>same F01,fun e=>by cases e⟩;simp only[evs,↓reduceIte,Nat.reduceEqDiff,Nat.reduceAdd,DF,eff,Nat.reduceSub,eq_false c2,l0,l1,l4,(sY.fr F01).len];apply aa (zW s1);rintro _ _ ⟨rfl,rfl⟩;have ne12:¬(a<0∨(X.length:Int)<a):=oM;by_cases c3:(1024:Int)-X.length<Y.length;simp(disch:=omega) only[evs,↓reduceIte,Nat.reduceEqDiff,Nat.reduceAdd,DF,eff,Nat.reduceSub,ah,eq_true c3,l0,l4];have e:kH Ks cap a X Y l (fun x=>(mc.1 x).isSome)=3:=by rw[kH,if_neg ne12,if_pos c3]
 rw[e];exact⟨rfl,fun _=>same F01,fun e=>by cases e⟩;have th:Fu h1 111 [.ptr h.next 0] (fun x=>(mc.1 x).isSome):=Gl (F_h1.get o_h0) s1.ob s1.k;simp(disch:=omega) only[evs,↓reduceIte,Nat.reduceEqDiff,Nat.reduceAdd,DF,eff,Nat.reduceSub,ah,eq_false c3,l0,l4];apply aa (wC F_h1.wf (RulesAt.fr ⟨vK,_,_,_,s.ob,rk,kh⟩ F01) hK (sY.fr F01) (fun y m=>(hYI y m).fr F01) hl th);rintro _ h2 ⟨rfl,F2⟩;have F02:=F01.then F2;have l0:=(F2.get (F_h1.get o_h0)).ld1 0;have l1:ag h2 h0.next 1=some (.int .i64 a):=(F2.get o_h1).ld1 1;have l4:ag h2 h0.next 4=some v:=(F2.get o_h1).ld1 4;by_cases c4:mA Ks cap (fun x=>(mc.1 x).isSome) [] Y=0;have good:=Ao c4;obtain⟨p,rfl⟩:∃p:Nat,a=p:=⟨a.toNat,oM⟩;have hp:p≤X.length:=oM;have hn:X.length+Y.length≤1024:=oM;have e:kH Ks cap p X Y l (fun x=>(mc.1 x).isSome)=cG l p (Y.map (aL Ks)):=by rw[kH,if_neg ne12,if_neg c3,if_neg iX];rfl
 have ht:∀y∈Y,y.type<Ks.length∧0<y.key:=by intro y m;have:=good y m;simp only[okI,Bool.and_eq_true,decide_eq_true_eq]at this;exact⟨this.2.1,oM⟩
 simp only[evs,↓reduceIte,Nat.reduceEqDiff,c4,l0,l1,l4];rw[e];have s2:=s.fr w F02;have n2:=F02.next;by_cases c5:cG l p (Y.map (aL Ks))=0;refine aa (Gt (p:=p) F2.wf s2 hp hn oM (fun Z x hZ f=>?_) (fun y m=>⟨hY y m,ht y m⟩) hX c5) ?_;refine sv Z x (fun z m=>?_) (Fr.trans F02 f w (fun x m=>by simp at m) (fun x m=>.inl m));obtain q|q:=hZ z m;exact .inl q;omega;rintro _ h4 ⟨rfl,Y',B',S',pm',cp,s4,F4,hB',hS',hp'⟩;have f4:Fr (Wr b bg B bm S bl pm) h h4:=Fr.trans F02 F4 w (fun x m=>by simp at m) (fun x m=>.inl m);rw[c5];simp only[evs,↓reduceIte];have q1:B'=B∨h.next≤B':=oM;have q2:S'=S∨h.next≤S':=oM;have q3:pm'=pm∨∀q,pm'=some q→h.next≤q:=by grind
 exact⟨fun e=>absurd rfl e,fun _=>⟨oM,oM,hn,Y',B',S',pm',cp,s4,f4,q1,q2,q3⟩⟩;apply aa (Gu (p:=p) F2.wf s2 hp oM hx (sY.fr F02) (fun y m=>⟨(hYI y m).fr F02,(ht y m).1⟩) c5);rintro _ h4 ⟨rfl,F4,pm',hp',s4⟩;have f4:Fr (bl::pm.toList) h h4:=Fr.trans F02 F4 w (fun x m=>by simp at m) (fun x m=>.inl m);simp only[evs,↓reduceIte,eq_false c5];have q3:pm'=pm∨∀q,pm'=some q→h.next≤q:=by grind
 exact⟨fun _=>⟨f4,pm',q3,s4⟩,fun e=>e.elim⟩;have e:kH Ks cap a X Y l (fun x=>(mc.1 x).isSome)=mA Ks cap (fun x=>(mc.1 x).isSome) [] Y:=by rw[kH,if_neg ne12,if_neg c3,if_pos c4]
 simp only[evs,↓reduceIte,Nat.reduceEqDiff,eq_false c4];rw[e];exact⟨rfl,fun _=>same F02,fun e=>absurd e c4⟩
theorem Sto.relay{n0:NL}{h h':Heap}{b bg B bm S bl c:Nat}{Ks:List Knd}{cap:Int}{X:List Itm}{l l':List Int}{kn st kn' st':List Bool}{vK:V}{pm pm':Option Nat}{mc:dX}(w:WF h)(s:Sto n0 h b Ks cap X l kn st vK bg B bm S bl pm mc)(f:Fr (b::bl::pm.toList) h h')
 (ob:Own h' b [vK,.int .i64 cap,.ptr bg 0,.ptr bm 0,.ptr c 0]) (a:LoP h' c pm' l' kn' st') (hl:l'.length=X.length) (hc:h.next≤c) (hp:∀q,pm'=some q→h.next≤q∧q≠c):Sto n0 h' b Ks cap X l' kn' st' vK bg B bm S c pm' mc:=by
 have d:=s.d;have fn:=f.next;have n0l:=s.n0l;have nb:∀y,b≠y→y≠bl→(∀q,pm=some q→q≠y)→y∉b::bl::pm.toList:=by grind
 have lb:=s.ob.lt w;have lg:bg<h.next:=s.g.ob.1.lt w;have lB:=s.gB.lt w;have lm:=s.k.lt w;have lS:=s.Sl';have ll:=s.bl';have pl:=a.pmlt f.wf;have dp:=d.p;have xg:=nb bg d.b1 d.g3 fun q e=>(dp q e).2.1;have xB:=nb B d.b2 d.t3 fun q e=>(dp q e).2.2.1;have xm:=nb bm d.b3 d.m1 fun q e=>(dp q e).2.2.2.1;have xS:=nb S d.b4 d.m2 fun q e=>(dp q e).2.2.2.2.1;refine⟨ob,s.g.fr f xg xB,s.gB.fr f xB,s.k.frS f xm xS,s.gS.fr f xS,a,hl,?_,?_,oM,pl.1,pl.2,fun z q=>by have:=n0l z q;omega⟩;intro Z h2 hZ f2;refine s.rd ((b::bl::pm.toList)++Z) h2 (fun z m=>?_) (Fr.trans f f2 w (fun x m=>.inl (List.mem_append.2 (.inl m))) (fun x m=>.inl (List.mem_append.2 (.inr m))));obtain m|m:=List.mem_append.1 m;refine .inl ?_;obtain rfl|m:=List.mem_cons.1 m;simp[Wr];obtain rfl|m:=List.mem_cons.1 m;simp[Wr];exact List.mem_append.2 (.inr m);obtain q|q|q:=hZ z m;obtain q|q:=List.mem_append.1 q;simp only[List.mem_cons,List.not_mem_nil,or_false]at q;obtain q|q|q|q|q|q:=q;exact .inl (by simp[Wr,q]);exact .inl (by simp[Wr,q]);exact .inl (by simp[Wr,q]);exact .inl (by simp[Wr,q]);exact .inl (by simp[Wr,q]);omega;grind;omega;exact .inr (.inr q);refine⟨d.b1,d.b2,d.b3,d.b4,oM,d.g1,d.g2,oM,d.t1,d.t2,oM,oM,oM,fun q e=>?_⟩;have:=hp q e;omega
theorem LoP.ne{h:Heap}{b:Nat}{pm:Option Nat}{l:List Int}{ks bs:List Bool}(a:LoP h b pm l ks bs):∀q,pm=some q→q≠b:=by let⟨p,vk,o,v1,ix,mk,e⟩:=a;rintro q rfl;let⟨ws,oq,x⟩:=mk;refine Own.ne oq o fun e=>?_;unfold flc at e;cases p<;>simp[pv]at e
theorem LoP.oth{h:Heap}{b:Nat}{pm:Option Nat}{l:List Int}{ks bs:List Bool}(a:LoP h b pm l ks bs):Oth h (b::pm.toList):=by
 let⟨p,vk,o,v1,ix,mk,e⟩:=a;apply Oth.app (A:=[b]) (Oth.own o iS (iN (n:=1) rfl));cases pm with
 |none=>exact fun x m=>by simp at m
 |some q=>
  let⟨ws,oq,x,_⟩:=mk;have wl:=x.len;refine Oth.own oq (by simp[flc];omega) ?_;intro L hL e;match ws,wl,L with
  |w1::w2::ws,_,(x1,x2)::(y1,y2)::L=>simp[flc,sp,uw]at e
  |w1::w2::ws,_,[(x1,x2)]=>simp[flc,sp,uw]at e
def htC(x:Nat×Int):List V:=[.int .u64 (x.1:Int),.int .i64 x.2]
def iO(m:Nat→Option Nat):List (Nat×Int)→Nat→List Int→List Bool→Int×Nat×List Int×List Bool
 |[],i,l,kn=>(0,i,l,kn)
 |x::r,i,l,kn=>match m x.1 with
  |none=>(11,i,l,kn)
  |some j=>if cg l j x.2=0 then iO m r (i+1) (l.set j x.2) (kn.set j true)else(cg l j x.2,i,l,kn)
theorem v7{n0:NL}{h:Heap}{b bg B bm S bl:Nat}{Ks:List Knd}{cap:Int}{X:List Itm}{l:List Int}{kn st:List Bool}{vK v:V}{pm:Option Nat}{mc:dX}{H:List (Nat×Int)}(w:WF h)(s:Sto n0 h b Ks cap X l kn st vK bg B bm S bl pm mc)
 (sv:∀(Z:List Nat)(h':Heap),(∀z∈Z,z∈Wr b bg B bm S bl pm∨h.next≤z)→Fr Z h h'→ARecs htC 2 h' v H) (hH:∀x∈H,x.1<18446744073709551616∧-9223372036854775808≤x.2∧x.2≤9223372036854775807) (hl:H.length≤4096) (hm:∀k j,mc.1 k=some j→j≤4096):
 aj go 15 [.ptr b 0,v] h fun u h'=>u=.tup [.int .i64 ((iO mc.1 H 0 l kn).2.1:Int),.int .i64 (iO mc.1 H 0 l kn).1]∧
  ((iO mc.1 H 0 l kn).1=0→Fr (bl::pm.toList) h h'∧Sto n0 h' b Ks cap X (iO mc.1 H 0 l kn).2.2.1 (iO mc.1 H 0 l kn).2.2.2 st vK bg B bm S bl pm mc)∧
  ((iO mc.1 H 0 l kn).1≠0→Fr (b::bl::pm.toList) h h'∧∃c pm',h.next≤c∧(∀q,pm'=some q→h.next≤q)∧Sto n0 h' b Ks cap X l kn st vK bg B bm S c pm' mc):=by
 have l4:ag h b 4=some (.ptr bl 0):=s.ob.ld1 4;have sH:=sv [] h iS (Fr.refl w);refine ab ?_;simp only[evs,seval];refine aa (pu s) ?_;rintro _ _ ⟨rfl,rfl⟩;simp only[evs,seval,l4];apply aa (CC w s.lo);rintro _ h1 ⟨c,pm1,rfl,hc,hp,a1,F1⟩;simp only[evs,seval,(sH.fr F1).len];have mk1:=LoP.ne a1;have n1:=F1.next;have wm:∀z,z∈bl::pm.toList→z∈Wr b bg B bm S bl pm:=by intro z m;obtain rfl|m:=List.mem_cons.1 m;simp[Wr];exact List.mem_append.2 (.inr m)
 have wl:∀z,z∈bl::pm.toList→z<h.next:=by intro z m;obtain rfl|m:=List.mem_cons.1 m;exact s.bl';exact s.pl z (eV m)
 have bn:=s.ob.lt w;refine aA (fun n env hh=>Fr (bl::pm.toList) h1 hh∧∃(i:Nat)(l2:List Int)(kn2:List Bool),LoP hh c pm1 l kn st∧Sto n0 hh b Ks cap X l2 kn2 st vK bg B bm S bl pm mc∧
  env.get 21=some (.int .i64 i)∧env.get 20=some (.int .i64 H.length)∧env.get 19=some v∧env.get 0=some (.ptr b 0)∧env.get 1=some v∧env.get 6=some (.ptr c 0)∧i≤H.length∧iO mc.1 (H.drop i) i l2 kn2=iO mc.1 H 0 l kn∧n=H.length-i) H.length oM ?_ ?_
 exact⟨frQ (Fr.refl F1.wf),0,l,kn,a1,s.fr w F1,iS,iS,iS,iS,iS,iS,oM,rfl,rfl⟩;rintro n env hh ⟨F,i,l2,kn2,ac,ss,g21,g20,g19,g0,g1,g6,hi,em,rfl⟩;have Fh:Fr (bl::pm.toList) h hh:=Fr.trans F1 F w iS (fun x m=>.inl m);have sHh:=sv (bl::pm.toList) hh (fun z m=>.inl (wm z m)) Fh;by_cases hlt:i<H.length;have hlt':(i:Int)<H.length:=oM;let⟨bi,oi,x,p1,_,p3,p4⟩:=sHh.ix (f:=htC) (k:=2) (fun _=>rfl) .i64 (i:Int) oM hlt';rw[Int.toNat_natCast]at p4;let⟨k0,z0,z1⟩:=hH x (List.mem_of_getElem? p4);have hd:H.drop i=x::H.drop (i+1):=aG p4;let⟨h3,e_h3,F_h3,o_h3⟩:=ao F.wf [.int .u64 0,.int .i64 0];simp only[evs,seval,g21,g20,g19,hlt',p1,p3,←e_h3];apply stu F_h3.wf o_h3;rintro h4 o4 F4 n4;have F04:Fr [] hh h4:=F_h3.fresh F4 F.wf (Nat.le_refl _);have s4:=ss.fr F.wf F04;have x0:ag h4 hh.next 0=some (.int .u64 (x.1:Int)):=o4.ld1 0;have x1:ag h4 hh.next 1=some (.int .i64 x.2):=o4.ld1 1;have b3:ag h4 b 3=some (.ptr bm 0):=s4.ob.ld1 3;simp only[evs,seval,eff,g0,x0,b3];apply aa (pw F04.wf s4.k k0);rintro _ h5 ⟨rfl,F5⟩;have F05:=F04.then F5;have s5:=ss.fr F.wf F05;have x1:ag h5 hh.next 1=some (.int .i64 x.2):=(F5.get o4).ld1 1;have b4:ag h5 b 4=some (.ptr bl 0):=s5.ob.ld1 4;cases ek:mc.1 x.1 with
 |none=>
  have e:iO mc.1 H 0 l kn=(11,i,l2,kn2):=by rw[←em,hd];simp[iO,ek]
  rw[e];simp only[evs,seval,DF,eff,fZ,x0,b3,g0,g6,(dI:¬(11:Int)=0)];apply stu F05.wf s5.ob;rintro h6 o6 F6 n6;have ac6:LoP h6 c pm1 l kn st:=(ac.fr F05).frS F6 (Oth.own s5.ob iS (iN (n:=2) rfl)) oO (fun q e=>by have:=hp q e;simp;omega);have f6:Fr (b::bl::pm.toList) h h6:=Fr.trans (Fr.trans Fh F05 w (fun x m=>.inl m) (fun x m=>by simp at m)) F6 w (fun x m=>.inl (List.mem_cons_of_mem _ m)) (fun x m=>.inl (by simp at m;simp[m]));have s6:=s.relay w f6 o6 ac6 s.len hc (fun q e=>⟨hp q e,mk1 q e⟩);simp only[evs,seval];exact⟨fun e=>e.elim,fun _=>⟨f6,c,pm1,hc,hp,s6⟩⟩
 |some j=>
  have jl:=hm _ _ ek;simp only[evs,seval,DF,eff,fZ,x0,b3,x1,b4,g0];apply aa (Iob F05.wf s5.lo z0 z1 oM oM);rintro _ h6 ⟨rfl,a6,F6⟩;have b46:ag h6 b 4=some (.ptr bl 0):=(F6.own b _ (fun m=>by have:=s.d;obtain m|m:=List.mem_cons.1 m;exact this.b5 m;exact(this.p b (eV m)).1 rfl) s5.ob).ld1 4
  have x16:ag h6 hh.next 1=some (.int .i64 x.2):=(F6.own _ _ (fun m=>by have:=F.next;have:=wl _ m;omega) (F5.get o4)).ld1 1;have ac6:LoP h6 c pm1 l kn st:=(ac.fr F05).frS F6 s5.lo.oth (fun m=>by have:=wl _ m;omega) (fun q e m=>by have:=hp q e;have:=wl _ m;omega);by_cases c5:cg l2 j x.2=0;rw[if_pos c5]at a6;have s6:=s5.lay F05.wf F6 a6 (eG ss.len) (.inl rfl);have F16:Fr (bl::pm.toList) h1 h6:=Fr.trans (Fr.trans F F05 F1.wf (fun x m=>.inl m) (fun x m=>by simp at m)) F6 F1.wf (fun x m=>.inl m) (fun x m=>.inl m);have e:iO mc.1 (H.drop (i+1)) (i+1) (l2.set j x.2) (kn2.set j true)=iO mc.1 H 0 l kn:=by rw[←em,hd];simp[iO,ek,c5]
  simp(disch:=omega) only[evs,seval,DF,eff,ah,x1,b4,g21,eq_true c5];refine rqn ⟨H.length-(i+1),oM,F16,i+1,_,_,ac6,s6,iS,iX,iX,iX,iX,iX,oM,e,rfl⟩;rw[if_neg c5]at a6;have s6:=s5.lay F05.wf F6 a6 ss.len (.inl rfl);have e:iO mc.1 H 0 l kn=(cg l2 j x.2,i,l2,kn2):=by rw[←em,hd];simp[iO,ek,c5]
  rw[e];simp only[evs,seval,DF,eff,x1,b4,g0,g6,eq_false c5];apply stu F6.wf s6.ob;rintro h7 o7 F7 n7;have ac7:LoP h7 c pm1 l kn st:=ac6.frS F7 (Oth.own s6.ob iS (iN (n:=2) rfl)) oO (fun q e=>by have:=hp q e;simp;omega);have f7:Fr (b::bl::pm.toList) h h7:=Fr.trans (Fr.trans (Fr.trans Fh F05 w (fun x m=>.inl m) (fun x m=>by simp at m)) F6 w (fun x m=>.inl m) (fun x m=>.inl m)) F7 w (fun x m=>.inl (List.mem_cons_of_mem _ m)) (fun x m=>.inl (by simp at m;simp[m]));have s7:=s.relay w f7 o7 ac7 s.len hc (fun q e=>⟨hp q e,mk1 q e⟩);simp only[evs,seval];exact⟨fun e=>e.elim,fun _=>⟨f7,c,pm1,hc,hp,s7⟩⟩
 have:i=H.length:=oM;subst this;rw[List.drop_length]at em;rw[←em];have hlt':¬(H.length:Int)<H.length:=oM;simp only[evs,seval,g21,g20,g1,eq_false hlt',sHh.len];exact⟨rfl,fun _=>⟨Fh,ss⟩,fun e=>absurd rfl e⟩
def lE:List V:=[.str [],.bool false,.bool false,.bool false,.bool false,.nilf,.str [105,110,115,101,114,116],.bool true,.bool false,.bool false,.bool true,.func (.func 168) [] [],.str [114,101,109,111,118,101],.bool true,.bool true,.bool false,.bool false,.func (.func 170) [] [],
 .str [109,111,118,101],.bool true,.bool true,.bool true,.bool false,.func (.func 171) [] [],.str [99,104,97,110,103,101],.bool true,.bool false,.bool false,.bool true,.func (.func 173) [] [],.str [114,101,115,101,116],.bool false,.bool false,.bool false,.bool true,.func (.func 175) [] []]
theorem DK{h:Heap}(w:WF h):aj go 109 [] h fun u h'=>u=.agg lE∧Fr [] h h':=by
 let⟨h1,e_h1,F_h1,o_h1⟩:=ao w [.str [],.bool false,.bool false,.bool false,.bool false,.nilf,.str [],.bool false,.bool false,.bool false,.bool false,.nilf,.str [],.bool false,.bool false,.bool false,.bool false,.nilf,.str [],.bool false,.bool false,.bool false,.bool false,.nilf,.str [],.bool false,.bool false,.bool false,.bool false,.nilf,.str [],.bool false,.bool false,.bool false,.bool false,.nilf];refine ab ?_;simp only[evs,seval,←e_h1];refine stu F_h1.wf o_h1 ?_;rintro h2 o2 F2 n2;have l2:ak h2 h.next 0 36=some lE:=by rw[o2.ld];rfl
 have F02:Fr [] h h2:=F_h1.fresh F2 w (Nat.le_refl _);simp only[evs,seval,l2];exact F02
def dH(k:Nat)(a c t:Int)(n:Nat):Int:=
 if k<1∨5<k then 1 else if(k=5∧a≠0)∨(¬(k=2∨k=3)∧c≠0)∨(k≠3∧t≠0)∨((k=2∨k=3)∧0<n)then 5 else 0
theorem Ko{call:aC}{env:T V}{late:List Nat}{s:IStep}{l:List IStep}{i:Nat}{loc:List V}{h:Heap}(hi:late.contains i=false)(he:eff s.op=false)(e:aK call loc env h s.op=none):
 lay call env late (s::l) i loc h=(lay call env late l (i+1) (.tup []::loc) h).map fun r=>((s,none)::r.1,r.2):=by
 simp only[lay,hi,cond_false,sV,he,e];cases lay call env late l (i+1) (V.tup []::loc) h<;>rfl
abbrev v9:List V:=[.str [],.bool false,.bool false,.bool false,.bool false,.nilf]
theorem Ll{env:T V}{h:Heap}{b1:Nat}{k:Nat}(g1:env.get 1=some (.ptr b1 0))(l0:ag h b1 0=some (.int .u8 (k:Int))):
 lay go env [4] [⟨none,.cf 109 [],none⟩,⟨none,.p (.faddr 0) [.v 1],none⟩,⟨none,.ld 1 false (.l 0),none⟩,⟨none,.p (.ixarr 6 6 true) [.l 2,.l 0],none⟩,⟨none,.al v9,none⟩,⟨none,.st 6 (.l 0) (.l 1),none⟩] 0 [] h=
  some ([(⟨none,.cf 109 [],none⟩,none),(⟨none,.p (.faddr 0) [.v 1],none⟩,none),(⟨none,.ld 1 false (.l 0),none⟩,none),(⟨none,.p (.ixarr 6 6 true) [.l 2,.l 0],none⟩,none),(⟨none,.al v9,none⟩,some (.ptr h.next 0,v9)),(⟨none,.st 6 (.l 0) (.l 1),none⟩,none)],halloc h v9):=by
 have ev_fa:∀(loc:List V)(h:Heap)(k:Nat),aK go loc env h (.p (.faddr k) [.v 1])=some (.ptr b1 k,h):=fun loc h k=>by simp only[aK,eg,bY,ga,g1,bK,iA,Nat.zero_add]
 have ev_ld:∀(loc:List V)(h:Heap)(k:Nat)(v:V),ag h b1 k=some v→aK go (.ptr b1 k::loc) env h (.ld 1 false (.l 0))=some (v,h):=fun loc h k v e=>by simp only[aK,kS,bj,dV,e]
 rw[wx rfl rfl,cI rfl rfl (ev_fa _ _ _),cI rfl rfl (ev_ld _ _ _ _ l0),Ko rfl rfl rfl,Aj (c:=v9) (k:=none) rfl rfl,wx rfl rfl];rfl
theorem wy(loc:List V)(env:T V)(n:Nat):bJ loc env (.al v9) (.ptr n 0) v9=true:=by simp[bJ,io,kV,vEq,dF,lid]
theorem By{h:Heap}{k n:Nat}{a c t:Int}{v:V}{cs:List V}(w:WF h)(hk:k<256)(sl:ASl h 4 v n cs):
 aj go 56 [.agg [.int .u8 (k:Int),.int .i64 a,.int .i64 c,.int .i64 t,v]] h fun u h'=>u=.int .i64 (dH k a c t n)∧Fr [] h h':=by
 have v1:v.one=true:=ASl.one sl;let⟨h1,e_h1,F_h1,o_h1⟩:=ao w [.int .u8 (k:Int),.int .i64 a,.int .i64 c,.int .i64 t,v];have l0:ag h1 h.next 0=some (.int .u8 (k:Int)):=o_h1.ld1 0;by_cases c1:k<1;have c1':(k:Int)<1:=oM;refine ab ?_;simp only[evs,↓reduceIte,Nat.reduceEqDiff,←e_h1,l0,eq_true c1'];rw[dH,if_pos (.inl c1)];exact⟨rfl,F_h1⟩;have c1':¬(k:Int)<1:=oM;by_cases c2:5<k;have c2':(5:Int)<k:=oM;refine ab ?_;simp only[evs,↓reduceIte,Nat.reduceEqDiff,←e_h1,l0,eq_false c1',eq_true c2'];rw[dH,if_pos (.inr c2)];exact⟨rfl,F_h1⟩;have c2':¬(5:Int)<k:=oM;refine ab ?_;simp only[evs,↓reduceIte,Nat.reduceEqDiff,←e_h1,l0,eq_false c1',eq_false c2'];refine(Cp _ _ _ _ _ _).2 ?_;rw[Ll (b1:=h.next) iS l0,iD];let⟨h3,e_h3,F_h3,o_h3⟩:=ao F_h1.wf v9;simp only[evs,eff,←e_h3];refine aa (DK F_h3.wf) ?_;rintro _ h4 ⟨rfl,F4⟩;have l0:ag h4 h.next 0=some (.int .u8 (k:Int)):=((F_h3.then F4).get o_h1).ld1 0;have ob:=F4.get o_h3;have l03:ag h3 h.next 0=some (.int .u8 (k:Int)):=(F_h3.get o_h1).ld1 0;have nq:h1.next≠h.next:=by rw[e_h1];simp[halloc]
 obtain rfl|rfl|rfl|rfl|rfl:k=1∨k=2∨k=3∨k=4∨k=5:=oM;have ax:aP (PK.ixarr 6 6 true) [.agg lE,.int .u8 ((1:Nat):Int)]=some (.agg [.str [105,110,115,101,114,116],.bool true,.bool false,.bool false,.bool true,.func (.func 168) [] []]):=rfl;simp only[evs,↓reduceIte,Nat.reduceEqDiff,eff,l0,dg,wy,ax];refine stu F4.wf ob ?_;rintro h5 o5 F5 n5;have F35:Fr [] h1 h5:=(F_h3.then F4).fresh F5 F_h1.wf (Nat.le_refl _);have F15:=F_h1.then F35;have om:=F35.get o_h1;have m0:=om.ld1 0;have m1:=om.ld1 1;have m2:=om.ld1 2;have m3:=om.ld1 3;have m4:=om.ld1 4;have r1:=o5.ld1 1;have r2:=o5.ld1 2;have r3:=o5.ld1 3;have r4:=o5.ld1 4;simp only[bj,bR]at m0 m1 m2 m3 m4 r1 r2 r3 r4;by_cases hc:c=0;by_cases ht:t=0;simp only[evs,↓reduceIte,Nat.reduceEqDiff,Nat.reduceAdd,DF,Nat.reduceSub,l0,l03,m2,m3,r1,r2,r3,r4,eq_true hc,eq_true ht];exact⟨by rw[dH,if_neg oM];split<;>first|rfl|omega,F15⟩
 simp only[evs,↓reduceIte,Nat.reduceEqDiff,Nat.reduceAdd,DF,Nat.reduceSub,l0,l03,m2,m3,r1,r2,r3,eq_true hc,eq_false ht];exact⟨by rw[dH,if_neg oM];split<;>first|rfl|omega,F15⟩
 by_cases ht:t=0;simp only[evs,↓reduceIte,Nat.reduceEqDiff,Nat.reduceAdd,DF,Nat.reduceSub,l0,l03,m2,r1,r2,eq_false hc];exact⟨by rw[dH,if_neg oM];split<;>first|rfl|omega,F15⟩
 simp only[evs,↓reduceIte,Nat.reduceEqDiff,Nat.reduceAdd,DF,Nat.reduceSub,l0,l03,m2,r1,r2,eq_false hc];exact⟨by rw[dH,if_neg oM];split<;>first|rfl|omega,F15⟩
 have ax:aP (PK.ixarr 6 6 true) [.agg lE,.int .u8 ((2:Nat):Int)]=some (.agg [.str [114,101,109,111,118,101],.bool true,.bool true,.bool false,.bool false,.func (.func 170) [] []]):=rfl;simp only[evs,↓reduceIte,Nat.reduceEqDiff,eff,l0,dg,wy,ax];refine stu F4.wf ob ?_;rintro h5 o5 F5 n5;have F35:Fr [] h1 h5:=(F_h3.then F4).fresh F5 F_h1.wf (Nat.le_refl _);have F15:=F_h1.then F35;have om:=F35.get o_h1;have m0:=om.ld1 0;have m1:=om.ld1 1;have m2:=om.ld1 2;have m3:=om.ld1 3;have m4:=om.ld1 4;have r1:=o5.ld1 1;have r2:=o5.ld1 2;have r3:=o5.ld1 3;have r4:=o5.ld1 4;simp only[bj,bR]at m0 m1 m2 m3 m4 r1 r2 r3 r4;by_cases ht:t=0;by_cases hn:(0:Int)<(n:Int);simp only[evs,↓reduceIte,Nat.reduceEqDiff,Nat.reduceAdd,DF,Nat.reduceSub,l0,l03,m3,m4,r1,r2,r3,r4,(sl.fr F15).len,eq_true ht,eq_true hn];exact⟨by rw[dH,if_neg oM];split<;>first|rfl|omega,F15⟩
 simp only[evs,↓reduceIte,Nat.reduceEqDiff,Nat.reduceAdd,DF,Nat.reduceSub,l0,l03,m3,m4,r1,r2,r3,r4,(sl.fr F15).len,eq_true ht,eq_false hn];exact⟨by rw[dH,if_neg oM];split<;>first|rfl|omega,F15⟩
 by_cases hn:(0:Int)<(n:Int);simp only[evs,↓reduceIte,Nat.reduceEqDiff,Nat.reduceAdd,DF,Nat.reduceSub,l0,l03,m3,r1,r2,r3,eq_false ht];exact⟨by rw[dH,if_neg oM];split<;>first|rfl|omega,F15⟩
 simp only[evs,↓reduceIte,Nat.reduceEqDiff,Nat.reduceAdd,DF,Nat.reduceSub,l0,l03,m3,r1,r2,r3,eq_false ht];exact⟨by rw[dH,if_neg oM];split<;>first|rfl|omega,F15⟩
 have ax:aP (PK.ixarr 6 6 true) [.agg lE,.int .u8 ((3:Nat):Int)]=some (.agg [.str [109,111,118,101],.bool true,.bool true,.bool true,.bool false,.func (.func 171) [] []]):=rfl;simp only[evs,↓reduceIte,Nat.reduceEqDiff,eff,l0,dg,wy,ax];refine stu F4.wf ob ?_;rintro h5 o5 F5 n5;have F35:Fr [] h1 h5:=(F_h3.then F4).fresh F5 F_h1.wf (Nat.le_refl _);have F15:=F_h1.then F35;have om:=F35.get o_h1;have m0:=om.ld1 0;have m1:=om.ld1 1;have m2:=om.ld1 2;have m3:=om.ld1 3;have m4:=om.ld1 4;have r1:=o5.ld1 1;have r2:=o5.ld1 2;have r3:=o5.ld1 3;have r4:=o5.ld1 4;simp only[bj,bR]at m0 m1 m2 m3 m4 r1 r2 r3 r4;by_cases hn:(0:Int)<(n:Int);simp only[evs,↓reduceIte,Nat.reduceEqDiff,Nat.reduceAdd,DF,Nat.reduceSub,l0,l03,m4,r1,r2,r3,r4,(sl.fr F15).len,eq_true hn];exact⟨by rw[dH,if_neg oM];split<;>first|rfl|omega,F15⟩
 simp only[evs,↓reduceIte,Nat.reduceEqDiff,Nat.reduceAdd,DF,Nat.reduceSub,l0,l03,m4,r1,r2,r3,r4,(sl.fr F15).len,eq_false hn];exact⟨by rw[dH,if_neg oM];split<;>first|rfl|omega,F15⟩
 have ax:aP (PK.ixarr 6 6 true) [.agg lE,.int .u8 ((4:Nat):Int)]=some (.agg [.str [99,104,97,110,103,101],.bool true,.bool false,.bool false,.bool true,.func (.func 173) [] []]):=rfl;simp only[evs,↓reduceIte,Nat.reduceEqDiff,eff,l0,dg,wy,ax];refine stu F4.wf ob ?_;rintro h5 o5 F5 n5;have F35:Fr [] h1 h5:=(F_h3.then F4).fresh F5 F_h1.wf (Nat.le_refl _);have F15:=F_h1.then F35;have om:=F35.get o_h1;have m0:=om.ld1 0;have m1:=om.ld1 1;have m2:=om.ld1 2;have m3:=om.ld1 3;have m4:=om.ld1 4;have r1:=o5.ld1 1;have r2:=o5.ld1 2;have r3:=o5.ld1 3;have r4:=o5.ld1 4;simp only[bj,bR]at m0 m1 m2 m3 m4 r1 r2 r3 r4;by_cases hc:c=0;by_cases ht:t=0;simp only[evs,↓reduceIte,Nat.reduceEqDiff,Nat.reduceAdd,DF,Nat.reduceSub,l0,l03,m2,m3,r1,r2,r3,r4,eq_true hc,eq_true ht];exact⟨by rw[dH,if_neg oM];split<;>first|rfl|omega,F15⟩
 simp only[evs,↓reduceIte,Nat.reduceEqDiff,Nat.reduceAdd,DF,Nat.reduceSub,l0,l03,m2,m3,r1,r2,r3,eq_true hc,eq_false ht];exact⟨by rw[dH,if_neg oM];split<;>first|rfl|omega,F15⟩
 by_cases ht:t=0;simp only[evs,↓reduceIte,Nat.reduceEqDiff,Nat.reduceAdd,DF,Nat.reduceSub,l0,l03,m2,r1,r2,eq_false hc];exact⟨by rw[dH,if_neg oM];split<;>first|rfl|omega,F15⟩
 simp only[evs,↓reduceIte,Nat.reduceEqDiff,Nat.reduceAdd,DF,Nat.reduceSub,l0,l03,m2,r1,r2,eq_false hc];exact⟨by rw[dH,if_neg oM];split<;>first|rfl|omega,F15⟩
 have ax:aP (PK.ixarr 6 6 true) [.agg lE,.int .u8 ((5:Nat):Int)]=some (.agg [.str [114,101,115,101,116],.bool false,.bool false,.bool false,.bool true,.func (.func 175) [] []]):=rfl;simp only[evs,↓reduceIte,Nat.reduceEqDiff,eff,l0,dg,wy,ax];refine stu F4.wf ob ?_;rintro h5 o5 F5 n5;have F35:Fr [] h1 h5:=(F_h3.then F4).fresh F5 F_h1.wf (Nat.le_refl _);have F15:=F_h1.then F35;have om:=F35.get o_h1;have m0:=om.ld1 0;have m1:=om.ld1 1;have m2:=om.ld1 2;have m3:=om.ld1 3;have m4:=om.ld1 4;have r1:=o5.ld1 1;have r2:=o5.ld1 2;have r3:=o5.ld1 3;have r4:=o5.ld1 4;simp only[bj,bR]at m0 m1 m2 m3 m4 r1 r2 r3 r4;by_cases ha:a=0;by_cases hc:c=0;by_cases ht:t=0;simp only[evs,↓reduceIte,Nat.reduceEqDiff,Nat.reduceAdd,DF,Nat.reduceSub,l0,l03,m1,m2,m3,r1,r2,r3,r4,eq_true ha,eq_true hc,eq_true ht];exact⟨by rw[dH,if_neg oM];split<;>first|rfl|omega,F15⟩
 simp only[evs,↓reduceIte,Nat.reduceEqDiff,Nat.reduceAdd,DF,Nat.reduceSub,l0,l03,m1,m2,m3,r1,r2,r3,eq_true ha,eq_true hc,eq_false ht];exact⟨by rw[dH,if_neg oM];split<;>first|rfl|omega,F15⟩
 by_cases ht:t=0;simp only[evs,↓reduceIte,Nat.reduceEqDiff,Nat.reduceAdd,DF,Nat.reduceSub,l0,l03,m1,m2,r1,r2,eq_true ha,eq_false hc];exact⟨by rw[dH,if_neg oM];split<;>first|rfl|omega,F15⟩
 simp only[evs,↓reduceIte,Nat.reduceEqDiff,Nat.reduceAdd,DF,Nat.reduceSub,l0,l03,m1,m2,r1,r2,eq_true ha,eq_false hc];exact⟨by rw[dH,if_neg oM];split<;>first|rfl|omega,F15⟩
 by_cases hc:c=0;by_cases ht:t=0;simp only[evs,↓reduceIte,Nat.reduceEqDiff,Nat.reduceAdd,DF,Nat.reduceSub,l0,l03,m1,r1,eq_false ha];exact⟨by rw[dH,if_neg oM];split<;>first|rfl|omega,F15⟩
 simp only[evs,↓reduceIte,Nat.reduceEqDiff,Nat.reduceAdd,DF,Nat.reduceSub,l0,l03,m1,r1,eq_false ha];exact⟨by rw[dH,if_neg oM];split<;>first|rfl|omega,F15⟩
 by_cases ht:t=0;simp only[evs,↓reduceIte,Nat.reduceEqDiff,Nat.reduceAdd,DF,Nat.reduceSub,l0,l03,m1,r1,eq_false ha];exact⟨by rw[dH,if_neg oM];split<;>first|rfl|omega,F15⟩
 simp only[evs,↓reduceIte,Nat.reduceEqDiff,Nat.reduceAdd,DF,Nat.reduceSub,l0,l03,m1,r1,eq_false ha];exact⟨by rw[dH,if_neg oM];split<;>first|rfl|omega,F15⟩
theorem mR{z:Str}{i:Nat}(hi:i<z.length)(p:Int→Bool):dU p (z.drop i)=(p ((z[i]).toNat:Int)||dU p (z.drop (i+1))):=by unfold dU;rw[List.drop_eq_getElem_cons hi,List.any_cons]
theorem pz{z:Str}{i:Nat}(hi:z.length≤i)(p:Int→Bool):dU p (z.drop i)=false:=by rw[List.drop_of_length_le hi];rfl
def jD(b:Bool):Int:=if b then 1 else 0
theorem jY{h:Heap}{z:Str}:aj go 138 [.str z] h fun u h'=>u=.int .i64 (jD (okT z))∧h=h':=by
 by_cases c1:(64:Int)<(z.length:Nat);refine ab ?_;simp only[evs,seval,aD,eq_true c1];have:okT z=false:=by unfold okT;rw[decide_eq_false oM];rfl
 rw[this];rfl;refine ab ?_;simp only[evs,seval,aD,eq_false c1];refine aA (fun k env hh=>hh=h∧∃(i:Nat),env.get 3=some (.int .i64 i)∧env.get 0=some (.str z)∧i≤z.length∧dU gH (z.drop i)=dU gH z∧k=z.length-i) z.length oM ?_ ?_;exact⟨rfl,0,iS,iS,oM,rfl,rfl⟩;rintro k env hh ⟨rfl,i,g3,g0,hi,e,rfl⟩;by_cases hlt:i<z.length;have hlt':(i:Int)<z.length:=oM;rw[mR hlt]at e;by_cases c2:((z[i]).toNat:Int)<32;simp only[evs,seval,g3,g0,aD,hlt',bF hlt,eq_true c2];have:okT z=false:=by unfold okT;rw[←e];simp[gH,c2]
 rw[this];rfl;by_cases c3:(126:Int)<((z[i]).toNat:Int);simp only[evs,seval,g3,g0,aD,hlt',bF hlt,eq_false c2,eq_true c3];have:okT z=false:=by unfold okT;rw[←e];simp[gH,c3]
 rw[this];rfl;simp(disch:=omega) only[evs,seval,ah,g3,g0,aD,hlt',bF hlt,eq_false c2,eq_false c3];have b0:gH ((z[i]).toNat:Int)=false:=by simp only[gH,Bool.or_eq_false_iff,decide_eq_false_iff_not];exact⟨c2,c3⟩
 rw[b0,Bool.false_or]at e;refine rqn ⟨z.length-(i+1),oM,rfl,i+1,iS,iX,oM,e,rfl⟩;simp only[evs,seval,g3,g0,aD,(oM:¬(i:Int)<z.length)];rw[pz oM]at e;have:okT z=true:=by unfold okT;rw[←e,decide_eq_true oM];rfl
 rw[this];rfl
theorem jy{h:Heap}{z:Str}:aj go 200 [.str z] h fun u h'=>u=.bool (okT z)∧h=h':=by
 by_cases c1:(64:Int)<(z.length:Nat);refine ab ?_;simp only[evs,seval,aD,eq_true c1];have:okT z=false:=by unfold okT;rw[decide_eq_false oM];rfl
 rw[this];refine ab ?_;simp only[evs,seval,aD,eq_false c1];refine aA (fun k env hh=>hh=h∧∃(i:Nat),env.get 3=some (.int .i64 i)∧env.get 0=some (.str z)∧i≤z.length∧dU gH (z.drop i)=dU gH z∧k=z.length-i) z.length oM ?_ ?_;exact⟨rfl,0,iS,iS,oM,rfl,rfl⟩;rintro k env hh ⟨rfl,i,g3,g0,hi,e,rfl⟩;by_cases hlt:i<z.length;have hlt':(i:Int)<z.length:=oM;rw[mR hlt]at e;by_cases c2:((z[i]).toNat:Int)<32;simp only[evs,seval,g3,g0,aD,hlt',bF hlt,eq_true c2];have:okT z=false:=by unfold okT;rw[←e];simp[gH,c2]
 rw[this];by_cases c3:(126:Int)<((z[i]).toNat:Int);simp only[evs,seval,g3,g0,aD,hlt',bF hlt,eq_false c2,eq_true c3];have:okT z=false:=by unfold okT;rw[←e];simp[gH,c3]
 rw[this];simp(disch:=omega) only[evs,seval,ah,g3,g0,aD,hlt',bF hlt,eq_false c2,eq_false c3];have b0:gH ((z[i]).toNat:Int)=false:=by simp only[gH,Bool.or_eq_false_iff,decide_eq_false_iff_not];exact⟨c2,c3⟩
 rw[b0,Bool.false_or]at e;refine rqn ⟨z.length-(i+1),oM,rfl,i+1,iS,iX,oM,e,rfl⟩;simp only[evs,seval,g3,g0,aD,(oM:¬(i:Int)<z.length)];rw[pz oM]at e;have:okT z=true:=by unfold okT;rw[←e,decide_eq_true oM];rfl
 rw[this]
theorem Du{h:Heap}{z:Str}:aj go 139 [.str z] h fun u h'=>u=.int .i64 (jD (okN z))∧h=h':=by
 by_cases c0:(z.length:Int)<1;refine ab ?_;simp only[evs,seval,aD,eq_true c0];have:okN z=false:=by unfold okN;rw[decide_eq_false oM];rfl
 rw[this];rfl;by_cases c1:(16:Int)<(z.length:Nat);refine ab ?_;simp only[evs,seval,aD,eq_false c0,eq_true c1];have:okN z=false:=by unfold okN;rw[decide_eq_false (oM:¬z.length≤16)];simp
 rw[this];rfl;refine ab ?_;simp only[evs,seval,aD,eq_false c0,eq_false c1];refine aA (fun k env hh=>hh=h∧∃(i:Nat),env.get 3=some (.int .i64 i)∧env.get 0=some (.str z)∧i≤z.length∧dU cQ (z.drop i)=dU cQ z∧k=z.length-i) z.length oM ?_ ?_;exact⟨rfl,0,iS,iS,oM,rfl,rfl⟩;rintro k env hh ⟨rfl,i,g3,g0,hi,e,rfl⟩;by_cases hlt:i<z.length;have hlt':(i:Int)<z.length:=oM;rw[mR hlt]at e;have bad:cQ ((z[i]).toNat:Int)=true→okN z=false:=fun q=>by unfold okN;rw[←e,q];simp
 have good:cQ ((z[i]).toNat:Int)=false→dU cQ (z.drop (i+1))=dU cQ z:=fun q=>by rw[←e,q];rfl
 by_cases c1:(97:Int)≤((z[i]).toNat:Int);by_cases c2:((z[i]).toNat:Int)≤122;simp(disch:=omega) only[evs,seval,ah,g3,g0,aD,hlt',bF hlt,eq_true c1,eq_true c2];refine rqn ⟨z.length-(i+1),oM,rfl,i+1,iS,iX,oM,good (by simp[cQ];omega),rfl⟩;by_cases c3:(48:Int)≤((z[i]).toNat:Int);have c4:¬((z[i]).toNat:Int)≤57:=oM;simp only[evs,seval,g3,g0,aD,hlt',bF hlt,eq_true c1,eq_false c2,eq_true c3,eq_false c4];rw[bad (by simp[cQ];omega)];rfl;omega;by_cases c3:(48:Int)≤((z[i]).toNat:Int);by_cases c4:((z[i]).toNat:Int)≤57;simp(disch:=omega) only[evs,seval,ah,g3,g0,aD,hlt',bF hlt,eq_false c1,eq_true c3,eq_true c4];refine rqn ⟨z.length-(i+1),oM,rfl,i+1,iS,iX,oM,good (by simp[cQ];omega),rfl⟩;simp only[evs,seval,g3,g0,aD,hlt',bF hlt,eq_false c1,eq_true c3,eq_false c4];rw[bad (by simp[cQ];omega)];rfl;simp only[evs,seval,g3,g0,aD,hlt',bF hlt,eq_false c1,eq_false c3];rw[bad (by simp[cQ];omega)];rfl;simp only[evs,seval,g3,g0,aD,(oM:¬(i:Int)<z.length)];rw[pz oM]at e;have:okN z=true:=by unfold okN;rw[←e,decide_eq_true oM,decide_eq_true (oM:z.length≤16)];rfl
 rw[this];rfl
theorem dW{h:Heap}{z:Str}:aj go 201 [.str z] h fun u h'=>u=.bool (okN z)∧h=h':=by
 refine ab ?_;simp only[evs];refine aA (fun k env hh=>hh=h∧∃(i:Nat),env.get 3=some (.int .i64 i)∧env.get 0=some (.str z)∧i≤z.length∧i≤17∧dU cQ (z.drop i)=dU cQ z∧k=17-i) 17 oM ?_ ?_;exact⟨rfl,0,iS,iS,oM,oM,rfl,rfl⟩;rintro k env hh ⟨rfl,i,g3,g0,hi,h17,e,rfl⟩;by_cases hlt:i<z.length;have hlt':(i:Int)<z.length:=oM;by_cases c17:(i:Int)<17;rw[mR hlt]at e;have bad:cQ ((z[i]).toNat:Int)=true→okN z=false:=fun q=>by unfold okN;rw[←e,q];simp
 have good:cQ ((z[i]).toNat:Int)=false→dU cQ (z.drop (i+1))=dU cQ z:=fun q=>by rw[←e,q];rfl
 by_cases c1:((z[i]).toNat:Int)<97;by_cases c3:((z[i]).toNat:Int)<48;simp only[evs,seval,g3,g0,aD,hlt',bF hlt,eq_true c1,eq_true c3,eq_true c17];rw[bad (by simp[cQ];omega)];by_cases c4:(57:Int)<((z[i]).toNat:Int);simp only[evs,seval,g3,g0,aD,hlt',bF hlt,eq_true c1,eq_false c3,eq_true c4,eq_true c17];rw[bad (by simp[cQ];omega)];simp(disch:=omega) only[evs,seval,ah,g3,g0,aD,hlt',bF hlt,eq_true c1,eq_false c3,eq_false c4,eq_true c17];refine rqn ⟨17-(i+1),oM,rfl,i+1,iS,iX,oM,oM,good (by simp[cQ];omega),rfl⟩;by_cases c2:(122:Int)<((z[i]).toNat:Int);have c3:¬((z[i]).toNat:Int)<48:=oM;have c4:(57:Int)<((z[i]).toNat:Int):=oM;simp only[evs,seval,g3,g0,aD,hlt',bF hlt,eq_false c1,eq_true c2,eq_false c3,eq_true c4,eq_true c17];rw[bad (by simp[cQ];omega)];simp(disch:=omega) only[evs,seval,ah,g3,g0,aD,hlt',bF hlt,eq_false c1,eq_false c2,eq_true c17];refine rqn ⟨17-(i+1),oM,rfl,i+1,iS,iX,oM,oM,good (by simp[cQ];omega),rfl⟩;simp only[evs,seval,g3,g0,aD,hlt',eq_false c17,(oM:(1:Int)≤(z.length:Nat)),(oM:¬((z.length:Nat):Int)≤16)];have:okN z=false:=by unfold okN;rw[decide_eq_false (oM:¬z.length≤16)];simp
 rw[this];rw[pz oM]at e;by_cases c0:(1:Int)≤(z.length:Nat);have e2:okN z=decide (((z.length:Nat):Int)≤16):=by
  unfold okN;rw[←e,decide_eq_true oM];have:decide (z.length≤16)=decide (((z.length:Nat):Int)≤16):=by rw[decide_eq_decide];omega
  rw[this];simp
 by_cases c1:((z.length:Nat):Int)≤16;simp only[evs,seval,g3,g0,aD,(oM:¬(i:Int)<z.length),eq_true c0,eq_true c1];rw[e2,decide_eq_true c1];simp only[evs,seval,g3,g0,aD,(oM:¬(i:Int)<z.length),eq_true c0,eq_false c1];rw[e2,decide_eq_false c1];simp only[evs,seval,g3,g0,aD,(oM:¬(i:Int)<z.length),eq_false c0];have:okN z=false:=by unfold okN;rw[decide_eq_false oM];rfl
 rw[this]
theorem Eq:∀d,d<10→aP (.slstr true true) [.str [48,49,50,51,52,53,54,55,56,57],.int .u64 (d:Nat),.int .u64 ((d:Nat)+1)]=some (.str [UInt8.ofNat (48+d)]):=by
 intro d hd;match d,hd with
 |0,_=>rfl
 |1,_=>rfl
 |2,_=>rfl
 |3,_=>rfl
 |4,_=>rfl
 |5,_=>rfl
 |6,_=>rfl
 |7,_=>rfl
 |8,_=>rfl
 |9,_=>rfl
theorem ER(a b:Str)(h:a.length+b.length<9223372036854775808):aP (.sb .add) [.str a,.str b]=some (.str (a++b)):=by simp only[aP,ni,(Nat.blt_eq ..).mpr h,cond_true]
theorem Ay:∀(k n:Nat),n<10^(k+1)→(dec n).length≤k+1
 |k,n,h=>by
  by_cases c:n<10;rw[uU c];simp;match k,h with
  |0,h=>omega
  |k+1,h=>rw[yQ c,List.length_append];have:=Ay k (n/10) (by rw[Nat.pow_succ]at h;omega);simp only[List.length_cons,List.length_nil];omega
theorem tu{n:Nat}(h:n<18446744073709551616):(dec n).length≤20:=Ay 19 n oM
theorem mF{h:Heap}:∀(k n:Nat),n<k→n<18446744073709551616→aj go 202 [.int .u64 (n:Int)] h fun u h'=>u=.str (dec n)∧h=h'
 |0,_,hk,_=>by omega
 |k+1,n,hk,hn=>by
  by_cases c:n<10;have c':(n:Int)<10:=oM;have f1:bE .u64 ((n:Int)+1)=(n:Int)+1:=bV _ oM oM;refine ab ?_;simp only[evs,seval,eq_true c',f1,Eq n c];rw[uU c];have c':¬(n:Int)<10:=oM;have r1:aP (.ib .rem) [.int .u64 (n:Int),.int .u64 10]=some (.int .u64 ((n%10:Nat):Int)):=by rw[lO _ _ _ dI];rfl
  have r2:aP (.ib .quo) [.int .u64 (n:Int),.int .u64 10]=some (.int .u64 ((n/10:Nat):Int)):=by rw[nT _ _ _ dI,(iR:((n:Int)).tdiv 10=((n/10:Nat):Int)),bV _ oM oM]
  refine ab ?_;simp only[evs,seval,eq_false c',r2];apply aa (mF k (n/10) oM oM);rintro _ _ ⟨rfl,rfl⟩;simp only[evs,seval,r1];apply aa (mF k (n%10) oM oM);rintro _ _ ⟨rfl,rfl⟩;have q1:=tu (n:=n/10) oM;have q2:=tu (n:=n%10) oM;simp only[evs,seval,ER _ _ (oM:(dec (n/10)).length+(dec (n%10)).length<9223372036854775808)];rw[yQ c,uU (Nat.mod_lt n dI)]
theorem oT{h:Heap}{x:Itm}(w:WF h)(a:ItmH h x):aj go 141 [.agg x.cells] h fun u h'=>u=.int .i64 (if fX x then 0 else 6)∧Fr [] h h':=by
 let⟨h1,e_h1,F_h1,o_h1⟩:=ao w x.cells;have l0:ag h1 h.next 0=some (.int .u64 (x.key:Int)):=o_h1.ld1 0;have l2:ag h1 h.next 2=some (.str x.text):=o_h1.ld1 2;have l3:ag h1 h.next 3=some x.vm:=o_h1.ld1 3;have am:=a.m.fr F_h1;by_cases c0:(x.key:Int)=0;refine ab ?_;simp only[evs,seval,←e_h1,l0,eq_true c0];exact⟨by simp[fX,(oM:x.key=0)],F_h1⟩;refine ab ?_;simp only[evs,seval,←e_h1,l0,eq_false c0,l2];apply aa jy;rintro _ _ ⟨rfl,rfl⟩;cases c2:okT x.text;simp only[evs,seval];exact⟨by simp[fX,c2],F_h1⟩;by_cases c3:(8:Int)<(x.marks.length:Nat);simp only[evs,seval,l3,am.len,eq_true c3];exact⟨by simp[fX,okM,(oM:¬x.marks.length≤8)],F_h1⟩;simp only[evs,seval,l3,am.len,eq_false c3];refine aA (fun k env hh=>hh=h1∧∃(i:Nat),env.get 3=some (.int .i64 i)∧env.get 1=some (.ptr h.next 0)∧i≤x.marks.length∧(x.marks.drop i).all okN=x.marks.all okN∧k=x.marks.length-i) x.marks.length oM ?_ ?_;exact⟨rfl,0,iS,iS,oM,rfl,rfl⟩;rintro k env hh ⟨rfl,i,g3,g1,hi,e,rfl⟩;by_cases hlt:i<x.marks.length;have hlt':(i:Int)<x.marks.length:=oM;let⟨b,o,s,e1,e2,_,e5⟩:=am.ix fT .i64 i oM hlt';have e4:ag hh b o=some (.str s):=e2 0 oM;rw[Int.toNat_natCast]at e5;rw[aG e5,List.all_cons]at e;simp only[evs,seval,g3,g1,l3,am.len,hlt',e1,e4];apply aa dW;rintro _ _ ⟨rfl,rfl⟩;cases c:okN s;simp only[evs,seval];rw[c]at e;have e':x.marks.all okN=false:=by rw[←e];rfl
 exact⟨by simp[fX,okM,e'],F_h1⟩;simp(disch:=omega) only[evs,seval,ah,g3];rw[c]at e;refine rqn ⟨x.marks.length-(i+1),oM,rfl,i+1,iS,iX,oM,by simpa using e,rfl⟩;simp only[evs,seval,g3,g1,l3,am.len,(oM:¬(i:Int)<x.marks.length)];rw[List.drop_of_length_le oM]at e;have e':x.marks.all okN=true:=by rw[←e];rfl
 exact⟨by simp[fX,okM,e',c2,(oM:x.key≠0),(oM:x.marks.length≤8)],F_h1⟩
theorem Eb{h:Heap}{v:V}{X:List Itm}{key:Nat}(a:Recs Itm.cells 4 h v X)(hn:X.length≤4096):
 aj go 79 [v,.int .u64 (key:Int)] h fun u h'=>h=h'∧∃r:Int,u=.int .i64 r∧(0≤r↔∃x∈X,x.key=key):=by
 refine ab ?_;simp only[evs,seval];refine aA (fun k env hh=>hh=h∧∃(i:Nat),env.get 5=some (.int .i64 i)∧env.get 0=some v∧env.get 1=some (.int .u64 (key:Int))∧i≤X.length∧(∀x∈X.take i,x.key≠key)∧k=X.length-i) X.length oM ?_ ?_;exact⟨rfl,0,iS,iS,iS,oM,iS,rfl⟩;rintro k env hh ⟨rfl,i,g5,g0,g1,hi,e,rfl⟩;by_cases hlt:i<X.length;have hlt':(i:Int)<X.length:=oM;let⟨b,o,x,e1,e2,_,e5⟩:=Recs.ix (f:=Itm.cells) (k:=4) (fun _=>rfl) a .i64 i oM hlt';have e4:ag hh b o=some (.int .u64 (x.key:Int)):=e2 0 oM;rw[Int.toNat_natCast]at e5;by_cases c:x.key=key;simp only[evs,seval,g5,g0,g1,a.len,hlt',e1,e4,c];exact⟨(i:Int),rfl,fun _=>⟨x,List.mem_of_getElem? e5,c⟩,fun _=>by omega⟩;have c':¬(x.key:Int)=(key:Int):=oM;simp(disch:=omega) only[evs,seval,ah,g5,g0,g1,a.len,hlt',e1,e4,eq_false c'];refine rqn ⟨X.length-(i+1),oM,rfl,i+1,iS,iX,iX,oM,?_,rfl⟩;rw[List.take_add_one,e5];intro y m;obtain m|m:=List.mem_append.1 m;exact e y m;grind;simp only[evs,seval,g5,g0,a.len,(oM:¬(i:Int)<X.length)];rw[List.take_of_length_le oM]at e;exact⟨-1,rfl,fun q=>by omega,fun⟨x,m,q⟩=>absurd q (e x m)⟩
theorem Dm(a b:Bool):jD a*jD b=jD (a&&b):=by cases a<;>cases b<;>rfl
theorem gL{h:Heap}{x:Itm}{env:T V}{b0:Bool}{bb:Nat}{R:V→Heap→Prop}(w:WF h)(o:Own h bb x.cells)(a:ItmH h x)(g2:env.get 2=some (.ptr bb 0))(g5:env.get 5=some (.int .i64 (jD b0)))
 (k:∀h',h=h'→R (.int .i64 (if(b0&&x.marks.all okN)then 0 else 6)) h'):
 W go ckR env h (iC [.t 4] R):=by
 have l3:ag h bb 3=some x.vm:=o.ld1 3;have am:=a.m;have an:=a.n;simp only[evs,ckR];refine aA (fun k env hh=>hh=h∧∃(i:Nat)(c:Bool),env.get 6=some (.int .i64 i)∧env.get 2=some (.ptr bb 0)∧env.get 5=some (.int .i64 (jD c))∧i≤x.marks.length∧(c&&(x.marks.drop i).all okN)=(b0&&x.marks.all okN)∧k=x.marks.length-i) x.marks.length oM ?_ ?_;exact⟨rfl,0,b0,iS,iX,iX,oM,rfl,rfl⟩;rintro k' env hh ⟨rfl,i,c,g6,g2,g5,hi,e,rfl⟩;by_cases hlt:i<x.marks.length;have hlt':(i:Int)<x.marks.length:=oM;let⟨b,o,s,e1,e2,_,e5⟩:=am.ix fT .i64 i oM hlt';have e4:ag hh b o=some (.str s):=e2 0 oM;rw[Int.toNat_natCast]at e5;rw[aG e5,List.all_cons]at e;simp only[evs,seval,g6,g2,g5,l3,am.len,hlt',e1,e4];apply aa Du;rintro _ _ ⟨rfl,rfl⟩;have m1:bE .i64 (jD c*jD (okN s))=jD (c&&okN s):=by rw[Dm,ah _ (by unfold jD;split<;>omega) (by unfold jD;split<;>omega)]
 simp(disch:=omega) only[evs,seval,ah,g6,m1];refine rqn ⟨x.marks.length-(i+1),oM,rfl,i+1,c&&okN s,iS,iX,iS,oM,by rw[←e,Bool.and_assoc],rfl⟩;rw[List.drop_of_length_le oM]at e;have e':c=(b0&&x.marks.all okN):=by rw[←e];simp
 cases c;simp only[evs,seval,g6,g2,g5,l3,am.len,(oM:¬(i:Int)<x.marks.length),jD];rw[←e']at k;exact k _ rfl;simp only[evs,seval,g6,g2,g5,l3,am.len,(oM:¬(i:Int)<x.marks.length),jD];rw[←e']at k;exact k _ rfl
theorem Ca{h:Heap}{x:Itm}{types:Nat}(w:WF h)(a:ItmH h x)(ht:types<256):aj go 80 [.agg x.cells,.int .i64 (types:Int)] h fun u h'=>u=.int .i64 (if okI x types then 0 else 6)∧Fr [] h h':=by
 let⟨h1,e_h1,F_h1,o_h1⟩:=ao w x.cells;have l0:ag h1 h.next 0=some (.int .u64 (x.key:Int)):=o_h1.ld1 0;have l1:ag h1 h.next 1=some (.int .u8 (x.type:Int)):=o_h1.ld1 1;have l2:ag h1 h.next 2=some (.str x.text):=o_h1.ld1 2;have l3:ag h1 h.next 3=some x.vm:=o_h1.ld1 3;have a1:=a.fr F_h1;have at':=a.t;have bad:okI x types=false→∀h',h1=h'→(V.int .i64 (if(false&&x.marks.all okN)then 0 else 6)=V.int .i64 (if okI x types then 0 else 6)∧Fr [] h h'):=by grind
 have cv:bE .i64 (x.type:Int)=(x.type:Int):=ah _ oM oM;by_cases c0:(x.key:Int)=0;refine ab ?_;simp only[evs,seval,←e_h1,l2];refine aa jY ?_;rintro _ _ ⟨rfl,rfl⟩;simp only[evs,seval,l0,eq_true c0];exact gL (b0:=false) F_h1.wf o_h1 a1 iS (by simp[jD]) (bad (by simp[okI,(oM:x.key=0)]));by_cases c1:(types:Int)≤(x.type:Int);refine ab ?_;simp only[evs,seval,←e_h1,l2];refine aa jY ?_;rintro _ _ ⟨rfl,rfl⟩;simp only[evs,seval,l0,l1,eq_false c0,cv,eq_true c1];exact gL (b0:=false) F_h1.wf o_h1 a1 iS (by simp[jD]) (bad (by simp[okI,(oM:¬x.type<types)]));by_cases c2:(8:Int)<(x.marks.length:Nat);refine ab ?_;simp only[evs,seval,←e_h1,l2];refine aa jY ?_;rintro _ _ ⟨rfl,rfl⟩;simp only[evs,seval,l0,l1,l3,a1.m.len,eq_false c0,cv,eq_false c1,eq_true c2];exact gL (b0:=false) F_h1.wf o_h1 a1 iS (by simp[jD]) (bad (by simp[okI,okM,(oM:¬x.marks.length≤8)]));refine ab ?_;simp only[evs,seval,←e_h1,l2];refine aa jY ?_;rintro _ _ ⟨rfl,rfl⟩;simp only[evs,seval,l0,l1,l3,a1.m.len,eq_false c0,cv,eq_false c1,eq_false c2];apply gL (b0:=okT x.text) F_h1.wf o_h1 a1 iS iS;rintro _ rfl;have:(okT x.text&&x.marks.all okN)=okI x types:=by simp[okI,okM,(oM:x.key≠0),(oM:x.type<types),(oM:x.marks.length≤8)]
 rw[this];exact⟨rfl,F_h1⟩
theorem wv:∀(a b:Str),(!Op.bytesLess b a)=leS a b
 |[],[]=>by simp[leS,Op.bytesLess]
 |[],y::b=>by simp[leS,Op.bytesLess]
 |x::a,[]=>by simp[leS,Op.bytesLess]
 |x::a,y::b=>by have ih:=wv a b;simp only[leS,Op.bytesLess]at ih⊢;have d1:decide (x<y)=decide (x.toNat<y.toNat):=rfl;have d2:decide (y<x)=decide (y.toNat<x.toNat):=rfl;rw[d1,d2];have e0:(x::a==y::b)=(x==y&&a==b):=rfl;rw[e0];obtain q|q|q:=Nat.lt_trichotomy x.toNat y.toNat;grind;grind;grind
theorem ku(a b:Str):aP (.sb .geq) [.str a,.str b]=some (.bool (leS b a)):=by rw[←wv];rfl
theorem nj{h:Heap}{v:V}{l:List Slo}(w:WF h)(ra:Recs pO 3 h v l)(na:l.length≤4096):aj go 308 [v] h fun u h'=>u=.bool (bP l)∧Fr [] h h':=by
 by_cases c8:l.length≤8;refine ab ?_;simp only[evs,seval,ra.len,(oM:¬(8:Int)<(l.length:Nat))];refine aA (fun n env hh=>Fr [] h hh∧∃(i:Nat),env.get 3=some (.int .i64 i)∧env.get 0=some v∧
  i≤l.length∧dP (cU l i) (l.drop i)=dP none l∧n=l.length-i) l.length oM ?_ ?_
 exact⟨Fr.refl w,0,iS,iS,oM,rfl,rfl⟩;rintro n env hh ⟨F,i,g3,g0,hi,e,rfl⟩;by_cases hlt:i<l.length;have hlt':(i:Int)<l.length:=oM;let⟨b',o',a,p1,p2,p3,p4⟩:=(ra.fr F).ix eW .i64 (i:Int) oM hlt';rw[Int.toNat_natCast]at p4;rw[aG p4,jz]at e;have en:=pX p4;have bad:∀{h'},Fr [] h h'→gF (cU l i) a=false→V.bool false=.bool (bP l)∧Fr [] h h':=fun f c=>by rw[c]at e;exact⟨by simp[bP,←e],f⟩
 have rl:=(ra.fr F).len;let⟨h1,e_h1,F_h1,o_h1⟩:=ao F.wf [.str [],.int .u8 0,.str []];simp only[evs,seval,g3,g0,rl,hlt',p1,p3,←e_h1];refine stu F_h1.wf o_h1 ?_;rintro h2 o2 F2 n2;have F02:Fr [] hh h2:=F_h1.fresh F2 F.wf (Nat.le_refl _);have Fa:=F.then F02;have q0:ag h2 hh.next 0=some (.str a.1):=o2.ld1 0;have q1:ag h2 hh.next 1=some (.int .u8 (a.2.1:Int)):=o2.ld1 1;have q2:ag h2 hh.next 2=some (.str a.2.2):=o2.ld1 2;simp only[evs,seval,eff,q0];refine aa dW ?_;rintro _ _ ⟨rfl,rfl⟩;cases c1:okN a.1;simp only[evs,seval,DF,eff,q0];exact bad Fa (by simp[gF,c1]);by_cases c2:(3:Int)<(a.2.1:Nat);simp only[evs,seval,DF,eff,q0,q1,eq_true c2];exact bad Fa (by simp[gF];omega);simp only[evs,seval,eff,q1,eq_false c2,q2];refine aa jy ?_;rintro _ _ ⟨rfl,rfl⟩;cases c3:okT a.2.2;simp only[evs,seval,DF,eff,q0,q1,q2];exact bad Fa (by simp[gF,c3]);have fin:(decide (a.2.1=0)||a.2.2==[])=true→bT (cU l i) a.1=true→dP (cU l (i+1)) (l.drop (i+1))=dP none l:=fun x y=>by
  have z:gF (cU l i) a=true:=by unfold gF;rw[c1,c3,x,y,(oO:decide (a.2.1≤3)=true)];rfl
  rw[z,Bool.true_and]at e;rw[en];exact e
 have step:(decide (a.2.1=0)||a.2.2==[])=false→gF (cU l i) a=false:=fun x=>by unfold gF;rw[x];simp
 have go1:(decide ((a.2.1:Int)=0)=true∨(a.2.2==[])=true)→(decide (a.2.1=0)||a.2.2==[])=true:=by grind
 by_cases cf:(a.2.1:Int)=0;by_cases c4:i=0;simp(disch:=omega) only[evs,seval,DF,eff,ah,g3,q0,q1,q2,eq_true cf,(oM:¬(0:Int)<(i:Int))];refine rqn ⟨l.length-(i+1),oM,Fa,i+1,iS,iX,oM,fin (go1 (.inl (decide_eq_true cf))) (by simp[cU,c4,bT]),rfl⟩;let⟨b2,o2',a2,t1,t2,t3,t4⟩:=(ra.fr Fa).ix eW .i64 ((i:Int)-1) oM oM;have t4':l[i-1]? =some a2:=by rw[←t4];congr 1;omega
 have t2':ag h2 b2 o2'=some (.str a2.1):=t2 0 oM;have pe:cU l i=some a2.1:=by simp[cU,c4,t4']
 cases c5:leS a.1 a2.1;simp(disch:=omega) only[evs,seval,DF,eff,ah,g3,g0,q0,q1,q2,eq_true cf,c5,t1,t2',ku,(oM:(0:Int)<(i:Int))];refine rqn ⟨l.length-(i+1),oM,Fa,i+1,iS,iX,oM,fin (go1 (.inl (decide_eq_true cf))) (by rw[pe];simp[bT,c5]),rfl⟩;simp(disch:=omega) only[evs,seval,DF,eff,ah,g3,g0,q0,q1,q2,eq_true cf,c5,t1,t2',ku,(oM:(0:Int)<(i:Int))];exact bad Fa (by simp[gF,pe,bT,c5]);have cf':¬a.2.1=0:=oM;cases cv:a.2.2==[];simp only[evs,seval,DF,eff,q0,q1,q2,eq_false cf,aV,cv];exact bad Fa (step iX);by_cases c4:i=0;simp(disch:=omega) only[evs,seval,DF,eff,ah,g3,q0,q1,q2,eq_false cf,aV,cv,(oM:¬(0:Int)<(i:Int))];refine rqn ⟨l.length-(i+1),oM,Fa,i+1,iS,iX,oM,fin (go1 (.inr cv)) (by simp[cU,c4,bT]),rfl⟩;let⟨b2,o2',a2,t1,t2,t3,t4⟩:=(ra.fr Fa).ix eW .i64 ((i:Int)-1) oM oM;have t4':l[i-1]? =some a2:=by rw[←t4];congr 1;omega
 have t2':ag h2 b2 o2'=some (.str a2.1):=t2 0 oM;have pe:cU l i=some a2.1:=by simp[cU,c4,t4']
 cases c5:leS a.1 a2.1;simp(disch:=omega) only[evs,seval,DF,eff,ah,g3,g0,q0,q1,q2,eq_false cf,aV,cv,c5,t1,t2',ku,(oM:(0:Int)<(i:Int))];refine rqn ⟨l.length-(i+1),oM,Fa,i+1,iS,iX,oM,fin (go1 (.inr cv)) (by rw[pe];simp[bT,c5]),rfl⟩;simp(disch:=omega) only[evs,seval,DF,eff,ah,g3,g0,q0,q1,q2,eq_false cf,aV,cv,c5,t1,t2',ku,(oM:(0:Int)<(i:Int))];exact bad Fa (by simp[gF,pe,bT,c5]);simp only[evs,seval,g3,g0,(ra.fr F).len,(oM:¬(i:Int)<l.length)];rw[List.drop_of_length_le oM]at e;exact⟨by simp[bP,c8,←e,dP],F⟩;refine ab ?_;simp only[evs,seval,ra.len,(oM:(8:Int)<(l.length:Nat))];exact⟨by simp[bP,c8],Fr.refl w⟩
theorem Dz(n m:Nat):decide ((n:Int)≤(m:Int))=decide (n≤m):=by rw[decide_eq_decide];omega
theorem uT(a b:Nat):decide ((a:Int)+(b:Int)=0)=decide (a+b=0):=by rw[decide_eq_decide];omega
theorem GL{h:Heap}{k:Nat}{tg ky tx:Str}{sl:List Slo}{va vc:V}{sub:PT}(w:WF h)(n:PH h (.cons k tg ky sl tx va vc sub .nil)):
 aj go 287 [.agg [.int .u8 (k:Int),.str tg,.str ky,va,.str tx,vc]] h fun u h'=>u=.bool (dk k tg ky sl tx sub.len)∧Fr [] h h':=by
 let⟨n1,ra,na,rc,nc,n6,_⟩:=n;let⟨h1,e_h1,F_h1,o_h1⟩:=ao w [.int .u8 (k:Int),.str tg,.str ky,va,.str tx,vc];have l0:ag h1 h.next 0=some (.int .u8 (k:Int)):=o_h1.ld1 0;have l1:ag h1 h.next 1=some (.str tg):=o_h1.ld1 1;have l2:ag h1 h.next 2=some (.str ky):=o_h1.ld1 2;have l3:ag h1 h.next 3=some va:=o_h1.ld1 3;have l4:ag h1 h.next 4=some (.str tx):=o_h1.ld1 4;have l5:ag h1 h.next 5=some vc:=o_h1.ld1 5;have la:=(ra.fr F_h1).len;have lc:=(rc.fr F_h1).len;by_cases k1:k=1
 ·have q1:(k:Int)=1:=oM
  have spec:dk k tg ky sl tx sub.len=(okN tg&&((ky==[]||okN ky)&&(bP sl&&(tx==[]&&decide (sub.len≤16))))):=by
   unfold dk;rw[if_pos k1];cases okN tg<;>cases(ky==[]||okN ky)<;>cases bP sl<;>cases(tx==[])<;>cases decide (sub.len≤16)<;>rfl
  rw[spec];refine ab ?_;simp only[evs,seval,←e_h1,l0,l1,eq_true q1];refine aa dW ?_;rintro _ _ ⟨rfl,rfl⟩;cases c1:okN tg
  ·simp only[evs,seval];exact⟨rfl,F_h1⟩
  cases c2:ky==[]
  ·simp only[evs,seval,l2,aJ,c2];apply aa dW;rintro _ _ ⟨rfl,rfl⟩;cases c3:okN ky
   ·simp only[evs,seval];exact⟨rfl,F_h1⟩
   simp only[evs,seval,l3];refine aa (nj F_h1.wf (ra.fr F_h1) na) ?_;rintro _ h2 ⟨rfl,F2⟩;have m4:ag h2 h.next 4=some (.str tx):=(F2.get o_h1).ld1 4;have m5:ag h2 h.next 5=some vc:=(F2.get o_h1).ld1 5;have lc2:=(rc.fr (F_h1.then F2)).len;cases c4:bP sl
   ·simp only[evs,seval];exact⟨rfl,F_h1.then F2⟩
   cases c5:tx==[]
   ·simp only[evs,seval,m4,aJ,c5];exact⟨rfl,F_h1.then F2⟩
   simp only[evs,seval,m4,m5,aJ,c5,lc2];exact⟨by simp[(iR:((16:Nat):Int)=16),←Dz],F_h1.then F2⟩
  ·simp only[evs,seval,l2,l3,aJ,c2];refine aa (nj F_h1.wf (ra.fr F_h1) na) ?_;rintro _ h2 ⟨rfl,F2⟩;have m4:ag h2 h.next 4=some (.str tx):=(F2.get o_h1).ld1 4;have m5:ag h2 h.next 5=some vc:=(F2.get o_h1).ld1 5;have lc2:=(rc.fr (F_h1.then F2)).len;cases c4:bP sl
   ·simp only[evs,seval];exact⟨rfl,F_h1.then F2⟩
   cases c5:tx==[]
   ·simp only[evs,seval,m4,aJ,c5];exact⟨rfl,F_h1.then F2⟩
   simp only[evs,seval,m4,m5,aJ,c5,lc2];exact⟨by simp[(iR:((16:Nat):Int)=16),←Dz],F_h1.then F2⟩
 have q1:¬(k:Int)=1:=oM
 by_cases k2:k=2
 ·have q2:(k:Int)=2:=oM
  have spec:dk k tg ky sl tx sub.len=(okT tx&&(tg==[]&&(ky==[]&&decide (sl.length+sub.len=0)))):=by
   unfold dk;rw[if_neg k1,if_neg oM,if_pos k2];have:decide (sl.length+sub.len=0)=(decide (sl.length=0)&&decide (sub.len=0)):=by rw[←Bool.decide_and,decide_eq_decide];omega
   rw[this]
  rw[spec];refine ab ?_;simp only[evs,seval,←e_h1,l0,eq_false q1,eq_true q2,l4];refine aa jy ?_;rintro _ _ ⟨rfl,rfl⟩;cases c1:okT tx
  ·simp only[evs,seval];exact⟨rfl,F_h1⟩
  cases c2:tg==[]
  ·simp only[evs,seval,l1,aJ,c2];exact⟨rfl,F_h1⟩
  cases c3:ky==[]
  ·simp only[evs,seval,l1,l2,aJ,c2,c3];exact⟨rfl,F_h1⟩
  simp(disch:=omega) only[evs,seval,ah,l1,l2,l3,l5,aJ,c2,c3,la,lc];exact⟨by rw[uT];rfl,F_h1⟩
 have q2:¬(k:Int)=2:=oM
 by_cases k34:k=3∨k=4
 ·have spec:dk k tg ky sl tx sub.len=(tx==[]&&(tg==[]&&(ky==[]&&decide (sl.length+sub.len=0)))):=by
   unfold dk;rw[if_neg k1,if_neg oM,if_neg k2,if_pos k34];have:decide (sl.length+sub.len=0)=(decide (sl.length=0)&&decide (sub.len=0)):=by rw[←Bool.decide_and,decide_eq_decide];omega
   rw[this];cases(tg==[])<;>cases(ky==[])<;>cases(tx==[])<;>rfl
  rw[spec];by_cases q:(k:Int)=3
  ·cases c1:tx==[]<;>cases c2:tg==[]<;>cases c3:ky==[];all_goals
    refine ab ?_;simp(disch:=omega) only[evs,seval,ah,←e_h1,l0,l1,l2,l3,l4,l5,eq_false q1,eq_false q2,eq_true q,aJ,c1,c2,c3,la,lc];exact⟨by first|rfl|(rw[uT];rfl),F_h1⟩
  ·have q':(k:Int)=4:=oM
   cases c1:tx==[]<;>cases c2:tg==[]<;>cases c3:ky==[];all_goals
    refine ab ?_;simp(disch:=omega) only[evs,seval,ah,←e_h1,l0,l1,l2,l3,l4,l5,eq_false q1,eq_false q2,eq_false q,eq_true q',aJ,c1,c2,c3,la,lc];exact⟨by first|rfl|(rw[uT];rfl),F_h1⟩
 have q3:¬(k:Int)=3:=oM
 have q4:¬(k:Int)=4:=oM
 by_cases k5:k=5
 ·have q5:(k:Int)=5:=oM
  have spec:dk k tg ky sl tx sub.len=(okN tg&&(bP sl&&(ky==[]&&(tx==[]&&decide (sub.len=0))))):=by
   unfold dk;rw[if_neg k1,if_pos k5]
  rw[spec];refine ab ?_;simp only[evs,seval,←e_h1,l0,l1,eq_false q1,eq_false q2,eq_false q3,eq_false q4,eq_true q5];refine aa dW ?_;rintro _ _ ⟨rfl,rfl⟩;cases c1:okN tg
  ·simp only[evs,seval];exact⟨rfl,F_h1⟩
  simp only[evs,seval,l3];apply aa (nj F_h1.wf (ra.fr F_h1) na);rintro _ h2 ⟨rfl,F2⟩;have m2:ag h2 h.next 2=some (.str ky):=(F2.get o_h1).ld1 2;have m4:ag h2 h.next 4=some (.str tx):=(F2.get o_h1).ld1 4;have m5:ag h2 h.next 5=some vc:=(F2.get o_h1).ld1 5;have lc2:=(rc.fr (F_h1.then F2)).len;cases c4:bP sl
  ·simp only[evs,seval];exact⟨rfl,F_h1.then F2⟩
  cases c3:ky==[]
  ·simp only[evs,seval,m2,aJ,c3];exact⟨rfl,F_h1.then F2⟩
  cases c5:tx==[]
  ·simp only[evs,seval,m2,m4,aJ,c3,c5];exact⟨rfl,F_h1.then F2⟩
  simp only[evs,seval,m2,m4,m5,aJ,c3,c5,lc2];exact⟨iS,F_h1.then F2⟩
 ·have q5:¬(k:Int)=5:=oM
  have spec:dk k tg ky sl tx sub.len=false:=by
   unfold dk;rw[if_neg k1,if_neg k5,if_neg k2,if_neg k34]
  rw[spec];refine ab ?_;simp only[evs,seval,←e_h1,l0,eq_false q1,eq_false q2,eq_false q3,eq_false q4,eq_false q5];exact F_h1
def PT.rs:PT→Nat→Nat→Nat
 |.nil,_,c=>c
 |.cons k tg ky sl tx _ _ sub nx,lv,c=>if 64<c then c else nx.rs lv (c+(if lv=0∨dk k tg ky sl tx sub.len=false then 1000 else sub.rs (lv-1) 1))
def PT.rn(k:Nat)(tg ky:Str)(sl:List Slo)(tx:Str)(sub:PT)(lv:Nat):Nat:=if lv=0∨dk k tg ky sl tx sub.len=false then 1000 else sub.rs (lv-1) 1
theorem PT.rs_le:∀(t:PT)(lv c:Nat),t.rs lv c≤max c (1064+64*lv)
 |.nil,lv,c=>by simp only[PT.rs];omega
 |.cons k tg ky sl tx _ _ sub nx,lv,c=>by
  simp only[PT.rs];split;omega;have h1:=PT.rs_le sub (lv-1) 1;have h2:=PT.rs_le nx lv (c+(if lv=0∨dk k tg ky sl tx sub.len=false then 1000 else sub.rs (lv-1) 1));split at h2<;>rename_i q
  rw[if_pos q];omega;rw[if_neg q];omega
theorem PT.rn_le(k:Nat)(tg ky:Str)(sl:List Slo)(tx:Str)(sub:PT)(lv:Nat):PT.rn k tg ky sl tx sub lv≤1064+64*lv:=by unfold PT.rn;split;omega;have:=PT.rs_le sub (lv-1) 1;omega
theorem PT.rs_stop:∀(t:PT)(lv c:Nat),64<c→t.rs lv c=c
 |.nil,_,_,_=>rfl
 |.cons _ _ _ _ _ _ _ _ _,_,_,h=>by simp only[PT.rs,if_pos h]
def CR(k:Nat)(tg ky:Str)(sl:List Slo)(tx:Str)(va vc:V)(sub:PT):Prop:=∀(lv:Nat)(h:Heap),lv≤6→WF h→PH h (.cons k tg ky sl tx va vc sub .nil)→
 aj go 254 [.agg [.int .u8 (k:Int),.str tg,.str ky,va,.str tx,vc],.int .i64 (lv:Int)] h fun u h'=>u=.int .i64 (PT.rn k tg ky sl tx sub lv:Nat)∧Fr [] h h'
def CRs:PT→Prop
 |.nil=>True
 |.cons k tg ky sl tx va vc sub nx=>CR k tg ky sl tx va vc sub∧CRs nx
theorem CRs.at':∀{t:PT}(i:Nat),CRs t→CRs (t.at' i)
 |.nil,0,_=>trivial
 |.nil,_+1,_=>trivial
 |.cons _ _ _ _ _ _ _ _ _,0,a=>a
 |.cons _ _ _ _ _ _ _ _ _,i+1,⟨_,b⟩=>CRs.at' i b
theorem B3{k:Nat}{tg ky tx:Str}{sl:List Slo}{va vc:V}{sub:PT}(M:CRs sub):CR k tg ky sl tx va vc sub:=by
 intro lv h hlv w n;have n0:=n;let⟨n1,ra,na,rc,nc,n6,_⟩:=n;let⟨h1,e_h1,F_h1,o_h1⟩:=ao w [.int .u8 (k:Int),.str tg,.str ky,va,.str tx,vc];by_cases c1:(lv:Int)<1;refine ab ?_;simp only[evs,seval,←e_h1,eq_true c1];exact⟨by rw[PT.rn,if_pos (.inl oM)];rfl,F_h1⟩;have l6:ak h1 h.next 0 6=some [.int .u8 (k:Int),.str tg,.str ky,va,.str tx,vc]:=by rw[o_h1.ld];rfl
 refine ab ?_;simp only[evs,seval,←e_h1,eq_false c1,l6];apply aa (GL F_h1.wf (n0.fr F_h1));rintro _ h2 ⟨rfl,F2⟩;have F02:=F_h1.then F2;cases c2:dk k tg ky sl tx sub.len;simp only[evs,seval];exact⟨by rw[PT.rn,if_pos (.inr c2)];rfl,F02⟩;have o2:=F2.get o_h1;simp only[evs,seval];refine aA (fun n env hh=>Fr [] h2 hh∧∃(i c:Nat),env.get 6=some (.int .i64 (i:Int))∧env.get 5=some (.int .i64 (c:Int))∧env.get 2=some (.ptr h.next 0)∧env.get 1=some (.int .i64 (lv:Int))∧i≤sub.len∧c≤2000∧(sub.at' i).rs (lv-1) c=sub.rs (lv-1) 1∧n=sub.len-i) sub.len oM ?_ ?_;exact⟨Fr.refl F2.wf,0,1,iS,iS,iS,iS,oM,oM,by cases sub<;>rfl,rfl⟩;rintro n' env hh ⟨F,i,c,g6,g5,g2,g1,hi,hc,e,rfl⟩;have F0:=F02.then F;have l5:ag hh h.next 5=some vc:=(F.get o2).ld1 5;have rch:=rc.fr F0;by_cases hlt:i<sub.len;have hlt':(i:Int)<sub.len:=oM;by_cases c3:(c:Int)≤64;let⟨kd,tg2,ky2,at2,tx2,va2,vc2,sub2,nx,e1,e2,e3,e4,e5,_⟩:=sub.split i hlt;let⟨bi,oi,p1,p2⟩:=Sl.ix6 rch hlt e2;have ph:=PH.at' i (n6.fr F0);rw[e1]at ph e;let⟨z1,z2,z3,z4,z5,z6,z7⟩:=ph;have cr:=CRs.at' i M;rw[e1]at cr;let⟨q0,q1,q2,q3,q4,q5,q6⟩:=p2;simp(disch:=omega) only[evs,seval,ah,g6,g5,g2,g1,l5,rch.len,hlt',eq_true c3,p1,q6];have lv1:(lv:Int)-1=((lv-1:Nat):Int):=oM;rw[lv1];apply aa (cr.1 (lv-1) hh oM F.wf ⟨z1,z2,z3,z4,z5,z6,trivial⟩);rintro _ h3 ⟨rfl,F3⟩;have le:=PT.rn_le kd tg2 ky2 at2 tx2 sub2 (lv-1);simp only[PT.rs,if_neg (oM:¬64<c)]at e;simp(disch:=omega) only[evs,seval,ah,g6];refine rqn ⟨sub.len-(i+1),oM,F.then F3,i+1,c+PT.rn kd tg2 ky2 at2 tx2 sub2 (lv-1),iS,iS,iX,iX,oM,oM,by rw[e3];exact e,rfl⟩;rw[PT.rs_stop _ _ _ oM]at e;simp only[evs,seval,g6,g5,g2,l5,rch.len,hlt',eq_false c3];exact⟨by rw[PT.rn,if_neg (by rw[c2];simp;omega),←e],F0⟩;rw[PT.at_end _ _ oM]at e;have hlt':¬(i:Int)<sub.len:=oM;simp only[evs,seval,g6,g5,g2,l5,rch.len,eq_false hlt'];have e':c=sub.rs (lv-1) 1:=e;exact⟨by rw[PT.rn,if_neg (by rw[c2];simp;omega),←e'],F0⟩
theorem crs:∀t:PT,CRs t
 |.nil=>trivial
 |.cons _ _ _ _ _ _ _ sub nx=>⟨B3 (crs sub),crs nx⟩
end Go.Ev.Lay
