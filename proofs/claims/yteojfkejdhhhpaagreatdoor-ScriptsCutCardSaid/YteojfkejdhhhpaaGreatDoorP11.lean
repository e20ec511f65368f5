/- An evaluator of the program, and contracts over it: ScM to ScV. -/
import Derived.Test.YteojfkejdhhhpaaGreatDoorP10
set_option linter.unusedSimpArgs false
set_option linter.unusedVariables false
set_option linter.constructorNameAsVariable false
set_option linter.unnecessarySimpa false
set_option maxRecDepth 4000
namespace Go.Ev.Lay
variable{h:Heap}
open Go.Ev.St
theorem HP{b o n m:Nat}{cs:List V}(e:aH h b o (n+m)=some cs):aH h b (o+n) m=some (cs.drop n):=by
 simp only[aH]at e|-;cases Z:dt h b with
 |none=>rw[Z]at e;cases e
 |some C=>
  rw[Z]at e;simp only[bA]at e|-;obtain⟨U,R⟩:=iE e;rw[aU _ _ (by rw[<-RC,Sq];omega),U,<-RC,Ta];congr 2;omega
section
variable {h : Heap} {vK vR vP vA v : V} {Ks : List Knd} {E : List Ent} {R : List Hd} {A : List Nat} {P : List (V × List Hd)} {c : Cfg} {i s w o l d : Int} {k n N : Nat}
theorem gO(wf:WF h)(a:vK.one=true)(e:c.vK=vK):ay go 102 [.agg c.cells] h fun u h'=>Fr [] h h'/\u=.agg [vK,ZZ c.cap]:=by
 subst e;obtain⟨h1,U,J,R⟩:=av wf c.cells;obtain⟨h2,I,Z,D⟩:=av J.wf [.nils,ZZ 0];have n1:=hnx U
 have l3:=(Z.get R).l1 3;have l4:=(Z.get R).l1 4;refine aa ?_;simp[evs,<-U,<-I,l3,l4,aq a];refine ac Z.wf D rfl (by simp only[V.cells,af,ag,a];rfl) rfl ?_;rintro h3 o3 F3 n3;have l5:=o3.la 2
 simp[evs,l5];exact(J.then Z).fresh F3 wf oM
theorem Lq(a:HL h vR R 1024):ay go 167 [vR,ZX (k:Int)] h fun u h'=>h=h'/\∃r:Int,u=ZZ r/\-1<=r/\r<R.length:=by
 have D:=a.n;refine aa ?_;simp only[evs,seval];refine aw (fun n env U=>h=U/\∃j:Nat,env.get 5=some (ZZ j)/\env.get 0=some vR/\env.get 1=some (ZX (k:Int))/\j<=R.length/\n=R.length-j) R.length oM ?_ ?_
 ·exact ya2
 ·rintro n env U ⟨rfl,j,Z,g0,g1,hj,rfl⟩;by_cases c:j<R.length
  ·obtain⟨b,o,x,p1,I,_⟩:=Rg eD a.r .i64 (j:Int) oM oM;have J:ai h b o=some (ZX (x.key:Int)):=I 0 oM;by_cases ck:(x.key:Int)=k
   ·simp only[evs,seval,Z,g0,g1,a.r.len,(oM:(j:Int)<R.length),p1,J,eq_true ck];exact⟨_,rfl,oM,oM⟩
   ·simp(disch:=omega) only[evs,seval,fwrap_i64,Z,g0,g1,a.r.len,(oM:(j:Int)<R.length),p1,J,eq_false ck];refine rqn ⟨R.length-(j+1),oM,rfl,j+1,iS,iX,iX,oM,rfl⟩
  ·simp only[evs,seval,Z,g0,a.r.len,(oM:¬(j:Int)<R.length)];exact⟨_,rfl,oM,oM⟩
theorem AP{x:Hd}(wf:WF h)(hx:HdH h x)(a:EZ h v E)(ra:Recs nC 1 h vA A)(hA:∀y∈A,y<E.length)(nA:A.length<=1024):
 ay go 165 [.agg x.cells,v,vA] h fun u h'=>Fr [] h h'/\(u=ZZ 0\/u=ZZ 1):=by
 obtain⟨h1,J,Z,R⟩:=av wf x.cells;have l0:=R.l1 0;have l1:=R.l1 1;have U:=QI ra Z;have a1:=a.fr Z;refine aa ?_;simp only[evs,seval,<-J];refine aw (fun n env hh=>h1=hh/\∃j:Nat,env.get 7=some (ZZ j)/\env.get 1=some v/\env.get 2=some vA/\env.get 3=some (.ptr h.next 0)/\j<=A.length/\n=A.length-j) A.length oM ?_ ?_
 ·exact⟨rfl,0,iS,iS,iS,iS,oM,rfl⟩
 ·rintro n env hh ⟨rfl,j,D,g1,g2,g3,hj,rfl⟩;by_cases c:j<A.length
  ·have e0:=Qq c;generalize A[j]=q at e0;have hq:=hA q (Of e0);obtain⟨b1,o1,s1,I⟩:=Recs.ld1 U e0;have I:=I U;obtain⟨b,o,e,p1,p2,_⟩:=Rg aJ a1.r .i64 (q:Int) oM oM;have k0:ai h1 b o=some (ZX (e.x.key:Int)):=p2 0 oM;have k1:ai h1 b (o+1)=some (ZY (e.x.type:Int)):=p2 1 oM;by_cases c1:(e.x.key:Int)=x.key
   ·by_cases c2:(e.x.type:Int)=x.type
    ·simp only[evs,seval,DF,eff,D,g1,g2,g3,U.len,(oM:(j:Int)<A.length),s1,I,p1,k0,k1,l0,l1,eq_true c1,eq_true c2];exact⟨Z,iS⟩
    ·simp(disch:=omega) only[evs,seval,DF,eff,fwrap_i64,D,g1,g2,g3,U.len,(oM:(j:Int)<A.length),s1,I,p1,k0,k1,l0,l1,eq_true c1,eq_false c2];refine rqn ⟨A.length-(j+1),oM,rfl,j+1,iS,iX,iX,iX,oM,rfl⟩
   ·simp(disch:=omega) only[evs,seval,DF,eff,fwrap_i64,D,g1,g2,g3,U.len,(oM:(j:Int)<A.length),s1,I,p1,k0,l0,eq_false c1];refine rqn ⟨A.length-(j+1),oM,rfl,j+1,iS,iX,iX,iX,oM,rfl⟩
  ·simp only[evs,seval,D,g2,U.len,(oM:¬(j:Int)<A.length)];exact⟨Z,iS⟩
theorem EI(wf:WF h)(a:SZ h vR vP n)(hn:n<=100000):ay go 168 [.agg [vR,vP]] h fun u h'=>Fr [] h h'/\FZ u:=by
 obtain⟨R,P,hR,hP⟩:=a;have r1:=RI hR.r;have p1:=RI hP.r;have n3:=hP.n3;obtain⟨h1,ab,Z,I⟩:=av wf [vR,vP];have l0{h'}(f:Fr [] h1 h'):=(f.get I).l1 0;have l1{h'}(f:Fr [] h1 h'):=(f.get I).l1 1;refine aa ?_;simp only[evs,seval,<-ab];refine aw (fun m env hh=>Fr [] h1 hh/\∃(j z:Int),env.get 4=some (ZZ j)/\env.get 3=some (ZZ z)/\env.get 1=some (.ptr h.next 0)/\-1<=j/\j<=3/\m=(3-j).toNat) 4 oM ?_ ?_
 ·exact⟨Qw Z.wf,-1,1,iS,iS,iS,oM,oM,rfl⟩
 ·rintro m env hh ⟨F,j,z,g4,g3,g1,hj,aj,rfl⟩;have J:=Z.then F;by_cases c:j<3
  ·have ad:∃(q:V)(L:List Hd),HL h q L 100000/\((¬0<=j/\q=vR)\/(0<=j/\∃b o,aP (.ixs 1) [vP,ZZ j]=some (.ptr b o)/\∀{h'},Fr [] hh h'->ai h' b o=some q)):=by
    by_cases D:0<=j
    ·obtain⟨b,o,p,q1,q2,_,q4⟩:=Rg cK (hP.fr J).r .i64 j D oM;have hp:=hP.i p (Of q4);refine⟨p.1,p.2,⟨hp.r,hp.i,by have:=hp.n;omega⟩,.inr ⟨D,b,o,q1,fun f=>?_⟩⟩;obtain⟨b',o',p',s1,s2,_,s4⟩:=Rg cK ((hP.fr J).fr f).r .i64 j D oM;rw[q1]at s1;cases s1;rw[q4]at s4;cases s4;exact s2 0 oM
    ·exact⟨vR,R,⟨hR.r,hR.i,by have:=hR.n;omega⟩,.inl ⟨D,rfl⟩⟩
   obtain⟨q,L,hL,hq⟩:=ad;have ah:=hL.n;have rr:=Qw (S:=[]) F.wf;rcases hq with⟨D,rfl⟩|⟨D,b,o,q1,q2⟩
   case' inl=>
    simp only[evs,seval,g4,g1,l1 F,(hP.fr J).r.len,(oM:j<(P.length:Int)),l0 F,D]
   case' inr=>
    simp only[evs,seval,g4,g1,l1 F,(hP.fr J).r.len,(oM:j<(P.length:Int)),l0 F,D,q1,q2 rr]
   all_goals
    refine aw (fun m env hh=>Fr [] h1 hh/\∃(y:Nat)(z:Int),env.get 6=some (ZZ y)/\env.get 5=some q/\env.get 4=some (ZZ j)/\env.get 3=some (ZZ z)/\env.get 1=some (.ptr h.next 0)/\y<=L.length/\m=L.length-y) L.length oM ?_ ?_
    ·exact⟨F,0,z,iS,iS,iX,iX,iX,oM,rfl⟩
    ·rintro m env hh ⟨F,y,z,g6,g5,g4,g3,g1,hy,rfl⟩;have J:=Z.then F;have U:=hL.fr J;by_cases cy:y<L.length
     ·obtain⟨b,o,x,p1,p2,p3,p4⟩:=Rg eD U.r .i64 (y:Int) oM oM;rw[so]at p4;have hx:=U.i x (Of p4);have tr{h'}(f:Fr [] hh h'):aH h' b (o+2) 6=some [ZY (x.k:Int),.str x.tg,.str x.ky,x.va,.str x.tx,x.vc]:=by
       obtain⟨b',o',x',s1,s2,s3,s4⟩:=Rg eD (U.fr f).r .i64 (y:Int) oM oM;rw[p1]at s1;cases s1;rw[so,p4]at s4;cases s4;exact HP (n:=2) (m:=6) s3
      simp only[evs,seval,g6,g5,U.r.len,(oM:(y:Int)<L.length),p1,tr (Qw F.wf)];obtain⟨at',sub,nh⟩:=hx.n;refine ae (wU F.wf nh) ?_;rintro _ h3 ⟨F3,rfl⟩;by_cases cc:NT.rC x.k x.tg x.ky at' x.tx sub=0
      ·rw[if_pos cc];simp only[evs,seval,eq_true (dI:(0:Int)<14)];exact⟨J.then F3,_,rfl⟩
      ·rw[if_neg cc];simp only[evs,seval,g6,g5,g3,eq_false (dI:¬(0:Int)<0),p1,tr F3];refine ae (pR F3.wf (NH.fr F3 nh)) ?_;rintro _ h5 ⟨F5,rfl⟩;simp(disch:=omega) only[evs,seval,fwrap_i64,g6];refine rqn ⟨L.length-(y+1),oM,F.then (F3.then F5),y+1,aB .i64 (z+(NT.rC x.k x.tg x.ky at' x.tx sub:Nat)),iS,iX,iX,iS,iX,oM,rfl⟩
     ·simp(disch:=omega) only[evs,seval,fwrap_i64,g6,g5,g4,U.r.len,(oM:¬(y:Int)<L.length)];refine rqn ⟨(3-(j+1)).toNat,oM,F,j+1,z,iS,iX,iX,oM,oM,rfl⟩
  ·simp only[evs,seval,g4,g3,g1,l1 F,(hP.fr J).r.len,(oM:¬j<(P.length:Int))];exact⟨J,_,rfl⟩
end
open Go.Ev.St
structure Mo where
 c:Cfg
 vE:V
 view:Int
 off:Int
 vR:V
 vP:V
 rnd:Int
 c1:Int
 c2:Int
 c3:Int
 c4:Int
def Mo.tail(m:Mo):List V:=[m.vE,ZZ m.view,ZZ m.off,m.vR,m.vP,ZZ m.rnd,ZZ m.c1,ZZ m.c2,ZZ m.c3,ZZ m.c4]
def Mo.cells(m:Mo):List V:=m.c.cells++m.tail
structure MZ(h:Heap)(m:Mo)(E:List Ent):Prop where
 kz:RZ h m.c.vK m.c.Ks
 cap:m.c.cap=12
 le:1<=m.c.least/\m.c.least<=6
 e:EZ h m.vE E
 r1:m.vR.one=true
 p1:m.vP.one=true
theorem MZ.fr{h':Heap}{m:Mo}{E:List Ent}(a:MZ h m E)(f:Fr [] h h'):MZ h' m E:=⟨a.kz.fr f,a.cap,a.le,a.e.fr f,a.r1,a.p1⟩
theorem MZ.on{m:Mo}{E:List Ent}(a:MZ h m E):az m.cells=true:=by
 have R:=a.kz.one;have J:=RI a.e.r;have U:=a.r1;have Z:=a.p1;simp only[Mo.cells,Mo.tail,Cfg.cells,Rb,Ri,af,ag,R,J,U,Z];rfl
section
variable {h : Heap} {vK vR vP vA v : V} {Ks : List Knd} {E : List Ent} {R : List Hd} {A : List Nat} {P : List (V × List Hd)} {c : Cfg} {m : Mo} {i s w o l d : Int} {j k n N : Nat}
theorem Ea(wf:WF h)(kz:RZ h vK Ks)(a:EZ h v E)(hj:j<E.length):ay go 166 [.agg [vK,ZZ 12],v,ZZ (j:Int)] h fun u h'=>Fr [] h h'/\
 ∃k tg ky tx va vc,u=.agg [ZY ((k:Nat):Int),.str tg,.str ky,va,.str tx,vc]/\az [ZY ((k:Nat):Int),.str tg,.str ky,va,.str tx,vc]=true/\
 ∀X h2,(∀y∈X,y<h.next)->Fr X h' h2->∃at' sub,NH h2 (.cons k tg ky at' tx va vc sub .nil):=by
 have v1:=kz.one;have k3:=kz.r.2.1;obtain⟨h1,I,ab,aj⟩:=av wf [vK,ZZ 12];obtain⟨h2,D,U,ah⟩:=av ab.wf [ZY 0,.str [],.str [],.nils,.str [],.nils];have n1:=hnx I
 have n2:=hnx D
 have ax:=ab.then U;have oc:=U.get aj;have l0{h'}(f:Fr [] h2 h'):=(f.get oc).l1 0;have l1{h'}(f:Fr [] h2 h'):=(f.get oc).l1 1;refine aa ?_;simp only[evs,seval,<-I,<-D];refine lW [zA 0 3,zL,zm 1,zm 2,zp (.ixs 6) [.l 1,.l 0],za 0,za 1,zL,zp (.ixs 9) [.l 6,.l 0],za 0,zn (.ld 6 true (.l 0)),zm 1,zm 2,zp (.ixs 6) [.l 1,.l 0],za 0,zn (.ld 4 true (.l 0)),zA 1 3,zL,zc 227 [.l 7,.l 2,.l 0],zp .mv [.l 0],zp (.ext 0) [.l 0],zp (.ext 1) [.l 1]] _ rfl ?_;have Z:=QW U.wf [ZY 0,.str [],.str [],.nils,.str [],.nils];have ad:=Ro U.wf [ZY 0,.str [],.str [],.nils,.str [],.nils];have ak:(halloc h2 [ZY 0,.str [],.str [],.nils,.str [],.nils]).next=h2.next+1:=rfl;generalize halloc h2 [ZY 0,.str [],.str [],.nils,.str [],.nils]=h3 at Z ad ak|-;have R:=ax.then Z;have e0:=Qq hj;generalize E[j]=e at e0;have em:=Of e0;have ez:=a.z e em;have a3:=a.fr R;have aA:=kz.fr R;obtain⟨b,o,e',p1,p2,p3,p4⟩:=Rg aJ a3.r .i64 (j:Int) oM oM;rw[so,e0]at p4;cases p4;have p4:aH h3 b o 4=some e.x.cells:=ew (m:=2) p3;have k1:ai h3 b (o+1)=some (ZY (e.x.type:Int)):=p2 1 oM;obtain⟨bk,ok',q,r1,r2,r3,r4⟩:=Rg aW aA.rk .u8 (e.x.type:Int) oM oM;rw[so]at r4;have qm:=Of r4;have p6:aH h3 bk ok' 6=some q.part:=ew (m:=3) r3;obtain⟨_,ao,_⟩:=kz.r.2.2 q qm;simp only[evs,seval,eff,l0 Z,l1 Z,p1,k1,r1,p6,p4];refine ae (sj Z.wf ((kz.kh q qm).fr R) ao (a3.i e em)) ?_;rintro _ h4 ⟨J,cs,t,rfl,on,cl,_,_,_,T⟩;obtain⟨k,tg,ky,at',tx,va,vc,sub,rfl,_⟩:=T [] h4 iS (Qw J.wf);simp only[evs,eff,cR,fu];refine ac (c':=[ZY ((k:Nat):Int),.str tg,.str ky,va,.str tx,vc]) J.wf (J.get ad) rfl on rfl ?_;rintro h5 o5 F5 n5;have n4:=J.next;have l5:=o5.la 6
 simp only[evs,seval,DF,eff,l0 Z,l1 Z,k1,p6,p4,l5];have o1:=F5.own _ _ oO (J.get (Z.get ah));refine ac (c':=[ZY ((k:Nat):Int),.str tg,.str ky,va,.str tx,vc]) F5.wf o1 rfl on rfl ?_;rintro h6 o6 F6 n6;have l6:=o6.la 6
 simp only[evs,seval,l6];have n3:=R.next;refine⟨Ru wf (R.then J) (Qx (T:=[h2.next,h1.next]) F5 F6 J.wf (fun y m=>.inl (by simp at m;simp[m])) (fun y m=>.inl (by simp at m;simp[m]))) oO,k,tg,ky,tx,va,vc,rfl,on,fun X hq hX FX=>?_⟩;have FY:=Qx (S:=[h2.next,h1.next]) (T:=h2.next::h1.next::X) (Qx F5 F6 J.wf (fun y m=>.inl (by simp at m;simp[m])) (fun y m=>.inl (by simp at m;simp[m]))) FX J.wf (fun y m=>.inl (by simp at m;rcases m with rfl|rfl<;>simp)) (fun y m=>.inl iX)
 obtain⟨k',aE,aF,at'',tx',va',vc',sub',e,nh⟩:=T (h2.next::h1.next::X) hq (by
  intro y m;rcases Qy.1 m with rfl|m
  ·omega
  rcases Qy.1 m with rfl|m
  ·omega
  ·have:=hX y m;omega) FY
 simp only[QC,V.int.injEq,V.str.injEq,true_and,and_true,Int.natCast_inj]at e;obtain⟨rfl,rfl,rfl,rfl,rfl,rfl⟩:=e;exact⟨at'',sub',nh⟩
theorem I8(wf:WF h)(a:MZ h m E):ay go 105 [.agg m.cells] h fun u h'=>Fr [] h h'/\∃A:List Nat,Gs h' h.next 1 u (A.flatMap nC)/\(∀x∈A,x<E.length)/\A.length<=1024:=by
 have on:=a.on;obtain⟨D,I,U,Z⟩:=av wf m.cells;have n1:=hnx I
 have lc{h'}(f:Fr [] D h'):aH h' h.next 0 7=some m.c.cells:=by rw[(f.get Z).ld];rfl
 have l7{h'}(f:Fr [] D h'):=(f.get Z).l1 7;have l8{h'}(f:Fr [] D h'):=(f.get Z).l1 8;have l9{h'}(f:Fr [] D h'):=(f.get Z).l1 9;have l1{h'}(f:Fr [] D h'):=(f.get Z).l1 1;have r0:=Qw (S:=[]) U.wf;refine aa ?_;simp[evs,eff,<-I,lc r0];refine ae (gO U.wf a.kz.one rfl) ?_;rintro _ h2 ⟨R,rfl⟩;rw[a.cap];have J:=U.then R;simp[evs,eff,l7 R,l8 R,l9 R,l1 R];refine ae (Av R.wf (a.kz.fr J) (a.e.fr J)) ?_;rintro _ h3 ⟨F3,u',t,A,rfl,G,hA,nA⟩;simp[evs,DF,eff,lc r0,l7 r0,l7 R,l8 r0,l8 R,l9 r0,l9 R,l1 r0,l1 R];exact⟨J.then F3,A,G.le (by have:=J.next;omega),hA,nA⟩
end
open Go.Ev.St
theorem Gs.bkvb{B e:Nat}{v:V}{cs:List V}(g:Gs h B e v cs):bk v=vb v:=by
 rcases g with⟨rfl,_⟩|⟨b,m,rfl,_⟩<;>rfl
structure PW(I:Hd->Prop)(B bP N:Nat)(X:List Nat)(Q:List (V×List Hd))(h:Heap):Prop where
 n3:Q.length=3
 o:Own h bP (Q.flatMap pC)
 co:CO h B Q
 d:∀p∈Q,∀z∈X,z∉bk p.1
 i:∀p∈Q,∀x∈p.2,I x
 n:∀p∈Q,p.2.length<=N
section
variable {I : Hd -> Prop} {h h' h6 h7 h8 : Heap} {B bP N M t : Nat} {X Z : List Nat} {Q : List (V × List Hd)} {p : V × List Hd} {v : V} {x : Hd}
theorem PW.fr(a:PW I B bP N X Q h)(f:Fr Z h h')(hb:bP∉Z)(hz:∀z∈Z,z∈X):PW I B bP N X Q h':=
 ⟨a.n3,f.own _ _ hb a.o,a.co.frZ f fun p m z hz' hz''=>a.d p m z (hz z hz'') hz',a.d,a.i,a.n⟩
theorem PW.get(a:PW I B bP N X Q h)(f:Fr [] h h'):PW I B bP N X Q h':=a.fr f iS iS
theorem PW.le(a:PW I B bP N X Q h)(l:N<=M):PW I B bP M X Q h:=⟨a.n3,a.o,a.co,a.d,a.i,fun p m=>by have:=a.n p m;omega⟩
theorem zj(o:Own h bP (Q.flatMap pC))(e:Q[t]? =some p):ai h bP t=some p.1:=by
 rw[o.ld1,fq];have:=dE cK Q t;rw[Sj]at this;rw[show(Q.flatMap pC)[t]? =((Q.flatMap pC).drop t)[0]? by rw[Rl];simp,this,aX e];rfl
theorem PW.put(w:WF h6)(a:PW I B bP N X Q h6)(e:Q[t]? =some p)(g:Gs h7 B 8 v (p.2.flatMap Hd.cells++x.cells))(ev:vb v=[h6.next])(F7:Fr (vb p.1) h6 h7)(o8:Own h8 bP ((Q.set t (v,p.2++[x])).flatMap pC))(F8:Fr [bP] h7 h8)
 (hX:∀z∈X,z<h6.next) (hb:bP∈X) (hx:I x):PW I B bP (N+1) X (Q.set t (v,p.2++[x])) h8:=by
 have pm:=Of e;have ht:=(QD.1 e).1;have bv:bk v=[h6.next]:=by rw[Gs.bkvb g,ev]
 have bl:=hX _ hb;have mem:∀q∈Q.set t (v,p.2++[x]),q=(v,p.2++[x])\/∃i,i≠t/\Q[i]? =some q:=fun q m=>by
  obtain⟨i,U⟩:=List.mem_iff_getElem?.1 m;rw[Ui]at U;by_cases c:t=i
  ·rw[if_pos c,if_pos ht]at U;cases U;exact .inl rfl
  ·rw[if_neg c]at U;exact .inr ⟨i,Sx c,U⟩
 refine⟨by simp[a.n3],o8,⟨fun q m=>?_,fun i j q r n U hj z R Z=>?_⟩,fun q m z R Z=>?_,fun q m y D=>?_,fun q m=>?_⟩
 ·rcases mem q m with rfl|⟨i,U,J⟩
  ·have:=(Gs.gn (n:=(p.2++[x]).length) g (by rw[Qv,au eD,Qv,eD];simp;omega) oM).frZ F8 (fun z R Z=>by
    rw[bv]at Z;simp at R Z;omega)
   simpa using this
  ·have qm:=Of J;exact((a.co.g q qm).frZ F7 fun z R Z=>a.co.s t i p q (Sx U) e J z (Cp R) Z).frZ F8 fun z R Z=>by
    simp at R;subst R;exact a.d q qm _ hb Z
 ·rw[Ui]at U hj;by_cases c:t=i
  ·rw[if_pos c,if_pos ht]at U;cases U;rw[if_neg oM]at hj;have:=(a.co.g r (Of hj)).bkl w z Z;rw[bv]at R;simp at R;omega
  ·rw[if_neg c]at U;by_cases c':t=j
   ·rw[if_pos c',if_pos ht]at hj;cases hj;have:=(a.co.g q (Of U)).bkl w z R;rw[bv]at Z;simp at Z;omega
   ·rw[if_neg c']at hj;exact a.co.s i j q r n U hj z R Z
 ·rcases mem q m with rfl|⟨i,U,J⟩
  ·rw[bv]at Z;simp at Z;have:=hX z R;omega
  ·exact a.d q (Of J) z R Z
 ·rcases mem q m with rfl|⟨i,U,J⟩
  ·rcases Qp.1 D with D|D
   ·exact a.i p pm y D
   ·simp at D;subst D;exact hx
  ·exact a.i q (Of J) y D
 ·rcases mem q m with rfl|⟨i,U,J⟩
  ·have:=a.n p pm;simp;omega
  ·have:=a.n q (Of J);omega
end
open Go.Ev.St
section
variable {O : Nat -> Prop} {h : Heap} {vK vR vP vA v : V} {E : List Ent} {A : List Nat} {c : Cfg} {n : Nat}
set_option maxHeartbeats 2000000 in
theorem Ah(wf:WF h)(hO:∀z,O z->z<h.next)(kz:RZ h c.vK c.Ks)(cc:c.cap=12)(sz:SZs O h vR vP n)(hn:n<=90000)(a:EZ h v E)(ra:Recs nC 1 h vA A)(hA:∀y∈A,y<E.length)(nA:A.length<=1024):
 ay go 104 [.agg c.cells,.agg [vR,vP],v,vA] h fun u h'=>Fr [] h h'/\∃(d9 I:V)(c1 c2 c3 c4 e:Int),u=.tup [.agg [d9,I],.agg [ZZ c1,ZZ c2,ZZ c3,ZZ c4],ZZ e]/\
  ((e=0/\SZs O h' d9 I (n+1024))\/(e=15/\d9=.nils/\I=.nils)):=by
 obtain⟨R,P,sz⟩:=sz;obtain⟨hR,hP⟩:=sz.at wf;have r1:=RI hR.r;have p1:=RI hP.r;have k1:=kz.one;have oc:az c.cells=true:=by simp only[Cfg.cells,af,ag,k1];rfl
 have k3:=kz.r.2.1;have nR:=hR.n;have hE:=a.n;obtain⟨h1,bh⟩:∃h1,h1=halloc h c.cells:=⟨_,rfl⟩;have ca:=bh▸QW wf _;have ce:=bh▸Ro wf _;obtain⟨h2,a8⟩:∃h2,h2=halloc h1 [vR,vP]:=⟨_,rfl⟩;have bT:=a8▸QW ca.wf _;have dc:=a8▸Ro ca.wf _;obtain⟨h3,br⟩:∃h3,h3=halloc h2 [.nils,.nils]:=⟨_,rfl⟩;have bL:=br▸QW bT.wf _;have e7:=br▸Ro bT.wf _;obtain⟨h4,bm⟩:∃h4,h4=halloc h3 [ZZ 0,ZZ 0,ZZ 0,ZZ 0]:=⟨_,rfl⟩;have da:=bm▸QW bL.wf _;have el:=bm▸Ro bL.wf _;have n1:h1.next=h.next+1:=by rw[bh];rfl
 have n2:h2.next=h1.next+1:=by rw[a8];rfl
 have n3:h3.next=h2.next+1:=by rw[br];rfl
 have n4:h4.next=h3.next+1:=by rw[bm];rfl
 have ej:=bL.then da;have cS:=bT.then ej;have U:=ca.then cS;have eH{h'}(f:Fr [] h4 h'):=(f.get (cS.get ce)).la 7
 have fv{h'}(f:Fr [] h4 h'):=(f.get (cS.get ce)).l1 3;have fm{h'}(f:Fr [] h4 h'):=(f.get (cS.get ce)).l1 5;have bE{h'}(f:Fr [] h4 h'):=(f.get (ej.get dc)).l1 0;have g6:=(ej.get dc).la 2
 refine aa ?_;simp only[evs,seval,<-bh,<-a8,<-br,<-bm,g6];refine ae (wA U.wf (hR.fr U) (hP.fr U) oM) ?_;rintro _ h5 ⟨F5,vQ,I,P',rfl,GR,GP,nP,co,ds,dR,hx⟩;have q1:=GR.one;have q2:=GP.one;obtain⟨h6,bc⟩:∃h6,h6=halloc h5 [.nils,.nils]:=⟨_,rfl⟩;have dr:=bc▸QW F5.wf _;have e1:=bc▸Ro F5.wf _;have n6:h6.next=h5.next+1:=by rw[bc];rfl
 have n5:=F5.next;simp only[evs,seval,<-bc];refine ac (c':=[vQ,I]) dr.wf e1 rfl (by simp only[V.cells,af,ag,q1,q2];rfl) rfl ?_;rintro h7 o7 F7 n7;simp only[evs,seval];refine stu F7.wf o7 ?_;rintro h8 o8 F8 n8;obtain⟨h9,bg⟩:∃h9,h9=halloc h8 [ZZ 0,ZZ 0,ZZ 0,ZZ 0]:=⟨_,rfl⟩;have db:=bg▸QW F8.wf _;have en:=bg▸Ro F8.wf _;have n9:h9.next=h8.next+1:=by rw[bg];rfl
 have gr:=dr.fresh F7 F5.wf (pi _);have g7:=gr.fresh F8 F5.wf (pi _);have ef:=g7.then db;have gT:=F5.then ef;have e8:h8.next=h5.next+1:=oM
 simp only[evs,<-bg];obtain⟨bP,hb,hB,oP,_,fz⟩:=(GP.fr ef).ptr (n:=P'.length) (au cK P') oM (i:=0) oM;have px:∀(k:IntKind)(j:Nat),j<3->aP (.ixs 1) [I,.int k (j:Int)]=some (.ptr bP j):=fun k j hj=>by
  obtain⟨b',cq,_,_,px,_⟩:=GP.ptr (n:=P'.length) (au cK P') oM (i:=j) oM;rw[hb]at cq;cases cq;simpa using px k
 have bl:bP<h5.next:=GP.lt F5.wf _ (by rw[hb];simp);have gk:PW (fun x=>Stb O h fun h=>HdH h x) h4.next bP n [h5.next,h8.next,bP,h2.next,h3.next] P' h9:=by
  refine⟨nP,oP,co.get ef,fun p m z hz a5=>?_,fun p m x mx=>?_,fun p m=>?_⟩
  ·have g:=co.g p m;have b1:=g.bkB z a5;have b2:=g.bkl F5.wf z a5;simp at hz;rcases hz with rfl|rfl|rfl|rfl|rfl
   ·omega
   ·omega
   ·exact ds p m _ a5 (by rw[hb];simp)
   ·omega
   ·omega
  ·obtain⟨q,qm,e⟩:=hx p m;exact fun S h' hS f=>((sz S h' hS f).2.i q qm).i x (e▸mx)
  ·obtain⟨q,qm,e⟩:=hx p m;exact e▸(hP.i q qm).n
 have f6:=db.get o8;have fC{ha hb}(f:Fr [h8.next] ha hb)(g:Fr [] h4 ha):=g.fresh f U.wf oM;refine aw (fun z env hh=>Fr [] h4 hh/\∃(j:Nat)(c1 c2 c3 c4:Int)(Q:List (V×List Hd)),env.get 13=some (ZZ j)/\env.get 2=some v/\env.get 3=some vA/\env.get 4=some (.ptr h.next 0)/\env.get 5=some (.ptr h1.next 0)/\env.get 8=some (.ptr h2.next 0)/\env.get 9=some (.ptr h3.next 0)/\env.get 11=some (.ptr h5.next 0)/\env.get 12=some (.ptr h8.next 0)/\j<=R.length/\h9.next<=hh.next/\
  Own hh h5.next [.nils,I]/\Own hh h8.next [ZZ c1,ZZ c2,ZZ c3,ZZ c4]/\PW (fun x=>Stb O h fun h=>HdH h x) h4.next bP (n+j) [h5.next,h8.next,bP,h2.next,h3.next] Q hh/\z=R.length-j) R.length oM ?_ ?_
 ·exact⟨gT,0,0,0,0,0,P',iS,iS,iS,iS,iS,iS,iS,iS,iS,oM,pi _,f6,en,gk,rfl⟩
 ·rintro z env hh ⟨F,j,c1,c2,c3,c4,Q,bz,g2,g3,g4,g5,g8,g9,ah,aE,hj,hnx,oa,ob,pw,rfl⟩;have rr:=Qw (S:=[]) F.wf;have F0:=U.then F;by_cases cj:j<R.length
  ·obtain⟨xb,xo,x,f9,_,q3,q4⟩:=Rg eD (hR.fr F0).r .i64 (j:Int) oM oM;rw[so]at q4;have xm:=Of q4;have d6:=hR.i x xm;have xt:=d6.t;have fp:=d6.on;obtain⟨ha,D⟩:∃ha,ha=halloc hh [ZX 0,ZY 0,ZY 0,.str [],.str [],.nils,.str [],.nils]:=⟨_,rfl⟩;have a1:=D▸QW F.wf _;have bK:=D▸Ro F.wf _;have na:ha.next=hh.next+1:=by rw[D];rfl
   simp only[evs,seval,bz,g5,bE F,(hR.fr F0).r.len,(oM:(j:Int)<R.length),f9,q3,<-D];refine ac (c':=x.cells) a1.wf bK rfl fp rfl ?_;rintro hb a7 Fb nb;have cl:=a1.fresh Fb F.wf iS;have lx:=a7.la 8
   simp only[evs,seval,lx,g2,g3];refine ae (AP cl.wf (d6.fr (F0.then cl)) (a.fr (F0.then cl)) (QI ra (F0.then cl)) hA nA) ?_;rintro u hc ⟨Fc,hu⟩;have bI:=cl.then Fc;have ak:=F.then bI;have aj:=pw.get bI;have a4:=bI.get oa;have cx:=bI.get ob;have hG:=bI.next;rcases hu with rfl|rfl
   case' inr=>
    simp(disch:=omega) only[evs,seval,fwrap_i64,bz];refine rqn ⟨R.length-(j+1),oM,ak,j+1,c1,c2,c3,c4,Q,iS,iX,iX,iX,iX,iX,iX,iX,iX,oM,oM,a4,cx,aj.le oM,rfl⟩
   have bu:=Fc.get a7;have cm{h'}(o:Own h' hh.next x.cells):=o.l1 1;have la1{h'}(o:Own h' h5.next [.nils,I]):=o.l1 1;have ed:x.type<Q.length:=by have:=aj.n3;omega
   obtain⟨p,ep⟩:∃p,Q[x.type]? =some p:=⟨_,Qq ed⟩;have pm:=Of ep;have rp{h'}(f:Fr [] hc h'):Recs Hd.cells 8 h' p.1 p.2:=((aj.get f).co.g p pm).sl;have np:=aj.n p pm;obtain⟨kb,ko,q,s1,s2,s3,s4⟩:=Rg aW (QI kz.rk (U.then ak)) .u8 (x.type:Int) oM oM;have s8:ai hc kb (ko+8)=some (ZZ q.pool):=s2 8 oM;have lp{h'}(o:Own h' bP (Q.flatMap pC)):=zj o ep;have rc:=Qw (S:=[]) Fc.wf;have fw:=eq_false (dI:¬(0:Int)=1);by_cases cp:(p.2.length:Int)=q.pool
   ·simp only[evs,seval,DF,eff,fw,ah,la1 a4,cm bu,px .u8 x.type xt,lp aj.o,(rp rc).len,g4,fv ak,s1,s8,eq_true cp,aE,cx.ld1 2];refine stu Fc.wf cx ?_;rintro hd od Fd nd;simp(disch:=omega) only[evs,seval,fwrap_i64,bz];refine rqn ⟨R.length-(j+1),oM,fC Fd ak,j+1,c1,c2,_,c4,Q,iS,iX,iX,iX,iX,iX,iX,iX,iX,oM,oM,Fd.own _ _ oO a4,od,(aj.fr Fd oO iS).le oM,rfl⟩
   ·simp only[evs,seval,DF,eff,fw,ah,la1 a4,cm bu,px .u8 x.type xt,lp aj.o,(rp rc).len,g4,fv ak,s1,s8,eq_false cp];obtain⟨hd,bf⟩:∃hd,hd=halloc hc x.cells:=⟨_,rfl⟩;have J:=bf▸QW Fc.wf _;have fj:=bf▸Ro Fc.wf _;have nd:hd.next=hc.next+1:=by rw[bf];rfl
    have eu:=bu.la 8
    have e4:=la1 (J.get a4);have fi:=cm (J.get bu);have gy:=lp (J.get aj.o);have d0:bF [V.int IntKind.u64 0,V.int IntKind.u8 0,V.int IntKind.u8 0,V.str [],V.str [],V.nils,V.str [],V.nils] 0 x.cells=some x.cells:=rfl;simp only[evs,seval,eff,eu,eD x,d0,<-bf];have b7:=aj.get J;refine Gn.append1 (bytes:=120) (n:=p.2.length) J.wf (b7.co.g p pm) (RM fj rfl) oM fp (by have:=J.next;omega) (by rw[au eD];omega) ?_;intro v' he Ge hp Fe;have cy:=Ge.one;have f7:=Ru U.wf (ak.then J) Fe (fun z mz=>by
     have:=(b7.co.g p pm).bkB z (Cp mz);omega)
    have nz:=fun z mz cI=>b7.d p pm z mz (Cp cI);have eK:=Fe.own _ _ (nz _ iS) (J.get a4);have gM:=Fe.own _ _ (nz _ iS) (J.get cx);have gE:=Fe.own _ _ (nz _ iS) b7.o;have gf:=Fe.own _ _ (fun m=>by have:=(pw.co.g p pm).bkl F.wf _ (Cp m);omega) (J.get bu);simp only[evs,eff,px .u8 x.type xt];refine ac (c':=(Q.set x.type (v',p.2++[x])).flatMap pC) Fe.wf gE (by rw[aq cy];rfl) (by rw[aq cy];simp only[af,ag,cy];rfl) (by
     have:=aS cK (y:=(v',p.2++[x])) (o:=0) (vs:=[v']) Q x.type p ep rfl;rw[aq cy];simpa using this) ?_
    rintro hf of Ff nf;simp(disch:=omega) only[evs,seval,DF,fwrap_i64,bz,la1 a4,e4,la1 eK,cm bu,fi,cm gf,lp aj.o,gy,eu];have hK:=Fe.next;refine rqn ⟨R.length-(j+1),oM,Tt f7 Ff U.wf oM,j+1,c1,c2,c3,c4,_,iS,iX,iX,iX,iX,iX,iX,iX,iX,oM,oM,Ff.own _ _ oO eK,Ff.own _ _ oO gM,PW.put J.wf b7 ep Ge hp Fe of Ff oO iS (fun S h' hS f=>(sz S h' hS f).1.i x xm),rfl⟩
  ·have pl:∀p∈Q,Stb (fun z=>O z\/z∈[h5.next,h8.next,bP,h2.next,h3.next]) hh fun h'=>Recs Hd.cells 8 h' p.1 p.2:=fun p m S h' hS f=>((pw.co.g p m).frZ f fun z hz a5=>by
    have bB:=(pw.co.g p m).bkB z a5;have bl:=(pw.co.g p m).bkl F.wf z a5;rcases hS z hz with(q|q)|q
    ·have:=hO z q;omega
    ·exact pw.d p m z q a5
    ·omega).sl
   have bX:∀z∈[h5.next,h8.next,bP,h2.next,h3.next],h.next<=z/\z<hh.next:=by simp;omega
   have bY:∀z∈[h5.next,h8.next,bP],h4.next<=z:=by simp;omega
   simp only[evs,seval,bz,g5,bE F,(hR.fr F0).r.len,(oM:¬(j:Int)<R.length)];generalize hX:[h5.next,h8.next,bP,h2.next,h3.next]=X at *;have b1:h5.next∈X:=by rw[<-hX];simp
   have b2:h8.next∈X:=by rw[<-hX];simp
   have b3:bP∈X:=by rw[<-hX];simp
   have b4:h2.next∈X:=by rw[<-hX];simp
   have b5:h3.next∈X:=by rw[<-hX];simp
   refine aw (fun z env hm=>Fr X hh hm/\Fr [] h4 hm/\∃(j:Nat)(c1 c2 c3 c4:Int)(Q:List (V×List Hd))(vW:V)(L:List Hd),env.get 15=some (ZZ j)/\env.get 2=some v/\env.get 3=some vA/\env.get 4=some (.ptr h.next 0)/\env.get 5=some (.ptr h1.next 0)/\env.get 8=some (.ptr h2.next 0)/\env.get 9=some (.ptr h3.next 0)/\env.get 11=some (.ptr h5.next 0)/\env.get 12=some (.ptr h8.next 0)/\j<=A.length/\
    Own hm h5.next [vW,I]/\Own hm h8.next [ZZ c1,ZZ c2,ZZ c3,ZZ c4]/\Own hm bP (Q.flatMap pC)/\Q.length=3/\(∀p∈Q,(Stb (fun z=>O z\/z∈X) hh fun h'=>Recs Hd.cells 8 h' p.1 p.2)/\(∀x∈p.2,Stb O h fun h=>HdH h x)/\p.2.length<=n+1024)/\
    Gs hm hh.next 8 vW (L.flatMap Hd.cells)/\L.length=j/\(∀x∈L,Stb (fun z=>O z\/z∈X\/z∈vb vW) hm fun h'=>HdH h' x)/\z=A.length-j) A.length oM ?_ ?_
   ·exact⟨Qx (Qw (S:=[]) F.wf) (Qw (S:=[]) F.wf) F.wf iS iS,F,0,c1,c2,c3,c4,Q,.nils,[],iS,iX,iX,iX,iX,iX,iX,iX,iX,oM,oa,ob,pw.o,pw.n3,fun p m=>⟨pl p m,pw.i p m,by have:=pw.n p m;omega⟩,.inl ⟨rfl,rfl⟩,rfl,iS,rfl⟩
   ·have hT:=F;clear oa ob pw pl g2 g3 g4 g5 g8 g9 ah aE bz;rintro z env hm ⟨FX,Z,i,d1,d2,d3,d4,Q,vW,L,bv,g2,g3,g4,g5,g8,g9,ah,aE,hi,oa,ob,oP,nQ,hQ,GL,nL,hL,rfl⟩;have a3:=U.then Z;have w1:=GL.one;have hw:=FX.next;by_cases ci:i<A.length
    ·obtain⟨y,ey⟩:∃y,A[i]? =some y:=⟨_,Qq ci⟩;have yl:=hA y (Of ey);obtain⟨ab,ao,qa,la⟩:=Recs.ld1 ra ey;have lA{h'}(f:Fr [] h h'):=la (QI ra f);have e0:=Qq yl;generalize E[y]=e at e0;have em:=Of e0;have et:=(a.z e em).2;obtain⟨eb,eo,qe,p1,p2,p3,p4⟩:=Rg aJ (a.fr a3).r .i64 (y:Int) oM oM;rw[so,e0]at p4;cases p4;have p4:aH hm eb eo 4=some e.x.cells:=ew (m:=2) p3;obtain⟨ha,D⟩:∃ha,ha=halloc hm [ZX 0,ZY 0,.str [],.nils]:=⟨_,rfl⟩;have a1:=D▸QW Z.wf _;have bK:=D▸Ro Z.wf _;have na:ha.next=hm.next+1:=by rw[D];rfl
     simp only[evs,seval,bv,g3,g2,(QI ra a3).len,(oM:(i:Int)<A.length),qa,lA a3,p1,p4,<-D];refine ac (c':=e.x.cells) a1.wf bK rfl (a.i e em).one rfl ?_;rintro hb ea Fb nb;have fT:=a1.fresh Fb Z.wf iS;have bn{h'}(f:Fr [] hb h'):=(f.get ea).l1 0;have a9{h'}(f:Fr [] hb h'):=(f.get ea).l1 1;have aF:=Z.then fT;have rb:=Qw (S:=[]) Fb.wf;simp only[evs];refine lW [zA 0 16,zL,zA 1 16,zL,zn (.ld 7 true (.v 4)),zc 102 [.l 0],zm 2,zm 3,zm 15,zp (.ixs 1) [.l 1,.l 0],zL,zc 166 [.l 5,.l 4,.l 0],zp (.build [(ZX 0),(ZY 0),(ZY 0),(.str []),(.str []),.nils,(.str []),.nils] [(0,1),(1,1),(2,6)]) [.l 10,.l 8,.l 0]] _ rfl ?_;have ad:=QW Fb.wf [ZX 0,ZY 0,ZY 0,.str [],.str [],.nils,.str [],.nils];have dp:=Ro Fb.wf [ZX 0,ZY 0,ZY 0,.str [],.str [],.nils,.str [],.nils];have f5:(halloc hb [ZX 0,ZY 0,ZY 0,.str [],.str [],.nils,.str [],.nils]).next=hb.next+1:=rfl;generalize halloc hb [ZX 0,ZY 0,ZY 0,.str [],.str [],.nils,.str [],.nils]=hc at ad dp f5|-;have ak:=aF.then ad;have gI:=U.then ak;simp only[evs,seval,eff,g4,bn ad,a9 ad,eH ak];refine ae (gO ad.wf k1 rfl) ?_;rintro _ hd ⟨Fd,rfl⟩;have cu:=ad.then Fd;have hv:=aF.then cu;have cn:=U.then hv;rw[cc];simp only[evs,seval,eff,g2,g3,bv,qa,lA cn];refine ae (Ea Fd.wf (kz.fr cn) (a.fr cn) yl) ?_;rintro _ he ⟨Fe,k,tg,ky,tx,va,vc,rfl,on,st⟩;have cT:=cu.then Fe;obtain⟨W,hW⟩:∃W:Hd,W=⟨e.x.key,e.x.type,k,tg,ky,tx,va,vc⟩:=⟨_,rfl⟩;have cW:W.cells=[ZX (e.x.key:Int),ZY (e.x.type:Int),ZY ((k:Nat):Int),.str tg,.str ky,va,.str tx,vc]:=by rw[hW];rfl
     have eL:az W.cells=true:=by rw[cW,af,af,on];rfl
     simp only[evs,seval,eff,cR,fu,<-cW];refine ac (c':=W.cells) Fe.wf (Fe.get (Fd.get dp)) rfl eL (by rw[cW];rfl) ?_;rintro hf hr Ff nf;have hC:=cT.next;have e3:=cT.fresh Ff Fb.wf (pi _);have ei:=fT.then e3;have hF:=Z.then ei;have gq:=hr.la 8
     have ho{h' u}(o:Own h' h5.next [u,I]):=o.l1 0;have cN{h' u}(o:Own h' h5.next [u,I]):=o.l1 1;have d0:bF [V.int IntKind.u64 0,V.int IntKind.u8 0,V.int IntKind.u8 0,V.str [],V.str [],V.nils,V.str [],V.nils] 0 W.cells=some W.cells:=by rw[hW];rfl
     obtain⟨hg,bi⟩:∃hg,hg=halloc hf W.cells:=⟨_,rfl⟩;have a2:=bi▸QW Ff.wf _;have eC:=bi▸Ro Ff.wf _;have ng:hg.next=hf.next+1:=by rw[bi];rfl
     have aR:=ei.then a2;have gD:=Z.then aR;simp only[evs,seval,DF,g4,eH ak,bn ad,bn cu,bn cT,a9 ad,a9 cu,a9 cT,lA gI,lA cn,ah,ho (ei.get oa),gq,eD W,d0,<-bi];refine RB (bytes:=120) (n:=1) a2.wf (GL.fr aR) (RM eC (eD W)) oM oM eL (by have:=a2.next;omega) (by rw[au eD];omega) ?_;intro bt hk Gk ex Fk;have vw:=GL.vb;have vl:=GL.lt Z.wf;have v1:=Gk.one;have nk:=Fk.next;have hV:=aR.next;have gh:h5.next∉vb vW:=fun m=>by have:=vw _ m;have:=(bX _ b1).2;omega
     have f8:h8.next∉vb vW:=fun m=>by have:=vw _ m;have:=(bX _ b2).2;omega
     have gj:bP∉vb vW:=fun m=>by have:=vw _ m;have:=(bX _ b3).2;omega
     have gb:=Fk.own _ _ gh (aR.get oa);have gN:=Ru U.wf gD Fk (fun z m=>by have:=vw z m;have:=F.next;omega);simp only[evs,seval,ah];refine ac (c':=[bt,I]) Fk.wf gb (by rw[aq v1];rfl) (by rw[aq v1];simp only[af,ag,v1];rfl) (by rw[aq v1];rfl) ?_;rintro hl ch Fl nl;have a6:=gN.fresh Fl U.wf (bY _ iS);have bw:=U.then a6;have bN:=Fl.own _ _ oO (Fk.own _ _ f8 (aR.get ob));have b6:=Fl.own _ _ oO (Fk.own _ _ gj (aR.get oP));have aA:=Fl.own _ _ (by have:=(bX _ b1).2;simp;omega) (Fk.own _ _ (fun m=>by have:=vl _ m;omega) (a2.get (e3.get ea)));have es{h'}(o:Own h' hm.next e.x.cells):=o.l1 0;have ax{h'}(o:Own h' hm.next e.x.cells):=o.l1 1;have gs:=Qx FX aR F.wf (fun x m=>.inl m) iS;have gp:=Qx gs Fk F.wf (fun x m=>.inl m) (fun x m=>.inr (vw x m));have a0:=Qx gp Fl F.wf (fun x m=>.inl m) (fun x m=>.inl (by simp at m;exact m▸b1));have Gl:Gs hl hh.next 8 bt ((L++[W]).flatMap Hd.cells):=by
      rw[QV,RN];exact Gk.keep Fl (by have:=(bX _ b1).2;simpa using this)
     have d8:(L++[W]).length=i+1:=by simp[nL]
     have d7:∀x∈L++[W],Stb (fun z=>O z\/z∈X\/z∈vb bt) hl fun h'=>HdH h' x:=fun x m S h' hS f=>by
      rcases Qp.1 m with m|m
      ·have t2:Fr (vb vW++(h5.next::S)) hm hk:=Qx aR Fk Z.wf iS (fun x m=>.inl iX);have t3:=Qx t2 Fl Z.wf (fun x m=>.inl m) (fun x m=>.inl (by simp at m;subst m;simp));refine hL x m _ h' (fun z mz=>?_) (Qx t3 f Z.wf (fun x m=>.inl m) (fun x m=>.inl iX));rcases Qp.1 mz with q|q
       ·exact .inl (.inr (.inr q))
       rcases Qy.1 q with rfl|q
       ·exact .inl (.inr (.inl b1))
       rcases hS z q with(q|q|q)|q
       ·exact .inl (.inl q)
       ·exact .inl (.inr (.inl q))
       ·rw[ex]at q;simp at q;exact .inr oM
       ·exact .inr oM
      ·simp at m;have t1:Fr (hb.next::(vb vW++(h5.next::S))) he hg:=Qx Ff a2 Fe.wf (fun x m=>.inl (by simp at m;simp[m])) iS;have t2:=Qx t1 Fk Fe.wf (fun x m=>.inl m) (fun x m=>.inl iX);have t3:=Qx t2 Fl Fe.wf (fun x m=>.inl m) (fun x m=>.inl (by simp at m;subst m;simp));have t4:=Qx t3 f Fe.wf (fun x m=>.inl m) (fun x m=>.inl iX);obtain⟨at',sub,nh⟩:=st _ h' (by
        intro y my;have:=Fd.next;have bo:=a3.next;obtain⟨my,ly⟩:=SJ.1 my;have ly:=of_decide_eq_true ly;rcases Qy.1 my with rfl|q
        ·omega
        rcases Qp.1 q with q|q
        ·have:=vl _ q;omega
        rcases Qy.1 q with rfl|q
        ·have:=(bX _ b1).2;omega
        rcases hS y q with(q|q|q)|q
        ·have:=hO y q;omega
        ·have:=(bX y q).2;omega
        ·rw[ex]at q;simp at q;omega
        ·omega) (Fr.lt Fe.wf t4)
       subst m;rw[hW];exact⟨et,at',sub,nh⟩
     clear hL;simp only[evs,seval,g5,bE a6,es aA];refine ae (Lq (hR.fr bw)) ?_;rintro _ hM ⟨eh,r,rfl,r0,hD⟩;subst eh;have hy:=eq_true (dI:(0:Int)<=0);have ed:e.x.type<Q.length:=oM
     obtain⟨p,ep⟩:∃p,Q[e.x.type]? =some p:=⟨_,Qq ed⟩;have pm:=Of ep;have rp:=hQ p pm;have lp{h'}(o:Own h' bP (Q.flatMap pC)):=zj o ep;have hI:=a0.next;by_cases cr:0<=r
     case' neg=>
      simp only[evs,seval,DF,eff,cr]
     case' pos=>
      obtain⟨yb,yo,y2,y1,y3,_⟩:=Rg eD (hR.fr bw).r .i64 r oM oM;have y4:ai hl yb (yo+1)=some (ZY (y2.type:Int)):=y3 1 oM;by_cases ct:(y2.type:Int)=(e.x.type:Int);case pos=>
       simp(disch:=omega) only[evs,seval,DF,eff,fwrap_i64,cr,g5,bE a6,y1,y4,ax aA,eq_true ct,bv];refine rqn ⟨A.length-(i+1),oM,a0,a6,i+1,d1,d2,d3,d4,Q,bt,L++[W],iS,iX,iX,iX,iX,iX,iX,iX,iX,oM,ch,bN,b6,nQ,hQ,Gl,d8,d7,rfl⟩
      simp only[evs,seval,DF,eff,cr,g5,bE a6,y1,y4,ax aA,eq_false ct]
     all_goals
      by_cases m0:p.2.length=0;case pos=>
       simp only[evs,seval,ah,cN ch,ax aA,px .u8 e.x.type et,lp b6,(rp.1 X hl (fun z m=>.inl (.inr m)) a0).len,eq_true (oM:(p.2.length:Int)=0),aE,bN.ld1 1];refine stu bw.wf bN ?_;rintro hq oq Fq nq;simp(disch:=omega) only[evs,seval,fwrap_i64,bv];have ek:=Qx a0 Fq F.wf (fun x m=>.inl m) (fun x m=>.inl (by simp at m;exact m▸b2));have Gq:=Gl.keep Fq (by have:=(bX _ b2).2;simpa using this);refine rqn ⟨A.length-(i+1),oM,ek,a6.fresh Fq U.wf (bY _ iS),i+1,d1,_,d3,d4,Q,bt,L++[W],iS,iX,iX,iX,iX,iX,iX,iX,iX,oM,Fq.own _ _ oO ch,oq,Fq.own _ _ oO b6,nQ,hQ,Gq,d8,fun x m=>(d7 x m).step bw.wf Fq (fun z m=>.inl (.inr (.inl (by simp at m;exact m▸b2)))) (fun z m=>.inl m),rfl⟩
      case neg=>
       obtain⟨v',e',s'⟩:=Ub (rp.1 X hl (fun z m=>.inl (.inr m)) a0) oM (Sl.ne (rp.1 X hl (fun z m=>.inl (.inr m)) a0) oM) .i64 ((p.2.length:Int)-1) oM oM;have cz:=RI s';have hH:=rp.2.2;simp only[evs,seval,ah,cN ch,ax aA,px .u8 e.x.type et,lp b6,(rp.1 X hl (fun z m=>.inl (.inr m)) a0).len,eq_false (oM:¬(p.2.length:Int)=0),aE,bN.ld1 0];refine stu bw.wf bN ?_;rintro hq oq Fq nq;have ek:=Qx a0 Fq F.wf (fun x m=>.inl m) (fun x m=>.inl (by simp at m;exact m▸b2));have Gq:=Gl.keep Fq (by have:=(bX _ b2).2;simpa using this);have d5:=Fq.own _ _ oO ch;have de:=Fq.own _ _ (by have:=(bX _ b2).2;simp;omega) aA;have ec:=Fq.own _ _ oO b6;simp(disch:=omega) only[evs,seval,eff,fwrap_i64,ah,cN d5,ax de,px .u8 e.x.type et,lp ec,e'];refine ac (c':=(Q.set e.x.type (v',p.2.take (p.2.length-1))).flatMap pC) Fq.wf ec (by rw[aq cz];rfl) (by rw[aq cz];simp only[af,ag,cz];rfl) (by
        have:=aS cK (y:=(v',p.2.take (p.2.length-1))) (o:=0) (vs:=[v']) Q e.x.type p ep rfl;rw[aq cz];simpa using this) ?_
       rintro hs os Fs ns;have gg:=Qx ek Fs F.wf (fun x m=>.inl m) (fun x m=>.inl (by simp at m;exact m▸b3));have gl:=Gq.keep Fs (by have:=(bX _ b3).2;simpa using this);simp(disch:=omega) only[evs,seval,DF,fwrap_i64,bv,cN d5,ax de,lp ec];refine rqn ⟨A.length-(i+1),oM,gg,(a6.fresh Fq U.wf (bY _ iS)).fresh Fs U.wf (bY _ iS),i+1,_,d2,d3,d4,Q.set e.x.type (v',p.2.take (p.2.length-1)),bt,L++[W],iS,iX,iX,iX,iX,iX,iX,iX,iX,oM,Fs.own _ _ oO d5,Fs.own _ _ oO oq,os,by simp[nQ],fun y my=>?_,gl,d8,fun x m=>((d7 x m).step bw.wf Fq (fun z m=>.inl (.inr (.inl (by simp at m;exact m▸b2)))) (fun z m=>.inl m)).step Fq.wf Fs (fun z m=>.inl (.inr (.inl (by simp at m;exact m▸b3)))) (fun z m=>.inl m),rfl⟩;rcases Ra my with my|rfl
       ·exact hQ y my
       ·refine⟨fun S h' hS f=>?_,fun x mx=>rp.2.1 x (QP mx),by simp;omega⟩;have fo:=rp.1 S h' hS f;obtain⟨v2,e2,s2⟩:=Ub fo oM (Sl.ne fo oM) .i64 ((p.2.length:Int)-1) oM oM;rw[e']at e2;cases e2;have l1:(p.2.take (p.2.length-1)).length=p.2.length-1:=by simp
        have l2:((p.2.length:Int)-1).toNat=p.2.length-1:=oM
        rw[l2]at s2;unfold Recs;rw[l1,<-kQ eD];exact s2
    ·have a3:=U.then Z;have dx:∀hx,Fr X hm hx->Own hx bP (Q.flatMap pC)->SZs O hx vW I (n+1024):=fun hx fx ox=>⟨L,Q,fun S h' hS f=>by
      have nx:=fx.next;have nm:=FX.next;have nh:=F0.next;have ft:Fr (X++S) hm h':=Qx fx f Z.wf (fun x m=>.inl iX) (fun x m=>.inl iX);have fX:=Qx FX ft F.wf (fun x m=>.inl iX) (fun x m=>.inl m);have f0:=Qx a3 ft wf iS (fun x m=>.inl m);have wx:=fx.wf;refine⟨⟨SM (n:=L.length) (GL.dj ft (fun z mz cI=>?_)) (au eD L) oM,fun x m=>hL x m _ h' (fun z mz=>?_) ft,oM⟩,⟨?_,nQ,fun p mp=>⟨(hQ p mp).1 _ h' (fun z mz=>?_) fX,fun x mx=>(hQ p mp).2.1 x mx _ h' (fun z mz=>?_) f0,(hQ p mp).2.2⟩⟩⟩
      ·have v1:=GL.vb _ cI;have v2:=GL.lt Z.wf _ cI;rcases Qp.1 mz with q|q
       ·have:=(bX z q).2;omega
       rcases hS z q with q|q
       ·have:=hO z q;omega
       ·omega
      ·rcases Qp.1 mz with q|q
       ·exact .inl (.inr (.inl q))
       rcases hS z q with q|q
       ·exact .inl (.inl q)
       ·exact .inr oM
      ·have oh:=f.own _ _ (fun m=>by
        rcases hS _ m with q|q
        ·have:=hO _ q;have:=(bX _ b3).1;omega
        ·have:=ox.lt wx;omega) ox
       exact SM (n:=Q.length) (fz h' _ oh (by rw[au cK,au cK,nQ,nP])) (au cK Q) oM
      ·rcases Qp.1 mz with q|q
       ·exact .inl (.inr q)
       rcases hS z q with q|q
       ·exact .inl (.inl q)
       ·exact .inr oM
      ·rcases Qp.1 mz with q|q
       ·exact .inr (bX z q).1
       rcases hS z q with q|q
       ·exact .inl q
       ·exact .inr oM⟩
     have dB{h'}(o:Own h' h5.next [vW,I]):=o.la 2
     simp only[evs,seval,bv,g3,(QI ra a3).len,(oM:¬(i:Int)<A.length),ah,dB oa];refine ae (EI Z.wf ((dx hm (Qx (Qw (S:=[]) Z.wf) (Qw (S:=[]) Z.wf) Z.wf iS iS) oP).at Z.wf) oM) ?_;rintro _ ha ⟨Fa,t,rfl⟩;simp only[evs,seval,aE];refine stu Fa.wf (Fa.get ob) ?_;rintro cq a7 Fb nb;have aF:=(Z.then Fa).fresh Fb U.wf (bY _ iS);have e5:=Fb.own _ _ oO (Fa.get oa);have eS:=aF.get (da.get e7);have e9:=aF.get el;by_cases cA:c.arena<t
     ·simp only[evs,seval,aE,a7.ld1 3,g4,fm aF,eq_true cA,g8];refine stu Fb.wf eS ?_;rintro hc ee Fc nc;simp only[evs,seval,g9];refine stu Fc.wf (Fc.own _ _ oO e9) ?_;rintro hd od Fd nd;have l8:=(Fd.own _ _ oO ee).la 2
      have l9:=od.la 4
      simp only[evs,seval,g8,g9,l8,l9];exact⟨((U.then aF).fresh Fc wf oM).fresh Fd wf oM,_,_,_,_,_,_,_,rfl,.inr ⟨rfl,rfl,rfl⟩⟩
     ·have fs:=a7.la 4
      have w1:=GL.one;simp only[evs,seval,eff,aE,a7.ld1 3,g4,fm aF,eq_false cA,ah,g8,dB e5,fs];refine ac (c':=[vW,I]) Fb.wf eS rfl (by simp only[V.cells,af,ag,w1,q2];rfl) rfl ?_;rintro hc ee Fc nc;have eE:=(Fc.own _ _ oO a7).la 4
      simp only[evs,seval,eff,g9];refine stu Fc.wf (Fc.own _ _ oO e9) ?_;rintro hd od Fd nd;have l8:=(Fd.own _ _ oO ee).la 2
      have l9:=od.la 4
      simp only[evs,seval,DF,eff,ah,aE,fs,eE,dB e5,g8,g9,l8,l9];have gv:=((U.then aF).fresh Fc wf oM).fresh Fd wf oM;have gx:Fr X hm hd:=by
       have t1:Fr X hm cq:=Qx Fa Fb Z.wf iS (fun x m=>.inl (by simp at m;subst m;simp[b2]));have t2:=Qx t1 Fc Z.wf (fun x m=>.inl m) (fun x m=>.inl (by simp at m;subst m;simp[b4]));exact Qx t2 Fd Z.wf (fun x m=>.inl m) (fun x m=>.inl (by simp at m;subst m;simp[b5]))
      exact⟨gv,_,_,_,_,_,_,_,rfl,.inl ⟨rfl,dx hd gx (Fd.own _ _ oO (Fc.own _ _ oO (Fb.own _ _ oO (Fa.get oP))))⟩⟩
end
open Go.Ev.St
structure Evt where
 k:Nat
 to:Int
 key:Nat
 vN:V
 Ns:List Nt
 vT:V
 Tl:List (Nat×Int)
def Evt.cells(x:Evt):List V:=[ZY (x.k:Int),ZZ x.to,ZX (x.key:Int),x.vN,x.vT]
theorem aZ(x:Evt):x.cells.length=5:=rfl
structure EvtH(h:Heap)(x:Evt)(N:Nat):Prop where
 k:x.k<256
 to:i64 x.to
 key:x.key<18446744073709551616
 rn:Recs Nt.cells 5 h x.vN x.Ns
 hx:∀y∈x.Ns,NtH h y
 n:x.Ns.length<=4
 hY:∀y∈x.Ns,y.n.Y.length<=4\/(y.n.k=5/\y.n.Y.length<=N)
 t:TZ h x.vT x.Tl
theorem EvtH.fr{h':Heap}{x:Evt}{N:Nat}(a:EvtH h x N)(f:Fr [] h h'):EvtH h' x N:=⟨a.k,a.to,a.key,QI a.rn f,fun y m=>(a.hx y m).fr f,a.n,a.hY,a.t.fr f⟩
theorem EvtH.on{x:Evt}{N:Nat}(a:EvtH h x N):az x.cells=true:=by
 have n1:=RI a.rn;have t1:=RI a.t.r;simp only[Evt.cells,af,ag,n1,t1];rfl
theorem CS{T G:Prop}(f:T->G)(t:T):G:=f t
section
variable {O : Nat -> Prop} {h : Heap} {vK vR vP vA v : V} {E : List Ent} {A : List Nat} {c : Cfg} {x : Evt} {m : Mo} {n N : Nat} {s : Int}
theorem tc(wf:WF h)(kv:c.vK.one=true)(hl:1<=c.least/\c.least<=6)(xh:EvtH h x N):ay go 100 [.agg c.cells,.agg x.cells] h fun u h'=>Fr [] h h'/\∃e:Int,u=ZZ e/\0<=e/\(e=0->x.k=7->0<=x.to):=by
 have oc:az c.cells=true:=by simp only[Cfg.cells,af,ag,kv];rfl
 have on:=xh.on;obtain⟨h1,U,J,ab⟩:=av wf c.cells;obtain⟨h2,R,I,Z⟩:=av J.wf x.cells;have F02:=J.then I;have ad:=xh.fr F02;have l2:=(I.get ab).l1 2;have l0:=Z.l1 0;have l1:=Z.l1 1;have lk:=Z.l1 2;have l3:=Z.l1 3;have l4:=Z.l1 4;have nN:=xh.n;have nT:=xh.t.n;have ah:=eq_false (dI:¬(0:Int)=1);by_cases k1:(x.k:Int)<1
 ·refine aa ?_;simp only[evs,seval,<-U,<-R,l0,k1];exact ybs
 by_cases k7:7<(x.k:Int)
 ·refine aa ?_;simp only[evs,seval,<-U,<-R,l0,k1,k7];exact ybs
 refine aa ?_;simp only[evs,seval,<-U,<-R,l0,k1,k7];have D:∀p:Prop,p=True\/p=False:=fun p=>by grind
 apply CS
 ·intro pass;rcases D (x.to=0)with e1|e1<;>rcases D ((x.key:Int)=0)with e2|e2<;>rcases D ((x.k:Int)=3)with e3|e3<;>rcases D ((x.k:Int)=5)with e4|e4<;>rcases D ((x.k:Int)=6)with e5|e5<;>rcases D ((0:Int)<(x.Ns.length:Int))with e6|e6;all_goals
   simp only[evs,seval,l1,lk,l3,ad.rn.len,e1,e2,e3,e4,e5,e6];first|exact pass|exact⟨F02,_,rfl,oM,fun h=>by omega⟩
 ·simp only[evs,seval,eq_false (oM:¬(32:Int)<x.Ns.length),l4,l2];refine ae (tL ad.t.r hl.1 oM oM) ?_;rintro _ _ ⟨rfl,i,e,rfl,e0,_⟩;by_cases ce:0<e
  ·simp only[evs,seval,ce];exact ybs
  rcases D ((x.k:Int)=4)with e1|e1<;>rcases D ((x.k:Int)=7)with e2|e2<;>rcases D (x.to<1)with e3|e3<;>rcases D ((2147483648:Int)<x.to)with e4|e4<;>rcases D (x.to<0)with e5|e5<;>rcases D ((16:Int)<x.to)with e6|e6;all_goals
   simp only[evs,seval,ce,l1,e1,e2,e3,e4,e5,e6];simp only[eq_iff_iff,iff_true,iff_false]at e1 e2 e3 e4 e5 e6;exact⟨F02,_,rfl,oM,fun h h'=>by omega⟩
end
open Go.Ev.St
section
variable {h : Heap} {vK vR vP vA v : V} {E : List Ent} {A : List Nat} {c : Cfg} {x : Evt} {m : Mo} {n N : Nat} {s : Int}
theorem BJ(wf:WF h)(kz:RZ h c.vK c.Ks):ay go 96 [.agg c.cells] h fun u h'=>Fr [] h h'/\∃vP',u=.agg [.nils,vP']/\∀P:Nat->Prop,(∀z,P z->z<h.next)->SZs P h' .nils vP' 0:=by
 have k1:=kz.one;have oc:az c.cells=true:=by simp only[Cfg.cells,af,ag,k1];rfl
 have k3:=kz.r.2.1;obtain⟨h1,J,D,ao⟩:=av wf c.cells;obtain⟨h2,I,U,ak⟩:=av D.wf [.nils,.nils];obtain⟨h3,ab,ad,ax⟩:=av U.wf [.nils,.nils];have n1:=hnx J
 have n2:=hnx I
 have n3:=hnx ab
 have R:=D.then U;have aA:=R.then ad;have lc{h'}(f:Fr [] h2 h'):=(f.get (U.get ao)).l1 3;refine aa ?_;simp only[evs,↓reduceIte,<-J,<-I,<-ab];refine aw (fun z env hh=>Fr [] h2 hh/\∃(j:Nat)(u:V),env.get 4=some (ZZ j)/\env.get 1=some (.ptr h.next 0)/\env.get 2=some (.ptr h1.next 0)/\env.get 3=some (.ptr h2.next 0)/\j<=3/\h3.next<=hh.next/\
  Own hh h2.next [.nils,u]/\Gs hh h3.next 1 u ((List.replicate j ((.nils,[]):V×List Hd)).flatMap pC)/\z=3-j) 3 oM ?_ ?_
 ·exact⟨ad,0,.nils,iS,iS,iS,iS,oM,pi _,ax,.inl ⟨rfl,rfl⟩,rfl⟩
 ·rintro z env hh ⟨F,j,u,g4,g1,g2,g3,hj,hx,oo,G,rfl⟩;have u1:=G.one;have kl:=(QI kz.rk (R.then F)).len;rw[k3]at kl;by_cases cj:j<3
  ·obtain⟨h5,ah,Z,aj⟩:=av F.wf [.nils];have n5:=hnx ah
   simp only[evs,↓reduceIte,Nat.reduceEqDiff,g4,g1,g3,lc F,kl,eq_true (oM:(j:Int)<((3:Nat):Int)),oo.ld1 1,<-ah];refine RB (bytes:=24) Z.wf (G.fr Z) (RM aj rfl) oM oM rfl oM (by rw[au cK];simp;omega) ?_;intro u' h6 G6 e6 F6;have u2:=G6.one;have nu:h2.next∉vb u:=fun m=>by have:=G.vb _ m;omega
   simp only[evs,↓reduceIte,Nat.reduceEqDiff,g3];refine ac F6.wf (F6.own _ _ nu (Z.get oo)) (by rw[aq u2];rfl) (by rw[aq u2];simp only[af,ag,u2];rfl) (by rw[aq u2];rfl) ?_;rintro h7 o7 F7 n7;have n6:=F6.next;simp(disch:=omega) only[evs,↓reduceIte,Nat.reduceEqDiff,fwrap_i64,g4];refine rqn ⟨3-(j+1),oM,Tt (Ru R.wf (F.then Z) F6 (fun z m=>by have:=G.vb _ m;omega)) F7 R.wf (pi _),j+1,u',iS,iX,iX,iX,oM,oM,o7,by
    rw[List.replicate_succ',QV];exact G6.keep F7 oO,rfl⟩
  ·have l2:=oo.la 2
   simp only[evs,↓reduceIte,Nat.reduceEqDiff,g4,g1,g2,g3,lc F,kl,eq_false (oM:¬(j:Int)<((3:Nat):Int)),l2];refine ac F.wf (F.get ak) rfl (by simp only[V.cells,af,ag,u1];rfl) rfl ?_;rintro h7 o7 F7 n7;have l7:=o7.la 2
   simp only[evs,↓reduceIte,Nat.reduceEqDiff,g2,l7];have G7:=G.keep F7 oO;have e3:j=3:=oM
   subst e3;refine⟨(R.then F).fresh F7 wf oM,u,rfl,fun P hP=>⟨[],List.replicate 3 (.nils,[]),fun S h' hS f=>⟨⟨SH,iS,iS⟩,⟨SM (G7.dj f fun z mz mz'=>?_) rfl oM,rfl,fun p mp=>?_⟩⟩⟩⟩
   ·have v1:=G7.vb _ mz';have v2:=G7.lt F7.wf _ mz';rcases hS z mz with q|q
    ·grind
    ·omega
   ·have:=SL mp;subst this;exact⟨SH,iS,iS⟩
theorem Dr(wf:WF h)(a:MZ h m E):ay go 156 [.agg m.cells,ZZ s] h fun u h'=>Fr [] h h'/\∃(k:Nat)(d:Int),u=an k d:=by
 have on:=a.on;obtain⟨h1,J,D,ah⟩:=av wf m.cells;obtain⟨h2,I,Z,ad⟩:=av D.wf [ZX 0,ZZ 0];have n1:=hnx J
 have n2:=hnx I
 have ak:=D.then Z;refine aa ?_;simp only[evs,seval,<-J,<-I];refine lW [zA 7 2,zL,zA 7 2,zL,zA 8 2,zL,zm 1,zc 222 [.l 3,.l 1,.l 0],zc 155 [.l 6,.l 0],zp .mv [.l 0],zp (.ext 0) [.l 0],zp (.ext 1) [.l 1]] _ rfl ?_;have U:=QW Z.wf [ZX 0,ZZ 0];have ab:=Ro Z.wf [ZX 0,ZZ 0];have aj:(halloc h2 [ZX 0,ZZ 0]).next=h2.next+1:=rfl;generalize halloc h2 [ZX 0,ZZ 0]=h3 at U ab aj|-;have R:=ak.then U;have om:=U.get (Z.get ah);have l7{h'}(f:Fr [] h3 h'):=(f.get om).l1 7;have l8{h'}(f:Fr [] h3 h'):=(f.get om).l1 8;have r0:=Qw (S:=[]) R.wf;have a3:=a.e.fr R;simp only[evs,seval,eff,l7 r0,l8 r0];refine ae (tF a3.toEL) ?_;rintro _ _ ⟨rfl,t,rfl⟩;simp only[evs,eff];refine ae (CJ R.wf a3) ?_;rintro _ h4 ⟨F4,k,d,t',rfl⟩;simp only[evs,eff,cR,fu];refine stu F4.wf (F4.get ab) ?_;rintro h5 o5 F5 n5;have l5:=o5.la 2
 have n4:=F4.next;simp only[evs,seval,DF,eff,l7 r0,l8 r0,l5];refine ac (c':=[ZX (k:Int),ZZ d]) F5.wf (F5.own _ _ oO (F4.get (U.get ad))) rfl rfl rfl ?_;rintro h6 o6 F6 n6;have l6:=o6.la 2
 simp only[evs,seval,l6];exact⟨((R.then F4).fresh F5 wf oM).fresh F6 wf oM,k,d,rfl⟩
end
open Go.Ev.St
structure MZs(P:Nat->Prop)(h:Heap)(m:Mo)(E:List Ent)(n:Nat):Prop where
 cap:m.c.cap=12
 le:1<=m.c.least/\m.c.least<=6
 e:EZs P h m.vE E
 s:SZs P h m.vR m.vP n
section
variable {P P' : Nat -> Prop} {h h' : Heap} {vK vR vP vA v : V} {E : List Ent} {A : List Nat} {c : Cfg} {x : Evt} {m : Mo} {n N : Nat} {s : Int} {S : List Nat}
theorem MZs.mz(a:MZs P h m E n)(kz:RZ h m.c.vK m.c.Ks)(w:WF h):MZ h m E:=let s:=(a.s.at w).one;⟨kz,a.cap,a.le,a.e.at w,s.1,s.2⟩
theorem MZs.step(a:MZs P h m E n)(w:WF h)(f:Fr S h h')(h0:∀z∈S,P z\/h.next<=z)(hq:∀z,P' z->P z\/h.next<=z):MZs P' h' m E n:=⟨a.cap,a.le,Stb.step a.e w f h0 hq,a.s.step w f h0 hq⟩
theorem Ap(wf:WF h)(hP:∀z,P z→z<h.next)(kz:RZ h m.c.vK m.c.Ks)(a:MZs P h m E n)(hn:n≤90000)(xs:Stb P h fun h=>EvtH h x N)(hE:E.length≤N)(hto:x.k=7→0≤x.to):
 ay go 101 [.agg m.cells,.agg x.cells] h fun u h'=>Fr [] h h'∧∃(m':Mo)(E':List Ent)(k:Nat)(d t e:Int),u=.tup [.agg m'.cells,an k d,.int .i64 t,.int .i64 e]∧m'.c=m.c∧MZs P h' m' E' n∧E'.length≤N+16:=by
 have mz:=a.mz kz wf;have on:=mz.on;have xh:=xs.at wf;have xon:=xh.on;have nT:=xh.t.n;obtain⟨h1,e_h1,F_h1,o_h1⟩:=av wf m.cells;obtain⟨h2,e_h2,F_h2,o_h2⟩:=av F_h1.wf x.cells;obtain⟨h3,e_h3,F_h3,o_h3⟩:=av F_h2.wf [.int .i64 0,.int .i64 0,.int .i64 0,.nils,.int .i64 0,.int .i64 0,.int .u8 0,.nils,.int .i64 0,.int .i64 0,.nils,.nils,.int .i64 0,.int .i64 0,.int .i64 0,.int .i64 0,.int .i64 0];obtain⟨h4,e_h4,F_h4,o_h4⟩:=av F_h3.wf [.int .u64 0,.int .i64 0];have n1:=hnx e_h1
 have n2:=hnx e_h2
 have n3:=hnx e_h3
 have n4:=hnx e_h4
 have F24:=F_h3.then F_h4;have F14:=F_h2.then F24;have F04:=F_h1.then F14;have l7:=(F14.get o_h1).l1 7;have l9:=(F14.get o_h1).l1 9;refine aa ?_;simp only[evs,seval,←e_h1,←e_h2,←e_h3,←e_h4,l7,l9];refine ae (CJ F04.wf (mz.e.fr F04)) ?_;rintro _ h5 ⟨F5,k,d,t,rfl⟩;obtain⟨h6,e_h6,F_h6,o_h6⟩:=av F5.wf [.int .u64 0,.int .i64 0];have n6:=hnx e_h6
 have n5:=F5.next;simp only[evs,seval,an,←e_h6];refine stu F_h6.wf o_h6 ?_;rintro h7 o8 F7 n7;have F57:Fr [] h5 h7:=F_h6.fresh F7 F5.wf (Nat.le_refl _);have F47:=F5.then F57;have F07:=F04.then F47;have w7:=F07.wf;have om:Own h7 h.next m.cells:=F47.get (F14.get o_h1);have ox:Own h7 h1.next x.cells:=F47.get (F24.get o_h2);have o4:=F47.get (F_h4.get o_h3);have o5:=F47.get o_h4;have lm{h'}{m':Mo}(o:Own h' h.next m'.cells):=o.la 17
 have lc{h'}{m':Mo}(o:Own h' h.next m'.cells):aH h' h.next 0 7=some m'.c.cells:=by rw[o.ld];rfl
 have lE{h'}{m':Mo}(o:Own h' h.next m'.cells):=o.l1 7;have l9'{h'}{m':Mo}(o:Own h' h.next m'.cells):=o.l1 9;have la{h'}{k:Nat}{d:Int}(o:Own h' h5.next [.int .u64 (k:Int),.int .i64 d]):=o.la 2
 have lRP{h'}{m':Mo}(o:Own h' h.next m'.cells):aH h' h.next 10 2=some [m'.vR,m'.vP]:=by rw[o.ld];rfl
 have x0:=ox.l1 0;have x1{h'}(o:Own h' h1.next x.cells):=o.l1 1;have x2{h'}(o:Own h' h1.next x.cells):=o.l1 2;have x3{h'}(o:Own h' h1.next x.cells):=o.l1 3;have x4{h'}(o:Own h' h1.next x.cells):=o.l1 4;obtain⟨L,hL⟩:∃L:Nat→Prop,L=fun z=>P z∨(h.next≤z∧z<h7.next):=⟨_,rfl⟩;have hLl:∀z,L z→z<h7.next:=fun z m=>by grind
 have toL:∀z,L z→P z∨h.next≤z:=fun z m=>by grind
 have PL:∀z,P z→L z:=fun z m=>by rw[hL];exact .inl m
 have bL:∀z,h.next≤z→z<h7.next→L z:=fun z p q=>by rw[hL];exact .inr ⟨p,q⟩
 have a7:MZs L h7 m E n:=a.step wf F07 iS toL;have xs7:Stb L h7 fun h=>EvtH h x N:=xs.step wf F07 iS toL;have mz7:=a7.mz (kz.fr F07) w7;have fin{hh h':Heap}{m':Mo}{E':List Ent}{S:List Nat}(a:MZs L hh m' E' n)(w:WF hh)(f:Fr S hh h')(hS:(∀z∈S,L z∨hh.next≤z)):MZs P h' m' E' n:=a.step w f hS fun z q=>.inl (PL z q);have fin2:∀{hq hy hz:Heap}{m':Mo}{E':List Ent},MZs L hq m' E' n→WF hq→Fr [h2.next] hq hy→Fr [h3.next] hy hz→MZs P hz m' E' n:=fun a w f g=>fin a w (show Fr [h2.next,h3.next] _ _ from Fr.trans f g w (fun z m=>.inl (by simp at m;simp[m])) (fun z m=>.inl (by simp at m;simp[m]))) (fun z m=>.inl (bL z (by simp at m;omega) (by simp at m;have:=w;omega)));by_cases k1:(x.k:Int)=1
 ·simp only[evs,seval,eff,x0,eq_true k1,lm om,x1 ox];refine ae (Dr w7 mz7) ?_;rintro _ h8 ⟨F8,k',d',rfl⟩;simp only[evs,seval,eff,an];refine ac F8.wf (F8.get o4) rfl (on) rfl ?_;rintro hy oy Fy ny;simp only[evs,seval,eff];refine stu Fy.wf (Fy.own _ _ oO (F8.get o5)) ?_;rintro hz oz Fz nz;have lz4:=Own.ldc (c:=17) (Fz.own _ _ oO oy) rfl;have lz5:=Own.ldc (c:=2) oz rfl;simp only[evs,seval,DF,eff,lm om,lm (F8.get om),x1 ox,lz4,lz5];exact⟨(Fr.fresh (F07.then F8) Fy wf oM).fresh Fz wf oM,m,_,_,_,_,_,rfl,rfl,fin2 (a7.step w7 F8 iS (fun z q=>.inl q)) F8.wf Fy Fz,oM⟩
 by_cases k2:(x.k:Int)=2
 ·simp only[evs,seval,eff,x0,eq_false k1,eq_true k2,lm om,l9' om,x1 ox];refine ae GO ?_;rintro _ _ ⟨rfl,t1,rfl⟩;simp only[evs,eff];refine ae (Dr w7 mz7) ?_;rintro _ h8 ⟨F8,k',d',rfl⟩;simp only[evs,seval,eff,an];refine ac F8.wf (F8.get o4) rfl (on) rfl ?_;rintro hy oy Fy ny;simp only[evs,seval,eff];refine stu Fy.wf (Fy.own _ _ oO (F8.get o5)) ?_;rintro hz oz Fz nz;have lz4:=Own.ldc (c:=17) (Fz.own _ _ oO oy) rfl;have lz5:=Own.ldc (c:=2) oz rfl;simp only[evs,seval,DF,eff,lm om,lm (F8.get om),l9' om,x1 ox,lz4,lz5];exact⟨(Fr.fresh (F07.then F8) Fy wf oM).fresh Fz wf oM,m,_,_,_,_,_,rfl,rfl,fin2 (a7.step w7 F8 iS (fun z q=>.inl q)) F8.wf Fy Fz,oM⟩
 by_cases k3:(x.k:Int)=3
 ·simp only[evs,seval,x0,eq_false k1,eq_false k2,eq_true k3,lE om,x2 ox];refine ae (dF mz7.e.r (by have:=mz7.e.n;omega)) ?_;rintro _ _ ⟨rfl,r,rfl,r0,r1⟩;by_cases cr:r<0
  ·simp only[evs,seval,eff,cr,lm om,la o8];refine ac (c':=(m:Mo).cells) w7 (o4) rfl (on) rfl ?_;rintro hy oy Fy ny;simp only[evs,seval,eff];refine stu Fy.wf (Fy.own _ _ oO (o5)) ?_;rintro hz oz Fz nz;have lz4:=Own.ldc (c:=17) (Fz.own _ _ oO oy) rfl;have lz5:=Own.ldc (c:=2) oz rfl;have la8:=la (Fy.own _ _ oO o8);simp only[evs,seval,DF,eff,lm om,la o8,la8,lz4,lz5];exact⟨(Fr.fresh (F07) Fy wf oM).fresh Fz wf oM,m,_,_,_,_,_,rfl,rfl,fin2 (a7) w7 Fy Fz,oM⟩
  ·simp only[evs,seval,eff,cr,lm om,x2 ox];refine ac (c':=(m:Mo).cells) w7 (o4) rfl (on) rfl ?_;rintro hy oy Fy ny;simp only[evs,seval,eff];refine stu Fy.wf (Fy.own _ _ oO (o5)) ?_;rintro hz oz Fz nz;have lz4:=Own.ldc (c:=17) (Fz.own _ _ oO oy) rfl;have lz5:=Own.ldc (c:=2) oz rfl;simp only[evs,seval,DF,eff,lm om,x2 ox,x2 (Fy.own _ _ oO ox),lz4,lz5];exact⟨(Fr.fresh (F07) Fy wf oM).fresh Fz wf oM,m,_,_,_,_,_,rfl,rfl,fin2 (a7) w7 Fy Fz,oM⟩
 by_cases k4:(x.k:Int)=4
 ·simp only[evs,seval,x0,eq_false k1,eq_false k2,eq_false k3,eq_true k4,x1 ox];have oM:az ({m with view:=x.to}:Mo).cells=true:=on;refine sts (c':=({m with view:=x.to}:Mo).cells) w7 om ?_;rintro h8 om8 F8 n8;have o8':=F8.own _ _ (by simp;omega) o8;simp only[evs,seval,eff,lm om8,la o8'];refine ac F8.wf (F8.own _ _ (by simp;omega) o4) rfl (oM) rfl ?_;rintro hy oy Fy ny;simp only[evs,seval,eff];refine ac Fy.wf (Fy.own _ _ (by simp;omega) (F8.own _ _ (by simp;omega) o5)) rfl rfl rfl ?_;rintro hz oz Fz nz;have lz4:=Own.ldc (c:=17) (Fz.own _ _ (by simp;omega) oy) rfl;have lz5:=Own.ldc (c:=2) oz rfl;simp only[evs,seval,DF,eff,lm (om8),la (o8'),la (Fy.own _ _ oO (o8')),lz4,lz5];exact⟨(Fr.fresh (F07.fresh F8 wf (Nat.le_refl _)) Fy wf (by omega)).fresh Fz wf (by omega),{m with view:=x.to},_,_,_,_,_,rfl,rfl,fin2 (show MZs L h8 {m with view:=x.to} E n from(let q:=a7.step w7 F8 (fun z m=>.inl (bL z (by simp at m;omega) (by simp at m;omega))) (fun z q=>.inl q);⟨q.cap,q.le,q.e,q.s⟩)) F8.wf Fy Fz,by omega⟩
 by_cases k5:(x.k:Int)=5
 ·simp only[evs,seval,eff,x0,eq_false k1,eq_false k2,eq_false k3,eq_false k4,eq_true k5,lc om];refine ae (gO w7 mz7.kz.one rfl) ?_;rintro _ h8 ⟨F8,rfl⟩;rw[mz7.cap];simp only[evs,seval,eff,lE (F8.get om),x3 (F8.get ox)];have xh8:=(xs7.at w7).fr F8;refine ae (Jd F8.wf (fun z q=>Nat.lt_of_lt_of_le (hLl z q) F8.next) ((mz7.kz).fr F8) (a7.e.on w7 F8) xh8.rn (fun y my=>Stb.on (P:=L) (T:=fun h=>NtH h y) (fun S h' hS f=>(xs7 S h' hS f).hx y my) w7 F8) (by have:=xh8.n;omega) xh8.hY hE) ?_;rintro _ h9 ⟨F9,v2,j,t2,E2,rfl,e2,l2⟩;have F79:=F8.then F9;have nn:=xh8.n;have om9:=F79.get om;have o89:=F79.get o8;by_cases ct:0<t2
  ·simp only[evs,seval,DF,eff,lc om,lE om,lE (F8.get om),x3 ox,x3 (F8.get ox),ct,lm om9,la o89];refine ac (c':=(m:Mo).cells) F9.wf (F79.get o4) rfl (on) rfl ?_;rintro hy oy Fy ny;simp only[evs,seval,eff];refine stu Fy.wf (Fy.own _ _ oO (F79.get o5)) ?_;rintro hz oz Fz nz;have lz4:=Own.ldc (c:=17) (Fz.own _ _ oO oy) rfl;have lz5:=Own.ldc (c:=2) oz rfl;simp only[evs,seval,DF,eff,lm (om9),la (o89),la (Fy.own _ _ oO (o89)),lz4,lz5];exact⟨(Fr.fresh (F07.then F79) Fy wf oM).fresh Fz wf oM,m,_,_,_,_,_,rfl,rfl,fin2 (a7.step w7 F79 iS (fun z q=>.inl q)) F9.wf Fy Fz,oM⟩
  ·simp only[evs,seval,DF,eff,lc om,lE om,lE (F8.get om),x3 ox,x3 (F8.get ox),ct,lE om9,la o89];refine ae (Cb (k:=k) (d:=d) F9.wf (mz7.e.fr F79) (e2.at F9.wf)) ?_;rintro _ h10 ⟨F10,k',d',rfl⟩;have om10:=F10.get om9;simp only[evs,seval,an];refine stu F10.wf (F10.get o89) ?_;rintro h11 o11 F11 n11;have om11:=F11.own _ _ oO om10;have v1:v2.one=true:=Sl.one (e2.at F9.wf).r;simp only[evs,seval];have a10:=a7.step w7 (F79.then F10) iS (fun z q=>.inl q);have M10:MZs L h10 {m with vE:=v2} E2 n:=⟨a10.cap,a10.le,e2.on F9.wf F10,a10.s⟩;have oM:=(M10.mz (mz7.kz.fr (F79.then F10)) F10.wf).on;refine ac (c':=({m with vE:=v2}:Mo).cells) F11.wf om11 (by rw[aq v1];rfl) (by rw[aq v1];simp only[af,ag,v1];rfl) (by rw[aq v1];rfl) ?_;rintro h12 om12 F12 n12;have o812:=F12.own _ _ oO o11;have n10:=F10.next;have n9:=F79.next;simp only[evs,seval,eff,lm om12,la o812];refine ac F12.wf (F12.own _ _ oO (F11.own _ _ oO (F10.get (F79.get o4)))) rfl (oM) rfl ?_;rintro hy oy Fy ny;simp only[evs,seval,eff];refine ac (c':=[.int .u64 k',.int .i64 d']) Fy.wf (Fy.own _ _ oO (F12.own _ _ oO (F11.own _ _ oO (F10.get (F79.get o5))))) rfl rfl rfl ?_;rintro hz oz Fz nz;have lz4:=Own.ldc (c:=17) (Fz.own _ _ oO oy) rfl;have lz5:=Own.ldc (c:=2) oz rfl;simp only[evs,seval,DF,eff,lm (om12),la (o812),la (Fy.own _ _ oO (o812)),lz4,lz5];exact⟨(Fr.fresh (((F07.then (F79.then F10)).fresh F11 wf (by omega)).fresh F12 wf (Nat.le_refl _)) Fy wf (by omega)).fresh Fz wf (by omega),{m with vE:=v2},_,_,_,_,_,rfl,rfl,fin2 ((M10.step F10.wf F11 (fun z m=>.inl (bL z (by simp at m;omega) (by simp at m;omega))) (fun z q=>.inl q)).step F11.wf F12 (fun z m=>.inl (bL z (by simp at m;omega) (by simp at m;omega))) (fun z q=>.inl q)) F12.wf Fy Fz,by omega⟩
 by_cases k6:(x.k:Int)=6
 ·simp only[evs,seval,x0,eq_false k1,eq_false k2,eq_false k3,eq_false k4,eq_false k5,eq_true k6];refine aw (fun z env hh=>Fr [] h hh∧∃(j:Nat)(m':Mo)(E':List Ent),env.get 13=some (.int .i64 j)∧env.get 2=some (.ptr h.next 0)∧env.get 3=some (.ptr h1.next 0)∧env.get 4=some (.ptr h2.next 0)∧env.get 5=some (.ptr h3.next 0)∧env.get 8=some (.ptr h5.next 0)∧j≤x.Tl.length∧h7.next≤hh.next∧Own hh h.next m'.cells∧Own hh h1.next x.cells∧
   Own hh h5.next [.int .u64 (k:Int),.int .i64 d]∧Own hh h2.next [.int .i64 0,.int .i64 0,.int .i64 0,.nils,.int .i64 0,.int .i64 0,.int .u8 0,.nils,.int .i64 0,.int .i64 0,.nils,.nils,.int .i64 0,.int .i64 0,.int .i64 0,.int .i64 0,.int .i64 0]∧Own hh h3.next [.int .u64 0,.int .i64 0]∧m'.c=m.c∧MZs L hh m' E' n∧E'.length≤E.length∧Stb L hh (fun h=>EvtH h x N)∧z=x.Tl.length-j) x.Tl.length oM ?_ ?_
  ·exact⟨F07,0,m,E,iS,iS,iS,iS,iS,iS,oM,Nat.le_refl _,om,ox,o8,o4,o5,rfl,a7,Nat.le_refl _,xs7,rfl⟩
  ·rintro z env hh ⟨F,j,m',E',g13,g2,g3,g4,g5,g8,hj,hx,om',ox',o8',o4',o5',ec,a',le',xs',rfl⟩;have wh:=F.wf;have xh':=xs'.at wh;have on':=(a'.mz (by rw[ec];exact kz.fr F) wh).on;by_cases cj:j<x.Tl.length
   ·obtain⟨b,o,y,p1,p2,_,p4⟩:=Recs.ix dM xh'.t.r .i64 (j:Int) oM oM;have q0:ai hh b o=some (.int .u64 (y.1:Int)):=p2 0 oM;have q1:ai hh b (o+1)=some (.int .i64 y.2):=p2 1 oM;simp only[evs,seval,eff,g13,g3,x4 ox',xh'.t.r.len,(oM:(j:Int)<x.Tl.length),g2,lE om',p1,q0,q1];refine ae (GX wh (fun z q=>Nat.lt_of_lt_of_le (hLl z q) hx) a'.e (xh'.t.z y (List.mem_of_getElem? p4))) ?_;rintro _ h8 ⟨F8,v2,t2,E2,rfl,e2,l2⟩;have om8:=F8.get om';have n8:=F8.next;by_cases ct:0<t2
    ·simp only[evs,seval,DF,eff,x4 ox',g2,g4,lE om',q0,q1,ct,lm om8,g8,la (F8.get o8')];have ws:=g4;refine ac (c':=(m':Mo).cells) F8.wf (F8.get o4') rfl (on') rfl ?_;rintro hy oy Fy ny;simp only[evs,seval,eff,g5];refine stu Fy.wf (Fy.own _ _ oO (F8.get o5')) ?_;rintro hz oz Fz nz;have lz4:=Own.ldc (c:=17) (Fz.own _ _ oO oy) rfl;have lz5:=Own.ldc (c:=2) oz rfl;simp only[evs,seval,DF,eff,g2,g4,g5,g8,lm om8,la (F8.get o8'),la (Fy.own _ _ oO (F8.get o8')),lz4,lz5];exact⟨(Fr.fresh (F.then F8) Fy wf oM).fresh Fz wf oM,m',_,_,_,_,_,rfl,ec,fin2 (a'.step wh F8 iS (fun z q=>.inl q)) F8.wf Fy Fz,oM⟩
    ·have v1:v2.one=true:=Sl.one (e2.at F8.wf).r;simp only[evs,seval,DF,eff,x4 ox',g2,lE om',q0,q1,ct];have a8:=a'.step wh F8 iS (fun z q=>.inl q);have M8:MZs L h8 {m' with vE:=v2} E2 n:=⟨a8.cap,a8.le,e2,a8.s⟩;refine ac (c':=({m' with vE:=v2}:Mo).cells) F8.wf om8 (by rw[aq v1];rfl) (by rw[aq v1];simp only[af,ag,v1];rfl) (by rw[aq v1];rfl) ?_;rintro h9 om9 F9 n9;simp(disch:=omega) only[evs,seval,fwrap_i64,g13];have hb:∀z∈[h.next],L z∨h8.next≤z:=fun z m=>.inl (bL z (by simp at m;omega) (by simp at m;omega));refine rqn ⟨x.Tl.length-(j+1),oM,(F.then F8).fresh F9 wf (Nat.le_refl _),j+1,{m' with vE:=v2},E2,iS,iX,iX,iX,iX,iX,oM,oM,om9,F9.own _ _ oO (F8.get ox'),F9.own _ _ oO (F8.get o8'),F9.own _ _ oO (F8.get o4'),F9.own _ _ oO (F8.get o5'),ec,M8.step F8.wf F9 hb (fun z q=>.inl q),oM,(xs'.on wh F8).step F8.wf F9 hb (fun z q=>.inl q),rfl⟩
   ·simp only[evs,seval,eff,g13,g3,x4 ox',xh'.t.r.len,(oM:¬(j:Int)<x.Tl.length),g2,g4,g8,lm om',la o8'];have ws:=g4;refine ac (c':=(m':Mo).cells) wh (o4') rfl (on') rfl ?_;rintro hy oy Fy ny;simp only[evs,seval,eff,g5];refine stu Fy.wf (Fy.own _ _ oO (o5')) ?_;rintro hz oz Fz nz;have lz4:=Own.ldc (c:=17) (Fz.own _ _ oO oy) rfl;have lz5:=Own.ldc (c:=2) oz rfl;simp only[evs,seval,DF,eff,g2,g4,g5,g8,lm om',la o8',la (Fy.own _ _ oO o8'),lz4,lz5];exact⟨(Fr.fresh (F) Fy wf oM).fresh Fz wf oM,m',_,_,_,_,_,rfl,ec,fin2 (a') wh Fy Fz,oM⟩
 by_cases k7:(x.k:Int)=7
 ·simp only[evs,seval,x0,eq_false k1,eq_false k2,eq_false k3,eq_false k4,eq_false k5,eq_false k6,eq_true k7,lRP om,x1 ox];refine ae (D9 w7 hLl a7.s oM (hto oM)) ?_;rintro _ h8 ⟨F8,vR',vP',t',rfl,s8⟩;have om8:=F8.get om;have n8:=F8.next;obtain⟨r1,p1⟩:=(s8.at F8.wf).one;obtain⟨h9,e_h9,F_h9,o_h9⟩:=av F8.wf [.nils,.nils];have n9:=hnx e_h9
  simp only[evs,seval,←e_h9];refine ac (c':=[vR',vP']) F_h9.wf o_h9 rfl (by simp only[V.cells,af,ag,r1,p1];rfl) rfl ?_;rintro h10 o10 F10 n10;have lx:=o10.la 2
  have F80:Fr [] h8 h10:=F_h9.fresh F10 F8.wf (Nat.le_refl _);have om10:=F80.get om8;simp only[evs,seval,lx];refine ac (c':=({m with vR:=vR',vP:=vP'}:Mo).cells) F10.wf om10 rfl (by simp only[V.cells,af,ag,r1,p1];rfl) rfl ?_;rintro h11 om11 F11 n11;have o811:=F11.own _ _ oO (F80.get (F8.get o8));simp only[evs,seval,eff,lm om11,la o811];have a10:=a7.step w7 (F8.then F80) iS (fun z q=>.inl q);have M10:MZs L h10 {m with vR:=vR',vP:=vP'} E n:=⟨a10.cap,a10.le,a10.e,s8.on F8.wf F80⟩;have oM:=(M10.mz (mz7.kz.fr (F8.then F80)) F10.wf).on;refine ac F11.wf (F11.own _ _ oO (F80.get (F8.get o4))) rfl (oM) rfl ?_;rintro hy oy Fy ny;simp only[evs,seval,eff];refine ac Fy.wf (Fy.own _ _ oO (F11.own _ _ oO (F80.get (F8.get o5)))) rfl rfl rfl ?_;rintro hz oz Fz nz;have lz4:=Own.ldc (c:=17) (Fz.own _ _ oO oy) rfl;have lz5:=Own.ldc (c:=2) oz rfl;simp only[evs,seval,DF,eff,lm (om11),la (o811),la (Fy.own _ _ oO (o811)),lz4,lz5];exact⟨(Fr.fresh ((F07.then (F8.then F80)).fresh F11 wf (Nat.le_refl _)) Fy wf (by omega)).fresh Fz wf (by omega),{m with vR:=vR',vP:=vP'},_,_,_,_,_,rfl,rfl,fin2 (M10.step F10.wf F11 (fun z m=>.inl (bL z (by simp at m;omega) (by simp at m;omega))) (fun z q=>.inl q)) F11.wf Fy Fz,by omega⟩
 simp only[evs,seval,eff,x0,eq_false k1,eq_false k2,eq_false k3,eq_false k4,eq_false k5,eq_false k6,eq_false k7,lm om,la o8];refine ac w7 (o4) rfl (on) rfl ?_;rintro hy oy Fy ny;simp only[evs,seval,eff];refine stu Fy.wf (Fy.own _ _ oO (o5)) ?_;rintro hz oz Fz nz;have lz4:=Own.ldc (c:=17) (Fz.own _ _ oO oy) rfl;have lz5:=Own.ldc (c:=2) oz rfl;simp only[evs,seval,DF,eff,lm (om),la (o8),la (Fy.own _ _ oO (o8)),lz4,lz5];exact⟨(Fr.fresh (F07) Fy wf oM).fresh Fz wf oM,m,_,_,_,_,_,rfl,rfl,fin2 (a7) w7 Fy Fz,oM⟩
end
open Go.Ev.St
def LB(P:Nat->Prop)(B:List Nat)(z:Nat):Prop:=P z\/z∈B
abbrev Z17:List V:=[ZZ 0,ZZ 0,ZZ 0,.nils,ZZ 0,ZZ 0,ZY 0,.nils,ZZ 0,ZZ 0,.nils,.nils,ZZ 0,ZZ 0,ZZ 0,ZZ 0,ZZ 0]
section
variable {P : Nat -> Prop} {h : Heap} {vK vR vP vA v : V} {E : List Ent} {A : List Nat} {c : Cfg} {x : Evt} {m : Mo} {n N k : Nat} {s : Int}
theorem SZs.le(a:SZs P h vR vP n)(l:n<=k):SZs P h vR vP k:=let⟨R,Q,a⟩:=a;⟨R,Q,a.imp fun _ a=>⟨a.1,a.2.r,a.2.n3,fun p m=>⟨(a.2.i p m).r,(a.2.i p m).i,QY (a.2.i p m).n l⟩⟩⟩
theorem MZs.mono(a:MZs P h m E n)(l:n<=k):MZs P h m E k:=⟨a.cap,a.le,a.e,SZs.le a.s l⟩
theorem HI(wf:WF h)(hP:∀z,P z->z<h.next)(kz:RZ h c.vK c.Ks)(cap:c.cap=12)(le:1<=c.least/\c.least<=6):
 ay go 43 [.agg c.cells] h fun u h'=>Fr [] h h'/\∃m:Mo,u=.agg m.cells/\m.c=c/\MZs P h' m [] 0:=by
 have k1:c.vK.one=true:=kz.one;have oc:az c.cells=true:=by simp only[Cfg.cells,af,ag,k1];rfl
 obtain⟨h1,U,J,ah⟩:=av wf c.cells;obtain⟨h2,R,I,ab⟩:=av J.wf Z17;have n1:=hnx U
 have n2:=hnx R
 have Z:=J.then I;have o1:=I.get ah;have lc{h'}(f:Fr [] h2 h'):=(f.get o1).la 7
 have lv{h'}(f:Fr [] h2 h'):=(f.get o1).l1 0;have r0:=Qw (S:=[]) Z.wf;obtain⟨L,hL⟩:∃L:Nat->Prop,L=LB P [h.next,h1.next]:=⟨_,rfl⟩;have ak:∀z,L z->z<h2.next:=fun z q=>by
  rw[hL]at q;exact ybd
 refine aa ?_;simp[evs,eff,<-U,<-R,lc r0,lv r0];refine ae (BJ Z.wf (kz.fr Z)) ?_;rintro _ h3 ⟨D,ad,rfl,sz⟩;have s3:=sz L ak;have p1:=(s3.at D.wf).one.2;obtain⟨m,hm⟩:∃m:Mo,m=⟨c,.nils,c.view,0,.nils,ad,0,0,0,0,1⟩:=⟨_,rfl⟩;have aj:az m.cells=true:=by rw[hm];simp only[Mo.cells,Mo.tail,Cfg.cells,Rb,Ri,af,ag,k1,p1];rfl
 have cm:m.cells=[ZZ c.view,ZZ c.over,ZZ c.least,c.vK,ZZ c.cap,ZZ c.arena,ZY (c.flaw:Int),.nils,ZZ c.view,ZZ 0,.nils,ad,ZZ 0,ZZ 0,ZZ 0,ZZ 0,ZZ 1]:=by rw[hm];rfl
 simp[evs,eff,Cfg.cells];rw[<-cm];refine ac (c':=m.cells) D.wf (D.get ab) rfl aj (by rw[hm];rfl) ?_;rintro h4 o4 F4 n4;have l4:aH h4 h1.next 0 17=some m.cells:=by rw[o4.ld,hm];rfl
 simp[evs,DF,lc r0,lv r0,lc D,lv D,l4,Cfg.cells];have f1:Fr [h1.next] h h4:=Qx (Z.then D) F4 wf iS (fun z q=>.inl q);exact⟨(Z.then D).fresh F4 wf oM,m,rfl,by rw[hm],⟨by rw[hm];exact cap,by rw[hm];exact le,by rw[hm];exact EZs.nil,by rw[hm];exact s3.step D.wf F4 (fun z q=>.inl (by rw[hL];exact .inr (by simp at q;simp[q]))) (fun z q=>.inl (by rw[hL];exact .inl q))⟩⟩
set_option maxHeartbeats 1000000 in
theorem K1(wf:WF h)(hP:∀z,P z->z<h.next)(kz:RZ h m.c.vK m.c.Ks)(a:MZs P h m E n)(hn:n<=90000)(xs:Stb P h fun h=>EvtH h x N)(hE:E.length<=N):
 ay go 45 [.agg m.cells,.agg x.cells] h fun u h'=>Fr [] h h'/\∃(m':Mo)(E':List Ent)(e:Int),u=.tup [.agg m'.cells,ZZ e]/\m'.c=m.c/\MZs P h' m' E' (n+1024)/\E'.length<=N+16:=by
 have mz:=a.mz kz wf;have on:=mz.on;have xh:=xs.at wf;have fw:=xh.on;obtain⟨h1,bw,bz,ds⟩:=av wf m.cells;obtain⟨h2,bt,bP,cx⟩:=av bz.wf x.cells;obtain⟨h3,bT,bE,b6⟩:=av bP.wf Z17;have n1:=hnx bw
 have n2:=hnx bt
 have n3:=hnx bT
 have dr:=bP.then bE;have aA:=bz.then dr;have ch:=dr.get ds;have cu:=bE.get cx;have lm{h'}(o:Own h' h.next m.cells):=o.la 17
 have lc{h'}(o:Own h' h.next m.cells):aH h' h.next 0 7=some m.c.cells:=by rw[o.ld];rfl
 have lx{h'}(o:Own h' h1.next x.cells):=o.la 5
 have fin{hX hy:Heap}(f:Fr [] h hX)(g:Fr [h2.next] hX hy):Fr [] h hy/\MZs P hy m E (n+1024):=
  ⟨f.fresh g wf oM,(a.step wf (Qx f g wf iS (fun z q=>.inl q)) (fun z q=>.inr (by simp at q;omega)) (fun z q=>.inl q)).mono oM⟩
 obtain⟨L,hL⟩:∃L:Nat->Prop,L=LB P [h.next,h1.next,h2.next]:=⟨_,rfl⟩;have ex:∀z,L z->z<h3.next:=fun z q=>by
  rw[hL]at q;exact ybd
 have d7:∀z,L z->P z\/h.next<=z:=fun z q=>by
  rw[hL]at q;rcases q with q|q
  ·exact .inl q
  ·grind
 have a3:MZs L h3 m E n:=a.step wf aA iS d7;have cc:Stb L h3 fun h=>EvtH h x N:=xs.step wf aA iS d7;have w3:=aA.wf;have J:=a3.mz (kz.fr aA) w3;refine aa ?_;simp only[evs,seval,<-bw,<-bt,<-bT,lc ch,lx cu];refine ae (tc w3 J.kz.one J.le (cc.at w3)) ?_;rintro _ h4 ⟨F4,e0,rfl,fT,e4⟩;have ce:=aA.then F4;have a0:=F4.get ch;have ci:=F4.get cu;have w4:=F4.wf;by_cases c0:0<e0
 ·simp only[evs,seval,eff,c0,lm a0,lc a0,lx ci];refine ae (tc w4 J.kz.one J.le ((cc.at w3).fr F4)) ?_;rintro _ h5 ⟨F5,e1,rfl,_⟩;have eH:=F5.get a0;simp only[evs,seval,eff];refine ac F5.wf (F5.get (F4.get b6)) rfl on rfl ?_;rintro hy oy Fy ny;have lz:=oy.la 17
  simp only[evs,seval,DF,eff,lm a0,lm eH,lc a0,lx ci,lz];obtain⟨f1,f2⟩:=fin (ce.then F5) Fy;exact yaV
 have e5:e0=0:=oM
 simp only[evs,seval,c0,lm a0,lx ci];refine ae (Ap w4 (fun z q=>QH (ex z q) F4.next) (kz.fr ce) (a3.step w3 F4 iS (fun z q=>.inl q)) hn (cc.on w3 F4) hE (e4 e5)) ?_;rintro _ h5 ⟨F5,m1,E1,k,d,t1,e1,rfl,cn,a5,f0⟩;have ej:=ce.then F5;have da:=F4.then F5;have w5:=F5.wf;have ei:=(a5.mz (by rw[cn];exact kz.fr ej) w5).on;obtain⟨h6,bY,bK,d0⟩:=av w5 Z17;obtain⟨h7,bv,bg,cA⟩:=av bK.wf [ZX 0,ZZ 0];have n6:=hnx bY
 have n7:=hnx bv
 have fs:=da.next;simp only[evs,seval,an,<-bY,<-bv];refine ac bg.wf (bg.get d0) rfl ei rfl ?_;rintro h8 o8 F8 n8;simp only[evs,seval];refine stu F8.wf (F8.own _ _ oO cA) ?_;rintro h9 o9 F9 n9;have o6:Own h9 h5.next m1.cells:=F9.own _ _ oO o8;have dp:Fr [] h5 h9:=((bK.then bg).fresh F8 w5 (pi _)).fresh F9 w5 oM;have a4:=da.then dp;have a8:=aA.then a4;have w9:=F9.wf;have ct:=a4.get ch;have ey:=a4.get cu;have dx:=a4.get b6;obtain⟨M,hM⟩:∃M:Nat->Prop,M=LB P [h.next,h1.next,h2.next,h5.next,h6.next]:=⟨_,rfl⟩;have db:∀z,M z->z<h9.next:=fun z q=>by
  rw[hM]at q;exact ybd
 have d5:∀z,M z->P z\/h.next<=z:=fun z q=>by
  rw[hM]at q;rcases q with q|q
  ·exact .inl q
  ·grind
 have LM:∀z,M z->L z\/h5.next<=z:=fun z q=>by
  rw[hM]at q;rw[hL];rcases q with q|q
  ·exact .inl (.inl q)
  ·simp at q;rcases q with rfl|rfl|rfl|rfl|rfl
   ·exact .inl (.inr iS)
   ·exact .inl (.inr iS)
   ·exact .inl (.inr iS)
   ·omega
   ·omega
 have PM:∀z,P z->M z:=fun z q=>by rw[hM];exact .inl q
 have M6:M h5.next:=by rw[hM];exact .inr iS
 have M4:M h2.next:=by rw[hM];exact .inr iS
 have a9:MZs M h9 m1 E1 n:=a5.step w5 dp iS LM;have z9:MZs M h9 m E n:=a.step wf a8 iS d5;have ep:Stb M h9 fun h=>EvtH h x N:=xs.step wf a8 iS d5;have fz:=a9.mz (by rw[cn];exact kz.fr a8) w9;by_cases c1:0<e1
 ·simp only[evs,seval,c1,lm ct];refine ac w9 dx rfl on rfl ?_;rintro hy oy Fy ny;have lz:=oy.la 17
  simp only[evs,seval,lz];obtain⟨f1,f2⟩:=fin a8 Fy;exact yaV
 simp only[evs,seval,c1];refine lW [zA 0 2,zn (.ld 7 true (.l 0)),zc 102 [.l 0],zA 8 6,zL,zA 0 2,za 1,zL,zA 0 2,za 2,zL,zp (.build [.nils,(ZZ 0),(ZZ 0),(ZZ 0),(ZZ 0)] [(0,2),(2,1),(3,1),(4,1)]) [.l 8,.l 6,.l 3,.l 0]] _ rfl ?_;have Z:=QW w9 [.nils,ZZ 0,ZZ 0,ZZ 0,ZZ 0];have a1:=Ro w9 [.nils,ZZ 0,ZZ 0,ZZ 0,ZZ 0];have cr:(halloc h9 [.nils,ZZ 0,ZZ 0,ZZ 0,ZZ 0]).next=h9.next+1:=rfl;generalize halloc h9 [.nils,ZZ 0,ZZ 0,ZZ 0,ZZ 0]=fx at Z a1 cr|-;have lv{h'}(o:Own h' h5.next m1.cells):=o.l1 8;have lo{h'}(o:Own h' h.next m.cells):=o.l1 1;have ll{h'}(o:Own h' h.next m.cells):=o.l1 2;have ah:=Z.get ct;have bB:=Z.get o6;simp only[evs,seval,eff,lc ah];refine ae (gO Z.wf J.kz.one rfl) ?_;rintro _ fo ⟨aE,rfl⟩;have ao:=aE.get ah;have bu:=aE.get bB;rw[J.cap];have v1:=J.kz.one;simp only[evs,seval,eff,lv bu,lo ao,ll ao,cR,fu];refine ac (c':=[m.c.vK,ZZ 12,ZZ m1.view,ZZ m.c.over,ZZ m.c.least]) aE.wf (aE.get a1) rfl (by simp only[V.cells,af,ag,v1];rfl) rfl ?_;rintro eS ed cT f5;have D:Fr [] h9 eS:=(Z.then aE).fresh cT w9 (pi _);have fp:=aE.next;have bN:=D.get o6;have eC:=ed.la 5
 have lE{h'}{m':Mo}(o:Own h' h5.next m'.cells):=o.l1 7;have la:=(D.get o9).la 2
 have x4:=(D.get ey).l1 4;have eK:=cT.wf;simp only[evs,seval,DF,lc ah,lv bB,lv bu,lo ah,lo ao,ll ah,ll ao,eC,lE bN,la,x4];refine ae (ze (k:=k) (d:=d) eK (fun z q=>QH (db z q) D.next) (J.kz.fr (a4.then D)) (a9.e.on w9 D) (((ep.at w9).fr D).t)) ?_;rintro _ b7 ⟨U,v',s',f',e2,E2,rfl,cI,l2⟩;have a7:=D.then U;have bo:v'.one=true:=RI (cI.at U.wf).r;have cS:=U.get bN;have e7:=a7.next;simp only[evs,seval];refine ac (c':=({m1 with vE:=v'}:Mo).cells) U.wf cS (by rw[aq bo];rfl) (by rw[aq bo];simp only[af,ag,bo];rfl) (by rw[aq bo];rfl) ?_;rintro ft eL ec fj;simp only[evs,seval];refine sts (c':=({m1 with vE:=v',off:=s'}:Mo).cells) ec.wf eL ?_;rintro f6 ek cW fm;simp only[evs,seval];refine sts (c':=({m1 with vE:=v',off:=s',rnd:=f'}:Mo).cells) cW.wf ek ?_;rintro bc I dB fi;obtain⟨m2,cl⟩:∃m2:Mo,m2={m1 with vE:=v',off:=s',rnd:=f'}:=⟨_,rfl⟩;rw[<-cl]at I;have aj:Fr [h5.next] b7 bc:=Qx (Qx ec cW U.wf (fun z q=>.inl q) (fun z q=>.inl q)) dB U.wf (fun z q=>.inl q) (fun z q=>.inl q);have S6:∀z∈[h5.next],M z\/b7.next<=z:=fun z q=>.inl (by simp at q;subst q;exact M6);have cq:=a9.step w9 a7 (by simp) (fun z q=>.inl q);have cm:MZs M bc m2 E2 n:=by
  rw[cl];exact(show MZs M b7 {m1 with vE:=v',off:=s',rnd:=f'} E2 n from⟨cq.cap,cq.le,cI,cq.s⟩).step U.wf aj S6 (fun z q=>.inl q)
 have a2:=dB.wf;have bh:Fr [] h bc:=Ru wf (a8.then a7) aj (fun z q=>by simp at q;omega);have ab:Own bc h.next m.cells:=aj.own _ _ oO (a7.get ct);have bL:Own bc h2.next Z17:=aj.own _ _ oO (a7.get dx);by_cases c2:0<e2
 ·simp only[evs,seval,c2,lm ab];refine ac (c':=m.cells) a2 bL rfl on rfl ?_;rintro hy oy Fy ny;have lz:=oy.la 17
  simp only[evs,seval,lz];obtain⟨f1,f2⟩:=fin bh Fy;exact yaV
 have lR{h'}{m':Mo}(o:Own h' h5.next m'.cells):aH h' h5.next 10 2=some [m'.vR,m'.vP]:=by rw[o.ld];rfl
 have l6{h'}{m':Mo}(o:Own h' h5.next m'.cells):=o.la 17
 have bn:m2.c=m.c:=by rw[cl];exact cn
 have bi:=cm.mz (by rw[bn];exact kz.fr bh) a2;simp only[evs,seval,eff,c2,lc ab,lR I,lE I,l6 I];refine ae (I8 a2 bi) ?_;rintro vA eu ⟨ad,A,GA,hA,nA⟩;have ef:=ad.wf;have d9:=ad.get ab;have d6:=ad.get I;have em:=cm.step a2 ad iS (fun z q=>.inl q);simp only[evs,eff];have eb:RZ eu m.c.vK m.c.Ks:=by rw[<-bn];exact bi.kz.fr ad
 refine ae (Ah (O:=M) (E:=E2) ef (fun z q=>by have:=db z q;have:=aj.next;have:=ad.next;omega) eb J.cap em.s hn (bi.e.fr ad) (SM (n:=A.length) GA (au jY A) oM) hA nA) ?_;rintro _ bm ⟨dc,aR,aF,d1,d2,d3,d4,e3,rfl,hr⟩;have R:=ad.then dc;have bf:=dc.wf;have ee:=R.get I;have rp:aR.one=true/\aF.one=true:=by
  rcases hr with⟨_,s⟩|⟨_,rfl,rfl⟩
  ·exact(s.at bf).one
  ·exact⟨rfl,rfl⟩
 have e8:=R.next;simp only[evs,seval,eff];refine ac (c':=({m2 with vR:=aR,vP:=aF}:Mo).cells) bf ee rfl (by simp only[V.cells,af,ag,rp.1,rp.2];rfl) rfl ?_;rintro fv eE d8 f7;simp only[evs,seval,eff];refine stu d8.wf eE ?_;rintro h20 ea cj fC;have ax:Fr [h5.next] bm h20:=Qx d8 cj bf (fun z q=>.inl q) (fun z q=>.inl q);have a6:Fr [] h h20:=Ru wf (bh.then R) ax (fun z q=>by simp at q;omega);have cy:Own h20 h.next m.cells:=ax.own _ _ oO (R.get ab);have bI:Own h20 h2.next Z17:=ax.own _ _ oO (R.get bL);simp only[evs,seval,DF,eff,lc ab,lc d9,lR I,lR d6,lE I,lE d6,l6 I];by_cases c3:0<e3
 ·simp only[evs,seval,c3,lm cy];refine ac (c':=m.cells) cj.wf bI rfl on rfl ?_;rintro hy oy Fy ny;have lz:=oy.la 17
  simp only[evs,seval,lz];obtain⟨f1,f2⟩:=fin a6 Fy;exact yaV
 have et:SZs M bm aR aF (n+1024):=by grind
 have en:=ea.l1 15;simp only[evs,seval,c3,en];refine sts (c':=({m2 with vR:=aR,vP:=aF,c1:=d1,c2:=d2,c3:=aB .i64 (d3+t1),c4:=d4}:Mo).cells) cj.wf ea ?_;rintro de cz ak e9;obtain⟨m5,br⟩:∃m5:Mo,m5={m2 with vR:=aR,vP:=aF,c1:=d1,c2:=d2,c3:=aB .i64 (d3+t1),c4:=d4}:=⟨_,rfl⟩;rw[<-br]at cz;have dR:Fr [h5.next] bm de:=Qx ax ak bf (fun z q=>.inl q) (fun z q=>.inl q);have ca:=cm.step a2 R (by simp) (fun z q=>.inl q);have cN:MZs M de m5 E2 (n+1024):=by
  rw[br];exact(show MZs M bm {m2 with vR:=aR,vP:=aF,c1:=d1,c2:=d2,c3:=aB .i64 (d3+t1),c4:=d4} E2 (n+1024)from⟨ca.cap,ca.le,ca.e,et⟩).step bf dR (fun z q=>.inl (by simp at q;subst q;exact M6)) (fun z q=>.inl q)
 have es:=(cN.mz (by rw[br];show RZ _ m2.c.vK m2.c.Ks;rw[bn];exact kz.fr (a6.fresh ak wf oM)) ak.wf).on;have el:=cz.la 17
 simp only[evs,seval,el];refine ac ak.wf (ak.own _ _ oO bI) rfl es rfl ?_;rintro hy oy Fy ny;have lz:=oy.la 17
 simp only[evs,seval,lz];exact⟨(a6.fresh ak wf oM).fresh Fy wf oM,m5,E2,_,rfl,by rw[br];exact bn,cN.step ak.wf Fy (fun z q=>.inl (by simp at q;subst q;exact M4)) (fun z q=>.inl (PM z q)),oM⟩
end
open Go.Ev.St
def Gt(n:Int):Nat:=(aB .u64 n).toNat
theorem fwrap_u64(n:Int):aB .u64 n=(Gt n:Int):=by
 have:0<=aB .u64 n:=by
  have:aB .u64 n=n%18446744073709551616:=by rw[bq];simp only[IntKind.wrap,IntKind.bits,IntKind.signed];simp
  omega
 simp only[Gt];omega
theorem JX(a b:Nat)(U:a<4294967296)(R:0<b){x y:Int}(Z:x=(a:Nat))(e:y=(b:Nat)):aP (.ib .quo) [ZZ x,ZZ y]=some (ZZ ((a/b:Nat):Int)):=by
 have:a/b<=a:=RQ _ _;subst e Z;rw[iB _ _ _ oM,(iR:((a:Nat):Int).tdiv (b:Nat)=((a/b:Nat):Int))];generalize a/b=q at this|-;rw[fwrap_i64 _ oM oM]
theorem mH(a b:Nat)(U:0<b){x y:Int}(Z:x=(a:Nat))(e:y=(b:Nat)):aP (.ib .rem) [ZZ x,ZZ y]=some (ZZ ((a%b:Nat):Int)):=by
 subst Z;exact aV .i64 a b U e
theorem Cu(n:Int):Gt n<18446744073709551616:=by
 have:aB .u64 n=n%18446744073709551616:=by rw[bq];simp only[IntKind.wrap,IntKind.bits,IntKind.signed];simp
 simp only[Gt];omega
section
variable {P : Nat -> Prop} {h : Heap} {vK vR vP vA v : V} {E : List Ent} {A : List Nat} {c : Cfg} {x : Evt} {m : Mo} {n N b num : Nat} {s : Int}
theorem yc(wf:WF h)(a:MZ h m E)(hb:b<256)(hn:num≤100):ay go 98 [.int .u8 (b:Int),.agg m.cells,.int .i64 (num:Int)] h fun u h'=>Fr [] h h'∧
 ∃Tl:List (Nat×Int),Gs h' h.next 2 u (Tl.flatMap htC)∧Tl.length≤4∧∀x∈Tl,(1≤x.2∧x.2≤64)∧x.1<18446744073709551616:=by
 have on:=a.on;have hl:=a.le;have hE:=a.e.n;obtain⟨h1,e_h1,F_h1,o_h1⟩:=av wf m.cells;have n1:=hnx e_h1
 have lE{h'}(f:Fr [] h1 h'):=(f.get o_h1).l1 7;have lL{h'}(f:Fr [] h1 h'):=(f.get o_h1).l1 2;have r5:=aV .u8 b 5 oM (y:=5) rfl;have q5:=pp b 5 hb oM (y:=5) rfl;have r53:=mH (b/5) 3 oM (x:=((b/5:Nat):Int)) (y:=3) rfl rfl;have q2:=JX b 2 oM oM (x:=(b:Int)) (y:=2) rfl rfl;have b5:b%5<5:=Nat.mod_lt _ oM;have d5:b/5≤b:=Nat.div_le_self _ _;have d2:b/2≤b:=Nat.div_le_self _ _;have m3:b/5%3<3:=Nat.mod_lt _ oM;generalize b%5=B5 at r5 b5;generalize b/5%3=B3 at r53 m3;generalize b/5=D5 at q5 r53 d5;generalize b/2=D2 at q2 d2;refine aa ?_;simp only[evs,seval,←e_h1];refine aw (fun z env hh=>Fr [] h1 hh∧∃(j:Nat)(u:V)(Tl:List (Nat×Int)),env.get 8=some (.int .i64 j)∧env.get 7=some u∧env.get 0=some (.int .u8 (b:Int))∧env.get 2=some (.int .i64 (num:Int))∧env.get 4=some (.ptr h.next 0)∧j≤B5∧Tl.length≤j∧
  Gs hh h1.next 2 u (Tl.flatMap htC)∧(∀x∈Tl,(1≤x.2∧x.2≤64)∧x.1<18446744073709551616)∧z=B5-j) B5 oM ?_ ?_
 ·exact⟨Fr.refl F_h1.wf,0,.nils,[],iS,iS,iS,iS,iS,oM,iS,.inl ⟨rfl,rfl⟩,iS,rfl⟩
 ·rintro z env hh ⟨F,j,u,Tl,g8,g7,g0,g2,g4,hj,nT,G,zT,rfl⟩;have F0:=F_h1.then F;have a':=a.e.fr F0;have u1:=G.one;have rT:Recs htC 2 hh u Tl:=Gs.sl (n:=Tl.length) G (au dM Tl) oM;by_cases cj:j<B5
  ·have rk2:=mH (D2+j) 2 oM (x:=(D2:Int)+(j:Int)) (y:=2) oM rfl;by_cases ce:(((D2+j)%2:Nat):Int)=0
   case' neg=>
    simp(disch:=omega) only[evs,seval,fwrap_i64,g8,g0,g2,r5,q5,r53,q2,fwrap_u64,rk2,eq_false ce,eq_true (oM:(j:Int)<(B5:Int))]
   case' pos=>
    by_cases cl:j<E.length
    case' neg=>
     simp(disch:=omega) only[evs,seval,fwrap_i64,g8,g0,g2,g4,r5,q5,r53,q2,fwrap_u64,rk2,eq_true ce,eq_true (oM:(j:Int)<(B5:Int)),lE F,a'.r.len,eq_false (oM:¬(j:Int)<E.length)]
    case' pos=>
     have rk3:=mH (D2+j+j) E.length oM (x:=(D2:Int)+(j:Int)+(j:Int)) (y:=(E.length:Int)) oM rfl;have ml:(D2+j+j)%E.length<E.length:=Nat.mod_lt _ oM;generalize(D2+j+j)%E.length=W at rk3 ml;obtain⟨eb,eo,e,p1,p2,_,p4⟩:=Recs.ix aJ a'.r .i64 (W:Int) oM oM;have k0:ai hh eb eo=some (.int .u64 (e.x.key:Int)):=p2 0 oM;have k64:=(a'.i e (List.mem_of_getElem? p4)).k;simp(disch:=omega) only[evs,seval,DF,eff,fwrap_i64,g8,g0,g2,g4,r5,q5,r53,q2,fwrap_u64,rk2,eq_true ce,eq_true (oM:(j:Int)<(B5:Int)),lE F,a'.r.len,eq_true (oM:(j:Int)<E.length),rk3,p1,k0]
   all_goals
    refine aw (fun z env h'=>hh=h'∧∃(y:Nat)(K:Int)(tw:Bool),env.get 12=some (.int .i64 y)∧env.get 11=some (.bool tw)∧env.get 9=some (.int .u64 K)∧(0≤K∧K<18446744073709551616)∧env.get 8=some (.int .i64 j)∧env.get 7=some u∧env.get 0=some (.int .u8 (b:Int))∧env.get 2=some (.int .i64 (num:Int))∧env.get 4=some (.ptr h.next 0)∧y≤Tl.length∧z=Tl.length-y) Tl.length oM ?_ ?_
    ·exact⟨rfl,0,_,false,iS,iS,(by simp;rfl),⟨oM,by first|omega|(have:=Cu (100+30*(num:Int)+(j:Int)+(B3:Int) *10);omega)⟩,iX,iX,iX,iX,iX,oM,rfl⟩
    ·rintro z env _ ⟨rfl,y,K,tw,f12,f11,f9,K0,f8,f7,f0,f2,f4,hy,rfl⟩;by_cases cy:y<Tl.length
     ·cases tw with
      |true=>
       simp(disch:=omega) only[evs,seval,fwrap_i64,f12,f11,f7,rT.len,eq_true (oM:(y:Int)<Tl.length)];refine rqn ⟨Tl.length-(y+1),oM,rfl,y+1,K,true,iS,iS,iX,K0,iX,iX,iX,iX,iX,oM,rfl⟩
      |false=>
       obtain⟨tb,to,q,p1,p2,_⟩:=Recs.ix dM rT .i64 (y:Int) oM oM;have k0:ai hh tb to=some (.int .u64 (q.1:Int)):=p2 0 oM;simp(disch:=omega) only[evs,seval,fwrap_i64,f12,f11,f9,f7,rT.len,eq_true (oM:(y:Int)<Tl.length),p1,k0];refine rqn ⟨Tl.length-(y+1),oM,rfl,y+1,K,decide ((q.1:Int)=K),iS,iS,iX,K0,iX,iX,iX,iX,iX,oM,rfl⟩
     ·cases tw with
      |true=>
       simp(disch:=omega) only[evs,seval,fwrap_i64,f12,f11,f8,f7,rT.len,eq_false (oM:¬(y:Int)<Tl.length)];refine rqn ⟨B5-(j+1),oM,F,j+1,u,Tl,iS,iX,iX,iX,iX,oM,oM,G,zT,rfl⟩
      |false=>
       have rs:=mH (b*7+j*11) 45 oM (x:=(b:Int) *7+(j:Int) *11) (y:=45) oM rfl;have rl:(b*7+j*11)%45<45:=Nat.mod_lt _ oM;generalize(b*7+j*11)%45=R at rs rl;obtain⟨K,rfl⟩:∃K':Nat,K=K':=⟨K.toNat,oM⟩;obtain⟨h5,e_h5,F_h5,o_h5⟩:=av F.wf (htC (K,m.c.least+(R:Int)));have n5:=hnx e_h5
       have eh:halloc hh [.int .u64 (K:Int),.int .i64 (m.c.least+(R:Int))]=h5:=by rw[e_h5];rfl
       simp(disch:=omega) only[evs,seval,fwrap_i64,f12,f11,f9,f8,f7,f0,f4,rT.len,eq_false (oM:¬(y:Int)<Tl.length),lL F,rs,eh];have nn:=F.next;refine Gs.append1 (bytes:=16) F_h5.wf (G.fr F_h5) (Sl.lit o_h5 rfl) oM oM rfl oM (by rw[au dM];omega) ?_;intro u' h6 G6 e6 F6;simp(disch:=omega) only[evs,seval,fwrap_i64,f8];refine rqn ⟨B5-(j+1),oM,Fr.new F_h1.wf (F.then F_h5) F6 (fun z q=>G.vb z q),j+1,u',Tl++[(K,m.c.least+(R:Int))],iS,iS,iX,iX,iX,oM,by simp;omega,by rw[List.flatMap_append,List.flatMap_singleton];exact G6,fun q mq=>?_,rfl⟩;rcases List.mem_append.1 mq with mq|mq
       ·exact zT q mq
       ·grind
  ·simp(disch:=omega) only[evs,seval,fwrap_i64,g8,g7,g0,r5,eq_false (oM:¬(j:Int)<(B5:Int))];exact⟨F0,Tl,G.le oM,oM,zT⟩
end
open Go.Ev.St
def uw8(n:Int):Nat:=(aB .u8 n).toNat
theorem Gr(n:Int):uw8 n<256:=by
 have:aB .u8 n=n%256:=by rw[bq];simp only[IntKind.wrap,IntKind.bits,IntKind.signed];simp
 simp only[uw8];omega
theorem E8(n:Int):aB .u8 n=(uw8 n:Int):=by
 have:aB .u8 n=n%256:=by rw[bq];simp only[IntKind.wrap,IntKind.bits,IntKind.signed];simp
 simp only[uw8];omega
abbrev c6(b0 b1 b2 b3 b4 b5:Nat):List V:=[ZY (b0:Int),ZY (b1:Int),ZY (b2:Int),ZY (b3:Int),ZY (b4:Int),ZY (b5:Int)]
theorem NtG.stb{P:Nat->Prop}{B:Nat}{x:Nt}(g:NtG P B h x)(w:WF h)(hP:∀z,P z->z<B)(n:x.n.Y.length<=2048):Stb P h fun h=>NtH h x:=fun S h' hS f=>
 ⟨g.k,g.a,g.c,g.t,SM (g.g.dj f fun z m m'=>by
  have v1:=g.g.vb _ m';have v2:=g.g.lt w _ m';rcases hS z m with q|q
  ·have:=hP z q;omega
  ·omega) (au b8 _) oM,fun y my=>g.i y my S h' (fun z q=>(hS z q).imp .inl id) f,n,Gs.nE g.g⟩
section
variable {P : Nat -> Prop} {h : Heap} {vK vR vP vA v : V} {E : List Ent} {A : List Nat} {c : Cfg} {x : Evt} {m : Mo} {n N num b0 b1 b2 b3 b4 b5 : Nat} {s : Int}
theorem uj(wf:WF h)(hP:∀z,P z→z<h.next)(kz:RZ h m.c.vK m.c.Ks)(a:MZs P h m E n)(hE:E.length≤900)(hb:b0<256∧b1<256∧b2<256∧b3<256∧b4<256∧b5<256)(hn:num≤100):
 ay go 99 [.agg (c6 b0 b1 b2 b3 b4 b5),.agg m.cells,.int .i64 (num:Int)] h fun u h'=>Fr [] h h'∧
 ∃Ns:List Nt,Gs h' h.next 5 u (Ns.flatMap Nt.cells)∧Ns.length≤3∧(∀y∈Ns,Stb (Pu P u) h' fun h=>NtH h y)∧∀y∈Ns,y.n.Y.length≤4∨(y.n.k=5∧y.n.Y.length≤E.length+12):=by
 have mz:=a.mz kz wf;have on:=mz.on;have k1:=mz.kz.one;obtain⟨h1,e_h1,F_h1,o_h1⟩:=av wf (c6 b0 b1 b2 b3 b4 b5);obtain⟨h2,e_h2,F_h2,o_h2⟩:=av F_h1.wf m.cells;have n1:=hnx e_h1
 have n2:=hnx e_h2
 have F02:=F_h1.then F_h2;have ob:=F_h2.get o_h1;have lc:aH h2 h1.next 0 7=some m.c.cells:=by rw[o_h2.ld];rfl
 have e1:=e_h1.symm;refine aa ?_;simp only[evs,seval,e1,←e_h2,lc];refine ae (gO F02.wf k1 rfl) ?_;rintro _ h3 ⟨F3,rfl⟩;rw[mz.cap];obtain⟨h4,e_h4,F_h4,o_h4⟩:=av F3.wf [.nils,.int .i64 0];have n4:=hnx e_h4
 simp only[evs,seval,←e_h4];refine ac (c':=[m.c.vK,.int .i64 12]) F_h4.wf o_h4 rfl (by simp only[V.cells,af,ag,k1];rfl) rfl ?_;rintro h5 o5 F5 n5;have F35:=F_h4.fresh F5 F3.wf (Nat.le_refl _);have F25:=F3.then F35;have F05:=F02.then F25;have w5:=F5.wf;have n3:=F3.next;have l7:=(F25.get o_h2).l1 7;have ob5:=F25.get ob;simp only[evs,seval,l7];have x1:aP (.ixa 6 1) [.ptr h.next 0,.int .i64 1]=some (.ptr h.next 1):=rfl;have x3:aP (.ixa 6 1) [.ptr h.next 0,.int .i64 3]=some (.ptr h.next 3):=rfl;have x4:aP (.ixa 6 1) [.ptr h.next 0,.int .i64 4]=some (.ptr h.next 4):=rfl;have x5:aP (.ixa 6 1) [.ptr h.next 0,.int .i64 5]=some (.ptr h.next 5):=rfl;have r1{h'}(f:Fr [] h5 h'):=(f.get ob5).l1 1;have r3{h'}(f:Fr [] h5 h'):=(f.get ob5).l1 3;have r4{h'}(f:Fr [] h5 h'):=(f.get ob5).l1 4;have r5{h'}(f:Fr [] h5 h'):=(f.get ob5).l1 5;have l2{h'}(f:Fr [] h5 h'):=(f.get o5).la 2
 have q3:=aV .u8 b1 3 oM (y:=3) rfl;have q12:=aV .u8 b3 12 oM (y:=12) rfl;have q2:=pp b4 2 oM oM (y:=2) rfl;have m3:b1%3<3:=Nat.mod_lt _ oM;have m12:b3%12<12:=Nat.mod_lt _ oM;have d2:b4/2≤b4:=Nat.div_le_self _ _;generalize b1%3=C3 at q3 m3;generalize b3%12=C12 at q12 m12;generalize b4/2=D2 at q2 d2;refine aw (fun z env hh=>Fr [] h5 hh∧∃(j:Nat)(u v:V)(Ns:List Nt)(E':List Ent),env.get 10=some (.int .i64 j)∧env.get 9=some u∧env.get 8=some v∧env.get 2=some (.int .i64 (num:Int))∧env.get 3=some (.ptr h.next 0)∧env.get 7=some (.ptr h3.next 0)∧j≤C3+1∧
  Gs hh h5.next 5 u (Ns.flatMap Nt.cells)∧Ns.length=j∧(∀y∈Ns,Stb (Pu P u) hh fun h=>NtH h y)∧(∀y∈Ns,y.n.Y.length≤4∨(y.n.k=5∧y.n.Y.length≤E.length+12))∧EZs (Pu P u) hh v E'∧E'.length≤E.length+4*j∧z=C3+1-j) (C3+1) oM ?_ ?_
 ·exact⟨Fr.refl w5,0,.nils,m.vE,[],E,iS,iS,iS,iS,iS,iS,oM,.inl ⟨rfl,rfl⟩,rfl,iS,iS,Stb.step a.e wf F05 iS (fun z q=>.inl (q.elim id (by simp[vb]))),oM,rfl⟩
 ·rintro z env hh ⟨F,j,u,v,Ns,E',g10,g9,g8,g2,g3,g7,hj,G,nN,sN,yN,ez,le,rfl⟩;have F0:=F05.then F;have w:=F.wf;have rr:=Fr.refl (S:=[]) w;have ezh:=ez.at w;have u1:=G.one;have hPh:∀z,Pu P u z→z<hh.next:=fun z q=>q.elim (fun q=>Nat.lt_of_lt_of_le (hP z q) F0.next) (fun q=>G.lt w z q);by_cases cj:j≤C3
  ·have D:∀p:Prop,p=True∨p=False:=fun p=>by
    by_cases c:p
    ·exact .inl (eq_true c)
    ·exact .inr (eq_false c)
   rcases D ((E'.length:Int)<3)with d1|d1<;>rcases D ((j:Int)=0)with d3|d3;all_goals
    simp(disch:=omega) only[evs,seval,fwrap_i64,g10,g8,g2,g3,x1,x3,x4,x5,r1 F,r3 F,r4 F,r5 F,q3,q12,q2,E8,ezh.r.len,d1,d3,eq_true (oM:(j:Int)≤(C3:Int))];rw[(oM:(3*(num:Int)+(j:Int))=((3*num+j:Nat):Int))];have ub1:=Gr ((b4:Int)+(uw8 (3*(j:Int)):Int));have ub2:=Gr ((b1:Int)+(uw8 (j:Int):Int));first
     |refine ae (zt (P:=Pu P u) (E:=E') (b0:=0) w hPh ez.kq oM ⟨oM,ub1,oM,oM,ub2⟩ oM) ?_
     |refine ae (zt (P:=Pu P u) (E:=E') (b0:=C12) w hPh ez.kq oM ⟨oM,ub1,oM,oM,ub2⟩ oM) ?_
    rintro _ h6 ⟨F6,y,rfl,gy,hy⟩;have sy:=NtG.stb gy F6.wf hPh oM;have ny:=(sy.at F6.wf);have ony:=ny.on;obtain⟨h7,e_h7,F_h7,o_h7⟩:=av F6.wf [.int .u8 0,.int .i64 0,.int .i64 0,.int .i64 0,.nils];have n7:=hnx e_h7
    simp only[evs,seval,←e_h7];refine ac (c':=y.cells) F_h7.wf o_h7 rfl ony rfl ?_;rintro h8 o8 F8 n8;have F68:=F_h7.fresh F8 F6.wf (Nat.le_refl _);have Fh8:=F6.then F68;have l8:=o8.la 5
    obtain⟨h9,e_h9,F_h9,o_h9⟩:=av F8.wf y.cells;have n9:=hnx e_h9
    have eup:bF [V.int IntKind.u8 0,V.int IntKind.i64 0,V.int IntKind.i64 0,V.int IntKind.i64 0,V.nils] 0 y.cells=some y.cells:=rfl;have nn:=F.next;have nm:=Fh8.next;simp only[evs,seval,g9,l8,fJ y,eup,←e_h9];refine Gs.append1 (bytes:=56) (n:=1) F_h9.wf (G.fr (Fh8.then F_h9)) (Sl.lit o_h9 rfl) oM oM ony (by have:=F_h9.next;omega) (by rw[au fJ];omega) ?_;intro u' h10 G10 e10 F10;have vw:=G.vb;have vl:=G.lt w;have Fha:=Fr.new w5 (F.then (Fh8.then F_h9)) F10 (fun z q=>vw z q);have g0:∀z∈vb u,P z∨h5.next≤z:=fun z q=>.inr (vw z q);have Fhj:=Fr.trans (Fh8.then F_h9) F10 w iS (fun z q=>.inl q);have l10:aH h10 h6.next 0 5=some y.cells:=by
     have n6:=F6.next;rw[(F10.own _ _ (fun q=>by have:=vl _ q;omega) (F_h9.get o8)).ld];rfl
    have F010:=F05.then Fha;have n6:=F6.next;have pq:∀z,Pu P u' z→Pu P u z∨hh.next≤z:=fun z q=>q.elim (fun q=>.inl (.inl q)) (fun q=>.inr (by rw[e10]at q;simp at q;omega));have pq6:∀z,Pu P u' z→Pu P u z∨h6.next≤z:=fun z q=>q.elim (fun q=>.inl (.inl q)) (fun q=>.inr (by rw[e10]at q;simp at q;omega));have ez10:EZs (Pu P u') h10 v E':=Stb.step ez w Fhj (fun z q=>.inl (.inr q)) pq;have s10:=fun y my=>(sN y my).step w Fhj (fun z q=>.inl (.inr q)) pq;have sy10:=sy.step F6.wf (Fr.trans (F68.then F_h9) F10 F6.wf iS (fun z q=>.inl q):Fr (vb u) h6 h10) (fun z q=>.inl (.inr q)) pq6;have n10:=F10.next;have P10:∀z,Pu P u' z→z<h10.next:=fun z q=>q.elim (fun q=>Nat.lt_of_lt_of_le (hP z q) F010.next) (fun q=>G10.lt F10.wf z q);have sAll:∀x∈Ns++[y],Stb (Pu P u') h10 fun h=>NtH h x:=fun x mx=>by
     rcases List.mem_append.1 mx with mx|mx
     ·exact s10 x mx
     ·simp at mx;subst mx;exact sy10
    have yAll:∀x∈Ns++[y],x.n.Y.length≤4∨(x.n.k=5∧x.n.Y.length≤E.length+12):=fun x mx=>by
     rcases List.mem_append.1 mx with mx|mx
     ·exact yN x mx
     ·simp at mx;subst mx;omega
    simp only[evs,seval,g7,g8,l2 Fha,l10];refine ae (Ds F10.wf P10 (kz.fr F010) ez10 sy10) ?_;rintro _ h11 ⟨F11,v2,t2,E2,rfl,ez2,n2⟩;have GG:Gs h11 h5.next 5 u' ((Ns++[y]).flatMap Nt.cells):=by
     rw[List.flatMap_append,List.flatMap_singleton];exact G10.fr F11
    by_cases ct:t2=0
    ·simp(disch:=omega) only[evs,seval,fwrap_i64,g10,eq_true ct];refine rqn ⟨C3+1-(j+1),oM,Fha.then F11,j+1,u',v2,Ns++[y],E2,iS,iS,iS,iX,iX,iX,oM,GG,by simp[nN],fun x mx=>(sAll x mx).on F10.wf F11,yAll,ez2,oM,rfl⟩
    ·simp(disch:=omega) only[evs,seval,fwrap_i64,g10,eq_false ct];refine rqn ⟨C3+1-(j+1),oM,Fha.then F11,j+1,u',v,Ns++[y],E',iS,iS,iX,iX,iX,iX,oM,GG,by simp[nN],fun x mx=>(sAll x mx).on F10.wf F11,yAll,ez10.on F10.wf F11,oM,rfl⟩
  ·simp(disch:=omega) only[evs,seval,fwrap_i64,g10,g9,g3,x1,r1 F,q3,eq_false (oM:¬(j:Int)≤(C3:Int))];exact⟨F0,Ns,G.le (by have:=F05.next;omega),oM,sN,yN⟩
end
end Go.Ev.Lay
