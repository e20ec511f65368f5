/- An evaluator of the program, and contracts over it: StdU to EcA. -/
import Derived.Test.YteojfkejdhhhpaaGreatDoorP09
set_option linter.unusedSimpArgs false
set_option linter.unusedVariables false
set_option linter.constructorNameAsVariable false
set_option linter.unnecessarySimpa false
set_option maxRecDepth 4000
namespace Go.Ev.Lay
variable{h h':Heap}{x:Itm}{v vR vP:V}{E:List Ent}{e n B cb:Nat}{P:Nat->Prop}{cs:List V}{least:Int}{L:List Knd}
open Go.Ev.St
theorem dC(a:Int)(h1:-100000<=a)(h2:a<=100000):i64 a:=⟨oM,oM⟩
theorem IS.mono{Q Q':Nat->Prop}(a:IS Q h x)(w:WF h)(hq:∀z,Q' z->Q z):IS Q' h x:=a.step w (Qw w) (S0:=[]) iS fun z m=>.inl (hq z m)
theorem IS.on{Q:Nat->Prop}(a:IS Q h x)(w:WF h)(f:Fr [] h h'):IS Q h' x:=a.step w f iS fun z m=>.inl m
abbrev c5(b0 b1 b2 b3 b4:Nat):List V:=[ZY (b0:Int),ZY (b1:Int),ZY (b2:Int),ZY (b3:Int),ZY (b4:Int)]
section
variable {P : Nat -> Prop} {hX h0 hh : Heap} {env : T V} {v u : V} {E : List Ent} {O : List Itm} {p3 p6 a c num b0 b1 b2 b3 b4 : Nat} {Q : Ex -> T V -> Heap -> Prop}
theorem J8(wX:WF hX)(w0:WF h0)(FX:Fr [] hX h0)(F:Fr [] h0 hh)(hP:∀z,P z->z<hX.next)(kp:KQ P hX v E)(hE:E.length<=1000)(h6:hX.next<=p6/\p6<h0.next)(o3:Own hh p3 (c5 b0 b1 b2 b3 b4))(hb:b3<256/\b4<256)(o6:Own hh p6 Z5)(ha:a<=E.length)(hc:a+c<=E.length)
 (g1:env.get 1=some v) (g3:env.get 3=some (.ptr p3 0)) (g6:env.get 6=some (.ptr p6 0)) (g7:env.get 7=some (ZZ (a:Int))) (g8:env.get 8=some (ZZ (c:Int)))
 (K:∀env' h' x,env'.get 6=some (.ptr p6 0)->Own h' p6 x.cells->NtG P h0.next h' x->Fr [] hX h'->x.n.Y.length<=3->Q .ret env' h'):W go M5 env hh Q:=by
 have nX:=FX.next;have nF:=F.next;have x3:aP (.ixa 5 1) [.ptr p3 0,ZZ 3]=some (.ptr p3 3):=rfl;have x4:aP (.ixa 5 1) [.ptr p3 0,ZZ 4]=some (.ptr p3 4):=rfl;obtain⟨h1,D,ab,aF⟩:=av F.wf Z5;have n1:=hnx D
 simp only[evs,seval,M5,g7,<-D];refine stu ab.wf aF ?_;rintro h2 o2 F2 n2;have ax:=ab.fresh F2 F.wf (pi _);have bo:=FX.then (F.then ax);simp only[evs];refine aw (fun n env U=>(∃(j:Nat)(u:V)(O:List Itm),Fr [] hh U/\env.get 14=some (ZZ j)/\env.get 1=some v/\env.get 3=some (.ptr p3 0)/\env.get 6=some (.ptr p6 0)/\env.get 7=some (ZZ (a:Int))/\env.get 8=some (ZZ (c:Int))/\env.get 13=some (.ptr hh.next 0)/\j<=c/\j<=3/\
  Own U hh.next [ZY 4,ZZ (a:Int),ZZ 0,ZZ 0,u]/\h2.next<=U.next/\
  Gs U h2.next 4 u (O.flatMap Itm.cells)/\(∀y∈O,IS (Pu (P6 (P6 P p6) hh.next) u) U y)/\O.length=j/\n=3-j)) 3 oM ?_ ?_
 ·exact⟨0,.nils,[],ax,iS,iX,iX,iX,iX,iX,iS,oM,oM,o2,pi _,.inl ⟨rfl,rfl⟩,iS,rfl,rfl⟩
 rintro n env hm ⟨j,u,O,Fm,R,g1,g3,g6,g7,g8,ah,hj,h3,om,nm,G,iO,lO,rfl⟩;have Fx:=FX.then (F.then Fm);have w:=Fm.wf;by_cases cj:j<c/\j<3
 ·obtain⟨bi,oi,e,p1,p2,bn,p4⟩:=(QI (kp.rs wX) Fx).ix aJ .i64 ((a+j:Nat):Int) oM oM;rw[so]at p4;have aj:((a+j:Nat):Int)=(a:Int)+j:=oM
  rw[aj]at p1;have em:=Of p4;have ke:=((kp.itm wX e em).fr Fx).k;have r3:=(Fm.get o3).l1 3;have r4:=(Fm.get o3).l1 4;obtain⟨m,bf,bg⟩:=GM b3 j;have fj:aB .u8 (j:Int)=(j:Int):=fwrap_u8 _ oM oM;simp only[evs,seval,R,g3,g8,eq_true (oM:(j:Int)<min (c:Int) 3),x3,x4,r3,r4,fj,bg];refine ae (xH (b0:=0) w oM bf hb.2 hb.2) ?_;rintro _ hq ⟨Fq,x,rfl,gx⟩;obtain⟨hr,ad,I,aA⟩:=av Fq.wf Z4';have nq:=Fq.next;have nr:=hnx ad
  simp only[evs,seval,<-ad];refine ac I.wf aA rfl gx.H.one rfl ?_;rintro hs os Fs ns;have aR:=I.fresh Fs Fq.wf (pi _);have a5:=Fq.then aR;have a7:=Fx.then a5;obtain⟨bt,br,e',aE,a8,bm,a1⟩:=(QI (kp.rs wX) a7).ix aJ .i64 ((a+j:Nat):Int) oM oM;rw[so,p4]at a1;cases a1;rw[aj,p1]at aE;cases aE;have lk:ai hs bi oi=some (ZX (e.x.key:Int)):=a8 0 oM;simp(disch:=omega) only[evs,seval,fwrap_i64,R,g1,g7,p1,lk];have yk:az ({x with key:=e.x.key}:Itm).cells=true:=gx.H.one;refine ac (v:=ZX (e.x.key:Int)) Fs.wf os rfl rfl rfl ?_;rintro ht ot Ft nt;have ao:=aR.fresh Ft Fq.wf (pi _);have Z:=Fq.then ao;have bc:=Z.get om;have a3:=bc.l1 4;have bh:=ot.la 4
  have u1:bF [ZX 0,ZY 0,.str [],.nils] 0 ({x with key:=e.x.key}:Itm).cells=some ({x with key:=e.x.key}:Itm).cells:=rfl;have ul:=G.lt w;have pq:∀z,Pu (P6 (P6 P p6) hh.next) u z->z<hm.next:=fun z q=>by
   rcases q with((q|q)|q)|q
   ·grind
   ·omega
   ·omega
   ·exact ul z q
  have iq:=gx.is Fq.wf pq;have a4:IS (Pu (P6 (P6 P p6) hh.next) u) hq {x with key:=e.x.key}:=fun S h' hS f=>⟨ke,(iq S h' hS f).t,(iq S h' hS f).m,(iq S h' hS f).n,(iq S h' hS f).l⟩;simp only[evs,seval,ah,a3,bh,u1,(iR:({x with key:=e.x.key}:Itm).cells.length=4)];refine iQ Ft.wf (by have:=Z.next;omega) (G.fr Z) (fun y m=>(iO y m).on w Z) (a4.on Fq.wf ao) oM ?_;rintro u' hu G6 i6 f6;have ak:=Qx Z f6 w iS (fun x m=>.inl m);have a2:hh.next∉vb u:=fun m=>by have:=G.vb _ m;omega
  have a9:=ak.own _ _ a2 om;have J:=G6.one;simp only[evs,seval,ah];refine ac (o:=4) (v:=u') (c':=[ZY 4,ZZ (a:Int),ZZ 0,ZZ 0,u']) f6.wf a9 (by rw[aq J];rfl) (by rw[aq J];simp only[af,ag,J];rfl) (by rw[aq J];rfl) ?_;rintro hv ov Fv nv;have a6:=Ru F.wf (Ru F.wf Fm ak (fun x m=>by have:=G.vb x m;omega)) Fv iS;simp(disch:=omega) only[evs,seval,fwrap_i64,R];refine rqn ⟨3-(j+1),oM,j+1,u',O++[{x with key:=e.x.key}],a6,iS,iX,iX,iX,iX,iX,iX,oM,oM,ov,by have:=Z.next;have:=f6.next;omega,G6.keep Fv oO,fun y m=>(i6 y m).step f6.wf Fv (fun z q=>.inl (.inl (.inr (RF.1 q)))) (fun z q=>.inl q),by simp;omega,rfl⟩
 ·have a0:=om.la 5
  simp only[evs,seval,R,g6,g8,ah,eq_false (oM:¬(j:Int)<min (c:Int) 3),a0];refine io (P:=P) (B:=h0.next) (x:=⟨⟨4,(a:Int),0,0,O⟩,u⟩) w (Fm.get o6) ⟨iS,dC (a:Int) oM oM,dC 0 oM oM,dC 0 oM oM,G.le oM,fun y m=>(iO y m).mono w fun z q=>?_⟩ oM ?_
  ·rcases q with q|q
   ·exact .inl (.inl q)
   ·exact .inr q
  rintro h' o' g' F';simp only[evs];exact K _ _ _ iX o' g' (Fx.fresh F' wX oM) (by show O.length<=3;omega)
end
open Go.Ev.St
section
variable {P : Nat -> Prop} {hX h0 hh : Heap} {env : T V} {v u : V} {E : List Ent} {O : List Itm} {p3 p6 a c num B0 b0 b1 b2 b3 b4 : Nat} {Q : Ex -> T V -> Heap -> Prop}
theorem J6(wX:WF hX)(w0:WF h0)(FX:Fr [] hX h0)(F:Fr [] h0 hh)(hP:∀z,P z→z<hX.next)(kp:KQ P hX v E)(hE:E.length≤1000)(h6:hX.next≤p6∧p6<h0.next)(o3:Own hh p3 (c5 b0 b1 b2 b3 b4))(hb:b0<256∧b1<256∧b2<256∧b3<256∧b4<256)(o6:Own hh p6 Z5)(ha:a≤E.length)(hc:a+c≤E.length)
 (G:Gs hh h0.next 4 u (O.flatMap Itm.cells)) (iO:∀y∈O,IS (Pu (P6 P p6) u) hh y) (hO:O.length≤3)
 (g1:env.get 1=some v) (g3:env.get 3=some (.ptr p3 0)) (g6:env.get 6=some (.ptr p6 0)) (g7:env.get 7=some (.int .i64 (a:Int))) (g8:env.get 8=some (.int .i64 (c:Int))) (g9:env.get 9=some u)
 (K:∀env' h' x,env'.get 6=some (.ptr p6 0)→Own h' p6 x.cells→NtG P h0.next h' x→Fr [] hX h'→(x.n.Y.length≤4∨x.n.k=5∧x.n.Y.length≤4+E.length)→Q .ret env' h'):W go qH env hh Q:=by
 obtain⟨hb0,hb1,hb2,hb3,hb4⟩:=hb;have nX:=FX.next;have nF:=F.next;have w:=F.wf;have Fx:=FX.then F;have x0:aP (.ixa 5 1) [.ptr p3 0,.int .i64 0]=some (.ptr p3 0):=rfl;have x1:aP (.ixa 5 1) [.ptr p3 0,.int .i64 1]=some (.ptr p3 1):=rfl;have x2:aP (.ixa 5 1) [.ptr p3 0,.int .i64 2]=some (.ptr p3 2):=rfl;have x3:aP (.ixa 5 1) [.ptr p3 0,.int .i64 3]=some (.ptr p3 3):=rfl;have x4:aP (.ixa 5 1) [.ptr p3 0,.int .i64 4]=some (.ptr p3 4):=rfl;have r0:=o3.l1 0;have r1:=o3.l1 1;have r2:=o3.l1 2;have r3:=o3.l1 3;have r4:=o3.l1 4;have rk:=aV .u8 b0 16 oM (y:=16) rfl;have u1:=G.one;have ul:=G.lt w;have pq:∀z,Pu (P6 P p6) u z→z<hh.next:=fun z q=>by
  rcases q with(q|q)|q
  ·grind
  ·omega
  ·exact ul z q
 generalize hk:b0%16=k at rk;by_cases k1:k<4
 ·simp[evs,qH,g3,x0,r0,rk,g7,g9,eq_true (oM:(k:Int)<4),aq u1,g6];refine io (B:=h0.next) (x:=⟨⟨1,(a:Int),0,0,O⟩,u⟩) w o6 ⟨by show 1<256;omega,dC ((a:Int)) oM oM,dC (0) oM oM,dC (0) oM oM,G,iO⟩ oM ?_;rintro h' o' g' F';simp only[evs];exact K _ _ _ iX o' g' (Fx.fresh F' wX oM) (.inl (by show O.length≤_;omega))
 have k1':¬(k:Int)<4:=oM
 by_cases k2:k<6
 ·simp[evs,qH,g3,x0,r0,rk,g7,g8,eq_false k1',eq_true (oM:(k:Int)<6),g6];refine io (P:=P) (B:=h0.next) (x:=⟨⟨2,(a:Int),min (c:Int) 3,0,[]⟩,.nils⟩) w o6 ⟨by show 2<256;omega,dC ((a:Int)) oM oM,dC (min (c:Int) 3) oM oM,dC (0) oM oM,.inl ⟨rfl,rfl⟩,iS⟩ oM ?_;rintro h' o' g' F';simp only[evs];exact K _ _ _ iX o' g' (Fx.fresh F' wX oM) (.inl (by show 0≤_;omega))
 have k2':¬(k:Int)<6:=oM
 by_cases k3:k<8
 ·have rm:=aV .i64 b3 (E.length-c+1) oM (y:=(E.length:Int)-c+1) oM;have rl:b3%(E.length-c+1)≤b3:=Nat.mod_le _ _;generalize b3%(E.length-c+1)=d at rm rl;simp(disch:=omega)[evs,fwrap_i64,qH,g1,g3,x0,r0,x3,r3,(Recs.fr (kp.rs wX) Fx).len,rk,g7,g8,eq_false k1',eq_false k2',eq_true (oM:(k:Int)<8),rm,g6];refine io (P:=P) (B:=h0.next) (x:=⟨⟨3,(a:Int),(c:Int),(d:Int),[]⟩,.nils⟩) w o6 ⟨by show 3<256;omega,dC ((a:Int)) oM oM,dC ((c:Int)) oM oM,dC ((d:Int)) oM oM,.inl ⟨rfl,rfl⟩,iS⟩ oM ?_;rintro h' o' g' F';simp only[evs];exact K _ _ _ iX o' g' (Fx.fresh F' wX oM) (.inl (by show 0≤_;omega))
 have k3':¬(k:Int)<8:=oM
 by_cases k4:k<10
 ·simp[evs,qH,g3,x0,r0,rk,eq_false k1',eq_false k2',eq_false k3',eq_true (oM:(k:Int)<10)];refine J8 (b0:=b0) (b1:=b1) (b2:=b2) (b3:=b3) (b4:=b4) (p3:=p3) (p6:=p6) (c:=c) wX w0 FX F hP kp hE h6 o3 ⟨hb3,hb4⟩ o6 ha hc iX iX iX iX iX fun env' h' x z1 z2 z3 z4 z5=>?_;simp only[evs];exact K _ _ _ z1 z2 z3 z4 (.inl oM)
 have k4':¬(k:Int)<10:=oM
 by_cases k5:k<11
 ·simp[evs,qH,g3,x0,r0,rk,eq_false k1',eq_false k2',eq_false k3',eq_false k4',eq_true (oM:(k:Int)<11)];refine J7 (p6:=p6) (c:=c) wX w0 FX F kp hE h6 o6 ha hc G iO hO iX iX iX iX iX fun env' h' x z1 z2 z3 z4 z5=>?_;simp only[evs];exact K _ _ _ z1 z2 z3 z4 (.inr ⟨z5.1,oM⟩)
 have k5':¬(k:Int)<11:=oM
 have z1:∀x:Itm,bF [.int .u64 0,.int .u8 0,.str [],.nils] 0 x.cells=some x.cells:=fun x=>rfl;have ne:∀z∈vb u,z≠p6:=fun z m=>by have:=G.vb z m;omega
 by_cases k6:k<12
 ·simp[evs,qH,g3,x0,r0,x1,r1,x2,r2,x3,r3,x4,r4,rk,eq_false k1',eq_false k2',eq_false k3',eq_false k4',eq_false k5',eq_true (oM:(k:Int)<12)];refine ae (xH w hb1 hb2 hb3 hb4) ?_;rintro _ hq ⟨Fq,x,rfl,gx⟩;simp[evs,g9,z1,(iR:x.cells.length=4)];refine iQ (B:=h0.next) Fq.wf (by have:=Fq.next;omega) (G.fr Fq) (fun y m=>(iO y m).on w Fq) (gx.is Fq.wf pq) oM ?_;rintro u' hu G6 i6 f6;have v1:=G6.one;have Fhu:=Fr.trans Fq f6 w iS (fun x m=>.inl m);have F0u:=Fr.new w0 F Fhu G.vb;simp[evs,g7,g6,aq v1];refine io (P:=P) (B:=h0.next) (x:=⟨⟨1,(a:Int),0,0,(O++[x])⟩,u'⟩) f6.wf (Fhu.own _ _ (fun m=>ne _ m rfl) o6) ⟨by show 1<256;omega,dC ((a:Int)) oM oM,dC (0) oM oM,dC (0) oM oM,G6,i6⟩ oM ?_;rintro h' o' g' F';simp only[evs];exact K _ _ _ iX o' g' ((FX.then F0u).fresh F' wX oM) (.inl (by show(O++[x]).length≤_;simp;omega))
 have k6':¬(k:Int)<12:=oM
 by_cases k7:k=12
 ·have ra:=aV .u8 b1 8 oM (y:=8) rfl;have rb:=aV .u8 b2 8 oM (y:=8) rfl;have rc:=aV .u8 b3 4 oM (y:=4) rfl;have rd:=aV .u8 b4 3 oM (y:=3) rfl;simp(disch:=omega)[evs,fwrap_i64,qH,g3,x0,r0,x1,r1,x2,r2,x3,r3,x4,r4,rk,ra,rb,rc,rd,eq_false k1',eq_false k2',eq_false k3',eq_false k4',eq_false k5',eq_false k6',eq_true (oM:(k:Int)=12),g6];refine io (P:=P) (B:=h0.next) (x:=⟨⟨b1%8,((b2%8:Nat):Int)-2,((b3%4:Nat):Int)-1,((b4%3:Nat):Int),[]⟩,.nils⟩) w o6 ⟨by show b1%8<256;omega,dC (((b2%8:Nat):Int)-2) oM oM,dC (((b3%4:Nat):Int)-1) oM oM,dC (((b4%3:Nat):Int)) oM oM,.inl ⟨rfl,rfl⟩,iS⟩ oM ?_;rintro h' o' g' F';simp only[evs];exact K _ _ _ iX o' g' (Fx.fresh F' wX oM) (.inl (by show 0≤_;omega))
 have k7':¬(k:Int)=12:=oM
 by_cases k8:k=13
 ·simp(disch:=omega)[evs,fwrap_i64,qH,g3,x0,r0,rk,g7,g8,eq_false k1',eq_false k2',eq_false k3',eq_false k4',eq_false k5',eq_false k6',eq_false k7',eq_true (oM:(k:Int)=13),g6];refine io (P:=P) (B:=h0.next) (x:=⟨⟨2,(a:Int),(c:Int)+1,0,[]⟩,.nils⟩) w o6 ⟨by show 2<256;omega,dC ((a:Int)) oM oM,dC ((c:Int)+1) oM oM,dC (0) oM oM,.inl ⟨rfl,rfl⟩,iS⟩ oM ?_;rintro h' o' g' F';simp only[evs];exact K _ _ _ iX o' g' (Fx.fresh F' wX oM) (.inl (by show 0≤_;omega))
 have k8':¬(k:Int)=13:=oM
 have iL:∀k t:Nat,k<256→t<256→IS (Pu (P6 P p6) u) hh ⟨k,t,[],[],.nils⟩:=fun k t hk ht S h' _ _=>⟨by show k<_;omega,ht,(Recs.a Recs.nil:ARecs sS 1 h' .nils []),iS,iS⟩;by_cases k9:k=14
 ·simp[evs,qH,g3,x0,r0,rk,g9,eq_false k1',eq_false k2',eq_false k3',eq_false k4',eq_false k5',eq_false k6',eq_false k7',eq_false k8',eq_true (oM:(k:Int)=14)];refine iQ w nF G iO (iL 1 0 oM oM) oM ?_;rintro u' hu G6 i6 Fhu;have v1:=G6.one;have F0u:=Fr.new w0 F Fhu G.vb;simp[evs,g7,g6,aq v1];refine io (x:=⟨⟨4,(a:Int),0,0,(O++[⟨1,0,[],[],.nils⟩])⟩,u'⟩) Fhu.wf (Fhu.own _ _ (fun m=>ne _ m rfl) o6) ⟨by show 4<256;omega,dC ((a:Int)) oM oM,dC (0) oM oM,dC (0) oM oM,G6,i6⟩ oM ?_;rintro h' o' g' F';simp only[evs];exact K _ _ _ iX o' g' ((FX.then F0u).fresh F' wX oM) (.inl (by show(O++[_]).length≤_;simp;omega))
 ·simp[evs,qH,g3,x0,r0,x4,r4,rk,g9,eq_false k1',eq_false k2',eq_false k3',eq_false k4',eq_false k5',eq_false k6',eq_false k7',eq_false k8',eq_false (oM:¬(k:Int)=14)];refine iQ w nF G iO (iL 0 b4 oM hb4) oM ?_;rintro u' hu G6 i6 Fhu;have v1:=G6.one;have F0u:=Fr.new w0 F Fhu G.vb;simp[evs,g7,g6,aq v1];refine io (x:=⟨⟨1,(a:Int),0,0,(O++[⟨0,b4,[],[],.nils⟩])⟩,u'⟩) Fhu.wf (Fhu.own _ _ (fun m=>ne _ m rfl) o6) ⟨by show 1<256;omega,dC ((a:Int)) oM oM,dC (0) oM oM,dC (0) oM oM,G6,i6⟩ oM ?_;rintro h' o' g' F';simp only[evs];exact K _ _ _ iX o' g' ((FX.then F0u).fresh F' wX oM) (.inl (by show(O++[_]).length≤_;simp;omega))
theorem zt(wX:WF hX)(hP:∀z,P z→z<hX.next)(kp:KQ P hX v E)(hE:E.length≤1000)(hb:b0<256∧b1<256∧b2<256∧b3<256∧b4<256)(hn:num≤1000):
 ay go 153 [.agg (c5 b0 b1 b2 b3 b4),v,.int .i64 (num:Int)] hX fun u h'=>Fr [] hX h'∧∃x:Nt,u=.agg x.cells∧NtG P hX.next h' x∧(x.n.Y.length≤4∨x.n.k=5∧x.n.Y.length≤4+E.length):=by
 obtain⟨h1,e_h1,F_h1,o_h1⟩:=av wX (c5 b0 b1 b2 b3 b4);obtain⟨h2,e_h2,F_h2,o_h2⟩:=av F_h1.wf Z5;have n1:=hnx e_h1
 have n2:=hnx e_h2
 have FX:=F_h1.then F_h2;have o3:=F_h2.get o_h1;have x1:aP (.ixa 5 1) [.ptr hX.next 0,.int .i64 1]=some (.ptr hX.next 1):=rfl;have x2:aP (.ixa 5 1) [.ptr hX.next 0,.int .i64 2]=some (.ptr hX.next 2):=rfl;have x3:aP (.ixa 5 1) [.ptr hX.next 0,.int .i64 3]=some (.ptr hX.next 3):=rfl;have x4:aP (.ixa 5 1) [.ptr hX.next 0,.int .i64 4]=some (.ptr hX.next 4):=rfl;have ld{hh}(f:Fr [] h2 hh):ai hh hX.next 1=some (.int .u8 (b1:Int))∧ai hh hX.next 2=some (.int .u8 (b2:Int))∧ai hh hX.next 3=some (.int .u8 (b3:Int))∧ai hh hX.next 4=some (.int .u8 (b4:Int)):=⟨(f.get o3).ld1 1,(f.get o3).ld1 2,(f.get o3).ld1 3,(f.get o3).ld1 4⟩;obtain⟨r1,r2,_⟩:=ld (Fr.refl F_h2.wf);have len:=(Recs.fr (kp.rs wX) FX).len;obtain⟨hb0,hb1,hb2,hb3,hb4⟩:=hb;have rm:=aV .i64 b1 (E.length+1) oM (y:=(E.length:Int)+1) oM;have ha:b1%(E.length+1)<E.length+1:=Nat.mod_lt _ oM;generalize b1%(E.length+1)=a at rm ha;have rm2:=aV .i64 b2 (E.length-a+1) oM (y:=(E.length:Int)-a+1) oM;have hc:b2%(E.length-a+1)<E.length-a+1:=Nat.mod_lt _ oM;generalize b2%(E.length-a+1)=c at rm2 hc;have r4:=aV .u8 b2 4 oM (y:=4) rfl;have h4:b2%4<4:=Nat.mod_lt _ oM;generalize b2%4=nf at r4 h4;have qu:=pp b4 2 hb4 oM (y:=2) rfl;have qb:b4/2≤b4:=Nat.div_le_self _ _;generalize b4/2=bh at qu qb;have w0:=F_h2.wf;refine aa ?_ g84x rfl;simp(disch:=omega) only[evs,seval,fwrap_i64,←e_h1,←e_h2,x1,x2,r1,r2,len,rm,rm2];refine aw (fun n env hh=>Fr [] h2 hh∧∃(j:Nat)(u:V)(O:List Itm),env.get 10=some (.int .i64 j)∧env.get 9=some u∧env.get 1=some v∧env.get 2=some (.int .i64 (num:Int))∧env.get 3=some (.ptr hX.next 0)∧env.get 6=some (.ptr h1.next 0)∧env.get 7=some (.int .i64 (a:Int))∧env.get 8=some (.int .i64 (c:Int))∧j≤nf∧
  Gs hh h2.next 4 u (O.flatMap Itm.cells)∧(∀y∈O,IS (Pu (P6 P h1.next) u) hh y)∧O.length=j∧n=nf-j) nf oM ?_ ?_
 ·exact⟨Fr.refl w0,0,.nils,[],iS,iS,iS,iS,iS,iS,iS,iS,oM,.inl ⟨rfl,rfl⟩,iS,rfl,rfl⟩
 rintro n env hm ⟨F,j,u,O,g10,g9,g1,g2,g3,g6,g7,g8,hj,G,iO,lO,rfl⟩;obtain⟨r1,r2,r3,r4'⟩:=ld F;have w:=F.wf;have Fx:=FX.then F;by_cases cj:j<nf
 ·obtain⟨m,hm1,em1⟩:=GM b4 j;have fj:aB .u8 (j:Int)=(j:Int):=fwrap_u8 _ oM oM;simp(disch:=omega) only[evs,seval,fwrap_i64,g10,g3,x2,x3,x4,r2,r3,r4',r4,eq_true (oM:(j:Int)<nf),fj,em1,qu];refine ae (xH (b0:=0) w oM hm1 hb3 (oM:bh<256)) ?_;rintro _ hq ⟨Fq,x,rfl,gx⟩;obtain⟨hr,e_hr,F_hr,o_hr⟩:=av Fq.wf Z4';have nq:=Fq.next;have nr:=hnx e_hr
  simp only[evs,seval,←e_hr];refine ac F_hr.wf o_hr rfl gx.H.one rfl ?_;rintro hs os Fs ns;have f1:aB .u64 (10*(num:Int)+(j:Int))=((10*num+j:Nat):Int):=by rw[fwrap_u64 _ oM oM];omega
  have f2:aB .u64 (100+((10*num+j:Nat):Int))=((100+(10*num+j):Nat):Int):=by rw[fwrap_u64 _ oM oM];omega
  simp(disch:=omega) only[evs,seval,fwrap_i64,g10,g2,f1,f2];refine ac (v:=.int .u64 ((100+(10*num+j):Nat):Int)) (c':=({x with key:=100+(10*num+j)}:Itm).cells) Fs.wf os rfl rfl rfl ?_;generalize hy:({x with key:=100+(10*num+j)}:Itm)=y;rintro ht ot Ft nt;have yk:az y.cells=true:=by rw[←hy];exact gx.H.one
  have Fqt:=(F_hr.fresh Fs Fq.wf (Nat.le_refl _)).fresh Ft Fq.wf (Nat.le_refl _);have Fmt:=Fq.then Fqt;have lty:=ot.la 4
  have u1:bF [.int .u64 0,.int .u8 0,.str [],.nils] 0 y.cells=some y.cells:=rfl;have ul:=G.lt w;have pq:∀z,Pu (P6 P h1.next) u z→z<hm.next:=fun z q=>by
   have:=Fx.next;have:=F.next;rcases q with(q|q)|q
   ·grind
   ·omega
   ·exact ul z q
  have iq:=gx.is Fq.wf pq;have iq':IS (Pu (P6 P h1.next) u) hq y:=by
   rw[←hy];exact fun S h' hS f=>⟨(oM:100+(10*num+j)<_),(iq S h' hS f).t,(iq S h' hS f).m,(iq S h' hS f).n,(iq S h' hS f).l⟩
  simp only[evs,seval,g9,lty,u1,(iR:y.cells.length=4)];refine iQ (B:=h2.next) Ft.wf (by have:=Fmt.next;have:=F.next;omega) (G.fr Fmt) (fun z m=>(iO z m).on w Fmt) (iq'.on Fq.wf Fqt) oM ?_;rintro u' hu G6 i6 f6;have Fmu:=Fr.trans Fmt f6 w iS (fun x m=>.inl m);have FN:=Fr.new w0 F Fmu G.vb;simp(disch:=omega) only[evs,seval,fwrap_i64,g10];refine rqn ⟨nf-(j+1),oM,FN,j+1,u',O++[y],iS,iS,iX,iX,iX,iX,iX,iX,oM,G6,i6,by simp;omega,rfl⟩
 ·simp(disch:=omega) only[evs,seval,fwrap_i64,g10,g3,x2,r2,r4,eq_false (oM:¬(j:Int)<nf)];refine J6 (p3:=hX.next) (p6:=h1.next) (a:=a) (c:=c) wX w0 FX F hP kp hE oM (F.get o3) ⟨hb0,hb1,hb2,hb3,hb4⟩ (F.get o_h2) oM oM G iO oM iX iX iX iX iX iX fun env' h' x z1 z2 z3 z4 z5=>?_;have l6:=z2.la 5
  simp only[evs,z1,l6];exact⟨z4,x,rfl,⟨z3.k,z3.a,z3.c,z3.t,z3.g.le oM,z3.i⟩,z5⟩
end
open Go.Ev.St
def FZ(u:V):Prop:=∃t:Int,u=ZZ t
structure EL(h:Heap)(v:V)(E:List Ent):Prop where
 r:Recs Ent.cells 6 h v E
 n:E.length<=1024
theorem EL.fr(a:EL h v E)(f:Fr [] h h'):EL h' v E:=⟨QI a.r f,a.n⟩
section
variable {h : Heap} {v : V} {E : List Ent} {i s w o : Int}
theorem eI(a:EL h v E)(hi:i<=E.length):ay go 97 [v,ZZ i] h fun u h'=>h=h'/\FZ u:=by
 have hn:=a.n;refine aa ?_;simp only[evs,seval];refine aw (fun n env U=>h=U/\∃(k:Nat)(s:Int),env.get 6=some (ZZ k)/\env.get 5=some (ZZ s)/\env.get 0=some v/\env.get 1=some (ZZ i)/\k<=E.length/\n=E.length-k) E.length oM ?_ ?_
 ·exact⟨rfl,0,0,iS,iS,iS,iS,oM,rfl⟩
 ·rintro n env U ⟨rfl,k,s,Z,R,g0,g1,D,rfl⟩;by_cases c:(k:Int)<i
  ·obtain⟨b,o,e,p1,I,_⟩:=a.r.ix aJ .i64 (k:Int) oM oM;have J:ai h b (o+4)=some (ZZ e.b):=I 4 oM;simp(disch:=omega) only[evs,seval,fwrap_i64,Z,R,g0,g1,c,p1,J];refine rqn ⟨E.length-(k+1),oM,rfl,k+1,aB .i64 (s+e.b),iS,iS,iX,iX,oM,rfl⟩
  ·simp only[evs,seval,Z,R,g1,c];exact⟨_,rfl⟩
theorem kM(a:EL h v E)(ok:okZ E):ay go 223 [v] h fun u h'=>h=h'/\(u=ZZ 0\/u=ZZ 13):=by
 have Z:=a.n;refine aa ?_;simp only[evs,seval];refine ae (wu a.r oM ok) ?_;rintro _ _ ⟨rfl,t,rfl,_⟩;by_cases c:4611686018427387904<t
 ·simp only[evs,seval,c];simp
 ·simp only[evs,seval,c];simp
theorem fG(a:EL h v E)(ok:okZ E):ay go 220 [v] h fun u h'=>h=h'/\(u=ZZ 0\/u=ZZ 13):=by
 have D:=a.n;refine aa ?_;simp only[evs,seval,a.r.len,eq_false (oM:¬1024<(E.length:Int))];refine aw (fun n env U=>h=U/\∃k:Nat,env.get 3=some (ZZ k)/\env.get 0=some v/\k<=E.length/\n=E.length-k) E.length oM ?_ ?_
 ·exact⟨rfl,0,iS,iS,oM,rfl⟩
 ·rintro n env U ⟨rfl,k,g3,g0,I,rfl⟩;by_cases c:k<E.length
  ·obtain⟨b,o,e,p1,J,_,Z⟩:=a.r.ix aJ .i64 (k:Int) oM oM;rw[so]at Z;have R:ai h b (o+4)=some (ZZ e.b):=J 4 oM;have ob:=ok e (Of Z);simp(disch:=omega) only[evs,seval,fwrap_i64,g3,g0,a.r.len,(oM:(k:Int)<E.length),p1,R,eq_false (oM:¬e.b<1),eq_false (oM:¬2305843009213693952<e.b)];refine rqn ⟨E.length-(k+1),oM,rfl,k+1,iS,iX,oM,rfl⟩
  ·simp only[evs,seval,g3,g0,a.r.len,(oM:¬(k:Int)<E.length)];refine ae (kM a ok) ?_;rintro _ _ ⟨rfl,rfl|rfl⟩
   ·simp only[evs,seval];simp
   ·simp only[evs,seval];simp
theorem Lr(a:EL h v E):ay go 221 [v,ZZ s] h fun u h'=>h=h'/\∃r:Int,u=ZZ r/\-1<=r/\r<E.length:=by
 have R:=a.n;refine aa ?_;simp only[evs,seval];refine aw (fun n env U=>h=U/\∃k:Nat,env.get 5=some (ZZ k)/\env.get 0=some v/\env.get 1=some (ZZ s)/\k<=E.length/\n=E.length-k) E.length oM ?_ ?_
 ·exact ya2
 ·rintro n env U ⟨rfl,k,Z,g0,g1,J,rfl⟩;by_cases c:k<E.length
  ·simp only[evs,seval,Z,g0,a.r.len,(oM:(k:Int)<E.length)];refine ae (eI a oM) ?_;rintro _ _ ⟨rfl,t,rfl⟩;by_cases c1:t<=s
   ·simp(disch:=omega) only[evs,seval,fwrap_i64,Z,g0,g1,c1];refine ae (eI a oM) ?_;rintro _ _ ⟨rfl,t2,rfl⟩;by_cases c2:s<t2
    ·simp only[evs,seval,Z,c2];exact⟨_,rfl,oM,oM⟩
    ·simp(disch:=omega) only[evs,seval,fwrap_i64,Z,c2];refine rqn ⟨E.length-(k+1),oM,rfl,k+1,iS,iX,iX,oM,rfl⟩
   ·simp(disch:=omega) only[evs,seval,fwrap_i64,Z,g1,c1];refine rqn ⟨E.length-(k+1),oM,rfl,k+1,iS,iX,iX,oM,rfl⟩
  ·simp only[evs,seval,Z,g0,a.r.len,(oM:¬(k:Int)<E.length)];exact⟨_,rfl,oM,oM⟩
theorem vI(a:EL h v E):ay go 283 [v,ZZ s] h fun u h'=>h=h'/\FZ u:=by
 have Z:=a.n;refine aa ?_;simp[evs,a.r.len];refine ae (eI a oM) ?_;rintro _ _ ⟨rfl,t,rfl⟩;by_cases c:t<s
 ·simp[evs,c];exact⟨_,rfl⟩
 ·simp[evs,c,a.r.len];refine ae (eI a oM) ?_;rintro _ _ ⟨rfl,t,rfl⟩;simp[evs];exact⟨_,rfl⟩
theorem tF(a:EL h v E):ay go 222 [v,ZZ w,ZZ s] h fun u h'=>h=h'/\FZ u:=by
 refine aa ?_;simp[evs];refine ae (vI a) ?_;rintro _ _ ⟨rfl,t,rfl⟩;by_cases c:t<s
 ·simp[evs,c];exact⟨_,rfl⟩
 by_cases c2:s<0
 ·simp[evs,c,c2];exact⟨_,rfl⟩
 ·simp[evs,c,c2];exact⟨_,rfl⟩
theorem Ej(a:EL h v E)(h0:i<E.length)(U:0<=i):ay go 294 [v,ZZ s,ZZ w,ZZ i] h fun u h'=>h=h'/\(u=ZZ 0\/u=ZZ 1):=by
 have Z:=a.n;refine aa ?_;simp only[evs,seval];refine ae (eI a oM) ?_;rintro _ _ ⟨rfl,t,rfl⟩;by_cases c:t<aB .i64 (s+w)
 ·simp(disch:=omega) only[evs,seval,fwrap_i64,c];refine ae (eI a oM) ?_;rintro _ _ ⟨rfl,t2,rfl⟩;by_cases c2:s<t2
  ·simp only[evs,seval,c2];simp
  ·simp only[evs,seval,c2];simp
 ·simp only[evs,seval,c];simp
theorem lG(a:EL h v E)(ok:okZ E):ay go 293 [v,.int .i64 s,.int .i64 w] h fun u h'=>h=h'∧∃t:Int,u=.int .i64 t∧0≤t:=by
 refine aa ?_;simp only[evs,seval];refine ae (fG a ok) ?_;rintro _ _ ⟨rfl,rfl|rfl⟩
 case' inr=>
  simp only[evs,seval];refine ae (fG a ok) ?_;rintro _ _ ⟨rfl,rfl|rfl⟩
  ·simp only[evs,seval];exact⟨_,rfl,oM⟩
  ·simp only[evs,seval];exact⟨_,rfl,oM⟩
 by_cases c:w<1
 ·simp only[evs,seval,c];exact⟨_,rfl,oM⟩
 by_cases c1:2147483648<w
 ·simp only[evs,seval,c,c1];exact⟨_,rfl,oM⟩
 by_cases c2:s<0
 ·simp only[evs,seval,c,c1,c2];exact⟨_,rfl,oM⟩
 simp only[evs,seval,c,c1,c2];refine ae (vI a) ?_;rintro _ _ ⟨rfl,t,rfl⟩;by_cases c3:t<s
 ·simp only[evs,seval,c3];exact⟨_,rfl,oM⟩
 ·simp only[evs,seval,c3];exact⟨_,rfl,oM⟩
theorem uL(a:EL h v E)(ok:okZ E):ay go 285 [v,.int .i64 w] h fun u h'=>h=h'∧∃t:Int,u=.int .i64 t∧0≤t:=by
 refine aa ?_;simp only[evs,seval];refine ae (fG a ok) ?_;rintro _ _ ⟨rfl,rfl|rfl⟩
 case' inr=>
  simp only[evs,seval];refine ae (fG a ok) ?_;rintro _ _ ⟨rfl,rfl|rfl⟩
  ·simp only[evs,seval];exact⟨_,rfl,oM⟩
  ·simp only[evs,seval];exact⟨_,rfl,oM⟩
 by_cases c:w<1
 ·simp only[evs,seval,c];exact⟨_,rfl,oM⟩
 by_cases c1:2147483648<w
 ·simp only[evs,seval,c,c1];exact⟨_,rfl,oM⟩
 ·simp only[evs,seval,c,c1];exact⟨_,rfl,oM⟩
theorem GO{d:Int}:ay go 157 [ZZ s,ZZ d] h fun u h'=>h=h'/\FZ u:=by
 by_cases c:0<=s
 ·by_cases c1:aB .i64 (9223372036854775807-s)<d
  ·refine aa ?_;simp[evs,c,c1];exact⟨_,rfl⟩
  ·refine aa ?_;simp[evs,c,c1,(oM:¬s<0)];exact⟨_,rfl⟩
 ·by_cases c1:d<aB .i64 (-9223372036854775808-s)
  ·refine aa ?_;simp[evs,c,c1,(oM:s<0)];exact⟨_,rfl⟩
  ·refine aa ?_;simp[evs,c,c1,(oM:s<0)];exact⟨_,rfl⟩
end
open Go.Ev.St
structure RZ(h:Heap)(vK:V)(Ks:List Knd):Prop where
 rk:Recs Knd.cells 9 h vK Ks
 kh:∀q∈Ks,KndH h q
 r:RK Ks
theorem RZ.fr{vK:V}{Ks:List Knd}(a:RZ h vK Ks)(f:Fr [] h h'):RZ h' vK Ks:=⟨QI a.rk f,fun q m=>(a.kh q m).fr f,a.r⟩
theorem RZ.one{vK:V}{Ks:List Knd}(a:RZ h vK Ks):vK.one=true:=RI a.rk
structure EZ(h:Heap)(v:V)(E:List Ent):Prop extends EL h v E where
 i:∀e∈E,ItmH h e.x
 z:∀e∈E,(1<=e.b/\e.b<=64)/\e.x.type<3
theorem EZ.fr(a:EZ h v E)(f:Fr [] h h'):EZ h' v E:=⟨a.toEL.fr f,fun e m=>(a.i e m).fr f,a.z⟩
theorem EZ.ok(a:EZ h v E):okZ E:=fun e m=>by have:=(a.z e m).1;omega
def nC(n:Nat):List V:=[ZZ (n:Int)]
theorem jY(n:Nat):(nC n).length=1:=rfl
section
variable {h : Heap} {vK v : V} {Ks : List Knd} {E : List Ent} {i s w o : Int}
theorem yY{e:Ent}(wf:WF h)(k:RZ h vK Ks)(a:ItmH h e.x)(ht:e.x.type<3):
 ay go 295 [.agg [vK,ZZ 12],.agg e.cells] h fun u h'=>Fr [] h h'/\(u=ZZ 0\/u=ZZ 1):=by
 have v1:=k.one;have on:=fy a;obtain⟨h1,e_h1,U,J⟩:=av wf [vK,ZZ 12];obtain⟨I,e_h2,Z,R⟩:=av U.wf e.cells;have n1:=hnx e_h1
 have F02:=U.then Z;have l0:=(Z.get J).l1 0;have l1:=R.l1 1;obtain⟨b,o,q,p1,D,_⟩:=Rg aW (QI k.rk F02) .u8 (e.x.type:Int) oM (by have:=k.r.2.1;omega);have l7:ai I b (o+7)=some (.bool q.sticky):=D 7 oM;cases c:q.sticky
 ·exact ya1
 ·exact ya1
theorem vX(wf:WF h)(k:RZ h vK Ks)(a:EZ h v E):ay go 232 [.agg [vK,ZZ 12],v,ZZ s] h fun u h'=>Fr [] h h'/\FZ u:=by
 have v1:=k.one;have hn:=a.n;obtain⟨h1,R,Z,J⟩:=av wf [vK,ZZ 12];refine aa ?_;simp only[evs,seval,<-R];refine aw (fun n env hh=>Fr [] h1 hh/\∃(j:Nat)(r:Int),env.get 8=some (ZZ j)/\env.get 7=some (ZZ r)/\env.get 1=some v/\env.get 2=some (ZZ s)/\env.get 3=some (.ptr h.next 0)/\j<=E.length/\n=E.length-j) E.length oM ?_ ?_
 ·exact⟨Qw Z.wf,0,-1,iS,iS,iS,iS,iS,oM,rfl⟩
 ·rintro n env hh ⟨F,j,r,U,g7,g1,g2,g3,hj,rfl⟩;have Fx:=Z.then F;have I:=a.fr Fx;by_cases c:j<E.length
  ·obtain⟨b,o,e,p1,p2,p3,p4⟩:=Rg aJ I.r .i64 (j:Int) oM oM;rw[so]at p4;have em:=Of p4;have D:=(F.get J).la 2
   simp only[evs,seval,eff,U,g1,g3,I.r.len,(oM:(j:Int)<E.length),D,p1,p3];refine ae (yY F.wf (k.fr Fx) (I.i e em) (a.z e em).2) ?_;rintro _ h2 ⟨F2,rfl|rfl⟩
   ·simp(disch:=omega) only[evs,seval,DF,eff,fwrap_i64,U,g3,eq_false (dI:¬(0:Int)=1),D,p3];exact ybm
   ·simp only[evs,seval,eff,U,g1];refine ae (eI (I.toEL.fr F2) oM) ?_;rintro _ _ ⟨rfl,t,rfl⟩;by_cases c2:t<=s
    ·simp(disch:=omega) only[evs,seval,DF,eff,fwrap_i64,U,g2,g3,D,p3,c2];refine rqn ⟨E.length-(j+1),oM,F.then F2,j+1,j,iS,iS,iX,iX,iX,oM,rfl⟩
    ·simp(disch:=omega) only[evs,seval,DF,eff,fwrap_i64,U,g2,g3,D,p3,c2];exact ybm
  ·simp only[evs,seval,U,g7,g1,I.r.len,(oM:¬(j:Int)<E.length)];exact⟨Fx,_,rfl⟩
theorem AM(wf:WF h)(k:RZ h vK Ks):ay go 291 [.agg [vK,ZZ 12]] h fun u h'=>Fr [] h h'/\∃t:Int,u=ZZ t/\0<=t:=by
 have v1:=k.one;have k3:=k.r.2.1;have kr:=k.r.1;obtain⟨D,J,Z,U⟩:=av wf [vK,ZZ 12];have l0{h'}(f:Fr [] D h'):=(f.get U).l1 0;have l1{h'}(f:Fr [] D h'):=(f.get U).l1 1;have r0:=Qw (S:=[]) Z.wf;refine aa ?_;simp only[evs,seval,<-J,l0 r0,l1 r0,(QI k.rk Z).len,eq_false (oM:¬(Ks.length:Int)=0),eq_false (oM:¬8<(Ks.length:Int)),eq_false (dI:¬(12:Int)<1),eq_false (dI:¬(64:Int)<12)];refine aw (fun n env I=>Fr [] D I/\∃j:Nat,env.get 3=some (ZZ j)/\env.get 1=some (.ptr h.next 0)/\j<=Ks.length/\n=Ks.length-j) Ks.length oM ?_ ?_
 ·exact⟨Qw Z.wf,0,iS,iS,oM,rfl⟩
 ·rintro n env I ⟨F,j,g3,g1,hj,rfl⟩;have R:=Z.then F;by_cases c:j<Ks.length
  ·obtain⟨b,o,q,p1,p2,p3,p4⟩:=Rg aW (QI k.rk R) .i64 (j:Int) oM oM;rw[so]at p4;have qm:=Of p4;have l6:ai I b (o+6)=some (ZZ q.base):=p2 6 oM;have p6:aH I b o 6=some q.part:=ew (m:=3) p3;have gq:=(k.r.2.2 q qm).2.2;simp only[evs,seval,g3,g1,l0 F,(QI k.rk R).len,(oM:(j:Int)<Ks.length),p1,l6,eq_false (oM:¬q.base<1),eq_false (oM:¬2305843009213693952<q.base),p6];refine aN (pS F.wf ((k.kh q qm).fr R)) fun h2 F2=>?_;by_cases z:PT.rC q.k q.tg q.ky q.sl q.tx q.sub=0
   ·rw[if_pos z];simp only[evs,seval,eq_true (dI:(0:Int)<14)];exact⟨R.then F2,_,rfl,oM⟩
   ·rw[if_neg z];simp(disch:=omega) only[evs,seval,fwrap_i64,g3,eq_false (dI:¬(0:Int)<0)];refine rqn ⟨Ks.length-(j+1),oM,F.then F2,j+1,iS,iX,oM,rfl⟩
  ·simp only[evs,seval,g3,g1,l0 F,(QI k.rk R).len,(oM:¬(j:Int)<Ks.length)];exact⟨R,_,rfl,oM⟩
theorem Gy{A:List Nat}{vA:V}(wf:WF h)(a:EZ h v E)(ra:Recs nC 1 h vA A)(hA:∀x∈A,x<E.length)(nA:A.length<=4096):
 ay go 225 [v,vA] h fun u h'=>Fr [] h h'/\∃B:List Nat,Gs h' h.next 1 u (B.flatMap nC)/\(∀x∈B,∃e,E[x]? =some e/\e.kn=false)/\B.length<=A.length:=by
 refine aa ?_;simp only[evs,seval];refine aw (fun n env I=>Fr [] h I/\∃(j:Nat)(u:V)(B:List Nat),env.get 6=some (ZZ j)/\env.get 5=some u/\env.get 0=some v/\env.get 1=some vA/\j<=A.length/\Gs I h.next 1 u (B.flatMap nC)/\(∀x∈B,∃e,E[x]? =some e/\e.kn=false)/\B.length<=j/\n=A.length-j) A.length oM ?_ ?_
 ·exact⟨Qw wf,0,.nils,[],iS,iS,iS,iS,oM,.inl ⟨rfl,rfl⟩,iS,iS,rfl⟩
 ·rintro n env I ⟨F,j,u,B,D,g5,g0,g1,hj,G,hB,nB,rfl⟩;have U:=QI ra F;by_cases c:j<A.length
  ·obtain⟨b,o,x,p1,p2,_,p4⟩:=Rg jY U .i64 (j:Int) oM oM;rw[so]at p4;have xl:=hA x (Of p4);have lx:ai I b o=some (ZZ (x:Int)):=p2 0 oM;obtain⟨b',o',e,q1,q2,_,q4⟩:=Rg aJ (a.fr F).r .i64 (x:Int) oM oM;rw[so]at q4;have l5:ai I b' (o'+5)=some (.bool e.kn):=q2 5 oM;cases ck:e.kn
   ·simp only[evs,seval,D,g5,g0,g1,U.len,(oM:(j:Int)<A.length),p1,lx,q1,l5,ck];obtain⟨h5,J,Z,R⟩:=av F.wf [ZZ (x:Int)];have nn:=F.next;have n5:=Z.next;rw[<-J];refine RB (bytes:=8) Z.wf (G.fr Z) (RM R rfl) oM oM rfl oM (by rw[au jY];omega) ?_;intro u' h6 G6 e6 F6;have ab:=Ru wf (F.then Z) F6 G.vb;simp(disch:=omega) only[evs,seval,fwrap_i64,D];refine rqn ⟨A.length-(j+1),oM,ab,j+1,u',B++[x],iS,iS,iX,iX,oM,by simpa[nC]using G6,?_,by simp;omega,rfl⟩;intro y m;rcases Qp.1 m with m|m
    ·exact hB y m
    ·grind
   ·simp(disch:=omega) only[evs,seval,fwrap_i64,D,g0,g1,U.len,(oM:(j:Int)<A.length),p1,lx,q1,l5,ck];refine rqn ⟨A.length-(j+1),oM,F,j+1,u,B,iS,iX,iX,iX,oM,G,hB,oM,rfl⟩
  ·simp only[evs,seval,D,g5,g1,U.len,(oM:¬(j:Int)<A.length)];exact⟨F,B,G,hB,oM⟩
end
open Go.Ev.St
section
variable {h : Heap} {vK v : V} {Ks : List Knd} {E : List Ent} {i s w o : Int}
theorem tJ(wf:WF h)(k:RZ h vK Ks)(a:EZ h v E):ay go 230 [.agg [vK,ZZ 12],v] h fun u h'=>Fr [] h h'/\∃t:Int,u=ZZ t/\0<=t:=by
 have v1:=k.one;have hn:=a.n;have k3:=k.r.2.1;obtain⟨h1,ab,Z,D⟩:=av wf [vK,ZZ 12];have lK{h'}(f:Fr [] h1 h'):=(f.get D).la 2
 have l0{h'}(f:Fr [] h1 h'):=(f.get D).l1 0;refine aa ?_;simp only[evs,seval,<-ab,lK (Qw Z.wf)];refine ae (AM Z.wf (k.fr Z)) ?_;rintro _ h2 ⟨F2,t,rfl,t0⟩;by_cases c:0<t
 ·simp only[evs,seval,c];exact⟨Z.then F2,_,rfl,oM⟩
 simp only[evs,seval,c,a.r.len,eq_false (oM:¬1024<(E.length:Int))];refine aw (fun n env hh=>Fr [] h1 hh/\∃j:Nat,env.get 5=some (ZZ j)/\env.get 1=some v/\env.get 2=some (.ptr h.next 0)/\j<=E.length/\n=E.length-j) E.length oM ?_ ?_
 ·exact⟨F2,0,iS,iS,iS,oM,rfl⟩
 ·rintro n env hh ⟨F,j,g5,g1,g2,hj,rfl⟩;have Fx:=Z.then F;have R:=a.fr Fx;by_cases c:j<E.length
  ·obtain⟨b,o,e,p1,p2,p3,p4⟩:=Rg aJ R.r .i64 (j:Int) oM oM;rw[so]at p4;have em:=Of p4;obtain⟨v',sl,ss⟩:=Ub R.r oM (Sl.ne R.r oM) .i64 (j:Int) oM oM;have ad:Recs Ent.cells 6 hh v' (E.take j):=by
    rw[so]at ss;have:(E.take j).length=j:=by grind
    unfold Recs;rw[this,<-kQ aJ];exact ss
   have U{h'}(f:Fr [] hh h'):aH h' b o 4=some e.x.cells:=by
    obtain⟨b',o',e',q1,q2,q3,q4⟩:=Rg aJ (R.fr f).r .i64 (j:Int) oM oM;rw[so,p4]at q4;cases q4;rw[p1]at q1;cases q1;exact ew (m:=2) q3
   have I:∀{h'},Fr [] hh h'->∀i,i<6->ai h' b (o+i)=e.cells[i]? :=fun f=>by
    obtain⟨b',o',e',q1,q2,q3,q4⟩:=Rg aJ (R.fr f).r .i64 (j:Int) oM oM;rw[so,p4]at q4;cases q4;rw[p1]at q1;cases q1;exact q2
   have k0:ai hh b o=some (ZX (e.x.key:Int)):=p2 0 oM;have r0:=Qw (S:=[]) F.wf;simp only[evs,seval,eff,g5,g1,g2,R.r.len,(oM:(j:Int)<E.length),p1,k0,lK F,U r0,sl];refine ae (dF ad (by rw[QN];omega)) ?_;rintro _ _ ⟨rfl,r1,rfl,_⟩;simp only[evs,eff];refine ae (Ia _) ?_;rintro _ _ ⟨rfl,q,rfl,hq⟩;simp only[evs,eff];refine ae (mR F.wf (k.fr Fx).rk (k.fr Fx).kh k.r (R.i e em) hq) ?_;rintro _ h3 ⟨J,t,rfl,t0,_⟩;have Fy:=Fx.then J;have ah:ai h3 b o=some (ZX (e.x.key:Int)):=I J 0 oM;by_cases ct:0<t
   ·simp only[evs,seval,DF,eff,g2,k0,lK F,U r0,ct];exact⟨Fy,_,rfl,oM⟩
   have b4:ai h3 b (o+4)=some (ZZ e.b):=I J 4 oM;have b5:ai h3 b (o+5)=some (.bool e.kn):=I J 5 oM;have b1:ai h3 b (o+1)=some (ZY (e.x.type:Int)):=I J 1 oM;have ez:=a.z e em;cases ck:e.kn
   ·obtain⟨bk,ok',q',r1,r2,_⟩:=Rg aW (k.fr Fy).rk .u8 (e.x.type:Int) oM oM;have l6:ai h3 bk (ok'+6)=some (ZZ q'.base):=r2 6 oM;by_cases cb:e.b=q'.base
    ·simp(disch:=omega) only[evs,seval,DF,eff,fwrap_i64,g5,g1,g2,p1,k0,lK F,U r0,ct,b4,b5,b1,ck,eq_false (oM:¬e.b<1),eq_false (oM:¬2305843009213693952<e.b),l0 (F.then J),r1,l6,eq_true cb];refine rqn ⟨E.length-(j+1),oM,F.then J,j+1,iS,iX,iX,oM,rfl⟩
    ·simp only[evs,seval,DF,eff,g5,g1,g2,p1,k0,lK F,U r0,ct,b4,b5,b1,ck,eq_false (oM:¬e.b<1),eq_false (oM:¬2305843009213693952<e.b),l0 (F.then J),r1,l6,eq_false cb];exact⟨Fy,_,rfl,oM⟩
   ·simp(disch:=omega) only[evs,seval,DF,eff,fwrap_i64,g5,g1,g2,p1,k0,lK F,U r0,ct,b4,b5,ck,eq_false (oM:¬e.b<1),eq_false (oM:¬2305843009213693952<e.b)];refine rqn ⟨E.length-(j+1),oM,F.then J,j+1,iS,iX,iX,oM,rfl⟩
  ·simp only[evs,seval,g5,g1,R.r.len,(oM:¬(j:Int)<E.length)];refine ae (kM R.toEL a.ok) ?_;rintro _ _ ⟨rfl,rfl|rfl⟩
   ·simp only[evs,seval];exact⟨Fx,_,rfl,oM⟩
   ·simp only[evs,seval];exact⟨Fx,_,rfl,oM⟩
end
open Go.Ev.St
section
variable {h : Heap} {vK v : V} {Ks : List Knd} {E : List Ent} {i s w o : Int}
theorem yO(a:EZ h v E):ay go 231 [v,ZZ s,ZZ w,ZZ o] h fun u h'=>h=h'/\∃x y t:Int,u=.tup [ZZ x,ZZ y,ZZ t]:=by
 have hn:=a.n;refine aa ?_;simp only[evs,seval];refine ae (lG a.toEL a.ok) ?_;rintro _ _ ⟨rfl,t,rfl,t0⟩;by_cases c:0<t
 ·simp only[evs,seval,c];refine ae (lG a.toEL a.ok) ?_;rintro _ _ ⟨rfl,t,rfl,t0⟩;simp only[evs,seval];exact⟨_,_,_,rfl⟩
 by_cases c1:o<0
 ·simp only[evs,seval,c,c1];exact⟨_,_,_,rfl⟩
 by_cases c2:16<o
 ·simp only[evs,seval,c,c1,c2];exact⟨_,_,_,rfl⟩
 simp(disch:=omega) only[evs,seval,fwrap_i64,c,c1,c2,a.r.len];refine aw (fun n env D=>h=D/\∃(j x y:Int),env.get 13=some (ZZ j)/\env.get 11=some (ZZ x)/\env.get 12=some (ZZ y)/\env.get 0=some v/\env.get 1=some (ZZ s)/\env.get 2=some (ZZ w)/\env.get 3=some (ZZ o)/\-1<=j/\j<E.length/\n=(j+1).toNat) E.length oM ?_ ?_
 ·exact⟨rfl,E.length-1,0,0,iS,iS,iS,iS,iS,iS,iS,oM,oM,oM⟩
 ·rintro n env D ⟨rfl,j,x,y,Z,I,J,g0,g1,g2,g3,hj,ab,rfl⟩;by_cases c:0<=j
  ·simp only[evs,seval,Z,c];refine aw (fun n env D=>h=D/\∃(k:Nat)(z:Int),env.get 15=some (ZZ k)/\env.get 14=some (ZZ z)/\env.get 13=some (ZZ j)/\env.get 11=some (ZZ x)/\env.get 12=some (ZZ y)/\env.get 0=some v/\env.get 1=some (ZZ s)/\env.get 2=some (ZZ w)/\env.get 3=some (ZZ o)/\k<=E.length/\n=E.length-k) E.length oM ?_ ?_
   ·exact⟨rfl,0,0,iS,iS,iX,iX,iX,iX,iX,iX,iX,oM,rfl⟩
   ·rintro n env D ⟨rfl,k,z,U,R,Z,I,J,g0,g1,g2,g3,hk,rfl⟩;by_cases ck:k<E.length
    ·by_cases d1:(k:Int)-j<=o
     ·by_cases d2:j-(k:Int)<=o
      ·simp(disch:=omega) only[evs,seval,fwrap_i64,U,R,Z,g0,g1,g2,g3,a.r.len,(oM:(k:Int)<E.length),d1,d2];refine ae (Ej a.toEL oM oM) ?_;rintro _ _ ⟨rfl,rfl|rfl⟩
       ·simp(disch:=omega) only[evs,seval,fwrap_i64,U];refine rqn ⟨E.length-(k+1),oM,rfl,k+1,aB .i64 (z+0),iS,iS,iX,iX,iX,iX,iX,iX,iX,oM,rfl⟩
       ·simp(disch:=omega) only[evs,seval,fwrap_i64,U];refine rqn ⟨E.length-(k+1),oM,rfl,k+1,aB .i64 (z+1),iS,iS,iX,iX,iX,iX,iX,iX,iX,oM,rfl⟩
      ·simp(disch:=omega) only[evs,seval,fwrap_i64,U,Z,g0,g3,a.r.len,(oM:(k:Int)<E.length),d1,d2];exact ya4
     ·simp(disch:=omega) only[evs,seval,fwrap_i64,U,Z,g0,g3,a.r.len,(oM:(k:Int)<E.length),d1];exact ya4
    ·by_cases cz:0<z
     ·simp(disch:=omega) only[evs,seval,fwrap_i64,U,R,Z,J,g0,a.r.len,(oM:¬(k:Int)<E.length),cz];refine rqn ⟨(j-1+1).toNat,oM,rfl,j-1,j,aB .i64 (y+1),iS,iS,iS,iX,iX,iX,iX,oM,oM,rfl⟩
     ·simp(disch:=omega) only[evs,seval,fwrap_i64,U,R,Z,g0,a.r.len,(oM:¬(k:Int)<E.length),cz];refine rqn ⟨(j-1+1).toNat,oM,rfl,j-1,x,y,iS,iX,iX,iX,iX,iX,iX,oM,oM,rfl⟩
  ·simp only[evs,seval,Z,I,J,c];exact⟨_,_,_,rfl⟩
theorem Av(wf:WF h)(k:RZ h vK Ks)(a:EZ h v E):ay go 169 [.agg [vK,.int .i64 12],v,.int .i64 s,.int .i64 w,.int .i64 o] h fun u h'=>Fr [] h h'∧
 ∃(u':V)(t:Int)(A:List Nat),u=.tup [u',.int .i64 t]∧Gs h' h.next 1 u' (A.flatMap nC)∧(∀x∈A,x<E.length)∧A.length≤1024:=by
 have v1:=k.one;have hn:=a.n;obtain⟨h1,e_h1,F_h1,o_h1⟩:=av wf [vK,.int .i64 12];have n1:=hnx e_h1
 have lK{h'}(f:Fr [] h1 h'):=(f.get o_h1).la 2
 refine aa ?_;simp only[evs,seval,←e_h1,lK (Fr.refl F_h1.wf)];refine ae (tJ F_h1.wf (k.fr F_h1) (a.fr F_h1)) ?_;rintro _ h2 ⟨F2,t,rfl,t0⟩;have F02:=F_h1.then F2;by_cases c:0<t
 ·simp only[evs,seval,c,lK F2];refine ae (tJ F2.wf (k.fr F02) (a.fr F02)) ?_;rintro _ h3 ⟨F3,t,rfl,t0⟩;simp only[evs,seval];exact⟨F02.then F3,_,_,[],rfl,.inl ⟨rfl,rfl⟩,iS,iS⟩
 simp only[evs,seval,c];refine ae (yO (a.fr F02)) ?_;rintro _ _ ⟨rfl,x,y,t,rfl⟩;by_cases c:0<t
 ·simp only[evs,seval,c];exact⟨F02,_,_,[],rfl,.inl ⟨rfl,rfl⟩,iS,iS⟩
 simp only[evs,seval,c];refine aw (fun n env hh=>Fr [] h1 hh∧∃(j:Nat)(u:V)(A:List Nat),env.get 16=some (.int .i64 j)∧env.get 15=some u∧env.get 12=some (.int .i64 x)∧env.get 13=some (.int .i64 y)∧env.get 1=some v∧env.get 2=some (.int .i64 s)∧env.get 5=some (.ptr h.next 0)∧j≤E.length∧
  Gs hh h1.next 1 u (A.flatMap nC)∧(∀x∈A,x<E.length)∧A.length≤j∧n=E.length-j) E.length oM ?_ ?_
 ·exact⟨F2,0,.nils,[],iS,iS,iS,iS,iS,iS,iS,oM,.inl ⟨rfl,rfl⟩,iS,iS,rfl⟩
 ·rintro n env hh ⟨F,j,u,A,g16,g15,g12,g13,g1,g2,g5,hj,G,hA,nA,rfl⟩;have Fx:=F_h1.then F;have a':=a.fr Fx;by_cases c:j<E.length
  ·have nn:=F.next;have put:∀{h5},Fr [] hh h5→∀{K:V→Heap→Prop},(∀u' h6,Fr [] h1 h6→Gs h6 h1.next 1 u' ((A++[j]).flatMap nC)→K u' h6)→OQ (dK (halloc h5 (nC j)) 1 8 u (.slice h5.next 0 1 1)) K:=by
    intro h5 F5 K hK;have n5:=F5.next;obtain⟨h6,e_h6,F_h6,o_h6⟩:=av F5.wf (nC j);have n6:=F_h6.next;rw[←e_h6];refine Gs.append1 (bytes:=8) F_h6.wf ((G.fr F5).fr F_h6) (Sl.lit o_h6 rfl) oM oM rfl oM (by rw[au jY];omega) ?_;intro u' h7 G7 e7 F7;exact hK u' h7 (Fr.new F_h1.wf ((F.then F5).then F_h6) F7 G.vb) (by simpa[nC]using G7)
   have hA':∀z∈A++[j],z<E.length:=fun z m=>by grind
   by_cases d1:x≤(j:Int)
   ·by_cases d2:(j:Int)<y
    ·simp only[evs,seval,g16,g15,g12,g13,g1,a'.r.len,(oM:(j:Int)<E.length),d1,d2];refine put (Fr.refl F.wf) ?_;rintro u' h6 F6 G6;simp(disch:=omega) only[evs,seval,fwrap_i64,g16];refine rqn ⟨E.length-(j+1),oM,F6,j+1,u',A++[j],iS,iS,iX,iX,iX,iX,iX,oM,G6,hA',by simp;omega,rfl⟩
    ·simp only[evs,seval,g16,g12,g13,g1,g2,g5,a'.r.len,(oM:(j:Int)<E.length),d1,d2,lK F];refine ae (vX F.wf (k.fr Fx) a') ?_;rintro _ h2 ⟨F2,q,rfl⟩;by_cases d3:(j:Int)=q
     ·simp only[evs,seval,g16,g15,eq_true d3];refine put F2 ?_;rintro u' h6 F6 G6;simp(disch:=omega) only[evs,seval,fwrap_i64,g16];refine rqn ⟨E.length-(j+1),oM,F6,j+1,u',A++[j],iS,iS,iX,iX,iX,iX,iX,oM,G6,hA',by simp;omega,rfl⟩
     ·simp(disch:=omega) only[evs,seval,fwrap_i64,g16,eq_false d3];refine rqn ⟨E.length-(j+1),oM,F.then F2,j+1,u,A,iS,iX,iX,iX,iX,iX,iX,oM,G.fr F2,hA,oM,rfl⟩
   ·simp only[evs,seval,g16,g12,g1,g2,g5,a'.r.len,(oM:(j:Int)<E.length),d1,lK F];refine ae (vX F.wf (k.fr Fx) a') ?_;rintro _ h2 ⟨F2,q,rfl⟩;by_cases d3:(j:Int)=q
    ·simp only[evs,seval,g16,g15,eq_true d3];refine put F2 ?_;rintro u' h6 F6 G6;simp(disch:=omega) only[evs,seval,fwrap_i64,g16];refine rqn ⟨E.length-(j+1),oM,F6,j+1,u',A++[j],iS,iS,iX,iX,iX,iX,iX,oM,G6,hA',by simp;omega,rfl⟩
    ·simp(disch:=omega) only[evs,seval,fwrap_i64,g16,eq_false d3];refine rqn ⟨E.length-(j+1),oM,F.then F2,j+1,u,A,iS,iX,iX,iX,iX,iX,iX,oM,G.fr F2,hA,oM,rfl⟩
  ·simp only[evs,seval,g16,g15,g1,a'.r.len,(oM:¬(j:Int)<E.length)];exact⟨Fx,_,_,A,rfl,G.le oM,hA,oM⟩
end
open Go.Ev.St
abbrev an(k:Nat)(d:Int):V:=.agg [ZX (k:Int),ZZ d]
section
variable {h : Heap} {vK v : V} {Ks : List Knd} {E : List Ent} {i s w o d : Int} {k : Nat}
theorem BV(wf:WF h):ay go 286 [an k d] h fun u h'=>Fr [] h h'/\(u=ZZ 0\/u=ZZ 1):=by
 obtain⟨U,e_h1,F_h1,Z⟩:=av wf [ZX (k:Int),ZZ d];have l0:=Z.l1 0;have l1:=Z.l1 1;by_cases c0:k=0
 ·by_cases c1:d=0
  ·refine aa ?_;simp only[evs,seval,<-e_h1,l0,l1,eq_true (oM:(k:Int)=0),eq_true c1];exact⟨F_h1,iS⟩
  ·refine aa ?_;simp only[evs,seval,<-e_h1,l0,l1,eq_true (oM:(k:Int)=0),eq_false c1,eq_false (oM:¬0<(k:Int))];exact⟨F_h1,iS⟩
 by_cases c1:0<=d
 ·by_cases c2:d<=2305843009213693952
  ·exact yac
  ·exact yac
 ·refine aa ?_;simp only[evs,seval,<-e_h1,l0,l1,eq_false (oM:¬(k:Int)=0),eq_true (oM:0<(k:Int)),c1];exact⟨F_h1,iS⟩
theorem zu(wf:WF h)(a:EZ h v E):ay go 224 [v,ZZ w,an k d] h fun u h'=>Fr [] h h'/\∃x y:Int,u=.tup [ZZ x,ZZ y]:=by
 have hn:=a.n;obtain⟨I,U,F_h1,Z⟩:=av wf [ZX (k:Int),ZZ d];have D{h'}(f:Fr [] I h'):=(f.get Z).l1 0;have l1{h'}(f:Fr [] I h'):=(f.get Z).l1 1;have lA:=Z.la 2
 have R:=a.fr F_h1;refine aa ?_;simp only[evs,seval,<-U];refine ae (uL R.toEL R.ok) ?_;rintro _ _ ⟨rfl,t,rfl,t0⟩;by_cases c:0<t
 ·simp only[evs,seval,c];refine ae (uL R.toEL R.ok) ?_;rintro _ _ ⟨rfl,t,rfl,t0⟩;simp only[evs,seval];exact⟨F_h1,_,_,rfl⟩
 simp only[evs,seval,c,lA];refine ae (BV F_h1.wf) ?_;rintro _ h2 ⟨F2,rfl|rfl⟩
 case' inr=>
  simp only[evs,seval,eq_true (dI:(0:Int)<1)];exact ybb
 have J:=R.fr F2;by_cases c0:k=0
 ·simp only[evs,seval,eq_false (dI:¬(0:Int)<0),D F2,eq_true (oM:(k:Int)=0)];exact ybb
 simp only[evs,seval,eq_false (dI:¬(0:Int)<0),D F2,eq_false (oM:¬(k:Int)=0)];refine ae (dF J.r oM) ?_;rintro _ _ ⟨rfl,r,rfl,r0,r1⟩;by_cases c1:r<0
 ·simp only[evs,seval,c1];exact ybb
 simp only[evs,seval,eff,c1];refine ae (eI J.toEL oM) ?_;rintro _ _ ⟨rfl,t,rfl⟩;simp only[evs,seval,eff,l1 F2];refine ae (tF J.toEL) ?_;rintro _ _ ⟨rfl,t,rfl⟩;simp only[evs,seval,DF,eff,l1 F2];exact ybb
theorem CJ(wf:WF h)(a:EZ h v E):ay go 155 [v,ZZ s] h fun u h'=>Fr [] h h'/\∃(k:Nat)(d t:Int),u=.tup [an k d,ZZ t]:=by
 have D:=a.n;obtain⟨J,U,F_h1,o_h1⟩:=av wf [ZX 0,ZZ 0];have F:=F_h1;have Z:=a.fr F_h1;have fin{k:Nat}{d:Int}{h2}(o:Own h2 h.next [ZX (k:Int),ZZ d]):=o.la 2
 refine aa ?_;simp only[evs,seval,<-U];refine ae (fG Z.toEL Z.ok) ?_;rintro _ _ ⟨rfl,rfl|rfl⟩
 case' inr=>
  simp only[evs,seval,eq_true (dI:(0:Int)<13)];refine ae (fG Z.toEL Z.ok) ?_;rintro _ _ ⟨rfl,rfl|rfl⟩;all_goals
   simp only[evs,seval];exact yo
 simp only[evs,seval,eq_false (dI:¬(0:Int)<0)];refine ae (Lr Z.toEL) ?_;rintro _ _ ⟨rfl,r,rfl,r0,r1⟩;by_cases c:0<=r
 ·obtain⟨b,o,e,p1,I,_⟩:=Rg aJ Z.r .i64 r c r1;have R:ai J b o=some (ZX (e.x.key:Int)):=I 0 oM;simp only[evs,seval,eff,c,p1,R];refine ae (eI Z.toEL oM) ?_;rintro _ _ ⟨rfl,t,rfl⟩;simp only[evs,seval,eff];refine stu F_h1.wf o_h1 ?_;rintro h2 o2 F2 n2;simp only[evs,seval,DF,eff,R,fin o2];exact⟨F_h1.fresh F2 wf (pi _),_,_,_,rfl⟩
 ·by_cases c1:E.length=0
  ·by_cases c2:s=0
   ·simp only[evs,seval,c,Z.r.len,eq_true (oM:(E.length:Int)=0),eq_true c2];exact yo
   ·simp only[evs,seval,c,Z.r.len,eq_true (oM:(E.length:Int)=0),eq_false c2];exact yo
  ·simp only[evs,seval,c,Z.r.len,eq_false (oM:¬(E.length:Int)=0)];exact yo
end
open Go.Ev.St
theorem dM(x:Nat×Int):(htC x).length=2:=rfl
structure TZ(h:Heap)(v:V)(Tl:List (Nat×Int)):Prop where
 r:Recs htC 2 h v Tl
 n:Tl.length<=256
 z:∀x∈Tl,1<=x.2/\x.2<=64
 k:∀x∈Tl,x.1<18446744073709551616
theorem TZ.fr{Tl:List (Nat×Int)}(a:TZ h v Tl)(f:Fr [] h h'):TZ h' v Tl:=⟨QI a.r f,a.n,a.z,a.k⟩
theorem EZ.nil:EZ h .nils []:=⟨⟨SH,iS⟩,iS,iS⟩
theorem _root_.Go.Ev.Lay.Stb.at{T:Heap->Prop}(a:Stb P h T)(w:WF h):T h:=a [] h iS (Qw w)
theorem Stb.on{T:Heap->Prop}(a:Stb P h T)(w:WF h)(f:Fr [] h h'):Stb P h' T:=a.step w f iS fun z m=>.inl m
theorem Stb.imp{T U:Heap->Prop}(a:Stb P h T)(i:∀h,T h->U h):Stb P h U:=fun S h' hS f=>i _ (a S h' hS f)
def EZs(P:Nat->Prop)(h:Heap)(v:V)(E:List Ent):Prop:=Stb P h fun h=>EZ h v E
theorem EZs.at(a:EZs P h v E)(w:WF h):EZ h v E:=Stb.at a w
theorem EZs.on(a:EZs P h v E)(w:WF h)(f:Fr [] h h'):EZs P h' v E:=Stb.on a w f
theorem EZs.nil:EZs P h .nils []:=fun _ _ _ _=>EZ.nil
theorem EZs.kq(a:EZs P h v E):KQ P h v E:=fun S h' hS f=>⟨(a S h' hS f).r,(a S h' hS f).i⟩
theorem EZs.ev(a:EZs P h v E)(w:WF h):∀e∈E,EV P h e:=fun e m=>⟨a.kq.is m,(a.at w).z e m⟩
theorem KQ.ezs(a:KQ P h v E)(z:∀e∈E,(1<=e.b/\e.b<=64)/\e.x.type<3)(n:E.length<=1024):EZs P h v E:=fun S h' hS f=>⟨⟨(a S h' hS f).1,n⟩,(a S h' hS f).2,z⟩
theorem Ij{h0 hh:Heap}{u:V}(w:WF h0)(hP:∀z,P z->z<h0.next)(F:Fr [] h0 hh)(G:Gs hh h0.next 6 u (E.flatMap Ent.cells))(n:E.length<=1024)(i:∀e∈E,IS P h0 e.x)(z:∀e∈E,(1<=e.b/\e.b<=64)/\e.x.type<3):EZs P hh u E:=
 KQ.ezs (KQ.fin w hP F G i) z n
section
variable {P : Nat -> Prop} {h : Heap} {vK vT v : V} {Ks : List Knd} {E : List Ent} {Tl : List (Nat × Int)} {i s w o l d : Int} {k : Nat}
theorem GX(wf:WF h)(hP:∀z,P z->z<h.next)(as:EZs P h v E)(hs:1<=s/\s<=64):ay go 161 [v,ZX (k:Int),ZZ s] h fun u h'=>Fr [] h h'/\∃v' t E',u=.tup [v',ZZ t]/\EZs P h' v' E'/\E'.length<=E.length:=by
 have a:=as.at wf;have hn:=a.n;refine aa ?_;simp only[evs,seval];refine ae (dF a.r oM) ?_;rintro _ _ ⟨rfl,r,rfl,r0,r1⟩;by_cases c0:r<0
 ·simp only[evs,seval,c0];exact⟨Qw wf,_,_,[],rfl,EZs.nil,iS⟩
 obtain⟨j,rfl⟩:∃j:Nat,r=j:=⟨r.toNat,oM⟩;have jl:j<E.length:=oM
 have e1:=Qq jl;generalize E[j]=e at e1;have em:=Of e1;simp only[evs,seval,c0,eq_false (oM:¬s<1),eq_false (oM:¬2305843009213693952<s)];refine aw (fun n env hh=>Fr [] h hh/\∃(i:Nat)(u:V),env.get 10=some (ZZ i)/\env.get 9=some u/\env.get 0=some v/\env.get 2=some (ZZ s)/\env.get 8=some (ZZ j)/\i<=E.length/\Gs hh h.next 6 u ((E.take i).flatMap Ent.cells)/\n=E.length-i) E.length oM ?_ ?_
 ·exact⟨Qw wf,0,.nils,iS,iS,iS,iS,iS,oM,.inl ⟨rfl,iS⟩,rfl⟩
 ·rintro n env hh ⟨F,i,u,Z,R,g0,g2,g8,hi,G,rfl⟩;have I:=a.fr F;by_cases c:i<E.length
  ·obtain⟨bi,oi,x,p1,_,p3,p4⟩:=Rg aJ I.r .i64 (i:Int) oM oM;rw[so]at p4;have ones:=fy (I.i x (Of p4));simp only[evs,seval,Z,R,g0,I.r.len,(oM:(i:Int)<E.length),p1,p3,xd,(iR:x.cells.length=6)];refine eP wf F G (by rw[QN];omega) ones ?_;rintro u' h6 F6 G6;have eq:E.take i++[x]=E.take (i+1):=by rw[QS,p4];simp
   rw[eq]at G6;simp(disch:=omega) only[evs,seval,fwrap_i64,Z];refine rqn ⟨E.length-(i+1),oM,F6,i+1,u',iS,iS,iX,iX,iX,oM,G6,rfl⟩
  ·rw[Qs oM]at G;obtain⟨bu,hb,hB,ou,px,J⟩:=G.ptr (au aJ E) oM jl;simp only[evs,seval,Z,R,g0,g2,g8,I.r.len,(oM:¬(i:Int)<E.length),px];refine ac F.wf ou rfl rfl (aS aJ E j e e1 (e.upd_b s)) ?_;rintro h1 o1 F1 n1;simp only[evs,seval,R,g8,px];refine ac F1.wf o1 rfl rfl (by
    have:=aS aJ (E.set j ⟨e.x,s,e.kn⟩) j ⟨e.x,s,e.kn⟩ iX (Ent.upd_k _ true);rwa[List.set_set]at this) ?_
   rintro h2 o2 F2 n2;have G2:=J h2 _ o2 (by simp only[au aJ,Rd]);have D:=(F.fresh F1 wf hB).fresh F2 wf hB;have U:=Ij wf hP D G2 oO (fun y m=>by
    rcases Ra m with q|rfl
    ·exact as.kq.is q
    ·exact(as.kq.is em:IS P h e.x)) (fun y m=>by
    rcases Ra m with q|rfl
    ·exact a.z y q
    ·exact⟨hs,(a.z e em).2⟩)
   have a2:=U.at F2.wf;simp only[evs,seval,R];refine ae (kM a2.toEL a2.ok) ?_;rintro _ _ ⟨rfl,rfl|rfl⟩
   ·simp only[evs,seval,R,eq_false (dI:¬(0:Int)<0)];exact⟨D,_,_,_,rfl,U,iS⟩
   ·simp only[evs,seval,eq_true (dI:(0:Int)<13)];exact⟨D,_,_,[],rfl,EZs.nil,iS⟩
theorem xK(wf:WF h)(kz:RZ h vK Ks)(a:ItmH h x)(ht:x.type<3)(t:TZ h vT Tl):
 ay go 226 [.agg [vK,ZZ 12,ZZ w,ZZ o,ZZ l],.agg x.cells,vT] h fun u h'=>Fr [] h h'/\∃z:Int,u=ZZ z/\1<=z/\z<=64:=by
 have v1:=kz.one;have hn:=t.n;have x1:=a.one;obtain⟨h1,I,R,ab⟩:=av wf [vK,ZZ 12,ZZ w,ZZ o,ZZ l];obtain⟨h2,D,J,U⟩:=av R.wf x.cells;have Z:=R.then J;have l0:=(J.get ab).l1 0;have i0:=U.l1 0;have i1:=U.l1 1;have t2:=t.fr Z;refine aa ?_;simp only[evs,seval,<-I,<-D];refine aw (fun n env hh=>h2=hh/\∃j:Nat,env.get 7=some (ZZ j)/\env.get 2=some vT/\env.get 3=some (.ptr h.next 0)/\env.get 4=some (.ptr h1.next 0)/\j<=Tl.length/\n=Tl.length-j) Tl.length oM ?_ ?_
 ·exact⟨rfl,0,iS,iS,iS,iS,oM,rfl⟩
 ·rintro n env hh ⟨rfl,j,g7,g2,g3,g4,hj,rfl⟩;by_cases c:j<Tl.length
  ·obtain⟨b,o,y,p1,p2,_,p4⟩:=Rg dM t2.r .i64 (j:Int) oM oM;rw[so]at p4;have k0:ai h2 b o=some (ZX (y.1:Int)):=p2 0 oM;have k1:ai h2 b (o+1)=some (ZZ y.2):=p2 1 oM;by_cases ck:(y.1:Int)=x.key
   ·simp only[evs,seval,DF,eff,g7,g2,g4,t2.r.len,(oM:(j:Int)<Tl.length),p1,k0,k1,i0,eq_true ck];exact⟨Z,_,rfl,t.z y (Of p4)⟩
   ·simp(disch:=omega) only[evs,seval,DF,eff,fwrap_i64,g7,g2,g4,t2.r.len,(oM:(j:Int)<Tl.length),p1,k0,i0,eq_false ck];refine rqn ⟨Tl.length-(j+1),oM,rfl,j+1,iS,iX,iX,iX,oM,rfl⟩
  ·have k3:=kz.r.2.1;have k2:=kz.fr Z;obtain⟨bk,ok',q,r1,r2,_,r4⟩:=Rg aW k2.rk .u8 (x.type:Int) oM oM;rw[so]at r4;have l6:ai h2 bk (ok'+6)=some (ZZ q.base):=r2 6 oM;have gq:=(kz.r.2.2 q (Of r4)).2.2;simp(disch:=omega) only[evs,seval,g7,g2,g3,g4,t2.r.len,(oM:¬(j:Int)<Tl.length),l0,i1,k2.rk.len,fwrap_i64 (x.type:Int) oM oM,eq_true (oM:(x.type:Int)<Ks.length),r1,l6];exact⟨Z,_,rfl,oM,oM⟩
end
open Go.Ev.St
def unk(E:List Ent):Nat:=(E.filter fun e=> !e.kn).length
theorem Gx{x:Itm}{s:Int}:∀(E:List Ent)(j:Nat),unk (E.set j ⟨x,s,true⟩)≤unk E
 |[],_=>by simp
 |e::E,0=>by
  unfold unk;simp only[List.set_cons_zero,List.filter_cons,Bool.not_true,Bool.false_eq_true,if_false];split<;>simp
 |e::E,j+1=>by
  have:=Gx (x:=x) (s:=s) E j;unfold unk at this⊢;simp only[List.set_cons_succ,List.filter_cons];split<;>simp<;>omega
theorem Gw{x:Itm}{s:Int}:∀(E:List Ent)(j:Nat)(e:Ent),E[j]? =some e→e.kn=false→unk (E.set j ⟨x,s,true⟩)<unk E
 |[],_,_,h,_=>by simp at h
 |e::E,0,e',h,k=>by
  simp at h;subst h;unfold unk;simp[k]
 |e::E,j+1,e',h,k=>by
  have:=Gw (x:=x) (s:=s) E j e' (eV h) k;unfold unk at this⊢;simp only[List.set_cons_succ,List.filter_cons];split<;>simp<;>omega
theorem Recs.ld1{A:List Nat}(a:Recs nC 1 h v A){j:Nat}{x:Nat}(e:A[j]? =some x):∃b o,aP (.ixs 1) [v,ZZ (j:Int)]=some (.ptr b o)/\∀{h'},Recs nC 1 h' v A->ai h' b o=some (ZZ (x:Int)):=by
 have D:=(QD.1 e).1;obtain⟨b,o,y,p1,p2,_,I⟩:=Rg jY a .i64 (j:Int) oM oM;refine⟨b,o,p1,fun{h'} R=>?_⟩;obtain⟨b',J,y',Z,U,_,q4⟩:=Rg jY R .i64 (j:Int) oM oM;rw[p1]at Z;cases Z;rw[so,e]at q4;cases q4;exact U 0 oM
section
variable {P : Nat -> Prop} {h : Heap} {vK vT v : V} {Ks : List Knd} {E : List Ent} {Tl : List (Nat × Int)} {i s w o l d : Int} {k : Nat}
theorem AV(wf:WF h)(hP:∀z,P z->z<h.next)(kz:RZ h vK Ks)(as:EZs P h v E)(t:TZ h vT Tl):
 ay go 163 [.agg [vK,ZZ 12,ZZ w,ZZ o,ZZ l],v,an k d,vT] h fun u h'=>Fr [] h h'/\
  ∃v' s f e E',u=.tup [v',ZZ s,ZZ f,ZZ e]/\EZs P h' v' E'/\E'.length<=E.length/\(f≠0->unk E'<unk E):=by
 have v1:=kz.one;have a:=as.at wf;have hn:=a.n;obtain⟨h1,aR,aj,a6⟩:=av wf [vK,ZZ 12,ZZ w,ZZ o,ZZ l];obtain⟨h2,aE,U,aF⟩:=av aj.wf [ZX (k:Int),ZZ d];have I:=aj.then U;have of:=U.get a6;have lf{h'}(f:Fr [] h2 h'):=(f.get of).la 5
 have bh{h'}(f:Fr [] h2 h'):aH h' h.next 0 2=some [vK,ZZ 12]:=by rw[(f.get of).ld];rfl
 have l2{h'}(f:Fr [] h2 h'):=(f.get of).l1 2;have l3{h'}(f:Fr [] h2 h'):=(f.get of).l1 3;have la{h'}(f:Fr [] h2 h'):=(f.get aF).la 2
 have r0:=Qw (S:=[]) U.wf;refine aa ?_;simp only[evs,seval,<-aR,<-aE,l2 r0,la r0];refine ae (zu U.wf (a.fr I)) ?_;rintro _ h3 ⟨F3,x,y,rfl⟩;simp only[evs,seval,bh F3,l2 F3,l3 F3];refine ae (Av F3.wf (kz.fr (I.then F3)) (a.fr (I.then F3))) ?_;rintro _ h4 ⟨F4,vA,t4,A,rfl,GA,hA,nA⟩;have a7:=F3.then F4;have bf:=I.then a7;simp only[evs,seval];refine ae (Gy F4.wf (a.fr bf) (SM (n:=A.length) GA (au jY A) oM) hA oM) ?_;rintro vF h5 ⟨F5,B,GB,hB,nB⟩;have a0:=a7.then F5;have D:=I.then a0;have rB:Recs nC 1 h5 vF B:=SM (n:=B.length) GB (au jY B) oM;have a5:=a.fr D;have bg:=as.on wf D;have a1:=fun z m=>QH (hP z m) D.next;have w5:=F5.wf;simp only[evs];refine aw (fun n env hh=>Fr [] h5 hh/\∃(i:Nat)(u:V),env.get 18=some (ZZ i)/\env.get 17=some u/\env.get 1=some v/\env.get 3=some vT/\env.get 4=some (.ptr h.next 0)/\env.get 12=some (ZZ x)/\env.get 16=some vF/\i<=E.length/\Gs hh h5.next 6 u ((E.take i).flatMap Ent.cells)/\n=E.length-i) E.length oM ?_ ?_
 ·exact⟨Qw w5,0,.nils,iS,iS,iS,iS,iS,iS,iS,oM,.inl ⟨rfl,iS⟩,rfl⟩
 ·rintro n env hh ⟨F,i,u,ak,J,g1,g3,g4,a8,ad,hi,G,rfl⟩;have a':=a5.fr F;by_cases c:i<E.length
  ·obtain⟨bi,oi,e,p1,_,p3,p4⟩:=Rg aJ a'.r .i64 (i:Int) oM oM;rw[so]at p4;have ones:=fy (a'.i e (Of p4));simp only[evs,seval,ak,J,g1,a'.r.len,(oM:(i:Int)<E.length),p1,p3,xd,(iR:e.cells.length=6)];refine eP w5 F G (by rw[QN];omega) ones ?_;rintro u' h6 F6 G6;have eq:E.take i++[e]=E.take (i+1):=by rw[QS,p4];simp
   rw[eq]at G6;simp(disch:=omega) only[evs,seval,fwrap_i64,ak];refine rqn ⟨E.length-(i+1),oM,F6,i+1,u',iS,iS,iX,iX,iX,iX,iX,oM,G6,rfl⟩
  ·rw[Qs oM]at G;simp only[evs,seval,ak,g1,a'.r.len,(oM:¬(i:Int)<E.length)];refine aw (fun n env hh=>Fr [] h5 hh/\∃(j:Nat)(Z:List Ent),env.get 19=some (ZZ j)/\env.get 17=some u/\env.get 3=some vT/\env.get 4=some (.ptr h.next 0)/\env.get 12=some (ZZ x)/\env.get 16=some vF/\j<=B.length/\Gs hh h5.next 6 u (Z.flatMap Ent.cells)/\Z.length=E.length/\
    (∀e∈Z,IS P h5 e.x)/\(∀e∈Z,(1<=e.b/\e.b<=64)/\e.x.type<3)/\((j=0/\Z=E)\/unk Z<unk E)/\n=B.length-j) B.length oM ?_ ?_
   ·exact⟨F,0,E,iS,iX,iX,iX,iX,iX,oM,G,rfl,(fun e m=>bg.kq.is m),a.z,.inl ⟨rfl,rfl⟩,rfl⟩
   ·rintro n env hh ⟨F,j,Z,ah,J,g3,g4,a8,ad,hj,G,n2,i2,z2,hu,rfl⟩;have a3:=a0.then F;have ao:=D.then F;have R:=QI rB F;by_cases c:j<B.length
    ·have e0:=Qq c;generalize B[j]=q at e0;obtain⟨e1,hq,kq⟩:=hB q (Of e0);have a4:=hq;have hq:=(QD.1 hq).1;have ql:q<Z.length:=oM
     obtain⟨b1,o1,s1,s2⟩:=Recs.ld1 R e0;have e2:=Qq oM;generalize Z[q]' oM=e at e2;have em:=Of e2;obtain⟨bu,hb,a2,ou,px,bn⟩:=G.ptr (n:=Z.length) (au aJ Z) oM (i:=q) oM;have rd{h'}(f:Fr [] hh h'):aH h' bu (q*6) 4=some e.x.cells:=by
      have r2:Recs Ent.cells 6 _ u Z:=SM (n:=Z.length) (G.fr f) (au aJ Z) oM;obtain⟨b',o',e',q1,q2,q3,q4⟩:=Rg aJ r2 .i64 (q:Int) oM oM;rw[so,e2]at q4;cases q4;rw[px]at q1;cases q1;exact ew (m:=2) q3
     simp only[evs,seval,eff,ah,J,g3,g4,ad,R.len,(oM:(j:Int)<B.length),s1,s2 R,px,lf a3,rd (Qw F.wf)];refine ae (xK F.wf (kz.fr ao) (((i2 e em).H w5).fr F) (z2 e em).2 (t.fr ao)) ?_;rintro _ h7 ⟨F7,z,rfl,z0,z1⟩;simp only[evs,eff,px];have G7:=G.fr F7;have bc:=F7.get ou;refine ac (c':=(Z.set q ⟨e.x,z,e.kn⟩).flatMap Ent.cells) F7.wf bc rfl rfl (aS aJ Z q e e2 (e.upd_b z)) ?_;rintro h8 o8 F8 n8;have aA:=(F.then F7).fresh F8 w5 a2;simp only[evs,seval,DF,ah,J,g4,ad,s1,s2 R,s2 (QI R F7),s2 (QI rB aA),px,lf a3,rd (Qw F.wf)];refine ac (c':=(Z.set q ⟨e.x,z,true⟩).flatMap Ent.cells) F8.wf o8 rfl rfl (by
      have:=aS aJ (Z.set q ⟨e.x,z,e.kn⟩) q ⟨e.x,z,e.kn⟩ iX (Ent.upd_k _ true);rwa[List.set_set]at this) ?_
     rintro h9 o9 F9 n9;have ax:=aA.fresh F9 w5 a2;have ab:Gs h9 h5.next 6 u ((Z.set q ⟨e.x,z,true⟩).flatMap Ent.cells):=by
      rcases G with⟨rfl,_⟩|⟨b0,n0,rfl,x1,x2,x3,x4⟩
      ·simp[vb]at hb
      ·have hb:b0=bu:=by simpa[vb]using hb
       subst hb;exact .inr ⟨_,n0,rfl,by rw[au aJ,Rd,<-au aJ Z];exact x1,x2,x3,o9⟩
     have i9:∀y∈Z.set q ⟨e.x,z,true⟩,IS P h5 y.x:=fun y m=>by grind
     have z9:∀y∈Z.set q ⟨e.x,z,true⟩,(1<=y.b/\y.b<=64)/\y.x.type<3:=fun y m=>by grind
     have a9:=(Ij (P:=P) w5 a1 ax ab oO i9 z9).at F9.wf;simp only[evs,seval,J];refine ae (kM a9.toEL a9.ok) ?_;have bm:unk (Z.set q ⟨e.x,z,true⟩)<unk E:=by
      rcases hu with⟨_,rfl⟩|hu
      ·rw[a4]at e2;cases e2;exact Gw _ _ _ a4 kq
      ·exact Nat.lt_of_le_of_lt (Gx _ _) hu
     rintro _ _ ⟨rfl,rfl|rfl⟩
     ·simp(disch:=omega) only[evs,seval,fwrap_i64,ah,eq_false (dI:¬(0:Int)<0)];refine rqn ⟨B.length-(j+1),oM,ax,j+1,_,iS,iX,iX,iX,iX,iX,oM,ab,by simp;omega,i9,z9,.inr bm,rfl⟩
     ·simp only[evs,seval,eq_true (dI:(0:Int)<13)];exact⟨D.then ax,_,_,_,_,[],rfl,EZs.nil,iS,fun z=>absurd rfl z⟩
    ·simp only[evs,seval,ah,J,a8,ad,R.len,(oM:¬(j:Int)<B.length)];refine⟨ao,_,_,_,_,Z,rfl,Ij w5 a1 F G oM i2 z2,oM,fun z=>?_⟩;rcases hu with⟨rfl,_⟩|hu
     ·omega
     ·exact hu
theorem ze(wf:WF h)(hP:∀z,P z->z<h.next)(kz:RZ h vK Ks)(as:EZs P h v E)(t:TZ h vT Tl):
 ay go 103 [.agg [vK,ZZ 12,ZZ w,ZZ o,ZZ l],v,an k d,vT] h fun u h'=>Fr [] h h'/\
  ∃v' s f e E',u=.tup [v',ZZ s,ZZ f,ZZ e]/\EZs P h' v' E'/\E'.length<=E.length:=by
 have v1:=kz.one;have a:=as.at wf;have hn:=a.n;obtain⟨h1,J,R,ad⟩:=av wf [vK,ZZ 12,ZZ w,ZZ o,ZZ l];obtain⟨h2,I,Z,D⟩:=av R.wf [ZX (k:Int),ZZ d];have ah:=R.then Z;have of:=Z.get ad;have lf{h'}(f:Fr [] h2 h'):=(f.get of).la 5
 have la{h'}(f:Fr [] h2 h'):=(f.get D).la 2
 refine aa ?_;simp only[evs,seval,<-J,<-I];have ub:∀X:List Ent,unk X<=X.length:=fun X=>List.length_filter_le _ _;refine aw (fun n env hh=>Fr [] h2 hh/\∃(v':V)(E':List Ent)(r:Int),env.get 12=some (ZZ r)/\env.get 1=some v'/\env.get 3=some vT/\env.get 4=some (.ptr h.next 0)/\env.get 6=some (.ptr h1.next 0)/\EZs P hh v' E'/\E'.length<=E.length/\n=unk E') (unk E) (by have:=ub E;omega) ?_ ?_
 ·exact⟨Qw Z.wf,v,E,0,iS,iS,iS,iS,iS,as.on wf ah,oM,rfl⟩
 ·rintro n env hh ⟨F,v',E',r,ab,g1,g3,g4,g6,a',n',rfl⟩;have U:=ah.then F;simp only[evs,g1,g3,g4,g6,lf F,la F];refine ae (AV F.wf (fun z m=>QH (hP z m) U.next) (kz.fr U) a' (t.fr U)) ?_;rintro _ h5 ⟨F5,v2,s2,f2,e2,E2,rfl,a2,n2,u2⟩;by_cases c:0<e2
  ·simp only[evs,seval,c];exact⟨U.then F5,_,_,_,_,[],rfl,EZs.nil,iS⟩
  by_cases c1:f2=0
  ·simp only[evs,seval,ab,c,eq_true c1];exact⟨U.then F5,_,_,_,_,E2,rfl,a2,oM⟩
  ·simp only[evs,seval,ab,c,eq_false c1];refine rqn ⟨unk E2,u2 c1,F.then F5,v2,E2,aB .i64 (r+1),iS,iS,iX,iX,iX,a2,oM,rfl⟩
end
open Go.Ev.St
abbrev NoB:Nat->Prop:=fun _=>False
theorem noS{S:List Nat}(w:WF h)(hS:∀z∈S,NoB z\/h.next<=z)(f:Fr S h h'):Fr [] h h':=
 Qx (Qw (S:=[]) w) f w iS (fun x m=>.inr ((hS x m).resolve_left id))
theorem EZ.kq(w:WF h)(a:EZ h v E):KQ NoB h v E:=fun S h' hS f=>⟨(a.fr (noS w hS f)).r,(a.fr (noS w hS f)).i⟩
theorem P5(w:WF h)(a:ItmH h x):IS NoB h x:=fun S h' hS f=>a.fr (noS w hS f)
theorem EZ.ev(w:WF h)(a:EZ h v E):∀e∈E,EV NoB h e:=fun e m=>⟨P5 w (a.i e m),a.z e m⟩
theorem KQ.ez(w:WF h)(a:KQ NoB h v E)(ev:∀e∈E,EV NoB h e)(n:E.length<=1024):EZ h v E:=⟨⟨a.rs w,n⟩,a.itm w,fun e m=>(ev e m).2⟩
structure NtH(h:Heap)(x:Nt):Prop where
 k:x.n.k<256
 a:i64 x.n.a
 c:i64 x.n.c
 t:i64 x.n.t
 r:Recs Itm.cells 4 h x.v x.n.Y
 i:∀y∈x.n.Y,ItmH h y
 n:x.n.Y.length<=2048
 v:x.v≠.sliceE
theorem NtH.fr{x:Nt}(a:NtH h x)(f:Fr [] h h'):NtH h' x:=⟨a.k,a.a,a.c,a.t,QI a.r f,fun y m=>(a.i y m).fr f,a.n,a.v⟩
theorem NtH.on{x:Nt}(a:NtH h x):az x.cells=true:=by
 have Z:=RI a.r;show az [_,_,_,_,x.v]=true;simp only[af,ag,Z];rfl
section
variable {P : Nat -> Prop} {h : Heap} {vK vT vN v : V} {Ks : List Knd} {E : List Ent} {Ns : List Nt} {Tl : List (Nat × Int)} {i s w o l d : Int} {k N : Nat}
theorem Ds{x:Nt}(wf:WF h)(hP:∀z,P z->z<h.next)(kz:RZ h vK Ks)(as:EZs P h v E)(U:Stb P h fun h=>NtH h x):
 ay go 154 [.agg [vK,ZZ 12],v,.agg x.cells] h fun u h'=>Fr [] h h'/\∃v' t E',u=.tup [v',ZZ t]/\EZs P h' v' E'/\(E'.length<=x.n.Y.length\/(x.n.k≠5/\E'.length<=E.length+x.n.Y.length)):=by
 have Z:=U.at wf;refine OQ.mono (B9 wf hP kz.rk kz.kh kz.r as.kq (as.ev wf) (as.at wf).n Z.r (fun y m S h' hS f=>(U S h' hS f).i y m) Z.n Z.v Z.k Z.a Z.c Z.t) ?_;rintro _ h' ⟨F,u',t,O,rfl,I,J,k3,R⟩;exact⟨F,u',t,O,rfl,KQ.ezs I (fun e m=>(J e m).2) k3,R⟩
theorem Jd(wf:WF h)(hP:∀z,P z->z<h.next)(kz:RZ h vK Ks)(as:EZs P h v E)(rn:Recs Nt.cells 5 h vN Ns)(hx:∀x∈Ns,Stb P h fun h=>NtH h x)(hN:Ns.length<=40)(hY:∀x∈Ns,x.n.Y.length<=4\/(x.n.k=5/\x.n.Y.length<=N))(hE:E.length<=N):
 ay go 159 [.agg [vK,ZZ 12],v,vN] h fun u h'=>Fr [] h h'/\∃v' j t E',u=.tup [v',ZZ j,ZZ t]/\EZs P h' v' E'/\E'.length<=N+4*Ns.length:=by
 have v1:=kz.one;obtain⟨h1,U,Z,I⟩:=av wf [vK,ZZ 12];have lK{h'}(f:Fr [] h1 h'):=(f.get I).la 2
 by_cases c32:32<Ns.length
 ·refine aa ?_;simp only[evs,seval,<-U,rn.len,eq_true (oM:(32:Int)<Ns.length)];exact⟨Z,_,_,_,[],rfl,EZs.nil,iS⟩
 refine aa ?_;simp only[evs,seval,<-U,rn.len,eq_false (oM:¬(32:Int)<Ns.length)];refine aw (fun n env hh=>Fr [] h1 hh/\∃(j:Nat)(v':V)(E':List Ent),env.get 9=some (ZZ j)/\env.get 1=some v'/\env.get 2=some vN/\env.get 3=some (.ptr h.next 0)/\j<=Ns.length/\EZs P hh v' E'/\E'.length<=N+4*j/\n=Ns.length-j) Ns.length oM ?_ ?_
 ·exact⟨Qw Z.wf,0,v,E,iS,iS,iS,iS,oM,as.on wf Z,oM,rfl⟩
 ·rintro n env hh ⟨F,j,v',E',D,g1,g2,g3,hj,a',nE,rfl⟩;have J:=Z.then F;have R:=QI rn J;by_cases c:j<Ns.length
  ·obtain⟨b,o,x,p1,_,p3,p4⟩:=Rg fJ R .i64 (j:Int) oM oM;rw[so]at p4;have xm:=Of p4;simp only[evs,seval,eff,D,g1,g2,g3,R.len,(oM:(j:Int)<Ns.length),p1,p3,lK F];refine ae (Ds F.wf (fun z m=>QH (hP z m) J.next) (kz.fr J) a' ((hx x xm).on wf J)) ?_;rintro _ h5 ⟨F5,v2,t2,E2,rfl,a2,n2⟩;have q2:E2.length<=N+4*(j+1):=by grind
   by_cases ct:0<t2
   ·simp only[evs,seval,DF,eff,D,g3,p3,lK F,ct];exact⟨J.then F5,_,_,_,[],rfl,EZs.nil,iS⟩
   ·simp(disch:=omega) only[evs,seval,DF,eff,fwrap_i64,D,g3,p3,lK F,ct];refine rqn ⟨Ns.length-(j+1),oM,F.then F5,j+1,v2,E2,iS,iS,iX,iX,oM,a2,q2,rfl⟩
  ·simp only[evs,seval,D,g1,g2,R.len,(oM:¬(j:Int)<Ns.length)];exact⟨J,_,_,_,E',rfl,a',oM⟩
def hOK(L:Int)(T:List (Nat×Int))(p:Nat×Int):Prop:=p.1≠0/\L<=p.2/\p.2<=2305843009213693952/\∀q∈T,q.1≠p.1
def Cz(L:Int)(T:List (Nat×Int)):Prop:=∀j p,T[j]? =some p->hOK L (T.take j) p
theorem BG{j:Nat}{p:Nat×Int}(r:Recs htC 2 h vT Tl)(n:Tl.length<=4096)(e:Tl[j]? =some p):
 ay go 106 [vT,ZZ (j:Int),ZZ l] h fun u h'=>h=h'/\∃e:Int,u=ZZ e/\0<=e/\(e=0↔hOK l (Tl.take j) p):=by
 have hj:=(QD.1 e).1;obtain⟨b,o,y,p1,p2,_,J⟩:=Rg dM r .i64 (j:Int) oM oM;rw[so,e]at J;cases J;have Z:ai h b o=some (ZX (p.1:Int)):=p2 0 oM;have R:ai h b (o+1)=some (ZZ p.2):=p2 1 oM;by_cases c0:p.1=0
 ·refine aa ?_;simp only[evs,seval,p1,Z,eq_true (oM:(p.1:Int)=0)];exact⟨_,rfl,oM,fun z=>by omega,fun z=>absurd c0 z.1⟩
 by_cases c1:p.2<l
 ·refine aa ?_;simp only[evs,seval,p1,Z,R,eq_false (oM:¬(p.1:Int)=0),c1];exact⟨_,rfl,oM,fun z=>by omega,fun z=>by have:=z.2.1;omega⟩
 by_cases c2:2305843009213693952<p.2
 ·refine aa ?_;simp only[evs,seval,p1,Z,R,eq_false (oM:¬(p.1:Int)=0),c1,c2];exact⟨_,rfl,oM,fun z=>by omega,fun z=>by have:=z.2.2.1;omega⟩
 refine aa ?_;simp only[evs,seval,p1,Z,R,eq_false (oM:¬(p.1:Int)=0),c1,c2];refine aw (fun n env hh=>h=hh/\∃q:Nat,env.get 7=some (ZZ q)/\env.get 0=some vT/\env.get 1=some (ZZ (j:Int))/\q<=j/\(∀y∈Tl.take q,y.1≠p.1)/\n=j-q) j oM ?_ ?_
 ·exact⟨rfl,0,iS,iS,iS,oM,iS,rfl⟩
 ·rintro n env hh ⟨rfl,q,U,g0,g1,hq,D,rfl⟩;by_cases c:q<j
  ·obtain⟨b',o',y,q1,q2,_,q4⟩:=Rg dM r .i64 (q:Int) oM oM;rw[so]at q4;have I:ai h b' o'=some (ZX (y.1:Int)):=q2 0 oM;by_cases ck:y.1=p.1
   ·simp only[evs,seval,DF,eff,U,g0,g1,(oM:(q:Int)<j),q1,I,p1,Z,eq_true (oM:(y.1:Int)=p.1)];refine⟨_,rfl,oM,fun z=>by omega,fun z=>absurd ck (z.2.2.2 y ?_)⟩;exact Of (by rw[Sc,if_pos c];exact q4)
   ·simp(disch:=omega) only[evs,seval,DF,eff,fwrap_i64,U,g0,g1,(oM:(q:Int)<j),q1,I,p1,Z,eq_false (oM:¬(y.1:Int)=p.1)];refine rqn ⟨j-(q+1),oM,rfl,q+1,iS,iX,iX,oM,?_,rfl⟩;intro z m;rw[QS,q4]at m;rcases Qp.1 m with m|m
    ·exact D z m
    ·grind
  ·have:q=j:=oM
   subst this;simp only[evs,seval,U,g1,(oM:¬(q:Int)<q)];exact⟨_,rfl,oM,fun _=>⟨c0,oM,oM,D⟩,fun _=>rfl⟩
theorem tL(r:Recs htC 2 h vT Tl)(hl:1<=l)(ab:l<=2305843009213693952)(n:Tl.length<281474976710656):
 ay go 46 [vT,ZZ l] h fun u h'=>h=h'/\∃i e:Int,u=.tup [ZZ i,ZZ e]/\0<=e/\(e=0↔Tl.length<=256/\Cz l Tl):=by
 by_cases c0:256<Tl.length
 ·refine aa ?_;simp only[evs,seval,r.len,eq_false (oM:¬l<1),eq_false (oM:¬2305843009213693952<l),eq_true (oM:(256:Int)<Tl.length)];exact⟨_,_,rfl,oM,fun z=>by omega,fun z=>by omega⟩
 refine aa ?_;simp only[evs,seval,r.len,eq_false (oM:¬l<1),eq_false (oM:¬2305843009213693952<l),eq_false (oM:¬(256:Int)<Tl.length)];refine aw (fun n env I=>h=I/\∃q:Nat,env.get 6=some (ZZ q)/\env.get 0=some vT/\env.get 1=some (ZZ l)/\q<=Tl.length/\(∀j p,j<q->Tl[j]? =some p->hOK l (Tl.take j) p)/\n=Tl.length-q) Tl.length oM ?_ ?_
 ·exact⟨rfl,0,iS,iS,iS,oM,fun j p c=>by omega,rfl⟩
 ·rintro n env I ⟨rfl,q,U,g0,g1,hq,D,rfl⟩;by_cases c:q<Tl.length
  ·have J:=Qq c;generalize Tl[q]=p at J;simp only[evs,seval,U,g0,g1,r.len,(oM:(q:Int)<Tl.length)];refine ae (BG r oM J) ?_;rintro _ _ ⟨rfl,e,rfl,e1,e2⟩;by_cases Z:e=0
   ·simp(disch:=omega) only[evs,seval,fwrap_i64,U,eq_true Z];refine rqn ⟨Tl.length-(q+1),oM,rfl,q+1,iS,iX,iX,oM,fun j p' cj R=>?_,rfl⟩;by_cases z:j=q
    ·grind
    ·grind
   ·simp only[evs,seval,U,eq_false Z];exact⟨_,_,rfl,oM,fun z=>absurd z Z,fun z=>absurd (e2.2 (z.2 q p J)) Z⟩
  ·simp only[evs,seval,U,g0,r.len,(oM:¬(q:Int)<Tl.length)];exact⟨_,_,rfl,oM,fun _=>⟨oM,fun j p R=>D j p (by have:=(QD.1 R).1;omega) R⟩,fun _=>rfl⟩
end
open Go.Ev.St
section
variable {h : Heap} {vK vT vN v v2 : V} {Ks : List Knd} {E E2 : List Ent} {Ns : List Nt} {Tl : List (Nat × Int)} {i s w o l d : Int} {k N : Nat}
theorem Cb(wf:WF h)(a:EZ h v E)(b:EZ h v2 E2):ay go 160 [v,v2,an k d] h fun u h'=>Fr [] h h'∧∃(k:Nat)(d:Int),u=an k d:=by
 have hn:=a.n;have hm:=b.n;obtain⟨h1,e_h1,F_h1,o_h1⟩:=av wf [.int .u64 (k:Int),.int .i64 d];obtain⟨h2,e_h2,F_h2,o_h2⟩:=av F_h1.wf [.int .u64 0,.int .i64 0];have n1:=hnx e_h1
 have F02:=F_h1.then F_h2;have o1:=F_h2.get o_h1;have l0:=o1.l1 0;have lA:=o1.la 2
 have a2:=a.fr F02;have b2:=b.fr F02;have fin{k:Nat}{d:Int}{h3}(o:Own h3 h1.next [.int .u64 (k:Int),.int .i64 d]):=o.la 2
 have key:∀{v:V}{E:List Ent}{j:Nat},EZ h2 v E→j<E.length→∃b o k,aP (.ixs 6) [v,.int .i64 (j:Int)]=some (.ptr b o)∧ai h2 b o=some (.int .u64 ((k:Nat):Int)):=fun{v E j} z hj=>by
  obtain⟨b,o,e,p1,p2,_⟩:=Recs.ix aJ z.r .i64 (j:Int) oM oM;exact⟨b,o,e.x.key,p1,p2 0 oM⟩
 by_cases c0:0<k;case neg=>
  refine aa ?_;simp only[evs,seval,←e_h1,←e_h2,l0,eq_false (oM:¬0<(k:Int))];refine ae (dF a2.r oM) ?_;rintro _ _ ⟨rfl,r,rfl,_⟩;by_cases c1:0<E2.length
  ·obtain⟨b',o',k',p1,p2⟩:=key b2 c1;simp only[Int.natCast_zero]at p1;simp only[evs,seval,l0,eq_false (oM:¬0<(k:Int)),b2.r.len,eq_true (oM:(0:Int)<E2.length),p1,p2];refine stu F_h2.wf o_h2 ?_;rintro h3 o3 F3 n3;simp only[evs,seval,fin o3];exact⟨F02.fresh F3 wf oM,_,_,rfl⟩
  ·simp only[evs,seval,l0,eq_false (oM:¬0<(k:Int)),b2.r.len,eq_false (oM:¬(0:Int)<E2.length)];refine stu F_h2.wf o_h2 ?_;rintro h3 o3 F3 n3;simp only[evs,seval,fin o3];exact⟨F02.fresh F3 wf oM,0,_,rfl⟩
 refine aa ?_;simp only[evs,seval,←e_h1,←e_h2,l0,eq_true (oM:0<(k:Int))];refine ae (dF b2.r oM) ?_;rintro _ _ ⟨rfl,r,rfl,_⟩;by_cases c1:0≤r
 ·simp only[evs,seval,c1,lA];refine stu F_h2.wf o_h2 ?_;rintro h3 o3 F3 n3;simp only[evs,seval,fin o3];exact⟨F02.fresh F3 wf oM,_,_,rfl⟩
 simp only[evs,seval,l0,c1];refine ae (dF a2.r oM) ?_;rintro _ _ ⟨rfl,r,rfl,_,hr⟩;by_cases c1:0≤r;case neg=>
  by_cases c2:0<E2.length
  ·obtain⟨b',o',k',p1,p2⟩:=key b2 c2;simp only[Int.natCast_zero]at p1;simp only[evs,seval,l0,eq_true (oM:0<(k:Int)),c1,b2.r.len,eq_true (oM:(0:Int)<E2.length),p1,p2];refine stu F_h2.wf o_h2 ?_;rintro h3 o3 F3 n3;simp only[evs,seval,fin o3];exact⟨F02.fresh F3 wf oM,_,_,rfl⟩
  ·simp only[evs,seval,l0,eq_true (oM:0<(k:Int)),c1,b2.r.len,eq_false (oM:¬(0:Int)<E2.length)];refine stu F_h2.wf o_h2 ?_;rintro h3 o3 F3 n3;simp only[evs,seval,fin o3];exact⟨F02.fresh F3 wf oM,0,_,rfl⟩
 simp(disch:=omega) only[evs,seval,fwrap_i64,l0,eq_true (oM:0<(k:Int)),c1];refine aw (fun n env hh=>h2=hh∧∃j:Nat,env.get 8=some (.int .i64 j)∧env.get 7=some (.int .i64 r)∧env.get 0=some v∧env.get 1=some v2∧env.get 6=some (.ptr h1.next 0)∧j≤E.length∧n=E.length-j) (E.length-(r+1).toNat) oM ?_ ?_
 ·exact⟨rfl,(r+1).toNat,by simp;omega,iS,iS,iS,iS,oM,oM⟩
 ·rintro n env hh ⟨rfl,j,g8,g7,g0,g1,g6,hj,rfl⟩;by_cases cj:j<E.length
  ·obtain⟨b',o',k',p1,p2⟩:=key a2 cj;simp only[evs,seval,g8,g0,g1,a2.r.len,(oM:(j:Int)<E.length),p1,p2];refine ae (dF b2.r oM) ?_;rintro _ _ ⟨rfl,q,rfl,_⟩;by_cases cq:0≤q
   ·simp only[evs,seval,g8,g0,g6,p1,p2,cq];refine stu F_h2.wf o_h2 ?_;rintro h3 o3 F3 n3;simp only[evs,seval,g6,fin o3];exact⟨F02.fresh F3 wf oM,_,_,rfl⟩
   ·simp(disch:=omega) only[evs,seval,fwrap_i64,g8,cq];refine rqn ⟨E.length-(j+1),oM,rfl,j+1,iS,iX,iX,iX,iX,oM,rfl⟩
  ·simp(disch:=omega) only[evs,seval,fwrap_i64,g8,g7,g0,a2.r.len,(oM:¬(j:Int)<E.length)];refine aw (fun n env hh=>h2=hh∧∃j:Int,env.get 9=some (.int .i64 j)∧env.get 0=some v∧env.get 1=some v2∧env.get 6=some (.ptr h1.next 0)∧-1≤j∧j<E.length∧n=(j+1).toNat) r.toNat oM ?_ ?_
   ·exact⟨rfl,r-1,iS,iX,iX,iX,oM,oM,oM⟩
   ·rintro n env hh ⟨rfl,j,g9,g0,g1,g6,hj,hj',rfl⟩;by_cases cj:0≤j
    ·obtain⟨jn,rfl⟩:∃jn:Nat,j=jn:=⟨j.toNat,oM⟩;obtain⟨b',o',k',p1,p2⟩:=key a2 (oM:jn<E.length);simp only[evs,seval,g9,g0,g1,cj,p1,p2];refine ae (dF b2.r oM) ?_;rintro _ _ ⟨rfl,q,rfl,_⟩;by_cases cq:0≤q
     ·simp only[evs,seval,g9,g0,g6,p1,p2,cq];refine stu F_h2.wf o_h2 ?_;rintro h3 o3 F3 n3;simp only[evs,seval,g6,fin o3];exact⟨F02.fresh F3 wf oM,_,_,rfl⟩
     ·simp(disch:=omega) only[evs,seval,fwrap_i64,g9,cq];refine rqn ⟨((jn:Int)-1+1).toNat,oM,rfl,(jn:Int)-1,iS,iX,iX,iX,oM,oM,rfl⟩
    ·by_cases c2:0<E2.length
     ·obtain⟨b',o',k',p1,p2⟩:=key b2 c2;simp only[Int.natCast_zero]at p1;simp only[evs,seval,g9,g1,g6,cj,b2.r.len,eq_true (oM:(0:Int)<E2.length),p1,p2];refine stu F_h2.wf o_h2 ?_;rintro h3 o3 F3 n3;simp only[evs,seval,g6,fin o3];exact⟨F02.fresh F3 wf oM,_,_,rfl⟩
     ·simp only[evs,seval,g9,g1,g6,cj,b2.r.len,eq_false (oM:¬(0:Int)<E2.length)];refine stu F_h2.wf o_h2 ?_;rintro h3 o3 F3 n3;simp only[evs,seval,g6,fin o3];exact⟨F02.fresh F3 wf oM,0,_,rfl⟩
end
open Go.Ev.St
structure Hd where
 key:Nat
 type:Nat
 k:Nat
 tg:Str
 ky:Str
 tx:Str
 va:V
 vc:V
def Hd.cells(x:Hd):List V:=[ZX (x.key:Int),ZY (x.type:Int),ZY (x.k:Int),.str x.tg,.str x.ky,x.va,.str x.tx,x.vc]
theorem eD(x:Hd):x.cells.length=8:=rfl
structure HdH(h:Heap)(x:Hd):Prop where
 t:x.type<3
 n:∃at' sub,NH h (.cons x.k x.tg x.ky at' x.tx x.va x.vc sub .nil)
theorem HdH.fr{x:Hd}(a:HdH h x)(f:Fr [] h h'):HdH h' x:=⟨a.t,let⟨at',sub,n⟩:=a.n;⟨at',sub,NH.fr f n⟩⟩
theorem HdH.on{x:Hd}(a:HdH h x):az x.cells=true:=by
 obtain⟨at',sub,n⟩:=a.n;have:=NH.ones n;simp only[NT.cells,Rq,af,ag,V.one,RU,Tu]at this;simp only[Hd.cells,af,ag,V.one,RU,Tu];exact this
structure HL(h:Heap)(v:V)(L:List Hd)(n:Nat):Prop where
 r:Recs Hd.cells 8 h v L
 i:∀x∈L,HdH h x
 n:L.length<=n
theorem HL.fr{L:List Hd}(a:HL h v L n)(f:Fr [] h h'):HL h' v L n:=⟨QI a.r f,fun x m=>(a.i x m).fr f,a.n⟩
def pC(p:V×List Hd):List V:=[p.1]
theorem cK(p:V×List Hd):(pC p).length=1:=rfl
structure PZ(h:Heap)(v:V)(P:List (V×List Hd))(n:Nat):Prop where
 r:Recs pC 1 h v P
 n3:P.length=3
 i:∀p∈P,HL h p.1 p.2 n
theorem PZ.fr{P:List (V×List Hd)}(a:PZ h v P n)(f:Fr [] h h'):PZ h' v P n:=⟨QI a.r f,a.n3,fun p m=>(a.i p m).fr f⟩
def SZ(h:Heap)(vR vP:V)(n:Nat):Prop:=∃R P,HL h vR R 1024/\PZ h vP P n
theorem SZ.fr(a:SZ h vR vP n)(f:Fr [] h h'):SZ h' vR vP n:=let⟨R,P,a,b⟩:=a;⟨R,P,a.fr f,b.fr f⟩
theorem SZ.one(a:SZ h vR vP n):vR.one=true/\vP.one=true:=let⟨_,_,a,b⟩:=a;⟨RI a.r,RI b.r⟩
def SZs(P:Nat->Prop)(h:Heap)(vR vP:V)(n:Nat):Prop:=∃R Q,Stb P h fun h=>HL h vR R 1024/\PZ h vP Q n
theorem SZs.at(a:SZs P h vR vP n)(w:WF h):SZ h vR vP n:=let⟨R,Q,a⟩:=a;⟨R,Q,(a.at w).1,(a.at w).2⟩
theorem SZs.on(a:SZs P h vR vP n)(w:WF h)(f:Fr [] h h'):SZs P h' vR vP n:=let⟨R,Q,a⟩:=a;⟨R,Q,a.on w f⟩
theorem SZs.step{P':Nat->Prop}{S0:List Nat}(a:SZs P h vR vP n)(w:WF h)(f:Fr S0 h h')(h0:∀z∈S0,P z\/h.next<=z)(hq:∀z,P' z->P z\/h.next<=z):SZs P' h' vR vP n:=let⟨R,Q,a⟩:=a;⟨R,Q,a.step w f h0 hq⟩
theorem SZ.empty{Q:List (V×List Hd)}(w:WF h)(hP:Stb P h fun h=>PZ h vP Q n):SZs P h .nils vP n:=⟨[],Q,fun S h' hS f=>⟨⟨SH,iS,iS⟩,hP S h' hS f⟩⟩
theorem Gn.append1{bytes:Nat}{x:V}{U:List V}(w:WF h)(g:Gn e h B v n cs)(s:Sl h e x 1 U)(J:0<e)(R:az U=true)(hB:B<=h.next)
 (Z:(2*(cs.length+1)+1024) *bytes<=281474976710656) {K:V->Heap->Prop} (k:∀v' h',Gs h' B e v' (cs++U)->vb v'=[h.next]->Fr (vb v) h h'->K v' h'):OQ (dK h e bytes v x) K:=by
 obtain⟨hl,⟨rfl,rfl|⟨b,I,rfl,o⟩⟩|⟨b,I,rfl,o⟩⟩:=g
 ·have:cs=[]:=Rx.1 oM;subst this;exact RB w (.inl ⟨rfl,rfl⟩) s J oM R hB Z k
 ·have:cs=[]:=Rx.1 oM;subst this;unfold dK;rw[s.srcLen];simp only[];rw[dJ oM,cond_false,s.srcCells];simp only[];rw[jG oM,cond_false,SN,o.ld];have:dL 0 (fQ ([]:List V) 0)=some []:=rfl;rw[this];simp only[kF,Rc,Ri];rw[(RW ..).mpr (eV Z),cond_true];exact(cD _ _ _).2 (k _ _ (.inr ⟨h.next,1,rfl,by simpa using s.1,oM,hB,Ro w U⟩) rfl (QW w U))
 ·by_cases c:n=0
  ·subst c;have:cs=[]:=Rx.1 oM;subst this;unfold dK;rw[s.srcLen];simp only[];rw[dJ oM,cond_false,s.srcCells];simp only[];have h1:(Nat.beq e e&&Nat.ble ((2*(0+1)+1024) *bytes) 281474976710656)=true:=by
    simp only[Rk,RU,RW];simpa using Z
   simp only[h1,cond_true,o.cells];rw[jG (oO:¬0+(0+1) *e<=([]:List V).length),cond_false];have h2:(Nat.ble (0+0*e) ([]:List V).length&&az U)=true:=by simp only[R,Tu,RW];simp
   simp only[h2,cond_true,cg,aU ([]:List V) (0*e) iS];obtain⟨h',e',D,f⟩:=iK (pos:=0+0*e) w o;rw[e'];simp only[QG];exact(cD _ _ _).2 (k _ _ (.inr ⟨h.next,1,rfl,by simpa using s.1,oM,hB,by simpa using D⟩) rfl f)
  ·exact RB w (.inr ⟨b,n,rfl,hl,oM,I,o⟩) s J oM R hB Z k
def bk:V->List Nat
 |.slice b _ _ _=>[b]
 |.sliceU b _ _ _=>[b]
 |_=>[]
theorem Cp{z:Nat}(m:z∈vb v):z∈bk v:=by cases v<;>simp[vb]at m<;>simp[bk,m]
theorem Gn.frZ{Z:List Nat}(g:Gn e h B v n cs)(f:Fr Z h h')(d:∀z∈Z,z∉bk v):Gn e h' B v n cs:=by
 obtain⟨hl,⟨rfl,rfl|⟨b,U,rfl,q⟩⟩|⟨b,U,rfl,q⟩⟩:=g
 ·exact yV
 ·exact⟨hl,.inl ⟨rfl,.inr ⟨b,U,rfl,f.own _ _ (fun m=>d _ m (by simp[bk])) q⟩⟩⟩
 ·exact⟨hl,.inr ⟨b,U,rfl,f.own _ _ (fun m=>d _ m (by simp[bk])) q⟩⟩
theorem Gs.gn(g:Gs h B e v cs)(Z:cs.length=n*e)(R:0<e):Gn e h B v n cs:=by
 rcases g with⟨rfl,rfl⟩|⟨b,m,rfl,J,I,U,o⟩
 ·refine⟨Z,.inl ⟨?_,.inl rfl⟩⟩;have:n*e=0:=by simpa using Z.symm
  rcases Nat.mul_eq_zero.1 this with q|q
  ·exact q
  ·omega
 ·have:=Tw R (Z.symm.trans J);subst this;exact⟨Z,.inr ⟨b,U,rfl,o⟩⟩
theorem Gn.bkB(g:Gn e h B v n cs):∀z∈bk v,B<=z:=by
 obtain⟨_,⟨_,rfl|⟨b,Z,rfl,_⟩⟩|⟨b,Z,rfl,_⟩⟩:=g
 ·simp[bk]
 ·simpa[bk]using Z
 ·simpa[bk]using Z
theorem Gn.bkl(w:WF h)(g:Gn e h B v n cs):∀z∈bk v,z<h.next:=by
 obtain⟨_,⟨_,rfl|⟨b,Z,rfl,o⟩⟩|⟨b,Z,rfl,o⟩⟩:=g
 ·simp[bk]
 ·simpa[bk]using o.lt w
 ·simpa[bk]using o.lt w
theorem Gn.get(g:Gn e h B v n cs)(f:Fr [] h h'):Gn e h' B v n cs:=g.fr f iS
theorem Gn.le{C:Nat}(g:Gn e h B v n cs)(l:C<=B):Gn e h C v n cs:=by
 obtain⟨hl,⟨rfl,rfl|⟨b,Z,rfl,q⟩⟩|⟨b,Z,rfl,q⟩⟩:=g
 ·exact yV
 ·exact⟨hl,.inl ⟨rfl,.inr ⟨b,oM,rfl,q⟩⟩⟩
 ·exact⟨hl,.inr ⟨b,oM,rfl,q⟩⟩
structure CO(h:Heap)(B:Nat)(P:List (V×List Hd)):Prop where
 g:∀p∈P,Gn 8 h B p.1 p.2.length (p.2.flatMap Hd.cells)
 s:∀(i j:Nat) p q,i≠j->P[i]? =some p->P[j]? =some q->∀z∈bk p.1,z∉bk q.1
theorem CO.get{P:List (V×List Hd)}(a:CO h B P)(f:Fr [] h h'):CO h' B P:=⟨fun p m=>(a.g p m).get f,a.s⟩
theorem CO.nil:CO h B []:=⟨iS,iS⟩
theorem CO.frZ{Z:List Nat}{P:List (V×List Hd)}(a:CO h B P)(f:Fr Z h h')(d:∀p∈P,∀z∈bk p.1,z∉Z):CO h' B P:=⟨fun p m=>(a.g p m).frZ f fun z hz hz'=>d p m z hz' hz,a.s⟩
theorem CO.push{P:List (V×List Hd)}{p:V×List Hd}(a:CO h B P)(g:Gn 8 h B p.1 p.2.length (p.2.flatMap Hd.cells))(d:∀q∈P,∀z∈bk p.1,z∉bk q.1):CO h B (P++[p]):=by
 refine⟨fun q m=>?_,fun i j q r n hi hj z hz hz'=>?_⟩
 ·rcases Qp.1 m with m|m
  ·exact a.g q m
  ·grind
 ·rw[List.getElem?_append]at hi hj;split at hi
  ·split at hj
   ·exact a.s i j q r n hi hj z hz hz'
   ·grind
  ·grind
open Go.Ev.St
section
variable {h : Heap} {vK vR vP v : V} {Ks : List Knd} {E : List Ent} {R : List Hd} {P : List (V × List Hd)} {i s w o l d : Int} {k n N : Nat}
theorem wA(wf:WF h)(a:HL h vR R 1024)(b:PZ h vP P n)(hn:n<=100000):ay go 164 [.agg [vR,vP]] h fun u h'=>Fr [] h h'/\∃vR' vP' P',u=.agg [vR',vP']/\
 Gs h' h.next 8 vR' (R.flatMap Hd.cells)/\Gs h' h.next 1 vP' (P'.flatMap pC)/\P'.length=3/\CO h' h.next P'/\(∀p∈P',∀z∈bk p.1,z∉vb vP')/\(∀z∈vb vR',z∉vb vP')/\(∀p∈P',∃q∈P,p.2=q.2):=by
 have r1:=RI a.r;have p1:=RI b.r;have nR:=a.n;obtain⟨h1,ax,aA,aE⟩:=av wf [vR,vP];obtain⟨h2,aj,I,ak⟩:=av aA.wf [.nils,.nils];obtain⟨h3,aF,J,aR⟩:=av I.wf [.nils,.nils];have n1:=hnx ax
 have n2:=hnx aj
 have n3:=hnx aF
 have D:=aA.then I;have a0:=D.then J;have os:=J.get (I.get aE);have oz:=J.get ak;have l0:=os.l1 0;have lo:=aR.l1 0;refine aa ?_;simp only[evs,seval,<-ax,<-aj,<-aF,l0,lo];have ones:az (R.flatMap Hd.cells)=true:=by
  simp only[az,List.all_flatMap,QM];intro x m;exact QM.1 (by simpa[az]using(a.i x m).on)
 refine Gs.append (n:=R.length) a0.wf (.inl ⟨rfl,rfl⟩) (a.fr a0).r oM ones (pi _) (by simp only[Rf];omega) ?_;intro vR' h4 GR F4;have F4:Fr [] h3 h4:=F4;rw[Ri]at GR;have Z:=GR.one;simp only[evs,seval];refine ac (c':=[vR',.nils]) F4.wf (F4.get aR) (by rw[aq Z];rfl) (by rw[aq Z];simp only[af,ag,Z];rfl) (by rw[aq Z];rfl) ?_;rintro h5 o5 F5 n5;have n4:=F4.next;have a5:=(J.then F4).fresh F5 D.wf (pi _);have bt:=D.then a5;have a2:=GR.keep F5 oO;simp only[evs];refine aw (fun m env U=>Fr [] h2 U/\∃(j:Nat)(u:V)(P':List (V×List Hd)),env.get 4=some (ZZ j)/\env.get 1=some (.ptr h.next 0)/\env.get 2=some (.ptr h1.next 0)/\env.get 3=some (.ptr h2.next 0)/\j<=3/\h5.next<=U.next/\
  Own U h2.next [vR',u]/\Gs U h3.next 8 vR' (R.flatMap Hd.cells)/\Gs U h5.next 1 u (P'.flatMap pC)/\P'.length=j/\CO U h5.next P'/\(∀p∈P',∀z∈bk p.1,z∉vb u)/\(∀z∈vb vR',z<h5.next)/\(∀p∈P',∃q∈P,p.2=q.2)/\m=3-j) 3 oM ?_ ?_
 ·refine⟨a5,0,.nils,[],iS,iS,iS,iS,oM,pi _,o5,a2,.inl ⟨rfl,rfl⟩,rfl,CO.nil,iS,fun z m=>?_,iS,rfl⟩;rcases a2 with⟨rfl,_⟩|⟨b,n,rfl,_,_,_,o⟩
  ·simp[vb]at m
  ·simp[vb]at m;subst m;exact o.lt F5.wf
 ·rintro m env U ⟨F,j,u,P',g4,g1,g2,g3,hj,hb,oo,a8,G,nP,co,ds,hR,hP,rfl⟩;have a6:=D.then F;have bn:=F.get (I.get aE);have ls{h'}(f:Fr [] U h'):=(f.get bn).l1 1;have b':=b.fr a6;have bw:=b.n3;by_cases c:j<3
  ·obtain⟨bo,ob,p,q1,q2,_,q4⟩:=Rg cK b'.r .i64 (j:Int) oM oM;rw[so]at q4;have pm:=Of q4;have hp:=b'.i p pm;have np:=hp.n;have lp{h'}(f:Fr [] U h'):ai h' bo ob=some p.1:=by
    obtain⟨bv,bu,p',s1,s2,_,s4⟩:=Rg cK (b'.fr f).r .i64 (j:Int) oM oM;rw[q1]at s1;cases s1;rw[so,q4]at s4;cases s4;exact s2 0 oM
   have lu{h'}(f:Fr [] U h'):=(f.get oo).l1 1;have rr:=Qw (S:=[]) F.wf;have FA:Fr [] U (halloc U []):=QW F.wf _;simp only[evs,seval,eff,g4,g1,g3,ls rr,b'.r.len,(oM:(j:Int)<P.length),lu rr,q1,ls FA,lp FA];refine tD (bytes:=120) F.wf (Recs.a hp.r) rfl oM oM ?_;intro q h6 Gq F6;have a9:=Gq.one;have n6:=F6.next;have bi:az [q]=true:=by simp only[af,ag,a9];rfl
   obtain⟨h7,ao,ad,a1⟩:=av F6.wf [q];have n7:=hnx ao
   have ab:=F6.then ad;simp only[evs,seval,eff,aq a9,<-ao];refine RB (bytes:=24) (n:=1) ad.wf (G.fr ab) (RM a1 rfl) oM oM bi oM (by rw[au cK];omega) ?_;intro u' h8 G8 e8 F8;have u1:=G8.one;have br:=Ru D.wf (F.then ab) F8 (fun z m=>by have:=G.vb z m;omega);have vu:∀z∈vb u,h5.next<=z/\z<U.next:=fun z m=>⟨G.vb z m,by
    rcases G with⟨rfl,_⟩|⟨b,n,rfl,_,_,_,o⟩
    ·simp[vb]at m
    ·simp[vb]at m;subst m;exact o.lt F.wf⟩
   have bm:=F8.own _ _ (fun m=>by have:=vu _ m;omega) (ab.get oo);simp only[evs,seval,eff,g3];refine ac (c':=[vR',u']) F8.wf bm (by rw[aq u1];rfl) (by rw[aq u1];simp only[af,ag,u1];rfl) (by rw[aq u1];rfl) ?_;rintro h9 o9 F9 n9;have n8:=F8.next;have a7:=(co.get ab).frZ F8 ds;have bf:=((Gq.get ad).le (oM:h5.next<=U.next)).frZ F8 fun z m m'=>by have:=vu z m;have:=Gq.bkB z m';omega
   have a4:∀z∈[h2.next],z<h5.next:=by grind
   have w8:=F8.wf;have bh:CO h9 h5.next (P'++[(q,p.2)]):=CO.push ⟨fun p m=>(a7.g p m).fr F9 a4,a7.s⟩ (bf.fr F9 a4) fun r m z hz ah=>by
    have:=Gq.bkB z hz;have:=(co.g r m).bkl F.wf z ah;omega
   have bc:=br.fresh F9 D.wf (pi _);simp(disch:=omega) only[evs,seval,DF,fwrap_i64,g4,ls rr,ls FA,lp rr,lp FA,lu rr,lu FA,lu F6,lu ab];refine rqn ⟨3-(j+1),oM,bc,j+1,u',P'++[(q,p.2)],iS,iX,iX,iX,oM,by have:=F9.next;omega,o9,(((a8.fr ab).dj F8 fun z m c=>by have:=vu z m;have:=hR z c;omega).keep F9 oO),(by simpa[pC]using G8.keep F9 oO),by simp[nP],bh,?_,hR,?_,rfl⟩
   ·intro r m z hz ah;rw[e8]at ah;simp at ah;rcases Qp.1 m with m|m
    ·have:=(co.g r m).bkl F.wf z hz;omega
    ·simp at m;subst m;have:=Gq.bkl F6.wf z hz;omega
   ·grind
  ·have bg:=oo.la 2
   have u1:=G.one;simp only[evs,seval,g4,g1,g2,g3,ls (Qw F.wf),b'.r.len,(oM:¬(j:Int)<P.length),bg];refine ac (c':=[vR',u]) F.wf (F.get ak) rfl (by simp only[V.cells,af,ag,u1,Z];rfl) rfl ?_;rintro h6 o6 F6 n6;have l6:=o6.la 2
   simp only[evs,seval,g2,l6];have lt:∀z∈[h1.next],z<h3.next:=by grind
   have n4:=F4.next;have a3:∀z∈[h1.next],z<h5.next:=by grind
   refine⟨a6.fresh F6 wf oM,vR',u,P',rfl,(a8.keep F6 lt).le oM,(G.keep F6 a3).le oM,oM,⟨fun p m=>((co.g p m).fr F6 a3).le oM,co.s⟩,ds,fun z m m'=>?_,hP⟩;have:=hR z m;have:=G.vb z m';omega
end
open Go.Ev.St
section
variable {X : Nat -> Prop} {h : Heap} {vK vR vP v : V} {Ks : List Knd} {E : List Ent} {R : List Hd} {P : List (V × List Hd)} {i s w o l d : Int} {k n N : Nat}
theorem D9{m:Int}(wf:WF h)(hX:∀z,X z->z<h.next)(as:SZs X h vR vP n)(hn:n<=100000)(hm:0<=m):ay go 162 [.agg [vR,vP],ZZ m] h fun u h'=>Fr [] h h'/\∃vR' vP' t,u=.tup [.agg [vR',vP'],ZZ t]/\SZs X h' vR' vP' n:=by
 obtain⟨R,P,as⟩:=as;obtain⟨hR,hP⟩:=as.at wf;have r1:=RI hR.r;have p1:=RI hP.r;have nR:=hR.n;obtain⟨h1,ah,aj,bc⟩:=av wf [vR,vP];obtain⟨h2,ad,ao,a4⟩:=av aj.wf [.nils,.nils];have n1:=hnx ah
 have n2:=hnx ad
 have I:=aj.then ao;have ls:=(ao.get bc).la 2
 refine aa ?_;simp only[evs,seval,<-ah,<-ad,ls];refine ae (wA I.wf (hR.fr I) (hP.fr I) hn) ?_;rintro _ h3 ⟨F3,vR',vP',P',rfl,GR,GP,nP,co,ds,dR,hx⟩;have bg:=I.then F3;have q1:=GR.one;have q2:=GP.one;obtain⟨h4,ak,ax,a5⟩:=av F3.wf [.nils,.nils];have n4:=hnx ak
 have n3:=F3.next;simp only[evs,seval,<-ak];refine ac (c':=[vR',vP']) ax.wf a5 rfl (by simp only[V.cells,af,ag,q1,q2];rfl) rfl ?_;rintro h5 o5 F5 n5;have J:=ax.fresh F5 F3.wf (pi _);have aE:=bg.then J;have aA:=GR.fr J;have a0:=GP.fr J;have a1:=co.get J;have lo{U h'}(nb:U≠h3.next)(f:Fr [U] h5 h'):=f.own _ _ (by simpa using Sx nb) o5;obtain⟨U,hb,hB,oP,_,bf⟩:=a0.ptr (n:=P'.length) (au cK P') oM (i:=0) oM;have px:∀j:Nat,j<3->aP (.ixs 1) [vP',ZZ (j:Int)]=some (.ptr U j):=fun j hj=>by
  obtain⟨b',a7,_,_,px,_⟩:=a0.ptr (n:=P'.length) (au cK P') oM (i:=j) oM;rw[hb]at a7;cases a7;simpa using px .i64
 have nb:U≠h3.next:=fun e=>by
  rcases GP with⟨rfl,z⟩|⟨b,k,rfl,_,_,_,z⟩
  ·simp[vb]at hb
  ·simp[vb]at hb;subst hb;have:=z.lt F3.wf;omega
 have Z{h'}(o:Own h' h3.next [vR',vP']):=o.l1 1;have gl:aP .lenS [vP']=some (ZZ 3):=by
  have:=(SM (n:=P'.length) a0 (au cK P') oM).len;rw[nP]at this;exact this
 have up{h'}(f:Fr [U] h5 h'):Fr [h1.next,U] h5 h':=Qx (Qw (S:=[]) F5.wf) f F5.wf iS (fun x hx=>.inl (by simp at hx;simp[hx]))
 -- what a pool is, whatever is written to the pools' array
 let RS:V×List Hd->Prop:=fun p=>(Stb (fun z=>X z\/z=h1.next\/z=U) h5 fun h'=>Recs Hd.cells 8 h' p.1 p.2)/\(∀x∈p.2,Stb X h fun h=>HdH h x)/\p.2.length<=n;have R0:∀p∈P',RS p:=fun p m=>⟨fun S h' hS f=>((a1.g p m).frZ f fun z hz hz'=>by
  have bB:=(a1.g p m).bkB _ hz';have bl:=(a1.g p m).bkl F5.wf _ hz';rcases hS z hz with(q|rfl|rfl)|q
  ·have:=hX z q;omega
  ·omega
  ·exact ds p m _ hz' (by rw[hb];simp)
  ·omega).sl,let⟨q,qm,e⟩:=hx p m;e▸⟨fun x mx S h' hS f=>((as S h' hS f).2.i q qm).i x mx,(hP.i q qm).n⟩⟩
 simp only[evs];refine aw (fun z env D=>Fr [U] h5 D/\∃(j:Nat)(t:Int)(Q:List (V×List Hd)),env.get 8=some (ZZ j)/\env.get 7=some (ZZ t)/\env.get 1=some (ZZ m)/\env.get 4=some (.ptr h1.next 0)/\env.get 6=some (.ptr h3.next 0)/\j<=3/\Q.length=3/\Own D U (Q.flatMap pC)/\(∀p∈Q,RS p)/\z=3-j) 3 oM ?_ ?_
 ·exact⟨Qw F5.wf,0,0,P',iS,iS,iS,iS,iS,oM,nP,oP,R0,rfl⟩
 ·rintro z env D ⟨F,j,t,Q,g8,g7,g1,g4,g6,hj,nQ,oQ,hQ,rfl⟩;by_cases c:j<3
  ·simp only[evs,seval,g8,g6,Z (lo nb F),gl,(oM:(j:Int)<3)];have a9:Q[j]? =some Q[j]:=Qq oM;refine aw (fun z env D=>Fr [U] h5 D/\∃(t:Int)(Q:List (V×List Hd))(p:V×List Hd),env.get 8=some (ZZ j)/\env.get 7=some (ZZ t)/\env.get 1=some (ZZ m)/\env.get 4=some (.ptr h1.next 0)/\env.get 6=some (.ptr h3.next 0)/\Q.length=3/\Own D U (Q.flatMap pC)/\(∀p∈Q,RS p)/\Q[j]? =some p/\z=p.2.length) (Q[j]).2.length (by have:=(hQ _ (Of a9)).2.2;omega) ?_ ?_
   ·exact⟨F,t,Q,_,iX,iX,iX,iX,iX,nQ,oQ,hQ,a9,rfl⟩
   ·rintro z env D ⟨F,t,Q,p,g8,g7,g1,g4,g6,nQ,oQ,hQ,ej,rfl⟩;have rp:=hQ p (Of ej);have rr:=rp.1 [h1.next,U] D iS (up F);have l0:ai D U j=some p.1:=by
     rw[oQ.ld1,fq];have:=dE cK Q j;rw[Sj]at this;rw[show(Q.flatMap pC)[j]? =((Q.flatMap pC).drop j)[0]? by rw[Rl];simp,this,aX ej];rfl
    by_cases cl:m<(p.2.length:Int)
    ·have v1:=RI rr;obtain⟨v',e',s'⟩:=Sl.from' rr oM (Sl.ne rr oM) .i64 1 oM oM;simp only[evs,seval,eff,g8,g1,g6,Z (lo nb F),px j c,l0,rr.len,cl,e'];have ab:=RI s';refine ac (c':=(Q.set j (v',p.2.drop 1)).flatMap pC) F.wf oQ (by rw[aq ab];rfl) (by rw[aq ab];simp only[af,ag,ab];rfl) (by
      have:=aS cK (y:=(v',p.2.drop 1)) (o:=0) (vs:=[v']) Q j p ej rfl;rw[aq ab];simpa using this) ?_
     rintro h6 o6 F6 n6;have bh:=Qx F F6 F5.wf (fun x hx=>.inl hx) (fun x hx=>.inl hx);simp only[evs,seval,DF,g7,Z (lo nb F),l0];refine rqn ⟨(p.2.drop 1).length,by rw[Sq];omega,bh,aB .i64 (t+1),Q.set j (v',p.2.drop 1),(v',p.2.drop 1),iX,iS,iX,iX,iX,by simp[nQ],o6,fun y my=>?_,by rw[Td oM],rfl⟩;rcases Ra my with my|rfl
     ·exact hQ y my
     ·refine⟨fun S h' hS f=>?_,fun x mx=>rp.2.1 x (Sf mx),by simp;have:=rp.2.2;omega⟩;have a6:=rp.1 S h' hS f;obtain⟨v2,e2,s2⟩:=Sl.from' a6 oM (Sl.ne a6 oM) .i64 1 oM oM;rw[e']at e2;cases e2;have:=dE eD p.2 1;unfold Recs;rw[<-this];simpa using s2
    ·simp(disch:=omega) only[evs,seval,fwrap_i64,g8,g1,g6,Z (lo nb F),px j c,l0,rr.len,cl];refine rqn ⟨3-(j+1),oM,F,j+1,t,Q,iS,iX,iX,iX,iX,oM,nQ,oQ,hQ,rfl⟩
  ·have l2:=(lo nb F).la 2
   have o1:=F.own _ _ oO (J.get (F3.get a4));simp only[evs,seval,g8,g4,g6,Z (lo nb F),gl,(oM:¬(j:Int)<3),l2];refine ac (c':=[vR',vP']) F.wf o1 rfl (by simp only[V.cells,af,ag,q1,q2];rfl) rfl ?_;rintro h6 o6 F6 n6;have l6:=o6.la 2
   simp only[evs,seval,g7,g4,l6];have bn:=hB;have aF:Fr [h1.next,U] h5 h6:=Qx F F6 F5.wf (fun x hx=>.inl (by simp at hx;simp[hx])) (fun x hx=>.inl (by simp at hx;simp[hx]));have bi:=Ru wf aE aF oO;have a3:=F6.own _ _ oO oQ;have br:=aF.next;refine⟨bi,vR',vP',t,rfl,R,Q,fun S h' hS f=>?_⟩;have ft:Fr (h1.next::U::S) h5 h':=Qx aF f F5.wf (fun x m=>.inl (by simp at m;rcases m with rfl|rfl<;>simp)) (fun x m=>.inl iX)
   have a8:∀z∈h1.next::U::S,X z\/h.next<=z:=fun z m=>by
    have:=aE.next;rcases Qy.1 m with rfl|m
    ·exact .inr oM
    rcases Qy.1 m with rfl|m
    ·exact .inr oM
    rcases hS z m with q|q
    ·exact .inl q
    ·exact .inr oM
   have f0:=Qx aE ft wf iS (fun x m=>.inl m);obtain⟨aR,bo⟩:=as _ h' a8 f0;refine⟨⟨SM (n:=R.length) (aA.dj ft (fun z mz a2=>?_)) (au eD R) oM,aR.i,nR⟩,⟨?_,nQ,fun p mp=>⟨?_,fun x mx=>(hQ p mp).2.1 x mx _ h' a8 f0,(hQ p mp).2.2⟩⟩⟩
   ·have v1:=aA.vb _ a2;have v2:=aA.lt F5.wf _ a2;rcases Qy.1 mz with rfl|mz
    ·omega
    rcases Qy.1 mz with rfl|mz
    ·exact dR _ a2 (by rw[hb];simp)
    rcases hS z mz with q|q
    ·have:=hX z q;omega
    ·omega
   ·have bm:=f.own _ _ (fun m=>by
     rcases hS _ m with q|q
     ·have:=hX _ q;omega
     ·have:=a3.lt F6.wf;omega) a3
    exact SM (n:=Q.length) (bf h' _ bm (by rw[au cK,au cK,nQ,nP])) (au cK Q) oM
   ·refine(hQ p mp).1 _ h' (fun z m=>?_) ft;rcases Qy.1 m with rfl|m
    ·exact .inl (.inr (.inl rfl))
    rcases Qy.1 m with rfl|m
    ·exact .inl (.inr (.inr rfl))
    rcases hS z m with q|q
    ·exact .inl (.inl q)
    ·exact .inr oM
end
structure Cfg where
 view:Int
 over:Int
 least:Int
 vK:V
 Ks:List Knd
 cap:Int
 arena:Int
 flaw:Nat
def Cfg.cells(c:Cfg):List V:=[ZZ c.view,ZZ c.over,ZZ c.least,c.vK,ZZ c.cap,ZZ c.arena,ZY (c.flaw:Int)]
structure CfH(h:Heap)(c:Cfg):Prop where
 ks:Recs Knd.cells 9 h c.vK c.Ks
 each:∀q∈c.Ks,KndH h q
 n:c.Ks.length<=4096
theorem CfH.fr{c:Cfg}(a:CfH h c)(f:Fr [] h h'):CfH h' c:=⟨a.ks.fr f,fun q m=>(a.each q m).fr f,a.n⟩
theorem CfH.one{c:Cfg}(a:CfH h c):az c.cells=true:=by
 have:=(RI a.ks);simp only[Cfg.cells,af,ag,this];rfl
def okP(q:Knd):Bool:=decide (0<=q.pool)&&decide (q.pool<=16)
def okL(least:Int)(q:Knd):Bool:=decide (least<=q.base)
theorem Lk{q:Knd}(w:WF h)(a:KndH h q):ay go 107 [.agg q.cells] h fun u h'=>u=.bool (!okP q)/\Fr [] h h':=by
 obtain⟨U,e_h1,F_h1,Z⟩:=av w q.cells;have l8:=Z.l1 8;by_cases c0:q.pool<0
 ·refine aa ?_;simp[evs,<-e_h1,l8,c0];exact⟨by simp[okP];omega,F_h1⟩
 by_cases c1:16<q.pool
 ·exact ybk
 exact ybk
theorem Ll{q:Knd}(w:WF h)(a:KndH h q)(R:∀h',Fr [] h h'->ai h' cb 2=some (ZZ least)):ay go 50 [.agg q.cells,.ptr cb 0] h fun u h'=>u=.bool (!okL least q)/\Fr [] h h':=by
 obtain⟨U,e_h1,F_h1,Z⟩:=av w q.cells;have l6:=Z.l1 6;have lc:=R U F_h1;by_cases c0:q.base<least
 ·exact ybj
 exact ybj
theorem KD{h:Heap}{v:V}{L:List Knd}(w:WF h)(a:Recs Knd.cells 9 h v L)(hL:∀q∈L,KndH h q)(hn:L.length≤4096):
 ay go 110 [v,.func (.func 107) [] []] h fun u h'=>∃r:Int,u=.int .i64 r∧(decide (0≤r)= !L.all okP)∧Fr [] h h':=by
 refine aa ?_;simp only[evs,seval,Recs.len a];refine aw (fun k env hh=>Fr [] h hh∧∃(i:Nat),env.get 8=some (.int .i64 i)∧env.get 7=some (.int .i64 L.length)∧env.get 0=some v∧env.get 1=some (.func (.func 107) [] [])∧
  i≤L.length∧(L.drop i).all okP=L.all okP∧k=L.length-i) L.length oM ?_ ?_
 ·exact⟨Fr.refl w,0,iS,iS,iS,iS,oM,rfl,rfl⟩
 ·rintro k env hh ⟨F,i,g8,g7,g0,g1,hi,e,rfl⟩;by_cases hlt:i<L.length
  ·have hlt':(i:Int)<L.length:=oM
   obtain⟨b,o,s,e1,_,e3,e5⟩:=(Recs.fr a F).ix aW .i64 i oM hlt';rw[Int.toNat_natCast]at e5;rw[aX e5,List.all_cons]at e;have hs:=hL s (List.mem_of_getElem? e5);simp only[evs,seval,g8,g7,g0,g1,hlt',e1,e3];refine aN (Lk F.wf (hs.fr F)) fun h1 F1=>?_;cases c:okP s
   ·simp only[evs,seval];rw[c]at e;exact⟨i,rfl,by rw[←e];simp,F.then F1⟩
   ·simp(disch:=omega) only[evs,seval,fwrap_i64,g8];rw[c]at e;refine rqn ⟨L.length-(i+1),oM,F.then F1,i+1,iS,iX,iX,iX,oM,by simpa using e,rfl⟩
    done
  ·simp only[evs,seval,g8,g7,(oM:¬(i:Int)<L.length)];rw[List.drop_of_length_le oM]at e;exact⟨-1,rfl,by rw[←e];rfl,F⟩
theorem KF(w:WF h)(a:Recs Knd.cells 9 h v L)(U:∀q∈L,KndH h q)(Z:L.length<=4096):
 ay go 52 [v,.func (.func 107) [] []] h fun u h'=>u=.bool (!L.all okP)/\Fr [] h h':=by
 refine aa ?_;simp[evs];refine ae (KD w a U Z) ?_;exact yak
theorem KE{h:Heap}{v:V}{L:List Knd}{cb:Nat}{least:Int}(w:WF h)(a:Recs Knd.cells 9 h v L)(hL:∀q∈L,KndH h q)(hn:L.length≤4096)(hc:∀h',Fr [] h h'→ai h' cb 2=some (.int .i64 least)):
 ay go 110 [v,.func (.func 50) [] [.ptr cb 0]] h fun u h'=>∃r:Int,u=.int .i64 r∧(decide (0≤r)= !L.all (okL least))∧Fr [] h h':=by
 refine aa ?_;simp only[evs,seval,Recs.len a];refine aw (fun k env hh=>Fr [] h hh∧∃(i:Nat),env.get 8=some (.int .i64 i)∧env.get 7=some (.int .i64 L.length)∧env.get 0=some v∧env.get 1=some (.func (.func 50) [] [.ptr cb 0])∧
  i≤L.length∧(L.drop i).all (okL least)=L.all (okL least)∧k=L.length-i) L.length oM ?_ ?_
 ·exact⟨Fr.refl w,0,iS,iS,iS,iS,oM,rfl,rfl⟩
 ·rintro k env hh ⟨F,i,g8,g7,g0,g1,hi,e,rfl⟩;by_cases hlt:i<L.length
  ·have hlt':(i:Int)<L.length:=oM
   obtain⟨b,o,s,e1,_,e3,e5⟩:=(Recs.fr a F).ix aW .i64 i oM hlt';rw[Int.toNat_natCast]at e5;rw[aX e5,List.all_cons]at e;have hs:=hL s (List.mem_of_getElem? e5);simp only[evs,seval,g8,g7,g0,g1,hlt',e1,e3];refine aN (Ll F.wf (hs.fr F) (fun h2 f=>hc h2 (F.then f))) fun h1 F1=>?_;cases c:(okL least) s
   ·simp only[evs,seval];rw[c]at e;exact⟨i,rfl,by rw[←e];simp,F.then F1⟩
   ·simp(disch:=omega) only[evs,seval,fwrap_i64,g8];rw[c]at e;refine rqn ⟨L.length-(i+1),oM,F.then F1,i+1,iS,iX,iX,iX,oM,by simpa using e,rfl⟩
    done
  ·simp only[evs,seval,g8,g7,(oM:¬(i:Int)<L.length)];rw[List.drop_of_length_le oM]at e;exact⟨-1,rfl,by rw[←e];rfl,F⟩
theorem KG(w:WF h)(a:Recs Knd.cells 9 h v L)(U:∀q∈L,KndH h q)(Z:L.length<=4096)(R:∀h',Fr [] h h'->ai h' cb 2=some (ZZ least)):
 ay go 52 [v,.func (.func 50) [] [.ptr cb 0]] h fun u h'=>u=.bool (!L.all (okL least))/\Fr [] h h':=by
 refine aa ?_;simp[evs];refine ae (KE w a U Z R) ?_;exact yak
theorem GZ{c:Cfg}(w:WF h)(a:CfH h c):ay go 109 [.agg c.cells] h fun u h'=>u=.agg [c.vK,ZZ c.cap]/\Fr [] h h':=by
 have on:=(RI a.ks);obtain⟨h1,U,J,R⟩:=av w c.cells;obtain⟨h2,I,Z,D⟩:=av J.wf [.nils,ZZ 0];have l3:=(Z.get R).l1 3;have l4:=(Z.get R).l1 4;refine aa ?_;simp[evs,<-U,<-I,l3,l4,aq on];refine ac Z.wf D rfl (by simp only[V.cells,af,ag,on];rfl) rfl ?_;rintro h3 o3 F3 n3;have l5:=o3.la 2
 have n1:=hnx U
 simp[evs,l5];exact(J.then Z).fresh F3 w oM
def iT(c:Cfg):Bool:=okR c.Ks c.cap&&(decide (1<=c.arena)&&(decide (c.arena<=65536)&&c.Ks.all okP))
theorem KR{c:Cfg}(w:WF h)(a:CfH h c):ay go 51 [.agg c.cells] h fun u h'=>u=ZZ (if iT c then 0 else 7)/\Fr [] h h':=by
 obtain⟨h1,I,Z,R⟩:=av w c.cells;have l7:=R.la 7
 refine aa ?_;simp[evs,<-I,l7];refine aN (GZ Z.wf (a.fr Z)) fun h2 F2=>?_;have J:=(a.fr Z).fr F2;simp only[evs];refine aN (Gi F2.wf J.ks J.each J.n) fun h3 D=>?_;have U:=(Z.then F2).then D;cases c0:okR c.Ks c.cap
 ·simp[evs,(oM:¬(7:Int)=0)];exact⟨by simp[iT,c0],U⟩
 have o3:=D.get (F2.get R);have l5:=o3.l1 5;have l3:=o3.l1 3;by_cases c1:c.arena<1
 ·simp[evs,l5,c1];exact⟨by simp[iT];omega,U⟩
 by_cases c2:65536<c.arena
 ·simp[evs,l5,c1,c2];exact⟨by simp[iT];omega,U⟩
 simp[evs,l5,l3,c1,c2];refine aN (KF D.wf (J.fr D).ks (J.fr D).each J.n) fun h4 F4=>?_;have e:iT c=c.Ks.all okP:=by simp[iT,c0,(oM:1<=c.arena),(oM:c.arena<=65536)]
 rw[e];cases c3:c.Ks.all okP
 ·simp[evs];exact U.then F4
 ·simp[evs];exact U.then F4
def cfB(c:Cfg):Bool:=decide (1<=c.view)&&(decide (c.view<=2147483648)&&(decide (0<=c.over)&&(decide (c.over<=16)&&(decide (1<=c.least)&&(decide (c.least<=2305843009213693952)&&(decide (c.flaw<=6)&&(iT c&&c.Ks.all (okL c.least))))))))
theorem BW{h:Heap}{c:Cfg}(w:WF h)(a:CfH h c):ay go 19 [.agg c.cells] h fun u h'=>u=.int .i64 (if cfB c then 0 else 7)∧Fr [] h h':=by
 obtain⟨h1,e_h1,F_h1,o_h1⟩:=av w c.cells;have l0:=o_h1.l1 0;have l1:=o_h1.l1 1;have l2:=o_h1.l1 2;have l6:=o_h1.l1 6;have l7:=o_h1.la 7
 by_cases c0:c.view<1
 ·refine aa ?_;simp[evs,←e_h1,l0,c0];exact⟨by simp[cfB];omega,F_h1⟩
 by_cases c1:2147483648<c.view
 ·refine aa ?_;simp[evs,←e_h1,l0,c0,c1];exact⟨by simp[cfB];omega,F_h1⟩
 by_cases c2:c.over<0
 ·refine aa ?_;simp[evs,←e_h1,l0,l1,c0,c1,c2];exact⟨by simp[cfB];omega,F_h1⟩
 by_cases c3:16<c.over
 ·refine aa ?_;simp[evs,←e_h1,l0,l1,c0,c1,c2,c3];exact⟨by simp[cfB];omega,F_h1⟩
 by_cases c4:c.least<1
 ·refine aa ?_;simp[evs,←e_h1,l0,l1,l2,c0,c1,c2,c3,c4];exact⟨by simp[cfB];omega,F_h1⟩
 by_cases c5:2305843009213693952<c.least
 ·refine aa ?_;simp[evs,←e_h1,l0,l1,l2,c0,c1,c2,c3,c4,c5];exact⟨by simp[cfB];omega,F_h1⟩
 by_cases c6:6<c.flaw
 ·refine aa ?_;simp[evs,←e_h1,l0,l1,l2,l6,c0,c1,c2,c3,c4,c5,(oM:(6:Int)<(c.flaw:Int))];exact⟨by simp[cfB];omega,F_h1⟩
 refine aa ?_;simp[evs,←e_h1,l0,l1,l2,l6,l7,c0,c1,c2,c3,c4,c5,(oM:¬(6:Int)<(c.flaw:Int))];refine aN (KR F_h1.wf (a.fr F_h1)) fun h2 F2=>?_;have F02:=F_h1.then F2;cases c7:iT c
 ·simp[evs,(oM:¬(7:Int)=0)];exact⟨by simp[cfB,c7],F02⟩
 have l3:=(F2.get o_h1).l1 3;simp[evs,l3];refine aN (KG (least:=c.least) F2.wf (a.fr F02).ks (a.fr F02).each a.n (fun h' f=>(f.get (F2.get o_h1)).ld1 2)) fun h3 F3=>?_;have e:cfB c=c.Ks.all (okL c.least):=by simp[cfB,c7,(oM:1≤c.view),(oM:c.view≤2147483648),(oM:0≤c.over),(oM:c.over≤16),(oM:1≤c.least),(oM:c.least≤2305843009213693952),(oM:c.flaw≤6)]
 rw[e];cases c8:c.Ks.all (okL c.least)
 ·simp[evs];exact F02.then F3
 ·simp[evs];exact F02.then F3
end Go.Ev.Lay
