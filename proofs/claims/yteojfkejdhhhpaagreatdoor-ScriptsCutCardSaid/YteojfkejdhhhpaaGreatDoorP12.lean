/- An evaluator of the program, and contracts over it: ScW to TxI. -/
import Derived.Test.YteojfkejdhhhpaaGreatDoorP09
import Derived.Test.YteojfkejdhhhpaaGreatDoorP11
set_option linter.unusedSimpArgs false
set_option linter.unusedVariables false
set_option linter.constructorNameAsVariable false
set_option linter.unnecessarySimpa false
set_option maxRecDepth 4000
namespace Go.Ev.Lay
variable{k n0 n b i:Nat}{h:Heap}{x:Itm}{v:V}{tg:Str}{sl:List Slo}
open Go.Ev.St
theorem xZ(n:Int):i64 (aB .i64 n):=by
 have:aB .i64 n=IntKind.wrap .i64 n:=bq _ _;rw[this];simp only[i64,IntKind.wrap,IntKind.bits,IntKind.signed];simp;omega
theorem Iu{P:Nat->Prop}{B key N:Nat}{to:Int}{vN vT:V}{Ns:List Nt}{Tl:List (Nat×Int)}(w:WF h)(hP:∀z,P z->z<B)(gN:Gs h B 5 vN (Ns.flatMap Nt.cells))(sN:∀y∈Ns,Stb P h fun h=>NtH h y)(gT:Gs h B 2 vT (Tl.flatMap htC))
 (hk:k<256) (ht:i64 to) (hq:key<18446744073709551616) (n:Ns.length<=4) (hY:∀y∈Ns,y.n.Y.length<=4\/(y.n.k=5/\y.n.Y.length<=N)) (nT:Tl.length<=4) (zT:∀x∈Tl,(1<=x.2/\x.2<=64)/\x.1<18446744073709551616):Stb P h fun h=>EvtH h ⟨k,to,key,vN,Ns,vT,Tl⟩ N:=fun S h' hS f=>by
 have dj{e:Nat}{v:V}{cs:List V}(g:Gs h B e v cs):Gs h' B e v cs:=g.dj f fun z m m'=>by
  have v1:=g.vb _ m';have v2:=g.lt w _ m';rcases hS z m with q|q
  ·grind
  ·omega
 exact⟨hk,ht,hq,SM (dj gN) (au fJ _) oM,fun y my=>sN y my S h' hS f,n,hY,⟨SM (dj gT) (au dM _) oM,by show Tl.length<=256;omega,fun x m=>(zT x m).1,fun x m=>(zT x m).2⟩⟩
abbrev ntC(C:Nat):List V:=[ZY 2,ZZ (C:Int),ZZ 1,ZZ 0,.nils]
abbrev Mc:List IStep:=[zn (.ld 6 true (.v 3)),zn (.ld 17 true (.v 4)),zm 2,zc 99 [.l 2,.l 1,.l 0],zp (.ixa 6 1) [.v 3,.c (ZZ 3)],zL,zp (.ib .rem) [.l 0,.c (ZY 12)],zp (.conv .i64) [.l 0],zp (.build [(ZY 0),(ZZ 0),(ZZ 0),(ZZ 0),.nils] [(0,1),(1,1),(2,1)]) [.c (ZY 2),.l 0,.c (ZZ 1)]]
abbrev Mb:IStep:=zn (.bs [(ZY 0),(ZZ 0),(ZZ 0),(ZZ 0),.nils] [(0,5)] 1 [.l 0])
abbrev Ma:List IStep:=[zn (.ap 5 56 (.l 6) (.l 0)),zA 3 9,zn (.st 1 (.l 0) (.l 1))]
theorem Ow{env:T V}{pb mb C:Nat}{b3:Int}{v2:V}{cs ms:List V}(g3:env.get 3=some (.ptr pb 0))(g4:env.get 4=some (.ptr mb 0))(g2:env.get 2=some v2)(l6:aH h pb 0 6=some cs)(ad:aH h mb 0 17=some ms)(l3:ai h pb 3=some (ZY b3))
 (rm:aP (.ib .rem) [ZY b3,ZY 12]=some (ZY (C:Int))) (hC:C<12):
 lay go env [9] (Mc++Mb::Ma) 0 [] h=some ((Mc.map fun s=>(s,none))++(Mb,some (.slice h.next 0 1 1,ntC C))::(Ma.map fun s=>(s,none)),halloc h (ntC C)):=by
 have ah:∀(loc:List V),aM go loc env h (.ld 6 true (.v 3))=some (.agg cs,h):=fun loc=>by
  simp only[aM,jN,g3,gV,l6];rfl
 have ab:∀(loc:List V),aM go loc env h (.ld 17 true (.v 4))=some (.agg ms,h):=fun loc=>by
  simp only[aM,jN,g4,gV,ad];rfl
 have Z:∀(loc:List V),aM go loc env h (.p .mv [.v 2])=some (v2,h):=fun loc=>by
  simp only[aM,iv,eN,jN,g2,cZ,aP]
 have J:∀(loc:List V),aM go loc env h (.p (.ixa 6 1) [.v 3,.c (ZZ 3)])=some (.ptr pb 3,h):=fun loc=>by
  simp only[aM,iv,eN,jN,Dg,g3,cZ];rfl
 have U:∀(loc:List V),aM go (.ptr pb 3::loc) env h (.ld 1 false (.l 0))=some (ZY b3,h):=fun loc=>by
  simp only[aM,qj,fM,gW,l3]
 have I:∀(loc:List V),aM go (ZY b3::loc) env h (.p (.ib .rem) [.l 0,.c (ZY 12)])=some (ZY (C:Int),h):=fun loc=>by
  simp only[aM,iv,eN,qj,Dg,fM,cZ,rm]
 have R:∀(loc:List V),aM go (ZY (C:Int)::loc) env h (.p (.conv .i64) [.l 0])=some (ZZ (C:Int),h):=fun loc=>by
  simp only[aM,iv,eN,qj,fM,cZ,yK,fwrap_i64 (C:Int) oM oM]
 have D:∀(loc:List V),aM go (ZZ (C:Int)::loc) env h (.p (.build [(ZY 0),(ZZ 0),(ZZ 0),(ZZ 0),.nils] [(0,1),(1,1),(2,1)]) [.c (ZY 2),.l 0,.c (ZZ 1)])=some (.agg (ntC C),h):=fun loc=>rfl;simp only[Rb,Ri];rw[dh rfl rfl (ah _),dh rfl rfl (ab _),dh rfl rfl (Z _),CT rfl rfl,dh rfl rfl (J _),dh rfl rfl (U _),dh rfl rfl (I _),dh rfl rfl (R _),dh rfl rfl (D _)];rw[HV (c:=ntC C) rfl rfl,j6 _ _ _ _ oM];rfl
theorem OF(loc:List V)(env:T V)(n C:Nat):cL (.agg (ntC C)::loc) env (.bs [(ZY 0),(ZZ 0),(ZZ 0),(ZZ 0),.nils] [(0,5)] 1 [.l 0]) (.slice n 0 1 1) (ntC C)=true:=zG (o:=some (1,1)) n rfl
section
variable {P : Nat -> Prop} {h : Heap} {vK vR vP vA v : V} {E : List Ent} {A : List Nat} {c : Cfg} {x : Evt} {m : Mo} {n N num b0 b1 b2 b3 b4 b5 : Nat} {s : Int}
set_option maxHeartbeats 1000000 in
theorem HC(wf:WF h)(hP:∀z,P z→z<h.next)(kz:RZ h m.c.vK m.c.Ks)(a:MZs P h m E n)(hE:E.length≤900)(hb:b0<256∧b1<256∧b2<256∧b3<256∧b4<256∧b5<256)(hn:num≤100):
 ay go 44 [.agg (c6 b0 b1 b2 b3 b4 b5),.agg m.cells,.int .i64 (num:Int)] h fun u h'=>Fr [] h h'∧∃x:Evt,u=.agg x.cells∧Stb P h' fun h=>EvtH h x (E.length+12):=by
 have mz:=a.mz kz wf;have on:=mz.on;obtain⟨hb0,hb1,hb2,hb3,hb4,hb5⟩:=hb;obtain⟨h1,e_h1,F_h1,o_h1⟩:=av wf (c6 b0 b1 b2 b3 b4 b5);obtain⟨h2,e_h2,F_h2,o_h2⟩:=av F_h1.wf m.cells;obtain⟨h3,e_h3,F_h3,o_h3⟩:=av F_h2.wf [.int .u8 0,.int .i64 0,.int .u64 0,.nils,.nils];have n1:=hnx e_h1
 have n2:=hnx e_h2
 have n3:=hnx e_h3
 have F13:=F_h2.then F_h3;have F03:=F_h1.then F13;have w3:=F03.wf;have ob3:=F13.get o_h1;have om3:=F_h3.get o_h2;have mz3:=mz.fr F03;have e1:halloc h [.int .u8 (b0:Int),.int .u8 (b1:Int),.int .u8 (b2:Int),.int .u8 (b3:Int),.int .u8 (b4:Int),.int .u8 (b5:Int)]=h1:=e_h1.symm;have x0:aP (.ixa 6 1) [.ptr h.next 0,.int .i64 0]=some (.ptr h.next 0):=rfl;have x1:aP (.ixa 6 1) [.ptr h.next 0,.int .i64 1]=some (.ptr h.next 1):=rfl;have x2:aP (.ixa 6 1) [.ptr h.next 0,.int .i64 2]=some (.ptr h.next 2):=rfl;have x3:aP (.ixa 6 1) [.ptr h.next 0,.int .i64 3]=some (.ptr h.next 3):=rfl;have x4:aP (.ixa 6 1) [.ptr h.next 0,.int .i64 4]=some (.ptr h.next 4):=rfl;have r0{h'}(f:Fr [] h3 h'):=(f.get ob3).l1 0;have r1{h'}(f:Fr [] h3 h'):=(f.get ob3).l1 1;have r2{h'}(f:Fr [] h3 h'):=(f.get ob3).l1 2;have r3{h'}(f:Fr [] h3 h'):=(f.get ob3).l1 3;have r4{h'}(f:Fr [] h3 h'):=(f.get ob3).l1 4;have l6{h'}(f:Fr [] h3 h'):=(f.get ob3).la 6
 have lE{h'}(f:Fr [] h3 h'):=(f.get om3).l1 7;have lm{h'}(f:Fr [] h3 h'):=(f.get om3).la 17
 have rr:=Fr.refl (S:=[]) w3;have hEn:=mz.e.n;refine aa ?_;simp(maxSteps:=1000000) (disch:=omega) only[evs,seval,e1,←e_h2,←e_h3,lE rr,mz3.e.r.len];refine ae (eI mz3.e.toEL (Int.le_refl _)) ?_;rintro _ _ ⟨rfl,t,rfl⟩;by_cases cl:(0:Int)<E.length
 case' pos=>
  have rk:=mH b1 E.length oM (x:=(b1:Int)) (y:=(E.length:Int)) rfl rfl;have ml:b1%E.length<E.length:=Nat.mod_lt _ oM;generalize b1%E.length=W at rk ml;obtain⟨eb,eo,e,p1,p2,_,p4⟩:=Recs.ix aJ mz3.e.r .i64 (W:Int) oM oM;have k0:ai h3 eb eo=some (.int .u64 (e.x.key:Int)):=p2 0 oM;obtain⟨K,hK,K64⟩:∃K:Nat,K=e.x.key∧K<18446744073709551616:=⟨_,rfl,(mz3.e.i e (List.mem_of_getElem? p4)).k⟩;rw[←hK]at k0;simp(maxSteps:=1000000) (disch:=omega) only[evs,seval,DF,eff,fwrap_i64,x1,r1 rr,fwrap_u64,lE rr,mz3.e.r.len,cl,rk,p1,k0,x2,r2 rr,lm rr]
 case' neg=>
  obtain⟨K,hK,K64⟩:∃K:Nat,K=Gt (b1:Int)∧K<18446744073709551616:=⟨_,rfl,Cu _⟩;simp(maxSteps:=1000000) (disch:=omega) only[evs,seval,x1,r1 rr,fwrap_u64,lE rr,mz3.e.r.len,cl,x2,r2 rr,lm rr,←hK]
 all_goals
  refine ae (yc w3 mz3 hb2 hn) ?_;rintro vT h4 ⟨F4,Tl,gT,nT,zT⟩;have t1:=gT.one;have w4:=F4.wf;have n4:=F4.next;obtain⟨h5,e_h5,F_h5,o_h5⟩:=av w4 [.int .u8 0,.int .i64 0,.int .u64 0,.nils,.nils];have n5:=hnx e_h5
  simp(maxSteps:=1000000) (disch:=omega) only[evs,seval,aq t1,←e_h5];refine ac (c':=[.int .u8 0,.int .i64 0,.int .u64 0,.nils,vT]) F_h5.wf o_h5 rfl (by simp only[V.cells,af,ag,t1];rfl) rfl ?_;rintro h6 o9 F6 n6;have F46:Fr [] h4 h6:=F_h5.fresh F6 w4 (Nat.le_refl _);have F36:=F4.then F46;have w6:=F6.wf;have S4:∀z∈[h4.next],h3.next≤z:=by simp;omega
  have X4{hX}(f:Fr [h4.next] h6 hX):Fr [h4.next] h4 hX:=Fr.trans F46 f w4 iS (fun z q=>.inl q);have X3{hX}(f:Fr [h4.next] h6 hX):Fr [] h3 hX:=Fr.new w3 F36 f S4;have gTX{hX}(f:Fr [h4.next] h6 hX):Gs hX h3.next 2 vT (Tl.flatMap htC):=gT.dj (X4 f) fun z q q'=>by simp at q;have:=gT.lt w4 z q';omega
  have L5{hX}{y:List V}(o:Own hX h4.next y)(l:y.length=5):aH hX h4.next 0 5=some y:=by
   have:=o.ld (o:=0) (n:=5);rw[this,cg,aU _ _ oM,List.take_of_length_le oM]
  have L5'{hX}{y:List V}(o:Own hX h2.next y)(l:y.length=5):aH hX h2.next 0 5=some y:=by
   have:=o.ld (o:=0) (n:=5);rw[this,cg,aU _ _ oM,List.take_of_length_le oM]
  have hP2:∀z,LB P [h2.next] z→z<h3.next:=fun z q=>q.elim (fun q=>by have:=hP z q;have:=F03.next;omega) (fun q=>by simp at q;omega);have fin:∀{hX hy:Heap}{x:Evt},Fr [h4.next] h6 hX→Stb (LB P [h2.next]) hX (fun h=>EvtH h x (E.length+12))→Fr [h2.next] hX hy→Fr [] h hy∧Stb P hy fun h=>EvtH h x (E.length+12):=fun f s g=>
   ⟨(F03.then (X3 f)).fresh g wf oM,s.step f.wf g (fun z q=>.inl (.inr q)) (fun z q=>.inl (.inl q))⟩
  have sE:∀{hX:Heap}{k q:Nat}{X:Int},Fr [h4.next] h6 hX→k<256→i64 X→q<18446744073709551616→Stb (LB P [h2.next]) hX fun h=>EvtH h ⟨k,X,q,.nils,[],vT,Tl⟩ (E.length+12):=fun f a b c=>Iu f.wf hP2 (.inl ⟨rfl,rfl⟩) iS (gTX f) a b c iS iS nT zT;have q24:=aV .u8 b0 24 oM (y:=24) rfl;have m24:b0%24<24:=Nat.mod_lt _ oM;generalize b0%24=C at q24 m24;by_cases d0:(C:Int)<4
  ·simp(maxSteps:=1000000) (disch:=omega) only[evs,seval,x0,r0 F36,q24,eq_true d0];refine stu w6 o9 ?_;rintro h7 o7 F7 n7;simp(maxSteps:=1000000) (disch:=omega) only[evs,seval,fwrap_i64,x1,r1 (X3 F7),iB];refine stu F7.wf o7 ?_;rintro h8 o8 F8 n8;have f8:Fr [h4.next] h6 h8:=Fr.trans F7 F8 w6 (fun z q=>.inl q) (fun z q=>.inl q);obtain⟨X,oX,iX⟩:∃X,Own h8 h4.next [.int .u8 1,.int .i64 X,.int .u64 0,.nils,vT]∧i64 X:=⟨_,o8,xZ _⟩;have fX:=f8;have oX:=oX;have sX:=sE (k:=1) (X:=X) (q:=0) fX oM iX oM;simp(maxSteps:=1000000) (disch:=omega) only[evs,seval,L5 oX rfl];refine ac fX.wf ((X3 fX).get o_h3) rfl (by first|(simp only[V.cells,af,ag,t1];rfl)|(simp only[V.cells,af,ag,t1,v1];rfl)) rfl ?_;rintro hy oy Fy ny;have lz:=L5' oy rfl;simp(maxSteps:=1000000) (disch:=omega) only[evs,seval,lz];obtain⟨f1,f2⟩:=fin fX sX Fy;refine⟨f1,_,?_,f2⟩;rfl
  by_cases d1:(C:Int)<8
  ·simp(maxSteps:=1000000) (disch:=omega) only[evs,seval,x0,r0 F36,q24,eq_false d0,eq_true d1];refine stu w6 o9 ?_;rintro h7 o7 F7 n7;simp(maxSteps:=1000000) (disch:=omega) only[evs,seval,fwrap_i64,x1,r1 (X3 F7)];refine stu F7.wf o7 ?_;rintro h8 o8 F8 n8;have f8:Fr [h4.next] h6 h8:=Fr.trans F7 F8 w6 (fun z q=>.inl q) (fun z q=>.inl q);have q8:=aV .u8 b1 8 oM (y:=8) rfl;by_cases c8:((b1%8:Nat):Int)=0
   ·have l1:=o8.l1 1;simp(maxSteps:=1000000) (disch:=omega) only[evs,seval,x1,r1 (X3 f8),q8,eq_true c8,l1,iB];refine stu F8.wf o8 ?_;rintro h9 o9' F9 n9;have f9:Fr [h4.next] h6 h9:=Fr.trans f8 F9 w6 (fun z q=>.inl q) (fun z q=>.inl q);obtain⟨X,oX,iX⟩:∃X,Own h9 h4.next [.int .u8 2,.int .i64 X,.int .u64 0,.nils,vT]∧i64 X:=⟨_,o9',xZ _⟩;have fX:=f9;have oX:=oX;have sX:=sE (k:=2) (X:=X) (q:=0) fX oM iX oM;simp(maxSteps:=1000000) (disch:=omega) only[evs,seval,L5 oX rfl];refine ac fX.wf ((X3 fX).get o_h3) rfl (by first|(simp only[V.cells,af,ag,t1];rfl)|(simp only[V.cells,af,ag,t1,v1];rfl)) rfl ?_;rintro hy oy Fy ny;have lz:=L5' oy rfl;simp(maxSteps:=1000000) (disch:=omega) only[evs,seval,lz];obtain⟨f1,f2⟩:=fin fX sX Fy;refine⟨f1,_,?_,f2⟩;rfl
   ·simp(maxSteps:=1000000) (disch:=omega) only[evs,seval,x1,r1 (X3 f8),q8,eq_false c8];have dummy:=0;have fX:=f8;have oX:=o8;have sX:=sE (k:=2) (X:=(b1:Int)-128) (q:=0) fX oM (dC _ oM oM) oM;simp(maxSteps:=1000000) (disch:=omega) only[evs,seval,L5 oX rfl];refine ac fX.wf ((X3 fX).get o_h3) rfl (by first|(simp only[V.cells,af,ag,t1];rfl)|(simp only[V.cells,af,ag,t1,v1];rfl)) rfl ?_;rintro hy oy Fy ny;have lz:=L5' oy rfl;simp(maxSteps:=1000000) (disch:=omega) only[evs,seval,lz];obtain⟨f1,f2⟩:=fin fX sX Fy;refine⟨f1,_,?_,f2⟩;rfl
  by_cases d2:(C:Int)<9
  ·simp(maxSteps:=1000000) (disch:=omega) only[evs,seval,x0,r0 F36,q24,eq_false d0,eq_false d1,eq_true d2];refine stu w6 o9 ?_;rintro h7 o7 F7 n7;simp(maxSteps:=1000000) (disch:=omega) only[evs,seval];refine stu F7.wf o7 ?_;rintro h8 o8 F8 n8;have f8:Fr [h4.next] h6 h8:=Fr.trans F7 F8 w6 (fun z q=>.inl q) (fun z q=>.inl q);have fX:=f8;have oX:=o8;have sX:=sE (k:=3) (X:=0) (q:=K) fX oM (dC _ oM oM) oM;simp(maxSteps:=1000000) (disch:=omega) only[evs,seval,L5 oX rfl];refine ac fX.wf ((X3 fX).get o_h3) rfl (by first|(simp only[V.cells,af,ag,t1];rfl)|(simp only[V.cells,af,ag,t1,v1];rfl)) rfl ?_;rintro hy oy Fy ny;have lz:=L5' oy rfl;simp(maxSteps:=1000000) (disch:=omega) only[evs,seval,lz];obtain⟨f1,f2⟩:=fin fX sX Fy;refine⟨f1,_,?_,f2⟩;rfl
  by_cases d3:(C:Int)<10
  ·simp(maxSteps:=1000000) (disch:=omega) only[evs,seval,x0,r0 F36,q24,eq_false d0,eq_false d1,eq_false d2,eq_true d3];refine stu w6 o9 ?_;rintro h7 o7 F7 n7;simp(maxSteps:=1000000) (disch:=omega) only[evs,seval,fwrap_i64,x1,r1 (X3 F7)];refine stu F7.wf o7 ?_;rintro h8 o8 F8 n8;have f8:Fr [h4.next] h6 h8:=Fr.trans F7 F8 w6 (fun z q=>.inl q) (fun z q=>.inl q);have fX:=f8;have oX:=o8;have sX:=sE (k:=4) (X:=1+(b1:Int)) (q:=0) fX oM (dC _ oM oM) oM;simp(maxSteps:=1000000) (disch:=omega) only[evs,seval,L5 oX rfl];refine ac fX.wf ((X3 fX).get o_h3) rfl (by first|(simp only[V.cells,af,ag,t1];rfl)|(simp only[V.cells,af,ag,t1,v1];rfl)) rfl ?_;rintro hy oy Fy ny;have lz:=L5' oy rfl;simp(maxSteps:=1000000) (disch:=omega) only[evs,seval,lz];obtain⟨f1,f2⟩:=fin fX sX Fy;refine⟨f1,_,?_,f2⟩;rfl
  by_cases d4:(C:Int)<18
  ·simp(maxSteps:=1000000) (disch:=omega) only[evs,seval,x0,r0 F36,q24,eq_false d0,eq_false d1,eq_false d2,eq_false d3,eq_true d4];refine stu w6 o9 ?_;rintro h7 o7 F7 n7;have F07:=F03.then (X3 F7);have hP7:∀z,LB P [h2.next,h4.next] z→z<h7.next:=fun z q=>q.elim (fun q=>by have:=hP z q;have:=F07.next;omega) (fun q=>by simp at q;omega);have a7:MZs (LB P [h2.next,h4.next]) h7 m E n:=a.step wf F07 iS (fun z q=>q.elim .inl (fun q=>.inr (by simp at q;omega)));simp(maxSteps:=1000000) (disch:=omega) only[evs,seval,l6 (X3 F7),lm (X3 F7)];refine ae (uj F7.wf hP7 (kz.fr F07) a7 hE ⟨hb0,hb1,hb2,hb3,hb4,hb5⟩ hn) ?_;rintro vN h8 ⟨F8,Ns,gN,nN,sN,yN⟩;have v1:=gN.one;have n8:=F8.next;simp(maxSteps:=1000000) (disch:=omega) only[evs,seval];refine ac (c':=[.int .u8 5,.int .i64 0,.int .u64 0,vN,vT]) F8.wf (F8.get o7) (by rw[aq v1];rfl) (by rw[aq v1];simp only[af,ag,v1];rfl) (by rw[aq v1];rfl) ?_;rintro h9 o9' F9 n9;have f9:Fr [h4.next] h6 h9:=Fr.trans (Fr.trans F7 F8 w6 (fun z q=>.inl q) iS:Fr [h4.next] h6 h8) F9 w6 (fun z q=>.inl q) (fun z q=>.inl q);have gN9:Gs h9 h3.next 5 vN (Ns.flatMap Nt.cells):=(gN.keep F9 oO).le oM;have sN9:∀y∈Ns,Stb (LB P [h2.next]) h9 fun h=>NtH h y:=fun y my=>(sN y my).step F8.wf F9 (fun z q=>.inl (.inl (.inr (by simp at q;simp[q])))) (fun z q=>.inl (.inl (q.elim .inl (fun q=>.inr (by simp at q;simp[q])))));have fX:=f9;have oX:=o9';have sX:Stb (LB P [h2.next]) _ fun h=>EvtH h ⟨5,0,0,vN,Ns,vT,Tl⟩ (E.length+12):=Iu f9.wf hP2 (gN9) (sN9) (gTX f9) oM (by first|exact iX|exact xZ _|exact dC _ oM oM) oM oM (yN) nT zT;simp(maxSteps:=1000000) (disch:=omega) only[evs,seval,L5 oX rfl];refine ac fX.wf ((X3 fX).get o_h3) rfl (by first|(simp only[V.cells,af,ag,t1];rfl)|(simp only[V.cells,af,ag,t1,v1];rfl)) rfl ?_;rintro hy oy Fy ny;have lz:=L5' oy rfl;simp(maxSteps:=1000000) (disch:=omega) only[evs,seval,lz];obtain⟨f1,f2⟩:=fin fX sX Fy;refine⟨f1,_,?_,f2⟩;rfl
  by_cases d5:(C:Int)<20
  ·simp(maxSteps:=1000000) (disch:=omega) only[evs,seval,x0,r0 F36,q24,eq_false d0,eq_false d1,eq_false d2,eq_false d3,eq_false d4,eq_true d5];refine stu w6 o9 ?_;rintro h7 o7 F7 n7;have fX:=F7;have oX:=o7;have sX:=sE (k:=6) (X:=0) (q:=0) fX oM (dC _ oM oM) oM;simp(maxSteps:=1000000) (disch:=omega) only[evs,seval,L5 oX rfl];refine ac fX.wf ((X3 fX).get o_h3) rfl (by first|(simp only[V.cells,af,ag,t1];rfl)|(simp only[V.cells,af,ag,t1,v1];rfl)) rfl ?_;rintro hy oy Fy ny;have lz:=L5' oy rfl;simp(maxSteps:=1000000) (disch:=omega) only[evs,seval,lz];obtain⟨f1,f2⟩:=fin fX sX Fy;refine⟨f1,_,?_,f2⟩;rfl
  by_cases d6:(C:Int)<22
  ·simp(maxSteps:=1000000) (disch:=omega) only[evs,seval,x0,r0 F36,q24,eq_false d0,eq_false d1,eq_false d2,eq_false d3,eq_false d4,eq_false d5,eq_true d6];refine stu w6 o9 ?_;rintro h7 o7 F7 n7;have q4:=aV .u8 b1 4 oM (y:=4) rfl;have m4:b1%4<4:=Nat.mod_lt _ oM;generalize b1%4=C4 at q4 m4;simp(maxSteps:=1000000) (disch:=omega) only[evs,seval,fwrap_i64,x1,r1 (X3 F7),q4];refine stu F7.wf o7 ?_;rintro h8 o8 F8 n8;have f8:Fr [h4.next] h6 h8:=Fr.trans F7 F8 w6 (fun z q=>.inl q) (fun z q=>.inl q);have fX:=f8;have oX:=o8;have sX:=sE (k:=7) (X:=(C4:Int)) (q:=0) fX oM (dC _ oM oM) oM;simp(maxSteps:=1000000) (disch:=omega) only[evs,seval,L5 oX rfl];refine ac fX.wf ((X3 fX).get o_h3) rfl (by first|(simp only[V.cells,af,ag,t1];rfl)|(simp only[V.cells,af,ag,t1,v1];rfl)) rfl ?_;rintro hy oy Fy ny;have lz:=L5' oy rfl;simp(maxSteps:=1000000) (disch:=omega) only[evs,seval,lz];obtain⟨f1,f2⟩:=fin fX sX Fy;refine⟨f1,_,?_,f2⟩;rfl
  by_cases d7:(C:Int)=22
  ·have q9:=aV .u8 b1 9 oM (y:=9) rfl;have m9:b1%9<9:=Nat.mod_lt _ oM;generalize b1%9=C9 at q9 m9;have q3:=aV .u8 b4 3 oM (y:=3) rfl;have m3:b4%3<3:=Nat.mod_lt _ oM;generalize b4%3=C3 at q3 m3;simp(maxSteps:=1000000) (disch:=omega) only[evs,seval,x0,r0 F36,q24,eq_false d0,eq_false d1,eq_false d2,eq_false d3,eq_false d4,eq_false d5,eq_false d6,eq_true d7,x1,r1 F36,q9];refine stu w6 o9 ?_;rintro h7 o7 F7 n7;simp(maxSteps:=1000000) (disch:=omega) only[evs,seval,fwrap_i64,x3,r3 (X3 F7)];refine stu F7.wf o7 ?_;rintro h8 o8 F8 n8;have f8:Fr [h4.next] h6 h8:=Fr.trans F7 F8 w6 (fun z q=>.inl q) (fun z q=>.inl q);have u3:aB .u64 (C3:Int)=(C3:Int):=by
    rw[bq];simp only[IntKind.wrap,IntKind.bits,IntKind.signed];simp;omega
   simp(maxSteps:=1000000) (disch:=omega) only[evs,seval,x4,r4 (X3 f8),q3,u3];refine stu F8.wf o8 ?_;rintro h9 o9' F9 n9;have f9:Fr [h4.next] h6 h9:=Fr.trans f8 F9 w6 (fun z q=>.inl q) (fun z q=>.inl q);have fX:=f9;have oX:=o9';have sX:=sE (k:=C9) (X:=(b3:Int)-2) (q:=C3) fX oM (dC _ oM oM) oM;simp(maxSteps:=1000000) (disch:=omega) only[evs,seval,L5 oX rfl];refine ac fX.wf ((X3 fX).get o_h3) rfl (by first|(simp only[V.cells,af,ag,t1];rfl)|(simp only[V.cells,af,ag,t1,v1];rfl)) rfl ?_;rintro hy oy Fy ny;have lz:=L5' oy rfl;simp(maxSteps:=1000000) (disch:=omega) only[evs,seval,lz];obtain⟨f1,f2⟩:=fin fX sX Fy;refine⟨f1,_,?_,f2⟩;rfl
  ·have q12:=aV .u8 b3 12 oM (y:=12) rfl;have m12:b3%12<12:=Nat.mod_lt _ oM;generalize b3%12=C12 at q12 m12;simp(maxSteps:=1000000) (disch:=omega) only[evs,seval,x0,r0 F36,q24,eq_false d0,eq_false d1,eq_false d2,eq_false d3,eq_false d4,eq_false d5,eq_false d6,eq_false d7];refine stu w6 o9 ?_;rintro h7 o7 F7 n7;simp(maxSteps:=1000000) (disch:=omega) only[evs];refine(Ck _ _ _ _ _ _).2 ?_;refine⟨_,_,Ow (v2:=.int .i64 (num:Int)) (by simp[T.get_set]) (by simp[T.get_set]) (by simp[T.get_set]) (l6 (X3 F7)) (lm (X3 F7)) (r3 (X3 F7)) q12 m12,?_⟩;have FA:=Fr.halloc F7.wf (ntC C12);have oA:=Own.new F7.wf (ntC C12);have nA:(halloc h7 (ntC C12)).next=h7.next+1:=rfl;generalize halloc h7 (ntC C12)=hA at FA oA nA⊢;have F3A:=(X3 F7).then FA;have F0A:=F03.then F3A;have hPA:∀z,LB P [h2.next,h4.next] z→z<hA.next:=fun z q=>q.elim (fun q=>by have:=hP z q;have:=F0A.next;omega) (fun q=>by simp at q;omega);have aA:MZs (LB P [h2.next,h4.next]) hA m E n:=a.step wf F0A iS (fun z q=>q.elim .inl (fun q=>.inr (by simp at q;omega)));simp(maxSteps:=1000000) (disch:=omega) only[evs,seval,eff,l6 F3A,lm F3A];refine ae (uj FA.wf hPA (kz.fr F0A) aA hE ⟨hb0,hb1,hb2,hb3,hb4,hb5⟩ hn) ?_;rintro vN h8 ⟨F8,Ns,gN,nN,sN,yN⟩;have F38:=F3A.then F8;have n8:=F8.next;simp(maxSteps:=1000000) (disch:=omega) only[evs,seval,eff,fwrap_i64,x3,r3 F38,q12,cR,OF];refine Gs.append1 (bytes:=56) (n:=1) F8.wf gN (Sl.lit (F8.get oA) rfl) oM oM rfl oM (by rw[au fJ];omega) ?_;intro vM h9 gM e9 F9;have n9:=F9.next;have w9:=F9.wf;have v1:=gM.one;have vw:=gN.vb;have vl:=gN.lt F8.wf;have F39:Fr [] h3 h9:=Fr.new w3 F38 F9 (fun z q=>by have:=vw z q;omega);have o79:Own h9 h4.next [.int .u8 5,.int .i64 0,.int .u64 0,.nils,vT]:=F9.own _ _ (fun q=>by have:=vw _ q;omega) (F8.get (FA.get o7));simp(maxSteps:=1000000) (disch:=omega) only[evs,seval,eff];refine ac (c':=[.int .u8 5,.int .i64 0,.int .u64 0,vM,vT]) w9 o79 (by rw[aq v1];rfl) (by rw[aq v1];simp only[af,ag,v1];rfl) (by rw[aq v1];rfl) ?_;rintro h10 o10 F10 n10;obtain⟨y,hy⟩:∃y:Nt,y=⟨⟨2,(C12:Int),1,0,[]⟩,.nils⟩:=⟨_,rfl⟩;have y2:∀h',NtH h' y:=fun h'=>by
    rw[hy];exact⟨by show 2<256;omega,dC (C12:Int) oM oM,dC 1 oM oM,dC 0 oM oM,Recs.nil,iS,iS,iS⟩
   have gM10:Gs h10 h3.next 5 vM ((Ns++[y]).flatMap Nt.cells):=by
    rw[List.flatMap_append,List.flatMap_singleton,show y.cells=ntC C12 by rw[hy];rfl];exact(gM.keep F10 oO).le oM
   have F8k:Fr (vb vN++[h4.next]) h8 h10:=Fr.trans F9 F10 F8.wf (fun z q=>.inl iX) (fun z q=>.inl (by simp at q;simp[q]));have sN10:∀x∈Ns++[y],Stb (LB P [h2.next]) h10 fun h=>NtH h x:=fun x mx=>by
    rcases List.mem_append.1 mx with mx|mx
    ·refine(sN x mx).step F8.wf F8k (fun z q=>?_) (fun z q=>.inl (.inl (q.elim .inl (fun q=>.inr (by simp at q;simp[q])))));rcases List.mem_append.1 q with q|q
     ·exact .inl (.inr q)
     ·exact .inl (.inl (.inr (by simp at q;simp[q])))
    ·simp at mx;subst mx;exact fun S h' hS f=>y2 h'
   have yN10:∀x∈Ns++[y],x.n.Y.length≤4∨(x.n.k=5∧x.n.Y.length≤E.length+12):=fun x mx=>by grind
   have f8:Fr [h4.next] h6 h8:=Fr.trans (Fr.trans F7 FA w6 (fun z q=>.inl q) iS:Fr [h4.next] h6 hA) F8 w6 (fun z q=>.inl q) iS;have f9:Fr [h4.next] h6 h9:=Fr.trans f8 F9 w6 (fun z q=>.inl q) (fun z q=>.inr (by have:=vw z q;omega));have f10:Fr [h4.next] h6 h10:=Fr.trans f9 F10 w6 (fun z q=>.inl q) (fun z q=>.inl q);simp(maxSteps:=1000000) (disch:=omega) only[evs,seval,DF,r3 F3A,r3 F38,l6 F3A,lm F3A,L5 o10 rfl];refine ac (c':=_) f10.wf ((X3 f10).get o_h3) rfl (by simp only[V.cells,af,ag,t1,v1];rfl) rfl ?_;rintro hy oy Fy ny;have lz:=L5' oy rfl;simp(maxSteps:=1000000) (disch:=omega) only[evs,seval,lz];obtain⟨f1,f2⟩:=fin (x:=⟨5,0,0,vM,Ns++[y],vT,Tl⟩) f10 (Iu f10.wf hP2 (gM10) (sN10) (gTX f10) oM (by first|exact iX|exact xZ _|exact dC _ oM oM) oM oO (yN10) nT zT) Fy;exact⟨f1,⟨5,0,0,vM,Ns++[y],vT,Tl⟩,rfl,f2⟩
end
open Go.Ev.St
section
variable {P : Nat -> Prop} {h : Heap} {n N num b0 b1 b2 b3 b4 b5 : Nat} {s : Int}
structure Cdr(h:Heap)(B:Nat)(c:Cfg)(kb:Nat):Prop where
 v:c.vK=.slice kb 0 3 3
 b:B<=kb
 o:Own h kb (c.Ks.flatMap Knd.cells)
 s:∀Z h',(∀z∈Z,z<B\/z=kb)->Fr Z h h'->∀q∈c.Ks,KndH h' q
 r:RK c.Ks
 cap:c.cap=12
 le:1<=c.least/\c.least<=6
 vw:1<=c.view/\c.view<=200
 ov:0<=c.over/\c.over<=3
 ar:1<=c.arena/\c.arena<=65536
 fl:c.flaw=0
 bp:∀q∈c.Ks,6<=q.base/\0<=q.pool/\q.pool<=16
theorem IM(wf:WF h)(hb:b0<256/\b1<256/\b2<256/\b3<256/\b4<256):ay go 15 [.agg (c5 b0 b1 b2 b3 b4)] h fun u h'=>Fr [] h h'/\∃(c:Cfg)(kb:Nat),u=.agg c.cells/\Cdr h' h.next c kb:=by
 obtain⟨a5,a2,a3,aF,a1⟩:=hb;obtain⟨h1,ad,ak,ax⟩:=av wf (c5 b0 b1 b2 b3 b4);obtain⟨h2,ah,J,aj⟩:=av ak.wf [ZZ 0,ZZ 0,ZZ 0,.nils,ZZ 0,ZZ 0,ZY 0];have n1:=hnx ad
 have n2:=hnx ah
 have a0:=ak.then J;have e1:=ad.symm;refine aa ?_;simp only[evs,seval,e1,<-ah];refine lW [zA 0 1,zL,zp (.ib .rem) [.l 0,.c (ZY 200)],zp (.conv .i64) [.l 0],zp (.ib .add) [.c (ZZ 1),.l 0],zA 1 1,zL,zp (.ib .rem) [.l 0,.c (ZY 4)],zp (.conv .i64) [.l 0],zA 2 1,zL,zp (.ib .rem) [.l 0,.c (ZY 6)],zp (.conv .i64) [.l 0],zp (.ib .add) [.c (ZZ 1),.l 0],zA 3 1,zL,zc 42 [.l 0],zA 4 1,zL,zp (.conv .i64) [.l 0],zp (.build [(ZZ 0),(ZZ 0),(ZZ 0),.nils,(ZZ 0),(ZZ 0),(ZY 0)] [(0,1),(1,1),(2,1),(3,1),(4,1),(5,1)]) [.l 15,.l 11,.l 6,.l 3,.c (ZZ 12),.l 0]] _ rfl ?_;have R:=QW J.wf [ZZ 0,ZZ 0,ZZ 0,.nils,ZZ 0,ZZ 0,ZY 0];have ao:=Ro J.wf [ZZ 0,ZZ 0,ZZ 0,.nils,ZZ 0,ZZ 0,ZY 0];have aA:(halloc h2 [ZZ 0,ZZ 0,ZZ 0,.nils,ZZ 0,ZZ 0,ZY 0]).next=h2.next+1:=rfl;generalize halloc h2 [ZZ 0,ZZ 0,ZZ 0,.nils,ZZ 0,ZZ 0,ZY 0]=h3 at R ao aA|-;have ab:=a0.then R;have ob:=R.get (J.get ax);have l0{h'}(f:Fr [] h3 h'):=(f.get ob).l1 0;have l1{h'}(f:Fr [] h3 h'):=(f.get ob).l1 1;have l2{h'}(f:Fr [] h3 h'):=(f.get ob).l1 2;have l3{h'}(f:Fr [] h3 h'):=(f.get ob).l1 3;have l4{h'}(f:Fr [] h3 h'):=(f.get ob).l1 4;have q0:=aV .u8 b0 200 oM (y:=200) rfl;have q1:=aV .u8 b1 4 oM (y:=4) rfl;have q2:=aV .u8 b2 6 oM (y:=6) rfl;have m0:b0%200<200:=QR _ oM;have m1:b1%4<4:=QR _ oM;have m2:b2%6<6:=QR _ oM;generalize b0%200=V0 at q0 m0;generalize b1%4=V1 at q1 m1;generalize b2%6=V2 at q2 m2;have r0:=Qw (S:=[]) ab.wf;simp(disch:=omega) only[evs,seval,eff,fwrap_i64,l0 r0,l1 r0,l2 r0,l3 r0,q0,q1,q2];refine ae (ER ab.wf aF) ?_;rintro _ h4 ⟨U,kb,Ks,rfl,hk,ok,st,gk,aE,k3,bp⟩;have n4:=U.next;obtain⟨c,I⟩:∃c:Cfg,c=⟨1+(V0:Int),(V1:Int),1+(V2:Int),.slice kb 0 3 3,Ks,12,(b4:Int),0⟩:=⟨_,rfl⟩;have cc:c.cells=[ZZ (1+(V0:Int)),ZZ (V1:Int),ZZ (1+(V2:Int)),.slice kb 0 3 3,ZZ 12,ZZ (b4:Int),ZY 0]:=by rw[I];rfl
 simp(disch:=omega) only[evs,seval,eff,fwrap_i64,l4 U,cR,fu];refine ac (c':=c.cells) U.wf (U.get ao) rfl rfl (by rw[cc];rfl) ?_;rintro h5 o5 D n5;have aR:=(D.own _ _ oO (U.get ob)).l1 4;simp only[evs,seval,DF,l0 r0,l1 r0,l2 r0,l3 r0,l0 U,l1 U,l2 U,l4 r0,l4 U,aR];have a4:=ok.lt U.wf;have fin:∀{hx:Heap}{c':Cfg}{S:List Nat},Fr S h4 hx->(∀z∈S,z<h3.next)->c'.vK=c.vK->c'.Ks=c.Ks->c'.cap=c.cap->c'.least=c.least->c'.view=c.view->c'.over=c.over->(1<=c'.arena/\c'.arena<=65536)->c'.flaw=c.flaw->Cdr hx h.next c' kb:=by
  intro hx c' S f hS e1 e2 e3 e4 e5 e6 e7 e8;refine⟨by rw[e1,I],oM,by rw[e2,I];exact f.own _ _ (fun m=>by have:=hS _ m;omega) ok,fun Z h' hZ g q mq=>?_,?_,?_,?_,?_,?_,e7,?_,by rw[e2,I];exact bp⟩
  ·rw[e2,I]at mq;refine st (S++Z) h' (fun z m=>?_) (Qx f g U.wf (fun z m=>.inl iX) (fun z m=>.inl iX)) q mq;rcases Qp.1 m with m|m
   ·exact .inl (hS z m)
   ·grind
  ·rw[e2,I];exact⟨aE,k3,gk⟩
  ·rw[e3,I]
  ·grind
  ·grind
  ·grind
  ·rw[e8,I]
 by_cases c4:(b4:Int)=0
 ·simp only[evs,seval,eq_true c4];refine ac (c':=({c with arena:=65536}:Cfg).cells) D.wf o5 rfl rfl (by rw[I];rfl) ?_;rintro h6 o6 F6 n6;have l6:=o6.la 7
  simp only[evs,seval,l6];have on:az ({c with arena:=65536}:Cfg).cells=true:=by rw[I];rfl
  refine ac (c':=({c with arena:=65536}:Cfg).cells) F6.wf (F6.own _ _ oO (D.own _ _ oO (U.get (R.get aj)))) rfl on rfl ?_;rintro h7 o7 F7 n7;have l7:=o7.la 7
  simp only[evs,seval,l7];exact⟨((((ab.then U).fresh D wf oM).fresh F6 wf oM).fresh F7 wf oM),{c with arena:=65536},kb,rfl,fin (Qx (Qx D F6 U.wf (fun z q=>.inl q) (fun z q=>.inl q):Fr [h2.next] h4 h6) F7 U.wf (T:=[h2.next,h1.next]) (fun z q=>.inl (by simp at q;simp[q])) (fun z q=>.inl (by simp at q;simp[q]))) oO rfl rfl rfl rfl rfl rfl ⟨by show(1:Int)<=65536;decide,by show(65536:Int)<=65536;decide⟩ rfl⟩
 ·have l6:=o5.la 7
  simp only[evs,seval,eq_false c4,l6];have on:az c.cells=true:=by rw[I];rfl
  refine ac (c':=c.cells) D.wf (D.own _ _ oO (U.get (R.get aj))) rfl on rfl ?_;rintro h7 o7 F7 n7;have l7:=o7.la 7
  simp only[evs,seval,l7];exact⟨(((ab.then U).fresh D wf oM).fresh F7 wf oM),c,kb,rfl,fin (Qx D F7 U.wf (T:=[h2.next,h1.next]) (fun z q=>.inl (by simp at q;simp[q])) (fun z q=>.inl (by simp at q;simp[q]))) oO rfl rfl rfl rfl rfl rfl (by rw[I];exact⟨by show 1<=(b4:Int);omega,by show(b4:Int)<=65536;omega⟩) rfl⟩
end
open Go.Ev.St
structure B6 where
 b0:Nat
 b1:Nat
 b2:Nat
 b3:Nat
 b4:Nat
 b5:Nat
def B6.cells(b:B6):List V:=c6 b.b0 b.b1 b.b2 b.b3 b.b4 b.b5
theorem BX(b:B6):b.cells.length=6:=rfl
def B6.ok(b:B6):Prop:=b.b0<256/\b.b1<256/\b.b2<256/\b.b3<256/\b.b4<256/\b.b5<256
section
variable {P : Nat -> Prop} {h : Heap} {vB : V} {Bs : List B6} {c : Cfg} {n N : Nat} {s : Int}
theorem EvtH.mono{x:Evt}{M:Nat}(a:EvtH h x N)(l:N<=M):EvtH h x M:=⟨a.k,a.to,a.key,a.rn,a.hx,a.n,fun y my=>(a.hY y my).imp id fun q=>⟨q.1,by have:=q.2;omega⟩,a.t⟩
theorem Dd(x:Evt):bF [V.int IntKind.u8 0,V.int IntKind.i64 0,V.int IntKind.u64 0,V.nils,V.nils] 0 x.cells=some x.cells:=rfl
theorem ID(wf:WF h)(hP:∀z,P z->z<h.next)(kz:RZ h c.vK c.Ks)(cap:c.cap=12)(le:1<=c.least/\c.least<=6)(rB:ARecs B6.cells 6 h vB Bs)(oB:∀b∈Bs,b.ok)(nB:Bs.length<281474976710656):
 ay go 16 [.agg [vB],.agg c.cells] h fun u h'=>Fr [] h h'/\∃Xs:List Evt,Gs h' h.next 5 u (Xs.flatMap Evt.cells)/\Xs.length<=16/\∀x∈Xs,Stb P h' fun h=>EvtH h x 1000:=by
 have k1:=kz.one;have B1:=Ug rB;have oc:az c.cells=true:=by simp only[Cfg.cells,af,ag,k1];rfl
 obtain⟨h1,ak,ao,bt⟩:=av wf [vB];obtain⟨h2,aj,a1,bf⟩:=av ao.wf c.cells;have n1:=hnx ak
 have n2:=hnx aj
 have a5:=ao.then a1;have lc:=bf.la 7
 have ce:∀z,P z->z<h2.next:=fun z q=>by have:=hP z q;omega
 refine aa ?_;simp only[evs,seval,<-ak,<-aj,lc];refine ae (HI a5.wf ce (kz.fr a5) cap le) ?_;rintro _ I ⟨F3,m0,rfl,bw,a3⟩;have ab:=a5.then F3;have n3:=F3.next;have cc:=(a3.mz (by rw[bw];exact kz.fr ab) F3.wf).on;obtain⟨h4,aR,a2,bg⟩:=av F3.wf Z17;have n4:=hnx aR
 simp only[evs,seval,<-aR];refine ac a2.wf bg rfl cc rfl ?_;rintro h5 o5 F5 n5;have ad:=a2.fresh F5 F3.wf (pi _);have F05:=ab.then ad;have cr:=F3.then ad;have w5:=F5.wf;have lb{h'}(f:Fr [] I h'):=(f.get (F3.get (a1.get bt))).l1 0;have a4{h'}{m':Mo}(o:Own h' I.next m'.cells):=o.la 17
 simp only[evs];refine aw (fun z env R=>Fr [] I R/\∃(j:Nat)(u:V)(m:Mo)(E:List Ent)(Xs:List Evt),env.get 7=some (ZZ j)/\env.get 6=some u/\env.get 2=some (.ptr h.next 0)/\env.get 5=some (.ptr I.next 0)/\j<=Bs.length/\j<=16/\h5.next<=R.next/\Own R I.next m.cells/\m.c=c/\
  MZs (fun z=>(P z\/z=I.next)\/z∈vb u) R m E (1024*j)/\E.length<=32*j/\Gs R h5.next 5 u (Xs.flatMap Evt.cells)/\Xs.length=j/\(∀x∈Xs,Stb (fun z=>(P z\/z=I.next)\/z∈vb u) R fun h=>EvtH h x 1000)/\z=16-j) 16 oM ?_ ?_
 ·exact⟨ad,0,.nils,m0,[],[],iS,iS,iS,iS,oM,oM,pi _,o5,bw,a3.step F3.wf ad iS (fun z q=>by
   rcases q with(q|q)|q
   ·exact .inl q
   ·exact .inr oM
   ·simp[vb]at q),iS,.inl ⟨rfl,rfl⟩,rfl,iS,rfl⟩
 ·rintro z env R ⟨F,j,u,m,E,Xs,g7,g6,g2,g5,hj,cl,hx,om,ec,a,nE,G,nX,sX,rfl⟩;have F0:=ab.then F;have w:=F.wf;have D:=TC rB F0;have u1:=G.one;have ul:=G.lt w;have uB:=G.vb;have bK:∀z,(P z\/z=I.next)\/z∈vb u->z<R.next:=fun z q=>by
   rcases q with(q|q)|q
   ·have:=hP z q;have:=F0.next;omega
   ·omega
   ·exact ul z q
  by_cases cj:j<Bs.length
  case' neg=>
   simp only[evs,seval,g7,g2,lb F,D.len,eq_false (oM:¬(j:Int)<Bs.length),g6];exact y7
  by_cases c16:j<16
  case' neg=>
   simp only[evs,seval,g7,g2,lb F,D.len,eq_true (oM:(j:Int)<Bs.length),eq_false (oM:¬(j:Int)<16),g6];exact y7
  obtain⟨bb,bo,b,p1,_,p3,p4⟩:=ARecs.ix BX D .i64 (j:Int) oM oM;have ch:=oB b (Of p4);simp only[evs,seval,g7,g2,lb F,D.len,eq_true (oM:(j:Int)<Bs.length),eq_true (oM:(j:Int)<16)];refine lW [zA 0 2,zL,zm 7,zp (.ixs 6) [.l 1,.l 0],zn (.ld 6 true (.l 0)),zn (.ld 17 true (.v 5)),zm 7,zc 44 [.l 2,.l 1,.l 0]] _ rfl ?_;have Z:=QW w [ZY 0,ZZ 0,ZX 0,.nils,.nils];have a0:=Ro w [ZY 0,ZZ 0,ZX 0,.nils,.nils];have bI:(halloc R [ZY 0,ZZ 0,ZX 0,.nils,.nils]).next=R.next+1:=rfl;generalize halloc R [ZY 0,ZZ 0,ZX 0,.nils,.nils]=hA at Z a0 bI|-;have a8:=F.then Z;have bN:=ab.then a8;have bc:=Z.get om;have bE:aH hA bb bo 6=some b.cells:=by
   obtain⟨cn,cy,b',q1,_,q3,q4⟩:=ARecs.ix BX (TC D Z) .i64 (j:Int) oM oM;rw[p1]at q1;cases q1;rw[so]at p4 q4;rw[p4]at q4;cases q4;exact q3
  obtain⟨PA,ah⟩:∃PA:Nat->Prop,PA=fun z=>((P z\/z=I.next)\/z∈vb u)\/z=R.next:=⟨_,rfl⟩;have ci:∀z,PA z->z<hA.next:=fun z q=>by
   rw[ah]at q;rcases q with q|q
   ·have:=bK z q;omega
   ·omega
  have aA:MZs PA hA m E (1024*j):=a.step w Z iS (fun z q=>by rw[ah]at q;exact q.imp id (fun q=>by omega));simp only[evs,seval,eff,g7,g2,g5,lb a8,p1,bE,a4 bc];refine ae (HC Z.wf ci (by rw[ec];exact kz.fr bN) aA oM ch oM) ?_;rintro _ hB ⟨FB,x,rfl,sx⟩;have br:=(sx.at FB.wf).on;simp only[evs,eff,cR,fu];refine ac (c':=x.cells) FB.wf (FB.get a0) rfl br rfl ?_;rintro hC oC FC ct;have lx:=oC.la 5
  obtain⟨hD,ax,J,bi⟩:=av FC.wf x.cells;have nD:=hnx ax
  have bh:=Z.then FB;have bY:=bh.fresh FC w (pi _);have a6:=bY.then J;have cq:=bh.next;have cx:=F.next;simp only[evs,seval,DF,g5,lb a8,bE,a4 bc,g6,lx,Dd,aZ x,<-ax];refine RB (bytes:=72) (n:=1) J.wf (G.fr a6) (RM bi rfl) oM oM br oM (by rw[au aZ];omega) ?_;intro u' hE GE eE FE;have cm:=FE.next;have a9:=Qx a6 FE w iS (fun z q=>.inl q);have bu:=Ru F3.wf (F.then a6) FE (fun z q=>by have:=uB z q;omega);have a7:=ab.then bu;have wE:=FE.wf;have bm:=a9.own _ _ (fun q=>by have:=uB _ q;omega) om;have bT:=FE.own _ _ (fun q=>by have:=ul _ q;omega) (J.get oC);have b7:=bT.la 5
  obtain⟨PE,U⟩:∃PE:Nat->Prop,PE=fun z=>(P z\/z=I.next)\/z∈vb u':=⟨_,rfl⟩;have bP:∀z,PE z->z<hE.next:=fun z q=>by
   rw[U]at q;rcases q with(q|q)|q
   ·have:=hP z q;have:=a7.next;omega
   ·omega
   ·exact GE.lt wE z q
  have bz:∀z,PE z->((P z\/z=I.next)\/z∈vb u)\/R.next<=z:=fun z q=>by
   rw[U]at q;rcases q with q|q
   ·exact .inl (.inl q)
   ·rw[eE]at q;simp at q;exact .inr oM
  have ca:∀z,PE z->PA z\/hB.next<=z:=fun z q=>by
   rw[U]at q;rw[ah];rcases q with q|q
   ·exact .inl (.inl (.inl q))
   ·rw[eE]at q;simp at q;exact .inr oM
  have aE:=a.step w a9 (fun z q=>.inl (.inr q)) bz;have b6:=Qx (Qx FC J FB.wf (T:=R.next::vb u) (fun z q=>.inl (by simp at q;simp[q])) iS) FE FB.wf (fun z q=>.inl q) (fun z q=>.inl iX);have sE:=sx.step FB.wf b6 (fun z q=>by
   rw[ah];rcases Qy.1 q with rfl|q
   ·exact .inl (.inr rfl)
   ·exact .inl (.inl (.inr q))) ca
  simp only[evs,seval,g5,a4 bm,b7];refine ae (K1 wE bP (by rw[ec];exact kz.fr a7) aE oM sE oM) ?_;rintro _ hF ⟨FF,m',E',e',rfl,bn,aF,cu⟩;have bL:=(aF.mz (by rw[bn,ec];exact kz.fr (a7.then FF)) FF.wf).on;simp only[evs,seval,g5];refine ac FF.wf (FF.get bm) rfl bL rfl ?_;rintro hG oG FG nG;have cz:=FF.next;simp(disch:=omega) only[evs,seval,fwrap_i64,g7];have S3:∀z∈[I.next],PE z\/hF.next<=z:=fun z q=>.inl (by rw[U];exact .inl (.inr (eV q)));have bB:=Qx FF FG wE iS (fun z q=>.inl q);have bv:∀z∈[I.next],PE z\/hE.next<=z:=fun z q=>.inl (by rw[U];exact .inl (.inr (eV q)));refine rqn ⟨16-(j+1),oM,(bu.then FF).fresh FG F3.wf (pi _),j+1,u',m',E',Xs++[x],iS,iS,iX,iX,oM,oM,oM,oG,by rw[bn,ec],by
   rw[<-U,(oM:1024*(j+1)=1024*j+1024)];exact aF.step FF.wf FG S3 (fun z q=>.inl q),oM,by
   rw[QV,RN];exact(GE.fr FF).keep FG oO,by simp[nX],fun y my=>?_,rfl⟩
  rw[<-U];rcases Qp.1 my with my|my
  ·exact((sX y my).step w a9 (fun z q=>.inl (.inr q)) bz).step wE bB bv (fun z q=>.inl q)
  ·simp at my;subst my;exact(sE.step wE bB bv (fun z q=>.inl q)).imp fun h q=>q.mono oM
end
open Go.Ev.St
theorem MO(b n:Nat)(k:IntKind)(Z:n<=8){y:Int}(e:y=(n:Nat)):aP (.sh false) [ZY (b:Int),.int k y]=some (ZY ((b/2^n:Nat):Int)):=by
 subst e;rw[ut _ _ _ _ oM];simp only[so,IntKind.bits,Rt Z];congr 2;rw[Tx _ (Int.natCast_nonneg _),Int.natCast_ediv]
def lQ:Option Str->List Slo->Option Str
 |p,[]=>p
 |_,s::r=>lQ (some s.1) r
theorem rO(s:Slo):∀(p:Option Str)(l:List Slo),dd p (l++[s])=(dd p l&&fU (lQ p l) s)
 |p,[]=>by simp[dd,lQ]
 |p,x::l=>by simp only[Rb,dd,lQ,rO s _ l,Bool.and_assoc]
theorem pu(s:Slo):∀(p:Option Str)(l:List Slo),lQ p (l++[s])=some s.1
 |_,[]=>rfl
 |_,x::l=>by simp only[Rb,lQ,pu s _ l]
def nm3:List Str:=[[99,108,97,115,115],[105,100],[122,57]]
section
variable {h : Heap} {b : Nat}
theorem rG(wf:WF h):ay go 47 [ZY (b:Int)] h fun u h'=>Fr [] h h'/\∃tg,u=.str tg/\okN tg=true:=by
 obtain⟨J,Z,R,U⟩:=av wf [.str [108,105],.str [98],.str [112,49],.str [115,105,120,116,101,101,110,98,121,116,101,115,116,97,103,48]];have q4:=aV .u8 b 4 oM (y:=4) rfl;have m4:b%4<4:=QR _ oM;generalize b%4=C at q4 m4;have r:Recs sS 1 J (.slice h.next 0 4 4) [[108,105],[98],[112,49],[115,105,120,116,101,101,110,98,121,116,101,115,116,97,103,48]]:=RM U rfl;obtain⟨D,oo,z,p1,p2,_,I⟩:=Rg cC r .u8 (C:Int) oM (by show(C:Int)<4;omega);have l0:ai J D oo=some (.str z):=p2 0 oM;refine aa ?_;simp only[evs,seval,<-Z,q4,p1,l0];refine⟨R,z,rfl,?_⟩;have zm:=Of I;simp only[Qy,Rz,or_false]at zm;rcases zm with rfl|rfl|rfl|rfl<;>rfl
theorem me(wf:WF h)(hb:b<256):ay go 48 [ZY (b:Int)] h fun u h'=>Fr [] h h'/\∃sl:List Slo,Gs h' h.next 3 u (sl.flatMap fE)/\bU sl=true/\sl.length<=3:=by
 obtain⟨h1,ah,R,aF⟩:=av wf [.str [99,108,97,115,115],.str [105,100],.str [122,57]];have n1:=hnx ah
 have rN{h'}(f:Fr [] h1 h'):Recs sS 1 h' (.slice h.next 0 3 3) nm3:=QI (RM aF rfl) f;refine aa ?_;simp only[evs,seval,<-ah];refine aw (fun z env hh=>Fr [] h1 hh/\∃(j:Nat)(u:V)(sl:List Slo),env.get 5=some (ZZ j)/\env.get 3=some u/\env.get 0=some (ZY (b:Int))/\env.get 4=some (.slice h.next 0 3 3)/\j<=3/\Gs hh h1.next 3 u (sl.flatMap fE)/\dd none sl=true/\sl.length<=j/\(lQ none sl=none\/∃i q,i<j/\nm3[i]? =some q/\lQ none sl=some q)/\z=3-j) 3 oM ?_ ?_
 ·exact⟨Qw R.wf,0,.nils,[],iS,iS,iS,iS,oM,.inl ⟨rfl,rfl⟩,rfl,iS,.inl rfl,rfl⟩
 ·rintro z env hh ⟨F,j,u,sl,g5,g3,g0,g4,hj,G,ok,ln,la,rfl⟩;have F0:=R.then F;have w:=F.wf;have u1:=G.one;by_cases cj:j<3
  ·have s1:=MO b j .i64 oM (y:=(j:Int)) rfl;have r2:=aV .u8 (b/2^j) 2 oM (y:=2) rfl;by_cases c1:((b/2^j%2:Nat):Int)=1
   ·obtain⟨bo,oo,z,p1,_,_,p4⟩:=Rg cC (rN F) .i64 (j:Int) oM (by show(j:Int)<3;omega);have lz{h'}(f:Fr [] hh h'):ai h' bo oo=some (.str z):=by
     obtain⟨a1,a2,z',q1,q2,_,q4⟩:=Rg cC (rN (F.then f)) .i64 (j:Int) oM (by show(j:Int)<3;omega);rw[p1]at q1;cases q1;rw[p4]at q4;cases q4;exact q2 0 oM
    rw[so]at p4;have s2:=MO b (3+j) .i64 oM (y:=3+(j:Int)) oM;have r4:=aV .u8 (b/2^(3+j)) 4 oM (y:=4) rfl;have m4:b/2^(3+j)%4<4:=QR _ oM;generalize b/2^(3+j)%4=C at r4 m4;have rr:=Qw (S:=[]) w;obtain⟨h2,aj,D,aA⟩:=av w [.str [],ZY 0,.str []];have n2:=hnx aj
    simp(disch:=omega) only[evs,seval,eff,fwrap_i64,g5,g0,g4,eq_true (oM:(j:Int)<3),s1,r2,eq_true c1,p1,lz rr,s2,r4,<-aj];refine stu D.wf aA ?_;rintro h3 o3 F3 n3;simp only[evs,seval,DF,lz rr,lz D];have I:=D.fresh F3 w (pi _);have aR:=o3.l1 1;have sb:∀y:Str,(y=[]\/(C=0/\y=[118]))->fU (lQ none sl) (z,C,y)=true:=fun y hy=>by
     have zo:okN z=true:=by
      have zm:=Of p4;simp only[nm3,Qy,Rz,or_false]at zm;rcases zm with rfl|rfl|rfl<;>rfl
     have yo:okT y=true/\(decide (C=0)||y==[])=true:=by
      rcases hy with rfl|⟨rfl,rfl⟩
      ·exact⟨rfl,iS⟩
      ·exact⟨rfl,rfl⟩
     have po:cJ (lQ none sl) z=true:=by
      rcases la with e|⟨i,q,hi,eq,e⟩
      ·rw[e];rfl
      ·rw[e];have:(i=0/\j=1)\/(i=0/\j=2)\/(i=1/\j=2):=oM
       rcases this with⟨rfl,rfl⟩|⟨rfl,rfl⟩|⟨rfl,rfl⟩<;>(cases eq;cases p4;rfl)
     simp only[fU,zo,yo.1,yo.2,po,RU,Tu,decide_eq_true_eq];omega
    by_cases c0:(C:Int)=0
    ·have s7:=MO b 7 .u64 oM (y:=7) rfl;have b7:b/2^7<2:=oM
     generalize b/2^7=D7 at s7 b7;obtain⟨h4,ak,ab,aE⟩:=av F3.wf [.str [],.str [118]];have n4:=hnx ak
     have rV:Recs sS 1 h4 (.slice h3.next 0 2 2) [[],[118]]:=RM aE rfl;obtain⟨vo,wo,y,v1,v2,_,v4⟩:=Rg cC rV .u8 (D7:Int) oM (by show(D7:Int)<2;omega);have ly:ai h4 vo wo=some (.str y):=v2 0 oM;simp only[evs,seval,g0,aR,eq_true c0,s7,<-ak,v1,ly];refine stu ab.wf (ab.get o3) ?_;rintro h5 o5 F5 n5;have ad:=(I.then ab).fresh F5 w (pi _);have yv:y=[]\/(C=0/\y=[118]):=by grind
     have lx:aH h5 hh.next 0 3=some (fE (z,C,y)):=by rw[o5.ld];rfl
     have ao:az (fE (z,C,y))=true:=rfl;obtain⟨h6,U,Z,J⟩:=av ad.wf (fE (z,C,y));have n6:=hnx U
     have ax:bF [V.str [],V.int IntKind.u8 0,V.str []] 0 (fE (z,C,y))=some (fE (z,C,y)):=rfl;have nh:=F.next;have nx:=(ad).next;simp only[evs,seval,g3,lx,bV (z,C,y),ax,<-U];refine RB (bytes:=40) (n:=1) Z.wf (G.fr ((ad).then Z)) (RM J rfl) oM oM ao oM (by rw[au bV];omega) ?_;intro u' h7 G7 e7 F7;simp(disch:=omega) only[evs,seval,fwrap_i64,g5];refine rqn ⟨3-(j+1),oM,Ru R.wf (F.then ((ad).then Z)) F7 (fun z q=>G.vb z q),j+1,u',sl++[(z,C,y)],iS,iS,iX,iX,oM,by rw[QV,RN];exact G7,by rw[rO,ok,sb _ (by first|exact .inl rfl|exact yv)];rfl,by simp;omega,.inr ⟨j,z,oM,p4,by rw[pu]⟩,rfl⟩
    ·simp only[evs,seval,aR,eq_false c0];have lx:aH h3 hh.next 0 3=some (fE (z,C,[])):=by rw[o3.ld];rfl
     have ao:az (fE (z,C,[]))=true:=rfl;obtain⟨h6,U,Z,J⟩:=av I.wf (fE (z,C,[]));have n6:=hnx U
     have ax:bF [V.str [],V.int IntKind.u8 0,V.str []] 0 (fE (z,C,[]))=some (fE (z,C,[])):=rfl;have nh:=F.next;have nx:=(I).next;have a0:=0;simp only[evs,seval,g3,lx,bV (z,C,[]),ax,<-U];refine RB (bytes:=40) (n:=1) Z.wf (G.fr ((I).then Z)) (RM J rfl) oM oM ao oM (by rw[au bV];omega) ?_;intro u' h7 G7 e7 F7;simp(disch:=omega) only[evs,seval,fwrap_i64,g5];refine rqn ⟨3-(j+1),oM,Ru R.wf (F.then ((I).then Z)) F7 (fun z q=>G.vb z q),j+1,u',sl++[(z,C,[])],iS,iS,iX,iX,oM,by rw[QV,RN];exact G7,by rw[rO,ok,sb _ (by first|exact .inl rfl|exact yv)];rfl,by simp;omega,.inr ⟨j,z,oM,p4,by rw[pu]⟩,rfl⟩
   ·simp(disch:=omega) only[evs,seval,fwrap_i64,g5,g0,eq_true (oM:(j:Int)<3),s1,r2,eq_false c1];refine rqn ⟨3-(j+1),oM,F,j+1,u,sl,iS,iX,iX,iX,oM,G,ok,oM,la.imp id (fun⟨i,q,a,b,c⟩=>⟨i,q,oM,b,c⟩),rfl⟩
  ·simp only[evs,seval,g5,g3,eq_false (oM:¬(j:Int)<3)];exact⟨F0,sl,G.le oM,by simp only[bU,ok,Tu,decide_eq_true_eq];omega,oM⟩
end
open Go.Ev.St
def InvP(v:V)(n0:Nat)(h:Heap)(s:PT):Prop:=∀(X:List Nat)(h':Heap),(∀x∈X,x<n0\/x∈vb v)->Fr X h h'->PH h' s
theorem InvP.fr{h':Heap}{s:PT}(I:InvP v n0 h s)(w:WF h)(f:Fr [] h h'):InvP v n0 h' s:=fun X h2 hx f2=>
 I X h2 hx (Qx f f2 w iS (fun x hx=>.inl hx))
theorem InvP.ph{s:PT}(I:InvP v n0 h s)(w:WF h):PH h s:=I [] h iS (Qw w)
theorem iG{h:Heap}{n0 B k:Nat}{vo:V}{s sub:PT}{tg ky tx:Str}{sl:List Slo}{va vc:V}{K:V→Heap→Prop}(w:WF h)(g:Gs h B 6 vo s.cells)(hB:B≤h.next)(h0:n0≤h.next)(I:InvP vo n0 h s)
 (N:∀(X:List Nat)(h':Heap),(∀x∈X,x<n0∨x∈vb vo)→Fr X h h'→PH h' (.cons k tg ky sl tx va vc sub .nil)) (hl:s.len≤5000)
 (hk:∀v' h',Gs h' B 6 v' (s.app (.cons k tg ky sl tx va vc sub .nil)).cells→InvP v' n0 h' (s.app (.cons k tg ky sl tx va vc sub .nil))→Fr (vb vo) h h'→(∀y∈vb v',h.next≤y)→K v' h'):
 OQ (dK (halloc h [.int .u8 (k:Int),.str tg,.str ky,va,.str tx,vc]) 6 104 vo (.slice h.next 0 1 1)) K:=by
 have n1:=N [] h iS (Fr.refl w);have on:=PH.ones n1;have F1:=Fr.halloc w [.int .u8 (k:Int),.str tg,.str ky,va,.str tx,vc];have o1:=Own.new w [.int .u8 (k:Int),.str tg,.str ky,va,.str tx,vc];have cl:=s.cells_len;have vlt:=g.lt w;refine Gs.append1 F1.wf (g.fr F1) (Sl.lit o1 rfl) oM oM on (Nat.le_trans hB F1.next) (by rw[cl];omega) ?_;intro v' h' g' e' F';have F:=Fr.trans F1 F' w iS (fun x hx=>.inl hx);refine hk v' h' ?_ ?_ F (by rw[e'];simp only[List.mem_singleton];rintro y rfl;exact F1.next)
 ·rw[PT.app_cells];exact g'
 ·intro X h2 hX f2;have f3:Fr (vb vo++X.filter (fun x=>decide (x<n0))) h h2:=by
   refine Fr.trans F f2 w (fun x hx=>.inl iX) (fun x hx=>?_);rcases hX x hx with q|q
   ·grind
   ·rw[e']at q;simp at q;exact .inr (by subst q;exact F1.next)
  have hX':∀x∈vb vo++X.filter (fun x=>decide (x<n0)),x<n0∨x∈vb vo:=by grind
  exact PH.app (I _ h2 hX' f3) (N _ h2 hX' f3)
def PT.nd:PT->Nat
 |.nil=>0
 |.cons _ _ _ _ _ _ _ sub nx=>1+sub.nd+nx.nd
def PT.vl:PT->Nat->Prop
 |.nil,_=>True
 |.cons k tg ky sl tx _ _ sub nx,lv=>0<lv/\cB k tg ky sl tx sub.len=true/\sub.vl (lv-1)/\nx.vl lv
theorem PT.nd_app:∀a b:PT,(a.app b).nd=a.nd+b.nd
 |.nil,b=>by simp[PT.app,PT.nd]
 |.cons _ _ _ _ _ _ _ _ nx,b=>by simp only[PT.app,PT.nd,PT.nd_app nx b];omega
theorem PT.vl_app:∀{a b:PT}{lv:Nat},a.vl lv->b.vl lv->(a.app b).vl lv
 |.nil,_,_,_,q=>q
 |.cons _ _ _ _ _ _ _ _ _,_,_,⟨x,y,z,u⟩,q=>⟨x,y,z,PT.vl_app u q⟩
theorem PT.vl_one{lv:Nat}{ky tx:Str}{va vc:V}{sub:PT}(l:0<lv)(p:cB k tg ky sl tx sub.len=true)(q:sub.vl (lv-1)):(PT.cons k tg ky sl tx va vc sub .nil).vl lv:=⟨l,p,q,trivial⟩
def u8C(z:Nat):List V:=[ZY (z:Int)]
theorem Cv(z:Nat):(u8C z).length=1:=rfl
theorem xx(hk:k<256)(tx:Str):PH h (.cons k [] [] [] tx .nils .nils .nil .nil):=⟨hk,SH,iS,⟨rfl,rfl⟩,by simp[PT.len],trivial,trivial⟩
theorem xA{ky:Str}(ht:okN tg=true)(U:ky=[]\/okN ky=true)(R:bU sl=true)(Z:n<=16):cB 1 tg ky sl [] n=true:=by
 unfold cB;rw[if_pos rfl,ht,R];rcases U with rfl|q
 ·simp[Z]
 ·simp[q,Z]
theorem J1(ht:okN tg=true)(Z:bU sl=true):cB 5 tg [] sl [] 0=true:=by
 unfold cB;rw[if_neg dI,if_pos rfl,ht,Z];rfl
def BC(e:Nat):Prop:=∀(d j:Nat)(h:Heap)(vZ:V)(Zs:List Nat),d+e=4->WF h->ARecs u8C 1 h vZ Zs->(∀z∈Zs,z<256)->Zs.length<281474976710656->j<=11->
 ay go 49 [vZ,ZZ (j:Int),ZZ (d:Int)] h fun u h'=>Fr [] h h'/\∃(vp:V)(s:PT)(j':Nat),u=.tup [vp,ZZ (j':Int)]/\j<=j'/\j'<=11/\Gs h' h.next 6 vp s.cells/\InvP vp h.next h' s/\s.len<=j'-j/\s.nd<=j'-j/\s.vl (e+1)
set_option maxHeartbeats 2000000 in
theorem t7(e:Nat)(ih:∀e',e=e'+1→BC e'):BC e:=by
 intro d j h vZ Zs hd wf rZ hZ nZ hj;refine aa ?_;simp only[evs,seval];refine aw (fun z env hh=>Fr [] h hh∧∃(i:Nat)(vo:V)(s:PT),env.get 1=some (.int .i64 (i:Int))∧env.get 8=some vo∧env.get 0=some vZ∧env.get 2=some (.int .i64 (d:Int))∧j≤i∧i≤11∧Gs hh h.next 6 vo s.cells∧InvP vo h.next hh s∧s.len≤i-j∧s.nd≤i-j∧s.vl (e+1)∧z=11-i) (11-j) oM ?_ ?_
 ·exact⟨Fr.refl wf,j,.nils,.nil,iS,iS,iS,iS,oM,oM,.inl ⟨rfl,rfl⟩,fun _ _ _ _=>trivial,by simp[PT.len],by simp[PT.nd],trivial,rfl⟩
 ·rintro z env hh ⟨F,i,vo,s,g1,g8,g0,g2,hji,hi,G,I,sl0,sn,vl,rfl⟩;have w:=F.wf;have rZ':=ARecs.fr rZ F;have vo1:=G.one;have nh:=F.next;have vlt:=G.lt w;by_cases c1:i<Zs.length
  case' neg=>
   simp only[evs,seval,g1,g8,g0,rZ'.len,eq_false (oM:¬(i:Int)<Zs.length)];exact⟨F,vo,s,i,rfl,hji,hi,G,I,sl0,sn,vl⟩
  by_cases c2:i<11
  case' neg=>
   simp only[evs,seval,g1,g8,g0,rZ'.len,eq_true (oM:(i:Int)<Zs.length),eq_false (oM:¬(i:Int)<11)];exact⟨F,vo,s,i,rfl,hji,hi,G,I,sl0,sn,vl⟩
  have e0:Zs[i]? =some Zs[i]:=List.getElem?_eq_getElem c1;generalize Zs[i]=c at e0;have hc:=hZ c (List.mem_of_getElem? e0);obtain⟨bo,oo,c',p1,p2,_,p4⟩:=ARecs.ix Cv rZ' .i64 (i:Int) oM oM;rw[Int.toNat_natCast,e0]at p4;cases p4;have lc:ai hh bo oo=some (.int .u8 (c:Int)):=p2 0 oM;have q8:=aV .u8 c 8 oM (y:=8) rfl;have m8:c%8<8:=Nat.mod_lt _ oM;have d8:=pp c 8 hc oM (y:=8) rfl;have d4:=pp c 4 hc oM (y:=4) rfl;have d2:=pp c 2 hc oM (y:=2) rfl;have e4:c/4≤c:=Nat.div_le_self _ _;have e2:c/2≤c:=Nat.div_le_self _ _;have q2:=aV .u8 (c/8) 2 oM (y:=2) rfl;have m2:c/8%2<2:=Nat.mod_lt _ oM;generalize c/8%2=C2 at q2 m2;generalize c/8=C8 at d8 q2;generalize c/4=C4 at d4 e4;generalize c/2=C3 at d2 e2;generalize c%8=K at q8 m8;simp(disch:=omega) only[evs,seval,fwrap_i64,g1,g8,g0,rZ'.len,eq_true (oM:(i:Int)<Zs.length),eq_true (oM:(i:Int)<11),p1,lc,q8];by_cases k0:(K:Int)=0
  ·simp only[seval,eq_true k0];exact⟨F,vo,s,i+1,rfl,oM,oM,G,I,oM,oM,vl⟩
  by_cases k1:(K:Int)=1
  ·obtain⟨h2,e_h2,F_h2,o_h2⟩:=av w [.str [],.str [120]];have n2:=hnx e_h2
   have rV:Recs sS 1 h2 (.slice hh.next 0 2 2) [[],[120]]:=Sl.lit o_h2 rfl;obtain⟨xo,wo,y,v1,v2,_,v4⟩:=Recs.ix cC rV .u8 (C2:Int) oM (by show(C2:Int)<2;omega);have ly:ai h2 xo wo=some (.str y):=v2 0 oM;have yt:okT y=true:=by
    have ym:=List.mem_of_getElem? v4;simp only[List.mem_cons,List.not_mem_nil,or_false]at ym;rcases ym with rfl|rfl<;>rfl
   simp only[evs,seval,eq_false k0,eq_true k1,d8,q2,←e_h2,v1,ly];refine iG (B:=h.next) (k:=2) (s:=s) (sl:=[]) (sub:=.nil) F_h2.wf (G.fr F_h2) oM oM (I.fr w F_h2) (fun X h' hX f=>xx oM y) oM ?_;intro v' h9 g' I' F' y';simp only[evs];refine rqn ⟨11-(i+1),oM,Fr.new wf (F.then F_h2) F' (fun z q=>G.vb z q),(i+1),v',_,iS,iS,iX,iX,oM,oM,g',I',by rw[PT.app_len];simp only[PT.len];omega,by rw[PT.nd_app];simp only[PT.nd];omega,PT.vl_app vl (PT.vl_one oM (by unfold cB;rw[if_neg dI,if_neg dI,if_pos rfl,yt];rfl) trivial),rfl⟩
  by_cases k2:(K:Int)=2
  ·simp only[evs,seval,eq_false k0,eq_false k1,eq_true k2];refine iG (k:=3) (s:=s) (sl:=[]) (sub:=.nil) w (G) oM oM (I) (fun X h' hX f=>xx oM []) oM ?_;intro v' h9 g' I' F' y';simp only[evs];refine rqn ⟨11-(i+1),oM,Fr.new wf (F) F' (fun z q=>G.vb z q),(i+1),v',_,iS,iS,iX,iX,oM,oM,g',I',by rw[PT.app_len];simp only[PT.len];omega,by rw[PT.nd_app];simp only[PT.nd];omega,PT.vl_app vl (PT.vl_one oM (rfl) trivial),rfl⟩
  by_cases k3:(K:Int)=3
  ·simp only[evs,seval,eq_false k0,eq_false k1,eq_false k2,eq_true k3];refine iG (B:=h.next) (k:=4) (s:=s) (sl:=[]) (sub:=.nil) w (G) oM oM (I) (fun X h' hX f=>xx oM []) oM ?_;intro v' h9 g' I' F' y';simp only[evs];refine rqn ⟨11-(i+1),oM,Fr.new wf (F) F' (fun z q=>G.vb z q),(i+1),v',_,iS,iS,iX,iX,oM,oM,g',I',by rw[PT.app_len];simp only[PT.len];omega,by rw[PT.nd_app];simp only[PT.nd];omega,PT.vl_app vl (PT.vl_one oM (rfl) trivial),rfl⟩
  by_cases k4:(K:Int)=4
  ·simp only[evs,seval,eq_false k0,eq_false k1,eq_false k2,eq_false k3,eq_true k4,d8];refine ae (rG w) ?_;rintro _ h2 ⟨F2,tg,rfl,tok⟩;simp only[evs,seval,d4];refine ae (me F2.wf oM) ?_;rintro vS h3 ⟨F3,sl,GS,sok,sll⟩;have F23:=F2.then F3;have s1:=GS.one;have n2:=F2.next;have n3:=F3.next;simp only[evs,seval,aq s1];refine iG (B:=h.next) (k:=5) (s:=s) (sl:=sl) (sub:=.nil) F3.wf (G.fr F23) oM oM (I.fr w F23) (fun X h' hX f=>⟨oM,Gs.sl (GS.dj f fun z mz mz'=>by
                 have b1:=GS.vb z mz';rcases hX z mz with q|q
                 ·omega
                 ·have:=vlt z q;omega) (au bV sl) oM,oM,⟨rfl,rfl⟩,by simp[PT.len],trivial,trivial⟩) oM ?_
   intro v' h9 g' I' F' y';simp only[evs];refine rqn ⟨11-(i+1),oM,Fr.new wf (F.then F23) F' (fun z q=>G.vb z q),(i+1),v',_,iS,iS,iX,iX,oM,oM,g',I',by rw[PT.app_len];simp only[PT.len];omega,by rw[PT.nd_app];simp only[PT.nd];omega,PT.vl_app vl (PT.vl_one oM (J1 tok sok) trivial),rfl⟩
  ·simp only[evs,seval,eq_false k0,eq_false k1,eq_false k2,eq_false k3,eq_false k4,d8];refine ae (rG w) ?_;rintro _ h2 ⟨F2,tg,rfl,tok⟩;simp only[evs,seval,d2];refine ae (me F2.wf oM) ?_;rintro vS h3 ⟨F3,sl,GS,sok,sll⟩;have F23:=F2.then F3;have s1:=GS.one;have n2:=F2.next;have n3:=F3.next;obtain⟨h4,e_h4,F_h4,o_h4⟩:=av F3.wf [.int .u8 0,.str [],.str [],.nils,.str [],.nils];have n4:=hnx e_h4
   simp only[evs,seval,aq s1,←e_h4];refine ac F_h4.wf o_h4 rfl (by simp only[V.cells,af,ag,s1];rfl) rfl ?_;rintro h5 o5 F5 n5;have F35:Fr [] h3 h5:=F_h4.fresh F5 F3.wf (Nat.le_refl _);by_cases k7:(K:Int)=7
   case' pos=>
    obtain⟨h6,e_h6,F_h6,o_h6⟩:=av F5.wf [.str [117],.str [107]];have n6:=hnx e_h6
    have rV:Recs sS 1 h6 (.slice h5.next 0 2 2) [[117],[107]]:=Sl.lit o_h6 rfl;obtain⟨xo,wo,ky,v1,v2,_,v4⟩:=Recs.ix cC rV .u8 (C2:Int) oM (by show(C2:Int)<2;omega);have ly:ai h6 xo wo=some (.str ky):=v2 0 oM;have yt:okN ky=true:=by
     have ym:=List.mem_of_getElem? v4;simp only[List.mem_cons,List.not_mem_nil,or_false]at ym;rcases ym with rfl|rfl<;>rfl
    simp only[evs,seval,q8,eq_true k7,d8,q2,←e_h6,v1,ly];refine stu F_h6.wf (F_h6.get o5) ?_;rintro h5 o5 F7 n7;have F35:Fr [] h3 h5:=(F35.then F_h6).fresh F7 F3.wf (Nat.le_refl _);have Fhx:Fr [] hh h5:=F23.then F35;have nx:=F35.next;have ey:ky=[]∨okN ky=true:=.inr yt
   case' neg=>
    obtain⟨ky,hky⟩:∃ky:Str,ky=[]:=⟨_,rfl⟩;have o5:Own h5 h3.next [.int .u8 1,.str tg,.str ky,vS,.str [],.nils]:=by
     rw[hky];exact o5
    have Fhx:Fr [] hh h5:=F23.then F35;have nx:=F35.next;have ey:ky=[]∨okN ky=true:=.inl hky;simp only[evs,seval,q8,eq_false k7]
   all_goals
    by_cases cd:d<4
    ·obtain⟨e',rfl⟩:∃e',e=e'+1:=⟨e-1,oM⟩;simp(disch:=omega) only[evs,seval,fwrap_i64,g2,g0,eq_true (oM:(d:Int)<4)];rw[(oM:(d:Int)+1=((d+1:Nat):Int)),(oM:(i:Int)+1=((i+1:Nat):Int))];refine ae (ih e' rfl (d+1) (i+1) h5 vZ Zs oM F35.wf (ARecs.fr rZ (F.then Fhx)) hZ nZ oM) ?_;rintro _ h8 ⟨F8,vp,sub,j',rfl,j1,j2,GP,IP,pl,pn,pv⟩;have p1':=GP.one;have n8:=F8.next;simp only[evs,seval];refine ac (c':=[.int .u8 1,.str tg,.str ky,vS,.str [],vp]) F8.wf (F8.get o5) (by rw[aq p1'];rfl) (by rw[aq p1'];simp only[af,ag,p1'];rfl) (by rw[aq p1'];rfl) ?_;rintro h9 o9 F9 n9;have l9:=o9.la 6
     have Fh9:Fr [] hh h9:=(Fhx.then F8).fresh F9 w oM;have GS9:Gs h9 h2.next 3 vS (sl.flatMap fE):=((GS.fr F35).fr F8).dj F9 fun z mz mz'=>by simp at mz;have:=GS.lt F3.wf z mz';omega
     have GP9:Gs h9 (h5).next 6 vp sub.cells:=GP.keep F9 oO;simp only[evs,seval,g8,l9];refine iG (n0:=h.next) (B:=h.next) (k:=1) (s:=s) (sl:=sl) (sub:=sub) F9.wf (G.fr Fh9) oM oM (I.fr w Fh9) (fun X h' hX f=>⟨oM,Gs.sl (n:=sl.length) (GS9.dj f fun z mz mz'=>?_) (au bV sl) oM,oM,Gs.sl (n:=sub.len) (GP9.dj f fun z mz mz'=>?_) sub.cells_len oM,oM,IP (h3.next::X) h' (fun z mz=>?_) (Fr.trans F9 f F8.wf (fun z q=>.inl (by simp at q;simp[q])) (fun z q=>.inl iX)),trivial⟩) oM ?_
     ·have b1:=GS9.vb z mz';rcases hX z mz with q|q
      ·omega
      ·have:=vlt z q;omega
     ·have b1:=GP9.vb z mz';rcases hX z mz with q|q
      ·omega
      ·have:=vlt z q;omega
     ·rcases List.mem_cons.1 mz with rfl|mz
      ·exact .inl oM
      rcases hX z mz with q|q
      ·exact .inl oM
      ·have:=vlt z q;exact .inl oM
     intro v' ha g' I' F' y';simp only[evs];refine rqn ⟨11-j',oM,Fr.new wf (F.then Fh9) F' (fun z q=>G.vb z q),j',v',_,iS,iS,iX,iX,oM,oM,g',I',by rw[PT.app_len];simp only[PT.len];omega,by rw[PT.nd_app];simp only[PT.nd];omega,PT.vl_app vl (PT.vl_one oM (xA tok ey sok oM) pv),rfl⟩
    ·have l9:=o5.la 6
     have GS9:Gs h5 h2.next 3 vS (sl.flatMap fE):=GS.fr F35;simp only[evs,seval,g2,eq_false (oM:¬(d:Int)<4),g8,l9];refine iG (n0:=h.next) (B:=h.next) (k:=1) (s:=s) (sl:=sl) (sub:=.nil) F35.wf (G.fr Fhx) oM oM (I.fr w Fhx) (fun X h' hX f=>⟨oM,Gs.sl (GS9.dj f fun z mz mz'=>?_) (au bV sl) oM,oM,⟨rfl,rfl⟩,by simp[PT.len],trivial,trivial⟩) oM ?_
     ·have b1:=GS9.vb z mz';rcases hX z mz with q|q
      ·omega
      ·have:=vlt z q;omega
     intro v' ha g' I' F' y';simp only[evs];refine rqn ⟨11-(i+1),oM,Fr.new wf (F.then Fhx) F' (fun z q=>G.vb z q),(i+1),v',_,iS,iS,iX,iX,oM,oM,g',I',by rw[PT.app_len];simp only[PT.len];omega,by rw[PT.nd_app];simp only[PT.nd];omega,PT.vl_app vl (PT.vl_one oM (xA tok ey sok (by simp[PT.len])) trivial),rfl⟩
theorem t9:∀e,BC e
 |0=>t7 0 fun e' q=>by omega
 |e+1=>t7 (e+1) fun e' q=>by
  have:e'=e:=oM
  subst this;exact t9 e'
structure P14 where
 t:Nat
 s:Nat
 v:V
 Zs:List Nat
def P14.cells(p:P14):List V:=[ZY (p.t:Int),ZY (p.s:Int),p.v]
theorem CH(p:P14):p.cells.length=3:=rfl
structure P14H(h:Heap)(p:P14):Prop where
 s:p.s<256
 r:ARecs u8C 1 h p.v p.Zs
 z:∀z∈p.Zs,z<256
 n:p.Zs.length<281474976710656
theorem P14H.fr{h':Heap}{p:P14}(a:P14H h p)(f:Fr [] h h'):P14H h' p:=⟨a.s,TC a.r f,a.z,a.n⟩
theorem Hr{p:P14}(wf:WF h)(a:P14H h p):ay go 18 [.agg p.cells] h fun u h'=>Fr [] h h'/\∃(tg:Str)(vS vP:V)(sl:List Slo)(sub:PT),u=.agg [ZY 1,.str tg,.str [],vS,.str [],vP]/\az [ZY 1,.str tg,.str [],vS,.str [],vP]=true/\
 (∀X h2,(∀x∈X,x<h.next)->Fr X h' h2->PH h2 (.cons 1 tg [] sl [] vS vP sub .nil))/\cB 1 tg [] sl [] sub.len=true/\sub.vl 3/\sub.nd<=11/\sub.len<=11:=by
 have v1:=Ug a.r;obtain⟨h1,J,ab,ak⟩:=av wf p.cells;obtain⟨h2,I,Z,aj⟩:=av ab.wf [ZY 0,.str [],.str [],.nils,.str [],.nils];have n1:=hnx J
 have n2:=hnx I
 have a1:=ab.then Z;refine aa ?_;simp only[evs,seval,<-J,<-I];refine lW [zA 0 1,zL,zc 47 [.l 0],zA 1 1,zL,zc 48 [.l 0],zp (.build [(ZY 0),(.str []),(.str []),.nils,(.str []),.nils] [(0,1),(1,1),(3,1)]) [.c (ZY 1),.l 3,.l 0]] _ rfl ?_;have U:=QW Z.wf [ZY 0,.str [],.str [],.nils,.str [],.nils];have ad:=Ro Z.wf [ZY 0,.str [],.str [],.nils,.str [],.nils];have ao:(halloc h2 [ZY 0,.str [],.str [],.nils,.str [],.nils]).next=h2.next+1:=rfl;generalize halloc h2 [ZY 0,.str [],.str [],.nils,.str [],.nils]=h3 at U ad ao|-;have ah:=a1.then U;have ob:=U.get (Z.get ak);have l0{h'}(f:Fr [] h3 h'):=(f.get ob).l1 0;have l1{h'}(f:Fr [] h3 h'):=(f.get ob).l1 1;have r0:=Qw (S:=[]) ah.wf;simp only[evs,seval,eff,l0 r0];refine ae (rG ah.wf) ?_;rintro _ h4 ⟨F4,tg,rfl,tok⟩;simp only[evs,seval,eff,l1 F4];refine ae (me F4.wf a.s) ?_;rintro vS h5 ⟨F5,sl,GS,aE,a5⟩;have R:=F4.then F5;have s1:=GS.one;have a3:=F4.next;have a4:=F5.next;simp only[evs,seval,eff,cR,fu,aq s1];refine ac (c':=[ZY 1,.str tg,.str [],vS,.str [],.nils]) F5.wf (R.get ad) rfl (by simp only[V.cells,af,ag,s1];rfl) rfl ?_;rintro h6 o6 F6 n6;have aA:=(ah.then R).fresh F6 wf oM;have l2:=(F6.own _ _ oO (R.get ob)).l1 2;simp only[evs,seval,DF,l0 r0,l1 r0,l1 F4,l2];refine ae (t9 2 2 0 h6 p.v p.Zs rfl F6.wf (TC a.r aA) a.z a.n oM) ?_;rintro _ h7 ⟨D,vP,sub,j',rfl,_,j2,GP,IP,pl,pn,pv⟩;have p1:=GP.one;have a6:=D.next;simp only[evs,seval];refine ac (c':=[ZY 1,.str tg,.str [],vS,.str [],vP]) D.wf (D.get o6) (by rw[aq p1];rfl) (by rw[aq p1];simp only[af,ag,p1];rfl) (by rw[aq p1];rfl) ?_;rintro h8 o8 F8 n8;have l8:=o8.la 6
 have on:az [ZY 1,.str tg,.str [],vS,.str [],vP]=true:=by simp only[af,ag,s1,p1];rfl
 simp only[evs,seval,l8];have a2:=Qx D F8 F6.wf iS (fun z q=>.inl q);refine ac (c':=[ZY 1,.str tg,.str [],vS,.str [],vP]) F8.wf (F8.own _ _ oO (D.get (F6.own _ _ oO (R.get (U.get aj))))) rfl on rfl ?_;rintro h9 o9 F9 n9;have l9:=o9.la 6
 simp only[evs,seval,l9];have aF:Fr [h2.next,h1.next] h5 h9:=Qx (Qx F6 a2 F5.wf (fun z q=>.inl q) (fun z q=>.inl q):Fr [h2.next] h5 h8) F9 F5.wf (fun z q=>.inl (by simp at q;simp[q])) (fun z q=>.inl (by simp at q;simp[q]));have ax:Fr [h2.next,h1.next] h7 h9:=Qx F8 F9 D.wf (fun z q=>.inl (by simp at q;simp[q])) (fun z q=>.inl (by simp at q;simp[q]));have aR:=GS.keep aF oO;have a0:=GP.keep ax oO;refine⟨((aA.then D).fresh F8 wf oM).fresh F9 wf oM,tg,vS,vP,sl,sub,rfl,on,fun X h' hX f=>⟨oM,SM (n:=sl.length) (aR.keep f fun z q=>by have:=hX z q;omega) (au bV sl) oM,oM,SM (n:=sub.len) (a0.keep f fun z q=>by have:=hX z q;omega) sub.cells_len oM,oM,IP (h2.next::h1.next::X) h' (fun z q=>?_) (Qx ax f D.wf (fun z q=>.inl (by simp at q;rcases q with rfl|rfl<;>simp)) (fun z q=>.inl iX)),trivial⟩,xA tok (.inl rfl) aE oM,pv,oM,oM⟩
 rcases Qy.1 q with rfl|q
 ·omega
 rcases Qy.1 q with rfl|q
 ·omega
 ·grind
def dG(n:Int):Str:=if n<0 then 45::dec n.natAbs else dec n.natAbs
theorem bW{n:Int}(h:i64 n):(dG n).length<=21:=by
 obtain⟨Z,U⟩:=h;unfold dG;have:=aT (n:=n.natAbs) oM;split<;>simp<;>omega
theorem dU{h:Heap}:∀(k n:Nat),n<k→n<18446744073709551616→ay go 22 [.int .u64 (n:Int)] h fun u h'=>u=.str (dec n)∧h=h'
 |0,_,hk,_=>by omega
 |k+1,n,hk,hn=>by
  by_cases c:n<10
  ·have c':(n:Int)<10:=oM
   have f1:aB .u64 ((n:Int)+1)=(n:Int)+1:=Go.Ev.fwrap_u64 _ oM oM;refine aa ?_;simp only[evs,seval,eq_true c',f1,kC n c];rw[kD c]
  ·have c':¬(n:Int)<10:=oM
   have m10:n%10<10:=Nat.mod_lt _ oM;have r1:aP (.ib .rem) [.int .u64 (n:Int),.int .u64 10]=some (.int .u64 ((n%10:Nat):Int)):=by rw[iA _ _ _ dI];rfl
   have r2:aP (.ib .quo) [.int .u64 (n:Int),.int .u64 10]=some (.int .u64 ((n/10:Nat):Int)):=by
    rw[iB _ _ _ dI,(iR:((n:Int)).tdiv 10=((n/10:Nat):Int)),Go.Ev.fwrap_u64 _ oM oM]
   have f1:aB .u64 (((n%10:Nat):Int)+1)=((n%10:Nat):Int)+1:=Go.Ev.fwrap_u64 _ oM oM;refine aa ?_;simp only[evs,seval,eff,eq_false c',r2];refine dm (dU k (n/10) oM oM) ?_;have q1:=aT (n:=n/10) oM;simp only[evs,seval,DF,eff,r1,f1,kC _ m10,aI (dec (n/10)) [UInt8.ofNat (48+n%10)] oO];rw[pH c]
theorem gQ{h:Heap}:∀(k n:Nat),n<k→n<18446744073709551616→ay go 122 [.int .u64 (n:Int)] h fun u h'=>u=.str (dec n)∧h=h'
 |0,_,hk,_=>by omega
 |k+1,n,hk,hn=>by
  have m10:n%10<10:=Nat.mod_lt _ oM;have r1:aP (.ib .rem) [.int .u64 (n:Int),.int .u64 10]=some (.int .u64 ((n%10:Nat):Int)):=by rw[iA _ _ _ dI];rfl
  have f1:aB .u64 (((n%10:Nat):Int)+1)=((n%10:Nat):Int)+1:=Go.Ev.fwrap_u64 _ oM oM;by_cases c:n<10
  ·refine aa ?_;simp only[evs,seval,r1,f1,kC _ m10,eq_false (oM:¬(9:Int)<(n:Int))];rw[kD c,Nat.mod_eq_of_lt c]
  ·have r2:aP (.ib .quo) [.int .u64 (n:Int),.int .u64 10]=some (.int .u64 ((n/10:Nat):Int)):=by
    rw[iB _ _ _ dI,(iR:((n:Int)).tdiv 10=((n/10:Nat):Int)),Go.Ev.fwrap_u64 _ oM oM]
   refine aa ?_;simp only[evs,seval,r1,f1,kC _ m10,eq_true (oM:(9:Int)<(n:Int)),r2];refine dm (gQ k (n/10) oM oM) ?_;have q1:=aT (n:=n/10) oM;simp only[evs,seval,aI (dec (n/10)) [UInt8.ofNat (48+n%10)] oO];rw[pH c]
theorem Ib{n:Int}(Z:i64 n):ay go 119 [ZZ n] h fun u h'=>u=.str (dG n)/\h=h':=by
 obtain⟨U,R⟩:=Z;by_cases c:n<0
 ·have f1:aB .u64 (0-(n+1))=0-(n+1):=Rj _ oM oM;have f2:aB .u64 (0-(n+1)+1)=((n.natAbs:Nat):Int):=by rw[Rj _ oM oM];omega
  refine aa ?_;simp(disch:=omega) only[evs,seval,fwrap_i64,c,f1,f2];refine dm (gQ (n.natAbs+1) n.natAbs oM oM) ?_;exact yaP
 ·have f1:aB .u64 n=((n.natAbs:Nat):Int):=by rw[Rj _ oM oM];omega
  refine aa ?_;simp only[evs,seval,c,f1];refine dm (gQ (n.natAbs+1) n.natAbs oM oM) ?_;simp only[evs,seval];rw[dG,if_neg c]
theorem fR{n:Int}(Z:i64 n):ay go 21 [ZZ n] h fun u h'=>u=.str (dG n)/\h=h':=by
 obtain⟨U,R⟩:=Z;by_cases c:n<0
 ·have f1:aB .u64 (0-(n+1))=0-(n+1):=Rj _ oM oM;have f2:aB .u64 (0-(n+1)+1)=((n.natAbs:Nat):Int):=by rw[Rj _ oM oM];omega
  refine aa ?_;simp(disch:=omega) only[evs,seval,fwrap_i64,c,f1,f2];refine dm (dU (n.natAbs+1) n.natAbs oM oM) ?_;exact yaP
 ·have f1:aB .u64 n=((n.natAbs:Nat):Int):=by rw[Rj _ oM oM];omega
  refine aa ?_;simp only[evs,seval,c,f1];refine dm (dU (n.natAbs+1) n.natAbs oM oM) ?_;simp only[evs,seval];rw[dG,if_neg c]
def jn:List Str->Str
 |[]=>[]
 |[a]=>a
 |a::b::r=>a++44::jn (b::r)
theorem xV(a:Str):∀l:List Str,l≠[]->jn (l++[a])=jn l++(44::a)
 |[],h=>absurd rfl h
 |[b],_=>rfl
 |b::c::r,_=>by
  show b++44::jn (c::r++[a])=(b++44::jn (c::r))++(44::a);rw[xV a (c::r) iS];simp
theorem gG{z:Str}(h:okN z=true):0<z.length/\z.length<=16:=by
 simp only[okN,be,decide_eq_true_eq]at h;exact⟨h.1,h.2.1⟩
theorem xW:∀l:List Str,l.all okN=true→(jn l).length≤17*l.length
 |[],_=>by simp[jn]
 |[a],h=>by
  have:=(gG (z:=a) (eV h)).2;simp only[jn,List.length_cons,List.length_nil];omega
 |a::b::r,h=>by
  have h:=(Bool.and_eq_true ..).mp h;have h1:=(gG h.1).2;have h2:=xW (b::r) h.2;simp only[jn,List.length_append,List.length_cons]at h2⊢;omega
def uE(l:List Str):Str:=if l=[]then[45]else jn l
def itL(x:Itm):Str:=dec x.key++[32]++dec x.type++[32]++uE x.marks++[32]++x.text++[10]
theorem mM(h:gP x=true):x.text.length<=64/\x.marks.length<=8/\x.marks.all okN=true:=by
 simp only[gP,okT,okM,be,decide_eq_true_eq]at h;exact⟨h.2.1.1,h.2.2.1,h.2.2.2⟩
theorem sJ(h:gP x=true):(uE x.marks).length<=136:=by
 obtain⟨_,U,Z⟩:=mM h;have:=xW x.marks Z;unfold uE;split
 ·simp
 ·omega
theorem qS(h:gP x=true)(Z:x.key<18446744073709551616)(ht:x.type<256):(itL x).length<=244:=by
 have J:=sJ h;have R:=(mM h).1;have U:=aT Z;have I:(dec x.type).length<=3:=mY 2 _ oM;simp only[itL,Qv,QB,Rf];omega
theorem EN(w:WF h)(a:ItmH h x)(ok:gP x=true):ay go 59 [.agg x.cells] h fun u h'=>Fr [] h h'/\u=.str (itL x):=by
 obtain⟨tl,ml,ma⟩:=mM ok;have ab:=sJ ok;obtain⟨h1,R,U,Z⟩:=av w x.cells;have J:=Z.l1 0;have l1:=Z.l1 1;have l2:=Z.l1 2;have I:=Z.l1 3;have am:=a.m.fr U;have D:=a.k;have ht:=a.t;refine aa ?_;simp only[evs,↓reduceIte,<-R];refine aw (fun k env hh=>h1=hh/\∃(i:Nat),env.get 4=some (ZZ i)/\env.get 3=some (.str (jn (x.marks.take i)))/\env.get 1=some (.ptr h.next 0)/\i<=x.marks.length/\k=x.marks.length-i) x.marks.length oM ?_ ?_
 ·exact⟨rfl,0,iS,(by simp[jn]),iS,oM,rfl⟩
 ·rintro k env hh ⟨rfl,i,g4,g3,g1,hi,rfl⟩;have tk:(x.marks.take i).all okN=true:=QM.2 fun z m=>QM.1 ma z (QP m);have jl:=xW _ tk;rw[QN]at jl;by_cases c:i<x.marks.length
  ·obtain⟨b,o,z,e1,e2,_,e5⟩:=am.ix cC .i64 (i:Int) oM oM;have e4:ai h1 b o=some (.str z):=e2 0 oM;rw[so]at e5;have zl:=(gG (QM.1 ma z (Of e5))).2;have tt:x.marks.take (i+1)=x.marks.take i++[z]:=by rw[QS,e5];rfl
   by_cases c0:(0:Int)<(i:Int)
   ·have ne:x.marks.take i≠[]:=fun q=>by
     have:=congrArg List.length q;rw[QN,Rt oM]at this;have:i=0:=this;omega
    simp(disch:=omega) only[evs,↓reduceIte,Nat.reduceEqDiff,fwrap_i64,g4,g3,g1,I,am.len,eq_true (oM:(i:Int)<x.marks.length),eq_true c0,aI (jn (x.marks.take i)) [44] oO,e1,e4,aI (jn (x.marks.take i)++[44]) z oO];refine rqn ⟨x.marks.length-(i+1),oM,rfl,i+1,iS,by simp[tt,xV z _ ne],iX,oM,rfl⟩
   ·have i0:i=0:=oM
    subst i0;have g3:env.get 3=some (.str []):=by simpa[jn]using g3
    simp(disch:=omega) only[evs,↓reduceIte,Nat.reduceEqDiff,fwrap_i64,g4,g3,g1,I,am.len,eq_true (oM:((0:Nat):Int)<x.marks.length),eq_false c0,e1,e4,aI [] z oO];refine rqn ⟨x.marks.length-(0+1),oM,rfl,0+1,iS,by simp[tt,jn],iX,oM,rfl⟩
  ·rw[Qs oM]at g3 jl;have k1:=aT D;have k2:(dec x.type).length<=3:=mY 2 _ oM;have f1:aB .u64 (x.type:Int)=(x.type:Int):=Rj _ oM oM;by_cases cm:(x.marks.length:Int)=0
   ·have m0:x.marks=[]:=Rx.1 oM;simp only[evs,↓reduceIte,Nat.reduceEqDiff,eff,g4,g1,I,am.len,eq_false (oM:¬(i:Int)<x.marks.length),eq_true cm,J];refine dm (gQ (x.key+1) x.key oM D) ?_;simp only[evs,↓reduceIte,Nat.reduceEqDiff,eff,g1,l1,f1,aI (dec x.key) [32] oO];refine dm (gQ (x.type+1) x.type oM oM) ?_;simp only[evs,↓reduceIte,Nat.reduceEqDiff,Nat.reduceAdd,DF,eff,Nat.reduceSub,g1,J,l1,l2,aI (dec x.key++[32]) (dec x.type) oO,aI (dec x.key++[32]++dec x.type) [32] oO,aI (dec x.key++[32]++dec x.type++[32]) [45] oO,aI (dec x.key++[32]++dec x.type++[32]++[45]) [32] oO,aI (dec x.key++[32]++dec x.type++[32]++[45]++[32]) x.text oO,aI (dec x.key++[32]++dec x.type++[32]++[45]++[32]++x.text) [10] oO];exact⟨U,by rw[itL,uE,if_pos m0]⟩
   ·have m0:x.marks≠[]:=fun q=>cm (by rw[q];rfl);have mj:uE x.marks=jn x.marks:=by rw[uE,if_neg m0]
    rw[mj]at ab;simp only[evs,↓reduceIte,Nat.reduceEqDiff,eff,g4,g1,I,am.len,eq_false (oM:¬(i:Int)<x.marks.length),eq_false cm,J];refine dm (gQ (x.key+1) x.key oM D) ?_;simp only[evs,↓reduceIte,Nat.reduceEqDiff,eff,g1,l1,f1,aI (dec x.key) [32] oO];refine dm (gQ (x.type+1) x.type oM oM) ?_;simp only[evs,↓reduceIte,Nat.reduceEqDiff,Nat.reduceAdd,DF,eff,Nat.reduceSub,g1,g3,J,l1,l2,aI (dec x.key++[32]) (dec x.type) oO,aI (dec x.key++[32]++dec x.type) [32] oO,aI (dec x.key++[32]++dec x.type++[32]) (jn x.marks) oO,aI (dec x.key++[32]++dec x.type++[32]++jn x.marks) [32] oO,aI (dec x.key++[32]++dec x.type++[32]++jn x.marks++[32]) x.text oO,aI (dec x.key++[32]++dec x.type++[32]++jn x.marks++[32]++x.text) [10] oO];exact⟨U,by rw[itL,mj]⟩
open Go.Ev.St
theorem Di(v:Int):qI v=dG v:=by
 unfold qI dG;split
 ·grind
 ·grind
section
variable {h : Heap}
theorem CU{v:Int}(w:WF h)(T:Tq h)(hv:i64 v):ay go 115 [ZZ v] h fun u h'=>u=.str (dG v)/\Fr [] h h':=by
 rw[<-Di];refine aa ?_;simp[evs];refine ae (?_:ay go 185 [ZZ v] h fun u h'=>u=.str (qI v)/\Fr [] h h') ?_
 ·exact ybe
 rintro _ h1 ⟨rfl,F⟩;simp[evs];exact F
structure Bg(h:Heap)(b bb:Nat):Prop where
 t:h.tys.get b=some (83,2)
 n:b≠bb
 o:Own h b [.ptr b 0,.sliceU bb 0 0 1]
 oo:Own h bb []
 tt:h.tys.get bb=some (5,0)
theorem MK(n:Nat)(Z:n<=281474976710656):aux h (.mnz 5) [ZZ (n:Int)]=some (.sliceU h.next 0 n 1,htag (halloc h []) h.next 5 0):=by
 show(bif Nat.ble n 281474976710656 then _ else _)=_;rw[show Nat.ble n 281474976710656=true by rw[RW];exact Z];rfl
theorem On(b n:Nat)(Z:0<n):aP (.sl none 1 false true false) [.sliceU b 0 n 1,ZZ 0]=some (.sliceU b 0 0 1):=by
 have:=(QJ ..).mpr Z;simp only[aP,dW,aO,aY .i64 (0:Int) n oM oM,QG,QX,this];rfl
theorem KH(w:WF h)(t:h.tys.get b=some (83,2))(o:Own h b [.ptr b 0,.nils])(D:0<n)(hm:n<=1000000):
 ay go 251 [.ptr b 0,ZZ (n:Int)] h fun u h'=>Fr [b] h h'/\Bg h' b h.next:=by
 have l1:=o.l1 1;obtain⟨Z,J⟩:∃Z,Z=htag (halloc h []) h.next 5 0:=⟨_,rfl⟩;have U:Fr [] h Z:=by rw[J];exact(QW w _).tag (pi _)
 have oo:Own Z h.next []:=by rw[J];exact(show Own _ _ _ from Ro w _)
 have tt:Z.tys.get h.next=some (5,0):=by rw[J];exact QZ _ _ _
 have I:=(U.get o).l1 1;have ux:aux h (.mnz 5) [ZZ (n:Int)]=some (.sliceU h.next 0 n 1,Z):=by rw[J];exact MK n oM
 have cp:AB Z 1 (.sliceU h.next 0 0 1) .nils=some (ZZ 0,Z):=rfl;have bl:=o.lt w;refine aa ?_;simp(disch:=omega)[evs,DF,eff,fwrap_i64,l1,I,iM,eg,ux,On h.next n D,cp,Int.mul_zero,Int.zero_add];refine stu U.wf (U.get o) ?_;intro h2 o2 R n2;simp only[evs];exact⟨U.trans R w iS (fun x m=>.inl m),R.ty _ _ (by have:=U.next;omega) (U.ty _ _ bl t),oM,o2,R.own _ _ oO oo,R.ty _ _ (oo.lt U.wf) tt⟩
theorem Ik(w:WF h)(t:h.tys.get b=some (83,2))(o:Own h b [.nilp,.nils])(D:0<n)(hm:n<=1000000):
 ay go 187 [.ptr b 0,ZZ (n:Int)] h fun u h'=>∃bb,Fr [b] h h'/\h.next<=bb/\Bg h' b bb:=by
 have R:=o.l1 0;have q:aP (.nil 0 false) [.nilp,.nilp]=some (.bool true):=rfl;refine aa ?_;simp only[evs,seval];refine ae (?_:ay go 129 [.ptr b 0] h fun u h'=>u=.tup []/\Fr [b] h h'/\h'.next=h.next/\Own h' b [.ptr b 0,.nils]) ?_
 ·refine aa ?_;simp only[evs,seval,R,q,iM,eg,Gj R,Cr,Ct t];refine stu w o ?_;intro J o2 U I;simp only[evs];exact⟨U,I,o2⟩
 rintro _ h1 ⟨rfl,Z,n1,o1⟩;have l1:=o1.l1 1;have z:(0:Int)-0=0:=rfl;simp(disch:=omega) only[evs,seval,DF,eff,fwrap_i64,l1,z,eq_false (oM:¬(n:Int)<0),eq_true (oM:(0:Int)<(n:Int))];refine ae (KH Z.wf (Z.ty _ _ (o.lt w) t) o1 D hm) ?_;rintro u J ⟨U,B⟩;simp only[evs];exact⟨_,Z.trans U w (fun x m=>.inl m) (fun x m=>.inl m),oM,B⟩
theorem D6{bb:Nat}{s:Str}(w:WF h)(B:Bg h b bb)(h0:s≠[])(hs:s.length<=1000000):
 ay go 68 [.ptr b 0,.str s] h fun u h'=>u=.tup [ZZ (s.length:Int),.nili]/\∃v',Bd h' b v' s/\Fr [b,bb] h h'/\∀x∈vb v',h.next<=x:=by
 obtain⟨t,nb,o,oo,tt⟩:=B;have bl:=o.lt w;have ab:=oo.lt w;have l0:=o.l1 0;have l1:=o.l1 1;have q:aP (.nil 0 false) [.ptr b 0,.nilp]=some (.bool false):=rfl;have J:=List.length_pos_iff.2 h0;obtain⟨U,eh,o1,F1⟩:=iK (pos:=0) (c':=s.map c8) w oo;have ap:aux h (.apt 5 1 1) [.sliceU bb 0 0 1,.str s]=some (.sliceU h.next 0 s.length 1,htag U h.next 5 0):=by
  show yH h 5 1 1 (.sliceU bb 0 0 1) (.str s)=_;have e1:Ev.srcLen (.str s)=some s.length:=rfl;have e2:Ev.srcCells h 1 (.str s) s.length=some (s.map c8):=by
   exact yas
  have g1:(Nat.beq 1 1&&Nat.ble ((2*s.length+1024) *1) 281474976710656)=true:=by simp only[Rk,RU,RW];omega
  have g2:=xF s;have g3:Nat.ble (s.length*1) ([]:List V).length=false:=jG oO;have g4:Nat.ble 0 ([]:List V).length=true:=rfl;have ea:dK h 1 1 (.sliceU bb 0 0 1) (.str s)=some (.sliceU h.next 0 s.length 1,U):=by
   unfold dK;rw[e1];simp only[dJ (oM:s.length≠0),cond_false,e2,cond_true,oo.cells,cg,SN,jv,Ri,Rc,g1,g2,g3,g4,RU,eh,QG]
  unfold yH;rw[ea];simp only[Rk,cond_true,tt]
 have Z:Fr [bb] h (htag U h.next 5 0):=F1.tag (pi _);generalize e3:htag U h.next 5 0=D at ap Z;have o2:Own D h.next (s.map c8):=by rw[<-e3];exact o1
 have t2:D.tys.get h.next=some (5,0):=by rw[<-e3];exact QZ _ _ _
 have I:=Z.own _ _ (eV nb) o;refine aa ?_;simp[evs];refine ae (?_:ay go 129 [.ptr b 0] h fun u h'=>u=.tup []/\h=h') ?_
 ·refine aa ?_;simp[evs,l0,q,iM,eg,LI]
 rintro _ _ ⟨rfl,rfl⟩;simp[evs,l1,iM,eg,ap];refine stu Z.wf I ?_;intro h3 o3 R n3;simp[evs,(iR:aP .lenStr [.str s]=some (ZZ (s.length:Int)))];have nn:=Z.next;refine⟨.sliceU h.next 0 s.length 1,⟨R.ty _ _ oM (Z.ty _ _ bl t),by simp[vb];omega,.inr ⟨h.next,rfl,J,R.own _ _ oO o2,R.ty _ _ (o2.lt Z.wf) t2⟩,_,o3,.inr rfl⟩,Z.trans R w (fun x m=>.inl (by simp at m;simp[m])) (fun x m=>.inl (by simp at m;simp[m])),by simp[vb]⟩
end
open Go.Ev.St
theorem JY(Z:1<=k)(U:k<=7):∃q:Int,aP (.ib .quo) [ZZ 9223372036854775807,ZZ (k:Int)]=some (ZZ q)/\1<q:=by
 rcases(by omega:k=1\/k=2\/k=3\/k=4\/k=5\/k=6\/k=7)with rfl|rfl|rfl|rfl|rfl|rfl|rfl<;>exact⟨_,rfl,dI⟩
theorem ASl.from1{cs:List V}(a:ASl h 1 v n cs)(hn:2<=n):
 ∃v',aP (.sl none 1 true false false) [v,ZZ 1]=some v'/\∀{h'},ASl h' 1 v n cs->ASl h' 1 v' (n-1) (cs.drop 1):=by
 have hl:=a.1;cases v with
 |slice b o l k=>
  obtain⟨rfl,D,_⟩:=a.2;have b1:aO l k true false false [ZZ 1]=some (1,l,none):=by simp only[aO,aY .i64 (1:Int) l oM oM,QG];rfl
  refine⟨.slice b (o+1) (l-1) (k-1),?_,?_⟩
  ·simp only[aP,dW,b1,QG,SX,dJ (oM:k≠1),cond_false,Nat.one_mul]
  ·rintro h' ⟨R,U,I,c,q4,J,Z⟩;exact⟨by simp;omega,rfl,oM,c,q4,oM,by rw[Z,Ta,RC];congr 1;omega⟩
 |sliceU b o l e=>
  obtain⟨rfl,rfl,_⟩:=a.2;have b1:aO l l true false false [ZZ 1]=some (1,l,none):=by simp only[aO,aY .i64 (1:Int) l oM oM,QG];rfl
  refine⟨.sliceU b (o+1) (l-1) 1,?_,?_⟩
  ·simp only[aP,dW,b1,QX,iw (rfl:1=1),(QJ ..).mpr (oM:0<1),Sb,cond_true,(QJ ..).mpr (oM:1<l),Nat.one_mul]
  ·rintro h' ⟨R,U,I,c,q4,J,Z⟩;exact⟨by simp;omega,rfl,rfl,c,q4,oM,by rw[Z,Ta,RC];congr 1;omega⟩
 |nils=>have:=a.2;omega
 |sliceE=>have:=a.2;omega
 |sliceZ _ _=>have:=a.2;omega
 |_=>exact a.2.elim
section
variable {h : Heap}
theorem Kx{M:List Str}(w:WF h)(am:ARecs sS 1 h v M)(ok:M.all okN=true)(n8:M.length<=8):
 ay go 124 [v,.str [44]] h fun u h'=>u=.str (jn M)/\Fr [] h h':=by
 have Z:=am.len;by_cases c0:M.length=0
 ·have:=List.eq_nil_of_length_eq_zero c0;subst this;have Z:aP .lenS [v]=some (ZZ 0):=am.len;refine aa ?_;simp only[evs,seval,Z];exact⟨rfl,Qw w⟩
 by_cases c1:M.length=1
 ·obtain⟨z,rfl⟩:∃z,M=[z]:=List.length_eq_one_iff.1 c1;have Z:aP .lenS [v]=some (ZZ 1):=am.len;obtain⟨b,o,y,p1,R,_,U⟩:=am.ix cC .i64 0 oM iS;have U:some z=some y:=U;cases U;have R:ai h b o=some (.str z):=R 0 oM;refine aa ?_;simp only[evs,seval,Z,eq_false (dI:¬(1:Int)=0),p1,R];exact⟨rfl,Qw w⟩
 have I:∀(i:Nat)(z:Str),M[i]? =some z->0<z.length/\z.length<=16:=fun i z e=>gG (QM.1 ok z (Of e));obtain⟨k,hk⟩:∃k:Nat,M.length=k+1:=⟨M.length-1,oM⟩;obtain⟨q,eq,q1⟩:=JY (k:=k) oM oM;have k1:(M.length:Int)-1=(k:Int):=oM
 have ls:aP .lenStr [.str [44]]=some (ZZ 1):=rfl;refine aa ?_;simp(disch:=omega) only[evs,seval,fwrap_i64,Z,eq_false (oM:¬(M.length:Int)=0),eq_false (oM:¬(M.length:Int)=1),ls,eq_true (dI:(0:Int)<1),k1,eq,eq_false (oM:¬q<=1),Int.one_mul];refine aw (fun z env hh=>h=hh/\∃(i n:Nat),env.get 41=some (ZZ i)/\env.get 40=some (ZZ M.length)/\env.get 39=some v/\env.get 0=some v/\env.get 1=some (.str [44])/\env.get 5=some (ZZ n)/\0<n/\n<=8+16*i/\i<=M.length/\z=M.length-i) M.length oM ?_ ?_
 ·exact⟨rfl,0,k,iS,iS,iS,iS,iS,iS,oM,oM,oM,rfl⟩
 ·rintro z env hh ⟨rfl,i,n,J,ab,aj,g0,g1,g5,hn,a2,hi,rfl⟩;by_cases c:i<M.length
  ·obtain⟨b,o,y,p1,R,_,U⟩:=am.ix cC .i64 (i:Int) oM oM;rw[so]at U;have R:ai h b o=some (.str y):=R 0 oM;have yl:=I i y U;simp(disch:=omega) only[evs,seval,fwrap_i64,J,ab,aj,g5,eq_true (oM:(i:Int)<M.length),p1,R,aG,eq_false (oM:¬(9223372036854775807-(n:Int))<(y.length:Int))];refine rqn ⟨M.length-(i+1),oM,rfl,i+1,n+y.length,iS,iX,iX,iX,iX,iS,oM,oM,oM,rfl⟩
  ·obtain⟨h2,e2⟩:∃h2,h2=htag (halloc h [.nilp,.nils]) h.next 83 2:=⟨_,rfl⟩;have al:aux h (.alt 83 [.nilp,.nils]) []=some (.ptr h.next 0,h2):=by rw[e2];rfl
   have F2:Fr [] h h2:=by rw[e2];exact(QW w _).tag (pi _)
   have o2:Own h2 h.next [.nilp,.nils]:=by rw[e2];exact(show Own _ _ _ from Ro w _)
   have t2:h2.tys.get h.next=some (83,2):=by rw[e2];exact QZ _ _ _
   clear e2;simp only[evs,seval,J,ab,g5,eq_false (oM:¬(i:Int)<M.length),iM,eg,al];refine ae (Ik F2.wf t2 o2 oM oM) ?_;rintro u h3 ⟨bb,F3,a1,B3⟩;have ax:=F2.fresh F3 w (pi _);obtain⟨z0,e0⟩:∃z0,M[0]? =some z0:=⟨_,Qq oM⟩;obtain⟨b,o,y,p1,R,_,U⟩:=(TC am ax).ix cC .i64 0 oM oM;have U:M[0]? =some y:=U;have R:ai h3 b o=some (.str y):=R 0 oM;have yl:=I 0 y U;obtain⟨v',ev,sv⟩:=ASl.from1 am oM;simp only[evs,seval,g0,p1,R];refine ae (D6 F3.wf B3 (by rintro rfl;simp at yl) oM) ?_;rintro _ h4 ⟨rfl,aF,B4,F4,aR⟩;have n2:=F2.next;have n3:=F3.next;have a0:=B3.oo.lt F3.wf;have ao:=F3.trans F4 F2.wf (fun x m=>.inl (by simp at m;simp[m])) (fun x m=>.inl m);have aA:=Ru w F2 ao (fun x m=>by simp at m;omega);obtain⟨a,r,rfl⟩:∃a r,M=a::r:=by
    cases M with
    |nil=>simp at hk
    |cons a r=>exact⟨a,r,rfl⟩
   have ak{h'}(f:Fr [] h h'):ARecs sS 1 h' v' r:=sv (TC am f);have ea:a=y:=by simpa using U
   subst ea;have rl:(a::r).length=r.length+1:=rfl;have ad:=(ak (Qw w)).len;have jl:∀j,j<=r.length->(jn (a::r.take j)).length<=17*(j+1):=fun j hj=>by
    have:=xW (a::r.take j) (QM.2 fun z m=>QM.1 ok z (by
     rcases Qy.1 m with rfl|m
     ·simp
     ·exact QO _ (QP m)))
    rw[QB,QN,Rt hj]at this;exact this
   simp only[evs,seval,g0,ev,ad];clear J ab aj g0 g5;refine aw (fun z env hh=>Fr [] h hh/\∃(i:Nat)(u:V),env.get 65=some (ZZ i)/\env.get 64=some (ZZ r.length)/\env.get 63=some v'/\env.get 8=some (.ptr h.next 0)/\env.get 1=some (.str [44])/\i<=r.length/\Bd hh h.next u (jn (a::r.take i))/\(∀x∈vb u,h.next<=x)/\z=r.length-i) r.length oM ?_ ?_
   ·exact⟨aA,0,aF,iS,iS,iS,iS,iX,oM,B4,fun x m=>by have:=aR x m;omega,rfl⟩
   ·rintro z env hh ⟨F,i,u,D,ah,aE,g8,g1,hi,B,fv,rfl⟩;have wh:=F.wf;have:=jl i hi;by_cases c:i<r.length
    ·obtain⟨b,o,y,p1,R,_,U⟩:=(ak F).ix cC .i64 (i:Int) oM oM;rw[so]at U;have R:ai hh b o=some (.str y):=R 0 oM;have yl:=I (i+1) y U;simp only[evs,seval,D,ah,aE,g8,g1,eq_true (oM:(i:Int)<r.length),p1,R];refine ae (cG wh B oO) ?_;rintro _ h5 ⟨rfl,u5,B5,W5⟩;simp only[evs,seval,g8];refine ae (cG W5.1.wf B5 oO) ?_;rintro _ h6 ⟨rfl,u6,B6,W6⟩;have W:=Bw.trans wh W5 W6;simp(disch:=omega) only[evs,seval,fwrap_i64,D];have nn:=F.next;refine rqn ⟨r.length-(i+1),oM,Ru w F W.1 (fun x m=>by
      rcases Qy.1 m with rfl|m
      ·exact pi _
      ·exact fv x m),i+1,u6,iS,iX,iX,iX,iX,oM,?_,fun x m=>(W.2 x m).elim (fv x) (fun q=>by omega),rfl⟩
     have e:jn (a::r.take (i+1))=jn (a::r.take i)++[44]++y:=by
      have:=xV y (a::r.take i) iS;rw[QS,U];simpa using this
     rw[e];exact B6
    ·simp only[evs,seval,D,ah,g8,eq_false (oM:¬(i:Int)<r.length)];refine ae (eA wh B oM) ?_;rintro _ h5 ⟨rfl,F5⟩;simp only[evs,seval];rw[Qs oM];exact⟨rfl,Ru w F F5 (fun x m=>by
      rcases Qy.1 m with rfl|m
      ·exact pi _
      ·exact fv x m)⟩
end
open Go.Ev.St
def us4(k:Nat):List Int:=if k=1\/k=4 then[1,0,0,1]else if k=2 then[1,1,0,0]else if k=3 then[1,1,1,0]else if k=5 then[0,0,0,1]else[0,0,0,0]
def nv4(n:Ntc):List Int:=[n.a,n.c,n.t,(n.Y.length:Nat)]
def Ke(n:Ntc)(i:Nat):Prop:=(us4 n.k)[i]? =some 0/\(nv4 n)[i]? ≠some 0
def Bi(n:Ntc):Prop:=1<=n.k/\n.k<=5/\∀i,i<4->¬Ke n i
theorem qJ(k:Nat):(us4 k).length=4:=by unfold us4;(repeat' split)<;>rfl
theorem Gu(k:Nat):∃a b c d,us4 k=[a,b,c,d]:=by unfold us4;(repeat' split)<;>exact⟨_,_,_,_,rfl⟩
theorem Gv(h:i<4):∃z,(us4 k)[i]? =some z/\(z=0\/z=1):=by
 have e:us4 k=[1,0,0,1]\/us4 k=[1,1,0,0]\/us4 k=[1,1,1,0]\/us4 k=[0,0,0,1]\/us4 k=[0,0,0,0]:=by
  unfold us4;(repeat' split)<;>simp
 have:i=0\/i=1\/i=2\/i=3:=oM
 rcases this with rfl|rfl|rfl|rfl<;>rcases e with e|e|e|e|e<;>rw[e]<;>simp
theorem yR(w:WF h):ay go 118 [ZY (k:Int)] h fun u h'=>Fr [] h h'/\u=.agg ((us4 k).map (V.int .i64)):=by
 obtain⟨U,Z,F_h1,o_h1⟩:=av w Z4i;have fin{x:List V}{h2}(o:Own h2 h.next x)(f:Fr [h.next] U h2):=F_h1.fresh f w (pi _);by_cases c1:k=1
 ·refine aa ?_;simp[evs,<-Z,eq_true (oM:(k:Int)=1)];exact yf
 by_cases c4:k=4
 ·refine aa ?_;simp[evs,<-Z,eq_false (oM:¬(k:Int)=1),eq_true (oM:(k:Int)=4)];exact yf
 by_cases c2:k=2
 ·refine aa ?_;simp[evs,<-Z,eq_false (oM:¬(k:Int)=1),eq_false (oM:¬(k:Int)=4),eq_true (oM:(k:Int)=2)];exact yf
 by_cases c3:k=3
 ·refine aa ?_;simp[evs,<-Z,eq_false (oM:¬(k:Int)=1),eq_false (oM:¬(k:Int)=4),eq_false (oM:¬(k:Int)=2),eq_true (oM:(k:Int)=3)];exact yf
 by_cases c5:k=5
 ·refine aa ?_;simp[evs,<-Z,eq_false (oM:¬(k:Int)=1),eq_false (oM:¬(k:Int)=4),eq_false (oM:¬(k:Int)=2),eq_false (oM:¬(k:Int)=3),eq_true (oM:(k:Int)=5)];exact yf
 refine aa ?_;simp[evs,<-Z,eq_false (oM:¬(k:Int)=1),eq_false (oM:¬(k:Int)=4),eq_false (oM:¬(k:Int)=2),eq_false (oM:¬(k:Int)=3),eq_false (oM:¬(k:Int)=5)];exact yf
theorem J3{l:List Int}{z:Int}(o:Own h b (l.map (V.int .i64)))(e:l[i]? =some z):ai h b i=some (ZZ z):=by
 rw[o.ld1,fq,SK,e];rfl
theorem tj{x:Nt}(w:WF h)(r:Recs Itm.cells 4 h x.v x.n.Y)(hk:x.n.k<256):ay go 56 [.agg x.cells] h fun u h'=>Fr [] h h'/\∃e:Int,u=ZZ e/\0<=e/\(e=0↔Bi x.n):=by
 have v1:=RI r;obtain⟨h1,R,Z,U⟩:=av w x.cells;have n1:=hnx R
 have c0{h'}(f:Fr [] h1 h'):=(f.get U).l1 0;have r0:Fr [] h1 h1:=Qw Z.wf;have x1:az x.cells=true:=by show az [_,_,_,_,x.v]=true;simp only[af,ag,v1];rfl
 by_cases k1:x.n.k<1
 ·refine aa ?_;simp only[evs,seval,<-R,c0 r0,eq_true (oM:(x.n.k:Int)<1)];exact⟨Z,1,rfl,oM,oM,fun q=>by have:=q.1;omega⟩
 by_cases k5:5<x.n.k
 ·refine aa ?_;simp only[evs,seval,<-R,c0 r0,eq_false (oM:¬(x.n.k:Int)<1),eq_true (oM:5<(x.n.k:Int))];exact⟨Z,1,rfl,oM,oM,fun q=>by have:=q.2.1;omega⟩
 refine aa ?_;simp only[evs,seval,<-R,c0 r0,eq_false (oM:¬(x.n.k:Int)<1),eq_false (oM:¬5<(x.n.k:Int))];refine ae (yR Z.wf) ?_;rintro _ h2 ⟨F2,rfl⟩;obtain⟨ua,ub,uc,ud,e4⟩:=Gu x.n.k;rw[e4];obtain⟨h3,ah,D,ak⟩:=av F2.wf Z4i;simp only[evs,seval,<-ah];refine ac D.wf ak rfl rfl rfl ?_;rintro h4 ax F4 n4;have o4:Own h4 h2.next ((us4 x.n.k).map (V.int .i64)):=by rw[e4];exact ax
 have n2:=F2.next;have ao:=D.fresh F4 F2.wf (pi _);have aj:=F2.then ao;simp only[evs];refine aw (fun n env hh=>Fr [] h4 hh/\∃i:Nat,env.get 4=some (ZZ i)/\env.get 1=some (.ptr h.next 0)/\env.get 3=some (.ptr h2.next 0)/\i<=4/\(∀j,j<i->¬Ke x.n j)/\n=4-i) 4 oM ?_ ?_
 ·exact⟨Qw F4.wf,0,iS,iS,iS,oM,oM,rfl⟩
 ·rintro n env hh ⟨F,i,g4,g1,g3,hi,hb,rfl⟩;by_cases c:i<4
  ·have xa:=iC 1 h2.next 0 4 .i64 (i:Int) oM oM;simp only[so,Sj,Rc]at xa;obtain⟨ui,eu,_⟩:=Gv c;have lu:=J3 (F.get o4) eu;have Fx:=aj.then F;have e1:=(Fx.get U).l1 1;have e2:=(Fx.get U).l1 2;have e3:=(Fx.get U).l1 3;have ad:=(Fx.get U).l1 4;have len:=(QI r (Z.then Fx)).len;by_cases cu:ui=0
   ·subst cu;obtain⟨h5,J,I,ab⟩:=av F.wf (u4 x.n.a x.n.c x.n.t (x.n.Y.length:Nat));have n5:=hnx J
    obtain⟨z,ez⟩:∃z,(nv4 x.n)[i]? =some z:=⟨_,Qq (show i<(nv4 x.n).length from c)⟩;have lz:=J3 (l:=nv4 x.n) ab ez;have xs:=bO 1 hh.next 0 4 4 .i64 (i:Int) oM oM;simp only[so,Sj,Rc]at xs;by_cases cz:z=0
    ·simp(disch:=omega) only[evs,seval,fwrap_i64,g4,g1,g3,(oM:(i:Int)<4),xa,lu,e1,e2,e3,ad,len,<-J,xs,lz,cz];refine rqn ⟨4-(i+1),oM,F.then I,i+1,iS,iX,iX,oM,fun j hj=>?_,rfl⟩;by_cases q:j=i
     ·subst q;exact fun b=>b.2 (by rw[ez,cz])
     ·grind
    ·simp only[evs,seval,g4,g1,g3,(oM:(i:Int)<4),xa,lu,e1,e2,e3,ad,len,<-J,xs,lz,eq_false cz];exact⟨Z.then (Fx.then I),5,rfl,oM,oM,fun q=>absurd ⟨eu,by rw[ez];simpa using cz⟩ (q.2.2 i c)⟩
   ·simp(disch:=omega) only[evs,seval,fwrap_i64,g4,g3,(oM:(i:Int)<4),xa,lu,eq_false cu];refine rqn ⟨4-(i+1),oM,F,i+1,iS,iX,iX,oM,fun j hj=>?_,rfl⟩;by_cases q:j=i
    ·subst q;exact fun b=>cu (by have:=b.1;rw[eu]at this;simpa using this)
    ·grind
  ·simp only[evs,seval,g4,(oM:¬(i:Int)<4)];exact⟨Z.then (aj.then F),0,rfl,oM,fun _=>⟨oM,oM,fun j hj=>hb j oM⟩,fun _=>rfl⟩
def pc1(u v:Int):Str:=if u=1 then 32::dG v else[]
def lnp:List Int->List Int->Str
 |u::us,v::vs=>pc1 u v++lnp us vs
 |_,_=>[]
theorem zC(u v:Int):∀us vs:List Int,us.length=vs.length->lnp (us++[u]) (vs++[v])=lnp us vs++pc1 u v
 |[],[],_=>by simp[lnp]
 |[],_::_,h=>by simp at h
 |_::_,[],h=>by simp at h
 |a::us,b::vs,h=>by simp only[Rb,lnp,zC u v us vs (eV h),QE]
theorem xP:∀us vs:List Int,(∀v∈vs,i64 v)→(lnp us vs).length≤22*us.length
 |[],_,_=>by simp[lnp]
 |_::_,[],_=>by simp[lnp]
 |u::us,v::vs,h=>by
  have h1:=xP us vs fun z m=>h z (List.mem_cons_of_mem _ m);have h2:=bW (h v (List.mem_cons_self ..));simp only[lnp,pc1,List.length_append,List.length_cons];split<;>simp<;>omega
def wd5:List Str:=[[],[105,110,115,101,114,116],[114,101,109,111,118,101],[109,111,118,101],[99,104,97,110,103,101],[114,101,115,101,116]]
def ntL(n:Ntc):Str:=(wd5.getD n.k [])++lnp (us4 n.k) (nv4 n)++[10]
theorem wW(k:Nat):(wd5.getD k []).length<=6:=by
 rcases(by omega:k=0\/k=1\/k=2\/k=3\/k=4\/k=5\/6<=k)with rfl|rfl|rfl|rfl|rfl|rfl|h
 ·decide
 ·decide
 ·decide
 ·decide
 ·decide
 ·decide
 ·rw[Ty,SF (by show 6<=k;exact h)];decide
theorem CM{n:Ntc}(U:i64 n.a)(R:i64 n.c)(ht:i64 n.t)(hY:n.Y.length<4611686018427387904):(ntL n).length<=95:=by
 have J:=wW n.k;have Z:=xP (us4 n.k) (nv4 n) (fun v m=>by
  simp only[nv4,Qy,Rz,or_false]at m;rcases m with rfl|rfl|rfl|rfl
  ·exact U
  ·exact R
  ·exact ht
  ·exact⟨oM,oM⟩)
 rw[qJ]at Z;simp only[ntL,Qv,QB,Rf];omega
theorem EM{x:Nt}(w:WF h)(r:Recs Itm.cells 4 h x.v x.n.Y)(hk:x.n.k<=5)(ha:i64 x.n.a)(hc:i64 x.n.c)(ht:i64 x.n.t)(hY:x.n.Y.length<4611686018427387904):
 ay go 57 [.agg x.cells,ZZ (x.n.Y.length:Int)] h fun u h'=>Fr [] h h'/\u=.str (ntL x.n):=by
 have v1:=RI r;have x1:az x.cells=true:=by show az [_,_,_,_,x.v]=true;simp only[af,ag,v1];rfl
 have wl:=wW x.n.k;have ax:∀v∈nv4 x.n,i64 v:=fun v m=>by
  simp only[nv4,Qy,Rz,or_false]at m;rcases m with rfl|rfl|rfl|rfl
  ·exact ha
  ·exact hc
  ·exact ht
  ·exact⟨oM,oM⟩
 obtain⟨h1,U,J,ak⟩:=av w x.cells;obtain⟨h2,R,Z,ad⟩:=av J.wf [.str [],.str [105,110,115,101,114,116],.str [114,101,109,111,118,101],.str [109,111,118,101],.str [99,104,97,110,103,101],.str [114,101,115,101,116]];have n1:=hnx U
 have n2:=hnx R
 have aF:=J.then Z;have ob:=Z.get ak;have c0{h'}(f:Fr [] h2 h'):=(f.get ob).l1 0;have rW:Recs sS 1 h2 (.slice h1.next 0 6 6) wd5:=RM ad rfl;obtain⟨bo,oo,z,p1,p2,_,p4⟩:=Rg cC rW .u8 (x.n.k:Int) oM (by show(x.n.k:Int)<6;omega);have lz:ai h2 bo oo=some (.str z):=p2 0 oM;rw[so]at p4;have ez:wd5.getD x.n.k []=z:=by grind
 rw[ez]at wl;have r0:=Qw (S:=[]) Z.wf;refine aa ?_;simp only[evs,seval,<-U,<-R,c0 r0,p1,lz];refine ae (yR Z.wf) ?_;rintro _ h3 ⟨F3,rfl⟩;obtain⟨ua,ub,uc,ud,e4⟩:=Gu x.n.k;rw[e4];obtain⟨h4,D,I,aj⟩:=av F3.wf Z4i;have n4:=hnx D
 simp only[evs,seval,<-D];refine ac (o:=0) (c':=u4 ua ub uc ud) I.wf aj rfl rfl rfl ?_;rintro h5 aR F5 n5;have o5:Own h5 h3.next ((us4 x.n.k).map (V.int .i64)):=by rw[e4];exact aR
 have n3:=F3.next;have aE:=I.fresh F5 F3.wf (pi _);have ao:=F3.then aE;simp only[evs];refine aw (fun n env hh=>Fr [] h5 hh/\∃(i:Nat),env.get 7=some (ZZ i)/\env.get 5=some (.str (z++lnp ((us4 x.n.k).take i) ((nv4 x.n).take i)))/\env.get 1=some (ZZ (x.n.Y.length:Int))/\env.get 2=some (.ptr h.next 0)/\env.get 6=some (.ptr h3.next 0)/\i<=4/\n=4-i) 4 oM ?_ ?_
 ·exact⟨Qw F5.wf,0,iS,(by simp[lnp]),iS,iS,iS,oM,rfl⟩
 ·rintro n env hh ⟨F,i,g7,g5,g1,g2,g6,hi,rfl⟩;have tl:(lnp ((us4 x.n.k).take i) ((nv4 x.n).take i)).length<=88:=by
   have:=xP ((us4 x.n.k).take i) ((nv4 x.n).take i) fun v m=>ax v (QP m);rw[QN,qJ]at this;omega
  by_cases c:i<4
  ·have xa:=iC 1 h3.next 0 4 .i64 (i:Int) oM oM;simp only[so,Sj,Rc]at xa;obtain⟨ui,eu,_⟩:=Gv (k:=x.n.k) c;have lu:=J3 (F.get o5) eu;obtain⟨y,ey⟩:∃y,(nv4 x.n)[i]? =some y:=⟨_,Qq (show i<(nv4 x.n).length from c)⟩;have ts:lnp ((us4 x.n.k).take (i+1)) ((nv4 x.n).take (i+1))=lnp ((us4 x.n.k).take i) ((nv4 x.n).take i)++pc1 ui y:=by
    rw[QS,QS,eu,ey];exact zC ui y _ _ (by rw[QN,QN,qJ];rfl)
   have Fx:=ao.then F;have e1:=(Fx.get ob).l1 1;have e2:=(Fx.get ob).l1 2;have e3:=(Fx.get ob).l1 3;by_cases cu:ui=1
   ·subst cu;obtain⟨h6,aA,ah,ab⟩:=av F.wf (u4 x.n.a x.n.c x.n.t (x.n.Y.length:Nat));have lz:=J3 (l:=nv4 x.n) ab ey;have xs:=bO 1 hh.next 0 4 4 .i64 (i:Int) oM oM;simp only[so,Sj,Rc]at xs;have yl:=ax y (Of ey);have yq:=bW yl;simp only[evs,seval,g7,g5,g1,g2,g6,eq_true (oM:(i:Int)<4),xa,lu,aI (z++lnp ((us4 x.n.k).take i) ((nv4 x.n).take i)) [32] oO,e1,e2,e3,<-aA,xs,lz];refine dm (Ib yl) ?_;simp(disch:=omega) only[evs,seval,fwrap_i64,g7,aI (z++lnp ((us4 x.n.k).take i) ((nv4 x.n).take i)++[32]) (dG y) oO];refine rqn ⟨4-(i+1),oM,F.then ah,i+1,iS,by simp[ts,pc1],iX,iX,iX,oM,rfl⟩
   ·simp(disch:=omega) only[evs,seval,fwrap_i64,g7,g6,eq_true (oM:(i:Int)<4),xa,lu,eq_false cu];refine rqn ⟨4-(i+1),oM,F,i+1,iS,by simp[ts,pc1,cu,g5],iX,iX,iX,oM,rfl⟩
  ·have i4:i=4:=oM
   subst i4;rw[Qs (by rw[qJ];omega),Qs (show(nv4 x.n).length<=4 from pi 4)]at g5 tl;simp only[evs,seval,g7,g5,eq_false (oM:¬((4:Nat):Int)<4),aI (z++lnp (us4 x.n.k) (nv4 x.n)) [10] oO];exact⟨aF.then (ao.then F),by rw[ntL,ez]⟩
def ntT(x:Nt):Str:=ntL x.n++x.n.Y.flatMap itL
def vL(Y:List Itm):Prop:=Y.length<=1024/\∀y∈Y,okI y 8=true
def mN(Ns:List Nt):Prop:=∀x∈Ns,Bi x.n/\vL x.n.Y
theorem mQ:∀Y:List Itm,(∀y∈Y,okI y 8=true∧y.key<18446744073709551616∧y.type<256)→(Y.flatMap itL).length≤244*Y.length
 |[],_=>by simp
 |y::Y,h=>by
  have h1:=mQ Y fun z m=>h z (List.mem_cons_of_mem _ m);obtain⟨a,b,c⟩:=h y (List.mem_cons_self ..);have h2:=qS (kN a) b c;simp only[List.flatMap_cons,List.length_append,List.length_cons];omega
theorem CK{x:Nt}(a:NtH h x)(k:vL x.n.Y):(ntT x).length<=250000:=by
 have Z:=CM a.a a.c a.t (by have:=a.n;omega);have U:=mQ x.n.Y fun y m=>⟨k.2 y m,(a.i y m).k,(a.i y m).t⟩;have:=k.1;simp only[ntT,Qv];omega
theorem xJ{h:Heap}:∀Ns:List Nt,(∀x∈Ns,NtH h x)→mN Ns→(Ns.flatMap ntT).length≤250000*Ns.length
 |[],_,_=>by simp
 |x::Ns,a,k=>by
  have h1:=xJ Ns (fun z m=>a z (List.mem_cons_of_mem _ m)) fun z m=>k z (List.mem_cons_of_mem _ m);have h2:=CK (a x (List.mem_cons_self ..)) (k x (List.mem_cons_self ..)).2;simp only[List.flatMap_cons,List.length_append,List.length_cons];omega
theorem bD{α:Type}{f:α->Str}{L:List α}{x:α}(e:L[i]? =some x):(L.take (i+1)).flatMap f=(L.take i).flatMap f++f x:=by
 rw[QS,e];simp
theorem uS{vN:V}{Ns:List Nt}(w:WF h)(rn:Recs Nt.cells 5 h vN Ns)(hx:∀x∈Ns,NtH h x)(hN:Ns.length<=4096):
 ay go 25 [vN] h fun u h'=>Fr [] h h'/\∃(s:Str)(e:Int),u=.tup [.str s,ZZ e]/\0<=e/\(e=0↔Ns.length<=32/\mN Ns/\(Ns.flatMap ntT).length<=1048576)/\(e=0->s=Ns.flatMap ntT):=by
 by_cases c32:32<Ns.length
 ·refine aa ?_;simp only[evs,seval,rn.len,eq_true (oM:(32:Int)<Ns.length)];exact⟨Qw w,_,_,rfl,oM,oM,fun q=>by omega⟩
 refine aa ?_;simp only[evs,seval,rn.len,eq_false (oM:¬(32:Int)<Ns.length)];refine aw (fun n env hh=>Fr [] h hh/\∃i:Nat,env.get 5=some (ZZ i)/\env.get 4=some (.str ((Ns.take i).flatMap ntT))/\env.get 0=some vN/\i<=Ns.length/\mN (Ns.take i)/\n=Ns.length-i) Ns.length oM ?_ ?_
 ·exact⟨Qw w,0,iS,iS,iS,oM,by simp[mN],rfl⟩
 ·rintro n env hh ⟨F,i,g5,g4,g0,hi,ok,rfl⟩;have wh:=F.wf;have R:=QI rn F;have tl:=xJ (Ns.take i) (fun x m=>hx x (QP m)) ok;have ax:((Ns.take i).flatMap ntT).length<=8000000:=by grind
  by_cases c:i<Ns.length
  ·obtain⟨b,o,x,p1,p2,p3,p4⟩:=Rg fJ R .i64 (i:Int) oM oM;rw[so]at p4;have xm:=Of p4;have I{h'}(f:Fr [] hh h'):aH h' b o 5=some x.cells/\ai h' b (o+4)=some x.v:=by
    obtain⟨b',o',x',q1,q2,q3,q4⟩:=Rg fJ (QI R f) .i64 (i:Int) oM oM;rw[p1]at q1;cases q1;rw[so,p4]at q4;cases q4;exact⟨q3,q2 4 oM⟩
   have rr:=Qw (S:=[]) wh;have Z:=(hx x xm).fr F;have xY:=Z.n;simp only[evs,seval,g5,g0,R.len,eq_true (oM:(i:Int)<Ns.length),p1,(I rr).1];refine ae (tj wh Z.r Z.k) ?_;rintro _ h2 ⟨U,e,rfl,e0,ei⟩;by_cases ce:0<e
   ·simp only[evs,seval,ce,g5,g0,p1,(I U).1];refine ae (tj U.wf (Z.fr U).r Z.k) ?_;rintro _ h3 ⟨F3,e',rfl,ak,ad⟩;simp only[evs,seval];have ne:¬Bi x.n:=fun q=>by have:=ei.2 q;omega
    exact⟨F.then (U.then F3),_,_,rfl,ak,⟨fun q=>absurd (ad.1 q) ne,fun q=>absurd (q.2.1 x xm).1 ne⟩,fun q=>absurd (ad.1 q) ne⟩
   have nk:=ei.1 oM;have ah:=F.then U;have ab:=Z.fr U;have w2:=U.wf;by_cases c10:1024<x.n.Y.length
   ·simp only[evs,seval,ce,g5,g0,p1,(I U).2,ab.r.len,eq_true (oM:(1024:Int)<x.n.Y.length)];exact⟨ah,_,_,rfl,oM,⟨fun q=>by omega,fun q=>by have:=(q.2.1 x xm).2.1;omega⟩,fun q=>by omega⟩
   simp only[evs,seval,eff,ce,g5,g4,g0,p1,(I U).1,(I U).2,ab.r.len,eq_false (oM:¬(1024:Int)<x.n.Y.length)];refine ae (EM w2 ab.r nk.2.1 Z.a Z.c Z.t oM) ?_;rintro _ h3 ⟨F3,rfl⟩;have ll:=CM Z.a Z.c Z.t oM;have aE:=ah.then F3;have ao:=U.then F3;simp only[evs,seval,DF,eff,(I U).1,(I U).2,aI ((Ns.take i).flatMap ntT) (ntL x.n) oM];refine aw (fun n env h'=>Fr [] h3 h'/\∃k:Nat,env.get 6=some (ZZ k)/\env.get 4=some (.str ((Ns.take i).flatMap ntT++ntL x.n++(x.n.Y.take k).flatMap itL))/\env.get 5=some (ZZ i)/\env.get 0=some vN/\k<=x.n.Y.length/\(∀y∈x.n.Y.take k,okI y 8=true)/\n=x.n.Y.length-k) x.n.Y.length oM ?_ ?_
   ·exact⟨Qw F3.wf,0,iS,iS,iX,iX,oM,iS,rfl⟩
   ·rintro n env h' ⟨FF,k,f6,f4,f5,f0,hk,oy,rfl⟩;have Fh:=ao.then FF;have F0:=F.then Fh;have w':=FF.wf;have J:=Z.fr Fh;have il:=mQ (x.n.Y.take k) fun y m=>⟨oy y m,(Z.i y (QP m)).k,(Z.i y (QP m)).t⟩;rw[QN]at il;by_cases cy:k<x.n.Y.length
    ·obtain⟨b2,o2,y,s1,s2,s3,s4⟩:=Rg b8 J.r .i64 (k:Int) oM oM;rw[so]at s4;have ym:=Of s4;have ly{aj}(f:Fr [] h' aj):aH aj b2 o2 4=some y.cells:=by
      obtain⟨b',o',y',q1,q2,q3,q4⟩:=Rg b8 (QI J.r f) .i64 (k:Int) oM oM;rw[s1]at q1;cases q1;rw[so,s4]at q4;cases q4;exact q3
     have r':=Qw (S:=[]) w';have yh:=J.i y ym;simp only[evs,seval,f6,f5,f0,p1,(I Fh).2,J.r.len,eq_true (oM:(k:Int)<x.n.Y.length),s1,ly r'];refine aN (pK (types:=8) w' yh oM) fun h5 F5=>?_;cases D:okI y 8 with
     |false=>
      simp only[evs,seval,eq_true (dI:(0:Int)<6)];exact⟨F0.then F5,_,_,rfl,oM,⟨fun q=>by omega,fun q=>by have:=(q.2.1 x xm).2.2 y ym;rw[D]at this;cases this⟩,fun q=>by omega⟩
     |true=>
      have aA:=Fh.then F5;simp only[evs,seval,eq_false (dI:¬(0:Int)<0),f6,f4,f5,f0,p1,(I aA).2,s1,ly F5];refine ae (EN F5.wf (yh.fr F5) (kN D)) ?_;rintro _ h6 ⟨F6,rfl⟩;have li:=qS (kN D) yh.k yh.t;simp(disch:=omega) only[evs,seval,fwrap_i64,f6,aI ((Ns.take i).flatMap ntT++ntL x.n++(x.n.Y.take k).flatMap itL) (itL y) (by simp only[Qv];omega)];refine rqn ⟨x.n.Y.length-(k+1),oM,FF.then (F5.then F6),k+1,iS,by simp only[RP,bD s4,<-QE,seval],iX,iX,oM,fun z m=>?_,rfl⟩;rw[QS,s4]at m;rcases Qp.1 m with m|m
      ·exact oy z m
      ·grind
    ·have tY:x.n.Y.take k=x.n.Y:=Qs oM;rw[tY]at f4 oy;simp(disch:=omega) only[evs,seval,fwrap_i64,f6,f5,f0,p1,(I Fh).2,J.r.len,eq_false (oM:¬(k:Int)<x.n.Y.length)];refine rqn ⟨Ns.length-(i+1),oM,F0,i+1,iS,by simp only[RP,bD p4,ntT,<-QE,f4,seval],iX,oM,fun z m=>?_,rfl⟩;rw[QS,p4]at m;rcases Qp.1 m with m|m
     ·exact ok z m
     ·simp at m;subst m;exact⟨nk,oM,oy⟩
  ·rw[Qs oM]at g4 ok ax;by_cases cs:1048576<(Ns.flatMap ntT).length
   ·simp only[evs,seval,g5,g4,g0,R.len,eq_false (oM:¬(i:Int)<Ns.length),aG,eq_true (oM:(1048576:Int)<(Ns.flatMap ntT).length)];exact⟨F,_,_,rfl,oM,oM,fun q=>by omega⟩
   ·simp only[evs,seval,g5,g4,g0,R.len,eq_false (oM:¬(i:Int)<Ns.length),aG,eq_false (oM:¬(1048576:Int)<(Ns.flatMap ntT).length)];exact⟨F,_,_,rfl,oM,⟨fun _=>⟨oM,ok,oM⟩,fun _=>rfl⟩,fun _=>rfl⟩
open Go.Ev.St
def lnI(x:Itm):Str:=dec x.key++[32]++dec x.type++[32]++uE x.marks++[32]++x.text
theorem By(x:Itm):itL x=lnI x++[10]:=rfl
theorem Kk(h:gP x=true)(Z:x.key<18446744073709551616)(ht:x.type<256):(lnI x).length<=243:=by
 have:=qS h Z ht;rw[By,Qv]at this;simp at this;omega
section
variable {h : Heap}
theorem Bt(w:WF h)(T:Tq h)(a:ItmH h x)(ok:gP x=true):ay go 174 [.agg x.cells] h fun u h'=>u=.str (lnI x)/\Fr [] h h':=by
 obtain⟨tl,ml,ma⟩:=mM ok;have ab:=sJ ok;have on:=a.one;obtain⟨h1,I,Z,U⟩:=av w x.cells;have L0{h'}(f:Fr [] h1 h'):=(f.get U).l1 0;have L1{h'}(f:Fr [] h1 h'):=(f.get U).l1 1;have L2{h'}(f:Fr [] h1 h'):=(f.get U).l1 2;have l3:=U.l1 3;have rr:=Qw (S:=[]) Z.wf;have T1:Tq h1:=Z.pl 2 bS iS T;have hk:=a.k;have ht:=a.t;refine aa ?_;simp only[evs,seval,<-I,l3];refine aN (Kx Z.wf (a.m.fr Z) ma ml) fun h2 J=>?_;have T2:Tq h2:=J.pl 2 bS iS T1;obtain⟨K,hK⟩:∃K,K=uE x.marks:=⟨_,rfl⟩;rw[<-hK]at ab;by_cases m0:x.marks=[]
 case' pos=>
  have j0:jn x.marks=[]:=by rw[m0];rfl
  have k0:([45]:Str)=K:=by rw[hK,uE,if_pos m0]
  simp only[evs,seval,eff,j0,aQ,(iR:(([]:Str)==[])=true),k0,L0 J]
 case' neg=>
  have j0:jn x.marks=K:=by rw[hK,uE,if_neg m0]
  have j1:(K==([]:Str))=false:=by
   rw[<-j0];cases hm:x.marks with
   |nil=>exact absurd hm m0
   |cons y r=>
    have yl:=gG (QM.1 ma y (by rw[hm];simp));cases y with
    |nil=>simp at yl
    |cons c y=>cases r<;>rfl
  simp only[evs,seval,eff,j0,aQ,j1,L0 J]
 all_goals
  refine aN (we J.wf T2 hk) fun h3 F3=>?_;have R:=J.then F3;have T3:Tq h3:=F3.pl 2 bS iS T2;have k1:=aT hk;have k2:(dec x.type).length<=3:=mY 2 _ oM;have f1:aB .i64 (x.type:Int)=(x.type:Int):=Sn _ oM oM;simp only[evs,seval,eff,L1 R,f1,aI (dec x.key) [32] oO];refine aN (CU F3.wf T3 (show i64 (x.type:Int)from⟨oM,oM⟩)) fun h4 F4=>?_;have D:=R.then F4;have d1:dG (x.type:Int)=dec x.type:=by rw[dG,if_neg oM];rfl
  simp only[evs,seval,DF,eff,d1,L0 J,L1 J,L1 R,L2 J,L2 R,L2 D,aI (dec x.key++[32]) (dec x.type) oO,aI (dec x.key++[32]++dec x.type) [32] oO,aI (dec x.key++[32]++dec x.type++[32]) K oO,aI (dec x.key++[32]++dec x.type++[32]++K) [32] oO,aI (dec x.key++[32]++dec x.type++[32]++K++[32]) x.text oO];exact⟨by rw[lnI,hK],Z.then D⟩
theorem AO{Y:List Itm}(w:WF h)(TT:Tq h)(r:Recs Itm.cells 4 h v Y)(hY:∀y∈Y,ItmH h y)(ok:vL Y):ay go 112 [v] h fun u h'=>u=.tup [.str (Y.flatMap itL),ZZ 0]/\Fr [] h h':=by
 obtain⟨n1,oY⟩:=ok;obtain⟨h2,e2⟩:∃h2,h2=htag (halloc h [.nilp,.nils]) h.next 83 2:=⟨_,rfl⟩;have al:aux h (.alt 83 [.nilp,.nils]) []=some (.ptr h.next 0,h2):=by rw[e2];rfl
 have N2:=Bd.new w;rw[<-e2]at N2;obtain⟨B2,F2⟩:=N2;clear e2;refine aa ?_;simp only[evs,seval,r.len,eq_false (oM:¬(1024:Int)<Y.length),iM,eg,al];refine aw (fun z env hh=>Fr [] h hh/\∃(i:Nat)(u:V),env.get 13=some (ZZ i)/\env.get 12=some (ZZ Y.length)/\env.get 11=some v/\env.get 4=some (.ptr h.next 0)/\i<=Y.length/\Bd hh h.next u ((Y.take i).flatMap itL)/\(∀x∈vb u,h.next<=x)/\z=Y.length-i) Y.length oM ?_ ?_
 ·exact⟨F2,0,.nils,iS,iS,iS,iS,oM,B2,by simp[vb],rfl⟩
 ·rintro z env hh ⟨F,i,u,I,ad,ao,g4,hi,B,fv,rfl⟩;have wh:=F.wf;have Th:Tq hh:=F.pl 2 bS iS TT;have tl:=mQ (Y.take i) fun y m=>⟨oY y (QP m),(hY y (QP m)).k,(hY y (QP m)).t⟩;rw[QN]at tl;by_cases c:i<Y.length
  ·obtain⟨b,o,y,p1,p2,p3,p4⟩:=(QI r F).ix b8 .i64 (i:Int) oM oM;rw[so]at p4;have ym:=Of p4;have D:=(hY y ym).fr F;have on:=D.one;have U:=oY y ym;have nn:=F.next;obtain⟨h3,ah,R,aj⟩:=av wh [ZX 0,ZY 0,.str [],.nils];simp only[evs,seval,I,ad,ao,eq_true (oM:(i:Int)<Y.length),p1,p3,<-ah];refine ac R.wf aj rfl on rfl ?_;rintro h4 o4 F4 n4;have Z:=R.fresh F4 wh (pi _);have l4{h'}(f:Fr [] h4 h'):=(f.get o4).la 4
   simp only[evs,seval,l4 (Qw F4.wf)];refine aN (IZ (types:=8) F4.wf (D.fr Z) oM) fun h5 J=>?_;rw[if_pos U];simp only[evs,seval,l4 J];refine aN (Bt J.wf (J.pl 2 bS iS (Z.pl 2 bS iS Th)) ((D.fr Z).fr J) (kN U)) fun h6 F6=>?_;have yl:=Kk (kN U) D.k D.t;have ak:=J.then F6;have ab:=Z.then ak;simp only[evs,seval,g4,aI (lnI y) [10] oO];refine ae (cG F6.wf (B.fr wh ab) (by rw[<-By];have:=qS (kN U) D.k D.t;omega)) ?_;rintro _ h7 ⟨rfl,u7,B7,W7⟩;simp(disch:=omega) only[evs,seval,fwrap_i64,I];have F7:=Ru w (F.then ab) W7.1 (fun x m=>by
    rcases Qy.1 m with rfl|m
    ·exact pi _
    ·exact fv x m)
   have n6:=ab.next;refine rqn ⟨Y.length-(i+1),oM,F7,i+1,u7,iS,iX,iX,iX,oM,?_,fun x m=>(W7.2 x m).elim (fv x) (fun q=>by omega),rfl⟩;rw[bD p4,By];exact B7
  ·simp only[evs,seval,I,ad,g4,eq_false (oM:¬(i:Int)<Y.length)];refine ae (eA wh B oM) ?_;rintro _ h5 ⟨rfl,J⟩;simp only[evs,seval];rw[Qs oM];exact⟨rfl,Ru w F J (fun x m=>by
    rcases Qy.1 m with rfl|m
    ·exact pi _
    ·exact fv x m)⟩
end
end Go.Ev.Lay
