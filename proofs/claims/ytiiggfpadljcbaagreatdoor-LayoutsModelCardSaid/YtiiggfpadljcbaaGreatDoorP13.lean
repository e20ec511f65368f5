/- An evaluator of the program, and contracts over it: LmM to LmR. -/
import Derived.Test.YtiiggfpadljcbaaGreatDoorP09
import Derived.Test.YtiiggfpadljcbaaGreatDoorP12
set_option linter.unusedSimpArgs false
set_option linter.unusedVariables false
set_option linter.constructorNameAsVariable false
set_option linter.unnecessarySimpa false
namespace Go.Ev.Lay
open Go.Ev.St
set_option maxRecDepth 4000
section
variable {h : Heap} {vZ vK vT : V} {E : List Ent} {Y : List (Nat × Int)} {Ks : List Knd} {view over a d : Int} {m : Nat → Option Nat} {k N : Nat}
structure OL(N:Nat)(h:Heap)(vZ:V)(Ks:List Knd)(E:List Ent):Prop where
 ls:LsO N h vZ E
 it:∀e∈E,ItmH h e.x
 lv:LV Ks E
 n:E.length≤1000
def vbs(v:V):List Nat:=match v with
 |.slice b _ _ _=>[b]
 |_=>[]
theorem OL.fr{h':Heap}{S:List Nat}(o:OL N h vZ Ks E)(f:Fr S h h')(l:∀y∈S,y<N):OL N h' vZ Ks E:=⟨o.ls.keep f l,(o.ls.keep f l).itm o.it,o.lv,o.n⟩
theorem OL.frn{h':Heap}(o:OL N h vZ Ks E)(f:Fr [] h h'):OL N h' vZ Ks E:=o.fr f iS
theorem OL.lok(o:OL N h vZ Ks E)(r:RK Ks):LOk Ks h E:=o.lv.lok r o.it o.n
theorem OL.lq(o:OL N h vZ Ks E)(r:RK Ks):LQ h vZ E:=⟨o.ls.rs,o.it,o.n,(o.lok r).okZ,by have:=(o.lok r).sum;omega⟩
theorem OL.put{h':Heap}{b i:Nat}{e z:Ent}(o:OL N h vZ Ks E)(hv:vZ=.slice b 0 E.length E.length)(he:E[i]? =some e)(hx:z.x=e.x)(f:Fr [b] h h')(ow:Own h' b ((E.set i z).flatMap Ent.cells))(lv:LV Ks (E.set i z)):OL N h' vZ Ks (E.set i z):=by
 let⟨ls,it,_,n⟩:=o;obtain⟨rfl,_⟩|⟨b',e',hb,_,cp⟩:=ls;simp at he;rw[hv]at e';obtain rfl:b=b':=by cases e';rfl
 have cp':∀y∈E.set i z,CpO (b+1) h' y.x.vm y.x.marks:=by intro y ym;obtain q|rfl:=List.mem_or_eq_of_mem_set ym;exact(cp y q).fr f iS;rw[hx];exact(cp e (List.mem_of_getElem? he)).fr f iS
 refine⟨.inr ⟨b,by rw[hv,List.length_set],hb,ow,cp'⟩,fun y ym=>?_,lv,by simpa using n⟩;have i0:ItmH h y.x:=by grind
 exact⟨i0.k,i0.t,Sl.a (cp' y ym).rs,i0.n,i0.l⟩
theorem Iv{w0:Heap}(g0:SetG w0 Ks vK Y vT view over)(o:OL N h vZ Ks E)(ix:IxOf m E)(an:EZ k a d m E.length)(F0:Fr [] w0 h)(hN:w0.next≤N):
 ao go 23 [.agg [vK,.int .i64 12,.int .i64 view,.int .i64 over,.int .i64 1],.agg [vZ],vA k d,vT] h fun u h'=>Fr (vbs vZ) h h'∧∃A s U,rG (E.map Ent.b) (stK Ks E) view over s A∧(∀i∈A,0≤i∧i<E.length)∧s=aQ (E.map Ent.b) view (xY (E.map Ent.b) a d)∧U=(A.filter fun i=> !(E.map Ent.kn).getD i.toNat false)∧
  u=.tup [.int .i64 s,.int .i64 U.length,.int .i64 0]∧OL N h' vZ Ks (U.foldl (cD Ks Y) E):=by
 have g:=g0.fr F0;have w:=g.w;have k1:vK.one=true:=Sl.one g.rk;have oz:=Sl.one o.ls.rs;let⟨d0,d1,kb,ak⟩:=an;let⟨f1,f2,f3,f4⟩:=g.f;have k3:=g.r.2.1;let⟨h1,e_h1,F_h1,o_h1⟩:=aj w [vK,.int .i64 12,.int .i64 view,.int .i64 over,.int .i64 1];let⟨h2,e_h2,F_h2,o_h2⟩:=aj F_h1.wf [vZ];let⟨h3,e_h3,F_h3,o_h3⟩:=aj F_h2.wf [.int .u64 (k:Int),.int .i64 d];have n1:=hnx e_h1;have n2:=hnx e_h2;have n3:=hnx e_h3;have F13:=F_h2.then F_h3;have F03:=F_h1.then F13;have o1:=F13.get o_h1;have o2:=F_h3.get o_h2;have y0:∀{h'},Fr [] h3 h'→ai h' h.next 0 5=some [vK,.int .i64 12,.int .i64 view,.int .i64 over,.int .i64 1]:=fun f=>by rw[(f.get o1).ld];rfl
 have y1:∀{h'},Fr [] h3 h'→ai h' h.next 0 2=some [vK,.int .i64 12]:=fun f=>by rw[(f.get o1).ld];rfl
 have y2:∀{h'},Fr [] h3 h'→ag h' h.next 2=some (.int .i64 view):=fun f=>(f.get o1).ld1 2;have y3:∀{h'},Fr [] h3 h'→ag h' h.next 3=some (.int .i64 over):=fun f=>(f.get o1).ld1 3;have yl:∀{h'},Fr [] h3 h'→ai h' h1.next 0 1=some [vZ]:=fun f=>by rw[(f.get o2).ld];rfl
 have ya:∀{h'},Fr [] h3 h'→ai h' h2.next 0 2=some [.int .u64 (k:Int),.int .i64 d]:=fun f=>by rw[(f.get o_h3).ld];rfl
 have r3:Fr [] h3 h3:=Fr.refl F03.wf;have o3:=o.frn F03;have cl:=lI (E.map Ent.b) view (xY (E.map Ent.b) a d);obtain⟨s,es⟩:∃s,s=aQ (E.map Ent.b) view (xY (E.map Ent.b) a d):=⟨_,rfl⟩;refine ac ?_;simp only[evs,seval,←e_h1,←e_h2,←e_h3,yl r3,y2 r3,ya r3];refine aa (A6 F03.wf (o3.lq g.r) ix f1 f2 d0 d1 (by obtain⟨e1,e2,e3,_⟩|q:=ak;exact .inl ⟨e1,e2,e3⟩;exact .inr q)) ?_
 rintro _ h4 ⟨rfl,F4⟩;rw[←es]at cl⊢;have F04:=F03.then F4;have g4:=g.fr F04;have o4:=o.frn F04;simp only[evs,seval,y1 F4,y2 F4,y3 F4,yl F4];apply aa (Io F4.wf (o4.lq g.r) g4.rk g4.kh (o4.lok g.r) g.f cl);rintro _ h5 ⟨F5,A,u',c,rfl,hc,tb,att,la,rg⟩;obtain⟨U,eU⟩:∃U,U=(A.filter fun i=> !(E.map Ent.kn).getD i.toNat false):=⟨_,rfl⟩;rw[←eU]at tb;have hU:U.length≤E.length:=by grind
 have on:=o.n;have F05:=F04.then F5;have F35:=F4.then F5;have rgU:∀i∈U,0≤i∧i<E.length:=fun i im=>rg i (List.mem_filter.1 (eU▸im)).1;simp only[evs,seval,tb.len];have Fn':∀y∈vbs vZ,y<h.next:=by
  intro y ym;obtain⟨_,rfl⟩|⟨b,rfl,_,ow,_⟩:=o.ls
  ·simp[vbs]at ym
  ·simp only[vbs,List.mem_singleton]at ym;subst ym;exact ow.lt w
 have Fg:∀y∈vbs vZ,w0.next≤y:=by
  intro y ym;obtain⟨_,rfl⟩|⟨b,rfl,hb,ow,_⟩:=o.ls
  ·simp[vbs]at ym
  ·simp only[vbs,List.mem_singleton]at ym;subst ym;omega
 have Fn:∀y∈vbs vZ,y<h3.next:=fun y q=>Nat.lt_of_lt_of_le (Fn' y q) F03.next;refine az (fun n env hh=>Fr (vbs vZ) h5 hh∧∃(j:Nat),env.get 43=some (.int .i64 j)∧env.get 42=some (.int .i64 U.length)∧env.get 41=some u'∧env.get 11=some u'∧env.get 8=some (.int .i64 s)∧env.get 5=some (.ptr h1.next 0)∧env.get 4=some (.ptr h.next 0)∧env.get 3=some vT∧
  j≤U.length∧OL N hh vZ Ks ((U.take j).foldl (cD Ks Y) E)∧n=U.length-j) U.length oM ?_ ?_
 ·exact⟨Fr.refl F5.wf,0,iS,iS,iS,iS,iS,iS,iS,iS,oM,o4.frn F5,rfl⟩
 rintro n env hh ⟨F,j,g43,g42,g41,g11,g8,g5,g4',g3,hj,oj,rfl⟩;have tbh:=tb.fr F (fun q=>by have:=Fn _ q;have:=F4.next;omega);have Fh:Fr (vbs vZ) h hh:=F05.trans F w iS (fun y q=>.inl q);have Fw:Fr [] w0 hh:=Fr.new g0.w F0 Fh Fg;by_cases c:j<U.length
 ·let⟨bu,ou,x,p1,p2,p3⟩:=xO (A:=U) tbh.sl j c;let⟨x0,x1⟩:=rgU x (List.mem_of_getElem? p3);obtain⟨n,rfl⟩:∃n:Nat,x=n:=⟨x.toNat,oM⟩;have tk:(U.take (j+1)).foldl (cD Ks Y) E=cD Ks Y ((U.take j).foldl (cD Ks Y) E) (n:Int):=by rw[List.take_add_one,p3];simp
  have lj:=AP (Ks:=Ks) (Y:=Y) (U.take j) E;have ixj:=ix.same (uo (Ks:=Ks) (Y:=Y) (U.take j) E);obtain⟨Ej,eEj⟩:∃Ej,Ej=(U.take j).foldl (cD Ks Y) E:=⟨_,rfl⟩;rw[←eEj]at tk lj oj ixj;obtain⟨e,he⟩:∃e,Ej[n]? =some e:=⟨_,List.getElem?_eq_getElem oM⟩;have em:=List.mem_of_getElem? he;obtain⟨b,hvz,owj⟩:∃b,vZ=.slice b 0 Ej.length Ej.length∧Own hh b (Ej.flatMap Ent.cells):=by
   obtain⟨e0,_⟩|⟨b,q,_,ow,_⟩:=oj.ls
   ·grind
   ·exact⟨b,q,ow⟩
  have vb1:vbs vZ=[b]:=by rw[hvz];rfl
  have xz:=cL 6 b 0 Ej.length Ej.length .i64 (n:Int) oM oM;simp only[Int.toNat_natCast,Nat.zero_add]at xz;rw[←hvz]at xz;have lx:∀(H:Heap)(L:List Ent)(z:Ent),Own H b (L.flatMap Ent.cells)→L[n]? =some z→z.x=e.x→ai H b (n*6) 4=some e.x.cells:=by
   intro H L z ow q qx;have hl:=(List.getElem?_eq_some_iff.1 q).1;let⟨b',o',z',q1,q2,q3,q4⟩:=(show Recs Ent.cells 6 H (.slice b 0 L.length L.length) L from Sl.lit ow (aC aM L)).ix aM .i64 (n:Int) oM oM;rw[cL 6 b 0 L.length L.length .i64 (n:Int) oM oM]at q1;simp only[Int.toNat_natCast,Nat.zero_add]at q1 q4;cases q1;rw[q]at q4;obtain rfl:=Option.some.inj q4;have:=j5 q3 (oM:4≤6);rw[←qx];exact this
  have oB:∀(q:Nat)(C:List V),h.next≤q→Own h3 q C→Own hh q C:=fun q C l ow=>F.own _ _ (fun y=>by have:=Fn' _ y;omega) (F35.get ow);have ob1:=oB _ _ (Nat.le_refl _) o1;have ob2:=oB _ _ oM o2;have z5:∀{H},Own H h.next [vK,.int .i64 12,.int .i64 view,.int .i64 over,.int .i64 1]→ai H h.next 0 5=some [vK,.int .i64 12,.int .i64 view,.int .i64 over,.int .i64 1]:=fun o=>by rw[o.ld];rfl
  have zl:∀{H},Own H h1.next [vZ]→ag H h1.next 0=some vZ:=fun o=>o.ld1 0;have zL:∀{H},Own H h1.next [vZ]→ai H h1.next 0 1=some [vZ]:=fun o=>by rw[o.ld];rfl
  have te:e.x.type<Ks.length:=by
   have:=(oj.lv.o e em).1;simp only[okI,Bool.and_eq_true,decide_eq_true_eq]at this;omega
  simp only[evs,seval,eff,g43,g42,g41,g5,g4',g3,eq_true (oM:(j:Int)<U.length),p1,p2,zl ob2,xz,z5 ob1,lx hh Ej e owj he rfl];have gw:=g0.fr Fw;have hyl:=g0.ok.l;apply aa (CU F.wf gw.t oM (ARecs.one (oj.it e em).m) gw.rk te oM);rintro _ h6 ⟨rfl,F6⟩;have ow6:=F6.get owj;have x6:=lx h6 Ej e ow6 he rfl;simp only[evs,eff];have es1:aX (Ej.flatMap Ent.cells) (n*6+4) [.int .i64 (msr Ks Y e.x)]=some ((Ej.set n ⟨e.x,msr Ks Y e.x,e.kn⟩).flatMap Ent.cells):=j9 aM Ej n e he (e.upd_b _);apply ah (c':=(Ej.set n ⟨e.x,msr Ks Y e.x,e.kn⟩).flatMap Ent.cells) F6.wf ow6 rfl rfl es1;rintro h7 ow7 F7 n7;have he7:(Ej.set n ⟨e.x,msr Ks Y e.x,e.kn⟩)[n]? =some ⟨e.x,msr Ks Y e.x,e.kn⟩:=by grind
  have x7:=lx h7 _ _ ow7 he7 rfl;have nb:∀q,h.next≤q→q∉[b]:=fun q l y=>by have:=Fn' q (by rw[vb1];exact y);omega
  have ob17:=F7.own _ _ (nb _ (Nat.le_refl _)) (F6.get ob1);have ob27:=F7.own _ _ (nb _ oM) (F6.get ob2);simp only[evs,eff];have es2:aX ((Ej.set n ⟨e.x,msr Ks Y e.x,e.kn⟩).flatMap Ent.cells) (n*6+5) [.bool true]=some ((Ej.set n (msE Ks Y e)).flatMap Ent.cells):=by
   have:=j9 aM _ n _ he7 (Ent.upd_k ⟨e.x,msr Ks Y e.x,e.kn⟩ true);rw[List.set_set]at this;exact this
  apply ah (c':=(Ej.set n (msE Ks Y e)).flatMap Ent.cells) F7.wf ow7 rfl rfl es2;rintro h8 ow8 F8 n8;have he8:(Ej.set n (msE Ks Y e))[n]? =some (msE Ks Y e):=by grind
  have x8:=lx h8 _ _ ow8 he8 rfl;have ob18:=F8.own _ _ (nb _ (Nat.le_refl _)) ob17;have ob28:=F8.own _ _ (nb _ oM) ob27;have F68:Fr [b] hh h8:=F6.trans (T:=[b]) (F7.trans (T:=[b]) F8 F6.wf iS iS) F.wf iS iS;have stE:cD Ks Y Ej (n:Int)=Ej.set n (msE Ks Y e):=by unfold cD;rw[Int.toNat_natCast,he]
  have lv8:LV Ks (Ej.set n (msE Ks Y e)):=by rw[←stE];exact oj.lv.step g0.ok g0.r _
  have ol8:OL N h8 vZ Ks (Ej.set n (msE Ks Y e)):=oj.put hvz he rfl F68 ow8 lv8;simp only[evs,seval,DF,lx hh Ej e owj he rfl,z5 ob1,zL ob28,g5,g4'];have lq8:=ol8.lq g0.r;refine aa (iq F68.wf lq8.re lq8.ie (by have:=lq8.n;omega) lq8.ok lq8.s) ?_;rintro _ h9 ⟨rfl,F9⟩;have sm:=lq8.s;simp(disch:=omega) only[evs,seval,ab,eq_false (oM:¬4611686018427387904<((Ej.set n (msE Ks Y e)).map Ent.b).sum),g43];have F89:Fr (vbs vZ) hh h9:=by rw[vb1];exact F68.trans F9 F.wf iS iS
  refine rqn ⟨U.length-(j+1),oM,F.trans F89 F5.wf (fun y q=>.inl q) (fun y q=>.inl q),j+1,iS,iX,iX,iX,iX,iX,iX,iX,oM,by rw[tk,stE];exact ol8.frn F9,rfl⟩
  done
 ·obtain rfl:j=U.length:=oM
  simp only[evs,seval,g43,g42,g11,g8,eq_false (oM:¬((U.length:Nat):Int)<U.length),tb.len];rw[List.take_length]at oj;exact⟨Fh,A,s,U,att,rg,rfl,eU,rfl,oj⟩
end
open Go.Ev.St
set_option maxRecDepth 4000
section
variable {h0 h : Heap} {v vZ vK vT : V} {E Z : List Ent} {Y : List (Nat × Int)} {Ks : List Knd} {view over a d : Int} {mm : Nat → Option Nat} {m : Int → Int} {k N : Nat}
theorem CpO.nx{h':Heap}{q:Nat}{L:List (List UInt8)}{x y:V}{s:Int}(a:CpO N h v L)(f:Fr [q] h h')(o:Own h q [x,.int .i64 s,y]):CpO N h' v L:=by
 obtain⟨e,rfl|⟨b,rfl,hb,o'⟩⟩|⟨b,e,hb,o'⟩:=a;exact .inl ⟨e,.inl rfl⟩;refine .inl ⟨e,.inr ⟨b,rfl,hb,f.own _ _ ?_ o'⟩⟩;intro m;rw[List.mem_singleton.1 m]at o';have:=o'.uniq o;simp at this;refine .inr ⟨b,e,hb,f.own _ _ ?_ o'⟩;intro m;rw[List.mem_singleton.1 m]at o';have:=o'.uniq o;cases L with
 |nil=>simp at this
 |cons z L=>
  cases L with
  |nil=>simp[sS]at this
  |cons z2 L=>simp[sS]at this
theorem OL.nx{h':Heap}{q:Nat}{x y:V}{s:Int}(a:OL N h vZ Ks E)(f:Fr [q] h h')(o:Own h q [x,.int .i64 s,y])(n:q∉vbs vZ):OL N h' vZ Ks E:=by let⟨ls,it,lv,hn⟩:=a;obtain⟨e,ev⟩|⟨b,rfl,hb,ow,cp⟩:=ls;exact⟨.inl ⟨e,ev⟩,by rw[e];simp,lv,hn⟩;have cp':∀z∈E,CpO (b+1) h' z.x.vm z.x.marks:=fun z zm=>(cp z zm).nx f o;exact⟨.inr ⟨b,rfl,hb,f.own _ _ (fun z=>n (by simp only[vbs,List.mem_singleton]at z⊢;exact z.symm)) ow,cp'⟩,fun z zm=>⟨(it z zm).k,(it z zm).t,Sl.a (cp' z zm).rs,(it z zm).n,(it z zm).l⟩,lv,hn⟩
theorem HI{A B:List Ent}(e:A.map Ent.x=B.map Ent.x):stK Ks A=stK Ks B:=by have:=congrArg (List.map (eW Ks)) e;rw[List.map_map,List.map_map]at this;exact this
structure SR(h0 h:Heap)(env:T V)(b4 b6 b8 br:Nat)(N:Nat)(vZ vK vT:V)(Ks:List Knd)(view over:Int)(k:Nat)(d:Int)(E:List Ent)(r:Nat):Prop where
 f:Fr [] h0 h
 hN:h0.next≤N
 ol:OL N h vZ Ks E
 o4:Own h b4 [vK,.int .i64 12,.int .i64 view,.int .i64 over,.int .i64 1]
 o6:Own h b6 [.int .u64 (k:Int),.int .i64 d]
 o8:∃c:List V,Own h b8 c∧c.length=3∧au c=true
 or:∃s:Int,Own h br [vZ,.int .i64 s,.int .i64 (r:Int)]
 n4:h0.next≤b4∧b4<N
 n6:h0.next≤b6∧b6<N
 n8:h0.next≤b8∧b8<N
 nr:N≤br∧∀y∈vbs vZ,y<br
 rb:r+(E.map Ent.kn).count false≤1000
 g3:env.get 3=some vT
 g4:env.get 4=some (.ptr b4 0)
 g6:env.get 6=some (.ptr b6 0)
 g8:env.get 8=some (.ptr b8 0)
 g11:env.get 11=some (.ptr br 0)
theorem Ck{env:T V}{b4 b6 b8 br r:Nat}{sp:Int}{Q:Ex→T V→Heap→Prop}(S:SR h0 h env b4 b6 b8 br N vZ vK vT Ks view over k d E r)(g0:SetG h0 Ks vK Y vT view over)(ix:IxOf mm E)(an:EZ k a d mm E.length)(hsp:a<0→sp=0)
 (hm:∀(i:Nat) e,E[i]? =some e→m (i:Int)=msr Ks Y e.x)
 (Kd:∀env' h' A s,rG (E.map Ent.b) (stK Ks E) view over s A→s=sAt (E.map Ent.b) view a d false r sp→aR m A (E.map Ent.b) (E.map Ent.kn) false=(0,E.map Ent.b,E.map Ent.kn,false)→OL N h' vZ Ks E→env'.get 8=some (.ptr b8 0)→env'.get 9=some (.int .i64 0)→Own h' b8 [vZ,.int .i64 s,.int .i64 (r:Int)]→Fr [] h0 h'→Q .ret env' h')
 (Km:∀env' h' A s E',rG (E.map Ent.b) (stK Ks E) view over s A→s=sAt (E.map Ent.b) view a d false r sp→aR m A (E.map Ent.b) (E.map Ent.kn) false=(0,E'.map Ent.b,E'.map Ent.kn,true)→E'.map Ent.x=E.map Ent.x→0≤a→(E'.map Ent.kn).count false<(E.map Ent.kn).count false→SR h0 h' env' b4 b6 b8 br N vZ vK vT Ks view over k d E' (r+1)→Q (.goto 0) env' h'):
 W go slp env h Q:=by
 have S0:=S;let⟨f,hN,ol,o4,o6,⟨c8,o8,l8,e8⟩,⟨s0,or⟩,n4,n6,n8,nr,rb,g3,g4,g6,g8,g11⟩:=S;have k1:vK.one=true:=Sl.one g0.rk;have oz:=Sl.one ol.ls.rs;have l4:ai h b4 0 5=some [vK,.int .i64 12,.int .i64 view,.int .i64 over,.int .i64 1]:=by rw[o4.ld];rfl
 have lr:ai h br 0 1=some [vZ]:=by rw[or.ld];rfl
 have l6:ai h b6 0 2=some [.int .u64 (k:Int),.int .i64 d]:=by rw[o6.ld];rfl
 have Vg:∀y∈vbs vZ,N≤y:=by intro y ym;obtain⟨_,rfl⟩|⟨b,rfl,hb,ow,_⟩:=ol.ls;simp[vbs]at ym;simp only[vbs,List.mem_singleton]at ym;subst ym;exact hb
 simp only[evs,slp,g4,g11,g6,g3,l4,lr,l6];apply aa (Iv (h:=h) (N:=N) g0 ol ix an f hN);rintro _ h1 ⟨F1,A,s,U,att,rg,es,eU,rfl,ol1⟩;have F01:Fr [] h0 h1:=Fr.new g0.w f F1 (fun y q=>by have:=Vg y q;omega);have or1:=F1.own _ _ (fun y=>by have:=nr.2 _ y;omega) or;have o41:=F1.own _ _ (fun y=>by have:=Vg _ y;omega) o4;have o61:=F1.own _ _ (fun y=>by have:=Vg _ y;omega) o6;have o81:=F1.own _ _ (fun y=>by have:=Vg _ y;omega) o8;have es':s=sAt (E.map Ent.b) view a d false r sp:=by rw[es];unfold sAt xY;by_cases c:0≤a;rw[if_pos c,if_pos ⟨c,.inr rfl⟩];rw[if_neg c,if_neg (fun z=>c z.1),hsp oM]
 have lk:=k9 (m:=m) (mo:=false) g0.ok g0.r A E (yM att) rg ol.lv ol.n (fun i im e he=>by
  let⟨i0,_⟩:=rg i im;obtain⟨j,rfl⟩:∃j:Nat,i=j:=⟨i.toNat,oM⟩;exact hm j e (eV he))
 rw[←eU]at lk;have nq:br∉vbs vZ:=fun y=>by have:=nr.2 _ y;omega
 simp only[evs,g11];apply stu F1.wf or1;rintro h2 or2 F2 n2;have F02:Fr [] h0 h2:=F01.fresh F2 g0.w oM;have ol2:=ol1.nx F2 or1 nq;have o42:=F2.own _ _ oO o41;have o62:=F2.own _ _ oO o61;have o82:=F2.own _ _ oO o81;by_cases cU:U=[];subst cU;obtain⟨x1,x2,x3,rfl⟩:∃x1 x2 x3,c8=[x1,x2,x3]:=by
  match c8,l8 with
  |[x1,x2,x3],_=>exact⟨_,_,_,rfl⟩
 have l2:ai h2 br 0 3=some [vZ,.int .i64 s,.int .i64 (r:Int)]:=by rw[or2.ld];rfl
 simp only[evs,seval,g11,g8,l2];refine ah (c':=[vZ,.int .i64 s,.int .i64 (r:Int)]) F2.wf o82 rfl (by show au [_,_,_]=true;simp only[av,aF,oz];rfl) rfl ?_;rintro h3 o83 F3 n3;simp only[evs];exact Kd _ _ A s att es' lk (ol2.fr F3 oO) iX iS o83 (F02.fresh F3 g0.w oM);have lU:0<U.length:=List.length_pos_iff.2 cU;have a0:0≤a:=by
  obtain q|q:=Int.lt_or_le a 0;exfalso;have hl:E.length=0:=by obtain⟨_,_,_,z⟩|⟨_,i,z,_⟩:=an.2.2.2;exact z;omega
  have hA:A=[]:=by
   cases A with
   |nil=>rfl
   |cons x A=>have:=rg x iS;omega
  rw[hA]at eU;exact cU (eV eU);exact q
 have l2:ag h2 br 2=some (.int .i64 (r:Int)):=or2.ld1 2;simp(disch:=omega) only[evs,seval,ab,g11,l2,eq_true (oM:(0:Int)<(U.length:Nat))];refine ah (c':=[vZ,.int .i64 s,.int .i64 ((r+1:Nat):Int)]) F2.wf or2 rfl rfl (by rw[Int.natCast_add];rfl) ?_;rintro h3 or3 F3 n3;simp only[evs];have lt:((U.foldl (cD Ks Y) E).map Ent.kn).count false<(E.map Ent.kn).count false:=by have sp:=dM m A (E.map Ent.b) (E.map Ent.kn) false iS (fun x m=>(ol.lv.in40 g0.r x m).1);rw[lk]at sp;have:=sp.2.2.2.2 (eG cU);simpa using this
 refine Km _ _ A s _ att es' (by rw[lk];simp[cU]) (uo _ _) a0 lt ⟨F02.fresh F3 g0.w oM,hN,ol2.nx F3 or2 nq,F3.own _ _ oO o42,F3.own _ _ oO o62,⟨c8,F3.own _ _ oO o82,l8,e8⟩,⟨s,or3⟩,n4,n6,n8,nr,?_,iX,iX,iX,iX,iX⟩;omega
end
open Go.Ev.St
set_option maxRecDepth 4000
section
variable {h : Heap} {v vK vT : V} {E : List Ent} {Y : List (Nat × Int)} {Ks : List Knd} {view over a d : Int} {mm : Nat → Option Nat} {m : Int → Int} {k : Nat}
theorem JG{A B:List Ent}(e:A.map Ent.val=B.map Ent.val):A.map Ent.b=B.map Ent.b∧A.map Ent.kn=B.map Ent.kn∧stK Ks A=stK Ks B∧(A.map fun e=>e.x.val)=B.map fun e=>e.x.val:=by
 have h1:=congrArg (List.map fun p=>p.2.1) e;have h2:=congrArg (List.map fun p=>p.2.2) e;have h3:=congrArg (List.map fun p=>p.1) e;have h4:=congrArg (List.map fun p:(Nat×Nat×Str×List Str)×Int×Bool=>match Ks[p.1.2.1]? with|some q=>q.sticky|none=>false) e
 rw[List.map_map,List.map_map]at h1 h2 h3 h4;exact⟨h1,h2,h4,h3⟩
theorem IW{A B:List Ent}(e:A.map Ent.val=B.map Ent.val)(ix:IxOf mm B):IxOf mm A:=by rw[mg]at ix⊢;rw[show(A.map fun e=>e.x.key)=B.map fun e=>e.x.key from pI e];exact ix
theorem FT{x y:Itm}(e:x.val=y.val):msr Ks Y x=msr Ks Y y:=by have q:=(Itm.val_eq e).1;unfold msr;rw[q,(uM (Ks:=Ks) e).2]
theorem yx{A B:List Ent}(ev:(A.map fun e=>e.x.val)=B.map fun e=>e.x.val)(hm:∀(i:Nat) e,B[i]? =some e→m (i:Int)=msr Ks Y e.x):∀(i:Nat) e,A[i]? =some e→m (i:Int)=msr Ks Y e.x:=by intro i e he;have h1:=congrArg (·[i]?) ev;simp only[List.getElem?_map,he,Option.map_some]at h1;let⟨z,hz,q⟩:=Option.map_eq_some_iff.1 h1.symm;rw[hm i z hz];exact FT q
theorem GT{A B:List Ent}(e:A.map Ent.x=B.map Ent.x):(A.map fun e=>e.x.val)=B.map fun e=>e.x.val:=by have:=congrArg (List.map Itm.val) e;rw[List.map_map,List.map_map]at this;exact this
theorem OL.le{N M:Nat}{vZ:V}(o:OL N h vZ Ks E)(l:M≤N):OL M h vZ Ks E:=⟨o.ls.le l,o.it,o.lv,o.n⟩
theorem Fp(g:SetG h Ks vK Y vT view over)(re:Recs Ent.cells 6 h v E)(lo:LOk Ks h E)(nE:v≠.sliceE)(ix:IxOf mm E)(an:EZ k a d mm E.length)(hm:∀(i:Nat) e,E[i]? =some e→m (i:Int)=msr Ks Y e.x):
 ao go 8 [.agg [vK,.int .i64 12,.int .i64 view,.int .i64 over,.int .i64 1],.agg [v],vA k d,vT] h fun u h'=>Fr [] h h'∧∃vZ Z' s n,u=.tup [.agg [vZ,.int .i64 s,.int .i64 (n:Nat)],.int .i64 0]∧
  SetR m (stK Ks E) view over a d false 0 0 (E.map Ent.b) (E.map Ent.kn) s (n:Nat) 0 (Z'.map Ent.b) (Z'.map Ent.kn)∧OL h.next h' vZ Ks Z'∧(Z'.map fun e=>e.x.val)=E.map fun e=>e.x.val:=by
 have w:=g.w;have k1:vK.one=true:=Sl.one g.rk;have ov:=Sl.one re;have el:=lo.l;let⟨h1,e_h1,F_h1,o_h1⟩:=aj w [vK,.int .i64 12,.int .i64 view,.int .i64 over,.int .i64 1];let⟨h2,e_h2,F_h2,o_h2⟩:=aj F_h1.wf [v];let⟨h3,e_h3,F_h3,o_h3⟩:=aj F_h2.wf [.int .u64 (k:Int),.int .i64 d];let⟨h4,e_h4,F_h4,o_h4⟩:=aj F_h3.wf [.nils,.int .i64 0,.int .i64 0];have n1:=hnx e_h1;have n2:=hnx e_h2;have n3:=hnx e_h3;have n4:=hnx e_h4;have F34:=F_h4;have F14:=F_h2.then (F_h3.then F_h4);have F04:=F_h1.then F14;have o4:=F14.get o_h1;have o5:=(F_h3.then F_h4).get o_h2;have o6:=F_h4.get o_h3;have l4:∀{h'},Fr [] h4 h'→ai h' h.next 0 5=some [vK,.int .i64 12,.int .i64 view,.int .i64 over,.int .i64 1]:=fun f=>by rw[(f.get o4).ld];rfl
 have l5:∀{h'},Fr [] h4 h'→ai h' h1.next 0 1=some [v]:=fun f=>by rw[(f.get o5).ld];rfl
 have l6:∀{h'},Fr [] h4 h'→ai h' h2.next 0 2=some [.int .u64 (k:Int),.int .i64 d]:=fun f=>by rw[(f.get o6).ld];rfl
 refine ac ?_;simp only[evs,seval,←e_h1,←e_h2,←e_h3,←e_h4];refine pD (fun k' env hh=>∃(N br:Nat)(vZ:V)(E':List Ent)(r:Nat)(sp:Int),SR h hh env h.next h2.next h3.next br N vZ vK vT Ks view over k d E' r∧(E'.map Ent.kn).count false≤k'∧0≤a∧(E'.map fun e=>e.x.val)=(E.map fun e=>e.x.val)∧stK Ks E'=stK Ks E∧(∀(i:Nat) e,E'[i]? =some e→m (i:Int)=msr Ks Y e.x)∧IxOf mm E'∧
  ∀s2 n2 e2 l2 ks2,SetR m (stK Ks E) view over a d false sp r (E'.map Ent.b) (E'.map Ent.kn) s2 n2 e2 l2 ks2→SetR m (stK Ks E) view over a d false 0 0 (E.map Ent.b) (E.map Ent.kn) s2 n2 e2 l2 ks2) 1024 oM ?_ ?_
 have r4:Fr [] h4 h4:=Fr.refl F04.wf;simp only[evs,seval,l4 r4,l5 r4,l6 r4];refine aa (AT (g.fr F04) (re.fr F04) (lo.fr F04) ix an) ?_;rintro _ h5 ⟨rfl,F5⟩;simp only[evs,seval,l4 F5,l5 F5];refine aa (FC (g.fr (F04.then F5)) (re.fr (F04.then F5)) (lo.fr (F04.then F5)) nE) ?_;rintro _ h6 ⟨⟨vZ,Z,rfl,lz,ez,iz⟩,F6⟩;have F46:=F5.then F6;have F06:=F04.then F46;have oz:=Sl.one lz.rs;let⟨eb,ek,es,ev⟩:=JG (Ks:=Ks) ez;let⟨h7,e_h7,F_h7,o_h7⟩:=aj F6.wf [.nils,.int .i64 0,.int .i64 0];simp only[evs,seval,←e_h7];refine ah (c':=[vZ,.int .i64 0,.int .i64 0]) F_h7.wf o_h7 rfl (by show au [_,_,_]=true;simp only[av,aF,oz];rfl) rfl ?_;rintro h8 o8 F8 n8;have F68:Fr [] h6 h8:=F_h7.fresh F8 F6.wf (Nat.le_refl _);have F48:=F46.then F68;have nx:=F5.next;have nx6:=F6.next;have lz8:=lz.keep F68 iS;have ol8:OL h5.next h8 vZ Ks Z:=⟨lz8,lz8.itm iz,lo.lv.val ez,by rw[zj ez];exact el⟩;have hmZ:=yx ev hm;have ixZ:=IW ez ix;have cz:(Z.map Ent.kn).count false≤(Z.map Ent.kn).length:=List.count_le_length;have lZ:=zj ez;rw[List.length_map]at cz;simp only[evs];refine Ck (m:=m) (sp:=0) (r:=0) (E:=Z) (b4:=h.next) (b6:=h2.next) (b8:=h3.next) (br:=h6.next) ⟨F04.then F48,oM,ol8,F48.get o4,F48.get o6,⟨_,F48.get o_h4,rfl,rfl⟩,⟨0,o8⟩,oM,oM,oM,⟨nx6,?_⟩,oM,iS,iS,iS,iS,iS⟩ g ixZ (by rw[lZ];exact an) (fun _=>rfl) hmZ ?_ ?_;intro y ym;obtain⟨_,rfl⟩|⟨b,rfl,_,ow,_⟩:=lz;simp[vbs]at ym;simp only[vbs,List.mem_singleton]at ym;subst ym;exact ow.lt F6.wf;intro env' h' A s att as lk ol' g8 g9 ob F';have lb:ai h' h3.next 0 3=some [vZ,.int .i64 s,.int .i64 ((0:Nat):Int)]:=by rw[ob.ld];rfl
 refine(cP _ _).2 ?_;simp only[evs,g8,g9,lb];refine⟨F',vZ,Z,s,0,rfl,?_,ol'.le oM,ev⟩;rw[←eb,←ek,←es,as];exact SetR.done (by rw[←as];exact att) lk;intro env' h' A s E' att as lk ex a0 lt S';refine⟨rfl,h5.next,h6.next,vZ,E',0+1,s,S',oM,a0,(GT ex).trans ev,(HI ex).trans es,yx (GT ex) hmZ,ixZ.same ex,?_⟩;intro s2 n2 e2 l2 ks2 q;rw[←eb,←ek];rw[as]at q;rw[es]at att;exact SetR.more (by rw[←as];exact att) lk q;rintro k' env hh ⟨N,br,vZ,E',r,sp,S,ck,a0,ev,es,hm',ix',up⟩;have lE:E'.length=E.length:=by have:=congrArg List.length ev;simpa using this
 have hN:=S.hN;simp only[evs];refine Ck (m:=m) (sp:=sp) S g ix' (by rw[lE];exact an) (fun z=>by omega) hm' ?_ ?_;intro env' h' A s att as lk ol' g8 g9 ob F';have lb:ai h' h3.next 0 3=some [vZ,.int .i64 s,.int .i64 (r:Int)]:=by rw[ob.ld];rfl
 refine(cP _ _).2 ?_;simp only[evs,g8,g9,lb];refine⟨F',vZ,E',s,r,rfl,up _ _ _ _ _ ?_,ol'.le hN,ev⟩;rw[as];rw[es]at att;exact SetR.done (by rw[←as];exact att) lk;intro env' h' A s E2 att as lk ex a0 lt S';refine⟨rfl,_,oM,N,br,vZ,E2,r+1,s,S',Nat.le_refl _,a0,(GT ex).trans ev,(HI ex).trans es,yx (GT ex) hm',ix'.same ex,?_⟩;intro s2 n2 e2 l2 ks2 q;apply up;rw[as]at q;rw[es]at att;exact SetR.more (by rw[←as];exact att) lk q
end
open Go.Ev.St
set_option maxRecDepth 4000
def nI(z:V):Prop:=∀k n,z≠V.int k n
def Nf(c:List V):Prop:=(∃z∈c,nI z)∨c.length<66
theorem Nf.no{c:List V}(a:Nf c):∀n m ws,ws.length=64→c≠flc n m ws:=by rintro n m ws hl rfl;obtain⟨z,zm,q⟩|q:=a;simp only[flc,List.mem_cons,List.mem_map]at zm;obtain rfl|rfl|⟨x,_,rfl⟩:=zm;exact q _ _ rfl;exact q _ _ rfl;exact q _ _ rfl;simp[flc,hl]at q
structure FO(h h':Heap):Prop where
 next:h.next≤h'.next
 wf:WF h'
 own:∀q c,Nf c→Own h q c→Own h' q c
 ro:∀q c,Rs h q c→Rs h' q c
section
variable {h h' h0 : Heap} {b : Nat}
theorem FO.of(f:Fr [] h h'):FO h h':=⟨f.next,f.wf,fun _ _ _ o=>f.get o,f.ro⟩
theorem FO.then(a:FO h0 h)(f:Fr [] h h'):FO h0 h':=⟨Nat.le_trans a.next f.next,f.wf,fun q c n o=>f.get (a.own q c n o),fun q c r=>f.ro q c (a.ro q c r)⟩
theorem FO.trans{h1:Heap}(a:FO h0 h)(c:FO h h1):FO h0 h1:=⟨Nat.le_trans a.next c.next,c.wf,fun q x n o=>c.own q x n (a.own q x n o),fun q x r=>c.ro q x (a.ro q x r)⟩
theorem FO.frF(a:FO h0 h)(w:WF h0)(hb:h0.next≤b)(f:FrF b h h'):FO h0 h':=⟨Nat.le_trans a.next f.next,f.wf,fun q c n o=>f.own q c (by have:=o.lt w;omega) n.no (a.own q c n o),fun q c r=>f.ro q c (a.ro q c r)⟩
theorem Sl.fo{e n:Nat}{v:V}{cs:List V}(a:Sl h e v n cs)(f:FO h h')(hv:n=0→v=.nils∨v=.sliceE)(hs:0<n→∃z∈cs,nI z):Sl h' e v n cs:=by
 let⟨hl,a⟩:=a;refine⟨hl,?_⟩;obtain c|c:=Nat.eq_zero_or_pos n;grind;let⟨z,zm,nz⟩:=hs c;cases v with
 |slice b o len cap=>let⟨h1,h2,C,ow,h3,h4⟩:=a;exact⟨h1,h2,C,f.own _ _ (.inl ⟨z,List.mem_of_mem_drop (List.mem_of_mem_take (h4▸zm)),nz⟩) ow,h3,h4⟩
 |sliceU b o len k=>let⟨h1,h2,C,ow,h3,h4⟩:=a;exact⟨h1,h2,C,f.own _ _ (.inl ⟨z,List.mem_of_mem_drop (List.mem_of_mem_take (h4▸zm)),nz⟩) ow,h3,h4⟩
 |_=>exact a
theorem Gs.fo{B e:Nat}{v:V}{cs:List V}(a:Gs h B e v cs)(f:FO h h')(hs:cs≠[]→Nf cs):Gs h' B e v cs:=by obtain x|⟨q,n,h1,h2,h3,h4,o⟩:=a;exact .inl x;refine .inr ⟨q,n,h1,h2,h3,h4,f.own _ _ ?_ o⟩;by_cases c:cs=[];subst c;exact .inr iS;exact hs c
theorem m9{x:Str}{c:List V}(m:V.str x∈c):∃z∈c,nI z:=⟨_,m,fun _ _ e=>by cases e⟩
theorem PH.fo(f:FO h h'):∀{t:PT},PZ t→PH h t→PH h' t
 |.nil,_,_=>trivial
 |.cons k tg ky at' tx va vc sub nx,⟨z1,z2,z3,z4⟩,⟨a,b,c,d,e,g,i⟩=>by
  refine⟨a,Go.Ev.Lay.Sl.fo b f (fun q=>.inl (z1 (List.length_eq_zero_iff.1 q))) (fun q=>?_),c,Go.Ev.Lay.Sl.fo d f (fun q=>.inl (z2 ?_)) (fun q=>?_),e,PH.fo f z3 g,PH.fo f z4 i⟩;cases at' with
  |nil=>simp at q
  |cons s L=>exact m9 (x:=s.1) (by simp[rI])
  cases sub with
  |nil=>rfl
  |cons _ _ _ _ _ _ _ _ _=>simp[PT.len]at q
  cases sub with
  |nil=>simp[PT.len]at q
  |cons k' tg' _ _ _ _ _ _ _=>exact m9 (x:=tg') (by simp[PT.cells])
theorem ItmG.fo{N:Nat}{x:Itm}(a:ItmG N h x)(f:FO h h'):ItmG N h' x:=⟨a.k,a.t,Go.Ev.Lay.Gs.fo a.g f (fun q=>.inl (by
 cases hm:x.marks with
 |nil=>rw[hm]at q;simp at q
 |cons s L=>exact m9 (x:=s) iX)),a.n,a.l⟩
structure DA(N:Nat)(h:Heap)(Ks:List Knd)(vK:V)(X:List Itm)(vE:V)(E:List Ent)(vT:V)(Y:List (Nat×Int)):Prop where
 w:WF h
 rk:Recs Knd.cells 9 h vK Ks
 kh:∀q∈Ks,KndH h q
 r:RK Ks
 gE:Gs h N 6 vE (E.flatMap Ent.cells)
 iE:∀e∈E,ItmG N h e.x
 eo:∀e∈E,EOk Ks X e
 n:(E.map fun e=>e.x.key).Nodup
 l:E.length≤12
 gT:GRecs hc 2 h N vT Y
 t:TOk Y
variable {N : Nat} {vK vE vT : V} {Ks : List Knd} {X : List Itm} {E : List Ent} {Y : List (Nat × Int)}
theorem DA.fo(a:DA N h Ks vK X vE E vT Y)(f:FO h h'):DA N h' Ks vK X vE E vT Y:=by
 have k3:=a.r.2.1;refine⟨f.wf,?_,fun q m=>Go.Ev.Lay.PH.fo f (a.r.2.2 q m).2.1.2 (a.kh q m),a.r,Go.Ev.Lay.Gs.fo a.gE f (fun q=>.inl ?_),fun e m=>Go.Ev.Lay.ItmG.fo (a.iE e m) f,a.eo,a.n,a.l,Go.Ev.Lay.Gs.fo a.gT f (fun _=>.inr ?_),a.t⟩;refine Go.Ev.Lay.Sl.fo a.rk f (fun q=>by omega) (fun _=>?_);cases Ks with
 |nil=>simp at k3
 |cons q L=>exact m9 (x:=q.tg) (by simp[Knd.cells,Knd.part])
 cases E with
 |nil=>simp at q
 |cons e L=>exact m9 (x:=e.x.text) (by simp[Ent.cells,Itm.ent,Itm.cells])
 rw[aC iN];have:=a.t.l;omega
theorem DA.re(a:DA N h Ks vK X vE E vT Y):Recs Ent.cells 6 h vE E:=Gs.sl a.gE (aC aM E) oM
theorem DA.lok(a:DA N h Ks vK X vE E vT Y):LOk Ks h E:=⟨fun e m=>⟨(a.iE e m).H,rfl,(a.eo e m).o,(a.eo e m).r⟩,fun e m=>(a.eo e m).b,fun e m=>(a.eo e m).c,a.n,by have:=a.l;omega,a.r⟩
theorem DA.sg{view over:Int}(a:DA N h Ks vK X vE E vT Y)(ok:okF view over):SetG h Ks vK Y vT view over:=⟨a.w,a.rk,a.kh,a.r,GRecs.recs iN oM a.gT,a.t,ok⟩
theorem DA.ty(a:DA N h Ks vK X vE E vT Y):∀e∈E,e.x.type<Ks.length:=fun e m=>by have:=(a.eo e m).o;have:=a.r.2.1;simp only[okI,Bool.and_eq_true,decide_eq_true_eq]at *;omega
theorem DA.good(a:DA N h Ks vK X vE E vT Y):Good (dz Ks E):=by have lo:=a.lok;refine⟨by have:=a.l;simp[dz];omega,fun r m=>?_,by rw[hJ];have:=lo.sum;omega⟩;obtain⟨e,em,rfl⟩:=List.mem_map.1 m;exact lo.okZ e em
theorem DA.fr(a:DA N h Ks vK X vE E vT Y)(f:Fr [] h h'):DA N h' Ks vK X vE E vT Y:=a.fo (.of f)
theorem Kp{view over i:Int}{b8 b9 b10:Nat}(a:DA N h Ks vK X vE E vT Y)(o8:Own h b8 [vE])(o9:Own h b9 [vK,.int .i64 12,.int .i64 view,.int .i64 over,.int .i64 1])(o10:Own h b10 [vT])(i0:0≤i)(i1:i<E.length):
 ao go 10 ([.int .i64 i]++[.ptr b8 0,.ptr b9 0,.ptr b10 0]) h fun u h'=>u=.int .i64 (mE Ks Y E i)∧Fr [] h h':=by
 obtain⟨n,rfl⟩:∃n:Nat,i=n:=⟨i.toNat,oM⟩;have k1:=Sl.one a.rk;let⟨bi,oi,e,p1,p2,p3,p4⟩:=a.re.ix aM .i64 (n:Int) oM i1;rw[Int.toNat_natCast]at p4;have em:=List.mem_of_getElem? p4;have l4:ai h bi oi 4=some e.x.cells:=by have:=j5 p3 (oM:4≤6);exact this
 have y8:ag h b8 0=some vE:=o8.ld1 0;have y9:ai h b9 0 5=some [vK,.int .i64 12,.int .i64 view,.int .i64 over,.int .i64 1]:=by rw[o9.ld];rfl
 have y10:ag h b10 0=some vT:=o10.ld1 0;have om:=ARecs.one (a.iE e em).H.m;show ao go 10 [.int .i64 (n:Int),.ptr b8 0,.ptr b9 0,.ptr b10 0] h _;refine ac ?_;simp only[evs,seval,eff,eq_false (oM:¬(n:Int)<0),y8,y9,y10,a.re.len,decide_eq_false (oM:¬(E.length:Int)≤n),p1,l4];have gt:Recs hc 2 h vT Y:=GRecs.recs iN oM a.gT;refine aa (CU a.w gt (by have:=a.t.l;omega) om a.rk (a.ty e em) (by have:=a.r.2.1;omega)) ?_;rintro _ h1 ⟨rfl,F1⟩;let⟨bi',oi',e',p1',_,p3',p4'⟩:=(a.fr F1).re.ix aM .i64 (n:Int) oM i1;rw[p1]at p1';cases p1';rw[Int.toNat_natCast,p4]at p4';obtain rfl:=Option.some.inj p4';have l4':ai h1 bi oi 4=some e.x.cells:=j5 p3' (oM:4≤6);have y8':ag h1 b8 0=some vE:=(F1.get o8).ld1 0;have y9':ai h1 b9 0 5=some [vK,.int .i64 12,.int .i64 view,.int .i64 over,.int .i64 1]:=by rw[(F1.get o9).ld];rfl
 have y10':ag h1 b10 0=some vT:=(F1.get o10).ld1 0;simp only[evs,seval,DF,eff,y8,y9,y10,l4];refine⟨?_,F1⟩;rw[mE,Int.toNat_natCast,p4]
end
open Go.Ev.St
set_option maxRecDepth 4000
section
variable {h0 h : Heap} {N : Nat} {vK vE vT : V} {Ks : List Knd} {X : List Itm} {E : List Ent} {Y : List (Nat × Int)}
theorem JQ(t:TOk Y)(r:RK Ks)(eo:∀e∈E,EOk Ks X e)(i:Int):-9223372036854775808≤mE Ks Y E i∧mE Ks Y E i≤9223372036854775807:=by unfold mE;split;rename_i e q;have:=yh t r (eo e (List.mem_of_getElem? q)).o;omega;omega
theorem CY{env:T V}{b b7 b8 b9 b10 b13 k:Nat}{view over a d:Int}{mm:Nat→Option Nat}(D0:DA N h0 Ks vK X vE E vT Y)(fo:FO h0 h)(hN:h0.next≤b)(gl:Glb h)(zb:0≠b)(ok:okF view over)(d1:0≤d∧d≤255)(ix:IxOf mm E)(an:EZ k a d mm E.length)(al:-1≤a∧a<(E.length:Nat))
 (lo:Lo h b (E.map Ent.b) (E.map Ent.kn) (stK Ks E)) (p7:Own h0 b7 [vK,.int .i64 12]) (p8:Own h0 b8 [vE]) (p9:Own h0 b9 [vK,.int .i64 12,.int .i64 view,.int .i64 over,.int .i64 1]) (p10:Own h0 b10 [vT]) (o13:Own h b13 [.int .u64 (k:Int),.int .i64 d])
 (g7:env.get 7=some (.ptr b7 0)) (g8:env.get 8=some (.ptr b8 0)) (g9:env.get 9=some (.ptr b9 0)) (g10:env.get 10=some (.ptr b10 0)) (g12:env.get 12=some (.ptr b 0)) (g13:env.get 13=some (.ptr b13 0)) (g14:env.get 14=some (.int .i64 a)) {R:V→Heap→Prop} (hR:∀h',FO h0 h'→R (.bool true) h'):
 W go ltl env h (jg [.t 6] R):=by
 have w0:=D0.w;have D:=D0.fo fo;have o7:=fo.own _ _ (.inr iS) p7;have o8:=fo.own _ _ (.inr iS) p8;have o9:=fo.own _ _ (.inr iS) p9;have o10:=fo.own _ _ (.inr iS) p10;have w:=D.w;have k1:vK.one=true:=Sl.one D.rk;have l9:ai h b9 0 5=some [vK,.int .i64 12,.int .i64 view,.int .i64 over,.int .i64 1]:=by rw[o9.ld];rfl
 have l8:ai h b8 0 1=some [vE]:=by rw[o8.ld];rfl
 have l13:ai h b13 0 2=some [.int .u64 (k:Int),.int .i64 d]:=by rw[o13.ld];rfl
 have l10:ag h b10 0=some vT:=o10.ld1 0;simp only[evs,ltl,g9,g8,g13,g10,l9,l8,l13,l10];apply aa (Fp (m:=mE Ks Y E) (D.sg ok) D.re D.lok (Go.Ev.Lay.Gs.nE D.gE) ix an (fun i e he=>by rw[mE,Int.toNat_natCast,he]));rintro _ h1 ⟨F1,vZ,Z,s,n,rfl,sr,ol,ev⟩;have oz:=Sl.one ol.ls.rs;let⟨h2,e_h2,F_h2,o_h2⟩:=aj F1.wf [.nils,.int .i64 0,.int .i64 0];have n2:=hnx e_h2;simp only[evs,seval,←e_h2];refine ah (c':=[vZ,.int .i64 s,.int .i64 (n:Int)]) F_h2.wf o_h2 rfl (by show au [_,_,_]=true;simp only[av,aF,oz];rfl) rfl ?_;rintro h3 o15 F3 n3;have F13:Fr [] h1 h3:=F_h2.fresh F3 F1.wf (Nat.le_refl _);have F03:=F1.then F13;have ol3:=ol.frn F13;have D3:=D.fr F03;have lo3:=lo.fr F03;have q9:=F03.get o9;have m2:ag h3 b9 2=some (.int .i64 view):=q9.ld1 2;have m3:ag h3 b9 3=some (.int .i64 over):=q9.ld1 3;have md:ag h3 b13 1=some (.int .i64 d):=(F03.get o13).ld1 1;simp only[evs,seval,g9,g8,g10,g12,g13,g14,m2,m3,md];have fit:=D3.good.fit;rw[hJ]at fit;have pos:=D3.good.pos;rw[hJ]at pos;refine aa (BS (N:=10) (m:=mE Ks Y E) D3.w (gl.fr F03) lo3 pos ?_ oM ?_ (JQ D.t D.r D.eo)) ?_;unfold uz;rw[if_neg iX,if_neg (by rw[List.length_map];omega)];intro h' f i i0 i1;have f':FO h0 h':=(fo.then F03).frF w0 hN f;rw[stK,List.length_map]at i1;exact Kp (view:=view) (over:=over) (D0.fo f') (f'.own _ _ (.inr iS) p8) (f'.own _ _ (.inr iS) p9) (f'.own _ _ (.inr iS) p10) i0 i1;rintro _ h4 ⟨s2,n2',e2,l2,ks2,rfl,ss,lo4,F4⟩;have sm:=SetS.same ok ss sr fit pos (by simp[stK]) iS;obtain⟨rfl,rfl,rfl,hl⟩:=sm;obtain⟨rfl,rfl⟩:=hl rfl;rw[if_pos rfl]at lo4;have f4:FO h0 h4:=(fo.then F03).frF w0 hN F4.f;have D4:=D0.fo f4;have bl:b<h.next:=by let⟨pp,vk,pm,olo,_⟩:=lo;exact olo.lt w
 have n1:=F1.next;have o15':=F4.f.own _ _ oM (Nf.no (.inr iS)) o15;have o74:=f4.own _ _ (.inr iS) p7;have rs4:Recs Ent.cells 6 h4 vZ Z:=by
  obtain⟨rfl,rfl⟩|⟨c,rfl,hc,ow,_⟩:=ol3.ls;exact Recs.nil;refine Sl.lit (F4.f.own _ _ oM (Nf.no ?_) ow) (aC aM Z);cases Z with
  |nil=>exact .inr iS
  |cons e L=>exact .inl (m9 (x:=e.x.text) (by simp[Ent.cells,Itm.ent,Itm.cells]))
 have lZ:Z.length=E.length:=by have:=congrArg List.length ev;simpa using this
 have loZ:=ol3.lok D.r;have tyZ:∀e∈Z,e.x.type<Ks.length:=fun e m=>by have:=(ol3.lv.o e m).1;have:=D.r.2.1;simp only[okI,Bool.and_eq_true,decide_eq_true_eq]at *;omega
 have l12:=D.l;have gdZ:Good (dz Ks Z):=by refine⟨by simp[dz];omega,fun r m=>?_,by rw[hJ];have:=loZ.sum;omega⟩;obtain⟨e,em,rfl⟩:=List.mem_map.1 m;exact loZ.okZ e em
 have m7:ai h4 b7 0 2=some [vK,.int .i64 12]:=by rw[o74.ld];rfl
 have mz:ai h4 h1.next 0 1=some [vZ]:=by rw[o15'.ld];rfl
 have ms1:ag h4 h1.next 1=some (.int .i64 s2):=o15'.ld1 1;have ms2:ag h4 h1.next 2=some (.int .i64 (n:Int)):=o15'.ld1 2;simp only[evs,seval,g7,g12,m7,mz,ms1,ms2];refine aa (CA D4.w rs4 (fun e m=>gG (ol3.it e m)) oM D4.rk tyZ (by have:=D.r.2.1;omega)) ?_;rintro vR h5 ⟨gR,F5⟩;simp only[evs,seval];have lo5:=lo4.fr F5;have sZ:stK Ks Z=stK Ks E:=by
  have:=congrArg (List.map fun p:Nat×Nat×Str×List Str=>match Ks[p.2.1]? with|some q=>q.sticky|none=>false) ev
  rw[List.map_map,List.map_map]at this;exact this
 rw[←hJ Ks Z,←v8 Ks Z,←sZ,←v7 Ks Z]at lo5;apply aa (Fo F5.wf lo5 (GRecs.recs gN oM gR) gdZ);rintro _ h6 ⟨rfl,F6⟩;simp only[evs,seval];apply aa (C4 (((gl.fr F03).frF F4.f zb).fr (F5.then F6)));rintro _ _ ⟨rfl,rfl⟩;simp only[evs,seval];exact hR _ ((f4.then F5).then F6)
end
open Go.Ev.St
set_option maxRecDepth 4000
theorem Gq{E:List Ent}(n:(E.map fun e=>e.x.key).Nodup):∃mm,IxOf mm E:=⟨_,Bg (X:=E.map Ent.x) iX n⟩
set_option maxHeartbeats 1000000 in
theorem JS{h:Heap}{vI vH vT0:V}{kb vw off ov z0 z1:Nat}{L:List (Nat×Nat×Nat×Nat)}{H:List Nat}{ps:List (Nat×Nat)}(w:WF h)(g:Glb h)(a:ARecs q4 4 h vI L)(hb:∀q∈L,q.1<256∧q.2.1<256∧q.2.2.1<256∧q.2.2.2<256)
 (aH:ARecs b8 1 h vH H) (hH:∀n∈H,n<256) (hk:kb<256) (aT:ARecs uc 2 h vT0 ps) (hp:∀p∈ps,p.1<256∧p.2<256) (hvw:vw<256) (hoff:off<65536) (hov:ov<256) (hz0:z0<256) (hz1:z1<256):
 ao go 3 [.agg [vI,vH,.int .u8 (kb:Int)],.agg [.int .u8 (vw:Int),.int .u16 (off:Int),.int .u8 (ov:Int),vT0],.agg [.int .u8 (z0:Int),.int .u8 (z1:Int)]] h fun u h'=>u=.bool true∧FO h h':=by
 have i1:=ARecs.one a;have i2:=ARecs.one aH;have i3:=ARecs.one aT;let⟨h1,e_h1,F_h1,o_h1⟩:=aj w [vI,vH,.int .u8 (kb:Int)];let⟨h2,e_h2,F_h2,o_h2⟩:=aj F_h1.wf [.int .u8 (vw:Int),.int .u16 (off:Int),.int .u8 (ov:Int),vT0];let⟨h3,e_h3,F_h3,o_h3⟩:=aj F_h2.wf [.int .u8 (z0:Int),.int .u8 (z1:Int)];have n1:=hnx e_h1;have n2:=hnx e_h2;have n3:=hnx e_h3;have F23:=F_h3;have F13:=F_h2.then F_h3;have F03:=F_h1.then F13;have o3:=F13.get o_h1;have o4:=F_h3.get o_h2;have l3:ai h3 h.next 0 3=some [vI,vH,.int .u8 (kb:Int)]:=by rw[o3.ld];rfl
 refine ac ?_;simp only[evs,seval,←e_h1,←e_h2,←e_h3,l3];refine aa (IV F03.wf (a.fr F03) hb (aH.fr F03) hH hk) ?_;rintro _ h4 ⟨F4,vK,Ks,vX,X,vE,E,rfl,rk,kh,gk,okr,lk,il,gE,eo,nd,l12⟩;have k1:vK.one=true:=Sl.one rk;have e1:vE.one=true:=Gs.one gE;let⟨h5,e_h5,F_h5,o_h5⟩:=aj F4.wf [.nils,.int .i64 0];let⟨h6,e_h6,F_h6,o_h6⟩:=aj F_h5.wf [.nils];have n4:=F4.next;have n5:=hnx e_h5;have n6:=hnx e_h6;simp only[evs,seval,←e_h5,←e_h6];refine ah (c':=[vK,.int .i64 12]) F_h6.wf (F_h6.get o_h5) rfl (by show au [_,_]=true;simp only[av,aF,k1];rfl) rfl ?_;rintro h7 o7 F7 n7;have o8':=F7.own _ _ oO o_h6;simp only[evs,seval];refine ah (v:=.agg [vE]) (c':=[vE]) F7.wf o8' rfl (by show au [_]=true;simp only[av,aF,e1];rfl) rfl ?_;rintro h8 o8 F8 n8;have o7':=F8.own _ _ oO o7;have F48:Fr [] h4 h8:=((F_h5.then F_h6).fresh F7 F4.wf oM).fresh F8 F4.wf oM;have F38:=F4.then F48;have F08:=F03.then F38;have m4:ai h8 h1.next 0 4=some [.int .u8 (vw:Int),.int .u16 (off:Int),.int .u8 (ov:Int),vT0]:=by rw[(F38.get o4).ld];rfl
 have m7:ai h8 h4.next 0 2=some [vK,.int .i64 12]:=by rw[o7'.ld];rfl
 simp only[evs,seval,m4,m7];apply aa (I6 F08.wf (aT.fr F08) hp k1 hvw hov hoff);rintro _ h9 ⟨⟨Y,vT,rfl,gT,tok⟩,F9⟩;have t1:vT.one=true:=GRecs.one gT;obtain⟨view,ev⟩:∃view:Int,view=1+((vw%200:Nat):Int):=⟨_,rfl⟩;obtain⟨over,eo'⟩:∃over:Int,over=((ov%4:Nat):Int):=⟨_,rfl⟩;rw[←ev,←eo'];let⟨ha,e_ha,F_ha,o_ha⟩:=aj F9.wf [.nils,.int .i64 0,.int .i64 0,.int .i64 0,.int .i64 0];let⟨hc',e_hc',F_hc',o_hc'⟩:=aj F_ha.wf [.nils];have n9:=F9.next;have na:=hnx e_ha;have nc:=hnx e_hc';simp only[evs,seval,←e_ha,←e_hc'];refine ah (c':=[vK,.int .i64 12,.int .i64 view,.int .i64 over,.int .i64 1]) F_hc'.wf (F_hc'.get o_ha) rfl (by show au [_,_,_,_,_]=true;simp only[av,aF,k1];rfl) rfl ?_;rintro hd o9 Fd nd';have o10':=Fd.own _ _ oO o_hc';simp only[evs,seval];refine ah (v:=vT) (c':=[vT]) Fd.wf o10' (by rw[aG t1];rfl) (by rw[aG t1];show au [_]=true;simp only[av,aF,t1];rfl) (by rw[aG t1];rfl) ?_;rintro he o10 Fe ne;have o9':=Fe.own _ _ oO o9;have F9e:Fr [] h9 he:=((F_ha.then F_hc').fresh Fd F9.wf oM).fresh Fe F9.wf oM;have F8e:=F9.then F9e;have F4e:=F48.then F8e;have F3e:=F4.then F4e;have F0e:=F03.then F3e;have o7e:=F8e.get o7';have o8e:=F8e.get o8;have D:DA h3.next he Ks vK X vE E vT Y:=⟨F0e.wf,Recs.fr rk F4e,fun q m=>(kh q m).fr F4e,⟨okr,lk,gk⟩,gE.fr F4e,fun e m=>(il.i e.x (eo e m).m).keep F4e iS,eo,nd,l12,Gs.ge (gT.fr F9e) oM,tok⟩;have m7e:ai he h4.next 0 2=some [vK,.int .i64 12]:=by rw[o7e.ld];rfl
 have m8e:ai he h5.next 0 1=some [vE]:=by rw[o8e.ld];rfl
 simp only[evs,seval,m7e,m8e];apply aa (CA F0e.wf D.re (fun e m=>gG (D.iE e m).H) oM D.rk D.ty oM);rintro vR hf ⟨gR,Ff⟩;simp only[evs,seval];apply aa (Jy Ff.wf (GRecs.rwf gR) D.good);rintro _ hg ⟨b,rfl,hbn,lo,FL⟩;have wf:=Ff.wf;have Df:=D.fr Ff;have fo:FO hf hg:=(FO.of (Fr.refl wf)).frF wf hbn FL;have gRg:GRecs rc 3 hg he.next vR (dz Ks E):=Go.Ev.Lay.Gs.fo gR fo (fun q=>.inl (by
  cases E with
  |nil=>simp[dz]at q
  |cons e L=>exact⟨V.bool e.kn,by simp[dz,rc],fun _ _ e=>by cases e⟩))
 rw[hJ,v8,v7]at lo;let⟨mm,ix⟩:=Gq nd;have Fef:=Ff.next;have F0en:=F0e.next;have zb:0≠b:=oM;have glg:Glb hg:=(g.fr (F0e.then Ff)).frF FL zb;let⟨hi,e_hi,F_hi,o_hi⟩:=aj fo.wf [.int .u64 0,.int .i64 0];simp only[evs,seval,←e_hi];apply stu F_hi.wf o_hi;rintro hj o13 Fj nj;have Fgj:Fr [] hg hj:=F_hi.fresh Fj fo.wf (Nat.le_refl _);have foj:=fo.then Fgj;have gRj:=GRecs.recs gN oM (gRg.fr Fgj);have p7:=Ff.get o7e;have p8:=Ff.get o8e;have p9:=Ff.get o9';have p10:=Ff.get o10;have okv:okF view over:=⟨oM,oM,oM,oM⟩;have lr:(dz Ks E).length=E.length:=by simp[dz]
 have len:=gRj.len;rw[lr]at len;by_cases c:E.length=0;simp only[evs,seval,len,eq_false (oM:¬(0:Int)<E.length)];exact CY (k:=0) (a:=-1) (d:=0) (b7:=h4.next) (b8:=h5.next) (b9:=h9.next) (b10:=ha.next) (b13:=hg.next) Df foj hbn (glg.fr Fgj) zb okv oM ix ⟨oM,oM,oM,.inl ⟨rfl,rfl,rfl,c⟩⟩ oM (lo.fr Fgj) p7 p8 p9 p10 o13 iS iS iS iS iS iS iS (fun h' f=>⟨rfl,(FO.of (F0e.then Ff)).trans f⟩);have Dj:=Df.fo foj;have q5:Own hj h2.next [.int .u8 (z0:Int),.int .u8 (z1:Int)]:=foj.own _ _ (.inr iS) ((F3e.then Ff).get o_h3);have l50:ag hj h2.next 0=some (.int .u8 (z0:Int)):=q5.ld1 0;have l51:ag hj h2.next 1=some (.int .u8 (z1:Int)):=q5.ld1 1;have ia:=gX 1 h2.next 0 2 .i64 0 oM oM;have ib:=gX 1 h2.next 0 2 .i64 1 oM oM;rw[(iR:0+(0:Int).toNat*1=0)]at ia;rw[(iR:0+(1:Int).toNat*1=1)]at ib;obtain⟨n,hn⟩:∃n:Nat,n=z0%E.length:=⟨_,rfl⟩;have nl:n<E.length:=by rw[hn];exact Nat.mod_lt _ oM
 have rm:aP (.ib .rem) [.int .i64 (z0:Int),.int .i64 (E.length:Int)]=some (.int .i64 (n:Int)):=by rw[iW _ _ _ oM,hn];rfl
 have l8:ag hj h5.next 0=some vE:=(foj.own _ _ (.inr iS) p8).ld1 0;let⟨bi,oi,e,p1,p2,p3,p4⟩:=Dj.re.ix aM .i64 (n:Int) oM oM;rw[Int.toNat_natCast]at p4;have lk':ag hj bi oi=some (.int .u64 (e.x.key:Int)):=p2 0 oM;have em:=List.mem_of_getElem? p4;have kb':=(Dj.iE e em).k;have kp:=Dj.lok.key e em;simp(disch:=omega) only[evs,seval,eff,ab,len,eq_true (oM:(0:Int)<E.length),ia,ib,l50,l51,rm,l8,p1,lk'];apply stu Fgj.wf o13;rintro hk' o13' Fk nk;have Fgk:Fr [] hg hk':=Fgj.fresh Fk fo.wf (Nat.le_refl _);have fok:=fo.then Fgk;have Dk:=Df.fo fok;have q5':Own hk' h2.next [.int .u8 (z0:Int),.int .u8 (z1:Int)]:=fok.own _ _ (.inr iS) ((F3e.then Ff).get o_h3);have l51':ag hk' h2.next 1=some (.int .u8 (z1:Int)):=q5'.ld1 1;have l8':ag hk' h5.next 0=some vE:=(fok.own _ _ (.inr iS) p8).ld1 0;let⟨bi',oi',e',p1',p2',_,p4'⟩:=Dk.re.ix aM .i64 (n:Int) oM oM;rw[p1]at p1';cases p1';rw[Int.toNat_natCast,p4]at p4';obtain rfl:=Option.some.inj p4';have lk'':ag hk' bi oi=some (.int .u64 (e.x.key:Int)):=p2' 0 oM;simp only[evs,seval,DF,l51,l8,lk'];exact CY (k:=e.x.key) (a:=n) (d:=z1) (b7:=h4.next) (b8:=h5.next) (b9:=h9.next) (b10:=ha.next) (b13:=hg.next) Df fok hbn (glg.fr Fgk) zb okv oM ix ⟨oM,oM,kb',.inr ⟨oM,n,rfl,(ix e.x.key n).2 ⟨e,p4,rfl⟩⟩⟩ oM (lo.fr Fgk) p7 p8 p9 p10 o13' iS iS iS iS iS iS iS (fun h' f=>⟨rfl,(FO.of (F0e.then Ff)).trans f⟩)
end Go.Ev.Lay
