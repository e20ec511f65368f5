/- An evaluator of the program, and contracts over it: StbT to StdP. -/
import Derived.Test.YtiiggfpadljcbaaGreatDoorP09
import Derived.Test.YtiiggfpadljcbaaGreatDoorP10
set_option linter.unusedSimpArgs false
set_option linter.unusedVariables false
set_option linter.constructorNameAsVariable false
set_option linter.unnecessarySimpa false
namespace Go.Ev.Lay
open Go.Ev.St
set_option maxRecDepth 4000
structure Ent where
 x:Itm
 b:Int
 kn:Bool
def Ent.cells(e:Ent):List V:=e.x.ent e.b e.kn
theorem aM(e:Ent):e.cells.length=6:=rfl
def b8(n:Nat):List V:=[.int .u8 (n:Int)]
structure EOk(Ks:List Knd)(X:List Itm)(e:Ent):Prop where
 m:e.x∈X
 o:okI e.x 3=true
 r:dT Ks 12 e.x=0
 b:e.kn=false→e.b=aW Ks e.x
 c:e.kn=true→1≤e.b∧e.b≤50
set_option maxHeartbeats 1000000 in
theorem IV{h:Heap}{vI vH:V}{kb:Nat}{L:List (Nat×Nat×Nat×Nat)}{H:List Nat}(w:WF h)(a:ARecs q4 4 h vI L)(hb:∀q∈L,q.1<256∧q.2.1<256∧q.2.2.1<256∧q.2.2.2<256)
 (aH:ARecs b8 1 h vH H) (hH:∀n∈H,n<256) (hk:kb<256):
 ao go 4 [.agg [vI,vH,.int .u8 (kb:Int)]] h fun u h'=>Fr [] h h'∧∃vK Ks vX X vE,∃E:List Ent,u=.tup [.agg [vK,.int .i64 12],.agg [vE]]∧Recs Knd.cells 9 h' vK Ks∧(∀q∈Ks,KndH h' q)∧GK Ks∧okR Ks 12=true∧Ks.length=3∧
  IL h.next h' vX X∧Gs h' h.next 6 vE (E.flatMap Ent.cells)∧(∀e∈E,EOk Ks X e)∧(E.map fun e=>e.x.key).Nodup∧E.length≤12:=by
 let⟨h1,e_h1,F_h1,o_h1⟩:=aj w [vI,vH,.int .u8 (kb:Int)];let⟨h2,e_h2,F_h2,o_h2⟩:=aj F_h1.wf [.nils,.int .i64 0];let⟨h3,e_h3,F_h3,o_h3⟩:=aj F_h2.wf [.nils];have n1:=hnx e_h1;have n2:=hnx e_h2;have n3:=hnx e_h3;have F13:=F_h2.then F_h3;have k2:ag h3 h.next 2=some (.int .u8 (kb:Int)):=(F13.get o_h1).ld1 2;refine ac ?_;simp only[evs,seval,←e_h1,←e_h2,←e_h3,k2];refine aa (Bf F_h3.wf hk) ?_;rintro vK h4 ⟨F4,Ks,rkh,gk,okr,lk⟩;let⟨rk,kh⟩:=rkh [] h4 iS (Fr.refl F4.wf);have v1:=Sl.one rk;have o4:=F4.get (F13.get o_h1);let⟨h5,e_h5,F_h5,o_h5⟩:=aj F4.wf [.nils,.int .i64 0];have n4:=F4.next;have n5:=hnx e_h5;simp only[evs,seval,aG v1,←e_h5];refine ah (o:=0) (v:=.agg [vK,.int .i64 12]) (c':=[vK,.int .i64 12]) F_h5.wf o_h5 rfl (by show au [_,_]=true;simp only[av,aF,v1];rfl) rfl ?_;rintro h6 o6 F6 n6;have F46:Fr [] h4 h6:=F_h5.fresh F6 F4.wf oM;have l0:ai h6 h.next 0 1=some [vI]:=by rw[(F46.get o4).ld];rfl
 have F06:=(F_h1.then F13).then (F4.then F46);simp only[evs,seval,l0];apply aa (IJ F46.wf (a.fr F06) hb);rintro vX h7 ⟨F7,X,il,hX⟩;let⟨h8,e_h8,F_h8,o_h8⟩:=aj F7.wf [.nils];have n7:=F7.next;have n8:=hnx e_h8;simp only[evs,←e_h8];have F07:=F06.then F7;have oL7:=F7.get (F46.get o4);have oK7:=F7.get o6;have FH:Fr [] h h8:=F07.then F_h8;have oa:=F_h8.get (F7.get (F46.get (F4.get (F_h3.get o_h2))));have oc:=F_h8.get (F7.get (F46.get (F4.get o_h3)));refine az (fun n env hh=>Fr [] h7 hh∧∃(i:Nat)(vE:V)(E:List Ent),env.get 7=some (.int .i64 i)∧env.get 1=some (.ptr h.next 0)∧env.get 2=some (.ptr h1.next 0)∧env.get 3=some (.ptr h2.next 0)∧env.get 4=some (.ptr h4.next 0)∧env.get 5=some vX∧env.get 6=some (.ptr h7.next 0)∧
  i≤X.length∧Own hh h1.next [.nils,.int .i64 0]∧Own hh h2.next [.nils]∧Own hh h7.next [vE]∧Gs hh h8.next 6 vE (E.flatMap Ent.cells)∧(∀e∈E,EOk Ks X e)∧(E.map Ent.x).Sublist (X.take i)∧n=X.length-i) X.length oM ?_ ?_
 exact⟨F_h8,0,.nils,[],iS,iS,iS,iS,iS,iS,iS,oM,oa,oc,o_h8,.inl ⟨rfl,rfl⟩,iS,iS,rfl⟩;rintro n env hh ⟨G,i,vE,E,g7,g1,g2,g3,g4,g5,g6,hi,oa,oc,oe,GE,eok,sub,rfl⟩;have ilh:=il.fr G;have len:=ilh.rs.len;have El:E.length≤i:=by have:=sub.length_le;simp only[List.length_map,List.length_take]at this;omega
 by_cases c1:i<X.length;let⟨bi,oi,x,p1,_,p3,p4⟩:=Recs.ix iM ilh.rs .i64 (i:Int) oM oM;rw[Int.toNat_natCast]at p4;have xm:=List.mem_of_getElem? p4;have kl:ai hh h4.next 0 2=some [vK,.int .i64 12]:=by rw[(G.get oK7).ld];rfl
 have Fh4:Fr [] h4 hh:=F46.then (F7.then G);simp only[evs,seval,eff,g7,g4,g5,len,(oM:(i:Int)<X.length),kl,p1,p3];apply aa (Dd G.wf (Recs.fr rk Fh4) (fun q m=>(kh q m).fr Fh4) gk oM (ilh.i x xm).H);rintro _ ha ⟨Fa,e,rfl,e0,he,_⟩;have Ga:=G.then Fa;have kla:ai ha h4.next 0 2=some [vK,.int .i64 12]:=by rw[(Ga.get oK7).ld];rfl
 let⟨bi',oi',x',p1',_,p3',p4'⟩:=Recs.ix iM (il.fr Ga).rs .i64 (i:Int) oM oM;rw[Int.toNat_natCast,p4]at p4';cases p4';rw[p1]at p1';cases p1';by_cases c2:0<e;simp(disch:=omega) only[evs,seval,DF,eff,ab,g7,g4,kl,p3,eq_true c2];refine rqn ⟨X.length-(i+1),oM,Ga,i+1,vE,E,iS,iX,iX,iX,iX,iX,iX,oM,Fa.get oa,Fa.get oc,Fa.get oe,GE.fr Fa,eok,sub.trans (List.take_sublist_take_left oM),rfl⟩;simp only[evs,seval,DF,eff,g4,kl,p3,eq_false c2];let⟨okx,rex⟩:=he oM;have ht:x.type<Ks.length:=by have:=okx;simp only[okI,Bool.and_eq_true,decide_eq_true_eq]at this;exact this.2.1
 apply Au [⟨none,.ld 2 true (.v 4),none⟩,⟨none,.p .mv [.v 5],none⟩,⟨none,.p .mv [.v 7],none⟩,⟨none,.p (.ixs 4) [.l 1,.l 0],none⟩,⟨none,.ld 4 true (.l 0),none⟩,⟨none,.cf 17 [.l 4,.l 0],none⟩] [⟨none,.st 6 (.l 0) (.l 1),none⟩] rfl;let⟨hb,e_hb,F_hb,o_hb⟩:=aj Fa.wf [.int .u64 0,.int .u8 0,.str [],.nils,.int .i64 0,.bool false];have nb:=hnx e_hb;have na:=Ga.next;have it:∀{H},Fr [] h7 H→ai H bi oi 4=some x.cells:=by intro H f;let⟨bi',oi',x',p1',_,p3',p4'⟩:=Recs.ix iM (il.fr f).rs .i64 (i:Int) oM oM;rw[Int.toNat_natCast,p4]at p4';cases p4';rw[p1]at p1';cases p1';exact p3'
 have kk:∀{H},Fr [] h7 H→ai H h4.next 0 2=some [vK,.int .i64 12]:=by intro H f;rw[(f.get oK7).ld];rfl
 have Gb:=Ga.then F_hb;simp only[evs,seval,eff,←e_hb,g7,g4,g5,kk Gb,p1,it Gb];apply aa (Bp F_hb.wf (Recs.fr rk (F46.then (F7.then Gb))) ((il.fr Gb).i x xm).H ht);rintro _ hc ⟨rfl,Fc⟩;have Gc:=Gb.then Fc;simp only[evs,eff,gK,pq];refine ah (o:=0) (v:=.agg (x.ent (aW Ks x) false)) (c':=x.ent (aW Ks x) false) Fc.wf (Fc.get o_hb) rfl (by show au (x.cells++[_,_])=true;rw[aN,((il.fr Gb).i x xm).H.one];rfl) rfl ?_;rintro hd od Fd nd;have nc:=Fc.next;have oel:=oe.lt G.wf;have nG:=Fa.next;have Fad:Fr [] ha hd:=(F_hb.then Fc).fresh Fd Fa.wf oM;have Gd:=Ga.then Fad;have oed:=Fad.get (Fa.get oe);have le:=oed.ld1 0;have Ed:=Gs.sl (n:=E.length) (GE.fr (Fa.then Fad)) (aC aM E) oM;have oLd:=Gd.get oL7;have lH:=oLd.ld1 1;have aHd:=aH.fr (F07.then Gd);simp only[evs,seval,DF,g1,g4,g6,kk Gb,it Gb,le,Ed.len,lH,aHd.len];by_cases c3:E.length<H.length;let⟨bh,oh,nH0,q1,q2,_,q4'⟩:=aHd.ix (f:=b8) (k:=1) (fun _=>rfl) .i64 (E.length:Int) oM oM;rw[Int.toNat_natCast]at q4';have n256:=hH nH0 (List.mem_of_getElem? q4');have q3:ag hd bh oh=some (.int .u8 (nH0:Int)):=q2 0 oM;by_cases c4:0<(nH0:Int);simp(disch:=omega) only[evs,seval,ab,eq_true (oM:(E.length:Int)<H.length),g1,q1,q3,eq_true c4,lH,rK nH0 40 40 rfl dI,ab];apply stu Fd.wf od;rintro he' oe'' Fe ne;simp only[evs,seval];apply stu Fe.wf oe'';rintro hf of' Ff nf;simp only[evs,seval,g6];have FaH:=((Fad.fresh Fe Fa.wf oM).fresh Ff Fa.wf oM);have oeH:=FaH.get (Fa.get oe);have ld6:ai hf ha.next 0 6=some (Ent.cells ⟨x,1+((nH0%40:Nat):Int),true⟩):=by rw[(of').ld];rfl
 have u1:aX [.int .u64 0,.int .u8 0,.str [],.nils,.int .i64 0,.bool false] 0 (Ent.cells ⟨x,1+((nH0%40:Nat):Int),true⟩)=some (Ent.cells ⟨x,1+((nH0%40:Nat):Int),true⟩):=rfl;have on:au (Ent.cells ⟨x,1+((nH0%40:Nat):Int),true⟩)=true:=by show au (x.cells++[_,_])=true;rw[aN,((il.fr Gb).i x xm).H.one];rfl
 obtain⟨hx,e_hx⟩:∃hx,hx=halloc hf (Ent.cells ⟨x,1+((nH0%40:Nat):Int),true⟩):=⟨_,rfl⟩;have F_hx:Fr [] hf hx:=e_hx▸Fr.halloc FaH.wf _;have o_hx:Own hx hf.next (Ent.cells ⟨x,1+((nH0%40:Nat):Int),true⟩):=e_hx▸Own.new FaH.wf _;simp only[evs,seval,oeH.ld1 0,ld6,u1,(iR:(Ent.cells ⟨x,1+((nH0%40:Nat):Int),true⟩).length=6),←e_hx];have vb0:=GE.vb;have nH:=((Fa.then FaH).then F_hx).next;have oel':=(oe.lt G.wf);have nx0:h8.next≤hx.next:=oM;refine Gs.append1 (bytes:=72) (n:=1) F_hx.wf (GE.fr ((Fa.then FaH).then F_hx)) (Sl.lit o_hx rfl) oM oM on nx0 (by rw[aC aM E];omega) ?_;intro vE' hy Gy ey Fy;have tk:∀{B:Nat}{cs:List V},Own hh B cs→B<h8.next→Own hy B cs:=fun o l=>Fy.own _ _ (fun m=>by have:=vb0 _ m;omega) (((Fa.then FaH).then F_hx).get o);have c1':vE'.one=true:=by obtain⟨rfl,_⟩|⟨b,n,rfl,_⟩:=Gy<;>rfl
 simp only[evs,seval,g6];refine ah (c':=[vE']) Fy.wf (tk oe oM) (by rw[aG c1'];rfl) (by rw[aG c1'];simp only[av,aF,c1'];rfl) (by rw[aG c1'];rfl) ?_;rintro hz oz Fz nz;have FN:Fr [] h7 hz:=(Fr.new F7.wf (G.then ((Fa.then FaH).then F_hx)) Fy (fun y hy=>by have:=vb0 _ hy;omega)).fresh Fz F7.wf oM;have eq:(E++[(⟨x,1+((nH0%40:Nat):Int),true⟩:Ent)]).flatMap Ent.cells=E.flatMap Ent.cells++Ent.cells ⟨x,1+((nH0%40:Nat):Int),true⟩:=by simp
 simp(disch:=omega) only[evs,seval,ab,g7];refine rqn ⟨X.length-(i+1),oM,FN,i+1,vE',E++[⟨x,1+((nH0%40:Nat):Int),true⟩],iS,iX,iX,iX,iX,iX,iX,oM,Fz.own _ _ oO (tk oa oM),Fz.own _ _ oO (tk oc oM),oz,by rw[eq];exact Gy.keep Fz oO,?_,?_,rfl⟩;intro e' m;obtain m|m:=List.mem_append.1 m;exact eok e' m;rw[List.mem_singleton.1 m];exact⟨xm,by rw[←lk];exact okx,rex,fun z=>(by cases z),fun _=>⟨by show(1:Int)≤1+((nH0%40:Nat):Int);omega,by show 1+((nH0%40:Nat):Int)≤50;omega⟩⟩;rw[List.map_append,List.take_add_one,p4];exact sub.append (List.Sublist.refl _);simp only[evs,seval,eq_true (oM:(E.length:Int)<H.length),g6,q1,q3,eq_false c4];have FaH:=Fad;have oeH:=FaH.get (Fa.get oe);have ld6:ai hd ha.next 0 6=some (Ent.cells ⟨x,aW Ks x,false⟩):=by rw[(od).ld];rfl
 have u1:aX [.int .u64 0,.int .u8 0,.str [],.nils,.int .i64 0,.bool false] 0 (Ent.cells ⟨x,aW Ks x,false⟩)=some (Ent.cells ⟨x,aW Ks x,false⟩):=rfl;have on:au (Ent.cells ⟨x,aW Ks x,false⟩)=true:=by show au (x.cells++[_,_])=true;rw[aN,((il.fr Gb).i x xm).H.one];rfl
 obtain⟨hx,e_hx⟩:∃hx,hx=halloc hd (Ent.cells ⟨x,aW Ks x,false⟩):=⟨_,rfl⟩;have F_hx:Fr [] hd hx:=e_hx▸Fr.halloc FaH.wf _;have o_hx:Own hx hd.next (Ent.cells ⟨x,aW Ks x,false⟩):=e_hx▸Own.new FaH.wf _;simp only[evs,seval,oeH.ld1 0,ld6,u1,(iR:(Ent.cells ⟨x,aW Ks x,false⟩).length=6),←e_hx];have vb0:=GE.vb;have nH:=((Fa.then FaH).then F_hx).next;have oel':=(oe.lt G.wf);have nx0:h8.next≤hx.next:=oM;refine Gs.append1 (bytes:=72) (n:=1) F_hx.wf (GE.fr ((Fa.then FaH).then F_hx)) (Sl.lit o_hx rfl) oM oM on nx0 (by rw[aC aM E];omega) ?_;intro vE' hy Gy ey Fy;have tk:∀{B:Nat}{cs:List V},Own hh B cs→B<h8.next→Own hy B cs:=fun o l=>Fy.own _ _ (fun m=>by have:=vb0 _ m;omega) (((Fa.then FaH).then F_hx).get o);have c1':vE'.one=true:=by obtain⟨rfl,_⟩|⟨b,n,rfl,_⟩:=Gy<;>rfl
 simp only[evs,seval,g6];refine ah (c':=[vE']) Fy.wf (tk oe oM) (by rw[aG c1'];rfl) (by rw[aG c1'];simp only[av,aF,c1'];rfl) (by rw[aG c1'];rfl) ?_;rintro hz oz Fz nz;have FN:Fr [] h7 hz:=(Fr.new F7.wf (G.then ((Fa.then FaH).then F_hx)) Fy (fun y hy=>by have:=vb0 _ hy;omega)).fresh Fz F7.wf oM;have eq:(E++[(⟨x,aW Ks x,false⟩:Ent)]).flatMap Ent.cells=E.flatMap Ent.cells++Ent.cells ⟨x,aW Ks x,false⟩:=by simp
 simp(disch:=omega) only[evs,seval,ab,g7];refine rqn ⟨X.length-(i+1),oM,FN,i+1,vE',E++[⟨x,aW Ks x,false⟩],iS,iX,iX,iX,iX,iX,iX,oM,Fz.own _ _ oO (tk oa oM),Fz.own _ _ oO (tk oc oM),oz,by rw[eq];exact Gy.keep Fz oO,?_,?_,rfl⟩;intro e' m;obtain m|m:=List.mem_append.1 m;exact eok e' m;rw[List.mem_singleton.1 m];exact⟨xm,by rw[←lk];exact okx,rex,fun _=>rfl,fun z=>by cases z⟩;rw[List.map_append,List.take_add_one,p4];exact sub.append (List.Sublist.refl _);simp only[evs,seval,eq_false (oM:¬(E.length:Int)<H.length),g6];have FaH:=Fad;have oeH:=FaH.get (Fa.get oe);have ld6:ai hd ha.next 0 6=some (Ent.cells ⟨x,aW Ks x,false⟩):=by rw[(od).ld];rfl
 have u1:aX [.int .u64 0,.int .u8 0,.str [],.nils,.int .i64 0,.bool false] 0 (Ent.cells ⟨x,aW Ks x,false⟩)=some (Ent.cells ⟨x,aW Ks x,false⟩):=rfl;have on:au (Ent.cells ⟨x,aW Ks x,false⟩)=true:=by show au (x.cells++[_,_])=true;rw[aN,((il.fr Gb).i x xm).H.one];rfl
 obtain⟨hx,e_hx⟩:∃hx,hx=halloc hd (Ent.cells ⟨x,aW Ks x,false⟩):=⟨_,rfl⟩;have F_hx:Fr [] hd hx:=e_hx▸Fr.halloc FaH.wf _;have o_hx:Own hx hd.next (Ent.cells ⟨x,aW Ks x,false⟩):=e_hx▸Own.new FaH.wf _;simp only[evs,seval,oeH.ld1 0,ld6,u1,(iR:(Ent.cells ⟨x,aW Ks x,false⟩).length=6),←e_hx];have vb0:=GE.vb;have nH:=((Fa.then FaH).then F_hx).next;have oel':=(oe.lt G.wf);have nx0:h8.next≤hx.next:=oM;refine Gs.append1 (bytes:=72) (n:=1) F_hx.wf (GE.fr ((Fa.then FaH).then F_hx)) (Sl.lit o_hx rfl) oM oM on nx0 (by rw[aC aM E];omega) ?_;intro vE' hy Gy ey Fy;have tk:∀{B:Nat}{cs:List V},Own hh B cs→B<h8.next→Own hy B cs:=fun o l=>Fy.own _ _ (fun m=>by have:=vb0 _ m;omega) (((Fa.then FaH).then F_hx).get o);have c1':vE'.one=true:=by obtain⟨rfl,_⟩|⟨b,n,rfl,_⟩:=Gy<;>rfl
 simp only[evs,seval,g6];refine ah (c':=[vE']) Fy.wf (tk oe oM) (by rw[aG c1'];rfl) (by rw[aG c1'];simp only[av,aF,c1'];rfl) (by rw[aG c1'];rfl) ?_;rintro hz oz Fz nz;have FN:Fr [] h7 hz:=(Fr.new F7.wf (G.then ((Fa.then FaH).then F_hx)) Fy (fun y hy=>by have:=vb0 _ hy;omega)).fresh Fz F7.wf oM;have eq:(E++[(⟨x,aW Ks x,false⟩:Ent)]).flatMap Ent.cells=E.flatMap Ent.cells++Ent.cells ⟨x,aW Ks x,false⟩:=by simp
 simp(disch:=omega) only[evs,seval,ab,g7];refine rqn ⟨X.length-(i+1),oM,FN,i+1,vE',E++[⟨x,aW Ks x,false⟩],iS,iX,iX,iX,iX,iX,iX,oM,Fz.own _ _ oO (tk oa oM),Fz.own _ _ oO (tk oc oM),oz,by rw[eq];exact Gy.keep Fz oO,?_,?_,rfl⟩;intro e' m;obtain m|m:=List.mem_append.1 m;exact eok e' m;rw[List.mem_singleton.1 m];exact⟨xm,by rw[←lk];exact okx,rex,fun _=>rfl,fun z=>by cases z⟩;rw[List.map_append,List.take_add_one,p4];exact sub.append (List.Sublist.refl _);have kl:ai hh h4.next 0 2=some [vK,.int .i64 12]:=by rw[(G.get oK7).ld];rfl
 have le:ai hh h7.next 0 1=some [vE]:=by rw[oe.ld];rfl
 have vE1:vE.one=true:=by obtain⟨rfl,_⟩|⟨b,n,rfl,_⟩:=GE<;>rfl
 have Fh4:Fr [] h4 hh:=F46.then (F7.then G);have nG:=G.next;simp only[evs,seval,eff,g7,g2,g4,g5,g6,len,(oM:¬(i:Int)<X.length),kl,le];refine ah (o:=0) (v:=.agg [vK,.int .i64 12]) (c':=[vK,.int .i64 12]) G.wf oa rfl (by show au [_,_]=true;simp only[av,aF,v1];rfl) rfl ?_;rintro ha xa Fa na;have kla:ai ha h4.next 0 2=some [vK,.int .i64 12]:=by rw[(Fa.own _ _ oO (G.get oK7)).ld];rfl
 have oe':=Fa.own _ _ oO oe;have lea:ai ha h7.next 0 1=some [vE]:=by rw[oe'.ld];rfl
 simp only[evs,seval,eff,g3];refine ah (o:=0) (v:=.agg [vE]) (c':=[vE]) Fa.wf (Fa.own _ _ oO oc) rfl (by show au [_]=true;simp only[av,aF,vE1];rfl) rfl ?_;rintro hz xz Fz nz;have r1:ai hz h1.next 0 2=some [vK,.int .i64 12]:=by rw[(Fz.own _ _ oO xa).ld];rfl
 have r2:ai hz h2.next 0 1=some [vE]:=by rw[xz.ld];rfl
 simp only[evs,seval,DF,g2,g3,g4,g6,kl,le,lea,r1,r2];have Fh4a:Fr [h1.next] h4 ha:=Fr.trans Fh4 Fa F4.wf iS (fun x m=>.inl m);have Fh4z:Fr [h1.next,h2.next] h4 hz:=Fr.trans Fh4a Fz F4.wf iS (fun x m=>.inl (by simp at m⊢;exact .inr m));let⟨rz,kz⟩:=rkh _ hz oO Fh4z;have FN:Fr [] h hz:=((F07.then G).fresh Fa w oM).fresh Fz w oM;have ilz:=((il.fr G).keep Fa oO).keep Fz oO;have Gz:=((GE.keep Fa oO).keep Fz oO).le (C:=h.next) oM;refine⟨FN,vK,Ks,vX,X,vE,E,rfl,rz,kz,gk,okr,lk,ilz.le oM,Gz,eok,?_,oM⟩;have:=(sub.trans (List.take_sublist _ _)).map Itm.key;rw[List.map_map]at this;exact this.nodup il.n
def IxOf(m:Nat→Option Nat)(E:List Ent):Prop:=∀k j,m k=some j↔∃e,E[j]? =some e∧e.x.key=k
def okZ(E:List Ent):Prop:=∀e∈E,1≤e.b∧e.b≤2305843009213693952
theorem okZ.sum_nn:∀{E:List Ent},okZ E→0≤(E.map Ent.b).sum
 |[],_=>by simp
 |e::E,h=>by have h1:=h e iS;have h2:=okZ.sum_nn (E:=E) fun x m=>h x iX;simp only[List.map_cons,List.sum_cons];omega
theorem okZ.take{E:List Ent}(h:okZ E)(i:Nat):okZ (E.take i):=fun e m=>h e (List.mem_of_mem_take m)
theorem okZ.drop{E:List Ent}(h:okZ E)(i:Nat):okZ (E.drop i):=fun e m=>h e (List.mem_of_mem_drop m)
theorem okZ.split{E:List Ent}(i:Nat):(E.map Ent.b).sum=((E.take i).map Ent.b).sum+((E.drop i).map Ent.b).sum:=by rw[←List.sum_append,←List.map_append,List.take_append_drop]
theorem sa{E:List Ent}{i:Nat}{e:Ent}(h:E[i]? =some e):((E.take (i+1)).map Ent.b).sum=((E.take i).map Ent.b).sum+e.b:=by rw[List.take_add_one,h];simp
theorem rU:∀(d:List V)(o:Nat),aX d o []=some d
 |[],o=>gY o
 |x::l,0=>cQ x l
 |x::l,o+1=>by rw[bj,rU l o];rfl
theorem jW(d:List V):∀(c:List V)(o:Nat)(vs c':List V),aX c o vs=some c'→aX (c++d) o vs=some (c'++d)
 |[],o,[],c',e=>by rw[gY]at e;cases e;exact rU d o
 |[],o,v::vs,c',e=>by rw[kF]at e;cases e
 |x::l,0,[],c',e=>by rw[cQ]at e;cases e;rfl
 |x::l,0,v::vs,c',e=>by
  rw[aO]at e;cases q:aX l 0 vs with
  |none=>rw[q]at e;cases e
  |some r=>rw[q]at e;cases e;rw[List.cons_append,aO,jW d l 0 vs r q];rfl
 |x::l,o+1,vs,c',e=>by
  rw[bj]at e;cases q:aX l o vs with
  |none=>rw[q]at e;cases e
  |some r=>rw[q]at e;cases e;rw[List.cons_append,bj,jW d l o vs r q];rfl
theorem kR(d:List V)(o:Nat)(vs d':List V)(e:aX d o vs=some d'):∀(c:List V),aX (c++d) (c.length+o) vs=some (c++d')
 |[]=>by simpa using e
 |x::l=>by rw[List.cons_append,List.length_cons,(oM:l.length+1+o=(l.length+o)+1),bj,kR d o vs d' e l];rfl
theorem j9{α:Type}{f:α→List V}{k:Nat}(hf:∀x,(f x).length=k){y:α}{o:Nat}{vs:List V}:∀(L:List α)(i:Nat)(x:α),L[i]? =some x→aX (f x) o vs=some (f y)→aX (L.flatMap f) (i*k+o) vs=some ((L.set i y).flatMap f)
 |z::L,0,x,h,e=>by simp at h;subst h;rw[List.flatMap_cons,Nat.zero_mul,Nat.zero_add,List.set_cons_zero,List.flatMap_cons];exact jW _ _ _ _ _ e
 |z::L,i+1,x,h,e=>by rw[List.flatMap_cons,List.set_cons_succ,List.flatMap_cons,show(i+1) *k+o=(f z).length+(i*k+o) by rw[hf,Nat.succ_mul];omega];exact kR _ _ _ _ (j9 hf L i x (eV h) e) _
theorem _root_.Go.Ev.Gs.ptr{h:Heap}{B e:Nat}{v:V}{cs:List V}{n:Nat}(g:Gs h B e v cs)(hn:cs.length=n*e)(he:0<e){i:Nat}(hi:i<n):∃b,vb v=[b]∧B≤b∧Own h b cs∧(∀k,aP (.ixs e) [v,.int k (i:Int)]=some (.ptr b (i*e)))∧∀h' c',Own h' b c'→c'.length=cs.length→Gs h' B e v c':=by obtain⟨rfl,rfl⟩|⟨b,m,rfl,h1,h2,h3,o⟩:=g;have h0:0=n*e:=hn;have:=Nat.mul_pos (oM:0<n) he;omega;have:m=n:=Nat.eq_of_mul_eq_mul_right he oM;subst this;refine⟨b,rfl,h3,o,fun k=>?_,fun h' c' o' hl=>.inr ⟨b,m,rfl,oM,h2,h3,o'⟩⟩;rw[q8 _ _ _ _ _ _ _ oM oM];simp
theorem Ent.upd_b(e:Ent)(s:Int):aX e.cells 4 [.int .i64 s]=some (Ent.cells ⟨e.x,s,e.kn⟩):=rfl
theorem Ent.upd_k(e:Ent)(t:Bool):aX e.cells 5 [.bool t]=some (Ent.cells ⟨e.x,e.b,t⟩):=rfl
theorem gG{h:Heap}{e:Ent}(a:ItmH h e.x):au e.cells=true:=by show au (e.x.cells++[_,_])=true;rw[aN,a.one];rfl
theorem IxOf.same{m:Nat→Option Nat}{E E':List Ent}(ix:IxOf m E)(e:E'.map Ent.x=E.map Ent.x):IxOf m E':=by intro k j;rw[ix k j];have:=congrArg (fun l=>l[j]?) e;simp only[List.getElem?_map]at this;constructor;grind;grind
def Itm.val(x:Itm):Nat×Nat×Str×List Str:=(x.key,x.type,x.text,x.marks)
def Ent.val(e:Ent):(Nat×Nat×Str×List Str)×Int×Bool:=(e.x.val,e.b,e.kn)
theorem Itm.val_eq{x y:Itm}(e:x.val=y.val):x.key=y.key∧x.type=y.type∧x.text=y.text∧x.marks=y.marks:=by simp only[Itm.val,Prod.mk.injEq]at e;exact e
def E0:List V:=[.int .u64 0,.int .u8 0,.str [],.nils,.int .i64 0,.bool false]
theorem wL{Z:List Ent}{z:Ent}{n i:Nat}(hZ:Z.length=i)(hi:i<n):aX (Z.flatMap Ent.cells++bq E0 (n-i)) (i*6) z.cells=some ((Z++[z]).flatMap Ent.cells++bq E0 (n-(i+1))):=by
 have l:(Z.flatMap Ent.cells).length=i*6:=by rw[aC aM,hZ]
 rw[(oM:n-i=n-(i+1)+1),ef,←l,←Nat.add_zero (Z.flatMap Ent.cells).length,kR (E0++bq E0 (n-(i+1))) 0 z.cells (z.cells++bq E0 (n-(i+1))) (jW _ _ _ _ _ rfl),List.flatMap_append];simp
theorem LoP.kl{h:Heap}{b:Nat}{pm:Option Nat}{l:List Int}{ks bs:List Bool}(a:LoP h b pm l ks bs):ks.length=l.length∧Fit l:=by let⟨p,vk,o,v1,ix,mk,e⟩:=a;exact⟨ix.len.1,ix.fit⟩
def LsO(N:Nat)(h:Heap)(v:V)(Z:List Ent):Prop:=(Z=[]∧v=.nils)∨∃b,v=.slice b 0 Z.length Z.length∧N≤b∧Own h b (Z.flatMap Ent.cells)∧∀z∈Z,CpO (b+1) h z.x.vm z.x.marks
theorem CpO.le{N M:Nat}{h:Heap}{v:V}{L:List (List UInt8)}(a:CpO N h v L)(l:M≤N):CpO M h v L:=by obtain⟨e,rfl|⟨b,rfl,hb,o⟩⟩|⟨b,e,hb,o⟩:=a;exact .inl ⟨e,.inl rfl⟩;exact .inl ⟨e,.inr ⟨b,rfl,oM,o⟩⟩;exact .inr ⟨b,e,oM,o⟩
theorem LsO.rs{N:Nat}{h:Heap}{v:V}{Z:List Ent}(a:LsO N h v Z):Recs Ent.cells 6 h v Z:=by obtain⟨rfl,rfl⟩|⟨b,rfl,_,o,_⟩:=a;exact Recs.nil;exact Sl.lit o (aC aM Z)
def SE(N:Nat)(Ks:List Knd)(h:Heap)(b:Nat)(E:List Ent):Prop:=
 ∃n0 K X st vK bg B bm S bl pm mc,Sto n0 h b K 12 X (E.map Ent.b) (E.map Ent.kn) st vK bg B bm S bl pm mc∧uA Ks K∧X.map Itm.val=E.map (fun e=>e.x.val)∧(∀x∈X,nZ x.vm=true)∧IxOf mc.1 E∧mc.2≤1024∧(∀y∈Wr b bg B bm S bl pm,N≤y)∧N≤n0.1
theorem SE.fr{N:Nat}{Ks:List Knd}{h h':Heap}{b:Nat}{E:List Ent}(w:WF h)(s:SE N Ks h b E)(f:Fr [] h h'):SE N Ks h' b E:=by let⟨n0,K,X,st,vK,bg,B,bm,S,bl,pm,mc,s,r⟩:=s;exact⟨n0,K,X,st,vK,bg,B,bm,S,bl,pm,mc,s.fr w f,r⟩
def SA(Ks:List Knd)(h:Heap)(b:Nat)(E:List Ent):Prop:=
 ∃n0 K X st vK bg B bm S bl pm mc,Sto n0 h b K 12 X (E.map Ent.b) (E.map Ent.kn) st vK bg B bm S bl pm mc∧uA Ks K∧X.map Itm.val=E.map (fun e=>e.x.val)∧(∀x∈X,nZ x.vm=true)∧IxOf mc.1 E
theorem SE.a{N:Nat}{Ks:List Knd}{h:Heap}{b:Nat}{E:List Ent}(s:SE N Ks h b E):SA Ks h b E:=by let⟨n0,K,X,st,vK,bg,B,bm,S,bl,pm,mc,s,r1,r2,r3,r4,_⟩:=s;exact⟨n0,K,X,st,vK,bg,B,bm,S,bl,pm,mc,s,r1,r2,r3,r4⟩
theorem jo:∀{L:List Int},(∀x∈L,1≤x∧x≤50)→0≤L.sum∧L.sum≤50*L.length
 |[],_=>by simp
 |x::L,h=>by have:=h x iS;have:=jo (L:=L) fun y m=>h y iX;simp only[List.sum_cons,List.length_cons];omega
theorem wj:∀(X:List Itm)(mc:mW)(i:Nat),(X.map Itm.key).Nodup→∀k j,(wk mc X i).1 k=some j↔(∃n x,X[n]? =some x∧x.key=k∧j=i+n)∨((∀x∈X,x.key≠k)∧mc.1 k=some j)
 |[],mc,i,_,k,j=>by simp[wk]
 |x::r,mc,i,nd,k,j=>by
  rw[List.map_cons,List.nodup_cons]at nd;have ih:=wj r (FA mc x.key i) (i+1) nd.2 k j;simp only[wk];rw[ih];have ms:(FA mc x.key i).1 k=if k=x.key then some i else mc.1 k:=by simp only[FA,i9]
  rw[ms];constructor;rintro(⟨n,y,h1,h2,h3⟩|⟨h1,h2⟩);exact .inl ⟨n+1,y,by simpa using h1,h2,oM⟩;by_cases c:k=x.key;rw[if_pos c]at h2;exact .inl ⟨0,x,rfl,c.symm,by cases h2;rfl⟩;grind;grind
def Ent.ht(e:Ent):Nat×Int:=(e.x.key,e.b)
structure LOk(Ks:List Knd)(h:Heap)(E:List Ent):Prop where
 h:∀e∈E,ItmH h e.x∧nZ e.x.vm=true∧okI e.x 3=true∧dT Ks 12 e.x=0
 b:∀e∈E,e.kn=false→e.b=aW Ks e.x
 c:∀e∈E,e.kn=true→1≤e.b∧e.b≤50
 n:(E.map fun e=>e.x.key).Nodup
 l:E.length≤1000
 r:okR Ks 12=true∧Ks.length=3∧GK Ks
theorem Sto.wrlt{n0:NL}{h:Heap}{b bg B bm S bl:Nat}{Ks:List Knd}{cap:Int}{X:List Itm}{l:List Int}{kn st:List Bool}{vK:V}{pm:Option Nat}{mc:mW}(w:WF h)(s:Sto n0 h b Ks cap X l kn st vK bg B bm S bl pm mc):∀y∈Wr b bg B bm S bl pm,y<h.next:=by intro y m;simp only[Wr,List.mem_append,List.mem_cons,List.not_mem_nil,or_false]at m;obtain(rfl|rfl|rfl|rfl|rfl|rfl)|m:=m;exact s.ob.lt w;exact s.g.ob.1.lt w;exact s.gB.lt w;exact s.k.lt w;exact s.Sl';exact s.bl';exact s.pl y (eV m)
theorem j5{h:Heap}{b o n m:Nat}{r:List V}(e:ai h b o n=some r)(l:m≤n):ai h b o m=some (r.take m):=by unfold ai at e⊢;split at e;obtain⟨rfl,q⟩:=jk e;rw[bP _ _ oM,List.take_take,Nat.min_eq_left l];cases e
theorem LOk.fr{Ks:List Knd}{h h':Heap}{E:List Ent}(a:LOk Ks h E)(f:Fr [] h h'):LOk Ks h' E:=⟨fun e m=>⟨(a.h e m).1.fr f,(a.h e m).2⟩,a.b,a.c,a.n,a.l,a.r⟩
theorem LOk.base{Ks:List Knd}{h:Heap}{E:List Ent}(a:LOk Ks h E):∀e∈E,1≤aW Ks e.x∧aW Ks e.x≤50:=by intro e m;have t:=(a.h e m).2.2.1;simp only[okI,Bool.and_eq_true,decide_eq_true_eq]at t;have p:Ks[e.x.type]? =some (Ks[e.x.type]'(by rw[a.r.2.1];exact t.2.1)):=List.getElem?_eq_getElem _;generalize Ks[e.x.type]'(by rw[a.r.2.1];exact t.2.1)=q at p;have g:=(a.r.2.2 q (List.mem_of_getElem? p)).2.2;rw[aW,p];exact g
theorem LOk.okZ{Ks:List Knd}{h:Heap}{E:List Ent}(a:LOk Ks h E):okZ E:=by intro e m;cases ek:e.kn;have:=a.base e m;rw[a.b e m ek];omega;have:=a.c e m ek;omega
theorem LOk.key{Ks:List Knd}{h:Heap}{E:List Ent}(a:LOk Ks h E):∀e∈E,0<e.x.key:=by intro e m;have t:=(a.h e m).2.2.1;simp only[okI,Bool.and_eq_true,decide_eq_true_eq]at t;omega
theorem _root_.Go.Ev.Gs.dj{h h':Heap}{B e:Nat}{v:V}{cs:List V}{Z:List Nat}(g:Gs h B e v cs)(f:Fr Z h h')(d:∀z∈Z,z∉vb v):Gs h' B e v cs:=by obtain z|⟨b,n,z1,z2,z3,z4,o⟩:=g;exact .inl z;exact .inr ⟨b,n,z1,z2,z3,z4,f.own _ _ (fun m=>d _ m (by rw[z1];simp[vb])) o⟩
theorem Cps.vals:∀{a b:List Itm},Cps a b→b.map Itm.val=a.map Itm.val
 |[],[],_=>rfl
 |_::_,_::_,h=>by obtain⟨⟨v,rfl,_⟩,h2⟩:=h;simp only[List.map_cons,Cps.vals h2];rfl
 |[],_::_,h=>h.elim
 |_::_,[],h=>h.elim
theorem Bg{X:List Itm}{E:List Ent}(ev:X.map Itm.val=E.map (fun e=>e.x.val))(n:(E.map fun e=>e.x.key).Nodup):IxOf (wk (fun _=>none,0) X 0).1 E:=by
 have ek:X.map Itm.key=E.map (fun e=>e.x.key):=by have:=congrArg (List.map Prod.fst) ev;rw[List.map_map,List.map_map]at this;exact this
 intro k j;rw[wj X _ 0 (by rw[ek];exact n)];constructor;rintro(⟨n,x,h1,h2,h3⟩|⟨_,h2⟩);have:=congrArg (fun l=>l[n]?) ek;simp only[List.getElem?_map,h1]at this;cases q:E[n]? with
 |none=>rw[q]at this;cases this
 |some e=>rw[q]at this;exact⟨e,by rw[(oM:j=n)];exact q,by rw[←h2];exact(Option.some.inj this).symm⟩
 cases h2;rintro⟨e,h1,h2⟩;have:=congrArg (fun l=>l[j]?) ek;simp only[List.getElem?_map,h1]at this;cases q:X[j]? with
 |none=>rw[q]at this;cases this
 |some x=>rw[q]at this;exact .inl ⟨j,x,q,by rw[←h2];exact Option.some.inj this,oM⟩
open Go.Ev.St
set_option maxRecDepth 4000
section
variable {n0 : NL} {h : Heap} {b bg B bm S bl : Nat} {Ks : List Knd} {cap : Int} {X : List Itm} {l : List Int} {kn st : List Bool} {vK : V} {pm : Option Nat} {mc : mW}
theorem Ds{h:Heap}{q key:Nat}{e:Ent}(w:WF h)(o:Own h q [.int .u64 (key:Int)])(a:ItmH h e.x):ao go 103 [.agg e.cells,.ptr q 0] h fun u h'=>u=.bool (decide (e.x.key=key))∧Fr [] h h':=by let⟨h1,e_h1,F_h1,o_h1⟩:=aj w e.cells;have x0:ag h1 h.next 0=some (.int .u64 (e.x.key:Int)):=o_h1.ld1 0;have y0:ag h1 q 0=some (.int .u64 (key:Int)):=(F_h1.get o).ld1 0;have d:decide ((e.x.key:Int)=(key:Int))=decide (e.x.key=key):=decide_eq_decide.2 oM;refine ac ?_;simp only[evs,seval,←e_h1,x0,y0,d];exact F_h1
theorem wy{h:Heap}{vE:V}{E:List Ent}{key:Nat}{m:Nat→Option Nat}(w:WF h)(re:Recs Ent.cells 6 h vE E)(ie:∀e∈E,ItmH h e.x)(hE:E.length≤4096)(ix:IxOf m E):ao go 60 [.agg [vE],.int .u64 (key:Int)] h fun u h'=>u=mj (m key)∧Fr [] h h':=by
 have v1:vE.one=true:=Sl.one re;let⟨h1,e_h1,F_h1,o_h1⟩:=aj w [vE];let⟨h2,e_h2,F_h2,o_h2⟩:=aj F_h1.wf [.int .u64 (key:Int)];have F02:=F_h1.then F_h2;have x0:ag h2 h.next 0=some vE:=(F_h2.get o_h1).ld1 0;refine ac ?_;simp only[evs,seval,←e_h1,←e_h2,x0];refine aa (R:=fun u h'=>u=.int .i64 (match m key with|some j=>(j:Int)|none=>-1)∧Fr [] h2 h') ?_ ?_
 refine ac ?_;simp only[evs,seval,(re.fr F02).len];refine az (fun n env hh=>Fr [] h2 hh∧∃i:Nat,env.get 8=some (.int .i64 i)∧env.get 7=some (.int .i64 E.length)∧env.get 0=some vE∧env.get 1=some (.func (.func 103) [] [.ptr h1.next 0])∧i≤E.length∧(∀j e,j<i→E[j]? =some e→e.x.key≠key)∧n=E.length-i) E.length oM ?_ ?_;exact⟨Fr.refl F_h2.wf,0,iS,iS,iS,iS,oM,fun j e c=>by omega,rfl⟩;rintro n env hh ⟨F,i,g8,g7,g0,g1,hi,hn,rfl⟩;by_cases c:i<E.length;let⟨bi,oi,e,p1,_,p3,p4⟩:=(re.fr (F02.then F)).ix aM .i64 (i:Int) oM oM;rw[Int.toNat_natCast]at p4;have ae:=(ie e (List.mem_of_getElem? p4)).fr (F02.then F);have big:69<1099511627776:=oM;simp only[evs,seval,g8,g7,g0,g1,(oM:(i:Int)<E.length),p1,p3];refine aa (Ds F.wf (F.get o_h2) ae) ?_;rintro _ h3 ⟨rfl,F3⟩;by_cases ck:e.x.key=key;simp only[evs,seval,decide_eq_true ck];rw[(ix key i).2 ⟨e,p4,ck⟩];exact⟨rfl,F.then F3⟩;simp(disch:=omega) only[evs,seval,ab,g8,decide_eq_false ck];refine rqn ⟨E.length-(i+1),oM,F.then F3,i+1,iS,iX,iX,iX,oM,?_,rfl⟩;intro j e' hj hx;by_cases cj:j=i;grind;grind;simp only[evs,seval,g8,g7,(oM:¬(i:Int)<E.length)];refine⟨?_,F⟩;cases e:m key with
 |none=>rfl
 |some j=>let⟨e',q1,q2⟩:=(ix key j).1 e;have:=(List.getElem?_eq_some_iff.1 q1).1;exact absurd q2 (hn j e' oM q1)
 rintro _ h3 ⟨rfl,F3⟩;cases e:m key with
 |none=>simp only[evs,seval,mj,(oM:max (-1:Int) 0=0),(dI:decide ((0:Int)≤-1)=false)];exact F02.then F3
 |some j=>simp only[evs,seval,mj,(oM:max (j:Int) 0=j),(iS:decide ((0:Int)≤(j:Int))=true)];exact F02.then F3
end
open Go.Ev.St
set_option maxRecDepth 4000
theorem TreeS.on{N:Nat}{h' h2:Heap}{Ks:List Knd}{x:Itm}{cs:List V}{Z:List Nat}(t:TreeS N h' Ks x cs)(f:Fr Z h' h2)(hZ:∀z∈Z,z<N):TreeS N h2 Ks x cs:=by let⟨q,s,va,vc,t1,t2,t3,t4⟩:=t;refine⟨q,s,va,vc,t1,t2,fun X h3 hX g=>?_,t4⟩;refine t3 (Z++X) h3 (fun y m=>(List.mem_append.1 m).elim (hZ y) (hX y)) ⟨Nat.le_trans f.next g.next,g.wf,fun b c hb o=>g.own b c (fun m=>hb (List.mem_append.2 (.inr m))) (f.own b c (fun m=>hb (List.mem_append.2 (.inl m))) o),fun b c hb o=>g.pl b c (fun m=>hb (List.mem_append.2 (.inr m))) (f.pl b c (fun m=>hb (List.mem_append.2 (.inl m))) o),fun b x hx e=>g.lp b x hx (f.lp b x hx e),fun b c r=>g.ro b c (f.ro b c r)⟩
theorem TreeS.le{N M:Nat}{h':Heap}{Ks:List Knd}{x:Itm}{cs:List V}(t:TreeS N h' Ks x cs)(l:M≤N):TreeS M h' Ks x cs:=by let⟨q,s,va,vc,t1,t2,t3,t4⟩:=t;exact⟨q,s,va,vc,t1,t2,fun X h3 hX g=>t3 X h3 (fun y m=>Nat.lt_of_lt_of_le (hX y m) l) g,t4⟩
theorem qk{h:Heap}{vK:V}{Ks:List Knd}{cap:Int}{x:Itm}(w:WF h)(rk:Recs Knd.cells 9 h vK Ks)(kh:∀q∈Ks,KndH h q)(a:ItmH h x)(ht:x.type<Ks.length):
 ao go 97 [.agg [vK,.int .i64 cap],.agg x.cells] h fun u h'=>∃cs,u=.tup [.agg cs,.int .i64 (dT Ks cap x)]∧Fr [] h h'∧au cs=true∧cs.length=6∧(dT Ks cap x=0→TreeS h.next h' Ks x cs):=by
 have v1:vK.one=true:=Sl.one rk;let⟨h0,e_h0,F_h0,o_h0⟩:=aj w [vK,.int .i64 cap];let⟨h1,e_h1,F_h1,o_h1⟩:=aj F_h0.wf x.cells;let⟨h2,e_h2,F_h2,o_h2⟩:=aj F_h1.wf [.int .u8 0,.str [],.str [],.nils,.str [],.nils];have n0:=hnx e_h0;have n1:=hnx e_h1;have n2:=hnx e_h2;have F02:=F_h0.then (F_h1.then F_h2);have ob:=F_h2.get (F_h1.get o_h0);have ox:=F_h2.get o_h1;have l0:ag h2 h.next 0=some vK:=ob.ld1 0;have l1:ag h2 h.next 1=some (.int .i64 cap):=ob.ld1 1;have x1:ag h2 h0.next 1=some (.int .u8 (x.type:Int)):=ox.ld1 1;have x4:ai h2 h0.next 0 4=some x.cells:=by rw[ox.ld];rfl
 let⟨bk,ok',q,p1,_,p3,p4⟩:=(Recs.fr rk F02).ix dW .u8 (x.type:Int) oM oM;rw[Int.toNat_natCast]at p4;have hq:=kh q (List.mem_of_getElem? p4);have er:dT Ks cap x=eX q.k q.tg q.ky q.sl q.tx q.sub x cap:=by simp[dT,p4]
 have p6:ai h2 bk ok' 6=some q.part:=j5 p3 oM;refine ac ?_;simp only[evs,seval,eff,←e_h0,←e_h1,←e_h2,l0,x1,p1,p6,x4,l1];refine aa (AY (vs:=q.vs) (vp:=q.vp) F_h2.wf (hq.fr F02) (a.fr F02)) ?_;rintro _ h3 ⟨cs,rfl,F3,z1,z2⟩;have on:au cs=true∧cs.length=6:=by by_cases z:eX q.k q.tg q.ky q.sl q.tx q.sub x cap=0;obtain⟨s,va,vc,rfl,n,_⟩:=z2 z;exact⟨NH.ones (n [] h3 iS (Fr.refl F3.wf)),rfl⟩;rw[z1 z];exact⟨rfl,rfl⟩
 have oz3:=F3.get o_h2;simp only[evs,seval,eff];refine ah (c':=cs) F3.wf oz3 on.2 on.1 (by
  rw[dp _ _ _ (by show 0+cs.length≤6;omega)];simp[V.cells];omega) ?_
 rintro h4 o4 F4 n4;have l4:ai h4 h1.next 0 6=some cs:=by rw[o4.ld,fX,bP _ _ oM,List.take_of_length_le oM]
 simp only[evs,seval,DF,eff,l0,x1,p6,x4,l1,l4];refine⟨cs,by rw[er],(F02.then F3).fresh F4 w oM,on.1,on.2,fun z=>?_⟩;rw[er]at z;let⟨s,va,vc,e,n,es⟩:=z2 z;refine TreeS.le (N:=h2.next) ⟨q,s,va,vc,p4,e,fun X hh hX f=>n ([h1.next]++X) hh (fun y m=>?_) (Fr.trans F4 f F3.wf (fun y m=>.inl (List.mem_append.2 (.inl m))) (fun y m=>.inl (List.mem_append.2 (.inr m)))),es,we z⟩ oM;obtain m|m:=List.mem_append.1 m;simp at m;omega;exact hX y m
theorem iq{h:Heap}{vE:V}{E:List Ent}(w:WF h)(re:Recs Ent.cells 6 h vE E)(ie:∀e∈E,ItmH h e.x)(hE:E.length≤4096)(ok:okZ E)(hs:(E.map Ent.b).sum≤4611686018427387904):
 ao go 64 [.agg [vE]] h fun u h'=>u=.int .i64 (E.map Ent.b).sum∧Fr [] h h':=by
 have v1:vE.one=true:=Sl.one re;let⟨h1,e_h1,F_h1,o_h1⟩:=aj w [vE];have x0:ag h1 h.next 0=some vE:=o_h1.ld1 0;refine ac ?_;simp only[evs,seval,←e_h1,x0,(re.fr F_h1).len];refine az (fun n env hh=>Fr [] h hh∧∃i:Nat,env.get 10=some (.int .i64 i)∧env.get 9=some (.int .i64 E.length)∧env.get 8=some vE∧env.get 3=some (.int .i64 ((E.take i).map Ent.b).sum)∧i≤E.length∧n=E.length-i) E.length oM ?_ ?_;exact⟨F_h1,0,iS,iS,iS,iS,oM,rfl⟩;rintro n env hh ⟨F,i,g10,g9,g8,g3,hi,rfl⟩;have nn:=(ok.take i).sum_nn;by_cases c:i<E.length;let⟨bi,oi,e,p1,_,p3,p4⟩:=(re.fr F).ix aM .i64 (i:Int) oM oM;rw[Int.toNat_natCast]at p4;have em:=List.mem_of_getElem? p4;have ob:=ok e em;have ts:=sa p4;have:=(ok.drop (i+1)).sum_nn;have:=okZ.split (E:=E) (i+1);let⟨h3,e_h3,F_h3,o_h3⟩:=aj F.wf [.int .u64 0,.int .u8 0,.str [],.nils,.int .i64 0,.bool false];simp only[evs,seval,g10,g9,g8,(oM:(i:Int)<E.length),p1,p3,←e_h3];refine ah (c':=e.cells) F_h3.wf o_h3 rfl (gG ((ie e em).fr F)) rfl ?_;rintro h4 o4 F4 n4;have F04:Fr [] hh h4:=F_h3.fresh F4 F.wf (Nat.le_refl _);have l4:ag h4 hh.next 4=some (.int .i64 e.b):=o4.ld1 4;simp(disch:=omega) only[evs,seval,ab,g10,g3,l4,(oM:max e.b 0=e.b),eq_false (oM:¬4611686018427387904-((E.take i).map Ent.b).sum<e.b)];refine rqn ⟨E.length-(i+1),oM,F.then F04,i+1,iS,iX,iX,(by rw[ts];simp),oM,rfl⟩;rw[List.take_of_length_le oM]at g3;simp only[evs,seval,g10,g9,g3,(oM:¬(i:Int)<E.length)];exact F
theorem sP{h:Heap}{vE:V}{E:List Ent}(w:WF h)(re:Recs Ent.cells 6 h vE E)(ie:∀e∈E,ItmH h e.x)(hE:E.length≤4096)(ok:okZ E)(hs:(E.map Ent.b).sum≤4611686018427387904):
 ao go 99 [.agg [vE]] h fun u h'=>u=.int .i64 0∧Fr [] h h':=by
 have v1:vE.one=true:=Sl.one re;let⟨h1,e_h1,F_h1,o_h1⟩:=aj w [vE];have x1:ai h1 h.next 0 1=some [vE]:=by rw[o_h1.ld];rfl
 refine ac ?_;simp only[evs,seval,←e_h1,x1];refine aa (iq F_h1.wf (re.fr F_h1) (fun e m=>(ie e m).fr F_h1) hE ok hs) ?_;rintro _ h2 ⟨rfl,F2⟩;simp only[evs,seval,eq_false (oM:¬4611686018427387904<(E.map Ent.b).sum)];exact F_h1.then F2
theorem LOk.sum{Ks:List Knd}{h:Heap}{E:List Ent}(o:LOk Ks h E):(E.map Ent.b).sum≤50000:=by
 have:=jo (L:=E.map Ent.b) (fun x m=>by
  obtain⟨e,em,rfl⟩:=List.mem_map.1 m;cases ek:e.kn;rw[o.b e em ek];exact o.base e em;exact o.c e em ek)
 have hl:=o.l;simp at this;omega
theorem nw{h:Heap}{vK vE:V}{Ks:List Knd}{E:List Ent}(w:WF h)(rk:Recs Knd.cells 9 h vK Ks)(kh:∀q∈Ks,KndH h q)(re:Recs Ent.cells 6 h vE E)(o:LOk Ks h E):
 ao go 57 [.agg [vK,.int .i64 12],.agg [vE]] h fun u h'=>u=.int .i64 0∧Fr [] h h':=by
 have v1:vK.one=true:=Sl.one rk;have v2:vE.one=true:=Sl.one re;have hl:=o.l;have k3:=o.r.2.1;let⟨h1,e_h1,F_h1,o_h1⟩:=aj w [vK,.int .i64 12];let⟨h2,e_h2,F_h2,o_h2⟩:=aj F_h1.wf [vE];have n1:=hnx e_h1;have n2:=hnx e_h2;have F02:=F_h1.then F_h2;have c0:ai h2 h.next 0 2=some [vK,.int .i64 12]:=by rw[(F_h2.get o_h1).ld];rfl
 refine ac ?_;simp only[evs,seval,←e_h1,←e_h2,c0];refine aa (pH F_h2.wf (Recs.fr rk F02) (fun q m=>(kh q m).fr F02) oM) ?_;rintro _ h3 ⟨rfl,F3⟩;rw[o.r.1];have kk:∀{H},Fr [] h3 H→ai H h.next 0 2=some [vK,.int .i64 12]:=fun f=>by rw[(f.get (F3.get (F_h2.get o_h1))).ld];rfl
 have k0:∀{H},Fr [] h3 H→ag H h.next 0=some vK:=fun f=>(f.get (F3.get (F_h2.get o_h1))).ld1 0;have ee:∀{H},Fr [] h3 H→ag H h1.next 0=some vE:=fun f=>(f.get (F3.get o_h2)).ld1 0;have e1:∀{H},Fr [] h3 H→ai H h1.next 0 1=some [vE]:=fun f=>by rw[(f.get (F3.get o_h2)).ld];rfl
 have e3:=ee (Fr.refl F3.wf);have F03:=F02.then F3;simp only[evs,seval,e3,re.len,(oM:¬(1024:Int)<E.length)];obtain⟨h4,e_h4⟩:∃h4,h4=lu h3:=⟨_,rfl⟩;have F_h4:Fr [] h3 h4:=e_h4▸Fr.hnew F3.wf _;have s4:Seen h4 h3.next []:=⟨[],0,by rw[e_h4];exact wE _ _,rfl,iS⟩;have e4:=ee F_h4;simp only[evs,seval,JJ,←e_h4,e4,re.len];refine az (fun n env hh=>Fr [] h3 hh∧∃(i:Nat),env.get 25=some (.int .i64 i)∧env.get 24=some (.int .i64 E.length)∧env.get 23=some vE∧env.get 2=some (.ptr h.next 0)∧env.get 3=some (.ptr h1.next 0)∧env.get 6=some (.map h3.next)∧
  i≤E.length∧Seen hh h3.next ((E.take i).map fun e=>e.x.key)∧n=E.length-i) E.length oM ?_ ?_
 exact⟨F_h4,0,iS,iS,iS,iS,iS,iS,oM,s4,rfl⟩;rintro n env hh ⟨F,i,g25,g24,g23,g2,g3,g6,hi,S,rfl⟩;have F0:=F03.then F;by_cases c:i<E.length;let⟨bi,oi,e,p1,_,p3,p4⟩:=(re.fr F0).ix aM .i64 (i:Int) oM oM;rw[Int.toNat_natCast]at p4;have em:=List.mem_of_getElem? p4;let⟨ax,nz,oi,re0⟩:=o.h e em;have oi':okI e.x Ks.length=true:=by rw[k3];exact oi
 have ht:e.x.type<Ks.length:=by simp only[okI,Bool.and_eq_true,decide_eq_true_eq]at oi';exact oi'.2.1
 let⟨h5,e_h5,F_h5,o_h5⟩:=aj F.wf [.int .u64 0,.int .u8 0,.str [],.nils,.int .i64 0,.bool false];simp only[evs,seval,g25,g24,g23,(oM:(i:Int)<E.length),p1,p3,←e_h5];refine ah (c':=e.cells) F_h5.wf o_h5 rfl (gG (ax.fr F0)) rfl ?_;rintro h6 o6 F6 n6;have Fh6:Fr [] hh h6:=F_h5.fresh F6 F.wf (Nat.le_refl _);have F36:=F.then Fh6;have i4:∀{H},Own H hh.next e.cells→ai H hh.next 0 4=some e.x.cells:=fun o=>by rw[o.ld];rfl
 have i0:∀{H},Own H hh.next e.cells→ag H hh.next 0=some (.int .u64 (e.x.key:Int)):=fun o=>o.ld1 0;have i4a:=i4 o6;have k0a:=k0 F36;simp only[evs,seval,g2,i4a,k0a,(Recs.len rk)];apply aa (xi Fh6.wf (ax.fr (F0.then Fh6)) oM);rintro _ h7 ⟨rfl,F7⟩;rw[oi'];have o7:=F7.get o6;have i0a:=i0 o7;have S7:=(S.fr Fh6).fr F7;have nk:e.x.key∉(E.take i).map fun e=>e.x.key:=by
  intro m;have nd:=o.n;have:E.map (fun e=>e.x.key)=(E.take i).map (fun e=>e.x.key)++e.x.key::(E.drop (i+1)).map (fun e=>e.x.key):=by rw[←List.map_cons (f:=fun e:Ent=>e.x.key),←aK p4,←List.map_append,List.take_append_drop]
  rw[this,List.nodup_append]at nd;exact nd.2.2 _ m _ iS rfl
 simp only[evs,seval,g6,i0a,JK,EO,Ge S7,decide_eq_false nk,JI,EM];apply Iob F7.wf S7 nk;intro h8 S8 B8 n8;have F38:Fr [] h3 h8:=FrB.fr F3.wf (F36.then F7) B8 iS (Nat.le_refl _);have F08:=F03.then F38;have o8:=B8.own _ _ iS o7;have i4b:=i4 o8;have kkb:=kk F38;simp only[evs,seval,g2,i4b,kkb];apply aa (qk F38.wf (Recs.fr rk F08) (fun q m=>(kh q m).fr F08) (ax.fr F08) ht);rintro _ h9 ⟨cs,rfl,F9,on,cl,_⟩;let⟨ha,e_ha,F_ha,o_ha⟩:=aj F9.wf [.int .u8 0,.str [],.str [],.nils,.str [],.nils];simp only[evs,←e_ha];refine ah (c':=cs) F_ha.wf o_ha cl on (by
  rw[dp _ _ _ (by show 0+cs.length≤6;omega)];simp[V.cells];omega) ?_
 rintro hb ob Fb nb;have F8b:Fr [] h8 hb:=(F9.then F_ha).fresh Fb F38.wf F9.next;have F3b:=F38.then F8b;have obx:=F8b.get o8;have b4:ag hb hh.next 4=some (.int .i64 e.b):=obx.ld1 4;have b5:ag hb hh.next 5=some (.bool e.kn):=obx.ld1 5;have Sb:=S8.fr F8b;have es:(E.take (i+1)).map (fun e=>e.x.key)=(E.take i).map (fun e=>e.x.key)++[e.x.key]:=by rw[List.take_add_one,p4];simp
 simp only[evs,seval,eff,re0,b4];apply aa (sU e.b);rintro _ _ ⟨rfl,rfl⟩;have okb:okB e.b=true:=by have:=o.okZ e em;simp only[okB,Bool.and_eq_true,decide_eq_true_eq];exact this
 cases ek:e.kn with
 |true=>rw[ek]at b5;simp(disch:=omega) only[evs,seval,DF,eff,ab,g25,b4,b5,okb];refine rqn ⟨E.length-(i+1),oM,F3b,i+1,iS,iX,iX,iX,iX,iX,oM,by rw[es];exact Sb,rfl⟩
 |false=>
  rw[ek]at b5;have k0b:=k0 F3b;have b1:ag hb hh.next 1=some (.int .u8 (e.x.type:Int)):=obx.ld1 1;let⟨bk,ok',q,q1,q2,q3,q4⟩:=(Recs.fr rk (F03.then F3b)).ix dW .u8 (e.x.type:Int) oM oM;rw[Int.toNat_natCast]at q4;have q6:ag hb bk (ok'+6)=some (.int .i64 q.base):=q2 6 oM;have qb:e.b=q.base:=by rw[o.b e em ek];simp[aW,q4]
  have okb2:okB q.base=true:=by grind
  simp(disch:=omega) only[evs,seval,DF,eff,ab,g25,g2,b4,b5,okb2,k0b,b1,q1,q6,qb];refine rqn ⟨E.length-(i+1),oM,F3b,i+1,iS,iX,iX,iX,iX,iX,oM,by rw[es];exact Sb,rfl⟩
 have l1:=e1 F;simp only[evs,seval,g25,g24,g3,(oM:¬(i:Int)<E.length),l1];have os:=o.sum;apply aa (sP F.wf (re.fr F0) (fun e m=>((o.h e m).1).fr F0) oM o.okZ oM);rintro _ h5 ⟨rfl,F5⟩;simp only[evs,seval];exact F0.then F5
structure Drawn(N M:Nat)(h:Heap)(Ks:List Knd)(vE:V)(X:List Itm)(E:List Ent):Prop where
 g:Gs h N 6 vE (E.flatMap Ent.cells)
 l:∀z∈vb vE,z<M
 i:∀e∈E,ItmG N h e.x
 il:∀e∈E,∀z∈vb e.x.vm,z<M
 o:∀h',(∀e∈E,ItmH h' e.x)→LOk Ks h' E
 n:E.length≤12
theorem Drawn.keep{N M:Nat}{h h':Heap}{Ks:List Knd}{vE:V}{X:List Itm}{E:List Ent}{Z:List Nat}(d:Drawn N M h Ks vE X E)(f:Fr Z h h')(l:∀z∈Z,z<N∨M≤z):Drawn N M h' Ks vE X E:=
 ⟨d.g.dj f (fun z m c=>by have:=d.l z c;have:=d.g.vb z c;have:=l z m;omega),d.l,fun e m=>(d.i e m).keep f (fun z mz c=>by have:=d.il e m z c;have:=(d.i e m).g.vb z c;have:=l z mz;omega),d.il,d.o,d.n⟩
theorem Drawn.H{N M:Nat}{h:Heap}{Ks:List Knd}{vE:V}{X:List Itm}{E:List Ent}(d:Drawn N M h Ks vE X E):∀e∈E,ItmH h e.x:=fun e m=>(d.i e m).H
theorem Drawn.lok{N M:Nat}{h:Heap}{Ks:List Knd}{vE:V}{X:List Itm}{E:List Ent}(d:Drawn N M h Ks vE X E):LOk Ks h E:=d.o h d.H
theorem Drawn.rs{N M:Nat}{h:Heap}{Ks:List Knd}{vE:V}{X:List Itm}{E:List Ent}(d:Drawn N M h Ks vE X E):Recs Ent.cells 6 h vE E:=Gs.sl (n:=E.length) d.g (aC aM _) oM
open Go.Ev.St
set_option maxRecDepth 4000
abbrev zz:Str:=[122,122]
theorem Cm{L M:List Str}(e:L.flatMap sS=M.flatMap sS):L.length=M.length:=by have:=congrArg List.length e;rw[aC fM,aC fM]at this;omega
theorem CpO.lenS{N:Nat}{h:Heap}{v:V}{L:List Str}(a:CpO N h v L):aP .lenS [v]=some (.int .i64 L.length):=a.rs.len
theorem CpO.capS{N:Nat}{h:Heap}{v:V}{L:List Str}(a:CpO N h v L):aP .capS [v]=some (.int .i64 L.length):=by obtain⟨rfl,rfl|⟨b,rfl,_⟩⟩|⟨b,rfl,_⟩:=a<;>rfl
theorem CpO.wr{N b:Nat}{h h':Heap}{v:V}{L M M':List Str}(a:CpO N h v L)(f:Fr [b] h h')(o:Own h b (M.flatMap sS))(o':Own h' b (M'.flatMap sS))(e:M'.length=M.length):∃L',L'.length=L.length∧CpO N h' v L':=by obtain⟨rfl,rfl|⟨b',rfl,hb,ob⟩⟩|⟨b',rfl,hb,ob⟩:=a;exact⟨[],rfl,.inl ⟨rfl,.inl rfl⟩⟩;by_cases c:b'=b;subst c;have q:M.flatMap sS=([]:List Str).flatMap sS:=o.uniq ob;have q2:=Cm q;have:M'=[]:=List.length_eq_zero_iff.1 (by rw[e,q2];rfl);subst this;exact⟨[],rfl,.inl ⟨rfl,.inr ⟨_,rfl,hb,o'⟩⟩⟩;exact⟨[],rfl,.inl ⟨rfl,.inr ⟨_,rfl,hb,f.own _ _ (eV c) ob⟩⟩⟩;by_cases c:b'=b;subst c;have q2:=Cm (o.uniq ob);exact⟨M',oM,.inr ⟨_,by rw[e,q2],hb,o'⟩⟩;exact⟨L,rfl,.inr ⟨_,rfl,hb,f.own _ _ (eV c) ob⟩⟩
theorem CpO.ix{N:Nat}{h:Heap}{v:V}{L:List Str}{i:Nat}(a:CpO N h v L)(hi:i<L.length):∃b,N≤b∧Own h b (L.flatMap sS)∧aP (.ixs 1) [v,.int .i64 (i:Int)]=some (.ptr b i)∧aX (L.flatMap sS) i [.str zz]=some ((L.set i zz).flatMap sS):=by have p:L[i]? =some L[i]:=List.getElem?_eq_getElem hi;have u:=j9 (y:=zz) (o:=0) (vs:=[.str zz]) fM L i L[i] p rfl;rw[Nat.mul_one,Nat.add_zero]at u;obtain⟨rfl,_⟩|⟨b,rfl,hb,o⟩:=a;simp at hi;refine⟨b,hb,o,?_,u⟩;rw[cL _ _ _ _ _ _ _ oM oM];simp
section
variable {env : T V} {h h7 : Heap} {N : Nat} (w7 : WF h7) (hN : h7.next ≤ N)
include w7 hN
def LsW(N bo:Nat)(h:Heap)(Z Z':List Ent):Prop:=bo<N∧Own h bo (Z'.flatMap Ent.cells)∧Z'.map Ent.x=Z.map Ent.x∧∀z∈Z,∃L',L'.length=z.x.marks.length∧CpO N h z.x.vm L'
end
open Go.Ev.St
set_option maxRecDepth 4000
section
variable {env : T V} {h h7 : Heap} {N : Nat} (w7 : WF h7)
theorem LsW.wr{bo b:Nat}{h h':Heap}{Z Z':List Ent}{M M':List Str}(a:LsW N bo h Z Z')(hb:N≤b)(f:Fr [b] h h')(o:Own h b (M.flatMap sS))(o':Own h' b (M'.flatMap sS))(e:M'.length=M.length):LsW N bo h' Z Z':=by let⟨l,ob,ex,cs⟩:=a;refine⟨l,f.own _ _ oO ob,ex,fun z m=>?_⟩;let⟨L,e1,c1⟩:=cs z m;let⟨L',e2,c2⟩:=c1.wr f o o' e;exact⟨L',oM,c2⟩
include w7
end
open Go.Ev.St
set_option maxRecDepth 4000
theorem uI(k t:Nat)(x:Str)(m:List Str)(v u:V):∀p:PT,bM ⟨k,t,x,m,v⟩ p=bM ⟨k,t,x,m,u⟩ p
 |.nil=>rfl
 |.cons _ _ _ _ _ _ _ s n=>by simp only[bM,uI k t x m v u s,uI k t x m v u n];rfl
theorem xJ{y z:Itm}(e:y.val=z.val):y=⟨z.key,z.type,z.text,z.marks,y.vm⟩:=by let⟨e1,e2,e3,e4⟩:=Itm.val_eq e;let⟨a,b,c,d,v⟩:=y;simp only at e1 e2 e3 e4;subst e1 e2 e3 e4;rfl
theorem CW{y z:Itm}(e:y.val=z.val)(p:PT):bM y p=bM z p:=by rw[xJ e];exact uI _ _ _ _ _ _ p
theorem Hg{y z:Itm}(e:y.val=z.val):att y=att z:=by rw[xJ e];rfl
theorem Cp{y z:Itm}{Ks:List Knd}{cap:Int}(e:y.val=z.val):dT Ks cap y=dT Ks cap z:=by
 unfold dT;let⟨_,e2,_⟩:=Itm.val_eq e;rw[e2];split;unfold eX;rw[CW e,Hg e];have:fQ y=fQ z:=by rw[xJ e];rfl
 rw[this];rfl
theorem Gp.spare{h:Heap}{b B D n:Nat}{l:List V}(g:Gp h b B n l)(gD:Good_s h D)(hD:D≠b):∃B',(B'=D∨B'=B)∧Gp h b B' n l∧Good_s h B':=by let⟨v,c1,G,c2,a,gg,m,k,x⟩:=g;obtain⟨hl,⟨e,z⟩|⟨e,o⟩⟩:=id k.tb;exact⟨D,.inl rfl,⟨v,c1,G,c2,a,gg,m,{k with tb:=⟨hl,.inl ⟨e,z⟩⟩,ne:=hD},x⟩,gD⟩;exact⟨B,.inr rfl,⟨v,c1,G,c2,a,gg,m,k,x⟩,⟨_,o,oM,ye k.n6⟩⟩
def zZ(mc:mW):List Itm→mW
 |[]=>mc
 |x::r=>zZ (fun y=>if y=x.key then none else mc.1 y,mc.2-1) r
theorem Fs{α:Type}{X:List α}{a c:Nat}(h:a+c≤X.length):(jw X a c).length=X.length-c:=by unfold jw;simp;omega
theorem Cr{α:Type}{X:List α}{a c:Nat}{x:α}(m:x∈jw X a c):x∈X:=(pY X a c).subset m
def In40(l:List Int):Prop:=∀x∈l,1≤x∧x≤50
theorem In40.app{a b:List Int}(h:In40 a)(g:In40 b):In40 (a++b):=fun x m=>(List.mem_append.1 m).elim (h x) (g x)
theorem In40.take{a:List Int}(h:In40 a)(n:Nat):In40 (a.take n):=fun x m=>h x (List.mem_of_mem_take m)
theorem In40.drop{a:List Int}(h:In40 a)(n:Nat):In40 (a.drop n):=fun x m=>h x (List.mem_of_mem_drop m)
theorem vx{l:List Int}{i:Nat}{s:Int}(h:In40 l)(hl:l.length≤1000)(hs:1≤s∧s≤50)(hi:i<l.length):cS l i s=0:=by
 have sl:=jo h;have:0≤l.getD i 0:=by rw[List.getD_eq_getElem?_getD,List.getElem?_eq_getElem hi];have:=h _ (List.getElem_mem hi);simp only[Option.getD_some];omega
 unfold cS;rw[if_pos ⟨oM,oM⟩,if_neg oM,Int.toNat_natCast,if_neg oM]
def IxL(m:Nat→Option Nat)(L:List Nat):Prop:=∀k j:Nat,m k=some j↔L[j]? =some k
theorem mg{m:Nat→Option Nat}{E:List Ent}:IxOf m E↔IxL m (E.map fun e=>e.x.key):=by
 unfold IxOf IxL;refine forall_congr' fun k=>forall_congr' fun j=>?_;rw[List.getElem?_map];cases E[j]? with
 |none=>simp
 |some e=>simp
structure Ntc where
 k:Nat
 a:Int
 c:Int
 t:Int
 Y:List Itm
def dC(Ks:List Knd)(Y:List Itm):List Ent:=Y.map fun y=>⟨y,aW Ks y,false⟩
def jD(E:List Ent):List Nat:=E.map fun e=>e.x.key
def RK(Ks:List Knd):Prop:=okR Ks 12=true∧Ks.length=3∧GK Ks
structure LV(Ks:List Knd)(E:List Ent):Prop where
 o:∀e∈E,okI e.x 3=true∧dT Ks 12 e.x=0
 b:∀e∈E,e.kn=false→e.b=aW Ks e.x
 c:∀e∈E,e.kn=true→1≤e.b∧e.b≤50
 n:(jD E).Nodup
theorem RK.base{Ks:List Knd}(r:RK Ks){x:Itm}(o:okI x 3=true):1≤aW Ks x∧aW Ks x≤50:=by simp only[okI,Bool.and_eq_true,decide_eq_true_eq]at o;have p:Ks[x.type]? =some (Ks[x.type]'(by rw[r.2.1];exact o.2.1)):=List.getElem?_eq_getElem _;generalize Ks[x.type]'(by rw[r.2.1];exact o.2.1)=q at p;have g:=(r.2.2 q (List.mem_of_getElem? p)).2.2;rw[aW,p];exact g
theorem LOk.lv{Ks:List Knd}{h:Heap}{E:List Ent}(a:LOk Ks h E):LV Ks E:=⟨fun e m=>⟨(a.h e m).2.2.1,(a.h e m).2.2.2⟩,a.b,a.c,a.n⟩
theorem LV.lok{Ks:List Knd}{h:Heap}{E:List Ent}(a:LV Ks E)(r:RK Ks)(H:∀e∈E,ItmH h e.x)(l:E.length≤1000):LOk Ks h E:=⟨fun e m=>⟨H e m,rfl,a.o e m⟩,a.b,a.c,a.n,l,r⟩
theorem LV.in40{Ks:List Knd}{E:List Ent}(a:LV Ks E)(r:RK Ks):In40 (E.map Ent.b):=by intro x m;obtain⟨e,em,rfl⟩:=List.mem_map.1 m;cases ek:e.kn;rw[a.b e em ek];exact r.base (a.o e em).1;exact a.c e em ek
theorem GG{Ks:List Knd}{Y:List Itm}:jD (dC Ks Y)=Y.map Itm.key:=by simp[dC,jD]
theorem zV{Ks:List Knd}{Y:List Itm}:(dC Ks Y).length=Y.length:=by simp[dC]
theorem LV.app{Ks:List Knd}{A B:List Ent}(a:LV Ks A)(b:LV Ks B)(d:∀k∈jD A,k∉jD B):LV Ks (A++B):=by refine⟨fun e m=>(List.mem_append.1 m).elim (a.o e) (b.o e),fun e m=>(List.mem_append.1 m).elim (a.b e) (b.b e),fun e m=>(List.mem_append.1 m).elim (a.c e) (b.c e),?_⟩;rw[jD,List.map_append,List.nodup_append];exact⟨a.n,b.n,fun x hx y hy e=>d x hx (e▸hy)⟩
theorem LV.sub{Ks:List Knd}{A B:List Ent}(a:LV Ks B)(s:A.Sublist B):LV Ks A:=⟨fun e m=>a.o e (s.subset m),fun e m=>a.b e (s.subset m),fun e m=>a.c e (s.subset m),a.n.sublist (s.map _)⟩
theorem LV.fresh{Ks:List Knd}{Y:List Itm}(r:RK Ks)(h:∀y∈Y,okI y Ks.length=true∧dT Ks 12 y=0)(n:(Y.map Itm.key).Nodup):LV Ks (dC Ks Y):=by
 refine⟨fun e m=>?_,fun e m _=>?_,fun e m k=>?_,by rw[GG];exact n⟩<;>obtain⟨y,ym,rfl⟩:=List.mem_map.1 m
 have:=h y ym;rw[r.2.1]at this;exact this;rfl;cases k
open Go.Ev.St
set_option maxRecDepth 4000
def SW(n0:NL)(W:Nat→Prop)(C:Nat)(Ks:List Knd)(h:Heap)(b:Nat)(E:List Ent):Prop:=∃K X st vK bg B bm S bl pm mc,Sto n0 h b K 12 X (E.map Ent.b) (E.map Ent.kn) st vK bg B bm S bl pm mc∧uA Ks K∧X.map Itm.val=E.map (fun e=>e.x.val)∧IxL mc.1 (jD E)∧mc.2≤C∧∀y∈Wr b bg B bm S bl pm,W y
theorem SW.fr{n0:NL}{W:Nat→Prop}{C:Nat}{Ks:List Knd}{h h':Heap}{b:Nat}{E:List Ent}(w:WF h)(s:SW n0 W C Ks h b E)(f:Fr [] h h'):SW n0 W C Ks h' b E:=by let⟨K,X,st,vK,bg,B,bm,S,bl,pm,mc,s,r⟩:=s;exact⟨K,X,st,vK,bg,B,bm,S,bl,pm,mc,s.fr w f,r⟩
theorem SW.mono{n0:NL}{W W':Nat→Prop}{C C':Nat}{Ks:List Knd}{h:Heap}{b:Nat}{E:List Ent}(s:SW n0 W C Ks h b E)(hW:∀y,W y→W' y)(hC:C≤C'):SW n0 W' C' Ks h b E:=by let⟨K,X,st,vK,bg,B,bm,S,bl,pm,mc,s,sk,ev,ix,c,r⟩:=s;exact⟨K,X,st,vK,bg,B,bm,S,bl,pm,mc,s,sk,ev,ix,Nat.le_trans c hC,fun y m=>hW y (r y m)⟩
section
variable {n0 : NL} {W : Nat → Prop} {C : Nat} {Ks : List Knd} {h : Heap} {b : Nat} {E : List Ent} {Y : List Itm} {a c t : Int} {v k0 a0 c0 t0 : V}
def WZ(W:Nat→Prop)(h h':Heap):Prop:=∃Z,(∀z∈Z,W z∨h.next≤z)∧Fr Z h h'
end
open Go.Ev.St
set_option maxRecDepth 4000
def i64(a:Int):Prop:=-9223372036854775808≤a∧a≤9223372036854775807
def SV(W:Nat→Prop)(h:Heap)(v:V)(Y:List Itm):Prop:=∀(Z:List Nat)(h':Heap),(∀z∈Z,W z∨h.next≤z)→Fr Z h h'→ARecs Itm.cells 4 h' v Y∧∀y∈Y,ItmH h' y
theorem SV.keep{W:Nat→Prop}{h h':Heap}{v:V}{Y:List Itm}(s:SV W h v Y)(w:WF h)(f:WZ W h h'):SV (fun z=>W z∨h.next≤z) h' v Y:=by let⟨Z0,hZ0,f⟩:=f;have n:=f.next;intro Z h2 hZ f2;refine s (Z0++Z) h2 (fun z m=>?_) (Fr.trans f f2 w (fun x m=>.inl (List.mem_append.2 (.inl m))) (fun x m=>.inl (List.mem_append.2 (.inr m))));obtain m|m:=List.mem_append.1 m;exact hZ0 z m;grind
theorem SV.fr{W:Nat→Prop}{h h':Heap}{v:V}{Y:List Itm}(s:SV W h v Y)(w:WF h)(f:Fr [] h h'):SV W h' v Y:=by have n:=f.next;intro Z h2 hZ f2;exact s Z h2 (fun z m=>(hZ z m).imp id fun q=>by omega) (Fr.trans f f2 w iS (fun x m=>.inl m))
theorem WZ.pre{W:Nat→Prop}{h h1 h2:Heap}(w:WF h)(f:Fr [] h h1)(z:WZ W h1 h2):WZ W h h2:=by let⟨Z,hZ,g⟩:=z;have n:=f.next;exact⟨Z,fun z m=>(hZ z m).imp id fun q=>by omega,Fr.trans f g w iS (fun x m=>.inl m)⟩
structure Nt where
 n:Ntc
 v:V
def Nt.cells(x:Nt):List V:=[.int .u8 (x.n.k:Int),.int .i64 x.n.a,.int .i64 x.n.c,.int .i64 x.n.t,x.v]
def NV(W:Nat→Prop)(h:Heap)(v:V)(L:List Nt):Prop:=(∀(Z:List Nat)(h':Heap),(∀z∈Z,W z∨h.next≤z)→Fr Z h h'→ARecs Nt.cells 5 h' v L)∧∀x∈L,SV W h x.v x.n.Y∧x.n.k<256∧i64 x.n.a∧i64 x.n.c∧i64 x.n.t
theorem WZ.fr{W:Nat→Prop}{h h':Heap}(f:Fr [] h h'):WZ W h h':=⟨[],iS,f⟩
theorem WZ.trans{W W':Nat→Prop}{h h1 h2:Heap}(w:WF h)(a:WZ W h h1)(b:WZ W' h1 h2)(i:∀y,W' y→W y∨h.next≤y):WZ W h h2:=by let⟨Z,hZ,f⟩:=a;let⟨Z',hZ',f'⟩:=b;have n:=f.next;refine⟨Z++Z',fun z m=>?_,Fr.trans f f' w (fun x m=>.inl (List.mem_append.2 (.inl m))) (fun x m=>.inl (List.mem_append.2 (.inr m)))⟩;obtain m|m:=List.mem_append.1 m;exact hZ z m;grind
theorem SV.on{W W':Nat→Prop}{h h':Heap}{v:V}{Y:List Itm}(s:SV W h v Y)(w:WF h)(f:WZ W h h')(i:∀y,W' y→W y∨h.next≤y):SV W' h' v Y:=by let⟨Z0,hZ0,f⟩:=f;have n:=f.next;intro Z h2 hZ f2;refine s (Z0++Z) h2 (fun z m=>?_) (Fr.trans f f2 w (fun x m=>.inl (List.mem_append.2 (.inl m))) (fun x m=>.inl (List.mem_append.2 (.inr m))));obtain m|m:=List.mem_append.1 m;exact hZ0 z m;grind
theorem NV.on{W W':Nat→Prop}{h h':Heap}{v:V}{L:List Nt}(s:NV W h v L)(w:WF h)(f:WZ W h h')(i:∀y,W' y→W y∨h.next≤y):NV W' h' v L:=by refine⟨?_,fun x m=>⟨(s.2 x m).1.on w f i,(s.2 x m).2⟩⟩;let⟨Z0,hZ0,f⟩:=f;have n:=f.next;intro Z h2 hZ f2;refine s.1 (Z0++Z) h2 (fun z m=>?_) (Fr.trans f f2 w (fun x m=>.inl (List.mem_append.2 (.inl m))) (fun x m=>.inl (List.mem_append.2 (.inr m))));obtain m|m:=List.mem_append.1 m;exact hZ0 z m;grind
theorem Nt.one{W:Nat→Prop}{h:Heap}{x:Nt}(w:WF h)(s:SV W h x.v x.n.Y):au x.cells=true:=by have:=ASl.one (s [] h iS (Fr.refl w)).1;show au [_,_,_,_,_]=true;simp only[av,aF,this];rfl
theorem AJ{h:Heap}{a c:Int}{n:Nat}(ha:i64 a)(hc:i64 c)(hn:n≤4096):ao go 105 [.int .i64 a,.int .i64 c,.int .i64 (n:Int)] h fun u h'=>u=.bool (decide (¬mD n a c))∧h=h':=by let⟨a0,a1⟩:=ha;let⟨b0,b1⟩:=hc;unfold mD;by_cases c1:0≤a;by_cases c2:a≤n;by_cases c3:0≤c;by_cases c4:c≤(n:Int)-a;refine ac ?_;simp(disch:=omega) only[evs,seval,ab,c1,c2,c3,c4];simp;omega;refine ac ?_;simp(disch:=omega) only[evs,seval,ab,c1,c2,c3,c4];simp;omega;refine ac ?_;simp only[evs,seval,c1,c2,c3];simp;omega;refine ac ?_;simp only[evs,seval,c1,c2];simp;omega;refine ac ?_;simp only[evs,seval,c1];simp;omega
theorem u9{h:Heap}{b N len n e bytes:Nat}{c xs:List V}{x:V}{K:V→Heap→Prop}(w:WF h)(o:Own h b c)(hc:c.length=N*e)(a:ASl h e x n xs)(h1:au xs=true)(hl:len+n≤N)
 (k:∀h',Own h' b (c.take (len*e)++xs++c.drop ((len+n) *e))→Fr [b] h h'→h'.next=h.next→K (.slice b 0 (len+n) N) h'):OQ (jf h e bytes (.slice b 0 len N) x) K:=by
 let⟨s1,s2,_⟩:=a.src rfl;have hx:=a.1;unfold jf;rw[s1];simp only[];by_cases c0:n=0;subst c0;have:xs=[]:=List.length_eq_zero_iff.1 oM;subst this;rw[nO rfl,cond_true];exact(bY _ _ _).2 (k h (eV o) (Fr.refl w) rfl);rw[ew c0,cond_false,s2];simp only[];rw[(Nat.ble_eq ..).mpr hl,cond_true];have hm:(len+n) *e≤N*e:=Nat.mul_le_mul_right _ hl;rw[Nat.add_mul]at hm;let⟨h',e1,o1,f1,n1⟩:=ip w o h1 (dp c (0+len*e) xs oM);rw[e1];simp only[Option.map_some];rw[Nat.zero_add,hx,←Nat.add_mul]at o1;exact(bY _ _ _).2 (k h' o1 f1 n1)
theorem wU{h:Heap}:∀{E:List Ent},(∀e∈E,ItmH h e.x)→au (E.flatMap Ent.cells)=true
 |[],_=>rfl
 |e::E,a=>by rw[List.flatMap_cons,aN,gG (a e iS),wU fun x m=>a x iX];rfl
theorem AQ{h:Heap}{vE vI:V}{E A:List Ent}{p q:Nat}(w:WF h)(re:Recs Ent.cells 6 h vE E)(ra:Recs Ent.cells 6 h vI A)(hv:vE≠.sliceE)(oE:au (E.flatMap Ent.cells)=true)(oA:au (A.flatMap Ent.cells)=true)(hp:p+q≤E.length)(hE:E.length≤4096)(hA:A.length≤4096):
 ao go 107 [vE,.int .i64 (p:Int),.int .i64 (q:Int),vI] h fun u h'=>u=.slice h.next 0 (E.length-q+A.length) (E.length-q+A.length)∧Own h' h.next ((E.take p++A++E.drop (p+q)).flatMap Ent.cells)∧Fr [] h h':=by
 let⟨u1,e1,s1⟩:=Sl.upto re oM hv .i64 (p:Int) oM oM;rw[Int.toNat_natCast,nC aM]at s1;have ln:((E.length:Int)-q)+A.length=((E.length-q+A.length:Nat):Int):=oM;refine ac ?_;simp(disch:=omega) only[evs,seval,ab,re.len,ra.len,ln];refine(bX _ _ _ _ _ _ _ _ oM oM oM oM).2 ?_;simp only[Int.toNat_natCast,(iR:(0:Int).toNat=0)];generalize hN:E.length-q+A.length=N;let⟨h1,e_h1,F1,o1⟩:=aj w (bq [.int .u64 0,.int .u8 0,.str [],.nils,.int .i64 0,.bool false] N);rw[←e_h1];have n1:=hnx e_h1;clear e_h1;simp only[evs,seval,e1];refine u9 F1.wf o1 (fP _ _) (Sl.a (s1.fr F1)) (by rw[←nC aM];exact xU _ oE) oM ?_;intro h2 o2 F2 n2;have F02:Fr [] h h2:=Fr.new w F1 F2 iS;rw[Nat.zero_add,Nat.zero_mul,List.take_zero,List.nil_append]at o2;have l1:((E.take p).flatMap Ent.cells).length=p*6:=by rw[aC aM];simp;omega
 simp only[evs,seval];have hc2:((E.take p).flatMap Ent.cells++(bq [V.int .u64 0,.int .u8 0,.str [],.nils,.int .i64 0,.bool false] N).drop (p*6)).length=N*6:=by rw[List.length_append,l1,List.length_drop,fP];simp;omega
 apply u9 F2.wf o2 hc2 (Sl.a (Sl.fr ra F02)) oA oM;intro h3 o3 F3 n3;have F03:Fr [] h h3:=Fr.new w F02 F3 iS;have l2:(A.flatMap Ent.cells).length=A.length*6:=aC aM _;have eq3:((E.take p).flatMap Ent.cells++(bq [V.int .u64 0,.int .u8 0,.str [],.nils,.int .i64 0,.bool false] N).drop (p*6)).take (p*6)=(E.take p).flatMap Ent.cells:=List.take_left' l1;rw[eq3]at o3;let⟨u3,e3,s3⟩:=Sl.from' (re.fr F03) oM hv .i64 ((p+q:Nat):Int) oM oM;rw[Int.toNat_natCast,eg aM]at s3;simp(disch:=omega) only[evs,seval,ab,(oM:(p:Int)+q=((p+q:Nat):Int)),e3];generalize hd:((E.take p).flatMap Ent.cells++(bq [V.int .u64 0,.int .u8 0,.str [],.nils,.int .i64 0,.bool false] N).drop (p*6)).drop ((p+A.length) *6)=R at o3;have hR:R.length=N*6-(p+A.length) *6:=by grind
 refine u9 F3.wf o3 (by rw[List.length_append,List.length_append,l1,l2,hR];omega) (Sl.a s3) (by rw[←eg aM];exact kW _ oE) oM ?_;intro h4 o4 F4 n4;simp only[evs,seval];have lA:((E.take p).flatMap Ent.cells++A.flatMap Ent.cells).length=(p+A.length) *6:=by grind
 have hz:((E.take p).flatMap Ent.cells++A.flatMap Ent.cells++R).drop ((p+A.length+(E.length-(p+q))) *6)=[]:=List.drop_of_length_le (by rw[List.length_append,lA,hR];omega);rw[List.take_left' lA,hz,List.append_nil,←List.flatMap_append,←List.flatMap_append]at o4;exact⟨by rw[(oM:p+A.length+(E.length-(p+q))=N)],o4,Fr.new w F03 F4 iS⟩
theorem Dq{h:Heap}{vK v:V}{Ks:List Knd}{Y:List Itm}(w:WF h)(rk:Recs Knd.cells 9 h vK Ks)(ra:ARecs Itm.cells 4 h v Y)(hY:∀y∈Y,ItmH h y∧y.type<Ks.length)(hn:Y.length≤4096):
 ao go 155 [.agg [vK,.int .i64 12],v] h fun u h'=>∃b,u=.slice b 0 Y.length Y.length∧h.next≤b∧Own h' b ((dC Ks Y).flatMap Ent.cells)∧Fr [] h h':=by
 have v1:vK.one=true:=Sl.one rk;let⟨h1,e_h1,F_h1,o_h1⟩:=aj w [vK,.int .i64 12];have n1:=hnx e_h1;refine ac ?_;simp only[evs,seval,←e_h1,(ra.fr F_h1).len];refine(bX _ _ _ _ _ _ _ _ oM oM oM oM).2 ?_;simp only[Int.toNat_natCast];let⟨h2,e_h2,F2,o2⟩:=aj F_h1.wf (bq [.int .u64 0,.int .u8 0,.str [],.nils,.int .i64 0,.bool false] Y.length);rw[←e_h2];have n2:=hnx e_h2;clear e_h2;have F02:=F_h1.then F2;simp only[evs,seval,(ra.fr F_h1).len];refine az (fun n env hh=>Fr [h1.next] h2 hh∧∃i:Nat,env.get 13=some (.int .i64 i)∧env.get 12=some (.int .i64 Y.length)∧env.get 11=some v∧env.get 5=some (.slice h1.next 0 Y.length Y.length)∧env.get 2=some (.ptr h.next 0)∧
  i≤Y.length∧Own hh h1.next ((dC Ks (Y.take i)).flatMap Ent.cells++bq E0 (Y.length-i))∧n=Y.length-i) Y.length oM ?_ ?_
 exact⟨Fr.refl F2.wf,0,iS,iS,iS,iS,iS,oM,o2,rfl⟩;rintro n env hh ⟨F,i,g13,g12,g11,g5,g2,hi,oo,rfl⟩;have F0:Fr [] h hh:=Fr.new w F02 F oO;have nF:=F.next;by_cases c:i<Y.length;let⟨bi,oi,y,p1,_,p3,p4⟩:=(ra.fr F0).ix iM .i64 (i:Int) oM oM;rw[Int.toNat_natCast]at p4;let⟨ay,ty⟩:=hY y (List.mem_of_getElem? p4);have ay:=ay.fr F0;let⟨h3,e_h3,F_h3,o_h3⟩:=aj F.wf [.int .u64 0,.int .u8 0,.str [],.nils];simp only[evs,seval,g13,g12,g11,(oM:(i:Int)<Y.length),p1,p3,←e_h3];refine ah (c':=y.cells) F_h3.wf o_h3 rfl ay.one rfl ?_;rintro h4 o4 F4 n4;have F04:Fr [] hh h4:=F_h3.fresh F4 F.wf (Nat.le_refl _);have F0h:=F0.then F04;have y4:ai h4 hh.next 0 4=some y.cells:=by rw[o4.ld];rfl
 have y1:ag h4 hh.next 1=some (.int .u8 (y.type:Int)):=o4.ld1 1;have k0:ag h4 h.next 0=some vK:=(F04.get (F.own _ _ oO (F2.get o_h1))).ld1 0;let⟨bk,ok',q,q1,q2,q3,q4⟩:=Recs.ix dW (Recs.fr rk F0h) .u8 (y.type:Int) oM oM;rw[Int.toNat_natCast]at q4;have q6:ag h4 bk (ok'+6)=some (.int .i64 q.base):=q2 6 oM;have eb:aW Ks y=q.base:=by simp[aW,q4]
 have px:aP (.ixs 6) [.slice h1.next 0 Y.length Y.length,.int .i64 (i:Int)]=some (.ptr h1.next (i*6)):=by rw[cL _ _ _ _ _ _ _ oM oM];simp
 have u1:aX [.int .u64 0,.int .u8 0,.str [],.nils,.int .i64 0,.bool false] 0 y.cells=some (y.cells++[.int .i64 0,.bool false]):=rfl;have u2:∀b:Int,aX (y.cells++[.int .i64 0,.bool false]) 4 [.int .i64 b]=some (Ent.cells ⟨y,b,false⟩):=fun _=>rfl;have yl:y.cells.length=4:=rfl;simp only[evs,seval,eff,g5,g2,y4,y1,k0,q1,q6,px,u1,u2,yl];refine ah (v:=.agg (Ent.cells ⟨y,q.base,false⟩)) F04.wf (F04.get oo) rfl (gG (ay.fr F04)) (wL (by simp[dC];omega) c) ?_;rintro h5 o5 F5 n5;simp(disch:=omega) only[evs,seval,DF,ab,g13,y4,y1,k0,q6];have et:dC Ks (Y.take (i+1))=dC Ks (Y.take i)++[⟨y,q.base,false⟩]:=by rw[dC,dC,List.take_add_one,p4,List.map_append,←eb];rfl
 refine rqn ⟨Y.length-(i+1),oM,Fr.trans (Fr.trans F F04 F2.wf (fun x m=>.inl m) iS) F5 F2.wf (fun x m=>.inl m) (fun x m=>.inl m),i+1,iS,iX,iX,iX,iX,oM,by rw[et];exact o5,rfl⟩;have e:i=Y.length:=oM;subst e;simp only[evs,seval,g13,g12,g5,(oM:¬(Y.length:Int)<Y.length)];have z0:bq E0 (Y.length-Y.length)=[]:=by rw[Nat.sub_self];rfl
 rw[z0,List.append_nil,List.take_of_length_le (Nat.le_refl _)]at oo;exact⟨h1.next,rfl,oM,oo,F0⟩
theorem qG{h:Heap}{b n e:Nat}{c xs:List V}{x:V}{K:V→Heap→Prop}(w:WF h)(o:Own h b c)(hc:c.length=n*e)(a:ASl h e x n xs)(h1:au xs=true)
 (k:∀h',Own h' b xs→Fr [b] h h'→h'.next=h.next→K (.int .i64 (n:Int)) h'):OQ (tH h e (.slice b 0 n n) x) K:=by
 let⟨s1,s2,_⟩:=a.src rfl;have hx:=a.1;unfold tH OQ;have hd:iP (.slice b 0 n n)=some n:=rfl;simp only[hd,s1,Nat.min_def,Nat.le_refl,seval];by_cases c0:n=0;subst c0;have:xs=[]:=List.length_eq_zero_iff.1 oM;have:c=[]:=List.length_eq_zero_iff.1 oM;subst xs c;exact⟨_,_,rfl,k h o (Fr.refl w) rfl⟩;rw[ew c0];let⟨h',e1,o1,f1,n1⟩:=ip w o h1 (dp c 0 xs oM);refine⟨_,h',?_,k h' ?_ f1 n1⟩;grind;grind
theorem CJ:∀L:List Str,au (L.flatMap sS)=true
 |[]=>rfl
 |s::L=>by rw[List.flatMap_cons,aN,CJ L];rfl
theorem Dx{h:Heap}{v:V}{L:List Str}(w:WF h)(a:ARecs sS 1 h v L)(hn:L.length≤4096):ao go 209 [v] h fun u h'=>CpO h.next h' u L∧Fr [] h h':=by by_cases c:L.length=0;refine ac ?_;simp only[evs,seval,a.len,eq_true (oM:(L.length:Int)=0)];exact⟨.inl ⟨List.length_eq_zero_iff.1 c,.inl rfl⟩,Fr.refl w⟩;refine ac ?_;simp only[evs,seval,a.len,eq_false (oM:¬(L.length:Int)=0)];refine(bX _ _ _ _ _ _ _ _ oM oM oM oM).2 ?_;simp only[Int.toNat_natCast];let⟨h1,e_h1,F1,o1⟩:=aj w (bq [.str []] L.length);rw[←e_h1];clear e_h1;simp only[evs,seval];apply qG F1.wf o1 (fP _ _) (a.fr F1) (CJ L);intro h2 o2 F2 n2;simp only[evs,seval];exact⟨.inr ⟨h.next,rfl,Nat.le_refl _,o2⟩,Fr.new w F1 F2 iS⟩
theorem Bs{h:Heap}{b:Nat}{x:Itm}(w:WF h)(o:Own h b x.cells)(a:ItmH h x):ao go 208 [.slice b 0 1 1] h fun u h'=>u=.slice h.next 0 1 1∧Own h' h.next x.cells∧Fr [] h h':=by refine ac ?_;simp only[evs,↓reduceIte,Nat.reduceEqDiff];refine(bX _ _ _ _ _ _ _ _ oM oM oM dI).2 ?_;let⟨h1,e_h1,F1,o1⟩:=aj w (bq Z4 1);rw[(iR:((1:Nat):Int).toNat=1),←e_h1];clear e_h1;simp only[evs,↓reduceIte,Nat.reduceEqDiff];apply qG F1.wf o1 rfl (Sl.a (Sl.lit (F1.get o) rfl)) a.one;intro h2 o2 F2 n2;simp only[evs,↓reduceIte];exact⟨o2,Fr.new w F1 F2 iS⟩
theorem DQ{h:Heap}{b:Nat}{x:Itm}(w:WF h)(o:Own h b x.cells)(a:ItmH h x):ao go 186 [.slice b 0 1 1] h fun u h'=>∃b' v,u=.slice b' 0 1 1∧h.next≤b'∧Own h' b' (x.own v).cells∧CpO h.next h' v x.marks∧Fr [] h h':=by refine ac ?_;simp only[evs,seval];refine aa (Bs w o a) ?_;rintro _ h1 ⟨rfl,o1,F1⟩;have nlt:=o1.lt F1.wf;simp only[evs,seval];refine az (fun k env hh=>∃v,Fr [h.next] h1 hh∧env.get 8=some (.int .i64 1)∧env.get 3=some (.slice h.next 0 1 1)∧((env.get 9=some (.int .i64 0)∧k=1∧hh=h1)∨(env.get 9=some (.int .i64 1)∧k=0∧Own hh h.next (x.own v).cells∧CpO h.next hh v x.marks))) 1 oM ?_ ?_;exact⟨.nils,Fr.refl F1.wf,iS,iS,.inl ⟨iS,rfl,rfl⟩⟩;rintro k env hh ⟨v,F,g8,g3,⟨g9,rfl,rfl⟩|⟨g9,rfl,ow,cp⟩⟩;have px:aP (.ixs 4) [.slice h.next 0 1 1,.int .i64 0]=some (.ptr h.next 0):=rfl;have l3:ag hh h.next 3=some x.vm:=o1.ld1 3;simp only[evs,seval,g8,g3,g9,px,l3];apply aa (Dx F1.wf (a.m.fr F1) a.n);rintro v' h2 ⟨cp,F2⟩;simp only[evs,seval,g3,px];have n1:=F1.next;have c1:=cp.one;refine ah (c':=(x.own v').cells) F2.wf (F2.get o1) (by rw[aG c1];rfl) (by rw[aG c1];simp only[av,aF,c1];rfl) (by rw[aG c1];rfl) ?_;rintro h3 o3 F3 n3;simp(disch:=omega) only[evs,seval,ab,g9];have n2:=F2.next;have cp3:=cp.fr F3 oO;refine rqn ⟨0,oM,v',Fr.trans F2 F3 F1.wf iS (fun x m=>.inl m),iX,iX,.inr ⟨iS,rfl,o3,cp3.le oM⟩⟩;simp only[evs,seval,g8,g3,g9];exact⟨h.next,v,rfl,Nat.le_refl _,ow,cp,Fr.new w F1 F iS⟩
theorem IF{h:Heap}{v:V}{E:List Ent}(w:WF h)(re:Recs Ent.cells 6 h v E)(hE:∀e∈E,ItmH h e.x)(hn:E.length≤4096):
 ao go 154 [v] h fun u h'=>Fr [] h h'∧∃v' Z,u=.agg [v']∧LsO h.next h' v' Z∧Z.map Ent.val=E.map Ent.val∧∀z∈Z,ItmH h' z.x:=by
 let⟨h1,e_h1,F_h1,o_h1⟩:=aj w [.nils];have n1:=hnx e_h1;by_cases c0:E.length=0;refine ac ?_;simp only[evs,seval,←e_h1,re.len,eq_true (oM:(E.length:Int)=0)];refine ah (o:=0) (v:=.agg [.nils]) (c':=[.nils]) F_h1.wf o_h1 rfl rfl rfl ?_;rintro h2 o2 F2 n2;have l2:ai h2 h.next 0 1=some [.nils]:=by rw[o2.ld];rfl
 simp only[evs,seval,l2];have:E=[]:=List.length_eq_zero_iff.1 c0;subst this;exact⟨F_h1.fresh F2 w (Nat.le_refl _),.nils,[],rfl,.inl ⟨rfl,rfl⟩,rfl,iS⟩;refine ac ?_;simp only[evs,seval,←e_h1,re.len,eq_false (oM:¬(E.length:Int)=0)];refine(bX _ _ _ _ _ _ _ _ oM oM oM oM).2 ?_;simp only[Int.toNat_natCast];let⟨h2,e_h2,F2,o2⟩:=aj F_h1.wf (bq [.int .u64 0,.int .u8 0,.str [],.nils,.int .i64 0,.bool false] E.length);rw[←e_h2];have n2:=hnx e_h2;clear e_h2;have F02:=F_h1.then F2;simp only[evs,seval,re.len];refine az (fun k env hh=>Fr [h1.next] h2 hh∧∃(i:Nat)(Z:List Ent),env.get 15=some (.int .i64 i)∧env.get 14=some (.int .i64 E.length)∧env.get 13=some v∧env.get 3=some (.slice h1.next 0 E.length E.length)∧env.get 2=some (.ptr h.next 0)∧i≤E.length∧Z.length=i∧
  Own hh h1.next (Z.flatMap Ent.cells++bq E0 (E.length-i))∧Z.map Ent.val=(E.take i).map Ent.val∧(∀z∈Z,CpO h2.next hh z.x.vm z.x.marks∧∀H,CpO h2.next H z.x.vm z.x.marks→ItmH H z.x)∧k=E.length-i) E.length oM ?_ ?_
 exact⟨Fr.refl F2.wf,0,[],iS,iS,iS,iS,iS,oM,rfl,o2,rfl,iS,rfl⟩;rintro k env hh ⟨F,i,Z,g15,g14,g13,g3,g2,hi,zl,oo,zv,zi,rfl⟩;have nF:=F.next;have F0h:Fr [] h hh:=Fr.new w F02 F oO;have orr:Own hh h.next [.nils]:=F.own _ _ oO (F2.get o_h1);by_cases c:i<E.length;let⟨bi,oi,e,p1,_,p3,p4⟩:=(re.fr F0h).ix aM .i64 (i:Int) oM oM;rw[Int.toNat_natCast]at p4;have em:=List.mem_of_getElem? p4;have ae:=(hE e em).fr F0h;let⟨ha,e_ha,F_ha,o_ha⟩:=aj F.wf [.int .u64 0,.int .u8 0,.str [],.nils,.int .i64 0,.bool false];have na:=hnx e_ha;simp only[evs,seval,g15,g14,g13,(oM:(i:Int)<E.length),p1,p3,←e_ha];refine ah (c':=e.cells) F_ha.wf o_ha rfl (gG ae) rfl ?_;rintro hb ob Fb nb;have Fhb:Fr [] hh hb:=F_ha.fresh Fb F.wf (Nat.le_refl _);have b4:ai hb hh.next 0 4=some e.x.cells:=by rw[ob.ld];rfl
 have aeb:=ae.fr Fhb;have u1:aX [.int .u64 0,.int .u8 0,.str [],.nils] 0 e.x.cells=some e.x.cells:=rfl;let⟨hc,e_hc,F_hc,o_hc⟩:=aj Fb.wf e.x.cells;have nc:=hnx e_hc;simp only[evs,seval,b4,u1,(iR:e.x.cells.length=4),←e_hc];apply aa (DQ F_hc.wf o_hc (aeb.fr F_hc));rintro _ hd ⟨b',vy,rfl,hb',od,cp,Fd⟩;have px:aP (.ixs 4) [.slice b' 0 1 1,.int .i64 0]=some (.ptr b' 0):=rfl;have ld4:ai hd b' 0 4=some (e.x.own vy).cells:=by rw[od.ld];rfl
 have v1:=cp.one;have Fbd:=F_hc.then Fd;have nd:=Fd.next;have on:au (e.x.own vy).cells=true:=by rw[A4];simp only[av,aF,v1];rfl
 have yl:(e.x.own vy).cells.length=4:=rfl;have up:aX e.cells 0 (e.x.own vy).cells=some (Ent.cells ⟨e.x.own vy,e.b,e.kn⟩):=rfl;simp only[evs,seval,px,ld4];apply ah (v:=.agg (e.x.own vy).cells) (c':=Ent.cells ⟨e.x.own vy,e.b,e.kn⟩) Fd.wf (Fbd.get ob) yl on up;rintro he oe Fe ne;have l6:ai he hh.next 0 6=some (Ent.cells ⟨e.x.own vy,e.b,e.kn⟩):=by rw[oe.ld];rfl
 have py:aP (.ixs 6) [.slice h1.next 0 E.length E.length,.int .i64 (i:Int)]=some (.ptr h1.next (i*6)):=by rw[cL _ _ _ _ _ _ _ oM oM];simp
 have Fhe:Fr [] hh he:=(Fhb.then Fbd).fresh Fe F.wf (Nat.le_refl _);have one:au (Ent.cells ⟨e.x.own vy,e.b,e.kn⟩)=true:=by show au [.int .u64 (e.x.key:Int),.int .u8 (e.x.type:Int),.str e.x.text,vy,.int .i64 _,.bool _]=true;simp only[av,aF,v1];rfl
 simp only[evs,seval,g3,l6,py];apply ah (v:=.agg (Ent.cells ⟨e.x.own vy,e.b,e.kn⟩)) Fe.wf (Fhe.get oo) rfl one (wL zl c);rintro hf of' Ff nf;have nhe:=Fhe.next;have nhb:=Fhb.next;have FN:Fr [h1.next] h2 hf:=Fr.trans (Fr.trans (T:=[h1.next]) F Fhe F2.wf (fun x m=>.inl m) iS) Ff F2.wf (fun x m=>.inl m) (fun x m=>.inl m);have stz:∀z∈Z++[(⟨e.x.own vy,e.b,e.kn⟩:Ent)],CpO h2.next hf z.x.vm z.x.marks∧∀H,CpO h2.next H z.x.vm z.x.marks→ItmH H z.x:=by intro z m;obtain m|m:=List.mem_append.1 m;let⟨c1,c2⟩:=zi z m;exact⟨(c1.fr Fhe iS).fr Ff oO,c2⟩;rw[List.mem_singleton.1 m];exact⟨((cp.fr Fe oO).le (M:=h2.next) oM).fr Ff oO,fun H c=>⟨ae.k,ae.t,Sl.a c.rs,ae.n,ae.l⟩⟩
 simp(disch:=omega) only[evs,seval,ab,g15];refine rqn ⟨E.length-(i+1),oM,FN,i+1,Z++[⟨e.x.own vy,e.b,e.kn⟩],iS,iX,iX,iX,iX,oM,by simp[zl],of',?_,stz,rfl⟩;rw[List.take_add_one,p4,List.map_append,List.map_append,zv];rfl;have e:i=E.length:=oM;subst e;rw[List.take_of_length_le oM]at zv;have z0:bq E0 (E.length-E.length)=[]:=by rw[Nat.sub_self];rfl
 rw[z0,List.append_nil]at oo;simp only[evs,seval,g15,g14,g3,g2,(oM:¬(E.length:Int)<E.length)];apply ah (o:=0) (v:=.agg [.slice h1.next 0 E.length E.length]) (c':=[.slice h1.next 0 E.length E.length]) F.wf orr rfl rfl rfl;rintro hz oz Fz nz;have lz:ai hz h.next 0 1=some [.slice h1.next 0 E.length E.length]:=by rw[oz.ld];rfl
 simp only[evs,seval,lz,g2];have ooz:=Fz.own _ _ oO oo;have cz:∀z∈Z,CpO h2.next hz z.x.vm z.x.marks:=fun z m=>(zi z m).1.fr Fz oO;exact⟨F0h.fresh Fz w (Nat.le_refl _),_,Z,rfl,.inr ⟨h1.next,by rw[zl],oM,ooz,fun z m=>(cz z m).le oM⟩,zv,fun z m=>(zi z m).2 hz (cz z m)⟩
def lpE(Ks:List Knd)(KE:Nat→Itm→Int):Nat→List Itm→Int
 |_,[]=>0
 |i,y::r=>if okI y Ks.length=false then 6 else if KE i y≠0 then KE i y else if dT Ks 12 y≠0 then dT Ks 12 y else lpE Ks KE (i+1) r
structure DB(h0:Heap)(Ks:List Knd)(vK vE:V)(E:List Ent):Prop where
 w:WF h0
 rk:Recs Knd.cells 9 h0 vK Ks
 kh:∀q∈Ks,KndH h0 q
 re:Recs Ent.cells 6 h0 vE E
 o:LOk Ks h0 E
theorem FrB.fresh'{m q:Nat}{h hx hz:Heap}(w:WF h)(a:FrB [] m h hx)(b:Fr [q] hx hz)(hq:h.next≤q):FrB [] m h hz:=
 ⟨Nat.le_trans a.next b.next,b.wf,fun x c _ o=>b.own x c (fun e=>by have:=o.lt w;have:=List.mem_singleton.1 e;omega) (a.own x c iS o),fun x c _ o=>b.pl x c (fun e=>by have:=o.own.lt w;have:=List.mem_singleton.1 e;omega) (a.pl x c iS o),
  fun x k hx' hk e=>b.lp x k hk (a.lp x k hx' hk e),fun x c r=>b.ro x c (a.ro x c r)⟩
theorem zQ{Ks:List Knd}{KE:Nat→Itm→Int}:∀{Y:List Itm}{i:Nat},lpE Ks KE i Y=0→∀{y},y∈Y→y.type<Ks.length
 |y::Y,i,h,z,m=>by
  simp only[lpE]at h;split at h;cases h;rename_i d1;obtain rfl|m:=List.mem_cons.1 m;have d1:okI z Ks.length=true:=by cases q:okI z Ks.length;exact absurd q d1;rfl
  simp only[okI,Bool.and_eq_true,decide_eq_true_eq]at d1;exact d1.2.1;split at h;omega;split at h;omega;exact zQ h m
 |[],_,_,_,m=>by simp at m
theorem LsO.keep{N:Nat}{h h':Heap}{v:V}{Z:List Ent}{S:List Nat}(a:LsO N h v Z)(f:Fr S h h')(l:∀y∈S,y<N):LsO N h' v Z:=by obtain e|⟨b,e,hb,o,c⟩:=a;exact .inl e;exact .inr ⟨b,e,hb,f.own _ _ (fun m=>by have:=l b m;omega) o,fun z m=>(c z m).fr f fun y q=>by have:=l y q;omega⟩
theorem LsO.le{N M:Nat}{h:Heap}{v:V}{Z:List Ent}(a:LsO N h v Z)(l:M≤N):LsO M h v Z:=by obtain e|⟨b,e,hb,o,c⟩:=a;exact .inl e;exact .inr ⟨b,e,Nat.le_trans l hb,o,c⟩
theorem LsO.itm{N:Nat}{h h9:Heap}{v:V}{Z:List Ent}(a:LsO N h v Z)(i:∀z∈Z,ItmH h9 z.x):∀z∈Z,ItmH h z.x:=by intro z m;obtain⟨e,_⟩|⟨b,e,hb,o,c⟩:=a;grind;have iz:=i z m;exact⟨iz.k,iz.t,Sl.a (c z m).rs,iz.n,iz.l⟩
theorem Ko{h0 h:Heap}{Ks:List Knd}{vK vE vI fk fm:V}{E E':List Ent}{Y:List Itm}{ins:Bool}{cnt:Int}{m gk gm:Nat}{ck cm:List V}{KI:Nat→Heap→Prop}{KE:Nat→Itm→Int}(d:DB h0 Ks vK vE E)(f0:Fr [] h0 h)(hm:h0.next≤m)
 (ra:ARecs Itm.cells 4 h0 vI Y) (hY:∀y∈Y,ItmH h0 y) (hYl:Y.length≤4096) (hc:0≤cnt∧cnt≤1024)
 (ek:Y≠[]→fk=.func (.func gk) [] ck) (fk1:fk.one=true) (em:fm=.func (.func gm) [] cm) (bk:gk<1099511627776) (bm:gm<1099511627776)
 (kf:∀i hh h',KI i hh→Fr [] hh h'→KI i h') (ki:KI 0 h)
 (hK:∀(i:Nat) y hh,ins=true→Y[i]? =some y→KI i hh→Fr [] h0 hh→FrB [] m h hh→okI y Ks.length=true→ao go gk (.int .i64 (i:Int)::.agg y.cells::ck) hh fun u h'=>u=.int .i64 (KE i y)∧FrB [] m hh h'∧(KE i y=0→KI (i+1) h'))
 (hM:∀hh v,ins=true→lpE Ks KE 0 Y=0→Fr [] h0 hh→FrB [] m h hh→Recs Ent.cells 6 hh v (dC Ks Y)→ao go gm (v::cm) hh fun u h'=>Recs Ent.cells 6 h' u E'∧Fr [] hh h')
 (hE:ins=true→lpE Ks KE 0 Y=0→LV Ks E'∧E'.length≤1000∧∀e∈E',e∈E∨e∈dC Ks Y):
 ao go 104 [.agg [vK,.int .i64 12],.agg [vE],.agg [.bool ins,.int .i64 cnt,vI,fk,fm]] h fun u h'=>FrB [] m h h'∧∃v',u=.tup [.agg [v'],.int .i64 (if ins=true then lpE Ks KE 0 Y else 4)]∧
  ((if ins=true then lpE Ks KE 0 Y else 4)≠0→v'=.nils)∧((if ins=true then lpE Ks KE 0 Y else 4)=0→∃Z,LsO h.next h' v' Z∧Z.map Ent.val=E'.map Ent.val∧∀z∈Z,ItmH h' z.x):=by
 have v1:vK.one=true:=Sl.one d.rk;have v2:vE.one=true:=Sl.one d.re;have v3:vI.one=true:=ASl.one ra;have v5:fm.one=true:=by rw[em];rfl
 have w:=f0.wf;have k3:=d.o.r.2.1;let⟨h1,e_h1,F_h1,o_h1⟩:=aj w [vK,.int .i64 12];let⟨h2,e_h2,F_h2,o_h2⟩:=aj F_h1.wf [vE];let⟨h3,e_h3,F_h3,o_h3⟩:=aj F_h2.wf [.bool ins,.int .i64 cnt,vI,fk,fm];let⟨h4,e_h4,F_h4,o_h4⟩:=aj F_h3.wf [.nils];have n1:=hnx e_h1;have n2:=hnx e_h2;have n3:=hnx e_h3;have n4:=hnx e_h4;have F4:=F_h1.then (F_h2.then (F_h3.then F_h4));have F04:=f0.then F4;have oK:Own h4 h.next [vK,.int .i64 12]:=F_h4.get (F_h3.get (F_h2.get o_h1));have oE:Own h4 h1.next [vE]:=F_h4.get (F_h3.get o_h2);have oN:Own h4 h2.next [.bool ins,.int .i64 cnt,vI,fk,fm]:=F_h4.get o_h3;have c0:ai h4 h.next 0 2=some [vK,.int .i64 12]:=by rw[oK.ld];rfl
 have c1:ai h4 h1.next 0 1=some [vE]:=by rw[oE.ld];rfl
 refine ac ?_;simp only[evs,↓reduceIte,Nat.reduceEqDiff,Nat.reduceAdd,←e_h1,←e_h2,←e_h3,←e_h4,c0,c1];refine aa (nw F4.wf (Recs.fr d.rk F04) (fun q m=>(d.kh q m).fr F04) (d.re.fr F04) (d.o.fr F04)) ?_;rintro _ h5 ⟨rfl,F5⟩;have oN5:=F5.get oN;have x0:ag h5 h2.next 0=some (.bool ins):=oN5.ld1 0;have x1:ag h5 h2.next 1=some (.int .i64 cnt):=oN5.ld1 1;have x2:ag h5 h2.next 2=some vI:=oN5.ld1 2;have or5:=F5.get o_h4;have F45:=F4.then F5;have n5:=F5.next;cases ins with
 |false=>
  simp only[evs,↓reduceIte,Nat.reduceEqDiff,x0];apply ah (o:=0) (v:=.agg [.nils]) (c':=[.nils]) F5.wf or5 rfl rfl rfl;rintro h6 o6 F6 n6;have l6:ai h6 h3.next 0 1=some [.nils]:=by rw[o6.ld];rfl
  simp only[evs,↓reduceIte,Nat.reduceEqDiff,l6];exact⟨(F45.fresh F6 w oM).b iS,.nils,rfl,fun _=>rfl,fun e=>absurd e dI⟩
 |true=>
  simp only[↓reduceIte];simp only[evs,↓reduceIte,Nat.reduceEqDiff,x0,x1,x2,(oM:¬(1024:Int)<cnt),(ra.fr (F04.then F5)).len];refine az (fun n env hh=>FrB [] m h5 hh∧∃i:Nat,env.get 34=some (.int .i64 i)∧env.get 33=some (.int .i64 Y.length)∧env.get 32=some vI∧env.get 3=some (.ptr h.next 0)∧env.get 5=some (.ptr h2.next 0)∧env.get 6=some (.ptr h3.next 0)∧
   i≤Y.length∧KI i hh∧lpE Ks KE i (Y.drop i)=lpE Ks KE 0 Y∧n=Y.length-i) Y.length oM ?_ ?_
  exact⟨Fr.b (S':=[]) (Fr.refl F5.wf) iS,0,iS,iS,iS,iS,iS,iS,oM,kf _ _ _ ki F45,rfl,rfl⟩;rintro n env hh ⟨F,i,g34,g33,g32,g3,g5,g6,hi,kI,e,rfl⟩;have nF:=F.next;have F0:Fr [] h0 hh:=FrB.fr d.w (F04.then F5) F iS hm;have Fh:FrB [] m h hh:=(F45.b iS).trans F;have oKh:=F.own _ _ iS (F5.get oK);have oNh:=F.own _ _ iS oN5;have orh:=F.own _ _ iS or5;by_cases hlt:i<Y.length;let⟨bi,oi,y,p1,_,p3,p4⟩:=(ra.fr F0).ix iM .i64 (i:Int) oM oM;rw[Int.toNat_natCast]at p4;have ym:=List.mem_of_getElem? p4;have fke:=ek (List.ne_nil_of_mem ym);have ay:=(hY y ym).fr F0;rw[aK p4]at e;simp only[lpE]at e;let⟨ha,e_ha,F_ha,o_ha⟩:=aj F.wf [.int .u64 0,.int .u8 0,.str [],.nils];simp only[evs,↓reduceIte,Nat.reduceEqDiff,g34,g33,g32,(oM:(i:Int)<Y.length),p1,p3,←e_ha];refine ah (c':=y.cells) F_ha.wf o_ha rfl ay.one rfl ?_;rintro hb ob Fb nb;have Fhb:Fr [] hh hb:=F_ha.fresh Fb F.wf (Nat.le_refl _);have y4:ai hb hh.next 0 4=some y.cells:=by rw[ob.ld];rfl
  have kb:ag hb h.next 0=some vK:=(Fhb.get oKh).ld1 0;simp only[evs,↓reduceIte,Nat.reduceEqDiff,g3,y4,kb,(Recs.len (Recs.fr d.rk (F0.then Fhb)))];apply aa (xi Fhb.wf (ay.fr Fhb) oM);rintro _ hc1 ⟨rfl,Fc⟩;have Fhc:=Fhb.then Fc;have oy:=Fc.get ob;have y4c:ai hc1 hh.next 0 4=some y.cells:=by rw[oy.ld];rfl
  have fkc:ag hc1 h2.next 3=some fk:=(Fhc.get oNh).ld1 3;cases d1:okI y Ks.length;rw[d1,if_pos rfl]at e;simp(disch:=omega) only[evs,↓reduceIte,Nat.reduceEqDiff,ab,g34,g3,g5,g6];apply ah (o:=0) (v:=.agg [.nils]) (c':=[.nils]) Fc.wf (Fhc.get orh) rfl rfl rfl;rintro hz oz Fz nz;have lz:ai hz h3.next 0 1=some [.nils]:=by rw[oz.ld];rfl
  simp only[evs,↓reduceIte,Nat.reduceEqDiff,g6,lz];rw[←e];exact⟨FrB.fresh' w (Fh.trans (Fhc.b iS)) Fz oM,.nils,rfl,fun _=>rfl,fun e=>absurd e dI⟩;rw[d1,if_neg iS]at e;have ht:y.type<Ks.length:=by simp only[okI,Bool.and_eq_true,decide_eq_true_eq]at d1;exact d1.2.1
  have F0c:=F0.then Fhc;have Fhcb:FrB [] m h hc1:=Fh.trans (Fhc.b iS);simp only[evs,↓reduceIte,Nat.reduceEqDiff,g5,fkc,fke,y4c,bk];apply aa (hK i y hc1 rfl p4 (kf _ _ _ kI Fhc) F0c Fhcb d1);rintro _ hd ⟨rfl,Fd,kI'⟩;have oyd:=Fd.own _ _ iS oy;have y4d:ai hd hh.next 0 4=some y.cells:=by rw[oyd.ld];rfl
  have F5d:FrB [] m h5 hd:=(F.trans (Fhc.b iS)).trans Fd;have F0d:Fr [] h0 hd:=FrB.fr d.w (F04.then F5) F5d iS hm;have oKd:=F5d.own _ _ iS (F5.get oK);have ord:=F5d.own _ _ iS or5;have k2:ai hd h.next 0 2=some [vK,.int .i64 12]:=by rw[oKd.ld];rfl
  by_cases c2:KE i y=0;rw[if_neg iX]at e;simp only[evs,↓reduceIte,Nat.reduceEqDiff,g3,eq_true c2,k2,y4d];apply aa (qk Fd.wf (Recs.fr d.rk F0d) (fun q m=>(d.kh q m).fr F0d) ((hY y ym).fr F0d) ht);rintro _ he ⟨cs,rfl,Fe,on,cl,_⟩;by_cases c3:dT Ks 12 y=0;rw[if_neg iX]at e;simp(disch:=omega) only[evs,↓reduceIte,Nat.reduceEqDiff,ab,g34,c3];refine rqn ⟨Y.length-(i+1),oM,F5d.trans (Fe.b iS),i+1,iS,iX,iX,iX,iX,iX,oM,kf _ _ _ (kI' c2) Fe,e,rfl⟩;rw[if_pos c3]at e;simp only[evs,↓reduceIte,Nat.reduceEqDiff,g6,eq_false c3];apply ah (o:=0) (v:=.agg [.nils]) (c':=[.nils]) Fe.wf (Fe.get ord) rfl rfl rfl;rintro hz oz Fz nz;have lz:ai hz h3.next 0 1=some [.nils]:=by rw[oz.ld];rfl
  simp only[evs,↓reduceIte,Nat.reduceEqDiff,g6,lz];rw[←e];exact⟨FrB.fresh' w (((F45.b iS).trans F5d).trans (Fe.b iS)) Fz oM,.nils,rfl,fun _=>rfl,fun e=>absurd e c3⟩;rw[if_pos c2]at e;simp only[evs,↓reduceIte,Nat.reduceEqDiff,g6,eq_false c2];apply ah (o:=0) (v:=.agg [.nils]) (c':=[.nils]) Fd.wf ord rfl rfl rfl;rintro hz oz Fz nz;have lz:ai hz h3.next 0 1=some [.nils]:=by rw[oz.ld];rfl
  simp only[evs,↓reduceIte,Nat.reduceEqDiff,g6,lz];rw[←e];exact⟨FrB.fresh' w ((F45.b iS).trans F5d) Fz oM,.nils,rfl,fun _=>rfl,fun e=>absurd e c2⟩;have ei:i=Y.length:=oM;subst ei;rw[List.drop_length]at e;simp only[lpE]at e;let⟨lv,ll,sub⟩:=hE rfl e.symm;rw[←e];simp only[evs,↓reduceIte,g34,g33,(oM:¬(Y.length:Int)<Y.length)];apply Au [⟨none,.p (.faddr 4) [.v 5],none⟩,⟨none,.ld 1 false (.l 0),none⟩,⟨none,.ld 2 true (.v 3),none⟩,⟨none,.p (.faddr 2) [.v 5],none⟩,⟨none,.ld 1 false (.l 0),none⟩,⟨none,.cf 155 [.l 2,.l 0],none⟩,⟨none,.cv (.l 4) [.l 0],none⟩,⟨none,.cf 154 [.l 0],none⟩] _ rfl;have F6:=Fr.halloc F.wf [.nils];have o6:=Own.new F.wf [.nils];have nx6:(halloc hh [.nils]).next=hh.next+1:=rfl;generalize halloc hh [.nils]=h6 at F6 o6 nx6⊢;have f4:ag h6 h2.next 4=some fm:=(F6.get oNh).ld1 4;have f2:ag h6 h2.next 2=some vI:=(F6.get oNh).ld1 2;have k2:ai h6 h.next 0 2=some [vK,.int .i64 12]:=by rw[(F6.get oKh).ld];rfl
  have F06:=F0.then F6;have okY:∀y∈Y,y.type<Ks.length:=by intro y ym;exact zQ (e.symm) ym
  simp only[evs,↓reduceIte,Nat.reduceEqDiff,eff,g3,g5,f4,f2,k2,em];apply aa (Dq F6.wf (Recs.fr d.rk F06) (ra.fr F06) (fun y ym=>⟨(hY y ym).fr F06,okY y ym⟩) hYl);rintro _ h7 ⟨bf,rfl,hbf,of',F7⟩;have f47:ag h7 h2.next 4=some fm:=(F7.get (F6.get oNh)).ld1 4;have rf:Recs Ent.cells 6 h7 (.slice bf 0 Y.length Y.length) (dC Ks Y):=by have:=Sl.lit (esz:=6) of' (aC aM (dC Ks Y));rw[zV]at this;unfold Recs;rw[zV];exact this
  have F67:=F6.then F7;simp only[evs,eff,bm];apply aa (hM h7 _ rfl e.symm (F0.then F67) (Fh.trans (F67.b iS)) rf);rintro vM h8 ⟨rM,F8⟩;have F08:=(F0.then F67).then F8;have iE:∀x∈E',ItmH h8 x.x:=by intro x xm;obtain q|q:=sub x xm;exact(d.o.h x q).1.fr F08;obtain⟨y,ym,rfl⟩:=List.mem_map.1 q;exact(hY y ym).fr F08
  simp only[evs,eff];apply aa (IF F8.wf rM iE oM);rintro _ h9 ⟨F9,v',Z,rfl,lo,zv,iz⟩;have zl:Z.length=E'.length:=by have:=congrArg List.length zv;simpa using this
  have v1':v'.one=true:=Sl.one lo.rs;have F69:=F7.then (F8.then F9);have n9:=F69.next;have n8:=F8.next;have n7:=F7.next;simp only[evs,eff,gK,pq];refine ah (o:=0) (v:=.agg [v']) (c':=[v']) F9.wf (F69.get o6) rfl (by show au [_]=true;simp only[av,aF,v1'];rfl) rfl ?_;rintro ha oa Fa na;have la:ai ha hh.next 0 1=some [v']:=by rw[oa.ld];rfl
  have lo':=lo.keep Fa oO;have iz':=lo'.itm iz;have zb:Z.map Ent.b=E'.map Ent.b:=by have:=congrArg (List.map fun p=>p.2.1) zv;rw[List.map_map,List.map_map]at this;exact this
  have i40:=lv.in40 d.o.r;have sm:=jo i40;have okz:okZ Z:=by intro z zm;have:z.b∈Z.map Ent.b:=List.mem_map.2 ⟨z,zm,rfl⟩;rw[zb]at this;have:=i40 _ this;omega
  simp only[evs,↓reduceIte,Nat.reduceEqDiff,Nat.reduceAdd,DF,Nat.reduceSub,g3,f4,f47,f2,k2,em,la];refine aa (sP Fa.wf lo'.rs iz' oM okz (by rw[zb];simp at sm;omega)) ?_;rintro _ hb ⟨rfl,Fb⟩;have lb:ai hb hh.next 0 1=some [v']:=by rw[(Fb.get oa).ld];rfl
  have nb:=Fb.next;have F6b:Fr [hh.next] h6 hb:=Fr.trans (Fr.trans F69 Fa F6.wf iS (fun x m=>.inl m)) Fb F6.wf (fun x m=>.inl m) iS;simp only[evs,↓reduceIte,Nat.reduceEqDiff,g6,lb];refine ah (o:=0) (v:=.agg [v']) (c':=[v']) Fb.wf (F6b.own _ _ oO (F6.get orh)) rfl (by show au [_]=true;simp only[av,aF,v1'];rfl) rfl ?_;rintro hz oz Fz nz;have lz:ai hz h3.next 0 1=some [v']:=by rw[oz.ld];rfl
  simp only[evs,↓reduceIte,Nat.reduceEqDiff,g6,lz];have lz':=(lo'.keep Fb iS).keep Fz oO;have fA:FrB [] m h ha:=FrB.fresh' w ((Fh.trans (F6.b iS)).trans (F69.b iS)) Fa oM;have fB:FrB [] m h hz:=FrB.fresh' w (fA.trans (Fb.b iS)) Fz oM;exact⟨fB,v',rfl,fun x=>absurd rfl x,fun _=>⟨Z,lz'.le oM,zv,lz'.itm iz⟩⟩
def Res(h h':Heap)(u:V)(err:Int)(E':List Ent):Prop:=Fr [] h h'∧∃v',u=.tup [.agg [v'],.int .i64 err]∧v'≠.sliceE∧v'.one=true∧(err≠0→v'=.nils)∧(err=0→∃Z,LsO h.next h' v' Z∧Z.map Ent.val=E'.map Ent.val∧∀z∈Z,ItmH h' z.x)
theorem LsO.nE{N:Nat}{h:Heap}{v:V}{Z:List Ent}(a:LsO N h v Z):v≠.sliceE:=by obtain⟨_,rfl⟩|⟨b,rfl,_⟩:=a<;>simp
theorem DB.fr{h0 h:Heap}{Ks:List Knd}{vK vE:V}{E:List Ent}(d:DB h0 Ks vK vE E)(f:Fr [] h0 h):DB h Ks vK vE E:=⟨f.wf,Recs.fr d.rk f,fun q m=>(d.kh q m).fr f,d.re.fr f,d.o.fr f⟩
theorem In{err:Int}{E':List Ent}{N:Nat}{h:Heap}{v':V}(q1:err≠0→v'=.nils)(q2:err=0→∃Z,LsO N h v' Z∧Z.map Ent.val=E'.map Ent.val∧∀z∈Z,ItmH h z.x):v'.one=true∧v'≠.sliceE:=by by_cases z:err=0;let⟨Z,lo,_⟩:=q2 z;exact⟨Sl.one lo.rs,lo.nE⟩;rw[q1 z];exact⟨rfl,iS⟩
theorem Ft{hh:Heap}{bE bA bC:Nat}{vE v:V}{E:List Ent}{p q:Nat}(w:WF hh)(oE:Own hh bE [vE])(oA:Own hh bA [.int .i64 (p:Int)])(oC:Own hh bC [.int .i64 (q:Int)])(re:Recs Ent.cells 6 hh vE E)(hv:vE≠.sliceE)(o1:au (E.flatMap Ent.cells)=true)(hp:p+q≤E.length)(hE:E.length≤2000):
 ao go 106 (v::[.ptr bE 0,.ptr bA 0,.ptr bC 0]) hh fun u h'=>Recs Ent.cells 6 h' u (jw E p q)∧Fr [] hh h':=by
 have l1:ag hh bE 0=some vE:=oE.ld1 0;have l2:ag hh bA 0=some (.int .i64 (p:Int)):=oA.ld1 0;have l3:ag hh bC 0=some (.int .i64 (q:Int)):=oC.ld1 0;refine ac ?_;simp only[evs,seval,l1,l2,l3];refine aa (AQ (A:=[]) w re Recs.nil hv o1 rfl hp oM iS) ?_;rintro _ h1 ⟨rfl,ow,F⟩;simp only[evs,seval];have er:E.take p++[]++E.drop (p+q)=jw E p q:=by rw[List.append_nil,jw,List.drop_drop]
 have lr:=Fs (X:=E) hp;rw[er]at ow;rw[←lr];exact⟨Sl.lit ow (aC aM _),F⟩
theorem Gh{h:Heap}{Ks:List Knd}{vK vE:V}{E:List Ent}{a c:Int}(d:DB h Ks vK vE E)(nE:vE≠.sliceE)(ha:i64 a)(hc:i64 c)(hl:E.length≤1000):
 ao go 61 [.agg [vK,.int .i64 12],.agg [vE],.int .i64 a,.int .i64 c] h fun u h'=>Res h h' u (if mD E.length a c then 4 else 0) (jw E a.toNat c.toNat):=by
 have w:=d.w;have v1:vK.one=true:=Sl.one d.rk;have v2:vE.one=true:=Sl.one d.re;let⟨h1,e_h1,F_h1,o_h1⟩:=aj w [vK,.int .i64 12];let⟨h2,e_h2,F_h2,o_h2⟩:=aj F_h1.wf [vE];let⟨h3,e_h3,F_h3,o_h3⟩:=aj F_h2.wf [.int .i64 a];let⟨h4,e_h4,F_h4,o_h4⟩:=aj F_h3.wf [.int .i64 c];let⟨h5,e_h5,F_h5,o_h5⟩:=aj F_h4.wf [.nils];have n1:=hnx e_h1;have n2:=hnx e_h2;have n3:=hnx e_h3;have n4:=hnx e_h4;have n5:=hnx e_h5;have F5:=F_h1.then (F_h2.then (F_h3.then (F_h4.then F_h5)));have oK:Own h5 h.next [vK,.int .i64 12]:=F_h5.get (F_h4.get (F_h3.get (F_h2.get o_h1)));have oE:Own h5 h1.next [vE]:=F_h5.get (F_h4.get (F_h3.get o_h2));have oA:Own h5 h2.next [.int .i64 a]:=F_h5.get (F_h4.get o_h3);have oC:Own h5 h3.next [.int .i64 c]:=F_h5.get o_h4;have c0:∀{H},Fr [] h5 H→ai H h.next 0 2=some [vK,.int .i64 12]:=fun f=>by rw[(f.get oK).ld];rfl
 have c1:∀{H},Fr [] h5 H→ai H h1.next 0 1=some [vE]:=fun f=>by rw[(f.get oE).ld];rfl
 have x2:ag h5 h1.next 0=some vE:=oE.ld1 0;have x3:ag h5 h2.next 0=some (.int .i64 a):=oA.ld1 0;have x4:ag h5 h3.next 0=some (.int .i64 c):=oC.ld1 0;have x0:=c0 (Fr.refl F5.wf);have x1:=c1 (Fr.refl F5.wf);have d5:=d.fr F5;refine ac ?_;simp only[evs,seval,eff,←e_h1,←e_h2,←e_h3,←e_h4,←e_h5,x0,x1,x2,x3,x4,d.re.len];refine aa (AJ (n:=E.length) ha hc oM) ?_;rintro _ _ ⟨rfl,rfl⟩;have en:(if mD E.length a c then(4:Int)else 0)=if decide (¬mD E.length a c)=true then lpE Ks (fun _ _=>0) 0 []else 4:=by by_cases z:mD E.length a c;grind;rw[if_neg z,if_pos (eV z)];rfl
 have io:=wU (E:=E) fun e m=>(d.o.h e m).1;simp only[evs,seval,eff];refine aa (Ko (h0:=h5) (m:=h5.next) (vI:=.nils) (Y:=[]) (gk:=0) (gm:=106) (ck:=[]) (cm:=[.ptr h1.next 0,.ptr h2.next 0,.ptr h3.next 0]) (KE:=fun _ _=>0) (KI:=fun _ _=>True) (E':=jw E a.toNat c.toNat)
  d5 (Fr.refl F5.wf) (Nat.le_refl _) ⟨rfl,rfl⟩ iS iS oM (fun x=>absurd rfl x) rfl rfl oM oM (fun _ _ _ _ _=>trivial) trivial
  (fun i y hh _ e=>by simp at e) ?_ ?_) ?_
 intro hh vf hi z f fB rf;have hi':=of_decide_eq_true hi;unfold mD at hi';obtain⟨p,rfl⟩:∃p:Nat,a=p:=⟨a.toNat,oM⟩;obtain⟨q,rfl⟩:∃q:Nat,c=q:=⟨c.toNat,oM⟩;rw[Int.toNat_natCast,Int.toNat_natCast];exact Ft f.wf (f.get oE) (f.get oA) (f.get oC) (d5.re.fr f) nE io oM oM;intro hi z;exact⟨d.o.lv.sub (pY _ _ _),Nat.le_trans (pY _ _ _).length_le hl,fun e m=>.inl (Cr m)⟩;rintro _ h6 ⟨F6,v',rfl,q1,q2⟩;rw[←en]at q1 q2⊢;have F56:Fr [] h5 h6:=FrB.fr F5.wf (Fr.refl F5.wf) F6 iS (Nat.le_refl _);let⟨v1',vE'⟩:=In q1 q2;have z0:=c0 F56;have z1:=c1 F56;simp only[evs,seval,eff];refine ah (o:=0) (v:=.agg [v']) (c':=[v']) F6.wf (F56.get o_h5) rfl (by show au [_]=true;simp only[av,aF,v1'];rfl) rfl ?_;rintro h7 o7 F7 n7;have l7:ai h7 h4.next 0 1=some [v']:=by rw[o7.ld];rfl
 simp only[evs,seval,DF,eff,x0,x1,x2,x3,x4,l7];have n56:=F56.next;refine⟨(F5.then F56).fresh F7 w oM,v',rfl,vE',v1',q1,fun z=>?_⟩;let⟨Z,lo,zv,iz⟩:=q2 z;have lo':=lo.keep F7 oO;exact⟨Z,lo'.le oM,zv,lo'.itm iz⟩
theorem uM{Ks:List Knd}{x y:Itm}(h:x.val=y.val):(∀n,okI x n=okI y n)∧aW Ks x=aW Ks y:=by let⟨k,t,tx,m,v⟩:=x;let⟨k',t',tx',m',v'⟩:=y;simp only[Itm.val,Prod.mk.injEq]at h;obtain⟨rfl,rfl,rfl,rfl⟩:=h;exact⟨fun _=>rfl,rfl⟩
theorem zj{Z E:List Ent}(e:Z.map Ent.val=E.map Ent.val):Z.length=E.length:=by have:=congrArg List.length e;simpa using this
theorem pI{Z E:List Ent}(e:Z.map Ent.val=E.map Ent.val):jD Z=jD E:=by have:=congrArg (List.map fun p=>p.1.1) e;rw[List.map_map,List.map_map]at this;exact this
theorem E5{Z E:List Ent}(e:Z.map Ent.val=E.map Ent.val):∀z∈Z,∃x∈E,x.x.val=z.x.val∧x.b=z.b∧x.kn=z.kn:=by intro z m;have:z.val∈E.map Ent.val:=e▸List.mem_map.2 ⟨z,m,rfl⟩;let⟨x,xm,h⟩:=List.mem_map.1 this;simp only[Ent.val,Prod.mk.injEq]at h;exact⟨x,xm,h⟩
theorem LV.val{Ks:List Knd}{Z E:List Ent}(o:LV Ks E)(e:Z.map Ent.val=E.map Ent.val):LV Ks Z:=by
 refine⟨fun z m=>?_,fun z m k=>?_,fun z m k=>?_,by rw[pI e];exact o.n⟩<;>let⟨x,xm,h1,h2,h3⟩:=E5 e z m
 have:=o.o x xm;rw[←Cp h1,←(uM (Ks:=Ks) h1).1];exact this;rw[←h2,←(uM (Ks:=Ks) h1).2];exact o.b x xm (h3.trans k);rw[←h2];exact o.c x xm (h3.trans k)
def NA(h:Heap)(v:V)(L:List Nt):Prop:=ARecs Nt.cells 5 h v L∧∀x∈L,(ARecs Itm.cells 4 h x.v x.n.Y∧∀y∈x.n.Y,ItmH h y)∧x.n.k<256∧i64 x.n.a∧i64 x.n.c∧i64 x.n.t
theorem NA.fr{h h':Heap}{v:V}{L:List Nt}(a:NA h v L)(f:Fr [] h h'):NA h' v L:=⟨a.1.fr f,fun x m=>⟨⟨(a.2 x m).1.1.fr f,fun y q=>((a.2 x m).1.2 y q).fr f⟩,(a.2 x m).2⟩⟩
theorem NA.one{h:Heap}{v:V}{L:List Nt}(a:NA h v L){x:Nt}(m:x∈L):au x.cells=true:=by have:=ASl.one (a.2 x m).1.1;show au [_,_,_,_,_]=true;simp only[av,aF,this];rfl
theorem Fr.lt{S:List Nat}{h h':Heap}(w:WF h)(f:Fr S h h'):Fr (S.filter fun z=>decide (z<h.next)) h h':=
 ⟨f.next,f.wf,fun x c hx o=>f.own x c (fun m=>hx (List.mem_filter.2 ⟨m,decide_eq_true (o.lt w)⟩)) o,fun x c hx o=>f.pl x c (fun m=>hx (List.mem_filter.2 ⟨m,decide_eq_true (o.own.lt w)⟩)) o,f.lp,f.ro⟩
def KL(a:Nat)(h:Heap)(v:V)(Z:List Ent):Prop:=∀S h',(∀z∈S,z<a∨h.next≤z)→Fr S h h'→Recs Ent.cells 6 h' v Z∧∀e∈Z,ItmH h' e.x
theorem Drawn.kl{N:Nat}{h:Heap}{Ks:List Knd}{vE:V}{X:List Itm}{E:List Ent}(d:Drawn N h.next h Ks vE X E):KL N h vE E:=fun _ _ hS f=>⟨(d.keep f hS).rs,(d.keep f hS).H⟩
theorem LsO.kl{N:Nat}{h:Heap}{v:V}{Z:List Ent}(w:WF h)(a:LsO N h v Z)(i:∀z∈Z,ItmH h z.x):KL N h v Z:=by
 intro S h' hS f;have q:=a.keep (Fr.lt w f) fun y m=>by grind
 exact⟨q.rs,q.itm i⟩
theorem SW.a{n0:NL}{W:Nat→Prop}{C:Nat}{Ks:List Knd}{h:Heap}{b:Nat}{E:List Ent}(s:SW n0 W C Ks h b E):SA Ks h b E:=by let⟨K,X,st,vK,bg,B,bm,S,bl,pm,mc,s,sk,ev,ix,_⟩:=s;exact⟨n0,K,X,st,vK,bg,B,bm,S,bl,pm,mc,s,sk,ev,fun _ _=>rfl,mg.2 ix⟩
theorem SW.lt{n0:NL}{W:Nat→Prop}{C:Nat}{Ks:List Knd}{h:Heap}{b:Nat}{E:List Ent}(w:WF h)(s:SW n0 W C Ks h b E):SW n0 (fun y=>W y∧y<h.next) C Ks h b E:=by let⟨K,X,st,vK,bg,B,bm,S,bl,pm,mc,s,sk,ev,ix,c,r⟩:=s;exact⟨K,X,st,vK,bg,B,bm,S,bl,pm,mc,s,sk,ev,ix,c,fun y m=>⟨r y m,s.wrlt w y m⟩⟩
theorem SA.val{Ks:List Knd}{h:Heap}{b:Nat}{E Z:List Ent}(s:SA Ks h b E)(e:Z.map Ent.val=E.map Ent.val):SA Ks h b Z:=by
 let⟨n0,K,X,st,vK,bg,B,bm,S,bl,pm,mc,s,sk,ev,nz,ix⟩:=s;have e1:Z.map Ent.b=E.map Ent.b:=by have:=congrArg (List.map fun p=>p.2.1) e;rw[List.map_map,List.map_map]at this;exact this
 have e2:Z.map Ent.kn=E.map Ent.kn:=by have:=congrArg (List.map fun p=>p.2.2) e;rw[List.map_map,List.map_map]at this;exact this
 have e3:Z.map (fun e=>e.x.val)=E.map (fun e=>e.x.val):=by have:=congrArg (List.map fun p=>p.1) e;rw[List.map_map,List.map_map]at this;exact this
 have ek:=pI e;refine⟨n0,K,X,st,vK,bg,B,bm,S,bl,pm,mc,e1▸e2▸s,sk,e3▸ev,nz,?_⟩;have:=mg.1 ix;exact mg.2 (show IxL mc.1 (jD Z) by rw[ek];exact this)
theorem SA.fr{Ks:List Knd}{h h':Heap}{b:Nat}{E:List Ent}(w:WF h)(s:SA Ks h b E)(f:Fr [] h h'):SA Ks h' b E:=by let⟨n0,K,X,st,vK,bg,B,bm,S,bl,pm,mc,s,r⟩:=s;exact⟨n0,K,X,st,vK,bg,B,bm,S,bl,pm,mc,s.fr w f,r⟩
theorem NV.na{W:Nat→Prop}{h:Heap}{v:V}{L:List Nt}(w:WF h)(n:NV W h v L):NA h v L:=⟨n.1 [] h iS (Fr.refl w),fun x m=>⟨(n.2 x m).1 [] h iS (Fr.refl w),(n.2 x m).2⟩⟩
theorem Sto.skip{n0:NL}{p:Nat}{x:V}{h h':Heap}{b bg B bm S bl:Nat}{Ks:List Knd}{cap:Int}{X:List Itm}{l:List Int}{kn st:List Bool}{vK:V}{pm:Option Nat}{mc:mW}(w:WF h)(s:Sto n0 h b Ks cap X l kn st vK bg B bm S bl pm mc)(o:Own h p [x])(hp:p∉Wr b bg B bm S bl pm)(lp:Lx n0 p)(f:Fr [p] h h'):
 Sto n0 h' b Ks cap X l kn st vK bg B bm S bl pm mc:=by
 have g:∀{y},y∈Wr b bg B bm S bl pm→y∉[p]:=fun m q=>hp (List.mem_singleton.1 q▸m);have n:=f.next;refine⟨f.own _ _ (g (by simp[Wr])) s.ob,s.g.fr f (g (by simp[Wr])) (g (by simp[Wr])),s.gB.fr f (g (by simp[Wr])),s.k.frS f (g (by simp[Wr])) (g (by simp[Wr])),s.gS.fr f (g (by simp[Wr])),
  s.lo.frS f (Oth.own o iS (uD (n:=0) rfl)) (g (by simp[Wr])) (fun q e=>g (by simp[Wr,e])),s.len,fun Z h2 hZ f2=>?_,s.d,by have:=s.Sl';omega,fun q e=>by have:=s.pl q e;omega,by have:=s.bl';omega,fun z q=>by have:=s.n0l z q;omega⟩
 refine s.rd ([p]++Z) h2 (fun z m=>?_) (Fr.trans f f2 w (fun x m=>.inl (List.mem_append.2 (.inl m))) (fun x m=>.inl (List.mem_append.2 (.inr m))));obtain m|m:=List.mem_append.1 m;grind;grind
theorem SW.skip{n0:NL}{p:Nat}{x:V}{W:Nat→Prop}{C:Nat}{Ks:List Knd}{h h':Heap}{b:Nat}{E:List Ent}(w:WF h)(s:SW n0 W C Ks h b E)(o:Own h p [x])(hp:¬W p)(lp:Lx n0 p)(f:Fr [p] h h'):SW n0 W C Ks h' b E:=by let⟨K,X,st,vK,bg,B,bm,S,bl,pm,mc,s,sk,ev,ix,c,r⟩:=s;exact⟨K,X,st,vK,bg,B,bm,S,bl,pm,mc,s.skip w o (fun m=>hp (r p m)) lp f,sk,ev,ix,c,r⟩
theorem In40.okZ{E:List Ent}(a:In40 (E.map Ent.b)):okZ E:=fun e m=>by have:=a e.b (List.mem_map.2 ⟨e,m,rfl⟩);omega
theorem In40.ub{E:List Ent}(a:In40 (E.map Ent.b))(i:Nat):((E.take i).map Ent.b).sum≤50*i:=by have:=(jo (L:=(E.take i).map Ent.b) fun x m=>a x (by rw[List.map_take]at m;exact List.mem_of_mem_take m)).2;rw[List.length_map,List.length_take]at this;omega
abbrev u4(a b c d:Int):List V:=[.int .i64 a,.int .i64 b,.int .i64 c,.int .i64 d]
def SE'(Ks:List Knd)(x:Itm)(s e:Int):Prop:=if s=0 then IE Ks 12 x e else 0<e
theorem SE'.pos{Ks:List Knd}{x:Itm}{s e e':Int}(a:SE' Ks x s e)(b:SE' Ks x s e')(h:0<e):0<e':=by unfold SE' at a b;split at a;rename_i c;rw[if_pos c]at b;rw[←a.det b];exact h;grind
def KQ(N:Nat→Prop)(h:Heap)(v:V)(Z:List Ent):Prop:=∀S h',(∀z∈S,N z∨h.next≤z)→Fr S h h'→Recs Ent.cells 6 h' v Z∧∀e∈Z,ItmH h' e.x
def IS(N:Nat→Prop)(h0:Heap)(x:Itm):Prop:=∀S h',(∀z∈S,N z∨h0.next≤z)→Fr S h0 h'→ItmH h' x
theorem IS.up{N:Nat→Prop}{h h1:Heap}{S0:List Nat}{x:Itm}(a:IS N h x)(w:WF h)(f:Fr S0 h h1)(h0:∀z∈S0,N z∨h.next≤z):IS N h1 x:=fun S h' hS f'=>
 a (S0++S) h' (fun z m=>by
  have:=f.next;obtain m|m:=List.mem_append.1 m;exact h0 z m;obtain q|q:=hS z m;exact .inl q;exact .inr oM) (Fr.trans f f' w (fun x m=>.inl (List.mem_append.2 (.inl m))) (fun x m=>.inl (List.mem_append.2 (.inr m))))
theorem KQ.up{N:Nat→Prop}{h h1:Heap}{v:V}{E:List Ent}(a:KQ N h v E)(w:WF h)(f:Fr [] h h1):KQ N h1 v E:=fun S h' hS f'=>
 a S h' (fun z m=>by have:=f.next;obtain q|q:=hS z m;exact .inl q;exact .inr oM) (Fr.trans f f' w iS (fun x m=>.inl m))
theorem KQ.is{N:Nat→Prop}{h:Heap}{v:V}{E:List Ent}(a:KQ N h v E){e:Ent}(m:e∈E):IS N h e.x:=fun S h' hS f=>(a S h' hS f).2 e m
theorem KQ.rs{N:Nat→Prop}{h:Heap}{v:V}{E:List Ent}(a:KQ N h v E)(w:WF h):Recs Ent.cells 6 h v E:=(a [] h iS (Fr.refl w)).1
theorem KQ.itm{N:Nat→Prop}{h:Heap}{v:V}{E:List Ent}(a:KQ N h v E)(w:WF h):∀e∈E,ItmH h e.x:=(a [] h iS (Fr.refl w)).2
theorem KQ.fin{N:Nat→Prop}{h1 h':Heap}{u:V}{O:List Ent}(w:WF h1)(hN:∀z,N z→z<h1.next)(F:Fr [] h1 h')(g:Gs h' h1.next 6 u (O.flatMap Ent.cells))(i:∀e∈O,IS N h1 e.x):KQ N h' u O:=by intro S h2 hS f;have n:=F.next;refine⟨Gs.sl (n:=O.length) (g.dj f fun z m c=>?_) (aC aM _) oM,fun e m=>(i e m).up w F iS S h2 hS f⟩;have:=g.vb z c;have:=g.lt F.wf z c;obtain q|q:=hS z m;grind;omega
theorem KQ.nil{N:Nat→Prop}{h:Heap}:KQ N h .nils []:=fun _ _ _ _=>⟨Recs.nil,iS⟩
def EV(N:Nat→Prop)(h0:Heap)(e:Ent):Prop:=IS N h0 e.x∧1≤e.b∧e.b≤50
theorem EV.up{N:Nat→Prop}{h h1:Heap}{e:Ent}(a:EV N h e)(w:WF h)(f:Fr [] h h1):EV N h1 e:=⟨a.1.up w f iS,a.2⟩
theorem IS.H{N:Nat→Prop}{h:Heap}{x:Itm}(a:IS N h x)(w:WF h):ItmH h x:=a [] h iS (Fr.refl w)
theorem Ir{h:Heap}{e:Ent}(w:WF h)(ob:1≤e.b∧e.b≤2305843009213693952):ao go 188 [.agg e.cells] h fun u h'=>u=.bool false∧Fr [] h h':=by let⟨h1,e_h1,F_h1,o_h1⟩:=aj w e.cells;have l4:ag h1 h.next 4=some (.int .i64 e.b):=o_h1.ld1 4;refine ac ?_;simp only[evs,seval,←e_h1,l4,show decide (e.b<1)=false from decide_eq_false oM,show decide (2305843009213693952<e.b)=false from decide_eq_false oM];exact F_h1
theorem Iq{h:Heap}{v:V}{E:List Ent}(w:WF h)(re:Recs Ent.cells 6 h v E)(hE:E.length≤4096)(ok:okZ E):ao go 187 [v,.func (.func 188) [] []] h fun u h'=>u=.bool false∧Fr [] h h':=by refine ac ?_;simp only[evs,seval];refine aa (R:=fun u h'=>u=.int .i64 (-1)∧Fr [] h h') ?_ ?_;refine ac ?_;simp only[evs,seval,re.len];refine az (fun n env hh=>Fr [] h hh∧∃i:Nat,env.get 8=some (.int .i64 i)∧env.get 7=some (.int .i64 E.length)∧env.get 0=some v∧env.get 1=some (.func (.func 188) [] [])∧i≤E.length∧n=E.length-i) E.length oM ?_ ?_;exact⟨Fr.refl w,0,iS,iS,iS,iS,oM,rfl⟩;rintro n env hh ⟨F,i,g8,g7,g0,g1,hi,rfl⟩;by_cases c:i<E.length;let⟨bi,oi,e,p1,_,p3,p4⟩:=(re.fr F).ix aM .i64 (i:Int) oM oM;rw[Int.toNat_natCast]at p4;have big:215<1099511627776:=oM;simp only[evs,seval,g8,g7,g0,g1,(oM:(i:Int)<E.length),p1,p3];refine aa (Ir F.wf (ok e (List.mem_of_getElem? p4))) ?_;rintro _ h3 ⟨rfl,F3⟩;simp(disch:=omega) only[evs,seval,ab,g8];refine rqn ⟨E.length-(i+1),oM,F.then F3,i+1,iS,iX,iX,iX,oM,rfl⟩;simp only[evs,seval,g8,g7,(oM:¬(i:Int)<E.length)];exact F;rintro _ h3 ⟨rfl,F3⟩;simp only[evs,seval,(dI:decide ((0:Int)≤-1)=false)];exact F3
section
variable {h : Heap} {v : V} {E : List Ent}
theorem pT(w:WF h)(re:Recs Ent.cells 6 h v E)(ie:∀e∈E,ItmH h e.x)(hE:E.length≤1024)(ok:okZ E)(hs:(E.map Ent.b).sum≤4611686018427387904):ao go 156 [.agg [v]] h fun u h'=>u=.int .i64 0∧Fr [] h h':=by
 have v1:v.one=true:=Sl.one re;let⟨h1,e_h1,F_h1,o_h1⟩:=aj w [v];have x0:∀{h'},Fr [] h1 h'→ag h' h.next 0=some v:=fun f=>(f.get o_h1).ld1 0;have x1:∀{h'},Fr [] h1 h'→ai h' h.next 0 1=some [v]:=fun f=>by rw[(f.get o_h1).ld];rfl
 have r0:Fr [] h1 h1:=Fr.refl F_h1.wf;refine ac ?_;simp only[evs,seval,←e_h1,x0 r0,(re.fr F_h1).len,eq_false (oM:¬(1024:Int)<(E.length:Nat))];refine aa (Iq F_h1.wf (re.fr F_h1) oM ok) ?_;rintro _ h2 ⟨rfl,F2⟩;simp only[evs,seval,x1 F2];apply aa (iq F2.wf (re.fr (F_h1.then F2)) (fun e m=>(ie e m).fr (F_h1.then F2)) oM ok hs);rintro _ h3 ⟨rfl,F3⟩;simp only[evs,seval,eq_false (oM:¬4611686018427387904<(E.map Ent.b).sum)];exact(F_h1.then F2).then F3
end
def tpL(l:List Int)(i:Nat):List V:=(List.range (l.length+1)).map fun j=>.int .i64 (if j≤i then(l.take j).sum else 0)
theorem jX(l:List Int)(i:Nat):(tpL l i).length=l.length+1:=by simp[tpL]
theorem gz{l:List Int}{i j:Nat}(h:j≤l.length):(tpL l i)[j]? =some (.int .i64 (if j≤i then(l.take j).sum else 0)):=by
 have:(List.range (l.length+1))[j]? =some j:=by grind
 simp only[tpL,List.getElem?_map,this,Option.map_some]
theorem Ca(l:List Int):bq [.int .i64 0] (l.length+1)=tpL l 0:=by rw[fO];refine List.ext_getElem? fun j=>?_;by_cases c:j<l.length+1;rw[gz oM,List.getElem?_replicate,if_pos c];split;grind;rfl;rw[List.getElem?_eq_none oO,List.getElem?_eq_none (by rw[jX];omega)]
theorem Cb{l:List Int}{i:Nat}(h:i<l.length):aX (tpL l i) (i+1) [.int .i64 (l.take (i+1)).sum]=some (tpL l (i+1)):=by
 rw[dp _ _ _ (by rw[jX];simp;omega)];have e:(tpL l i).take (i+1)++[V.int .i64 (l.take (i+1)).sum]++(tpL l i).drop (i+1+[V.int .i64 (l.take (i+1)).sum].length)=(tpL l i).set (i+1) (.int .i64 (l.take (i+1)).sum):=by rw[List.set_eq_take_append_cons_drop,if_pos (by rw[jX];omega)];simp
 rw[e];congr 1;refine List.ext_getElem? fun j=>?_;rw[List.getElem?_set];by_cases c:j≤l.length;rw[gz c,gz c,jX];split;grind;grind;rw[if_neg oM,List.getElem?_eq_none (by rw[jX];omega),List.getElem?_eq_none (by rw[jX];omega)]
section
variable {h : Heap} {v : V} {E : List Ent}
theorem um(w:WF h)(re:Recs Ent.cells 6 h v E)(ie:∀e∈E,ItmH h e.x)(hE:E.length≤1024)(ok:okZ E)(hs:(E.map Ent.b).sum≤4611686018427387904):
 ao go 157 [.agg [v]] h fun u h'=>Fr [] h h'∧∃q,h.next≤q∧u=.tup [.slice q 0 (E.length+1) (E.length+1),.int .i64 0]∧Own h' q (tpL (E.map Ent.b) E.length):=by
 have v1:v.one=true:=Sl.one re;let⟨h1,e_h1,F_h1,o_h1⟩:=aj w [v];have n1:=hnx e_h1;have x0:∀{h'},Fr [] h1 h'→ag h' h.next 0=some v:=fun f=>(f.get o_h1).ld1 0;have x1:∀{h'},Fr [] h1 h'→ai h' h.next 0 1=some [v]:=fun f=>by rw[(f.get o_h1).ld];rfl
 have r0:Fr [] h1 h1:=Fr.refl F_h1.wf;refine ac ?_;simp only[evs,seval,←e_h1,x1 r0];refine aa (pT F_h1.wf (re.fr F_h1) (fun e m=>(ie e m).fr F_h1) hE ok hs) ?_;rintro _ h2 ⟨rfl,F2⟩;have re2:=re.fr (F_h1.then F2);have n2:=F2.next;simp(disch:=omega) only[evs,seval,ab,x0 F2,re2.len];refine(bX _ _ _ _ _ _ _ _ oM oM oM oM).2 ?_;have tn:((E.length:Int)+1).toNat=E.length+1:=oM;simp only[tn];obtain⟨h3,e_h3⟩:∃h3,h3=halloc h2 (bq [.int .i64 0] (E.length+1)):=⟨_,rfl⟩;have F_h3:Fr [] h2 h3:=e_h3▸Fr.halloc F2.wf _;have o_h3:Own h3 h2.next (bq [.int .i64 0] (E.length+1)):=e_h3▸Own.new F2.wf _;rw[←e_h3];clear e_h3;have tz:=Ca (E.map Ent.b);rw[List.length_map]at tz;rw[tz]at o_h3;simp only[evs,seval,x0 (F2.then F_h3),(re2.fr F_h3).len];refine az (fun n env hh=>Fr [] h1 hh∧∃i:Nat,env.get 20=some (.int .i64 i)∧env.get 19=some (.int .i64 E.length)∧env.get 5=some (.slice h2.next 0 (E.length+1) (E.length+1))∧env.get 1=some (.ptr h.next 0)∧Own hh h2.next (tpL (E.map Ent.b) i)∧i≤E.length∧n=E.length-i) E.length oM ?_ ?_;exact⟨F2.then F_h3,0,iS,iS,iS,iS,o_h3,oM,rfl⟩;rintro n env hh ⟨F,i,g20,g19,g5,g1,o,hi,rfl⟩;by_cases c:i<E.length;let⟨bi,oi,e,p1,p2,p3,p4⟩:=(re.fr (F_h1.then F)).ix aM .i64 (i:Int) oM oM;rw[Int.toNat_natCast]at p4;have l4:ag hh bi (oi+4)=some (.int .i64 e.b):=p2 4 oM;have ob:=ok e (List.mem_of_getElem? p4);have ts:=sa p4;have s0:=(ok.take i).sum_nn;have:=(ok.drop (i+1)).sum_nn;have:=okZ.split (E:=E) (i+1);rw[List.map_take,List.map_take]at ts;rw[List.map_take]at s0;have xa:=cL 1 h2.next 0 (E.length+1) (E.length+1) .i64 (i:Int) oM oM;simp only[Int.toNat_natCast,Nat.mul_one,Nat.zero_add]at xa;have xb:=cL 1 h2.next 0 (E.length+1) (E.length+1) .i64 ((i:Int)+1) oM oM;simp only[(oM:((i:Int)+1).toNat=i+1),Nat.mul_one,Nat.zero_add]at xb;have lt:ag hh h2.next i=some (.int .i64 ((E.map Ent.b).take i).sum):=by rw[o.ld1,dL,gz oO,if_pos (Nat.le_refl _)]
 rw[List.map_take]at *;simp(disch:=omega) only[evs,seval,eff,ab,g20,g19,g5,g1,(oM:(i:Int)<E.length),x0 F,p1,l4,xa,xb,lt,←ts];apply ah (c':=tpL (E.map Ent.b) (i+1)) F.wf o rfl rfl (Cb oO);rintro h4 o4 F4 n4;simp(disch:=omega) only[evs,seval,DF,ab,g20,x0 F,l4,lt];refine rqn ⟨E.length-(i+1),oM,F.fresh F4 F_h1.wf n2,i+1,iS,iX,iX,iX,o4,oM,rfl⟩;obtain rfl:i=E.length:=oM;simp only[evs,seval,g20,g19,g5,(oM:¬((E.length:Nat):Int)<E.length)];exact⟨F_h1.then F,h2.next,oM,rfl,o⟩
end
theorem Bq{h:Heap}{p x q i n:Nat}{y:Int}{l:List Int}(o1:Own h p [.slice q 0 (n+1) (n+1)])(o2:Own h x [.int .i64 y])(o3:Own h q (tpL l n))(hl:l.length=n)(hi:i<n)(hn:n≤4096):
 ao go 221 [.int .i64 (i:Int),.ptr p 0,.ptr x 0] h fun u h'=>h=h'∧u=.bool (decide (y<(l.take (i+1)).sum)):=by
 have xb:=cL 1 q 0 (n+1) (n+1) .i64 ((i:Int)+1) oM oM;simp only[(oM:((i:Int)+1).toNat=i+1),Nat.mul_one,Nat.zero_add]at xb;have l1:ag h p 0=some (.slice q 0 (n+1) (n+1)):=o1.ld1 0;have l2:ag h x 0=some (.int .i64 y):=o2.ld1 0;have l3:ag h q (i+1)=some (.int .i64 (l.take (i+1)).sum):=by rw[o3.ld1,dL,gz oM,if_pos oM]
 refine ac ?_;simp(disch:=omega) only[evs,seval,DF,eff,ab,l1,l2,l3,xb]
theorem AS{h:Heap}{p x q n k:Nat}{y:Int}{l:List Int}(o1:Own h p [.slice q 0 (n+1) (n+1)])(o2:Own h x [.int .i64 y])(o3:Own h q (tpL l n))(hl:l.length=n)(hn:n≤4096)(hk:k<n)
 (hc:∀i,i<n→(y<(l.take (i+1)).sum↔k≤i)):
 ao go 220 [.int .i64 (n:Int),.func (.func 221) [] [.ptr p 0,.ptr x 0]] h fun u h'=>h=h'∧u=.int .i64 (k:Int):=by
 refine ac ?_;simp only[evs,seval];refine az (fun r env hh=>h=hh∧∃i j:Nat,env.get 5=some (.int .i64 i)∧env.get 6=some (.int .i64 j)∧env.get 1=some (.func (.func 221) [] [.ptr p 0,.ptr x 0])∧i≤k∧k≤j∧j≤n∧r=j-i) n oM ?_ ?_;exact⟨rfl,0,n,iS,iS,iS,oM,oM,oM,rfl⟩;rintro r env hh ⟨rfl,i,j,g5,g6,g1,h1,h2,h3,rfl⟩;by_cases c:i<j;have sh:aP (.sh false) [.int .u64 ((i:Int)+j),.int .u64 1]=some (.int .u64 (((i+j)/2:Nat):Int)):=by have:=fu .u64 (i+j) 1 1 rfl oM;rw[Int.natCast_add]at this;exact this
 have fw:bD .u64 ((i:Int)+j)=(i:Int)+j:=bH _ oM oM;have fv:bD .i64 (((i+j)/2:Nat):Int)=(((i+j)/2:Nat):Int):=ab _ oM oM;have big:217<1099511627776:=oM;have m1:i≤(i+j)/2:=oM;have m2:(i+j)/2<j:=oM;generalize(i+j)/2=m at sh fv m1 m2;simp(disch:=omega) only[evs,seval,ab,g5,g6,g1,eq_true (oM:(i:Int)<j),fw,sh,fv];refine aa (Bq (i:=m) o1 o2 o3 hl oM hn) ?_;rintro _ _ ⟨rfl,rfl⟩;have e:=hc m oM;by_cases d:k≤m;simp only[evs,seval,decide_eq_true (e.2 d)];refine rqn ⟨m-i,oM,rfl,i,m,iX,iS,iX,h1,d,oM,rfl⟩;simp(disch:=omega) only[evs,seval,ab,decide_eq_false (fun z=>d (e.1 z))];refine rqn ⟨j-(m+1),oM,rfl,m+1,j,iS,iX,iX,oM,h2,h3,rfl⟩;obtain rfl:i=j:=oM;obtain rfl:i=k:=oM;simp only[evs,seval,g5,g6,(oM:¬(i:Int)<i)]
end Go.Ev.Lay
