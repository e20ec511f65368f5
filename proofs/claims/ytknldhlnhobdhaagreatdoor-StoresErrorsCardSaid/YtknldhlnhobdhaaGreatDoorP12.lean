/- An evaluator of the program, and contracts over it: StbT to LayEd. -/
import Derived.Test.YtknldhlnhobdhaaGreatDoorP09
import Derived.Test.YtknldhlnhobdhaaGreatDoorP11
set_option linter.unusedSimpArgs false
set_option linter.unusedVariables false
set_option linter.constructorNameAsVariable false
set_option linter.unnecessarySimpa false
namespace Go.Ev.Lay
open Go.Ev.St
set_option maxRecDepth 4000
structure Ent where
 x:Itm
 b:Int
 kn:Bool
def Ent.cells(e:Ent):List V:=e.x.ent e.b e.kn
theorem dM(e:Ent):e.cells.length=6:=rfl
def b8(n:Nat):List V:=[.int .u8 (n:Int)]
structure EOk(Ks:List Knd)(X:List Itm)(e:Ent):Prop where
 m:e.x∈X
 o:okI e.x 3=true
 r:bW Ks 12 e.x=0
 b:e.kn=false→e.b=aL Ks e.x
 c:e.kn=true→1≤e.b∧e.b≤50
set_option maxHeartbeats 1000000 in
theorem Jt{h:Heap}{vI vH:V}{kb:Nat}{L:List (Nat×Nat×Nat×Nat)}{H:List Nat}(w:WF h)(a:ARecs q4 4 h vI L)(hb:∀q∈L,q.1<256∧q.2.1<256∧q.2.2.1<256∧q.2.2.2<256)
 (aH:ARecs b8 1 h vH H) (hH:∀n∈H,n<256) (hk:kb<256):
 aj go 6 [.agg [vI,vH,.int .u8 (kb:Int)]] h fun u h'=>Fr [] h h'∧∃vK Ks vX X vE,∃E:List Ent,u=.tup [.agg [vK,.int .i64 12],.agg [vE]]∧Recs Knd.cells 9 h' vK Ks∧(∀q∈Ks,KndH h' q)∧GK Ks∧okR Ks 12=true∧Ks.length=3∧
  IL h.next h' vX X∧Gs h' h.next 6 vE (E.flatMap Ent.cells)∧(∀e∈E,EOk Ks X e)∧(E.map fun e=>e.x.key).Nodup∧E.length≤12:=by
 let⟨h1,e_h1,F_h1,o_h1⟩:=ao w [vI,vH,.int .u8 (kb:Int)];let⟨h2,e_h2,F_h2,o_h2⟩:=ao F_h1.wf [.nils,.int .i64 0];let⟨h3,e_h3,F_h3,o_h3⟩:=ao F_h2.wf [.nils];have n1:=hnx e_h1;have n2:=hnx e_h2;have n3:=hnx e_h3;have F13:=F_h2.then F_h3;have k2:ag h3 h.next 2=some (.int .u8 (kb:Int)):=(F13.get o_h1).ld1 2;refine ab ?_;simp only[evs,seval,←e_h1,←e_h2,←e_h3,k2];refine aa (BI F_h3.wf hk) ?_;rintro vK h4 ⟨F4,Ks,rkh,gk,okr,lk⟩;let⟨rk,kh⟩:=rkh [] h4 iS (Fr.refl F4.wf);have v1:=Sl.one rk;have o4:=F4.get (F13.get o_h1);let⟨h5,e_h5,F_h5,o_h5⟩:=ao F4.wf [.nils,.int .i64 0];have n4:=F4.next;have n5:=hnx e_h5;simp only[evs,seval,az v1,←e_h5];refine ai (o:=0) (v:=.agg [vK,.int .i64 12]) (c':=[vK,.int .i64 12]) F_h5.wf o_h5 rfl (by show av [_,_]=true;simp only[aB,aF,v1];rfl) rfl ?_;rintro h6 o6 F6 n6;have F46:Fr [] h4 h6:=F_h5.fresh F6 F4.wf oM;have l0:ak h6 h.next 0 1=some [vI]:=by rw[(F46.get o4).ld];rfl
 have F06:=(F_h1.then F13).then (F4.then F46);simp only[evs,seval,l0];apply aa (Jd F46.wf (a.fr F06) hb);rintro vX h7 ⟨F7,X,il,hX⟩;let⟨h8,e_h8,F_h8,o_h8⟩:=ao F7.wf [.nils];have n7:=F7.next;have n8:=hnx e_h8;simp only[evs,←e_h8];have F07:=F06.then F7;have oL7:=F7.get (F46.get o4);have oK7:=F7.get o6;have FH:Fr [] h h8:=F07.then F_h8;have oa:=F_h8.get (F7.get (F46.get (F4.get (F_h3.get o_h2))));have oc:=F_h8.get (F7.get (F46.get (F4.get o_h3)));refine aA (fun n env hh=>Fr [] h7 hh∧∃(i:Nat)(vE:V)(E:List Ent),env.get 7=some (.int .i64 i)∧env.get 1=some (.ptr h.next 0)∧env.get 2=some (.ptr h1.next 0)∧env.get 3=some (.ptr h2.next 0)∧env.get 4=some (.ptr h4.next 0)∧env.get 5=some vX∧env.get 6=some (.ptr h7.next 0)∧
  i≤X.length∧Own hh h1.next [.nils,.int .i64 0]∧Own hh h2.next [.nils]∧Own hh h7.next [vE]∧Gs hh h8.next 6 vE (E.flatMap Ent.cells)∧(∀e∈E,EOk Ks X e)∧(E.map Ent.x).Sublist (X.take i)∧n=X.length-i) X.length oM ?_ ?_
 exact⟨F_h8,0,.nils,[],iS,iS,iS,iS,iS,iS,iS,oM,oa,oc,o_h8,.inl ⟨rfl,rfl⟩,iS,iS,rfl⟩;rintro n env hh ⟨G,i,vE,E,g7,g1,g2,g3,g4,g5,g6,hi,oa,oc,oe,GE,eok,sub,rfl⟩;have ilh:=il.fr G;have len:=ilh.rs.len;have El:E.length≤i:=by have:=sub.length_le;simp only[List.length_map,List.length_take]at this;omega
 by_cases c1:i<X.length;let⟨bi,oi,x,p1,_,p3,p4⟩:=Recs.ix d8 ilh.rs .i64 (i:Int) oM oM;rw[Int.toNat_natCast]at p4;have xm:=List.mem_of_getElem? p4;have kl:ak hh h4.next 0 2=some [vK,.int .i64 12]:=by rw[(G.get oK7).ld];rfl
 have Fh4:Fr [] h4 hh:=F46.then (F7.then G);simp only[evs,seval,eff,g7,g4,g5,len,(oM:(i:Int)<X.length),kl,p1,p3];apply aa (DN G.wf (Recs.fr rk Fh4) (fun q m=>(kh q m).fr Fh4) gk oM (ilh.i x xm).H);rintro _ ha ⟨Fa,e,rfl,e0,he,_⟩;have Ga:=G.then Fa;have kla:ak ha h4.next 0 2=some [vK,.int .i64 12]:=by rw[(Ga.get oK7).ld];rfl
 let⟨bi',oi',x',p1',_,p3',p4'⟩:=Recs.ix d8 (il.fr Ga).rs .i64 (i:Int) oM oM;rw[Int.toNat_natCast,p4]at p4';cases p4';rw[p1]at p1';cases p1';by_cases c2:0<e;simp(disch:=omega) only[evs,seval,DF,eff,ah,g7,g4,kl,p3,eq_true c2];refine rqn ⟨X.length-(i+1),oM,Ga,i+1,vE,E,iS,iX,iX,iX,iX,iX,iX,oM,Fa.get oa,Fa.get oc,Fa.get oe,GE.fr Fa,eok,sub.trans (List.take_sublist_take_left oM),rfl⟩;simp only[evs,seval,DF,eff,g4,kl,p3,eq_false c2];let⟨okx,rex⟩:=he oM;have ht:x.type<Ks.length:=by have:=okx;simp only[okI,Bool.and_eq_true,decide_eq_true_eq]at this;exact this.2.1
 apply Fo [⟨none,.ld 2 true (.v 4),none⟩,⟨none,.p .mv [.v 5],none⟩,⟨none,.p .mv [.v 7],none⟩,⟨none,.p (.ixs 4) [.l 1,.l 0],none⟩,⟨none,.ld 4 true (.l 0),none⟩,⟨none,.cf 32 [.l 4,.l 0],none⟩] [⟨none,.st 6 (.l 0) (.l 1),none⟩] rfl;let⟨hb,e_hb,F_hb,o_hb⟩:=ao Fa.wf [.int .u64 0,.int .u8 0,.str [],.nils,.int .i64 0,.bool false];have nb:=hnx e_hb;have na:=Ga.next;have it:∀{H},Fr [] h7 H→ak H bi oi 4=some x.cells:=by intro H f;let⟨bi',oi',x',p1',_,p3',p4'⟩:=Recs.ix d8 (il.fr f).rs .i64 (i:Int) oM oM;rw[Int.toNat_natCast,p4]at p4';cases p4';rw[p1]at p1';cases p1';exact p3'
 have kk:∀{H},Fr [] h7 H→ak H h4.next 0 2=some [vK,.int .i64 12]:=by intro H f;rw[(f.get oK7).ld];rfl
 have Gb:=Ga.then F_hb;simp only[evs,seval,eff,←e_hb,g7,g4,g5,kk Gb,p1,it Gb];apply aa (BU F_hb.wf (Recs.fr rk (F46.then (F7.then Gb))) ((il.fr Gb).i x xm).H ht);rintro _ hc ⟨rfl,Fc⟩;have Gc:=Gb.then Fc;simp only[evs,eff,dg,uL];refine ai (o:=0) (v:=.agg (x.ent (aL Ks x) false)) (c':=x.ent (aL Ks x) false) Fc.wf (Fc.get o_hb) rfl (by show av (x.cells++[_,_])=true;rw[aN,((il.fr Gb).i x xm).H.one];rfl) rfl ?_;rintro hd od Fd nd;have nc:=Fc.next;have oel:=oe.lt G.wf;have nG:=Fa.next;have Fad:Fr [] ha hd:=(F_hb.then Fc).fresh Fd Fa.wf oM;have Gd:=Ga.then Fad;have oed:=Fad.get (Fa.get oe);have le:=oed.ld1 0;have Ed:=Gs.sl (n:=E.length) (GE.fr (Fa.then Fad)) (aE dM E) oM;have oLd:=Gd.get oL7;have lH:=oLd.ld1 1;have aHd:=aH.fr (F07.then Gd);simp only[evs,seval,DF,g1,g4,g6,kk Gb,it Gb,le,Ed.len,lH,aHd.len];by_cases c3:E.length<H.length;let⟨bh,oh,nH0,q1,q2,_,q4'⟩:=aHd.ix (f:=b8) (k:=1) (fun _=>rfl) .i64 (E.length:Int) oM oM;rw[Int.toNat_natCast]at q4';have n256:=hH nH0 (List.mem_of_getElem? q4');have q3:ag hd bh oh=some (.int .u8 (nH0:Int)):=q2 0 oM;by_cases c4:0<(nH0:Int);simp(disch:=omega) only[evs,seval,ah,eq_true (oM:(E.length:Int)<H.length),g1,q1,q3,eq_true c4,lH,rA nH0 40 40 rfl dI,ah];apply stu Fd.wf od;rintro he' oe'' Fe ne;simp only[evs,seval];apply stu Fe.wf oe'';rintro hf of' Ff nf;simp only[evs,seval,g6];have FaH:=((Fad.fresh Fe Fa.wf oM).fresh Ff Fa.wf oM);have oeH:=FaH.get (Fa.get oe);have ld6:ak hf ha.next 0 6=some (Ent.cells ⟨x,1+((nH0%40:Nat):Int),true⟩):=by rw[(of').ld];rfl
 have u1:bC [.int .u64 0,.int .u8 0,.str [],.nils,.int .i64 0,.bool false] 0 (Ent.cells ⟨x,1+((nH0%40:Nat):Int),true⟩)=some (Ent.cells ⟨x,1+((nH0%40:Nat):Int),true⟩):=rfl;have on:av (Ent.cells ⟨x,1+((nH0%40:Nat):Int),true⟩)=true:=by show av (x.cells++[_,_])=true;rw[aN,((il.fr Gb).i x xm).H.one];rfl
 obtain⟨hx,e_hx⟩:∃hx,hx=halloc hf (Ent.cells ⟨x,1+((nH0%40:Nat):Int),true⟩):=⟨_,rfl⟩;have F_hx:Fr [] hf hx:=e_hx▸Fr.halloc FaH.wf _;have o_hx:Own hx hf.next (Ent.cells ⟨x,1+((nH0%40:Nat):Int),true⟩):=e_hx▸Own.new FaH.wf _;simp only[evs,seval,oeH.ld1 0,ld6,u1,(iR:(Ent.cells ⟨x,1+((nH0%40:Nat):Int),true⟩).length=6),←e_hx];have vb0:=GE.vb;have nH:=((Fa.then FaH).then F_hx).next;have oel':=(oe.lt G.wf);have nx0:h8.next≤hx.next:=oM;refine Gs.append1 (bytes:=72) (n:=1) F_hx.wf (GE.fr ((Fa.then FaH).then F_hx)) (Sl.lit o_hx rfl) oM oM on nx0 (by rw[aE dM E];omega) ?_;intro vE' hy Gy ey Fy;have tk:∀{B:Nat}{cs:List V},Own hh B cs→B<h8.next→Own hy B cs:=fun o l=>Fy.own _ _ (fun m=>by have:=vb0 _ m;omega) (((Fa.then FaH).then F_hx).get o);have c1':vE'.one=true:=by obtain⟨rfl,_⟩|⟨b,n,rfl,_⟩:=Gy<;>rfl
 simp only[evs,seval,g6];refine ai (c':=[vE']) Fy.wf (tk oe oM) (by rw[az c1'];rfl) (by rw[az c1'];simp only[aB,aF,c1'];rfl) (by rw[az c1'];rfl) ?_;rintro hz oz Fz nz;have FN:Fr [] h7 hz:=(Fr.new F7.wf (G.then ((Fa.then FaH).then F_hx)) Fy (fun y hy=>by have:=vb0 _ hy;omega)).fresh Fz F7.wf oM;have eq:(E++[(⟨x,1+((nH0%40:Nat):Int),true⟩:Ent)]).flatMap Ent.cells=E.flatMap Ent.cells++Ent.cells ⟨x,1+((nH0%40:Nat):Int),true⟩:=by simp
 simp(disch:=omega) only[evs,seval,ah,g7];refine rqn ⟨X.length-(i+1),oM,FN,i+1,vE',E++[⟨x,1+((nH0%40:Nat):Int),true⟩],iS,iX,iX,iX,iX,iX,iX,oM,Fz.own _ _ oO (tk oa oM),Fz.own _ _ oO (tk oc oM),oz,by rw[eq];exact Gy.keep Fz oO,?_,?_,rfl⟩;intro e' m;obtain m|m:=List.mem_append.1 m;exact eok e' m;rw[List.mem_singleton.1 m];exact⟨xm,by rw[←lk];exact okx,rex,fun z=>(by cases z),fun _=>⟨by show(1:Int)≤1+((nH0%40:Nat):Int);omega,by show 1+((nH0%40:Nat):Int)≤50;omega⟩⟩;rw[List.map_append,List.take_add_one,p4];exact sub.append (List.Sublist.refl _);simp only[evs,seval,eq_true (oM:(E.length:Int)<H.length),g6,q1,q3,eq_false c4];have FaH:=Fad;have oeH:=FaH.get (Fa.get oe);have ld6:ak hd ha.next 0 6=some (Ent.cells ⟨x,aL Ks x,false⟩):=by rw[(od).ld];rfl
 have u1:bC [.int .u64 0,.int .u8 0,.str [],.nils,.int .i64 0,.bool false] 0 (Ent.cells ⟨x,aL Ks x,false⟩)=some (Ent.cells ⟨x,aL Ks x,false⟩):=rfl;have on:av (Ent.cells ⟨x,aL Ks x,false⟩)=true:=by show av (x.cells++[_,_])=true;rw[aN,((il.fr Gb).i x xm).H.one];rfl
 obtain⟨hx,e_hx⟩:∃hx,hx=halloc hd (Ent.cells ⟨x,aL Ks x,false⟩):=⟨_,rfl⟩;have F_hx:Fr [] hd hx:=e_hx▸Fr.halloc FaH.wf _;have o_hx:Own hx hd.next (Ent.cells ⟨x,aL Ks x,false⟩):=e_hx▸Own.new FaH.wf _;simp only[evs,seval,oeH.ld1 0,ld6,u1,(iR:(Ent.cells ⟨x,aL Ks x,false⟩).length=6),←e_hx];have vb0:=GE.vb;have nH:=((Fa.then FaH).then F_hx).next;have oel':=(oe.lt G.wf);have nx0:h8.next≤hx.next:=oM;refine Gs.append1 (bytes:=72) (n:=1) F_hx.wf (GE.fr ((Fa.then FaH).then F_hx)) (Sl.lit o_hx rfl) oM oM on nx0 (by rw[aE dM E];omega) ?_;intro vE' hy Gy ey Fy;have tk:∀{B:Nat}{cs:List V},Own hh B cs→B<h8.next→Own hy B cs:=fun o l=>Fy.own _ _ (fun m=>by have:=vb0 _ m;omega) (((Fa.then FaH).then F_hx).get o);have c1':vE'.one=true:=by obtain⟨rfl,_⟩|⟨b,n,rfl,_⟩:=Gy<;>rfl
 simp only[evs,seval,g6];refine ai (c':=[vE']) Fy.wf (tk oe oM) (by rw[az c1'];rfl) (by rw[az c1'];simp only[aB,aF,c1'];rfl) (by rw[az c1'];rfl) ?_;rintro hz oz Fz nz;have FN:Fr [] h7 hz:=(Fr.new F7.wf (G.then ((Fa.then FaH).then F_hx)) Fy (fun y hy=>by have:=vb0 _ hy;omega)).fresh Fz F7.wf oM;have eq:(E++[(⟨x,aL Ks x,false⟩:Ent)]).flatMap Ent.cells=E.flatMap Ent.cells++Ent.cells ⟨x,aL Ks x,false⟩:=by simp
 simp(disch:=omega) only[evs,seval,ah,g7];refine rqn ⟨X.length-(i+1),oM,FN,i+1,vE',E++[⟨x,aL Ks x,false⟩],iS,iX,iX,iX,iX,iX,iX,oM,Fz.own _ _ oO (tk oa oM),Fz.own _ _ oO (tk oc oM),oz,by rw[eq];exact Gy.keep Fz oO,?_,?_,rfl⟩;intro e' m;obtain m|m:=List.mem_append.1 m;exact eok e' m;rw[List.mem_singleton.1 m];exact⟨xm,by rw[←lk];exact okx,rex,fun _=>rfl,fun z=>by cases z⟩;rw[List.map_append,List.take_add_one,p4];exact sub.append (List.Sublist.refl _);simp only[evs,seval,eq_false (oM:¬(E.length:Int)<H.length),g6];have FaH:=Fad;have oeH:=FaH.get (Fa.get oe);have ld6:ak hd ha.next 0 6=some (Ent.cells ⟨x,aL Ks x,false⟩):=by rw[(od).ld];rfl
 have u1:bC [.int .u64 0,.int .u8 0,.str [],.nils,.int .i64 0,.bool false] 0 (Ent.cells ⟨x,aL Ks x,false⟩)=some (Ent.cells ⟨x,aL Ks x,false⟩):=rfl;have on:av (Ent.cells ⟨x,aL Ks x,false⟩)=true:=by show av (x.cells++[_,_])=true;rw[aN,((il.fr Gb).i x xm).H.one];rfl
 obtain⟨hx,e_hx⟩:∃hx,hx=halloc hd (Ent.cells ⟨x,aL Ks x,false⟩):=⟨_,rfl⟩;have F_hx:Fr [] hd hx:=e_hx▸Fr.halloc FaH.wf _;have o_hx:Own hx hd.next (Ent.cells ⟨x,aL Ks x,false⟩):=e_hx▸Own.new FaH.wf _;simp only[evs,seval,oeH.ld1 0,ld6,u1,(iR:(Ent.cells ⟨x,aL Ks x,false⟩).length=6),←e_hx];have vb0:=GE.vb;have nH:=((Fa.then FaH).then F_hx).next;have oel':=(oe.lt G.wf);have nx0:h8.next≤hx.next:=oM;refine Gs.append1 (bytes:=72) (n:=1) F_hx.wf (GE.fr ((Fa.then FaH).then F_hx)) (Sl.lit o_hx rfl) oM oM on nx0 (by rw[aE dM E];omega) ?_;intro vE' hy Gy ey Fy;have tk:∀{B:Nat}{cs:List V},Own hh B cs→B<h8.next→Own hy B cs:=fun o l=>Fy.own _ _ (fun m=>by have:=vb0 _ m;omega) (((Fa.then FaH).then F_hx).get o);have c1':vE'.one=true:=by obtain⟨rfl,_⟩|⟨b,n,rfl,_⟩:=Gy<;>rfl
 simp only[evs,seval,g6];refine ai (c':=[vE']) Fy.wf (tk oe oM) (by rw[az c1'];rfl) (by rw[az c1'];simp only[aB,aF,c1'];rfl) (by rw[az c1'];rfl) ?_;rintro hz oz Fz nz;have FN:Fr [] h7 hz:=(Fr.new F7.wf (G.then ((Fa.then FaH).then F_hx)) Fy (fun y hy=>by have:=vb0 _ hy;omega)).fresh Fz F7.wf oM;have eq:(E++[(⟨x,aL Ks x,false⟩:Ent)]).flatMap Ent.cells=E.flatMap Ent.cells++Ent.cells ⟨x,aL Ks x,false⟩:=by simp
 simp(disch:=omega) only[evs,seval,ah,g7];refine rqn ⟨X.length-(i+1),oM,FN,i+1,vE',E++[⟨x,aL Ks x,false⟩],iS,iX,iX,iX,iX,iX,iX,oM,Fz.own _ _ oO (tk oa oM),Fz.own _ _ oO (tk oc oM),oz,by rw[eq];exact Gy.keep Fz oO,?_,?_,rfl⟩;intro e' m;obtain m|m:=List.mem_append.1 m;exact eok e' m;rw[List.mem_singleton.1 m];exact⟨xm,by rw[←lk];exact okx,rex,fun _=>rfl,fun z=>by cases z⟩;rw[List.map_append,List.take_add_one,p4];exact sub.append (List.Sublist.refl _);have kl:ak hh h4.next 0 2=some [vK,.int .i64 12]:=by rw[(G.get oK7).ld];rfl
 have le:ak hh h7.next 0 1=some [vE]:=by rw[oe.ld];rfl
 have vE1:vE.one=true:=by obtain⟨rfl,_⟩|⟨b,n,rfl,_⟩:=GE<;>rfl
 have Fh4:Fr [] h4 hh:=F46.then (F7.then G);have nG:=G.next;simp only[evs,seval,eff,g7,g2,g4,g5,g6,len,(oM:¬(i:Int)<X.length),kl,le];refine ai (o:=0) (v:=.agg [vK,.int .i64 12]) (c':=[vK,.int .i64 12]) G.wf oa rfl (by show av [_,_]=true;simp only[aB,aF,v1];rfl) rfl ?_;rintro ha xa Fa na;have kla:ak ha h4.next 0 2=some [vK,.int .i64 12]:=by rw[(Fa.own _ _ oO (G.get oK7)).ld];rfl
 have oe':=Fa.own _ _ oO oe;have lea:ak ha h7.next 0 1=some [vE]:=by rw[oe'.ld];rfl
 simp only[evs,seval,eff,g3];refine ai (o:=0) (v:=.agg [vE]) (c':=[vE]) Fa.wf (Fa.own _ _ oO oc) rfl (by show av [_]=true;simp only[aB,aF,vE1];rfl) rfl ?_;rintro hz xz Fz nz;have r1:ak hz h1.next 0 2=some [vK,.int .i64 12]:=by rw[(Fz.own _ _ oO xa).ld];rfl
 have r2:ak hz h2.next 0 1=some [vE]:=by rw[xz.ld];rfl
 simp only[evs,seval,DF,g2,g3,g4,g6,kl,le,lea,r1,r2];have Fh4a:Fr [h1.next] h4 ha:=Fr.trans Fh4 Fa F4.wf iS (fun x m=>.inl m);have Fh4z:Fr [h1.next,h2.next] h4 hz:=Fr.trans Fh4a Fz F4.wf iS (fun x m=>.inl (by simp at m⊢;exact .inr m));let⟨rz,kz⟩:=rkh _ hz oO Fh4z;have FN:Fr [] h hz:=((F07.then G).fresh Fa w oM).fresh Fz w oM;have ilz:=((il.fr G).keep Fa oO).keep Fz oO;have Gz:=((GE.keep Fa oO).keep Fz oO).le (C:=h.next) oM;refine⟨FN,vK,Ks,vX,X,vE,E,rfl,rz,kz,gk,okr,lk,ilz.le oM,Gz,eok,?_,oM⟩;have:=(sub.trans (List.take_sublist _ _)).map Itm.key;rw[List.map_map]at this;exact this.nodup il.n
def IxOf(m:Nat→Option Nat)(E:List Ent):Prop:=∀k j,m k=some j↔∃e,E[j]? =some e∧e.x.key=k
def okZ(E:List Ent):Prop:=∀e∈E,1≤e.b∧e.b≤2305843009213693952
theorem okZ.sum_nn:∀{E:List Ent},okZ E→0≤(E.map Ent.b).sum
 |[],_=>by simp
 |e::E,h=>by have h1:=h e iS;have h2:=okZ.sum_nn (E:=E) fun x m=>h x iX;simp only[List.map_cons,List.sum_cons];omega
theorem okZ.take{E:List Ent}(h:okZ E)(i:Nat):okZ (E.take i):=fun e m=>h e (List.mem_of_mem_take m)
theorem okZ.drop{E:List Ent}(h:okZ E)(i:Nat):okZ (E.drop i):=fun e m=>h e (List.mem_of_mem_drop m)
theorem okZ.split{E:List Ent}(i:Nat):(E.map Ent.b).sum=((E.take i).map Ent.b).sum+((E.drop i).map Ent.b).sum:=by rw[←List.sum_append,←List.map_append,List.take_append_drop]
theorem Bd{E:List Ent}{i:Nat}{e:Ent}(h:E[i]? =some e):((E.take (i+1)).map Ent.b).sum=((E.take i).map Ent.b).sum+e.b:=by rw[List.take_add_one,h];simp
theorem rN:∀(d:List V)(o:Nat),bC d o []=some d
 |[],o=>hU o
 |x::l,0=>cW x l
 |x::l,o+1=>by rw[aY,rN l o];rfl
theorem m9(d:List V):∀(c:List V)(o:Nat)(vs c':List V),bC c o vs=some c'→bC (c++d) o vs=some (c'++d)
 |[],o,[],c',e=>by rw[hU]at e;cases e;exact rN d o
 |[],o,v::vs,c',e=>by rw[kK]at e;cases e
 |x::l,0,[],c',e=>by rw[cW]at e;cases e;rfl
 |x::l,0,v::vs,c',e=>by
  rw[aO]at e;cases q:bC l 0 vs with
  |none=>rw[q]at e;cases e
  |some r=>rw[q]at e;cases e;rw[List.cons_append,aO,m9 d l 0 vs r q];rfl
 |x::l,o+1,vs,c',e=>by
  rw[aY]at e;cases q:bC l o vs with
  |none=>rw[q]at e;cases e
  |some r=>rw[q]at e;cases e;rw[List.cons_append,aY,m9 d l o vs r q];rfl
theorem pF(d:List V)(o:Nat)(vs d':List V)(e:bC d o vs=some d'):∀(c:List V),bC (c++d) (c.length+o) vs=some (c++d')
 |[]=>by simpa using e
 |x::l=>by rw[List.cons_append,List.length_cons,(oM:l.length+1+o=(l.length+o)+1),aY,pF d o vs d' e l];rfl
theorem sZ{α:Type}{f:α→List V}{k:Nat}(hf:∀x,(f x).length=k){y:α}{o:Nat}{vs:List V}:∀(L:List α)(i:Nat)(x:α),L[i]? =some x→bC (f x) o vs=some (f y)→bC (L.flatMap f) (i*k+o) vs=some ((L.set i y).flatMap f)
 |z::L,0,x,h,e=>by simp at h;subst h;rw[List.flatMap_cons,Nat.zero_mul,Nat.zero_add,List.set_cons_zero,List.flatMap_cons];exact m9 _ _ _ _ _ e
 |z::L,i+1,x,h,e=>by rw[List.flatMap_cons,List.set_cons_succ,List.flatMap_cons,show(i+1) *k+o=(f z).length+(i*k+o) by rw[hf,Nat.succ_mul];omega];exact pF _ _ _ _ (sZ hf L i x (eV h) e) _
theorem _root_.Go.Ev.Gs.ptr{h:Heap}{B e:Nat}{v:V}{cs:List V}{n:Nat}(g:Gs h B e v cs)(hn:cs.length=n*e)(he:0<e){i:Nat}(hi:i<n):∃b,vb v=[b]∧B≤b∧Own h b cs∧(∀k,aP (.ixs e) [v,.int k (i:Int)]=some (.ptr b (i*e)))∧∀h' c',Own h' b c'→c'.length=cs.length→Gs h' B e v c':=by obtain⟨rfl,rfl⟩|⟨b,m,rfl,h1,h2,h3,o⟩:=g;have h0:0=n*e:=hn;have:=Nat.mul_pos (oM:0<n) he;omega;have:m=n:=Nat.eq_of_mul_eq_mul_right he oM;subst this;refine⟨b,rfl,h3,o,fun k=>?_,fun h' c' o' hl=>.inr ⟨b,m,rfl,oM,h2,h3,o'⟩⟩;rw[lP _ _ _ _ _ _ _ oM oM];simp
theorem Aw{h:Heap}{e:Ent}(a:ItmH h e.x):av e.cells=true:=by show av (e.x.cells++[_,_])=true;rw[aN,a.one];rfl
theorem IxOf.same{m:Nat→Option Nat}{E E':List Ent}(ix:IxOf m E)(e:E'.map Ent.x=E.map Ent.x):IxOf m E':=by intro k j;rw[ix k j];have:=congrArg (fun l=>l[j]?) e;simp only[List.getElem?_map]at this;constructor;grind;grind
def Itm.val(x:Itm):Nat×Nat×Str×List Str:=(x.key,x.type,x.text,x.marks)
def Ent.val(e:Ent):(Nat×Nat×Str×List Str)×Int×Bool:=(e.x.val,e.b,e.kn)
theorem Itm.val_eq{x y:Itm}(e:x.val=y.val):x.key=y.key∧x.type=y.type∧x.text=y.text∧x.marks=y.marks:=by simp only[Itm.val,Prod.mk.injEq]at e;exact e
def E0:List V:=[.int .u64 0,.int .u8 0,.str [],.nils,.int .i64 0,.bool false]
theorem LoP.kl{h:Heap}{b:Nat}{pm:Option Nat}{l:List Int}{ks bs:List Bool}(a:LoP h b pm l ks bs):ks.length=l.length∧Fit l:=by let⟨p,vk,o,v1,ix,mk,e⟩:=a;exact⟨ix.len.1,ix.fit⟩
def LsO(N:Nat)(h:Heap)(v:V)(Z:List Ent):Prop:=(Z=[]∧v=.nils)∨∃b,v=.slice b 0 Z.length Z.length∧N≤b∧Own h b (Z.flatMap Ent.cells)∧∀z∈Z,CpO (b+1) h z.x.vm z.x.marks
theorem CpO.le{N M:Nat}{h:Heap}{v:V}{L:List (List UInt8)}(a:CpO N h v L)(l:M≤N):CpO M h v L:=by obtain⟨e,rfl|⟨b,rfl,hb,o⟩⟩|⟨b,e,hb,o⟩:=a;exact .inl ⟨e,.inl rfl⟩;exact .inl ⟨e,.inr ⟨b,rfl,oM,o⟩⟩;exact .inr ⟨b,e,oM,o⟩
theorem LsO.rs{N:Nat}{h:Heap}{v:V}{Z:List Ent}(a:LsO N h v Z):Recs Ent.cells 6 h v Z:=by obtain⟨rfl,rfl⟩|⟨b,rfl,_,o,_⟩:=a;exact Recs.nil;exact Sl.lit o (aE dM Z)
def SE(N:Nat)(Ks:List Knd)(h:Heap)(b:Nat)(E:List Ent):Prop:=
 ∃n0 K X st vK bg B bm S bl pm mc,Sto n0 h b K 12 X (E.map Ent.b) (E.map Ent.kn) st vK bg B bm S bl pm mc∧cM Ks K∧X.map Itm.val=E.map (fun e=>e.x.val)∧(∀x∈X,nZ x.vm=true)∧IxOf mc.1 E∧mc.2≤1024∧(∀y∈Wr b bg B bm S bl pm,N≤y)∧N≤n0.1
theorem SE.fr{N:Nat}{Ks:List Knd}{h h':Heap}{b:Nat}{E:List Ent}(w:WF h)(s:SE N Ks h b E)(f:Fr [] h h'):SE N Ks h' b E:=by let⟨n0,K,X,st,vK,bg,B,bm,S,bl,pm,mc,s,r⟩:=s;exact⟨n0,K,X,st,vK,bg,B,bm,S,bl,pm,mc,s.fr w f,r⟩
def SA(Ks:List Knd)(h:Heap)(b:Nat)(E:List Ent):Prop:=
 ∃n0 K X st vK bg B bm S bl pm mc,Sto n0 h b K 12 X (E.map Ent.b) (E.map Ent.kn) st vK bg B bm S bl pm mc∧cM Ks K∧X.map Itm.val=E.map (fun e=>e.x.val)∧(∀x∈X,nZ x.vm=true)∧IxOf mc.1 E
theorem SE.a{N:Nat}{Ks:List Knd}{h:Heap}{b:Nat}{E:List Ent}(s:SE N Ks h b E):SA Ks h b E:=by let⟨n0,K,X,st,vK,bg,B,bm,S,bl,pm,mc,s,r1,r2,r3,r4,_⟩:=s;exact⟨n0,K,X,st,vK,bg,B,bm,S,bl,pm,mc,s,r1,r2,r3,r4⟩
theorem nw(x:Itm):∀{a b:PT},PT.same a b→bI x a=bI x b
 |.nil,.nil,_=>rfl
 |.cons _ _ _ _ _ _ _ s n,.cons _ _ _ _ _ _ _ s' n',⟨h1,h2,h3,h4,h5,h6,h7⟩=>by subst h1 h2 h3 h4 h5;simp only[bI,nw x h6,nw x h7]
 |.nil,.cons _ _ _ _ _ _ _ _ _,h=>h.elim
 |.cons _ _ _ _ _ _ _ _ _,.nil,h=>h.elim
theorem Bh{Ks K:List Knd}(h:cM Ks K)(cap:Int)(x:Itm):bW K cap x=bW Ks cap x:=by
 unfold bW;cases e:Ks[x.type]? with
 |none=>
  have:K[x.type]? =none:=by rw[List.getElem?_eq_none_iff]at e⊢;rw[←eM h];exact e
  rw[this]
 |some q=>let⟨p,e2,s⟩:=kZ h e;rw[e2];let⟨h1,h2,h3,h4,h5,_,_,_,h9⟩:=s;simp only[dZ,h1,h2,h3,h4,h5,PT.same_count _ _ _ _ _ h9,nw x h9]
theorem wD{K:List Knd}{cap:Int}{p:Nat→Bool}:∀{seen:List Nat}{Y:List Itm},(∀y∈Y,okI y K.length=true∧bW K cap y=0∧p y.key=false∧y.key∉seen)→(Y.map Itm.key).Nodup→mA K cap p seen Y=0
 |_,[],_,_=>rfl
 |seen,y::Y,h,n=>by let⟨h1,h2,h3,h4⟩:=h y iS;rw[List.map_cons,List.nodup_cons]at n;simp only[mA];rw[h1,if_neg dI,if_neg iX,if_neg iX];refine wD (fun z m=>?_) n.2;let⟨g1,g2,g3,g4⟩:=h z iX;refine⟨g1,g2,g3,fun c=>?_⟩;obtain c|c:=List.mem_append.1 c;exact g4 c;grind
theorem rU:∀{L:List Int}{t:Int},(∀x∈L,1≤x∧x≤50)→t+50*L.length≤4611686018427387904→uo t L=0
 |[],_,_,_=>rfl
 |x::L,t,h,c=>by have:=h x iS;rw[List.length_cons]at c;simp only[uo];rw[if_neg oM,if_neg oM];exact rU (fun y m=>h y iX) oM
theorem jx:∀{L:List Int},(∀x∈L,1≤x∧x≤50)→0≤L.sum∧L.sum≤50*L.length
 |[],_=>by simp
 |x::L,h=>by have:=h x iS;have:=jx (L:=L) fun y m=>h y iX;simp only[List.sum_cons,List.length_cons];omega
theorem A7{L:List Int}(h:∀x∈L,1≤x∧x≤50)(hl:L.length≤1000):cG [] 0 L=0:=by have:=jx h;unfold cG;rw[if_pos iS,if_neg oO,if_pos (rU h oM),if_neg oO]
theorem wi:∀(X:List Itm)(mc:dX)(i:Nat),(X.map Itm.key).Nodup→∀k j,(fW mc X i).1 k=some j↔(∃n x,X[n]? =some x∧x.key=k∧j=i+n)∨((∀x∈X,x.key≠k)∧mc.1 k=some j)
 |[],mc,i,_,k,j=>by simp[fW]
 |x::r,mc,i,nd,k,j=>by
  rw[List.map_cons,List.nodup_cons]at nd;have ih:=wi r (uB mc x.key i) (i+1) nd.2 k j;simp only[fW];rw[ih];have ms:(uB mc x.key i).1 k=if k=x.key then some i else mc.1 k:=by simp only[uB,im]
  rw[ms];constructor;rintro(⟨n,y,h1,h2,h3⟩|⟨h1,h2⟩);exact .inl ⟨n+1,y,by simpa using h1,h2,oM⟩;by_cases c:k=x.key;rw[if_pos c]at h2;exact .inl ⟨0,x,rfl,c.symm,by cases h2;rfl⟩;grind;grind
theorem wj:∀(X:List Itm)(mc:dX)(i:Nat),(fW mc X i).2≤mc.2+X.length
 |[],_,_=>Nat.le_refl _
 |x::r,mc,i=>by
  have:=wj r (uB mc x.key i) (i+1);have h2:(uB mc x.key i).2≤mc.2+1:=by simp only[uB];split<;>omega
  simp only[fW,List.length_cons];omega
def Ent.ht(e:Ent):Nat×Int:=(e.x.key,e.b)
theorem sM{m:Nat→Option Nat}{E:List Ent}{bs:Ent→Int}(ix:IxOf m E)(hb:∀e∈E,1≤bs e∧bs e≤50)(h0:∀e∈E,e.kn=false→e.b=bs e)(h1:∀e∈E,e.kn=true→1≤e.b∧e.b≤50)(hl:E.length≤1000):
 ∀(n i c:Nat),i+n=E.length→∃c',iO m (((E.drop i).filter Ent.kn).map Ent.ht) c ((E.take i).map Ent.b++(E.drop i).map bs) ((E.take i).map Ent.kn++List.replicate n false)=(0,c',E.map Ent.b,E.map Ent.kn)
 |0,i,c,e=>by rw[List.drop_of_length_le oM,List.take_of_length_le oM];exact⟨c,by simp[iO]⟩
 |n+1,i,c,hi=>by
  have il:i<E.length:=oM;have p:E[i]? =some E[i]:=List.getElem?_eq_getElem il;generalize E[i]=e at p;have em:=List.mem_of_getElem? p;have lb:((E.take i).map Ent.b++(E.drop i).map bs).length=E.length:=by simp;omega
  have ih:=fun c=>sM ix hb h0 h1 hl n (i+1) c oM;have tk:((E.take i).map Ent.b).length=i:=by simp;omega
  have tk2:((E.take i).map Ent.kn).length=i:=by simp;omega
  rw[aG p];cases ek:e.kn with
  |false=>let⟨c',r⟩:=ih c;refine⟨c',?_⟩;rw[List.filter_cons_of_neg iX];rw[List.take_add_one,p]at r;simp only[Option.toList_some,List.map_append,List.map_cons,List.map_nil,List.append_assoc,List.singleton_append,ek,h0 e em ek]at r;rw[List.map_cons,List.replicate_succ];exact r
  |true=>
   let⟨c',r⟩:=ih (c+1);refine⟨c',?_⟩;rw[List.filter_cons_of_pos iX,List.map_cons,List.map_cons,List.replicate_succ];have mk:m e.x.key=some i:=(ix _ i).2 ⟨e,p,rfl⟩;have all:∀x∈(E.take i).map Ent.b++bs e::(E.drop (i+1)).map bs,1≤x∧x≤50:=by grind
   have sl:=jx all;have ll:((E.take i).map Ent.b++bs e::(E.drop (i+1)).map bs).length=E.length:=by simp;omega
   have g:((E.take i).map Ent.b++bs e::(E.drop (i+1)).map bs).getD i 0=bs e:=by grind
   have hx:cg ((E.take i).map Ent.b++bs e::(E.drop (i+1)).map bs) i e.b=0:=by have b1:=h1 e em ek;have b2:=hb e em;unfold cg;rw[if_pos ⟨oM,by rw[ll];omega⟩,if_neg oM,Int.toNat_natCast,g,if_neg (by rw[ll]at sl;omega)]
   have s1:((E.take i).map Ent.b++bs e::(E.drop (i+1)).map bs).set i e.b=(E.take i).map Ent.b++e.b::(E.drop (i+1)).map bs:=by grind
   have s2:((E.take i).map Ent.kn++false::List.replicate n false).set i true=(E.take i).map Ent.kn++true::List.replicate n false:=by grind
   rw[List.take_add_one,p]at r;simp only[Option.toList_some,List.map_append,List.map_cons,List.map_nil,List.append_assoc,List.singleton_append,ek]at r;simp only[iO,Ent.ht,mk,hx,if_pos,s1,s2];exact r
theorem Lv(q i:Nat)(hi:i<5):aP (.ixs 2) [.slice q 0 5 5,.int .i64 (i:Int)]=some (.ptr q (i*2)):=by have:i=0∨i=1∨i=2∨i=3∨i=4:=oM;obtain rfl|rfl|rfl|rfl|rfl:=this<;>simp[aP]<;>exact⟨_,rfl,rfl⟩
def Ep(b:Nat):List V:=[.int .u8 1,.func (.func 57) [.ptr b 0] [],.int .u8 2,.func (.func 58) [.ptr b 0] [],.int .u8 3,.func (.func 59) [.ptr b 0] [],.int .u8 4,.func (.func 60) [.ptr b 0] [],.int .u8 5,.func (.func 61) [.ptr b 0] []]
theorem Bi{n0:NL}{h:Heap}{b bg B bm S bl k n:Nat}{Ks:List Knd}{cap a c t:Int}{X:List Itm}{l:List Int}{kn st:List Bool}{vK v:V}{pm:Option Nat}{mc:dX}{cs:List V}{R:V→Heap→Prop}(w:WF h)(s:Sto n0 h b Ks cap X l kn st vK bg B bm S bl pm mc)
 (hk:k<256) (sl:ASl h 4 v n cs) (hE:∀h',dH k a c t n≠0→Fr [] h h'→R (.int .i64 (dH k a c t n)) h') (hD:dH k a c t n=0→∀h',Fr [] h h'→aj go (56+k) [.ptr b 0,.agg [.int .u8 (k:Int),.int .i64 a,.int .i64 c,.int .i64 t,v]] h' R):
 aj go 18 [.ptr b 0,.agg [.int .u8 (k:Int),.int .i64 a,.int .i64 c,.int .i64 t,v]] h R:=by
 have v1:v.one=true:=ASl.one sl;let⟨h1,e_h1,F_h1,o_h1⟩:=ao w [.int .u8 (k:Int),.int .i64 a,.int .i64 c,.int .i64 t,v];have s1:=s.fr w F_h1;have l5:ak h1 h.next 0 5=some [.int .u8 (k:Int),.int .i64 a,.int .i64 c,.int .i64 t,v]:=by rw[o_h1.ld];rfl
 refine ab ?_;simp only[evs,↓reduceIte,Nat.reduceEqDiff,Nat.reduceAdd,←e_h1];refine aa (pu s1) ?_;rintro _ _ ⟨rfl,rfl⟩;simp only[evs,↓reduceIte,Nat.reduceEqDiff,l5];apply aa (By F_h1.wf hk (sl.fr F_h1));rintro _ h2 ⟨rfl,F2⟩;have F02:=F_h1.then F2;by_cases c0:dH k a c t n=0;have kk:1≤k∧k≤5:=by unfold dH at c0;split at c0;cases c0;omega
 simp only[evs,↓reduceIte,Nat.reduceEqDiff,Nat.reduceAdd,Nat.reduceLT,c0];obtain⟨h3,e_h3⟩:∃h3,h3=halloc h2 (Ep b):=⟨_,rfl⟩;have F_h3:Fr [] h2 h3:=e_h3▸Fr.halloc F2.wf _;have o3:Own h3 h2.next (Ep b):=e_h3▸Own.new F2.wf _;change W _ _ _ (halloc h2 (Ep b)) _;rw[←e_h3];have n3:=hnx e_h3;have row:∀hh,Fr [] h3 hh→∀i,i<5→ak hh h2.next (i*2) 2=some [.int .u8 ((i+1:Nat):Int),.func (.func (57+i)) [.ptr b 0] []]:=by intro hh f i hi;have:i=0∨i=1∨i=2∨i=3∨i=4:=oM;rw[(f.get o3).ld];obtain rfl|rfl|rfl|rfl|rfl:=this<;>rfl
 refine aA (fun n env hh=>Fr [] h3 hh∧∃(i:Nat),env.get 32=some (.int .i64 i)∧env.get 31=some (.int .i64 (5:Nat))∧env.get 30=some (.slice h2.next 0 5 5)∧env.get 0=some (.ptr b 0)∧env.get 3=some (.ptr h.next 0)∧i<k∧n=5-i) 5 oM ?_ ?_;exact⟨Fr.refl F_h3.wf,0,iS,iS,iS,iS,iS,oM,rfl⟩;rintro n env hh ⟨F,i,g32,g31,g30,g0,g3,hi,rfl⟩;have hi5:i<5:=oM;have hlt':(i:Int)<(5:Nat):=oM;have p1:=Lv h2.next i hi5;have p3:=row hh F i hi5;let⟨h4,e_h4,F_h4,o_h4⟩:=ao F.wf [.int .u8 0,.nilf];simp only[evs,↓reduceIte,Nat.reduceEqDiff,g32,g31,g30,hlt',p1,p3,←e_h4];apply stu F_h4.wf o_h4;rintro h5 o5 F5 n5;have F05:Fr [] hh h5:=F_h4.fresh F5 F.wf (Nat.le_refl _);have x0:ag h5 hh.next 0=some (.int .u8 ((i+1:Nat):Int)):=o5.ld1 0;have x1:ag h5 hh.next 1=some (.func (.func (57+i)) [.ptr b 0] []):=o5.ld1 1;have Fa:=((F02.then F_h3).then F).then F05;have on:=((((F2.then F_h3).then F).then F05).get o_h1);have y0:ag h5 h.next 0=some (.int .u8 (k:Int)):=on.ld1 0;have y5:ak h5 h.next 0 5=some [.int .u8 (k:Int),.int .i64 a,.int .i64 c,.int .i64 t,v]:=by rw[on.ld];rfl
 by_cases ek:k=i+1;have ek':(((i+1:Nat):Int)=(k:Int)):=oM;have big:57+i<1099511627776:=oM;simp only[evs,↓reduceIte,Nat.reduceEqDiff,g3,x0,x1,y0,y5,eq_true ek',big];refine OQ.mono (show aj go (57+i) _ h5 R from ?_) ?_;have:=hD c0 h5 Fa;rw[(oM:56+k=57+i)]at this;exact this;intro u h' r;simp only[evs,↓reduceIte];exact r;have ek':¬(((i+1:Nat):Int)=(k:Int)):=oM;simp(disch:=omega) only[evs,↓reduceIte,Nat.reduceEqDiff,ah,g32,g3,x0,y0,eq_false ek'];refine rqn ⟨5-(i+1),oM,F.then F05,i+1,iS,iX,iX,iX,iX,oM,rfl⟩;simp only[evs,↓reduceIte,Nat.reduceEqDiff,eq_false c0];exact hE _ c0 F02
structure LOk(Ks:List Knd)(h:Heap)(E:List Ent):Prop where
 h:∀e∈E,ItmH h e.x∧nZ e.x.vm=true∧okI e.x 3=true∧bW Ks 12 e.x=0
 b:∀e∈E,e.kn=false→e.b=aL Ks e.x
 c:∀e∈E,e.kn=true→1≤e.b∧e.b≤50
 n:(E.map fun e=>e.x.key).Nodup
 l:E.length≤1000
 r:okR Ks 12=true∧Ks.length=3∧GK Ks
theorem Sto.wrlt{n0:NL}{h:Heap}{b bg B bm S bl:Nat}{Ks:List Knd}{cap:Int}{X:List Itm}{l:List Int}{kn st:List Bool}{vK:V}{pm:Option Nat}{mc:dX}(w:WF h)(s:Sto n0 h b Ks cap X l kn st vK bg B bm S bl pm mc):∀y∈Wr b bg B bm S bl pm,y<h.next:=by intro y m;simp only[Wr,List.mem_append,List.mem_cons,List.not_mem_nil,or_false]at m;obtain(rfl|rfl|rfl|rfl|rfl|rfl)|m:=m;exact s.ob.lt w;exact s.g.ob.1.lt w;exact s.gB.lt w;exact s.k.lt w;exact s.Sl';exact s.bl';exact s.pl y (eV m)
theorem sP{h:Heap}{b o n m:Nat}{r:List V}(e:ak h b o n=some r)(l:m≤n):ak h b o m=some (r.take m):=by unfold ak at e⊢;split at e;obtain⟨rfl,q⟩:=jv e;rw[aZ _ _ oM,List.take_take,Nat.min_eq_left l];cases e
theorem LOk.fr{Ks:List Knd}{h h':Heap}{E:List Ent}(a:LOk Ks h E)(f:Fr [] h h'):LOk Ks h' E:=⟨fun e m=>⟨(a.h e m).1.fr f,(a.h e m).2⟩,a.b,a.c,a.n,a.l,a.r⟩
theorem LOk.base{Ks:List Knd}{h:Heap}{E:List Ent}(a:LOk Ks h E):∀e∈E,1≤aL Ks e.x∧aL Ks e.x≤50:=by intro e m;have t:=(a.h e m).2.2.1;simp only[okI,Bool.and_eq_true,decide_eq_true_eq]at t;have p:Ks[e.x.type]? =some (Ks[e.x.type]'(by rw[a.r.2.1];exact t.2.1)):=List.getElem?_eq_getElem _;generalize Ks[e.x.type]'(by rw[a.r.2.1];exact t.2.1)=q at p;have g:=(a.r.2.2 q (List.mem_of_getElem? p)).2.2;rw[aL,p];exact g
theorem LOk.okZ{Ks:List Knd}{h:Heap}{E:List Ent}(a:LOk Ks h E):okZ E:=by intro e m;cases ek:e.kn;have:=a.base e m;rw[a.b e m ek];omega;have:=a.c e m ek;omega
theorem LOk.key{Ks:List Knd}{h:Heap}{E:List Ent}(a:LOk Ks h E):∀e∈E,0<e.x.key:=by intro e m;have t:=(a.h e m).2.2.1;simp only[okI,Bool.and_eq_true,decide_eq_true_eq]at t;omega
theorem _root_.Go.Ev.Gs.dj{h h':Heap}{B e:Nat}{v:V}{cs:List V}{Z:List Nat}(g:Gs h B e v cs)(f:Fr Z h h')(d:∀z∈Z,z∉vb v):Gs h' B e v cs:=by obtain z|⟨b,n,z1,z2,z3,z4,o⟩:=g;exact .inl z;exact .inr ⟨b,n,z1,z2,z3,z4,f.own _ _ (fun m=>d _ m (by rw[z1];simp[vb])) o⟩
theorem Cps.vals:∀{a b:List Itm},Cps a b→b.map Itm.val=a.map Itm.val
 |[],[],_=>rfl
 |_::_,_::_,h=>by obtain⟨⟨v,rfl,_⟩,h2⟩:=h;simp only[List.map_cons,Cps.vals h2];rfl
 |[],_::_,h=>h.elim
 |_::_,[],h=>h.elim
theorem BJ{X:List Itm}{E:List Ent}(ev:X.map Itm.val=E.map (fun e=>e.x.val))(n:(E.map fun e=>e.x.key).Nodup):IxOf (fW (fun _=>none,0) X 0).1 E:=by
 have ek:X.map Itm.key=E.map (fun e=>e.x.key):=by have:=congrArg (List.map Prod.fst) ev;rw[List.map_map,List.map_map]at this;exact this
 intro k j;rw[wi X _ 0 (by rw[ek];exact n)];constructor;rintro(⟨n,x,h1,h2,h3⟩|⟨_,h2⟩);have:=congrArg (fun l=>l[n]?) ek;simp only[List.getElem?_map,h1]at this;cases q:E[n]? with
 |none=>rw[q]at this;cases this
 |some e=>rw[q]at this;exact⟨e,by rw[(oM:j=n)];exact q,by rw[←h2];exact(Option.some.inj this).symm⟩
 cases h2;rintro⟨e,h1,h2⟩;have:=congrArg (fun l=>l[j]?) ek;simp only[List.getElem?_map,h1]at this;cases q:X[j]? with
 |none=>rw[q]at this;cases this
 |some x=>rw[q]at this;exact .inl ⟨j,x,q,by rw[←h2];exact Option.some.inj this,oM⟩
theorem HA{n0:NL}{N:Nat}{h:Heap}{b bg B bm S bl:Nat}{Ks K:List Knd}{vK v:V}{pm:Option Nat}{E:List Ent}(w:WF h)(s:Sto n0 h b K 12 [] [] [] [] vK bg B bm S bl pm (fun _=>none,0))(sk:cM Ks K)(wr:∀y∈Wr b bg B bm S bl pm,y<N)(o:LOk Ks h E)
 (hi:∀(Z:List Nat)(h':Heap),(∀z∈Z,z∈Wr b bg B bm S bl pm∨h.next≤z)→Fr Z h h'→∀e∈E,ItmH h' e.x) (g:Gs h N 4 v ((E.map Ent.x).flatMap Itm.cells)):aj go 18 [.ptr b 0,.agg [.int .u8 1,.int .i64 0,.int .i64 0,.int .i64 0,v]] h fun u h'=>u=.int .i64 0∧Fr (Wr b bg B bm S bl pm) h h'∧
  ∃X B' S' pm' mc,Sto n0 h' b K 12 X (E.map fun e=>aL Ks e.x) (List.replicate E.length false) (E.map fun e=>cJ Ks e.x) vK bg B' bm S' bl pm' mc∧X.map Itm.val=E.map (fun e=>e.x.val)∧(∀x∈X,nZ x.vm=true)∧IxOf mc.1 E∧mc.2≤1024∧
   ∀y∈Wr b bg B' bm S' bl pm',y∈Wr b bg B bm S bl pm∨h.next≤y:=by
 have sl:Sl h 4 v (E.map Ent.x).length ((E.map Ent.x).flatMap Itm.cells):=Gs.sl g (aE d8 _) oM;have v1:=sl.one;have el:(E.map Ent.x).length=E.length:=by simp
 have hl:=o.l;have okr:okR K 12=true:=by rw[←yf sk];exact o.r.1
 have e0:dH 1 0 0 0 (E.map Ent.x).length=0:=by simp[dH]
 refine Bi (k:=1) (n:=(E.map Ent.x).length) w s oM (Sl.a sl) (fun h' c f=>absurd e0 c) (fun _ h1 f1=>?_);have s1:=s.fr w f1;have eb:(E.map Ent.x).map (aL K)=E.map fun e=>aL Ks e.x:=by rw[List.map_map];exact List.map_congr_left fun e m=>(sj sk e.x).1
 have es:(E.map Ent.x).map (cJ K)=E.map fun e=>cJ Ks e.x:=by rw[List.map_map];exact List.map_congr_left fun e m=>(sj sk e.x).2
 have nd:((E.map Ent.x).map Itm.key).Nodup:=by rw[List.map_map];exact o.n
 have er:kH K 12 0 [] (E.map Ent.x) [] (fun _=>false)=0:=by
  unfold kH;have inc:mA K 12 (fun _=>false) [] (E.map Ent.x)=0:=by refine wD (fun y m=>?_) nd;obtain⟨e,em,rfl⟩:=List.mem_map.1 m;let⟨_,_,q1,q2⟩:=o.h e em;exact⟨by rw[←eM sk,o.r.2.1];exact q1,by rw[Bh sk];exact q2,rfl,iS⟩
  rw[if_neg iS,if_neg oO,inc,if_neg dI,eb];exact A7 (fun x m=>by obtain⟨e,em,rfl⟩:=List.mem_map.1 m;exact o.base e em) oO
 refine OQ.mono (BK (a:=0) f1.wf s1 oM okr iS iS iS (Y:=E.map Ent.x) (fun Z h' hZ f=>?_) (fun y m=>?_) oM (by simp only[aB,aF,v1];rfl)) ?_;have n1:=f1.next;have gl:=g.lt w;have f':Fr Z h h':=Fr.trans f1 f w iS (fun x m=>.inl m);refine⟨Sl.a (Gs.sl (g.dj f' fun z m c=>?_) (aE d8 _) oM),fun y m=>?_⟩;have:=g.vb z c;have:=gl z c;obtain q|q:=hZ z m;grind;omega;grind;obtain⟨e,em,rfl⟩:=List.mem_map.1 m;exact(o.h e em).2.1;rintro _ h' ⟨rfl,_,r2⟩;have er':kH K 12 0 [] (E.map Ent.x) [] (fun x=>(((fun _=>none,0):dX).1 x).isSome)=0:=er;rw[er']at r2⊢;let⟨_,_,_,Y',B',S',pm',cp,s2,f2,q1,q2,q3⟩:=r2 rfl;rw[eb,es]at s2;simp only[Int.toNat_zero,List.take_nil,List.drop_nil,List.nil_append,List.append_nil,List.drop_zero,el]at s2;have ev:Y'.map Itm.val=E.map (fun e=>e.x.val):=by rw[cp.vals,List.map_map];rfl
 refine⟨rfl,Fr.trans f1 f2 w iS (fun x m=>.inl m),Y',B',S',pm',_,s2,ev,cp.nz,BJ ev o.n,?_,?_⟩;have:=wj Y' (fun _=>none,0) 0;have:=cp.len;simp only[]at *;omega;have n1:=f1.next;intro y m;simp only[Wr,List.mem_append,List.mem_cons,List.not_mem_nil,or_false]at m⊢;obtain(m|m|m|m|m|m)|m:=m;omega;omega;omega;omega;omega;omega;grind
theorem Hb{n0:NL}{h:Heap}{b bg B bm S bl:Nat}{Ks K:List Knd}{vK v:V}{pm:Option Nat}{E:List Ent}{X:List Itm}{st:List Bool}{mc:dX}(w:WF h)(s:Sto n0 h b K 12 X (E.map fun e=>aL Ks e.x) (List.replicate E.length false) st vK bg B bm S bl pm mc)
 (ix:IxOf mc.1 E) (o:LOk Ks h E) (sv:∀(Z:List Nat)(h':Heap),(∀z∈Z,z∈Wr b bg B bm S bl pm∨h.next≤z)→Fr Z h h'→ARecs htC 2 h' v ((E.filter Ent.kn).map Ent.ht)):
 aj go 15 [.ptr b 0,v] h fun u h'=>∃c:Int,u=.tup [.int .i64 c,.int .i64 0]∧Fr (bl::pm.toList) h h'∧Sto n0 h' b K 12 X (E.map Ent.b) (E.map Ent.kn) st vK bg B bm S bl pm mc:=by
 have hl:=o.l;let⟨c',em⟩:=sM ix o.base o.b o.c oM E.length 0 0 oM;simp only[List.drop_zero,List.take_zero,List.map_nil,List.nil_append]at em;refine OQ.mono (v7 w s sv (fun x m=>?_) (by have:=List.length_filter_le Ent.kn E;simp;omega) (fun k j q=>?_)) ?_;obtain⟨e,me,rfl⟩:=List.mem_map.1 m;have me2:=List.mem_filter.1 me;have:=o.c e me2.1 me2.2;exact⟨(o.h e me2.1).1.k,by show _≤e.b;omega,by show e.b≤_;omega⟩;let⟨e,h1,_⟩:=(ix k j).1 q;have:=(List.getElem?_eq_some_iff.1 h1).1;omega;rintro _ h' ⟨rfl,r1,_⟩;rw[em]at r1⊢;let⟨f,s2⟩:=r1 rfl;exact⟨_,rfl,f,s2⟩
def SES(N:Nat)(Ks:List Knd)(h:Heap)(b:Nat)(E:List Ent):Prop:=
 ∃n0 K X vK bg B bm S bl pm mc,Sto n0 h b K 12 X (E.map Ent.b) (E.map Ent.kn) (E.map fun e=>cJ Ks e.x) vK bg B bm S bl pm mc∧cM Ks K∧X.map Itm.val=E.map (fun e=>e.x.val)∧(∀x∈X,nZ x.vm=true)∧IxOf mc.1 E∧mc.2≤1024∧(∀y∈Wr b bg B bm S bl pm,N≤y)∧N≤n0.1
theorem SES.se{N:Nat}{Ks:List Knd}{h:Heap}{b:Nat}{E:List Ent}(s:SES N Ks h b E):SE N Ks h b E:=by let⟨n0,K,X,vK,bg,B,bm,S,bl,pm,mc,s,r⟩:=s;exact⟨n0,K,X,_,vK,bg,B,bm,S,bl,pm,mc,s,r⟩
theorem Bf{h:Heap}{vK vE:V}{Ks:List Knd}{E:List Ent}(w:WF h)(rk:Recs Knd.cells 9 h vK Ks)(kh:∀q∈Ks,KndH h q)(re:Recs Ent.cells 6 h vE E)(o:LOk Ks h E):
 aj go 7 [.agg [vK,.int .i64 12],.agg [vE]] h fun u h'=>∃b,u=.ptr b 0∧Fr [] h h'∧SES h.next Ks h' b E:=by
 have v1:vK.one=true:=Sl.one rk;have v2:vE.one=true:=Sl.one re;have hl:=o.l;let⟨h1,e_h1,F_h1,o_h1⟩:=ao w [vK,.int .i64 12];let⟨h2,e_h2,F_h2,o_h2⟩:=ao F_h1.wf [vE];have n1:=hnx e_h1;have n2:=hnx e_h2;have F02:=F_h1.then F_h2;have c0:ak h2 h.next 0 2=some [vK,.int .i64 12]:=by rw[(F_h2.get o_h1).ld];rfl
 refine ab ?_;simp only[evs,seval,←e_h1,←e_h2,c0];refine aa (GB F02.wf (Recs.fr rk F02) (fun q m=>(kh q m).fr F02) (by rw[o.r.2.1];omega) o.r.1) ?_;rintro _ h3 ⟨b,bg,bm,bl,vK',K,rfl,F3,sk,s3,ge⟩;have F03:=F02.then F3;simp only[evs,seval];let⟨h4,e_h4,F_h4,o_h4⟩:=ao F3.wf [.int .u8 0,.int .i64 0,.int .i64 0,.int .i64 0,.nils];have n4:=hnx e_h4;simp only[←e_h4];apply stu F_h4.wf o_h4;rintro h5 o5 F5 n5;have F35:Fr [] h3 h5:=F_h4.fresh F5 F3.wf (Nat.le_refl _);have wl:∀y∈Wr b bg h2.next bm bm bl none,h2.next≤y∧y<h3.next:=fun y m=>⟨ge y m,s3.wrlt F3.wf y m⟩;simp only[evs];refine aA (fun n env hh=>Fr [] h3 hh∧∃(i:Nat)(vI vT:V),env.get 9=some (.int .i64 i)∧env.get 8=some vT∧env.get 7=some (.ptr h3.next 0)∧env.get 5=some (.ptr b 0)∧env.get 3=some (.ptr h1.next 0)∧i≤E.length∧Own hh h3.next [.int .u8 1,.int .i64 0,.int .i64 0,.int .i64 0,vI]∧
  Gs hh h4.next 4 vI (((E.take i).map Ent.x).flatMap Itm.cells)∧Gs hh h4.next 2 vT ((((E.take i).filter Ent.kn).map Ent.ht).flatMap htC)∧(∀z∈vb vI,z∉vb vT)∧n=E.length-i) E.length oM ?_ ?_
 exact⟨F35,0,.nils,.nils,iS,iS,iS,iS,iS,oM,o5,.inl ⟨rfl,rfl⟩,.inl ⟨rfl,rfl⟩,by simp[vb],rfl⟩;rintro n env hh ⟨F,i,vI,vT,g9,g8,g7,g5,g3,hi,on,GI,GT,dj,rfl⟩;have nF:=F.next;have onl:=on.lt F.wf;have F0h:=F03.then F;have gl3:ag hh h1.next 0=some vE:=((F3.then F).get o_h2).ld1 0;by_cases c:i<E.length;have p4:E[i]? =some E[i]:=List.getElem?_eq_getElem c;generalize E[i]=e at p4;have em:=List.mem_of_getElem? p4;have ae:=((o.h e em).1).fr F0h;have rd:∀{H},Fr [] h H→∃bi oi,aP (.ixs 6) [vE,.int .i64 (i:Int)]=some (.ptr bi oi)∧ak H bi oi 4=some e.x.cells∧ag H bi oi=some (.int .u64 (e.x.key:Int))∧ag H bi (oi+4)=some (.int .i64 e.b)∧ag H bi (oi+5)=some (.bool e.kn):=by intro H f;let⟨bi,oi,e',p1,p2,p3,p4'⟩:=(re.fr f).ix dM .i64 (i:Int) oM oM;rw[Int.toNat_natCast,p4]at p4';cases p4';exact⟨bi,oi,p1,sP p3 oM,p2 0 oM,p2 4 oM,p2 5 oM⟩
 let⟨bi,oi,p1,p3,_⟩:=rd F0h;let⟨hx,e_hx,F_hx,o_hx⟩:=ao F.wf e.x.cells;have nx:=hnx e_hx;have i0:ag hh h3.next 4=some vI:=on.ld1 4;have i1:ag hx h3.next 4=some vI:=(F_hx.get on).ld1 4;have u1:bC [.int .u64 0,.int .u8 0,.str [],.nils] 0 e.x.cells=some e.x.cells:=rfl;simp only[evs,seval,eff,g9,g7,g3,gl3,re.len,(oM:(i:Int)<E.length),i0,p1,p3,u1,(iR:e.x.cells.length=4),←e_hx];have ib:=GI.vb;have il:=GI.lt F.wf;have tb:=GT.vb;have tl:=GT.lt F.wf;refine Gs.append1 (bytes:=56) (n:=1) F_hx.wf (GI.fr F_hx) (Sl.lit o_hx rfl) oM oM ae.one oM (by rw[aE d8];simp;omega) ?_;intro vI' hy GI' eI FI;have ony:=FI.own _ _ (fun m=>by have:=ib _ m;omega) (F_hx.get on);have c1:=GI'.one;simp only[evs,seval,eff,g7];refine ai (c':=[.int .u8 1,.int .i64 0,.int .i64 0,.int .i64 0,vI']) FI.wf ony (by rw[az c1];rfl) (by rw[az c1];simp only[aB,aF,c1];rfl) (by rw[az c1];rfl) ?_;rintro hz oz Fz nz;have nI:=FI.next;have n3:=F.next;have FN:Fr [] h3 hz:=(Fr.new F3.wf (F.then F_hx) FI (fun z m=>by have:=ib z m;omega)).fresh Fz F3.wf (Nat.le_refl _);have F0z:=F03.then FN;have GIz:=GI'.keep Fz oO;have GTz:=((GT.fr F_hx).dj FI (fun z m=>dj z m)).keep Fz oO;have dz:∀z∈vb vI',z∉vb vT:=by grind
 have gz3:ag hz h1.next 0=some vE:=((F3.then FN).get o_h2).ld1 0;let⟨bz,oz',q1,q3,q0,q4,q5⟩:=rd F0z;have eqI:((E.take (i+1)).map Ent.x).flatMap Itm.cells=((E.take i).map Ent.x).flatMap Itm.cells++e.x.cells:=by rw[List.take_add_one,p4];simp
 simp(disch:=omega) only[evs,seval,DF,eff,ah,g9,g8,g3,gz3,q1,q5,i0,i1,gl3,p3];cases ek:e.kn with
 |false=>
  have eqT:(E.take (i+1)).filter Ent.kn=(E.take i).filter Ent.kn:=by rw[List.take_add_one,p4,List.filter_append];simp[ek]
  simp only[evs,seval];refine rqn ⟨E.length-(i+1),oM,FN,i+1,vI',vT,iS,iX,iX,iX,iX,oM,oz,by rw[eqI];exact GIz,by rw[eqT];exact GTz,dz,rfl⟩
 |true=>
  let⟨hq,e_hq,F_hq,o_hq⟩:=ao Fz.wf [.int .u64 (e.x.key:Int),.int .i64 e.b];have nq:=hnx e_hq;simp only[evs,seval,eff,g9,g3,gz3,q1,q0,q4,←e_hq];refine Gs.append1 (bytes:=16) (n:=1) F_hq.wf (GTz.fr F_hq) (Sl.lit o_hq rfl) oM oM rfl oM (by rw[aE (f:=htC) (k:=2) (fun _=>rfl)];have:=List.length_filter_le Ent.kn (E.take i);simp at this⊢;omega) ?_;intro vT' hr GT' eT FT;have FR:Fr [] h3 hr:=Fr.new F3.wf (FN.then F_hq) FT (fun z m=>by have:=tb z m;omega);have onr:=FT.own _ _ (fun m=>by have:=tb _ m;omega) (F_hq.get oz);have GIr:=(GIz.fr F_hq).dj FT (fun z m c=>dz z c m);have il':=GIz.lt Fz.wf;have eqT:(((E.take (i+1)).filter Ent.kn).map Ent.ht).flatMap htC=(((E.take i).filter Ent.kn).map Ent.ht).flatMap htC++[.int .u64 (e.x.key:Int),.int .i64 e.b]:=by rw[List.take_add_one,p4,List.filter_append];simp[ek];rfl
  simp(disch:=omega) only[evs,seval,DF,eff,ah,g9,gz3,q0,q4];refine rqn ⟨E.length-(i+1),oM,FR,i+1,vI',vT',iS,iS,iX,iX,iX,oM,onr,by rw[eqI];exact GIr,by rw[eqT];exact GT',?_,rfl⟩;intro z m c;rw[eT,List.mem_singleton]at c;have:=il' z m;omega
 have ei:i=E.length:=oM;subst ei;rw[List.take_of_length_le (Nat.le_refl _)]at GI GT;have l5:ak hh h3.next 0 5=some [.int .u8 1,.int .i64 0,.int .i64 0,.int .i64 0,vI]:=by rw[on.ld];rfl
 have tb:=GT.vb;have tl:=GT.lt F.wf;have sh:=s3.fr F3.wf F;have oh:=o.fr F0h;simp only[evs,seval,g9,g7,g5,g3,gl3,re.len,(oM:¬(E.length:Int)<E.length),l5];refine aa (HA (N:=h4.next) F.wf sh sk (fun y m=>by have:=wl y m;omega) oh (fun Z h' hZ f e m=>?_) GI) ?_;refine(o.h e m).1.fr (Fr.new w F0h f fun z mz=>?_);have:=F0h.next;obtain q|q:=hZ z mz;grind;omega;rintro _ ha ⟨rfl,Fa,X,B',S',pm',mc,sa,ev,nz,ix,mc2,wr'⟩;have F0a:Fr [] h ha:=Fr.new w F0h Fa (fun z m=>by have:=wl z m;omega);have na:=Fa.next;simp only[evs,seval,g8,g5];refine aa (Hb Fa.wf sa ix (o.fr F0a) (fun Z h' hZ f=>?_)) ?_;refine Sl.a (Gs.sl (n:=((E.filter Ent.kn).map Ent.ht).length) ((GT.dj Fa (fun z m c=>?_)).dj f (fun z m c=>?_)) (aE (f:=htC) (k:=2) (fun _=>rfl) _) oM);grind;grind;rintro _ hb ⟨c',rfl,Fb,sb⟩;simp only[evs,seval,g5];have wn:∀y∈Wr b bg B' bm S' bl pm',h.next≤y:=by intro y m;obtain q|q:=wr' y m;grind;have:=F0h.next;omega
 refine⟨b,rfl,Fr.new w F0a Fb (fun z m=>wn z ?_),(h2.next,none),K,X,vK',bg,B',bm,S',bl,pm',mc,sb,sk,ev,nz,ix,mc2,wn,F02.next⟩;obtain rfl|m:=List.mem_cons.1 m;simp[Wr];exact List.mem_append.2 (.inr m)
theorem CP{h:Heap}{vK vE:V}{Ks:List Knd}{E:List Ent}(w:WF h)(rk:Recs Knd.cells 9 h vK Ks)(kh:∀q∈Ks,KndH h q)(re:Recs Ent.cells 6 h vE E)(o:LOk Ks h E):
 aj go 7 [.agg [vK,.int .i64 12],.agg [vE]] h fun u h'=>∃b,u=.ptr b 0∧Fr [] h h'∧SE h.next Ks h' b E:=OQ.mono (Bf w rk kh re o) fun _ _ ⟨b,e,f,s⟩=>⟨b,e,f,s.se⟩
section
variable {n0 : NL} {h : Heap} {b bg B bm S bl : Nat} {Ks : List Knd} {cap : Int} {X : List Itm} {l : List Int} {kn st : List Bool} {vK : V} {pm : Option Nat} {mc : dX}
end
theorem D6{h:Heap}{q key:Nat}{e:Ent}(w:WF h)(o:Own h q [.int .u64 (key:Int)])(a:ItmH h e.x):aj go 96 [.agg e.cells,.ptr q 0] h fun u h'=>u=.bool (decide (e.x.key=key))∧Fr [] h h':=by let⟨h1,e_h1,F_h1,o_h1⟩:=ao w e.cells;have x0:ag h1 h.next 0=some (.int .u64 (e.x.key:Int)):=o_h1.ld1 0;have y0:ag h1 q 0=some (.int .u64 (key:Int)):=(F_h1.get o).ld1 0;have d:decide ((e.x.key:Int)=(key:Int))=decide (e.x.key=key):=decide_eq_decide.2 oM;refine ab ?_;simp only[evs,seval,←e_h1,x0,y0,d];exact F_h1
theorem DH{h:Heap}{vE:V}{E:List Ent}{key:Nat}{m:Nat→Option Nat}(w:WF h)(re:Recs Ent.cells 6 h vE E)(ie:∀e∈E,ItmH h e.x)(hE:E.length≤4096)(ix:IxOf m E):aj go 44 [.agg [vE],.int .u64 (key:Int)] h fun u h'=>u=fZ (m key)∧Fr [] h h':=by
 have v1:vE.one=true:=Sl.one re;let⟨h1,e_h1,F_h1,o_h1⟩:=ao w [vE];let⟨h2,e_h2,F_h2,o_h2⟩:=ao F_h1.wf [.int .u64 (key:Int)];have F02:=F_h1.then F_h2;have x0:ag h2 h.next 0=some vE:=(F_h2.get o_h1).ld1 0;refine ab ?_;simp only[evs,seval,←e_h1,←e_h2,x0];refine aa (R:=fun u h'=>u=.int .i64 (match m key with|some j=>(j:Int)|none=>-1)∧Fr [] h2 h') ?_ ?_
 refine ab ?_;simp only[evs,seval,(re.fr F02).len];refine aA (fun n env hh=>Fr [] h2 hh∧∃i:Nat,env.get 8=some (.int .i64 i)∧env.get 7=some (.int .i64 E.length)∧env.get 0=some vE∧env.get 1=some (.func (.func 96) [] [.ptr h1.next 0])∧i≤E.length∧(∀j e,j<i→E[j]? =some e→e.x.key≠key)∧n=E.length-i) E.length oM ?_ ?_;exact⟨Fr.refl F_h2.wf,0,iS,iS,iS,iS,oM,fun j e c=>by omega,rfl⟩;rintro n env hh ⟨F,i,g8,g7,g0,g1,hi,hn,rfl⟩;by_cases c:i<E.length;let⟨bi,oi,e,p1,_,p3,p4⟩:=(re.fr (F02.then F)).ix dM .i64 (i:Int) oM oM;rw[Int.toNat_natCast]at p4;have ae:=(ie e (List.mem_of_getElem? p4)).fr (F02.then F);have big:69<1099511627776:=oM;simp only[evs,seval,g8,g7,g0,g1,(oM:(i:Int)<E.length),p1,p3,big];refine aa (D6 F.wf (F.get o_h2) ae) ?_;rintro _ h3 ⟨rfl,F3⟩;by_cases ck:e.x.key=key;simp only[evs,seval,decide_eq_true ck];rw[(ix key i).2 ⟨e,p4,ck⟩];exact⟨rfl,F.then F3⟩;simp(disch:=omega) only[evs,seval,ah,g8,decide_eq_false ck];refine rqn ⟨E.length-(i+1),oM,F.then F3,i+1,iS,iX,iX,iX,oM,?_,rfl⟩;intro j e' hj hx;by_cases cj:j=i;grind;grind;simp only[evs,seval,g8,g7,(oM:¬(i:Int)<E.length)];refine⟨?_,F⟩;cases e:m key with
 |none=>rfl
 |some j=>let⟨e',q1,q2⟩:=(ix key j).1 e;have:=(List.getElem?_eq_some_iff.1 q1).1;exact absurd q2 (hn j e' oM q1)
 rintro _ h3 ⟨rfl,F3⟩;cases e:m key with
 |none=>simp only[evs,seval,fZ,(oM:max (-1:Int) 0=0),(dI:decide ((0:Int)≤-1)=false)];exact F02.then F3
 |some j=>simp only[evs,seval,fZ,(oM:max (j:Int) 0=j),(iS:decide ((0:Int)≤(j:Int))=true)];exact F02.then F3
theorem TreeS.on{N:Nat}{h' h2:Heap}{Ks:List Knd}{x:Itm}{cs:List V}{Z:List Nat}(t:TreeS N h' Ks x cs)(f:Fr Z h' h2)(hZ:∀z∈Z,z<N):TreeS N h2 Ks x cs:=by let⟨q,s,va,vc,t1,t2,t3,t4⟩:=t;refine⟨q,s,va,vc,t1,t2,fun X h3 hX g=>?_,t4⟩;refine t3 (Z++X) h3 (fun y m=>(List.mem_append.1 m).elim (hZ y) (hX y)) ⟨Nat.le_trans f.next g.next,g.wf,fun b c hb o=>g.own b c (fun m=>hb (List.mem_append.2 (.inr m))) (f.own b c (fun m=>hb (List.mem_append.2 (.inl m))) o),fun b c hb o=>g.pl b c (fun m=>hb (List.mem_append.2 (.inr m))) (f.pl b c (fun m=>hb (List.mem_append.2 (.inl m))) o),fun b x hx e=>g.lp b x hx (f.lp b x hx e),fun b c r=>g.ro b c (f.ro b c r)⟩
theorem TreeS.le{N M:Nat}{h':Heap}{Ks:List Knd}{x:Itm}{cs:List V}(t:TreeS N h' Ks x cs)(l:M≤N):TreeS M h' Ks x cs:=by let⟨q,s,va,vc,t1,t2,t3,t4⟩:=t;exact⟨q,s,va,vc,t1,t2,fun X h3 hX g=>t3 X h3 (fun y m=>Nat.lt_of_lt_of_le (hX y m) l) g,t4⟩
theorem yz{h:Heap}{vK:V}{Ks:List Knd}{cap:Int}{x:Itm}(w:WF h)(rk:Recs Knd.cells 9 h vK Ks)(kh:∀q∈Ks,KndH h q)(a:ItmH h x)(ht:x.type<Ks.length):
 aj go 92 [.agg [vK,.int .i64 cap],.agg x.cells] h fun u h'=>∃cs,u=.tup [.agg cs,.int .i64 (bW Ks cap x)]∧Fr [] h h'∧av cs=true∧cs.length=6∧(bW Ks cap x=0→TreeS h.next h' Ks x cs):=by
 have v1:vK.one=true:=Sl.one rk;let⟨h0,e_h0,F_h0,o_h0⟩:=ao w [vK,.int .i64 cap];let⟨h1,e_h1,F_h1,o_h1⟩:=ao F_h0.wf x.cells;let⟨h2,e_h2,F_h2,o_h2⟩:=ao F_h1.wf [.int .u8 0,.str [],.str [],.nils,.str [],.nils];have n0:=hnx e_h0;have n1:=hnx e_h1;have n2:=hnx e_h2;have F02:=F_h0.then (F_h1.then F_h2);have ob:=F_h2.get (F_h1.get o_h0);have ox:=F_h2.get o_h1;have l0:ag h2 h.next 0=some vK:=ob.ld1 0;have l1:ag h2 h.next 1=some (.int .i64 cap):=ob.ld1 1;have x1:ag h2 h0.next 1=some (.int .u8 (x.type:Int)):=ox.ld1 1;have x4:ak h2 h0.next 0 4=some x.cells:=by rw[ox.ld];rfl
 let⟨bk,ok',q,p1,_,p3,p4⟩:=(Recs.fr rk F02).ix dy .u8 (x.type:Int) oM oM;rw[Int.toNat_natCast]at p4;have hq:=kh q (List.mem_of_getElem? p4);have er:bW Ks cap x=dZ q.k q.tg q.ky q.sl q.tx q.sub x cap:=by simp[bW,p4]
 have p6:ak h2 bk ok' 6=some q.part:=sP p3 oM;refine ab ?_;simp only[evs,seval,eff,←e_h0,←e_h1,←e_h2,l0,x1,p1,p6,x4,l1];refine aa (sw (vs:=q.vs) (vp:=q.vp) F_h2.wf (hq.fr F02) (a.fr F02)) ?_;rintro _ h3 ⟨cs,rfl,F3,z1,z2⟩;have on:av cs=true∧cs.length=6:=by by_cases z:dZ q.k q.tg q.ky q.sl q.tx q.sub x cap=0;obtain⟨s,va,vc,rfl,n,_⟩:=z2 z;exact⟨NH.ones (n [] h3 iS (Fr.refl F3.wf)),rfl⟩;rw[z1 z];exact⟨rfl,rfl⟩
 have oz3:=F3.get o_h2;simp only[evs,seval,eff];refine ai (c':=cs) F3.wf oz3 on.2 on.1 (by
  rw[cD _ _ _ (by show 0+cs.length≤6;omega)];simp[V.cells];omega) ?_
 rintro h4 o4 F4 n4;have l4:ak h4 h1.next 0 6=some cs:=by rw[o4.ld,eP,aZ _ _ oM,List.take_of_length_le oM]
 simp only[evs,seval,DF,eff,l0,x1,p6,x4,l1,l4];refine⟨cs,by rw[er],(F02.then F3).fresh F4 w oM,on.1,on.2,fun z=>?_⟩;rw[er]at z;let⟨s,va,vc,e,n,es⟩:=z2 z;refine TreeS.le (N:=h2.next) ⟨q,s,va,vc,p4,e,fun X hh hX f=>n ([h1.next]++X) hh (fun y m=>?_) (Fr.trans F4 f F3.wf (fun y m=>.inl (List.mem_append.2 (.inl m))) (fun y m=>.inl (List.mem_append.2 (.inr m)))),es,oG z⟩ oM;obtain m|m:=List.mem_append.1 m;simp at m;omega;exact hX y m
theorem BF{h:Heap}{vE:V}{E:List Ent}(w:WF h)(re:Recs Ent.cells 6 h vE E)(ie:∀e∈E,ItmH h e.x)(hE:E.length≤4096)(ok:okZ E)(hs:(E.map Ent.b).sum≤4611686018427387904):
 aj go 129 [.agg [vE]] h fun u h'=>u=.int .i64 (E.map Ent.b).sum∧Fr [] h h':=by
 have v1:vE.one=true:=Sl.one re;let⟨h1,e_h1,F_h1,o_h1⟩:=ao w [vE];have x0:ag h1 h.next 0=some vE:=o_h1.ld1 0;refine ab ?_;simp only[evs,seval,←e_h1,x0,(re.fr F_h1).len];refine aA (fun n env hh=>Fr [] h hh∧∃i:Nat,env.get 10=some (.int .i64 i)∧env.get 9=some (.int .i64 E.length)∧env.get 8=some vE∧env.get 3=some (.int .i64 ((E.take i).map Ent.b).sum)∧i≤E.length∧n=E.length-i) E.length oM ?_ ?_;exact⟨F_h1,0,iS,iS,iS,iS,oM,rfl⟩;rintro n env hh ⟨F,i,g10,g9,g8,g3,hi,rfl⟩;have nn:=(ok.take i).sum_nn;by_cases c:i<E.length;let⟨bi,oi,e,p1,_,p3,p4⟩:=(re.fr F).ix dM .i64 (i:Int) oM oM;rw[Int.toNat_natCast]at p4;have em:=List.mem_of_getElem? p4;have ob:=ok e em;have ts:=Bd p4;have:=(ok.drop (i+1)).sum_nn;have:=okZ.split (E:=E) (i+1);let⟨h3,e_h3,F_h3,o_h3⟩:=ao F.wf [.int .u64 0,.int .u8 0,.str [],.nils,.int .i64 0,.bool false];simp only[evs,seval,g10,g9,g8,(oM:(i:Int)<E.length),p1,p3,←e_h3];refine ai (c':=e.cells) F_h3.wf o_h3 rfl (Aw ((ie e em).fr F)) rfl ?_;rintro h4 o4 F4 n4;have F04:Fr [] hh h4:=F_h3.fresh F4 F.wf (Nat.le_refl _);have l4:ag h4 hh.next 4=some (.int .i64 e.b):=o4.ld1 4;simp(disch:=omega) only[evs,seval,ah,g10,g3,l4,(oM:max e.b 0=e.b),eq_false (oM:¬4611686018427387904-((E.take i).map Ent.b).sum<e.b)];refine rqn ⟨E.length-(i+1),oM,F.then F04,i+1,iS,iX,iX,(by rw[ts];simp),oM,rfl⟩;rw[List.take_of_length_le oM]at g3;simp only[evs,seval,g10,g9,g3,(oM:¬(i:Int)<E.length)];exact F
theorem Bz{h:Heap}{vE:V}{E:List Ent}(w:WF h)(re:Recs Ent.cells 6 h vE E)(ie:∀e∈E,ItmH h e.x)(hE:E.length≤4096)(ok:okZ E)(hs:(E.map Ent.b).sum≤4611686018427387904):
 aj go 94 [.agg [vE]] h fun u h'=>u=.int .i64 0∧Fr [] h h':=by
 have v1:vE.one=true:=Sl.one re;let⟨h1,e_h1,F_h1,o_h1⟩:=ao w [vE];have x1:ak h1 h.next 0 1=some [vE]:=by rw[o_h1.ld];rfl
 refine ab ?_;simp only[evs,seval,←e_h1,x1];refine aa (BF F_h1.wf (re.fr F_h1) (fun e m=>(ie e m).fr F_h1) hE ok hs) ?_;rintro _ h2 ⟨rfl,F2⟩;simp only[evs,seval,eq_false (oM:¬4611686018427387904<(E.map Ent.b).sum)];exact F_h1.then F2
theorem LOk.sum{Ks:List Knd}{h:Heap}{E:List Ent}(o:LOk Ks h E):(E.map Ent.b).sum≤50000:=by
 have:=jx (L:=E.map Ent.b) (fun x m=>by
  obtain⟨e,em,rfl⟩:=List.mem_map.1 m;cases ek:e.kn;rw[o.b e em ek];exact o.base e em;exact o.c e em ek)
 have hl:=o.l;simp at this;omega
theorem BG{h:Heap}{vK vE:V}{Ks:List Knd}{E:List Ent}(w:WF h)(rk:Recs Knd.cells 9 h vK Ks)(kh:∀q∈Ks,KndH h q)(re:Recs Ent.cells 6 h vE E)(o:LOk Ks h E):
 aj go 43 [.agg [vK,.int .i64 12],.agg [vE]] h fun u h'=>u=.int .i64 0∧Fr [] h h':=by
 have v1:vK.one=true:=Sl.one rk;have v2:vE.one=true:=Sl.one re;have hl:=o.l;have k3:=o.r.2.1;let⟨h1,e_h1,F_h1,o_h1⟩:=ao w [vK,.int .i64 12];let⟨h2,e_h2,F_h2,o_h2⟩:=ao F_h1.wf [vE];have n1:=hnx e_h1;have n2:=hnx e_h2;have F02:=F_h1.then F_h2;have c0:ak h2 h.next 0 2=some [vK,.int .i64 12]:=by rw[(F_h2.get o_h1).ld];rfl
 refine ab ?_;simp only[evs,seval,←e_h1,←e_h2,c0];refine aa (iI F_h2.wf (Recs.fr rk F02) (fun q m=>(kh q m).fr F02) oM) ?_;rintro _ h3 ⟨rfl,F3⟩;rw[o.r.1];have kk:∀{H},Fr [] h3 H→ak H h.next 0 2=some [vK,.int .i64 12]:=fun f=>by rw[(f.get (F3.get (F_h2.get o_h1))).ld];rfl
 have k0:∀{H},Fr [] h3 H→ag H h.next 0=some vK:=fun f=>(f.get (F3.get (F_h2.get o_h1))).ld1 0;have ee:∀{H},Fr [] h3 H→ag H h1.next 0=some vE:=fun f=>(f.get (F3.get o_h2)).ld1 0;have e1:∀{H},Fr [] h3 H→ak H h1.next 0 1=some [vE]:=fun f=>by rw[(f.get (F3.get o_h2)).ld];rfl
 have e3:=ee (Fr.refl F3.wf);have F03:=F02.then F3;simp only[evs,seval,e3,re.len,(oM:¬(1024:Int)<E.length)];obtain⟨h4,e_h4⟩:∃h4,h4=kI h3:=⟨_,rfl⟩;have F_h4:Fr [] h3 h4:=e_h4▸Fr.hnew F3.wf _;have s4:Seen h4 h3.next []:=⟨[],0,by rw[e_h4];exact qt _ _,rfl,iS⟩;have e4:=ee F_h4;simp only[evs,seval,Im,←e_h4,e4,re.len];refine aA (fun n env hh=>Fr [] h3 hh∧∃(i:Nat),env.get 25=some (.int .i64 i)∧env.get 24=some (.int .i64 E.length)∧env.get 23=some vE∧env.get 2=some (.ptr h.next 0)∧env.get 3=some (.ptr h1.next 0)∧env.get 6=some (.map h3.next)∧
  i≤E.length∧Seen hh h3.next ((E.take i).map fun e=>e.x.key)∧n=E.length-i) E.length oM ?_ ?_
 exact⟨F_h4,0,iS,iS,iS,iS,iS,iS,oM,s4,rfl⟩;rintro n env hh ⟨F,i,g25,g24,g23,g2,g3,g6,hi,S,rfl⟩;have F0:=F03.then F;by_cases c:i<E.length;let⟨bi,oi,e,p1,_,p3,p4⟩:=(re.fr F0).ix dM .i64 (i:Int) oM oM;rw[Int.toNat_natCast]at p4;have em:=List.mem_of_getElem? p4;let⟨ax,nz,oi,re0⟩:=o.h e em;have oi':okI e.x Ks.length=true:=by rw[k3];exact oi
 have ht:e.x.type<Ks.length:=by simp only[okI,Bool.and_eq_true,decide_eq_true_eq]at oi';exact oi'.2.1
 let⟨h5,e_h5,F_h5,o_h5⟩:=ao F.wf [.int .u64 0,.int .u8 0,.str [],.nils,.int .i64 0,.bool false];simp only[evs,seval,g25,g24,g23,(oM:(i:Int)<E.length),p1,p3,←e_h5];refine ai (c':=e.cells) F_h5.wf o_h5 rfl (Aw (ax.fr F0)) rfl ?_;rintro h6 o6 F6 n6;have Fh6:Fr [] hh h6:=F_h5.fresh F6 F.wf (Nat.le_refl _);have F36:=F.then Fh6;have i4:∀{H},Own H hh.next e.cells→ak H hh.next 0 4=some e.x.cells:=fun o=>by rw[o.ld];rfl
 have i0:∀{H},Own H hh.next e.cells→ag H hh.next 0=some (.int .u64 (e.x.key:Int)):=fun o=>o.ld1 0;have i4a:=i4 o6;have k0a:=k0 F36;simp only[evs,seval,g2,i4a,k0a,(Recs.len rk)];apply aa (xr Fh6.wf (ax.fr (F0.then Fh6)) oM);rintro _ h7 ⟨rfl,F7⟩;rw[oi'];have o7:=F7.get o6;have i0a:=i0 o7;have S7:=(S.fr Fh6).fr F7;have nk:e.x.key∉(E.take i).map fun e=>e.x.key:=by
  intro m;have nd:=o.n;have:E.map (fun e=>e.x.key)=(E.take i).map (fun e=>e.x.key)++e.x.key::(E.drop (i+1)).map (fun e=>e.x.key):=by rw[←List.map_cons (f:=fun e:Ent=>e.x.key),←aG p4,←List.map_append,List.take_append_drop]
  rw[this,List.nodup_append]at nd;exact nd.2.2 _ m _ iS rfl
 simp only[evs,seval,g6,i0a,Di,qY,uJ S7,decide_eq_false nk,Il,xM];apply Ag F7.wf S7 nk;intro h8 S8 B8 n8;have F38:Fr [] h3 h8:=FrB.fr F3.wf (F36.then F7) B8 iS (Nat.le_refl _);have F08:=F03.then F38;have o8:=B8.own _ _ iS o7;have i4b:=i4 o8;have kkb:=kk F38;simp only[evs,seval,g2,i4b,kkb];apply aa (yz F38.wf (Recs.fr rk F08) (fun q m=>(kh q m).fr F08) (ax.fr F08) ht);rintro _ h9 ⟨cs,rfl,F9,on,cl,_⟩;let⟨ha,e_ha,F_ha,o_ha⟩:=ao F9.wf [.int .u8 0,.str [],.str [],.nils,.str [],.nils];simp only[evs,←e_ha];refine ai (c':=cs) F_ha.wf o_ha cl on (by
  rw[cD _ _ _ (by show 0+cs.length≤6;omega)];simp[V.cells];omega) ?_
 rintro hb ob Fb nb;have F8b:Fr [] h8 hb:=(F9.then F_ha).fresh Fb F38.wf F9.next;have F3b:=F38.then F8b;have obx:=F8b.get o8;have b4:ag hb hh.next 4=some (.int .i64 e.b):=obx.ld1 4;have b5:ag hb hh.next 5=some (.bool e.kn):=obx.ld1 5;have Sb:=S8.fr F8b;have es:(E.take (i+1)).map (fun e=>e.x.key)=(E.take i).map (fun e=>e.x.key)++[e.x.key]:=by rw[List.take_add_one,p4];simp
 simp only[evs,seval,eff,re0,b4];apply aa (sU e.b);rintro _ _ ⟨rfl,rfl⟩;have okb:okB e.b=true:=by have:=o.okZ e em;simp only[okB,Bool.and_eq_true,decide_eq_true_eq];exact this
 cases ek:e.kn with
 |true=>rw[ek]at b5;simp(disch:=omega) only[evs,seval,DF,eff,ah,g25,b4,b5,okb];refine rqn ⟨E.length-(i+1),oM,F3b,i+1,iS,iX,iX,iX,iX,iX,oM,by rw[es];exact Sb,rfl⟩
 |false=>
  rw[ek]at b5;have k0b:=k0 F3b;have b1:ag hb hh.next 1=some (.int .u8 (e.x.type:Int)):=obx.ld1 1;let⟨bk,ok',q,q1,q2,q3,q4⟩:=(Recs.fr rk (F03.then F3b)).ix dy .u8 (e.x.type:Int) oM oM;rw[Int.toNat_natCast]at q4;have q6:ag hb bk (ok'+6)=some (.int .i64 q.base):=q2 6 oM;have qb:e.b=q.base:=by rw[o.b e em ek];simp[aL,q4]
  have okb2:okB q.base=true:=by grind
  simp(disch:=omega) only[evs,seval,DF,eff,ah,g25,g2,b4,b5,okb2,k0b,b1,q1,q6,qb];refine rqn ⟨E.length-(i+1),oM,F3b,i+1,iS,iX,iX,iX,iX,iX,oM,by rw[es];exact Sb,rfl⟩
 have l1:=e1 F;simp only[evs,seval,g25,g24,g3,(oM:¬(i:Int)<E.length),l1];have os:=o.sum;apply aa (Bz F.wf (re.fr F0) (fun e m=>((o.h e m).1).fr F0) oM o.okZ oM);rintro _ h5 ⟨rfl,F5⟩;simp only[evs,seval];exact F0.then F5
structure Drawn(N M:Nat)(h:Heap)(Ks:List Knd)(vE:V)(X:List Itm)(E:List Ent):Prop where
 g:Gs h N 6 vE (E.flatMap Ent.cells)
 l:∀z∈vb vE,z<M
 i:∀e∈E,ItmG N h e.x
 il:∀e∈E,∀z∈vb e.x.vm,z<M
 o:∀h',(∀e∈E,ItmH h' e.x)→LOk Ks h' E
 n:E.length≤12
theorem Drawn.keep{N M:Nat}{h h':Heap}{Ks:List Knd}{vE:V}{X:List Itm}{E:List Ent}{Z:List Nat}(d:Drawn N M h Ks vE X E)(f:Fr Z h h')(l:∀z∈Z,z<N∨M≤z):Drawn N M h' Ks vE X E:=
 ⟨d.g.dj f (fun z m c=>by have:=d.l z c;have:=d.g.vb z c;have:=l z m;omega),d.l,fun e m=>(d.i e m).keep f (fun z mz c=>by have:=d.il e m z c;have:=(d.i e m).g.vb z c;have:=l z mz;omega),d.il,d.o,d.n⟩
theorem Drawn.H{N M:Nat}{h:Heap}{Ks:List Knd}{vE:V}{X:List Itm}{E:List Ent}(d:Drawn N M h Ks vE X E):∀e∈E,ItmH h e.x:=fun e m=>(d.i e m).H
theorem Drawn.lok{N M:Nat}{h:Heap}{Ks:List Knd}{vE:V}{X:List Itm}{E:List Ent}(d:Drawn N M h Ks vE X E):LOk Ks h E:=d.o h d.H
theorem Drawn.rs{N M:Nat}{h:Heap}{Ks:List Knd}{vE:V}{X:List Itm}{E:List Ent}(d:Drawn N M h Ks vE X E):Recs Ent.cells 6 h vE E:=Gs.sl (n:=E.length) d.g (aE dM _) oM
open Go.Ev.St
set_option maxRecDepth 4000
abbrev zz:Str:=[122,122]
theorem CV{L M:List Str}(e:L.flatMap sS=M.flatMap sS):L.length=M.length:=by have:=congrArg List.length e;rw[aE fT,aE fT]at this;omega
theorem CpO.lenS{N:Nat}{h:Heap}{v:V}{L:List Str}(a:CpO N h v L):aP .lenS [v]=some (.int .i64 L.length):=a.rs.len
theorem CpO.capS{N:Nat}{h:Heap}{v:V}{L:List Str}(a:CpO N h v L):aP .capS [v]=some (.int .i64 L.length):=by obtain⟨rfl,rfl|⟨b,rfl,_⟩⟩|⟨b,rfl,_⟩:=a<;>rfl
theorem CpO.wr{N b:Nat}{h h':Heap}{v:V}{L M M':List Str}(a:CpO N h v L)(f:Fr [b] h h')(o:Own h b (M.flatMap sS))(o':Own h' b (M'.flatMap sS))(e:M'.length=M.length):∃L',L'.length=L.length∧CpO N h' v L':=by obtain⟨rfl,rfl|⟨b',rfl,hb,ob⟩⟩|⟨b',rfl,hb,ob⟩:=a;exact⟨[],rfl,.inl ⟨rfl,.inl rfl⟩⟩;by_cases c:b'=b;subst c;have q:M.flatMap sS=([]:List Str).flatMap sS:=o.uniq ob;have q2:=CV q;have:M'=[]:=List.length_eq_zero_iff.1 (by rw[e,q2];rfl);subst this;exact⟨[],rfl,.inl ⟨rfl,.inr ⟨_,rfl,hb,o'⟩⟩⟩;exact⟨[],rfl,.inl ⟨rfl,.inr ⟨_,rfl,hb,f.own _ _ (eV c) ob⟩⟩⟩;by_cases c:b'=b;subst c;have q2:=CV (o.uniq ob);exact⟨M',oM,.inr ⟨_,by rw[e,q2],hb,o'⟩⟩;exact⟨L,rfl,.inr ⟨_,rfl,hb,f.own _ _ (eV c) ob⟩⟩
theorem CpO.ix{N:Nat}{h:Heap}{v:V}{L:List Str}{i:Nat}(a:CpO N h v L)(hi:i<L.length):∃b,N≤b∧Own h b (L.flatMap sS)∧aP (.ixs 1) [v,.int .i64 (i:Int)]=some (.ptr b i)∧bC (L.flatMap sS) i [.str zz]=some ((L.set i zz).flatMap sS):=by have p:L[i]? =some L[i]:=List.getElem?_eq_getElem hi;have u:=sZ (y:=zz) (o:=0) (vs:=[.str zz]) fT L i L[i] p rfl;rw[Nat.mul_one,Nat.add_zero]at u;obtain⟨rfl,_⟩|⟨b,rfl,hb,o⟩:=a;simp at hi;refine⟨b,hb,o,?_,u⟩;rw[jV _ _ _ _ _ _ _ oM oM];simp
section
variable {env : T V} {h h7 : Heap} {N : Nat} (w7 : WF h7) (hN : h7.next ≤ N)
include w7 hN
def LsW(N bo:Nat)(h:Heap)(Z Z':List Ent):Prop:=bo<N∧Own h bo (Z'.flatMap Ent.cells)∧Z'.map Ent.x=Z.map Ent.x∧∀z∈Z,∃L',L'.length=z.x.marks.length∧CpO N h z.x.vm L'
end
open Go.Ev.St
set_option maxRecDepth 4000
section
variable {env : T V} {h h7 : Heap} {N : Nat} (w7 : WF h7)
theorem LsW.wr{bo b:Nat}{h h':Heap}{Z Z':List Ent}{M M':List Str}(a:LsW N bo h Z Z')(hb:N≤b)(f:Fr [b] h h')(o:Own h b (M.flatMap sS))(o':Own h' b (M'.flatMap sS))(e:M'.length=M.length):LsW N bo h' Z Z':=by let⟨l,ob,ex,cs⟩:=a;refine⟨l,f.own _ _ oO ob,ex,fun z m=>?_⟩;let⟨L,e1,c1⟩:=cs z m;let⟨L',e2,c2⟩:=c1.wr f o o' e;exact⟨L',oM,c2⟩
include w7
end
open Go.Ev.St
set_option maxRecDepth 4000
theorem uH(k t:Nat)(x:Str)(m:List Str)(v u:V):∀p:PT,bI ⟨k,t,x,m,v⟩ p=bI ⟨k,t,x,m,u⟩ p
 |.nil=>rfl
 |.cons _ _ _ _ _ _ _ s n=>by simp only[bI,uH k t x m v u s,uH k t x m v u n];rfl
theorem xU{y z:Itm}(e:y.val=z.val):y=⟨z.key,z.type,z.text,z.marks,y.vm⟩:=by let⟨e1,e2,e3,e4⟩:=Itm.val_eq e;let⟨a,b,c,d,v⟩:=y;simp only at e1 e2 e3 e4;subst e1 e2 e3 e4;rfl
theorem Dw{y z:Itm}(e:y.val=z.val)(p:PT):bI y p=bI z p:=by rw[xU e];exact uH _ _ _ _ _ _ p
theorem HR{y z:Itm}(e:y.val=z.val):att y=att z:=by rw[xU e];rfl
theorem CZ{y z:Itm}{Ks:List Knd}{cap:Int}(e:y.val=z.val):bW Ks cap y=bW Ks cap z:=by
 unfold bW;let⟨_,e2,_⟩:=Itm.val_eq e;rw[e2];split;unfold dZ;rw[Dw e,HR e];have:fX y=fX z:=by rw[xU e];rfl
 rw[this];rfl
theorem Gp.spare{h:Heap}{b B D n:Nat}{l:List V}(g:Gp h b B n l)(gD:Good_s h D)(hD:D≠b):∃B',(B'=D∨B'=B)∧Gp h b B' n l∧Good_s h B':=by let⟨v,c1,G,c2,a,gg,m,k,x⟩:=g;obtain⟨hl,⟨e,z⟩|⟨e,o⟩⟩:=id k.tb;exact⟨D,.inl rfl,⟨v,c1,G,c2,a,gg,m,{k with tb:=⟨hl,.inl ⟨e,z⟩⟩,ne:=hD},x⟩,gD⟩;exact⟨B,.inr rfl,⟨v,c1,G,c2,a,gg,m,k,x⟩,⟨_,o,oM,yw k.n6⟩⟩
theorem Sto.step{n0:NL}{h h':Heap}{b bg B bm S bl B' S':Nat}{Ks:List Knd}{cap:Int}{X X':List Itm}{l l':List Int}{kn st kn' st':List Bool}{vK:V}{pm:Option Nat}{mc mc':dX}(w:WF h)(s:Sto n0 h b Ks cap X l kn st vK bg B bm S bl pm mc)
 (f:Fr (Wr b bg B bm S bl pm) h h') (ob:Own h' b [vK,.int .i64 cap,.ptr bg 0,.ptr bm 0,.ptr bl 0]) (g:Gp h' bg B' X'.length (X'.flatMap Itm.cells)) (gB:Good_s h' B') (k:Km h' bm S' mc'.1 mc'.2) (gS:Good_s h' S') (lo:LoP h' bl pm l' kn' st')
 (len:l'.length=X'.length) (hB:B'=B∨h.next≤B') (hS:S'=S∨h.next≤S') (sub:∀x∈X',x∈X) (dB:B'≠S'):Sto n0 h' b Ks cap X' l' kn' st' vK bg B' bm S' bl pm mc':=by
 have d:=s.d;have fn:=f.next;have n0l:=s.n0l;have lb:=s.ob.lt w;have lg:bg<h.next:=s.g.ob.1.lt w;have lm:=s.k.lt w;have ll:=s.bl';have pl:=s.pl;refine⟨ob,g,gB,k,gS,lo,len,?_,?_,gS.lt f.wf,fun q e=>by have:=pl q e;omega,oM,fun z q=>by have:=n0l z q;omega⟩;intro Z h2 hZ f2;have r:=s.rd (Wr b bg B bm S bl pm++Z) h2 (fun z m=>?_) (Fr.trans f f2 w (fun x m=>.inl (List.mem_append.2 (.inl m))) (fun x m=>.inl (List.mem_append.2 (.inr m))));grind;obtain m|m:=List.mem_append.1 m;exact .inl m;obtain q|q|q:=hZ z m;simp only[Wr,List.mem_append,List.mem_cons,List.not_mem_nil,or_false]at q⊢;obtain(q|q|q|q|q|q)|q:=q;omega;omega;omega;omega;omega;omega;exact .inl (.inr q);omega;exact .inr (.inr q);have nB:∀y,y<h.next→y≠B→y≠B':=fun y a c=>by obtain rfl|q:=hB<;>omega
 have nS:∀y,y<h.next→y≠S→y≠S':=fun y a c=>by obtain rfl|q:=hS<;>omega
 refine⟨d.b1,nB b lb d.b2,d.b3,nS b lb d.b4,d.b5,d.g1,nS bg lg d.g2,d.g3,(nB bm lm d.t1.symm).symm,dB,(nB bl ll d.t3.symm).symm,d.m1,(nS bl ll d.m2.symm).symm,fun q e=>?_⟩;let⟨y1,y2,y3,y4,y5,y6⟩:=d.p q e;exact⟨y1,y2,nB q (pl q e) y3,y4,nS q (pl q e) y5,y6⟩
def Ax(mc:dX):List Itm→dX
 |[]=>mc
 |x::r=>Ax (fun y=>if y=x.key then none else mc.1 y,mc.2-1) r
def In40(l:List Int):Prop:=∀x∈l,1≤x∧x≤50
theorem In40.app{a b:List Int}(h:In40 a)(g:In40 b):In40 (a++b):=fun x m=>(List.mem_append.1 m).elim (h x) (g x)
theorem In40.take{a:List Int}(h:In40 a)(n:Nat):In40 (a.take n):=fun x m=>h x (List.mem_of_mem_take m)
theorem In40.drop{a:List Int}(h:In40 a)(n:Nat):In40 (a.drop n):=fun x m=>h x (List.mem_of_mem_drop m)
def IxL(m:Nat→Option Nat)(L:List Nat):Prop:=∀k j:Nat,m k=some j↔L[j]? =some k
theorem qk{m:Nat→Option Nat}{E:List Ent}:IxOf m E↔IxL m (E.map fun e=>e.x.key):=by
 unfold IxOf IxL;refine forall_congr' fun k=>forall_congr' fun j=>?_;rw[List.getElem?_map];cases E[j]? with
 |none=>simp
 |some e=>simp
structure Ntc where
 k:Nat
 a:Int
 c:Int
 t:Int
 Y:List Itm
def yL(Ks:List Knd)(Y:List Itm):List Ent:=Y.map fun y=>⟨y,aL Ks y,false⟩
def jK(E:List Ent):List Nat:=E.map fun e=>e.x.key
def RK(Ks:List Knd):Prop:=okR Ks 12=true∧Ks.length=3∧GK Ks
structure LV(Ks:List Knd)(E:List Ent):Prop where
 o:∀e∈E,okI e.x 3=true∧bW Ks 12 e.x=0
 b:∀e∈E,e.kn=false→e.b=aL Ks e.x
 c:∀e∈E,e.kn=true→1≤e.b∧e.b≤50
 n:(jK E).Nodup
theorem RK.base{Ks:List Knd}(r:RK Ks){x:Itm}(o:okI x 3=true):1≤aL Ks x∧aL Ks x≤50:=by simp only[okI,Bool.and_eq_true,decide_eq_true_eq]at o;have p:Ks[x.type]? =some (Ks[x.type]'(by rw[r.2.1];exact o.2.1)):=List.getElem?_eq_getElem _;generalize Ks[x.type]'(by rw[r.2.1];exact o.2.1)=q at p;have g:=(r.2.2 q (List.mem_of_getElem? p)).2.2;rw[aL,p];exact g
theorem LOk.lv{Ks:List Knd}{h:Heap}{E:List Ent}(a:LOk Ks h E):LV Ks E:=⟨fun e m=>⟨(a.h e m).2.2.1,(a.h e m).2.2.2⟩,a.b,a.c,a.n⟩
theorem LV.lok{Ks:List Knd}{h:Heap}{E:List Ent}(a:LV Ks E)(r:RK Ks)(H:∀e∈E,ItmH h e.x)(l:E.length≤1000):LOk Ks h E:=⟨fun e m=>⟨H e m,rfl,a.o e m⟩,a.b,a.c,a.n,l,r⟩
theorem Hv{Ks:List Knd}{Y:List Itm}:jK (yL Ks Y)=Y.map Itm.key:=by simp[yL,jK]
theorem LV.app{Ks:List Knd}{A B:List Ent}(a:LV Ks A)(b:LV Ks B)(d:∀k∈jK A,k∉jK B):LV Ks (A++B):=by refine⟨fun e m=>(List.mem_append.1 m).elim (a.o e) (b.o e),fun e m=>(List.mem_append.1 m).elim (a.b e) (b.b e),fun e m=>(List.mem_append.1 m).elim (a.c e) (b.c e),?_⟩;rw[jK,List.map_append,List.nodup_append];exact⟨a.n,b.n,fun x hx y hy e=>d x hx (e▸hy)⟩
theorem LV.sub{Ks:List Knd}{A B:List Ent}(a:LV Ks B)(s:A.Sublist B):LV Ks A:=⟨fun e m=>a.o e (s.subset m),fun e m=>a.b e (s.subset m),fun e m=>a.c e (s.subset m),a.n.sublist (s.map _)⟩
theorem LV.fresh{Ks:List Knd}{Y:List Itm}(r:RK Ks)(h:∀y∈Y,okI y Ks.length=true∧bW Ks 12 y=0)(n:(Y.map Itm.key).Nodup):LV Ks (yL Ks Y):=by refine⟨fun e m=>?_,fun e m _=>?_,fun e m k=>?_,by rw[Hv];exact n⟩<;>obtain⟨y,ym,rfl⟩:=List.mem_map.1 m;have:=h y ym;rw[r.2.1]at this;exact this;rfl;cases k
open Go.Ev.St
set_option maxRecDepth 4000
def SW(n0:NL)(W:Nat→Prop)(C:Nat)(Ks:List Knd)(h:Heap)(b:Nat)(E:List Ent):Prop:=∃K X st vK bg B bm S bl pm mc,Sto n0 h b K 12 X (E.map Ent.b) (E.map Ent.kn) st vK bg B bm S bl pm mc∧cM Ks K∧X.map Itm.val=E.map (fun e=>e.x.val)∧IxL mc.1 (jK E)∧mc.2≤C∧∀y∈Wr b bg B bm S bl pm,W y
theorem SW.fr{n0:NL}{W:Nat→Prop}{C:Nat}{Ks:List Knd}{h h':Heap}{b:Nat}{E:List Ent}(w:WF h)(s:SW n0 W C Ks h b E)(f:Fr [] h h'):SW n0 W C Ks h' b E:=by let⟨K,X,st,vK,bg,B,bm,S,bl,pm,mc,s,r⟩:=s;exact⟨K,X,st,vK,bg,B,bm,S,bl,pm,mc,s.fr w f,r⟩
theorem SW.mono{n0:NL}{W W':Nat→Prop}{C C':Nat}{Ks:List Knd}{h:Heap}{b:Nat}{E:List Ent}(s:SW n0 W C Ks h b E)(hW:∀y,W y→W' y)(hC:C≤C'):SW n0 W' C' Ks h b E:=by let⟨K,X,st,vK,bg,B,bm,S,bl,pm,mc,s,sk,ev,ix,c,r⟩:=s;exact⟨K,X,st,vK,bg,B,bm,S,bl,pm,mc,s,sk,ev,ix,Nat.le_trans c hC,fun y m=>hW y (r y m)⟩
section
variable {n0 : NL} {W : Nat → Prop} {C : Nat} {Ks : List Knd} {h : Heap} {b : Nat} {E : List Ent} {Y : List Itm} {a c t : Int} {v k0 a0 c0 t0 : V}
def WZ(W:Nat→Prop)(h h':Heap):Prop:=∃Z,(∀z∈Z,W z∨h.next≤z)∧Fr Z h h'
end
open Go.Ev.St
set_option maxRecDepth 4000
def i64(a:Int):Prop:=-9223372036854775808≤a∧a≤9223372036854775807
def SV(W:Nat→Prop)(h:Heap)(v:V)(Y:List Itm):Prop:=∀(Z:List Nat)(h':Heap),(∀z∈Z,W z∨h.next≤z)→Fr Z h h'→ARecs Itm.cells 4 h' v Y∧∀y∈Y,ItmH h' y
theorem SV.keep{W:Nat→Prop}{h h':Heap}{v:V}{Y:List Itm}(s:SV W h v Y)(w:WF h)(f:WZ W h h'):SV (fun z=>W z∨h.next≤z) h' v Y:=by let⟨Z0,hZ0,f⟩:=f;have n:=f.next;intro Z h2 hZ f2;refine s (Z0++Z) h2 (fun z m=>?_) (Fr.trans f f2 w (fun x m=>.inl (List.mem_append.2 (.inl m))) (fun x m=>.inl (List.mem_append.2 (.inr m))));obtain m|m:=List.mem_append.1 m;exact hZ0 z m;grind
theorem SV.fr{W:Nat→Prop}{h h':Heap}{v:V}{Y:List Itm}(s:SV W h v Y)(w:WF h)(f:Fr [] h h'):SV W h' v Y:=by have n:=f.next;intro Z h2 hZ f2;exact s Z h2 (fun z m=>(hZ z m).imp id fun q=>by omega) (Fr.trans f f2 w iS (fun x m=>.inl m))
theorem WZ.pre{W:Nat→Prop}{h h1 h2:Heap}(w:WF h)(f:Fr [] h h1)(z:WZ W h1 h2):WZ W h h2:=by let⟨Z,hZ,g⟩:=z;have n:=f.next;exact⟨Z,fun z m=>(hZ z m).imp id fun q=>by omega,Fr.trans f g w iS (fun x m=>.inl m)⟩
structure Nt where
 n:Ntc
 v:V
def Nt.cells(x:Nt):List V:=[.int .u8 (x.n.k:Int),.int .i64 x.n.a,.int .i64 x.n.c,.int .i64 x.n.t,x.v]
def NV(W:Nat→Prop)(h:Heap)(v:V)(L:List Nt):Prop:=(∀(Z:List Nat)(h':Heap),(∀z∈Z,W z∨h.next≤z)→Fr Z h h'→ARecs Nt.cells 5 h' v L)∧∀x∈L,SV W h x.v x.n.Y∧x.n.k<256∧i64 x.n.a∧i64 x.n.c∧i64 x.n.t
theorem WZ.fr{W:Nat→Prop}{h h':Heap}(f:Fr [] h h'):WZ W h h':=⟨[],iS,f⟩
theorem WZ.trans{W W':Nat→Prop}{h h1 h2:Heap}(w:WF h)(a:WZ W h h1)(b:WZ W' h1 h2)(i:∀y,W' y→W y∨h.next≤y):WZ W h h2:=by let⟨Z,hZ,f⟩:=a;let⟨Z',hZ',f'⟩:=b;have n:=f.next;refine⟨Z++Z',fun z m=>?_,Fr.trans f f' w (fun x m=>.inl (List.mem_append.2 (.inl m))) (fun x m=>.inl (List.mem_append.2 (.inr m)))⟩;obtain m|m:=List.mem_append.1 m;exact hZ z m;grind
theorem SV.on{W W':Nat→Prop}{h h':Heap}{v:V}{Y:List Itm}(s:SV W h v Y)(w:WF h)(f:WZ W h h')(i:∀y,W' y→W y∨h.next≤y):SV W' h' v Y:=by let⟨Z0,hZ0,f⟩:=f;have n:=f.next;intro Z h2 hZ f2;refine s (Z0++Z) h2 (fun z m=>?_) (Fr.trans f f2 w (fun x m=>.inl (List.mem_append.2 (.inl m))) (fun x m=>.inl (List.mem_append.2 (.inr m))));obtain m|m:=List.mem_append.1 m;exact hZ0 z m;grind
theorem NV.on{W W':Nat→Prop}{h h':Heap}{v:V}{L:List Nt}(s:NV W h v L)(w:WF h)(f:WZ W h h')(i:∀y,W' y→W y∨h.next≤y):NV W' h' v L:=by refine⟨?_,fun x m=>⟨(s.2 x m).1.on w f i,(s.2 x m).2⟩⟩;let⟨Z0,hZ0,f⟩:=f;have n:=f.next;intro Z h2 hZ f2;refine s.1 (Z0++Z) h2 (fun z m=>?_) (Fr.trans f f2 w (fun x m=>.inl (List.mem_append.2 (.inl m))) (fun x m=>.inl (List.mem_append.2 (.inr m))));obtain m|m:=List.mem_append.1 m;exact hZ0 z m;grind
theorem Nt.one{W:Nat→Prop}{h:Heap}{x:Nt}(w:WF h)(s:SV W h x.v x.n.Y):av x.cells=true:=by have:=ASl.one (s [] h iS (Fr.refl w)).1;show av [_,_,_,_,_]=true;simp only[aB,aF,this];rfl
structure DB(h0:Heap)(Ks:List Knd)(vK vE:V)(E:List Ent):Prop where
 w:WF h0
 rk:Recs Knd.cells 9 h0 vK Ks
 kh:∀q∈Ks,KndH h0 q
 re:Recs Ent.cells 6 h0 vE E
 o:LOk Ks h0 E
theorem LsO.keep{N:Nat}{h h':Heap}{v:V}{Z:List Ent}{S:List Nat}(a:LsO N h v Z)(f:Fr S h h')(l:∀y∈S,y<N):LsO N h' v Z:=by obtain e|⟨b,e,hb,o,c⟩:=a;exact .inl e;exact .inr ⟨b,e,hb,f.own _ _ (fun m=>by have:=l b m;omega) o,fun z m=>(c z m).fr f fun y q=>by have:=l y q;omega⟩
theorem LsO.le{N M:Nat}{h:Heap}{v:V}{Z:List Ent}(a:LsO N h v Z)(l:M≤N):LsO M h v Z:=by obtain e|⟨b,e,hb,o,c⟩:=a;exact .inl e;exact .inr ⟨b,e,Nat.le_trans l hb,o,c⟩
theorem LsO.itm{N:Nat}{h h9:Heap}{v:V}{Z:List Ent}(a:LsO N h v Z)(i:∀z∈Z,ItmH h9 z.x):∀z∈Z,ItmH h z.x:=by intro z m;obtain⟨e,_⟩|⟨b,e,hb,o,c⟩:=a;grind;have iz:=i z m;exact⟨iz.k,iz.t,Sl.a (c z m).rs,iz.n,iz.l⟩
theorem LsO.nE{N:Nat}{h:Heap}{v:V}{Z:List Ent}(a:LsO N h v Z):v≠.sliceE:=by obtain⟨_,rfl⟩|⟨b,rfl,_⟩:=a<;>simp
theorem DB.fr{h0 h:Heap}{Ks:List Knd}{vK vE:V}{E:List Ent}(d:DB h0 Ks vK vE E)(f:Fr [] h0 h):DB h Ks vK vE E:=⟨f.wf,Recs.fr d.rk f,fun q m=>(d.kh q m).fr f,d.re.fr f,d.o.fr f⟩
theorem Am{Ks:List Knd}{x y:Itm}(h:x.val=y.val):(∀n,okI x n=okI y n)∧aL Ks x=aL Ks y:=by let⟨k,t,tx,m,v⟩:=x;let⟨k',t',tx',m',v'⟩:=y;simp only[Itm.val,Prod.mk.injEq]at h;obtain⟨rfl,rfl,rfl,rfl⟩:=h;exact⟨fun _=>rfl,rfl⟩
theorem vG{Z E:List Ent}(e:Z.map Ent.val=E.map Ent.val):jK Z=jK E:=by have:=congrArg (List.map fun p=>p.1.1) e;rw[List.map_map,List.map_map]at this;exact this
theorem Gh{Z E:List Ent}(e:Z.map Ent.val=E.map Ent.val):∀z∈Z,∃x∈E,x.x.val=z.x.val∧x.b=z.b∧x.kn=z.kn:=by intro z m;have:z.val∈E.map Ent.val:=e▸List.mem_map.2 ⟨z,m,rfl⟩;let⟨x,xm,h⟩:=List.mem_map.1 this;simp only[Ent.val,Prod.mk.injEq]at h;exact⟨x,xm,h⟩
theorem LV.val{Ks:List Knd}{Z E:List Ent}(o:LV Ks E)(e:Z.map Ent.val=E.map Ent.val):LV Ks Z:=by
 refine⟨fun z m=>?_,fun z m k=>?_,fun z m k=>?_,by rw[vG e];exact o.n⟩<;>let⟨x,xm,h1,h2,h3⟩:=Gh e z m
 have:=o.o x xm;rw[←CZ h1,←(Am (Ks:=Ks) h1).1];exact this;rw[←h2,←(Am (Ks:=Ks) h1).2];exact o.b x xm (h3.trans k);rw[←h2];exact o.c x xm (h3.trans k)
def NA(h:Heap)(v:V)(L:List Nt):Prop:=ARecs Nt.cells 5 h v L∧∀x∈L,(ARecs Itm.cells 4 h x.v x.n.Y∧∀y∈x.n.Y,ItmH h y)∧x.n.k<256∧i64 x.n.a∧i64 x.n.c∧i64 x.n.t
theorem NA.fr{h h':Heap}{v:V}{L:List Nt}(a:NA h v L)(f:Fr [] h h'):NA h' v L:=⟨a.1.fr f,fun x m=>⟨⟨(a.2 x m).1.1.fr f,fun y q=>((a.2 x m).1.2 y q).fr f⟩,(a.2 x m).2⟩⟩
theorem NA.one{h:Heap}{v:V}{L:List Nt}(a:NA h v L){x:Nt}(m:x∈L):av x.cells=true:=by have:=ASl.one (a.2 x m).1.1;show av [_,_,_,_,_]=true;simp only[aB,aF,this];rfl
def NR(h:Heap)(v:V)(L:List Nt):Prop:=ARecs Nt.cells 5 h v L∧L.length<140737488355328∧∀x∈L,ARecs Itm.cells 4 h x.v x.n.Y∧x.n.Y.length<140737488355328∧∀y∈x.n.Y,ARecs sS 1 h y.vm y.marks∧y.marks.length<140737488355328∧y.text.length<140737488355328
def LI(y:Itm):Prop:=y.text.length≤70∧y.marks.length≤12
theorem Fr.lt{S:List Nat}{h h':Heap}(w:WF h)(f:Fr S h h'):Fr (S.filter fun z=>decide (z<h.next)) h h':=
 ⟨f.next,f.wf,fun x c hx o=>f.own x c (fun m=>hx (List.mem_filter.2 ⟨m,decide_eq_true (o.lt w)⟩)) o,fun x c hx o=>f.pl x c (fun m=>hx (List.mem_filter.2 ⟨m,decide_eq_true (o.own.lt w)⟩)) o,f.lp,f.ro⟩
def KL(a:Nat)(h:Heap)(v:V)(Z:List Ent):Prop:=∀S h',(∀z∈S,z<a∨h.next≤z)→Fr S h h'→Recs Ent.cells 6 h' v Z∧∀e∈Z,ItmH h' e.x
theorem Drawn.kl{N:Nat}{h:Heap}{Ks:List Knd}{vE:V}{X:List Itm}{E:List Ent}(d:Drawn N h.next h Ks vE X E):KL N h vE E:=fun _ _ hS f=>⟨(d.keep f hS).rs,(d.keep f hS).H⟩
theorem LsO.kl{N:Nat}{h:Heap}{v:V}{Z:List Ent}(w:WF h)(a:LsO N h v Z)(i:∀z∈Z,ItmH h z.x):KL N h v Z:=by
 intro S h' hS f;have q:=a.keep (Fr.lt w f) fun y m=>by grind
 exact⟨q.rs,q.itm i⟩
theorem SW.a{n0:NL}{W:Nat→Prop}{C:Nat}{Ks:List Knd}{h:Heap}{b:Nat}{E:List Ent}(s:SW n0 W C Ks h b E):SA Ks h b E:=by let⟨K,X,st,vK,bg,B,bm,S,bl,pm,mc,s,sk,ev,ix,_⟩:=s;exact⟨n0,K,X,st,vK,bg,B,bm,S,bl,pm,mc,s,sk,ev,fun _ _=>rfl,qk.2 ix⟩
theorem SW.lt{n0:NL}{W:Nat→Prop}{C:Nat}{Ks:List Knd}{h:Heap}{b:Nat}{E:List Ent}(w:WF h)(s:SW n0 W C Ks h b E):SW n0 (fun y=>W y∧y<h.next) C Ks h b E:=by let⟨K,X,st,vK,bg,B,bm,S,bl,pm,mc,s,sk,ev,ix,c,r⟩:=s;exact⟨K,X,st,vK,bg,B,bm,S,bl,pm,mc,s,sk,ev,ix,c,fun y m=>⟨r y m,s.wrlt w y m⟩⟩
theorem SA.val{Ks:List Knd}{h:Heap}{b:Nat}{E Z:List Ent}(s:SA Ks h b E)(e:Z.map Ent.val=E.map Ent.val):SA Ks h b Z:=by
 let⟨n0,K,X,st,vK,bg,B,bm,S,bl,pm,mc,s,sk,ev,nz,ix⟩:=s;have e1:Z.map Ent.b=E.map Ent.b:=by have:=congrArg (List.map fun p=>p.2.1) e;rw[List.map_map,List.map_map]at this;exact this
 have e2:Z.map Ent.kn=E.map Ent.kn:=by have:=congrArg (List.map fun p=>p.2.2) e;rw[List.map_map,List.map_map]at this;exact this
 have e3:Z.map (fun e=>e.x.val)=E.map (fun e=>e.x.val):=by have:=congrArg (List.map fun p=>p.1) e;rw[List.map_map,List.map_map]at this;exact this
 have ek:=vG e;refine⟨n0,K,X,st,vK,bg,B,bm,S,bl,pm,mc,e1▸e2▸s,sk,e3▸ev,nz,?_⟩;have:=qk.1 ix;exact qk.2 (show IxL mc.1 (jK Z) by rw[ek];exact this)
theorem SA.fr{Ks:List Knd}{h h':Heap}{b:Nat}{E:List Ent}(w:WF h)(s:SA Ks h b E)(f:Fr [] h h'):SA Ks h' b E:=by let⟨n0,K,X,st,vK,bg,B,bm,S,bl,pm,mc,s,r⟩:=s;exact⟨n0,K,X,st,vK,bg,B,bm,S,bl,pm,mc,s.fr w f,r⟩
structure NQ(h:Heap)(v:V)(L:List Nt):Prop where
 rd:∀S h',Fr S h h'→NR h' v L
 ty:∀x∈L,x.n.k<256∧i64 x.n.a∧i64 x.n.c∧i64 x.n.t∧∀y∈x.n.Y,y.key<18446744073709551616∧y.type<256
theorem NQ.nv{W:Nat→Prop}{h0 h:Heap}{v:V}{L:List Nt}{S0:List Nat}(a:NQ h0 v L)(f0:Fr S0 h0 h)(w:WF h0)(fi:∀x∈L,∀y∈x.n.Y,LI y):NV W h v L:=by have q:∀S h',Fr S h h'→NR h' v L:=fun S h' f=>a.rd (S0++S) h' (Fr.trans f0 f w (fun x m=>.inl (List.mem_append.2 (.inl m))) (fun x m=>.inl (List.mem_append.2 (.inr m))));refine⟨fun S h' _ f=>(q S h' f).1,fun x m=>⟨fun S h' _ f=>?_,(a.ty x m).1,(a.ty x m).2.1,(a.ty x m).2.2.1,(a.ty x m).2.2.2.1⟩⟩;let⟨r1,_,r2⟩:=(q S h' f).2.2 x m;refine⟨r1,fun y my=>?_⟩;let⟨t1,t2⟩:=(a.ty x m).2.2.2.2 y my;let⟨f1,f2⟩:=fi x m y my;exact⟨t1,t2,(r2 y my).1,oM,oM⟩
theorem NV.na{W:Nat→Prop}{h:Heap}{v:V}{L:List Nt}(w:WF h)(n:NV W h v L):NA h v L:=⟨n.1 [] h iS (Fr.refl w),fun x m=>⟨(n.2 x m).1 [] h iS (Fr.refl w),(n.2 x m).2⟩⟩
theorem Sto.skip{n0:NL}{p:Nat}{x:V}{h h':Heap}{b bg B bm S bl:Nat}{Ks:List Knd}{cap:Int}{X:List Itm}{l:List Int}{kn st:List Bool}{vK:V}{pm:Option Nat}{mc:dX}(w:WF h)(s:Sto n0 h b Ks cap X l kn st vK bg B bm S bl pm mc)(o:Own h p [x])(hp:p∉Wr b bg B bm S bl pm)(lp:Lx n0 p)(f:Fr [p] h h'):
 Sto n0 h' b Ks cap X l kn st vK bg B bm S bl pm mc:=by
 have g:∀{y},y∈Wr b bg B bm S bl pm→y∉[p]:=fun m q=>hp (List.mem_singleton.1 q▸m);have n:=f.next;refine⟨f.own _ _ (g (by simp[Wr])) s.ob,s.g.fr f (g (by simp[Wr])) (g (by simp[Wr])),s.gB.fr f (g (by simp[Wr])),s.k.frS f (g (by simp[Wr])) (g (by simp[Wr])),s.gS.fr f (g (by simp[Wr])),
  s.lo.frS f (Oth.own o iS (iN (n:=0) rfl)) (g (by simp[Wr])) (fun q e=>g (by simp[Wr,e])),s.len,fun Z h2 hZ f2=>?_,s.d,by have:=s.Sl';omega,fun q e=>by have:=s.pl q e;omega,by have:=s.bl';omega,fun z q=>by have:=s.n0l z q;omega⟩
 refine s.rd ([p]++Z) h2 (fun z m=>?_) (Fr.trans f f2 w (fun x m=>.inl (List.mem_append.2 (.inl m))) (fun x m=>.inl (List.mem_append.2 (.inr m))));obtain m|m:=List.mem_append.1 m;grind;grind
theorem SW.skip{n0:NL}{p:Nat}{x:V}{W:Nat→Prop}{C:Nat}{Ks:List Knd}{h h':Heap}{b:Nat}{E:List Ent}(w:WF h)(s:SW n0 W C Ks h b E)(o:Own h p [x])(hp:¬W p)(lp:Lx n0 p)(f:Fr [p] h h'):SW n0 W C Ks h' b E:=by let⟨K,X,st,vK,bg,B,bm,S,bl,pm,mc,s,sk,ev,ix,c,r⟩:=s;exact⟨K,X,st,vK,bg,B,bm,S,bl,pm,mc,s.skip w o (fun m=>hp (r p m)) lp f,sk,ev,ix,c,r⟩
theorem In40.okZ{E:List Ent}(a:In40 (E.map Ent.b)):okZ E:=fun e m=>by have:=a e.b (List.mem_map.2 ⟨e,m,rfl⟩);omega
theorem In40.ub{E:List Ent}(a:In40 (E.map Ent.b))(i:Nat):((E.take i).map Ent.b).sum≤50*i:=by have:=(jx (L:=(E.take i).map Ent.b) fun x m=>a x (by rw[List.map_take]at m;exact List.mem_of_mem_take m)).2;rw[List.length_map,List.length_take]at this;omega
abbrev u4(a b c d:Int):List V:=[.int .i64 a,.int .i64 b,.int .i64 c,.int .i64 d]
def SE'(Ks:List Knd)(x:Itm)(s e:Int):Prop:=if s=0 then IE Ks 12 x e else 0<e
theorem SE'.pos{Ks:List Knd}{x:Itm}{s e e':Int}(a:SE' Ks x s e)(b:SE' Ks x s e')(h:0<e):0<e':=by unfold SE' at a b;split at a;rename_i c;rw[if_pos c]at b;rw[←a.det b];exact h;grind
def KQ(N:Nat→Prop)(h:Heap)(v:V)(Z:List Ent):Prop:=∀S h',(∀z∈S,N z∨h.next≤z)→Fr S h h'→Recs Ent.cells 6 h' v Z∧∀e∈Z,ItmH h' e.x
def IS(N:Nat→Prop)(h0:Heap)(x:Itm):Prop:=∀S h',(∀z∈S,N z∨h0.next≤z)→Fr S h0 h'→ItmH h' x
theorem IS.up{N:Nat→Prop}{h h1:Heap}{S0:List Nat}{x:Itm}(a:IS N h x)(w:WF h)(f:Fr S0 h h1)(h0:∀z∈S0,N z∨h.next≤z):IS N h1 x:=fun S h' hS f'=>
 a (S0++S) h' (fun z m=>by
  have:=f.next;obtain m|m:=List.mem_append.1 m;exact h0 z m;obtain q|q:=hS z m;exact .inl q;exact .inr oM) (Fr.trans f f' w (fun x m=>.inl (List.mem_append.2 (.inl m))) (fun x m=>.inl (List.mem_append.2 (.inr m))))
theorem KQ.up{N:Nat→Prop}{h h1:Heap}{v:V}{E:List Ent}(a:KQ N h v E)(w:WF h)(f:Fr [] h h1):KQ N h1 v E:=fun S h' hS f'=>
 a S h' (fun z m=>by have:=f.next;obtain q|q:=hS z m;exact .inl q;exact .inr oM) (Fr.trans f f' w iS (fun x m=>.inl m))
theorem KQ.is{N:Nat→Prop}{h:Heap}{v:V}{E:List Ent}(a:KQ N h v E){e:Ent}(m:e∈E):IS N h e.x:=fun S h' hS f=>(a S h' hS f).2 e m
theorem KQ.rs{N:Nat→Prop}{h:Heap}{v:V}{E:List Ent}(a:KQ N h v E)(w:WF h):Recs Ent.cells 6 h v E:=(a [] h iS (Fr.refl w)).1
theorem KQ.itm{N:Nat→Prop}{h:Heap}{v:V}{E:List Ent}(a:KQ N h v E)(w:WF h):∀e∈E,ItmH h e.x:=(a [] h iS (Fr.refl w)).2
theorem KQ.fin{N:Nat→Prop}{h1 h':Heap}{u:V}{O:List Ent}(w:WF h1)(hN:∀z,N z→z<h1.next)(F:Fr [] h1 h')(g:Gs h' h1.next 6 u (O.flatMap Ent.cells))(i:∀e∈O,IS N h1 e.x):KQ N h' u O:=by intro S h2 hS f;have n:=F.next;refine⟨Gs.sl (n:=O.length) (g.dj f fun z m c=>?_) (aE dM _) oM,fun e m=>(i e m).up w F iS S h2 hS f⟩;have:=g.vb z c;have:=g.lt F.wf z c;obtain q|q:=hS z m;grind;omega
theorem KQ.nil{N:Nat→Prop}{h:Heap}:KQ N h .nils []:=fun _ _ _ _=>⟨Recs.nil,iS⟩
def EV(N:Nat→Prop)(h0:Heap)(e:Ent):Prop:=IS N h0 e.x∧1≤e.b∧e.b≤50
theorem EV.up{N:Nat→Prop}{h h1:Heap}{e:Ent}(a:EV N h e)(w:WF h)(f:Fr [] h h1):EV N h1 e:=⟨a.1.up w f iS,a.2⟩
theorem IS.H{N:Nat→Prop}{h:Heap}{x:Itm}(a:IS N h x)(w:WF h):ItmH h x:=a [] h iS (Fr.refl w)
open Go.Ev.St
set_option maxRecDepth 4000
theorem IX{l:List Int}(f:Fit l)(i:Nat):0≤(l.take i).sum∧(l.take i).sum≤l.sum:=by have h1:=(f.sub (List.take_sublist i l)).nn;have h2:=List.sum_append (l₁:=l.take i) (l₂:=l.drop i);rw[List.take_append_drop]at h2;have:=(f.sub (List.drop_sublist i l)).nn;omega
theorem CJ{l:List Int}(f:Fit l){i j:Nat}(h:i≤j):(l.take i).sum≤(l.take j).sum:=by have:=IX (f.sub (List.take_sublist j l)) i;rw[List.take_take,Nat.min_eq_left h]at this;exact this.2
section
variable {h : Heap} {v : V} {E : List Ent}
theorem LH(hE:E.length≤1024)(ok:okZ E)(hs:(E.map Ent.b).sum≤4611686018427387904):Fit (E.map Ent.b):=by refine⟨fun x m=>?_,hs,by simp;omega⟩;obtain⟨e,em,rfl⟩:=List.mem_map.1 m;have:=ok e em;omega
abbrev vA(k:Nat)(d:Int):V:=.agg [.int .u64 (k:Int),.int .i64 d]
section
variable {n0 : NL} {h : Heap} {b bg B bm S bl : Nat} {Ks : List Knd} {cap : Int} {X : List Itm} {kn st : List Bool} {vK : V} {pm : Option Nat} {mc : dX} {E : List Ent}
end
end
set_option maxRecDepth 4000
def aU(m:Int→Int):List Int→List Int→List Bool→Bool→Int×List Int×List Bool×Bool
 |[],l,ks,mo=>(0,l,ks,mo)
 |i::A,l,ks,mo=>if 0≤i∧i<l.length then if ks.getD i.toNat false=true then aU m A l ks mo else
  if cg l i (m i)=0 then aU m A (l.set i.toNat (m i)) (ks.set i.toNat true) true else(cg l i (m i),l,ks,mo)else(4,l,ks,mo)
theorem LC{S:List Nat}{h h1 h2:Heap}(a:Fr S h h1)(c:Fr S h1 h2):Fr S h h2:=⟨Nat.le_trans a.next c.next,c.wf,fun x k hx o=>c.own x k hx (a.own x k hx o),fun x k hx o=>c.pl x k hx (a.pl x k hx o),fun x k hk o=>c.lp x k hk (a.lp x k hk o),fun x k r=>c.ro x k (a.ro x k r)⟩
theorem LB{S:List Nat}{h h1:Heap}(f:Fr [] h h1):Fr S h h1:=⟨f.next,f.wf,fun _ _ _ o=>f.get o,fun x k _ o=>f.pl x k iS o,f.lp,f.ro⟩
structure FrL(b:Nat)(h h':Heap):Prop where
 f:FrF b h h'
 ix:∀v l ks,Ix h v l ks→Ix h' v l ks
 z:Fr [b] h h'
 p:∀x y t,Own h b [x,y,t]→∃x' y',Own h' b [x',y',t]
theorem FrL.trans{b:Nat}{h h1 h2:Heap}(a:FrL b h h1)(c:FrL b h1 h2):FrL b h h2:=⟨a.f.trans c.f,fun v l ks i=>c.ix v l ks (a.ix v l ks i),LC a.z c.z,fun x y t o=>by let⟨x',y',o'⟩:=a.p x y t o;exact c.p x' y' t o'⟩
theorem frL{b:Nat}{h h':Heap}(f:Fr [] h h'):FrL b h h':=⟨frF f,fun _ _ _ i=>i.fr f,LB f,fun x y _ o=>⟨x,y,f.get o⟩⟩
theorem Do{x y z:V}:∀L:List (Int×Int),0<L.length→[x,y,z]≠L.flatMap sp:=by intro L _ e;have h1:=congrArg List.length e;rw[aE (k:=2) (fun _=>rfl)]at h1;simp at h1;omega
theorem KG{b:Nat}{h h':Heap}{x y z x' y':V}(f:Fr [b] h h')(o:Own h b [x,y,z])(o':Own h' b [x',y',z]):FrL b h h':=⟨KH f,fun _ _ _ i=>i.frb f o iS Do,f,fun a c t q=>by cases o.uniq q;exact⟨_,_,o'⟩⟩
theorem BR(A:List Int):∀n m ws,ws.length=64→A.map (V.int .i64)≠flc n m ws:=by
 intro n m ws hl e;cases ws with
 |nil=>simp at hl
 |cons y ws=>
  have:uw y∈A.map (V.int .i64):=by rw[e];simp[flc]
  simp[uw]at this
def Atl(h:Heap)(B:Nat)(v:V)(A:List Int):Prop:=(v=.nils∧A=[])∨∃c,v=.slice c 0 A.length A.length∧Own h c (A.map (V.int .i64))∧B≤c
theorem Atl.ints{h:Heap}{B:Nat}{v:V}{A:List Int}(a:Atl h B v A):ou h v A:=by obtain⟨rfl,rfl⟩|⟨c,rfl,o,_⟩:=a;exact(show Sl _ 1 _ _ _ from Recs.nil (f:=ic));exact Sl.lit o iS
theorem Atl.fr{h h':Heap}{B b:Nat}{v:V}{A:List Int}(a:Atl h B v A)(f:FrF b h h')(hb:b<B):Atl h' B v A:=by obtain x|⟨c,e,o,q⟩:=a;exact .inl x;exact .inr ⟨c,e,f.own _ _ oM (BR A) o,q⟩
def jr(l:List Int)(bs:List Bool)(view over s:Int)(A:List Int):Prop:=if l=[]then A=[]else J6 l bs view over s A
theorem tI{l:List Int}{bs:List Bool}{view over s:Int}{A:List Int}(a:jr l bs view over s A)(hl:bs.length=l.length):∀i∈A,0≤i∧i<l.length:=by
 unfold jr at a;split at a;subst a;simp;obtain⟨hr,he,hs,rfl⟩:=a;have f0:0≤(fS l view over s).1:=by unfold fS;simp only[];omega
 have t0:(fS l view over s).2≤l.length:=by unfold fS;simp only[];omega
 intro i hi;rw[List.mem_append]at hi;obtain hi|hi:=hi;split at hi;rename_i c;simp only[List.mem_singleton]at hi;subst hi;obtain⟨_,_,p,rfl,hp⟩:=hs.zero c.1;omega;simp at hi;simp only[rng,List.mem_map,List.mem_range]at hi;obtain⟨j,hj,rfl⟩:=hi;omega
theorem HS{l:List Int}{bs:List Bool}{view over s:Int}{A:List Int}(a:jr l bs view over s A):A.length≤l.length+1:=by
 unfold jr at a;split at a;subst a;simp;obtain⟨hr,he,hs,rfl⟩:=a;have f0:0≤(fS l view over s).1:=by unfold fS;simp only[];omega
 have t0:(fS l view over s).2≤l.length:=by unfold fS;simp only[];omega
 rw[List.length_append,pp];split<;>simp<;>omega
theorem Hd{h:Heap}{b N:Nat}{caps:List V}{p pm:Option Nat}{vk:V}{l:List Int}{ks bs:List Bool}{s view over:Int}{lo:Bool}{m:Int→Int}(w:WF h)(g:Glb h)(o:Own h b [pv p,vk,pv pm])(v1:vk.one=true)(ix:Ix h (.agg [pv p,vk]) l ks)
 (mk:Mk h pm bs) (el:bs.length=l.length) (pos:∀x∈l,1≤x) (s0:-9223372036854775808≤s) (s1:s≤9223372036854775807) (ok:okF view over) (cl:bM l view s=s)
 (hN:N<1099511627776) (hm:∀h',FrF b h h'→∀i:Int,0≤i→i<(l.length:Nat)→aj go N ([.int .i64 i]++caps) h' fun u h''=>u=.int .i64 (m i)∧Fr [] h' h'') (mb:∀i,-9223372036854775808≤m i∧m i≤9223372036854775807):
 aj go 88 [.ptr b 0,.agg [.int .i64 view,.int .i64 over,.bool lo],.int .i64 s,.func (.func N) [] caps] h fun u h'=>∃A c d,jr l bs view over s A∧
  u=.tup [.bool (if(aU m A l ks false).1=0 then(aU m A l ks false).2.2.2 else false),.int .i64 (aU m A l ks false).1]∧Own h' b [c,d,pv pm]∧c.one=true∧d.one=true∧
  ((aU m A l ks false).1=0→Ix h' (.agg [c,d]) (aU m A l ks false).2.1 (aU m A l ks false).2.2.1)∧Mk h' pm bs∧FrL b h h':=by
 have a:Lo h b l ks bs:=⟨p,vk,pm,o,v1,ix,mk,el⟩;have blt:=o.lt w;let⟨h1,e_h1,F_h1,o_h1⟩:=ao w [.int .i64 view,.int .i64 over,.bool lo];refine ab ?_;simp only[evs,seval,←e_h1,o_h1.ld];refine aa (Ia F_h1.wf (g.fr F_h1) (a.fr F_h1) pos s0 s1) ?_;rintro u h2 ⟨F2,hu⟩;have F12:=F_h1.then F2;rw[if_pos ok,if_pos cl]at hu;obtain⟨A,rv,eu,at2,al⟩:∃A rv,u=.tup [rv,.int .i64 0]∧Atl h2 h.next rv A∧jr l bs view over s A:=by
  unfold jr;by_cases c:l=[]
  ·rw[if_pos c]at hu;exact⟨[],.nils,hu,.inl ⟨rfl,rfl⟩,by rw[if_pos c]⟩
  ·rw[if_neg c]at hu;let⟨A,q,e1,e2,e3,e4⟩:=hu;exact⟨A,_,e1,.inr ⟨q,rfl,e2,Nat.le_trans F_h1.next e3⟩,by rw[if_neg c];exact e4⟩
 subst eu;have lm:=ix.fit.2.2;have rg:=tI al el;have len2:=at2.ints.len;simp only[evs,seval,len2];have hA:=HS al;refine aA (fun k env hh=>∃(j:Nat)(p':Option Nat)(vk':V)(l':List Int)(ks':List Bool)(mo:Bool),env.get 29=some (.int .i64 j)∧env.get 28=some (.int .i64 A.length)∧env.get 27=some rv∧env.get 0=some (.ptr b 0)∧env.get 3=some (.func (.func N) [] caps)∧env.get 12=some (.bool mo)∧
  j≤A.length∧l'.length=l.length∧aU m A l ks false=aU m (A.drop j) l' ks' mo∧Own hh b [pv p',vk',pv pm]∧vk'.one=true∧Ix hh (.agg [pv p',vk']) l' ks'∧Mk hh pm bs∧FrL b h hh∧Atl hh h.next rv A∧k=A.length-j) A.length oM ?_ ?_
 ·exact⟨0,p,vk,l,ks,false,iS,iS,iS,iS,iS,iS,oM,rfl,rfl,F12.get o,v1,ix.fr F12,mk.fr F12,frL F12,at2,rfl⟩
 rintro k env hh ⟨j,p',vk',l',ks',mo,g29,g28,g27,g0,g3,g12,hj,ll,lr,oo,vv,ii,mm,FF,at',rfl⟩;by_cases hlt:(j:Int)<A.length
 ·let⟨bb,ob,x,e1,e2,e3⟩:=at'.ints.ix .i64 j oM hlt;simp only[Int.toNat_natCast]at e3;have rx:=rg x (List.mem_of_getElem? e3);have dr:A.drop j=x::A.drop (j+1):=by
   have hj':j<A.length:=oM
   rw[List.drop_eq_getElem_cons hj'];congr 1;rw[List.getElem?_eq_getElem hj']at e3;exact Option.some.inj e3
  have e2':ag hh bb ob=some (.int .i64 x):=e2;simp only[evs,seval,g29,g28,g27,g0,hlt,e1,e2',oo.ld];apply aa (Co FF.f.wf ii);rintro _ h3 ⟨rfl,F3⟩;rw[if_pos ⟨rx.1,by rw[ll];exact rx.2⟩];have L3:FrL b h h3:=FF.trans (frL F3);cases hk:ks'.getD x.toNat false
  ·have lr1:aU m A l ks false=if cg l' x (m x)=0 then aU m (A.drop (j+1)) (l'.set x.toNat (m x)) (ks'.set x.toNat true) true else(cg l' x (m x),l',ks',mo):=by
    rw[lr,dr,aU,if_pos ⟨rx.1,by rw[ll];exact rx.2⟩,hk];rfl
   simp only[evs,seval,eff,g0,g3,(F3.get oo).ld];refine⟨hN,aa (hm h3 L3.f x rx.1 rx.2) ?_⟩;rintro _ hm' ⟨rfl,Fm⟩;have ol3:=(F3.get oo).ld;have F3m:=F3.then Fm;have L3m:=L3.trans (frL Fm);simp only[evs,eff];apply aa (AR F3m.wf (ii.fr F3m) (mb x).1 (mb x).2 oM oM);rintro _ h4 ⟨F4,c,d,rfl,hc,hd,hx⟩;simp only[evs,eff];apply ai (c':=[c,d,pv pm]) F4.wf ((F3m.then F4).get oo) rfl (by simp[av,V.cells,hc,hd]) rfl;rintro h5 o5 F5 n5;have L4:FrL b h h4:=L3m.trans (frL F4);have L5:FrL b h h5:=L4.trans (KG F5 ((F3m.then F4).get oo) o5);have m5:Mk h5 pm bs:=((mm.fr (F3m.then F4))).frb F5 ((F3m.then F4).get oo) rfl;by_cases z:cg l' x (m x)=0
   ·rw[if_pos z]at lr1;simp(disch:=omega) only[evs,seval,DF,eff,ah,g29,(F3m.get oo).ld,ol3,eq_true z];have i4:=hx z;obtain⟨p5,rfl⟩:=i4.form;have i5:=i4.frb F5 ((F3m.then F4).get oo) iS Do;refine rqn ⟨A.length-(j+1),oM,j+1,p5,d,_,_,true,iS,iX,iX,iX,iX,iS,oM,by simpa using ll,lr1,o5,hd,i5,m5,L5,(at'.fr (frF (F3m.then F4)) blt).fr (KH F5) blt,rfl⟩
    done
   ·rw[if_neg z]at lr1;simp only[evs,seval,DF,eff,(F3m.get oo).ld,ol3,eq_false z];refine⟨A,c,d,al,?_,o5,hc,hd,fun q=>?_,m5,L5⟩
    ·rw[lr1];simp[z]
    ·rw[lr1]at q;exact absurd q z
  ·have lr1:aU m A l ks false=aU m (A.drop (j+1)) l' ks' mo:=by
    rw[lr,dr,aU,if_pos ⟨rx.1,by rw[ll];exact rx.2⟩,if_pos hk]
   simp(disch:=omega) only[evs,seval,ah,g29];refine rqn ⟨A.length-(j+1),oM,j+1,p',vk',l',ks',mo,iS,iX,iX,iX,iX,iX,oM,ll,lr1,F3.get oo,vv,ii.fr F3,mm.fr F3,L3,at'.fr (frF F3) blt,rfl⟩
   done
 ·have ej:j=A.length:=oM
  have lr1:aU m A l ks false=(0,l',ks',mo):=by
   rw[lr,ej,List.drop_length];rfl
  simp only[evs,seval,g29,g28,g12,hlt];refine⟨A,pv p',vk',al,?_,oo,?_,vv,fun _=>?_,mm,FF⟩
  ·rw[lr1];simp
  ·cases p'<;>rfl
  ·rw[lr1];exact ii
theorem rL{l:List Int}{i x:Int}(h:cg l i x=0):0≤i∧i<l.length∧1≤x∧x≤2305843009213693952:=by unfold cg at h;split at h;omega;omega
theorem dR(m:Int→Int):∀(A l:List Int)(ks:List Bool)(mo:Bool),ks.length=l.length→(∀x∈l,1≤x)→
 (aU m A l ks mo).2.1.length=l.length∧(aU m A l ks mo).2.2.1.length=ks.length∧(∀x∈(aU m A l ks mo).2.1,1≤x)∧(aU m A l ks mo).2.2.1.count false≤ks.count false∧
 ((aU m A l ks mo).2.2.2=true→mo=true∨(aU m A l ks mo).2.2.1.count false<ks.count false)
 |[],l,ks,mo,_,hp=>⟨rfl,rfl,hp,Nat.le_refl _,fun h=>.inl h⟩
 |i::A,l,ks,mo,hl,hp=>by
  rw[aU];by_cases c1:0≤i∧i<l.length;rw[if_pos c1];by_cases c2:ks.getD i.toNat false=true;rw[if_pos c2];exact dR m A l ks mo hl hp;rw[if_neg c2];by_cases c3:cg l i (m i)=0;rw[if_pos c3];let⟨_,_,x1,_⟩:=rL c3;have hi:i.toNat<ks.length:=oM;have hk:ks[i.toNat]=false:=by
   have:ks.getD i.toNat false=ks[i.toNat]:=by simp[List.getD,hi]
   rw[this]at c2;simpa using c2
  have hc:=List.count_set (a:=true) (b:=false) (l:=ks) hi;rw[hk]at hc;simp at hc;have hpos:0<ks.count false:=List.count_pos_iff.2 (by rw[←hk];exact List.getElem_mem hi);have ih:=dR m A (l.set i.toNat (m i)) (ks.set i.toNat true) true (eV hl) (fun x hx=>by
   obtain q|q:=List.mem_or_eq_of_mem_set hx;exact hp x q;omega)
  let⟨a1,a2,a3,a4,_⟩:=ih;refine⟨by simpa using a1,by simpa using a2,a3,oM,fun _=>.inr oM⟩;rw[if_neg c3];exact⟨rfl,rfl,hp,Nat.le_refl _,fun h=>.inl h⟩;rw[if_neg c1];exact⟨rfl,rfl,hp,Nat.le_refl _,fun h=>.inl h⟩
structure SS(h:Heap)(env:T V)(b fb bb N:Nat)(caps:List V)(p0 pm:Option Nat)(vk0:V)(l0:List Int)(ks0 bs:List Bool)(view over anchor delta:Int)(lo:Bool)(r:Nat)(l:List Int)(ks:List Bool):Prop where
 wf:WF h
 glb:Glb h
 ob:∃p vk,Own h b [pv p,vk,pv pm]∧vk.one=true∧Ix h (.agg [pv p,vk]) l ks
 ms:Mk h pm bs
 el:bs.length=l.length
 pos:∀x∈l,1≤x
 fo:Own h fb [.int .i64 view,.int .i64 over,.bool lo]
 bo:Own h bb [pv p0,vk0]
 v0:vk0.one=true
 ix0:Ix h (.agg [pv p0,vk0]) l0 ks0
 el0:bs.length=l0.length
 fne:fb≠b
 bne:bb≠b
 zne:0≠b
 g0:env.get 0=some (.ptr b 0)
 g2:env.get 2=some (.int .i64 anchor)
 g3:env.get 3=some (.int .i64 delta)
 g4:env.get 4=some (.func (.func N) [] caps)
 g6:env.get 6=some (.ptr fb 0)
 g11:env.get 11=some (.int .i64 r)
 g12:env.get 12=some (.int .i64 0)
 g13:env.get 13=some (.ptr bb 0)
theorem sR{c:List V}(h:c.length<60):∀n m ws,ws.length=64→c≠flc n m ws:=by intro n m ws hl e;have:=congrArg List.length e;simp[flc,hl]at this;omega
theorem qG(l:List Int)(view s:Int):bM l view (bM l view s)=bM l view s:=by unfold bM;omega
theorem qc{h:Heap}{env:T V}{b fb bb N r:Nat}{caps:List V}{p0 pm:Option Nat}{vk0:V}{l0 l:List Int}{ks0 bs ks:List Bool}{view over anchor delta s:Int}{lo:Bool}{m:Int→Int}{Q:Ex→T V→Heap→Prop}
 (S:SS h env b fb bb N caps p0 pm vk0 l0 ks0 bs view over anchor delta lo r l ks) (g10:env.get 10=some (.int .i64 s)) (ok:okF view over) (hr:r<1000000)
 (hN:N<1099511627776) (hm:∀h',FrF b h h'→∀i:Int,0≤i→i<(bs.length:Nat)→aj go N ([.int .i64 i]++caps) h' fun u h''=>u=.int .i64 (m i)∧Fr [] h' h'') (mb:∀i,-9223372036854775808≤m i∧m i≤9223372036854775807)
 (Kbad:∀env' h' A,jr l bs view over (bM l view s) A→(aU m A l ks false).1≠0→env'.get 10=some (.int .i64 0)→env'.get 11=some (.int .i64 0)→env'.get 12=some (.int .i64 (aU m A l ks false).1)→Lo h' b l0 ks0 bs→FrL b h h'→Q .ret env' h')
 (Kdone:∀env' h' A l' ks',jr l bs view over (bM l view s) A→aU m A l ks false=(0,l',ks',false)→env'.get 10=some (.int .i64 (bM l view s))→env'.get 11=some (.int .i64 r)→env'.get 12=some (.int .i64 0)→Lo h' b l' ks' bs→FrL b h h'→Q .ret env' h')
 (Kmore:∀env' h' A l' ks',jr l bs view over (bM l view s) A→aU m A l ks false=(0,l',ks',true)→SS h' env' b fb bb N caps p0 pm vk0 l0 ks0 bs view over anchor delta lo (r+1) l' ks'→env'.get 10=some (.int .i64 (bM l view s))→FrL b h h'→Q (.goto 0) env' h'):
 W go zT env h Q:=by
 let⟨wf,glb,⟨p,vk,o,v1,ix⟩,mk,el,pos,fo,bo,v0,ix0,el0,fne,bne,zne,g0,g2,g3,g4,g6,g11,g12,g13⟩:=S;have a:Lo h b l ks bs:=⟨p,vk,pm,o,v1,ix,mk,el⟩;have fit:=ix.fit;have f1:=fit.nn;have f2:=fit.2.1;simp only[evs,seval,zT,g12,g6,g10,g0,fo.ld];apply aa (nY wf a);rintro _ h1 ⟨rfl,F1⟩;rw[if_pos ok];obtain⟨s',hs'⟩:∃s',s'=bM l view s:=⟨_,rfl⟩;rw[←hs']at Kbad Kdone Kmore⊢;have sb:0≤s'∧s'≤4611686018427387904:=by rw[hs'];unfold bM;have:=ok.1;omega
 have ci:bM l view s'=s':=by rw[hs'];exact qG _ _ _
 simp only[evs,seval,g6,g0,g4,(F1.get fo).ld];apply aa (Hd F1.wf (glb.fr F1) (F1.get o) v1 (ix.fr F1) (mk.fr F1) el pos oM oM ok ci hN (fun h' f i i0 i1=>hm h' ((frF F1).trans f) i i0 oM) mb);rintro _ h2 ⟨A,c,d,al,rfl,o2,hc,hd,hx,mk2,L2⟩;have L02:FrL b h h2:=(frL F1).trans L2;have ff2:=L02.f.own _ _ fne (sR iS) fo;have bb2:=L02.f.own _ _ bne (sR iS) bo;have i02:=L02.ix _ _ _ ix0;have g2':=glb.frF L02.f zne;have sp:=dR m A l ks false ix.len.1 pos;obtain⟨l',ks',mo,e,he⟩:∃l' ks' mo e,aU m A l ks false=(e,l',ks',mo):=⟨_,_,_,_,rfl⟩;have Kb:=Kbad;rw[he]at sp hx⊢;simp only[]at sp hx⊢;by_cases z:e=0;subst z;have i2:=hx rfl;obtain⟨p2,rfl⟩:=i2.form;cases mo;simp only[evs,seval,g11];exact Kdone _ _ A l' ks' al he iS iS iS ⟨p2,d,pm,o2,hd,i2,mk2,oM⟩ L02;simp(disch:=omega) only[evs,seval,ah,g11];refine Kmore _ _ A l' ks' al he ⟨L02.f.wf,g2',⟨p2,d,o2,hd,i2⟩,mk2,oM,sp.2.2.1,ff2,bb2,v0,i02,el0,fne,bne,zne,iX,iX,iX,iX,iX,iS,iS,iX⟩ iS L02;simp only[evs,seval,g0,g13,eq_false z,bb2.ld];apply ai (c':=[pv p0,vk0,pv pm]) L02.f.wf o2 rfl (by simp[av,V.cells,fu,v0]) rfl;rintro h3 o3 F3 n3;simp only[evs,seval];refine Kbad _ _ A al (by rw[he];exact z) iS iS (by rw[he];simp) ⟨p0,vk0,pm,o3,v0,i02.frb F3 o2 iS Do,mk2.frb F3 o2 rfl,el0⟩ (L02.trans (KG F3 o2 o3))
end Go.Ev.Lay
