/- An evaluator of the program, and contracts over it: StbW to StbZd. -/
import Derived.Test.YtdbfhmneijcjbaaGreatP11
import Derived.Test.YtdbfhmneijcjbaaGreatP12
set_option linter.unusedSimpArgs false
set_option linter.unusedVariables false
set_option linter.constructorNameAsVariable false
namespace Go.Ev.Lay
open Go.Ev.St
set_option maxRecDepth 4000
def Itm.val(x:Itm):Nat×Nat×Str×List Str:=(x.key,x.type,x.text,x.marks)
def Ent.val(e:Ent):(Nat×Nat×Str×List Str)×Int×Bool:=(e.x.val,e.b,e.kn)
theorem Fv{h:Heap}{va vb:V}{L:List Str}(a:ARecs sS 1 h va L)(b:ARecs sS 1 h vb L)(hn:L.length≤4096):ao go 191 [va,vb] h fun u h'=>u=.bool true∧h=h':=by
 refine ag g191 rfl ?_;simp only[fn191,evs,↓reduceIte,Nat.reduceEqDiff,Nat.reduceAdd,a.len,b.len];refine aE (fun n env hh=>h=hh∧∃i:Nat,env.get 13=some (.int .i64 i)∧env.get 12=some (.int .i64 L.length)∧env.get 0=some va∧env.get 1=some vb∧i≤L.length∧n=L.length-i) L.length (by omega) ?_ ?_
 ·exact⟨rfl,0,(by simp[T.get_set]),(by simp[T.get_set]),(by simp[T.get_set]),(by simp[T.get_set]),by omega,rfl⟩
 ·rintro n env hh ⟨rfl,i,g13,g12,g0,g1,hi,rfl⟩;by_cases c:i<L.length
  ·obtain⟨b1,o1,s1,p1,p2,_,p4⟩:=a.ix gI .i64 (i:Int) (by omega) (by omega);obtain⟨b2,o2,s2,q1,q2,_,q4⟩:=b.ix gI .i64 (i:Int) (by omega) (by omega);rw[p4]at q4;cases q4;have x1:ab h b1 o1=some (.str s1):=p2 0 (by omega);have x2:ab h b2 o2=some (.str s1):=q2 0 (by omega);simp(disch:=omega) only[evs,↓reduceIte,Nat.reduceEqDiff,Nat.reduceAdd,DF,eff,Nat.reduceSub,ai,g13,g12,g0,g1,show(i:Int)<L.length by omega,p1,q1,x1,x2,aR,beq_self_eq_true];refine(aj _ _ _).2 ⟨L.length-(i+1),by omega,rfl,i+1,(by simp[T.get_set]),(by simp[T.get_set,g12]),(by simp[T.get_set,g0]),(by simp[T.get_set,g1]),by omega,rfl⟩
  ·simp only[evs,↓reduceIte,g13,g12,show¬(i:Int)<L.length by omega]
theorem Itm.val_eq{x y:Itm}(e:x.val=y.val):x.key=y.key∧x.type=y.type∧x.text=y.text∧x.marks=y.marks:=by
 simp only[Itm.val,Prod.mk.injEq]at e;exact e
theorem Ah{h:Heap}{x y:Itm}(w:WF h)(a:ItmH h x)(b:ItmH h y)(e:x.val=y.val):ao go 120 [.agg x.cells,.agg y.cells] h fun u h'=>u=.bool true∧Fr [] h h':=by
 obtain⟨e1,e2,e3,e4⟩:=Itm.val_eq e;obtain⟨h1,e_h1⟩:∃h1,h1=halloc h x.cells:=⟨_,rfl⟩;have F_h1:Fr [] h h1:=e_h1▸Fr.halloc w _;have o_h1:Own h1 h.next x.cells:=e_h1▸Own.new w _;obtain⟨h2,e_h2⟩:∃h2,h2=halloc h1 y.cells:=⟨_,rfl⟩;have F_h2:Fr [] h1 h2:=e_h2▸Fr.halloc F_h1.wf _;have o_h2:Own h2 h1.next y.cells:=e_h2▸Own.new F_h1.wf _;have F:=F_h1.then F_h2;have o1:=F_h2.get o_h1;have x0:ab h2 h.next 0=some (.int .u64 (x.key:Int)):=o1.ld1 0;have x1:ab h2 h.next 1=some (.int .u8 (x.type:Int)):=o1.ld1 1;have x2:ab h2 h.next 2=some (.str x.text):=o1.ld1 2;have x3:ab h2 h.next 3=some x.vm:=o1.ld1 3;have y0:ab h2 h1.next 0=some (.int .u64 (x.key:Int)):=by rw[e1];exact o_h2.ld1 0
 have y1:ab h2 h1.next 1=some (.int .u8 (x.type:Int)):=by rw[e2];exact o_h2.ld1 1
 have y2:ab h2 h1.next 2=some (.str x.text):=by rw[e3];exact o_h2.ld1 2
 have y3:ab h2 h1.next 3=some y.vm:=o_h2.ld1 3;refine ag g120 rfl ?_;simp only[fn120,evs,↓reduceIte,Nat.reduceEqDiff,Nat.reduceAdd,←e_h1,←e_h2,x0,x1,x2,x3,y0,y1,y2,y3,aI,beq_self_eq_true];refine aa (Fv (a.m.fr F) (by rw[e4];exact b.m.fr F) a.n) ?_;rintro _ _ ⟨rfl,rfl⟩;simp only[evs,↓reduceIte];exact F
theorem Ai{h:Heap}{x y:Ent}(w:WF h)(a:ItmH h x.x)(b:ItmH h y.x)(e:x.val=y.val):ao go 119 [.agg x.cells,.agg y.cells] h fun u h'=>u=.bool true∧Fr [] h h':=by
 simp only[Ent.val,Prod.mk.injEq]at e;obtain⟨e1,e2,e3⟩:=e;obtain⟨h1,e_h1⟩:∃h1,h1=halloc h x.cells:=⟨_,rfl⟩;have F_h1:Fr [] h h1:=e_h1▸Fr.halloc w _;have o_h1:Own h1 h.next x.cells:=e_h1▸Own.new w _;obtain⟨h2,e_h2⟩:∃h2,h2=halloc h1 y.cells:=⟨_,rfl⟩;have F_h2:Fr [] h1 h2:=e_h2▸Fr.halloc F_h1.wf _;have o_h2:Own h2 h1.next y.cells:=e_h2▸Own.new F_h1.wf _;have F:=F_h1.then F_h2;have o1:=F_h2.get o_h1;have x4:ab h2 h.next 4=some (.int .i64 x.b):=o1.ld1 4;have x5:ab h2 h.next 5=some (.bool x.kn):=o1.ld1 5;have y4:ab h2 h1.next 4=some (.int .i64 x.b):=by rw[e2];exact o_h2.ld1 4
 have y5:ab h2 h1.next 5=some (.bool x.kn):=by rw[e3];exact o_h2.ld1 5
 have lx:au h2 h.next 0 4=some x.x.cells:=by rw[o1.ld];rfl
 have ly:au h2 h1.next 0 4=some y.x.cells:=by rw[o_h2.ld];rfl
 refine ag g119 rfl ?_;simp only[fn119,evs,↓reduceIte,Nat.reduceEqDiff,Nat.reduceAdd,←e_h1,←e_h2,x4,x5,y4,y5,lx,ly];refine aa (Ah F_h2.wf (a.fr F) (b.fr F) e1) ?_;rintro _ h3 ⟨rfl,F3⟩;simp only[evs,↓reduceIte];exact F.then F3
theorem Fw{h:Heap}{va vb:V}{Z E:List Ent}(w:WF h)(a:Recs Ent.cells 6 h va Z)(b:Recs Ent.cells 6 h vb E)(za:∀z∈Z,ItmH h z.x)(ea:∀e∈E,ItmH h e.x)(eq:Z.map Ent.val=E.map Ent.val)(hn:E.length≤4096):
 ao go 118 [va,vb,.func (.func 119) [] []] h fun u h'=>u=.bool true∧Fr [] h h':=by
 have ln:Z.length=E.length:=by have:=congrArg List.length eq;simpa using this
 have la:=a.len;rw[ln]at la;refine ag g118 rfl ?_;simp only[fn118,evs,↓reduceIte,Nat.reduceEqDiff,Nat.reduceAdd,la,b.len];refine aE (fun n env hh=>Fr [] h hh∧∃i:Nat,env.get 17=some (.int .i64 i)∧env.get 16=some (.int .i64 E.length)∧env.get 15=some va∧env.get 1=some vb∧env.get 2=some (.func (.func 119) [] [])∧i≤E.length∧n=E.length-i) E.length (by omega) ?_ ?_
 ·exact⟨Fr.refl w,0,(by simp[T.get_set]),(by simp[T.get_set]),(by simp[T.get_set]),(by simp[T.get_set]),(by simp[T.get_set]),by omega,rfl⟩
 ·rintro n env hh ⟨F,i,g17,g16,g15,g1,g2,hi,rfl⟩;by_cases c:i<E.length
  ·obtain⟨b1,o1,z,p1,_,p3,p4⟩:=(a.fr F).ix aZ .i64 (i:Int) (by omega) (by omega);rw[Int.toNat_natCast]at p4;have zm:=List.mem_of_getElem? p4;have az:=(za z zm).fr F;obtain⟨h3,e_h3⟩:∃h3,h3=halloc hh [.int .u64 0,.int .u8 0,.str [],.nils,.int .i64 0,.bool false]:=⟨_,rfl⟩;have F_h3:Fr [] hh h3:=e_h3▸Fr.halloc F.wf _;have o_h3:Own h3 hh.next [.int .u64 0,.int .u8 0,.str [],.nils,.int .i64 0,.bool false]:=e_h3▸Own.new F.wf _;simp only[evs,↓reduceIte,Nat.reduceEqDiff,g17,g16,g15,show(i:Int)<E.length by omega,p1,p3,←e_h3];refine ah (c':=z.cells) F_h3.wf o_h3 rfl (sw az) rfl ?_;rintro h4 o4 F4 n4;have F04:Fr [] hh h4:=F_h3.fresh F4 F.wf (Nat.le_refl _);obtain⟨b2,o2,e,q1,_,q3,q4⟩:=(b.fr (F.then F04)).ix aZ .i64 (i:Int) (by omega) (by omega);rw[Int.toNat_natCast]at q4;have em:=List.mem_of_getElem? q4;have ae:=(ea e em).fr (F.then F04);obtain⟨h5,e_h5⟩:∃h5,h5=halloc h4 [.int .u64 0,.int .u8 0,.str [],.nils,.int .i64 0,.bool false]:=⟨_,rfl⟩;have F_h5:Fr [] h4 h5:=e_h5▸Fr.halloc F4.wf _;have o_h5:Own h5 h4.next [.int .u64 0,.int .u8 0,.str [],.nils,.int .i64 0,.bool false]:=e_h5▸Own.new F4.wf _;simp only[evs,↓reduceIte,Nat.reduceEqDiff,g1,q1,q3,←e_h5];refine ah (c':=e.cells) F_h5.wf o_h5 rfl (sw ae) rfl ?_;rintro h6 o6 F6 n6;have F46:Fr [] h4 h6:=F_h5.fresh F6 F4.wf (Nat.le_refl _);have lz:au h6 hh.next 0 6=some z.cells:=by rw[(F46.get o4).ld];rfl
   have le:au h6 h4.next 0 6=some e.cells:=by rw[o6.ld];rfl
   have ev:z.val=e.val:=by
    have:=congrArg (fun l=>l[i]?) eq;simp only[List.getElem?_map,p4,q4,Option.map_some]at this;exact Option.some.inj this
   have big:119<1099511627776:=by omega
   simp only[evs,↓reduceIte,Nat.reduceEqDiff,g2,lz,le,big];refine aa (Ai F6.wf (az.fr (F04.then F46)) (ae.fr F46) ev) ?_;rintro _ h7 ⟨rfl,F7⟩;simp(disch:=omega) only[evs,↓reduceIte,Nat.reduceEqDiff,ai,g17];refine(aj _ _ _).2 ⟨E.length-(i+1),by omega,F.then (F04.then (F46.then F7)),i+1,(by simp[T.get_set]),(by simp[T.get_set,g16]),(by simp[T.get_set,g15]),(by simp[T.get_set,g1]),(by simp[T.get_set,g2]),by omega,rfl⟩
  ·simp only[evs,↓reduceIte,g17,g16,show¬(i:Int)<E.length by omega];exact F
theorem Ag{h:Heap}{va vb:V}{Z E:List Ent}(w:WF h)(a:Recs Ent.cells 6 h va Z)(b:Recs Ent.cells 6 h vb E)(za:∀z∈Z,ItmH h z.x)(ea:∀e∈E,ItmH h e.x)(eq:Z.map Ent.val=E.map Ent.val)(hn:E.length≤4096):
 ao go 61 [.agg [va],.agg [vb]] h fun u h'=>u=.bool true∧Fr [] h h':=by
 have v1:va.one=true:=Sl.one a;have v2:vb.one=true:=Sl.one b;obtain⟨h1,e_h1⟩:∃h1,h1=halloc h [va]:=⟨_,rfl⟩;have F_h1:Fr [] h h1:=e_h1▸Fr.halloc w _;have o_h1:Own h1 h.next [va]:=e_h1▸Own.new w _;obtain⟨h2,e_h2⟩:∃h2,h2=halloc h1 [vb]:=⟨_,rfl⟩;have F_h2:Fr [] h1 h2:=e_h2▸Fr.halloc F_h1.wf _;have o_h2:Own h2 h1.next [vb]:=e_h2▸Own.new F_h1.wf _;have F:=F_h1.then F_h2;have x0:ab h2 h.next 0=some va:=(F_h2.get o_h1).ld1 0;have y0:ab h2 h1.next 0=some vb:=o_h2.ld1 0;refine ag g61 rfl ?_;simp only[fn61,evs,↓reduceIte,Nat.reduceEqDiff,Nat.reduceAdd,←e_h1,←e_h2,x0,y0];refine aa (Fw F_h2.wf (a.fr F) (b.fr F) (fun z m=>(za z m).fr F) (fun z m=>(ea z m).fr F) eq hn) ?_;rintro _ h3 ⟨rfl,F3⟩;simp only[evs,↓reduceIte];exact F.then F3
def E0:List V:=[.int .u64 0,.int .u8 0,.str [],.nils,.int .i64 0,.bool false]
theorem A8{Z:List Ent}{z:Ent}{n i:Nat}(hZ:Z.length=i)(hi:i<n):bo (Z.flatMap Ent.cells++bv E0 (n-i)) (i*6) z.cells=some ((Z++[z]).flatMap Ent.cells++bv E0 (n-(i+1))):=by
 have l:(Z.flatMap Ent.cells).length=i*6:=by rw[aF aZ,hZ]
 rw[show n-i=n-(i+1)+1 by omega,d8,←l,←Nat.add_zero (Z.flatMap Ent.cells).length,jJ (E0++bv E0 (n-(i+1))) 0 z.cells (z.cells++bv E0 (n-(i+1))) (iZ _ _ _ _ _ rfl),List.flatMap_append];simp
theorem LoP.kl{h:Heap}{b:Nat}{pm:Option Nat}{l:List Int}{ks bs:List Bool}(a:LoP h b pm l ks bs):ks.length=l.length∧Fit l:=by
 obtain⟨p,vk,o,v1,ix,mk,e⟩:=a;exact⟨ix.len.1,ix.fit⟩
theorem qy{α:Type}{l:List α}{i:Nat}(d:α)(h:i<l.length):l.take (i+1)=l.take i++[l.getD i d]:=by
 rw[List.take_add_one,List.getD_eq_getElem?_getD,List.getElem?_eq_getElem h];rfl
theorem Aj{n0:Nat}{h:Heap}{b bg B bm S bl:Nat}{Ks:List Knd}{cap:Int}{X:List Itm}{l:List Int}{kn st:List Bool}{vK:V}{pm:Option Nat}{mc:eW}(w:WF h)(s:Sto n0 h b Ks cap X l kn st vK bg B bm S bl pm mc)(nz:∀x∈X,nZ x.vm=true)(hx:X.length≤1024):
 ao go 30 [.ptr b 0] h fun u h'=>Fr [] h h'∧∃v Z,u=.agg [v]∧Recs Ent.cells 6 h' v Z∧Z.map (fun z=>z.x.val)=X.map Itm.val∧Z.map Ent.b=l∧Z.map Ent.kn=kn∧∀z∈Z,ItmH h' z.x:=by
 have kl:=s.lo.kl.1;have ll:=s.len;obtain⟨h1,e_h1⟩:∃h1,h1=halloc h [.nils]:=⟨_,rfl⟩;have F_h1:Fr [] h h1:=e_h1▸Fr.halloc w _;have o_h1:Own h1 h.next [.nils]:=e_h1▸Own.new w _;obtain⟨h2,e_h2⟩:∃h2,h2=halloc h1 [.nils]:=⟨_,rfl⟩;have F_h2:Fr [] h1 h2:=e_h2▸Fr.halloc F_h1.wf _;have o_h2:Own h2 h1.next [.nils]:=e_h2▸Own.new F_h1.wf _;have n1:h1.next=h.next+1:=by rw[e_h1];rfl
 have n2:h2.next=h1.next+1:=by rw[e_h2];rfl
 refine ag g30 rfl ?_;simp only[fn30,evs,↓reduceIte,←e_h1,←e_h2];refine ah (o:=0) (v:=.agg [.nils]) (c':=[.nils]) F_h2.wf o_h2 rfl rfl rfl ?_;rintro h3 o3 F3 n3;have F03:Fr [] h h3:=(F_h1.then F_h2).fresh F3 w (by omega);have o13:=F3.own _ _ (by simp;omega) (F_h2.get o_h1);have s3:=s.fr w F03;simp only[evs,↓reduceIte,Nat.reduceEqDiff];refine aa (j8 s3) ?_;rintro _ _ ⟨rfl,rfl⟩;by_cases c0:X.length=0
 ·have l3:au h3 h1.next 0 1=some [.nils]:=by rw[o3.ld];rfl
  simp only[evs,↓reduceIte,Nat.reduceEqDiff,eq_true (show((X.length:Nat):Int)=0 by omega),l3];refine ah (o:=0) (v:=.agg [.nils]) (c':=[.nils]) F3.wf o13 rfl rfl rfl ?_;rintro h4 o4 F4 n4;have l4:au h4 h.next 0 1=some [.nils]:=by rw[o4.ld];rfl
  simp only[evs,↓reduceIte,Nat.reduceEqDiff,l4];have e1:X=[]:=List.length_eq_zero_iff.1 c0;have e2:l=[]:=List.length_eq_zero_iff.1 (by omega);have e3:kn=[]:=List.length_eq_zero_iff.1 (by omega);subst e1 e2 e3;exact⟨F03.fresh F4 w (by omega),.nils,[],rfl,Recs.nil,rfl,rfl,rfl,by simp⟩
 simp only[evs,↓reduceIte,Nat.reduceEqDiff,eq_false (show¬((X.length:Nat):Int)=0 by omega)];refine aa (j8 s3) ?_;rintro _ _ ⟨rfl,rfl⟩;simp only[evs];refine(gw _ _ _ _ _ _ _ _ (by omega) (by omega) (by omega) (by omega)).2 ?_;simp only[Int.toNat_natCast];obtain⟨h4,e_h4⟩:∃h4,h4=halloc h3 (bv [.int .u64 0,.int .u8 0,.str [],.nils,.int .i64 0,.bool false] X.length):=⟨_,rfl⟩;have F_h4:Fr [] h3 h4:=e_h4▸Fr.halloc F3.wf _;have o4:Own h4 h3.next (bv E0 X.length):=e_h4▸Own.new F3.wf _;have n4:h4.next=h3.next+1:=by rw[e_h4];rfl
 rw[←e_h4];clear e_h4;simp only[evs,↓reduceIte,Nat.reduceEqDiff];refine ah (o:=0) (c':=[.slice h3.next 0 X.length X.length]) F_h4.wf (F_h4.get o3) rfl rfl rfl ?_;rintro h5 o5 F5 n5;have F05:Fr [] h h5:=(F03.then F_h4).fresh F5 w (by omega);have s5:=s.fr w F05;have b2:ab h5 b 2=some (.ptr bg 0):=s5.ob.ld1 2;have bn:=s.ob.lt w;have o45:=F5.own _ _ (by simp;omega) o4;simp only[evs,↓reduceIte,Nat.reduceEqDiff,b2];refine aa (A3 F5.wf s5.g) ?_;rintro vG h6 ⟨b',hb',tb,F6⟩;have n6:=F6.next;simp only[evs,↓reduceIte,tb.len];refine aE (fun n env hh=>Fr [h3.next] h6 hh∧∃(i:Nat)(Z:List Ent),env.get 25=some (.int .i64 i)∧env.get 24=some (.int .i64 X.length)∧env.get 23=some vG∧env.get 3=some (.ptr h1.next 0)∧env.get 2=some (.ptr h.next 0)∧env.get 0=some (.ptr b 0)∧i≤X.length∧Z.length=i∧
  Own hh h3.next (Z.flatMap Ent.cells++bv E0 (X.length-i))∧Z.map (fun z=>z.x.val)=(X.take i).map Itm.val∧Z.map Ent.b=l.take i∧Z.map Ent.kn=kn.take i∧(∀(Y:List Nat)(h':Heap),(∀y∈Y,y<h6.next)→Fr Y hh h'→∀z∈Z,ItmH h' z.x)∧n=X.length-i) X.length (by omega) ?_ ?_
 ·exact⟨Fr.refl F6.wf,0,[],(by simp[T.get_set]),(by simp[T.get_set]),(by simp[T.get_set]),(by simp[T.get_set]),(by simp[T.get_set]),(by simp[T.get_set]),by omega,rfl,F6.get o45,rfl,rfl,rfl,by simp,rfl⟩
 ·rintro n env hh ⟨F,i,Z,g25,g24,g23,g3,g2,g0,hi,zl,oo,zv,zb,zk,zi,rfl⟩;have nF:=F.next;have F0h:Fr [] h hh:=Fr.new w (F05.then F6) F (by simp;omega);have sh:=s.fr w F0h;have o3h:Own hh h1.next [.slice h3.next 0 X.length X.length]:=F.own _ _ (by simp;omega) (F6.get o5);have o2h:Own hh h.next [.nils]:=F.own _ _ (by simp;omega) (F6.get (F5.own _ _ (by simp;omega) (F_h4.get o13)));have rs:Recs Itm.cells 4 hh vG X:=(tb.fr F (by simp;omega)).sl;by_cases c:i<X.length
  ·have hc:(0:Int)≤(i:Int)∧(i:Int)<((l.length:Nat):Int):=by omega
   obtain⟨bi,oi,x,p1,_,p3,p4⟩:=rs.ix dH .i64 (i:Int) (by omega) (by omega);rw[Int.toNat_natCast]at p4;have xm:=List.mem_of_getElem? p4;have ax:=(sh.rd [] hh (by simp) (Fr.refl F.wf)).2.2 x xm;obtain⟨ha,e_ha⟩:∃ha,ha=halloc hh [.int .u64 0,.int .u8 0,.str [],.nils]:=⟨_,rfl⟩;have F_ha:Fr [] hh ha:=e_ha▸Fr.halloc F.wf _;have o_ha:Own ha hh.next [.int .u64 0,.int .u8 0,.str [],.nils]:=e_ha▸Own.new F.wf _;simp only[evs,↓reduceIte,Nat.reduceEqDiff,g25,g24,g23,show(i:Int)<X.length by omega,p1,p3,←e_ha];refine ah (c':=x.cells) F_ha.wf o_ha rfl ax.one rfl ?_;rintro hb ob Fb nb;have Fhb:Fr [] hh hb:=F_ha.fresh Fb F.wf (Nat.le_refl _);have sb:=sh.fr F.wf Fhb;have b4:ab hb b 4=some (.ptr bl 0):=sb.ob.ld1 4;simp only[evs,↓reduceIte,Nat.reduceEqDiff,g0,b4];refine aa (CA Fb.wf sb.lo.lo) ?_;rintro _ hc1 ⟨rfl,Fc⟩;rw[if_pos hc,Int.toNat_natCast];have sc:=sb.fr Fb.wf Fc;have b4c:ab hc1 b 4=some (.ptr bl 0):=sc.ob.ld1 4;simp only[evs,↓reduceIte,Nat.reduceEqDiff,g0,b4c];refine aa (zP Fc.wf sc.lo.lo) ?_;rintro _ hd ⟨rfl,Fd⟩;rw[if_pos hc,Int.toNat_natCast];have Fhd:Fr [] hh hd:=Fhb.then (Fc.then Fd);have x4:au hd hh.next 0 4=some x.cells:=by rw[((Fc.then Fd).get ob).ld];rfl
   have d3:ab hd h1.next 0=some (.slice h3.next 0 X.length X.length):=(Fhd.get o3h).ld1 0;simp only[evs,↓reduceIte,Nat.reduceEqDiff,eff,g3,x4,d3];refine aa (qK Fd.wf (ax.fr Fhd) (nz x xm)) ?_;rintro _ he ⟨vy,rfl,Fe,nE,v1,stb⟩;have Fhe:=Fhd.then Fe;have e3:ab he h1.next 0=some (.slice h3.next 0 X.length X.length):=(Fhe.get o3h).ld1 0;have px:aP (.ixs 6) [.slice h3.next 0 X.length X.length,.int .i64 (i:Int)]=some (.ptr h3.next (i*6)):=by rw[iS _ _ _ _ _ _ _ (by omega) (by omega)];simp
   have oe:=Fhe.get oo;have on:aq (Ent.cells ⟨x.own vy,l.getD i 0,kn.getD i false⟩)=true:=by
    show aq [.int .u64 (x.key:Int),.int .u8 (x.type:Int),.str x.text,vy,.int .i64 _,.bool _]=true;simp only[aD,aJ,v1];rfl
   simp only[evs,↓reduceIte,Nat.reduceEqDiff,Nat.reduceAdd,Nat.reduceLT,eff,px,fY];refine ah (v:=.agg (Ent.cells ⟨x.own vy,l.getD i 0,kn.getD i false⟩)) Fe.wf oe rfl on (A8 zl c) ?_;rintro hf of' Ff nf;have FN:Fr [h3.next] h6 hf:=Fr.trans (Fr.trans (T:=[h3.next]) F Fhe F6.wf (fun x m=>.inl m) (by simp)) Ff F6.wf (fun x m=>.inl m) (fun x m=>.inl m);have nhe:=Fhe.next;have nhd:=Fhd.next;have stz:∀(Y:List Nat)(h':Heap),(∀y∈Y,y<h6.next)→Fr Y hf h'→∀z∈Z++[(⟨x.own vy,l.getD i 0,kn.getD i false⟩:Ent)],ItmH h' z.x:=by
    intro Y h' hY f z m;have fe:Fr ([h3.next]++Y) he h':=Fr.trans Ff f Fe.wf (fun x m=>.inl (List.mem_append.2 (.inl m))) (fun x m=>.inl (List.mem_append.2 (.inr m)));have hY2:∀y∈[h3.next]++Y,y<h6.next:=by
     intro y m;rcases List.mem_append.1 m with m|m
     ·simp at m;omega
     ·exact hY y m
    rcases List.mem_append.1 m with m|m
    ·exact zi ([h3.next]++Y) h' hY2 (Fr.trans Fhe fe F.wf (by simp) (fun x m=>.inl m)) z m
    ·rw[List.mem_singleton.1 m];exact⟨ax.k,ax.t,Sl.a (stb _ h' (fun y m=>by have:=hY2 y m;omega) fe),ax.n,ax.l⟩
   simp(disch:=omega) only[evs,↓reduceIte,Nat.reduceEqDiff,Nat.reduceAdd,DF,Nat.reduceSub,ai,g25,x4,d3,e3];refine(aj _ _ _).2 ⟨X.length-(i+1),by omega,FN,i+1,Z++[⟨x.own vy,l.getD i 0,kn.getD i false⟩],(by simp[T.get_set]),(by simp[T.get_set,g24]),(by simp[T.get_set,g23]),(by simp[T.get_set,g3]),(by simp[T.get_set,g2]),(by simp[T.get_set,g0]),by omega,by simp[zl],of',?_,?_,?_,stz,rfl⟩
   ·rw[List.take_add_one,p4,List.map_append,List.map_append,zv];rfl
   ·rw[qy 0 (by omega),List.map_append,zb];rfl
   ·rw[qy false (by omega),List.map_append,zk];rfl
  ·have e:i=X.length:=by omega
   subst e;rw[List.take_of_length_le (by omega)]at zv zb zk;have z0:bv E0 (X.length-X.length)=[]:=by rw[Nat.sub_self];rfl
   rw[z0,List.append_nil]at oo;have l3:au hh h1.next 0 1=some [.slice h3.next 0 X.length X.length]:=by rw[o3h.ld];rfl
   simp only[evs,↓reduceIte,Nat.reduceEqDiff,g25,g24,g3,g2,show¬(X.length:Int)<X.length by omega,l3];refine ah (o:=0) (v:=.agg [.slice h3.next 0 X.length X.length]) (c':=[.slice h3.next 0 X.length X.length]) F.wf o2h rfl rfl rfl ?_;rintro hz oz Fz nz;have lz:au hz h.next 0 1=some [.slice h3.next 0 X.length X.length]:=by rw[oz.ld];rfl
   simp only[evs,↓reduceIte,Nat.reduceEqDiff,lz,g2];have ooz:=Fz.own _ _ (by simp;omega) oo;refine⟨F0h.fresh Fz w (by omega),_,Z,rfl,?_,zv,zb,zk,zi [h.next] hz (by simp;omega) Fz⟩;have:=Sl.lit (n:=X.length) ooz (by rw[aF aZ,zl]);rw[←zl]at this⊢;exact this
def SE(N:Nat)(Ks:List Knd)(h:Heap)(b:Nat)(E:List Ent):Prop:=
 ∃n0 K X st vK bg B bm S bl pm mc,Sto n0 h b K 12 X (E.map Ent.b) (E.map Ent.kn) st vK bg B bm S bl pm mc∧dL Ks K∧X.map Itm.val=E.map (fun e=>e.x.val)∧(∀x∈X,nZ x.vm=true)∧IxOf mc.1 E∧mc.2≤1024∧(∀y∈Wr b bg B bm S bl pm,N≤y)∧N≤n0
theorem SE.fr{N:Nat}{Ks:List Knd}{h h':Heap}{b:Nat}{E:List Ent}(w:WF h)(s:SE N Ks h b E)(f:Fr [] h h'):SE N Ks h' b E:=by
 obtain⟨n0,K,X,st,vK,bg,B,bm,S,bl,pm,mc,s,r⟩:=s;exact⟨n0,K,X,st,vK,bg,B,bm,S,bl,pm,mc,s.fr w f,r⟩
theorem CP{N:Nat}{Ks:List Knd}{h:Heap}{b:Nat}{E:List Ent}{vE:V}(w:WF h)(s:SE N Ks h b E)(re:Recs Ent.cells 6 h vE E)(ie:∀e∈E,ItmH h e.x)(hE:E.length≤1024):
 ao go 19 [.ptr b 0,.agg [vE]] h fun u h'=>u=.int .i64 1∧Fr [] h h':=by
 obtain⟨n0,K,X,st,vK,bg,B,bm,S,bl,pm,mc,s,sk,ev,nz,ix,_,_,_⟩:=s;have lx:X.length=E.length:=by have:=congrArg List.length ev;simpa using this
 have fit:=s.lo.kl.2;have v1:vE.one=true:=Sl.one re;obtain⟨h1,e_h1⟩:∃h1,h1=halloc h [vE]:=⟨_,rfl⟩;have F_h1:Fr [] h h1:=e_h1▸Fr.halloc w _;have o_h1:Own h1 h.next [vE]:=e_h1▸Own.new w _;have s1:=s.fr w F_h1;have x0:∀{h'},Fr [] h1 h'→ab h' h.next 0=some vE:=fun f=>(f.get o_h1).ld1 0;have x1:∀{h'},Fr [] h1 h'→au h' h.next 0 1=some [vE]:=fun f=>by rw[(f.get o_h1).ld];rfl
 have y0:=x0 (Fr.refl F_h1.wf);have y1:=x1 (Fr.refl F_h1.wf);refine ag g19 rfl ?_;simp only[fn19,evs,↓reduceIte,Nat.reduceEqDiff,Nat.reduceAdd,eff,←e_h1];refine aa (j8 s1) ?_;rintro _ _ ⟨rfl,rfl⟩;simp only[evs,↓reduceIte,Nat.reduceEqDiff,eff,re.len,y0,lx];refine aa (Aj F_h1.wf s1 nz (by omega)) ?_;rintro _ h2 ⟨F2,vz,Z,rfl,rz,zv,zb,zk,iz⟩;have y0b:=x0 F2;have y1b:=x1 F2;have eq:Z.map Ent.val=E.map Ent.val:=by
  have l1:Z.length=E.length:=by have:=congrArg List.length zb;simpa using this
  refine List.ext_getElem? fun i=>?_;rw[List.getElem?_map,List.getElem?_map];rw[ev]at zv;have a1:=congrArg (fun l=>l[i]?) zv;have a2:=congrArg (fun l=>l[i]?) zb;have a3:=congrArg (fun l=>l[i]?) zk;simp only[List.getElem?_map]at a1 a2 a3;cases q:Z[i]?with
  |none=>rw[List.getElem?_eq_none (by have:=List.getElem?_eq_none_iff.1 q;omega)]
  |some z=>
   have il:=(List.getElem?_eq_some_iff.1 q).1;have q2:E[i]? =some E[i]:=List.getElem?_eq_getElem (by omega);rw[q,q2]at a1 a2 a3;rw[q2];simp only[Option.map_some,Option.some.injEq]at a1 a2 a3⊢;simp only[Ent.val,a1,a2,a3]
 simp only[evs,↓reduceIte,Nat.reduceEqDiff,eff,y1b];refine aa (Ag F2.wf rz (re.fr (F_h1.then F2)) iz (fun e m=>(ie e m).fr (F_h1.then F2)) eq (by omega)) ?_;rintro _ h3 ⟨rfl,F3⟩;have F13:=F2.then F3;simp only[evs,↓reduceIte,Nat.reduceEqDiff,Nat.reduceAdd,DF,eff,Nat.reduceSub,y0,y1,y1b];refine aE (fun n env hh=>Fr [] h1 hh∧∃i:Nat,env.get 6=some (.int .i64 i)∧env.get 5=some (.int .i64 ((E.map Ent.b).take i).sum)∧env.get 0=some (.ptr b 0)∧env.get 3=some (.ptr h.next 0)∧i≤E.length∧n=E.length-i) E.length (by omega) ?_ ?_
 ·exact⟨F13,0,(by simp[T.get_set]),(by simp[T.get_set]),(by simp[T.get_set]),(by simp[T.get_set]),by omega,rfl⟩
 ·rintro n env hh ⟨F,i,g6,g5,g0,g3,hi,rfl⟩;have z0:=x0 F;have s5:=s1.fr F_h1.wf F;have F0:=F_h1.then F;by_cases c:i<E.length
  ·obtain⟨bi,oi,e,p1,p2,_,p4⟩:=(re.fr F0).ix aZ .i64 (i:Int) (by omega) (by omega);rw[Int.toNat_natCast]at p4;have q0:ab hh bi oi=some (.int .u64 (e.x.key:Int)):=p2 0 (by omega);have kb:=(ie e (List.mem_of_getElem? p4)).k;simp only[evs,↓reduceIte,Nat.reduceEqDiff,g6,g0,g3,z0,re.len,show(i:Int)<E.length by omega,p1,q0];refine aa (Ak F.wf s5 kb) ?_;rintro _ h4 ⟨rfl,F4⟩;rw[(ix _ i).2 ⟨e,p4,rfl⟩];have z04:=x0 (F.then F4);obtain⟨bj,oj,e',p1',p2',_,p4'⟩:=(re.fr (F0.then F4)).ix aZ .i64 (i:Int) (by omega) (by omega);rw[Int.toNat_natCast,p4]at p4';cases p4';have q4:ab h4 bj (oj+4)=some (.int .i64 e.b):=p2' 4 (by omega);have ts:((E.map Ent.b).take (i+1)).sum=((E.map Ent.b).take i).sum+e.b:=by
    rw[List.take_add_one,List.getElem?_map,p4];simp
   have f1:Fit ((E.map Ent.b).take i):=fit.sub (List.take_sublist _ _);have f2:Fit ((E.map Ent.b).take (i+1)):=fit.sub (List.take_sublist _ _);have n1:=f1.nn;have n2:=f2.nn;have m2:=f2.2.1;simp(disch:=omega) only[evs,↓reduceIte,Nat.reduceEqDiff,ai,g6,g5,g3,kE,z04,p1',q4];refine(aj _ _ _).2 ⟨E.length-(i+1),by omega,F.then F4,i+1,(by simp[T.get_set]),(by simp[T.get_set,ts]),(by simp[T.get_set,g0]),(by simp[T.get_set,g3]),by omega,rfl⟩
  ·have e:i=E.length:=by omega
   subst e;rw[List.take_of_length_le (by simp)]at g5;simp only[evs,↓reduceIte,Nat.reduceEqDiff,g6,g0,g3,z0,re.len,show¬(E.length:Int)<E.length by omega];refine aa (vw F.wf s5) ?_;rintro _ h4 ⟨c',pm',rfl,_,_,lo,F4⟩;have z04:=x0 (F.then F4);have z14:=x1 (F.then F4);have lm:((E.map Ent.b).length:Int)=E.length:=by simp
   simp only[evs,↓reduceIte,eff];refine aa (D4 F4.wf lo.lo) ?_;rintro _ h5 ⟨rfl,F5⟩;have z05:=x0 ((F.then F4).then F5);simp only[evs,↓reduceIte,Nat.reduceEqDiff,eff,g3,re.len,z05,lm];refine aa (zM F5.wf (lo.fr F5).lo) ?_;rintro _ h6 ⟨rfl,F6⟩;simp only[evs,↓reduceIte,Nat.reduceEqDiff,Nat.reduceAdd,DF,eff,Nat.reduceSub,g5,z04,z05];exact F0.then ((F4.then F5).then F6)
theorem lK(x:Itm):∀{a b:PT},PT.same a b→cG x a=cG x b
 |.nil,.nil,_=>rfl
 |.cons _ _ _ _ _ _ _ s n,.cons _ _ _ _ _ _ _ s' n',⟨h1,h2,h3,h4,h5,h6,h7⟩=>by
  subst h1 h2 h3 h4 h5;simp only[cG,lK x h6,lK x h7]
 |.nil,.cons _ _ _ _ _ _ _ _ _,h=>h.elim
 |.cons _ _ _ _ _ _ _ _ _,.nil,h=>h.elim
theorem yj{Ks K:List Knd}(h:dL Ks K)(cap:Int)(x:Itm):dX K cap x=dX Ks cap x:=by
 unfold dX;cases e:Ks[x.type]?with
 |none=>
  have:K[x.type]? =none:=by rw[List.getElem?_eq_none_iff]at e⊢;rw[←fk h];exact e
  rw[this]
 |some q=>
  obtain⟨p,e2,s⟩:=jN h e;rw[e2];obtain⟨h1,h2,h3,h4,h5,_,_,_,h9⟩:=s;simp only[fL,h1,h2,h3,h4,h5,PT.same_count _ _ _ _ _ h9,lK x h9]
theorem t7{K:List Knd}{cap:Int}{p:Nat→Bool}:∀{seen:List Nat}{Y:List Itm},(∀y∈Y,okI y K.length=true∧dX K cap y=0∧p y.key=false∧y.key∉seen)→(Y.map Itm.key).Nodup→kC K cap p seen Y=0
 |_,[],_,_=>rfl
 |seen,y::Y,h,n=>by
  obtain⟨h1,h2,h3,h4⟩:=h y (by simp);rw[List.map_cons,List.nodup_cons]at n;simp only[kC];rw[h1,if_neg (by decide),if_neg (by simp[h3,h4]),if_neg (by simp[h2])];refine t7 (fun z m=>?_) n.2;obtain⟨g1,g2,g3,g4⟩:=h z (by simp[m]);refine⟨g1,g2,g3,fun c=>?_⟩;rcases List.mem_append.1 c with c|c
  ·exact g4 c
  ·rw[List.mem_singleton]at c;exact n.1 (List.mem_map.2 ⟨z,m,c⟩)
theorem pW:∀{L:List Int}{t:Int},(∀x∈L,1≤x∧x≤40)→t+40*L.length≤4611686018427387904→rK t L=0
 |[],_,_,_=>rfl
 |x::L,t,h,c=>by
  have:=h x (by simp);rw[List.length_cons]at c;simp only[rK];rw[if_neg (by omega),if_neg (by omega)];exact pW (fun y m=>h y (by simp[m])) (by omega)
theorem vq:∀{L:List Int},(∀x∈L,1≤x∧x≤40)→0≤L.sum∧L.sum≤40*L.length
 |[],_=>by simp
 |x::L,h=>by
  have:=h x (by simp);have:=vq (L:=L) fun y m=>h y (by simp[m]);simp only[List.sum_cons,List.length_cons];omega
theorem yc{L:List Int}(h:∀x∈L,1≤x∧x≤40)(hl:L.length≤1000):cD [] 0 L=0:=by
 have:=vq h;unfold cD;rw[if_pos (by simp),if_neg (by simp;omega),if_pos (pW h (by omega)),if_neg (by simp;omega)]
theorem tH:∀(X:List Itm)(mc:eW)(i:Nat),(X.map Itm.key).Nodup→∀k j,(fm mc X i).1 k=some j↔(∃n x,X[n]? =some x∧x.key=k∧j=i+n)∨((∀x∈X,x.key≠k)∧mc.1 k=some j)
 |[],mc,i,_,k,j=>by simp[fm]
 |x::r,mc,i,nd,k,j=>by
  rw[List.map_cons,List.nodup_cons]at nd;have ih:=tH r (rS mc x.key i) (i+1) nd.2 k j;simp only[fm];rw[ih];have ms:(rS mc x.key i).1 k=if k=x.key then some i else mc.1 k:=by simp only[rS,jA]
  rw[ms];constructor
  ·rintro(⟨n,y,h1,h2,h3⟩|⟨h1,h2⟩)
   ·exact .inl ⟨n+1,y,by simpa using h1,h2,by omega⟩
   ·by_cases c:k=x.key
    ·rw[if_pos c]at h2;exact .inl ⟨0,x,rfl,c.symm,by cases h2;rfl⟩
    ·rw[if_neg c]at h2;refine .inr ⟨fun y m=>?_,h2⟩;rcases List.mem_cons.1 m with rfl|m
     ·exact fun e=>c e.symm
     ·exact h1 y m
  ·rintro(⟨n,y,h1,h2,h3⟩|⟨h1,h2⟩)
   ·cases n with
    |zero=>
     simp at h1;subst h1;refine .inr ⟨fun y m e=>nd.1 (List.mem_map.2 ⟨y,m,by rw[e,h2]⟩),?_⟩;rw[if_pos h2.symm];simp[h3]
    |succ n=>exact .inl ⟨n,y,by simpa using h1,h2,by omega⟩
   ·refine .inr ⟨fun y m=>h1 y (by simp[m]),?_⟩;rw[if_neg (fun e=>h1 x (by simp) e.symm)];exact h2
theorem tI:∀(X:List Itm)(mc:eW)(i:Nat),(fm mc X i).2≤mc.2+X.length
 |[],_,_=>Nat.le_refl _
 |x::r,mc,i=>by
  have:=tI r (rS mc x.key i) (i+1);have h2:(rS mc x.key i).2≤mc.2+1:=by simp only[rS];split<;>omega
  simp only[fm,List.length_cons];omega
def Ent.ht(e:Ent):Nat×Int:=(e.x.key,e.b)
theorem qq{m:Nat→Option Nat}{E:List Ent}{bs:Ent→Int}(ix:IxOf m E)(hb:∀e∈E,1≤bs e∧bs e≤40)(h0:∀e∈E,e.kn=false→e.b=bs e)(h1:∀e∈E,e.kn=true→1≤e.b∧e.b≤40)(hl:E.length≤1000):
 ∀(n i c:Nat),i+n=E.length→∃c',cF m (((E.drop i).filter Ent.kn).map Ent.ht) c ((E.take i).map Ent.b++(E.drop i).map bs) ((E.take i).map Ent.kn++List.replicate n false)=(0,c',E.map Ent.b,E.map Ent.kn)
 |0,i,c,e=>by
  rw[List.drop_of_length_le (by omega),List.take_of_length_le (by omega)];exact⟨c,by simp[cF]⟩
 |n+1,i,c,hi=>by
  have il:i<E.length:=by omega
  have p:E[i]? =some E[i]:=List.getElem?_eq_getElem il;generalize E[i]=e at p;have em:=List.mem_of_getElem? p;have lb:((E.take i).map Ent.b++(E.drop i).map bs).length=E.length:=by simp;omega
  have ih:=fun c=>qq ix hb h0 h1 hl n (i+1) c (by omega);have tk:((E.take i).map Ent.b).length=i:=by simp;omega
  have tk2:((E.take i).map Ent.kn).length=i:=by simp;omega
  rw[aK p];cases ek:e.kn with
  |false=>
   obtain⟨c',r⟩:=ih c;refine⟨c',?_⟩;rw[List.filter_cons_of_neg (by simp[ek])];rw[List.take_add_one,p]at r;simp only[Option.toList_some,List.map_append,List.map_cons,List.map_nil,List.append_assoc,List.singleton_append,ek,h0 e em ek]at r;rw[List.map_cons,List.replicate_succ];exact r
  |true=>
   obtain⟨c',r⟩:=ih (c+1);refine⟨c',?_⟩;rw[List.filter_cons_of_pos (by simp[ek]),List.map_cons,List.map_cons,List.replicate_succ];have mk:m e.x.key=some i:=(ix _ i).2 ⟨e,p,rfl⟩;have all:∀x∈(E.take i).map Ent.b++bs e::(E.drop (i+1)).map bs,1≤x∧x≤40:=by
    intro x mx;rcases List.mem_append.1 mx with mx|mx
    ·obtain⟨y,ym,rfl⟩:=List.mem_map.1 mx;have ym:=List.mem_of_mem_take ym;cases yk:y.kn
     ·rw[h0 y ym yk];exact hb y ym
     ·exact h1 y ym yk
    ·rcases List.mem_cons.1 mx with rfl|mx
     ·exact hb e em
     ·obtain⟨y,ym,rfl⟩:=List.mem_map.1 mx;exact hb y (List.mem_of_mem_drop ym)
   have sl:=vq all;have ll:((E.take i).map Ent.b++bs e::(E.drop (i+1)).map bs).length=E.length:=by simp;omega
   have g:((E.take i).map Ent.b++bs e::(E.drop (i+1)).map bs).getD i 0=bs e:=by
    rw[List.getD_eq_getElem?_getD,List.getElem?_append_right (by omega),tk];simp
   have hx:bK ((E.take i).map Ent.b++bs e::(E.drop (i+1)).map bs) i e.b=0:=by
    have b1:=h1 e em ek;have b2:=hb e em;unfold bK;rw[if_pos ⟨by omega,by rw[ll];omega⟩,if_neg (by omega),Int.toNat_natCast,g,if_neg (by rw[ll]at sl;omega)]
   have s1:((E.take i).map Ent.b++bs e::(E.drop (i+1)).map bs).set i e.b=(E.take i).map Ent.b++e.b::(E.drop (i+1)).map bs:=by
    rw[List.set_append_right _ _ (by omega),tk,Nat.sub_self];rfl
   have s2:((E.take i).map Ent.kn++false::List.replicate n false).set i true=(E.take i).map Ent.kn++true::List.replicate n false:=by
    rw[List.set_append_right _ _ (by omega),tk2,Nat.sub_self];rfl
   rw[List.take_add_one,p]at r;simp only[Option.toList_some,List.map_append,List.map_cons,List.map_nil,List.append_assoc,List.singleton_append,ek]at r;simp only[cF,Ent.ht,mk,hx,if_pos,s1,s2];exact r
theorem HJ(q i:Nat)(hi:i<5):aP (.ixs 2) [.slice q 0 5 5,.int .i64 (i:Int)]=some (.ptr q (i*2)):=by
 have:i=0∨i=1∨i=2∨i=3∨i=4:=by omega
 rcases this with rfl|rfl|rfl|rfl|rfl<;>simp[aP]<;>exact⟨_,rfl,rfl⟩
def Bp(b:Nat):List V:=[.int .u8 1,.func (.func 46) [.ptr b 0] [],.int .u8 2,.func (.func 47) [.ptr b 0] [],.int .u8 3,.func (.func 48) [.ptr b 0] [],.int .u8 4,.func (.func 49) [.ptr b 0] [],.int .u8 5,.func (.func 50) [.ptr b 0] []]
theorem yn{n0:Nat}{h:Heap}{b bg B bm S bl k n:Nat}{Ks:List Knd}{cap a c t:Int}{X:List Itm}{l:List Int}{kn st:List Bool}{vK v:V}{pm:Option Nat}{mc:eW}{cs:List V}{R:V→Heap→Prop}(w:WF h)(s:Sto n0 h b Ks cap X l kn st vK bg B bm S bl pm mc)
 (hk:k<256) (sl:Sl h 4 v n cs) (hE:∀h',dE k a c t n≠0→Fr [] h h'→R (.int .i64 (dE k a c t n)) h') (hD:dE k a c t n=0→∀h',Fr [] h h'→ao go (45+k) [.ptr b 0,.agg [.int .u8 (k:Int),.int .i64 a,.int .i64 c,.int .i64 t,v]] h' R):
 ao go 9 [.ptr b 0,.agg [.int .u8 (k:Int),.int .i64 a,.int .i64 c,.int .i64 t,v]] h R:=by
 have v1:v.one=true:=Sl.one sl;obtain⟨h1,e_h1⟩:∃h1,h1=halloc h [.int .u8 (k:Int),.int .i64 a,.int .i64 c,.int .i64 t,v]:=⟨_,rfl⟩;have F_h1:Fr [] h h1:=e_h1▸Fr.halloc w _;have o_h1:Own h1 h.next [.int .u8 (k:Int),.int .i64 a,.int .i64 c,.int .i64 t,v]:=e_h1▸Own.new w _;have s1:=s.fr w F_h1;have l5:au h1 h.next 0 5=some [.int .u8 (k:Int),.int .i64 a,.int .i64 c,.int .i64 t,v]:=by rw[o_h1.ld];rfl
 refine ag g9 rfl ?_;simp only[fn9,evs,↓reduceIte,Nat.reduceEqDiff,Nat.reduceAdd,←e_h1];refine aa (kj s1) ?_;rintro _ _ ⟨rfl,rfl⟩;simp only[evs,↓reduceIte,Nat.reduceEqDiff,l5];refine aa (yD F_h1.wf hk (Sl.fr sl F_h1)) ?_;rintro _ h2 ⟨rfl,F2⟩;have F02:=F_h1.then F2;by_cases c0:dE k a c t n=0
 ·have kk:1≤k∧k≤5:=by
   unfold dE at c0;split at c0
   ·cases c0
   ·omega
  simp only[evs,↓reduceIte,Nat.reduceEqDiff,Nat.reduceAdd,Nat.reduceLT,c0];obtain⟨h3,e_h3⟩:∃h3,h3=halloc h2 (Bp b):=⟨_,rfl⟩;have F_h3:Fr [] h2 h3:=e_h3▸Fr.halloc F2.wf _;have o3:Own h3 h2.next (Bp b):=e_h3▸Own.new F2.wf _;change W _ _ _ (halloc h2 (Bp b)) _;rw[←e_h3];have n3:h3.next=h2.next+1:=by rw[e_h3];rfl
  have row:∀hh,Fr [] h3 hh→∀i,i<5→au hh h2.next (i*2) 2=some [.int .u8 ((i+1:Nat):Int),.func (.func (46+i)) [.ptr b 0] []]:=by
   intro hh f i hi;have:i=0∨i=1∨i=2∨i=3∨i=4:=by omega
   rw[(f.get o3).ld];rcases this with rfl|rfl|rfl|rfl|rfl<;>rfl
  refine aE (fun n env hh=>Fr [] h3 hh∧∃(i:Nat),env.get 32=some (.int .i64 i)∧env.get 31=some (.int .i64 (5:Nat))∧env.get 30=some (.slice h2.next 0 5 5)∧env.get 0=some (.ptr b 0)∧env.get 3=some (.ptr h.next 0)∧i<k∧n=5-i) 5 (by omega) ?_ ?_
  ·exact⟨Fr.refl F_h3.wf,0,(by simp[T.get_set]),(by simp[T.get_set]),(by simp[T.get_set]),(by simp[T.get_set]),(by simp[T.get_set]),by omega,rfl⟩
  ·rintro n env hh ⟨F,i,g32,g31,g30,g0,g3,hi,rfl⟩;have hi5:i<5:=by omega
   have hlt':(i:Int)<(5:Nat):=by omega
   have p1:=HJ h2.next i hi5;have p3:=row hh F i hi5;obtain⟨h4,e_h4⟩:∃h4,h4=halloc hh [.int .u8 0,.nilf]:=⟨_,rfl⟩;have F_h4:Fr [] hh h4:=e_h4▸Fr.halloc F.wf _;have o_h4:Own h4 hh.next [.int .u8 0,.nilf]:=e_h4▸Own.new F.wf _;simp only[evs,↓reduceIte,Nat.reduceEqDiff,g32,g31,g30,hlt',p1,p3,←e_h4];refine ah (c':=[.int .u8 ((i+1:Nat):Int),.func (.func (46+i)) [.ptr b 0] []]) F_h4.wf o_h4 rfl rfl rfl ?_;rintro h5 o5 F5 n5;have F05:Fr [] hh h5:=F_h4.fresh F5 F.wf (Nat.le_refl _);have x0:ab h5 hh.next 0=some (.int .u8 ((i+1:Nat):Int)):=o5.ld1 0;have x1:ab h5 hh.next 1=some (.func (.func (46+i)) [.ptr b 0] []):=o5.ld1 1;have Fa:=((F02.then F_h3).then F).then F05;have on:=((((F2.then F_h3).then F).then F05).get o_h1);have y0:ab h5 h.next 0=some (.int .u8 (k:Int)):=on.ld1 0;have y5:au h5 h.next 0 5=some [.int .u8 (k:Int),.int .i64 a,.int .i64 c,.int .i64 t,v]:=by rw[on.ld];rfl
   by_cases ek:k=i+1
   ·have ek':(((i+1:Nat):Int)=(k:Int)):=by omega
    have big:46+i<1099511627776:=by omega
    simp only[evs,↓reduceIte,Nat.reduceEqDiff,g3,x0,x1,y0,y5,eq_true ek',big];refine OQ.mono (show ao go (46+i) _ h5 R from ?_) ?_
    ·have:=hD c0 h5 Fa;rw[show 45+k=46+i by omega]at this;exact this
    ·intro u h' r;simp only[evs,↓reduceIte];exact r
   ·have ek':¬(((i+1:Nat):Int)=(k:Int)):=by omega
    simp(disch:=omega) only[evs,↓reduceIte,Nat.reduceEqDiff,ai,g32,g3,x0,y0,eq_false ek'];refine(aj _ _ _).2 ⟨5-(i+1),by omega,F.then F05,i+1,(by simp[T.get_set]),(by simp[T.get_set,g31]),(by simp[T.get_set,g30]),(by simp[T.get_set,g0]),(by simp[T.get_set,g3]),by omega,rfl⟩
 ·simp only[evs,↓reduceIte,Nat.reduceEqDiff,eq_false c0];exact hE _ c0 F02
structure LOk(Ks:List Knd)(h:Heap)(E:List Ent):Prop where
 h:∀e∈E,ItmH h e.x∧nZ e.x.vm=true∧okI e.x 3=true∧dX Ks 12 e.x=0
 b:∀e∈E,e.kn=false→e.b=aO Ks e.x
 c:∀e∈E,e.kn=true→1≤e.b∧e.b≤40
 n:(E.map fun e=>e.x.key).Nodup
 l:E.length≤12
 r:okR Ks 12=true∧Ks.length=3∧GK Ks
theorem Sto.wrlt{n0:Nat}{h:Heap}{b bg B bm S bl:Nat}{Ks:List Knd}{cap:Int}{X:List Itm}{l:List Int}{kn st:List Bool}{vK:V}{pm:Option Nat}{mc:eW}(w:WF h)(s:Sto n0 h b Ks cap X l kn st vK bg B bm S bl pm mc):∀y∈Wr b bg B bm S bl pm,y<h.next:=by
 intro y m;simp only[Wr,List.mem_append,List.mem_cons,List.not_mem_nil,or_false]at m;rcases m with(rfl|rfl|rfl|rfl|rfl|rfl)|m
 ·exact s.ob.lt w
 ·exact s.g.ob.1.lt w
 ·exact s.gB.lt w
 ·exact s.k.lt w
 ·exact s.Sl'
 ·exact s.bl'
 ·exact s.pl y (by simpa using m)
theorem yF{h:Heap}{b o n m:Nat}{r:List V}(e:au h b o n=some r)(l:m≤n):au h b o m=some (r.take m):=by
 unfold au at e⊢;split at e
 ·obtain⟨rfl,q⟩:=ip e;rw[bC _ _ (by omega),List.take_take,Nat.min_eq_left l]
 ·cases e
theorem LOk.fr{Ks:List Knd}{h h':Heap}{E:List Ent}(a:LOk Ks h E)(f:Fr [] h h'):LOk Ks h' E:=⟨fun e m=>⟨(a.h e m).1.fr f,(a.h e m).2⟩,a.b,a.c,a.n,a.l,a.r⟩
theorem LOk.base{Ks:List Knd}{h:Heap}{E:List Ent}(a:LOk Ks h E):∀e∈E,1≤aO Ks e.x∧aO Ks e.x≤40:=by
 intro e m;have t:=(a.h e m).2.2.1;simp only[okI,Bool.and_eq_true,decide_eq_true_eq]at t;have p:Ks[e.x.type]? =some (Ks[e.x.type]'(by rw[a.r.2.1];exact t.2.1)):=List.getElem?_eq_getElem _;generalize Ks[e.x.type]'(by rw[a.r.2.1];exact t.2.1)=q at p;have g:=(a.r.2.2 q (List.mem_of_getElem? p)).2.2;rw[aO,p];exact g
theorem LOk.key{Ks:List Knd}{h:Heap}{E:List Ent}(a:LOk Ks h E):∀e∈E,0<e.x.key:=by
 intro e m;have t:=(a.h e m).2.2.1;simp only[okI,Bool.and_eq_true,decide_eq_true_eq]at t;omega
theorem _root_.Go.Ev.Gs.dj{h h':Heap}{B e:Nat}{v:V}{cs:List V}{Z:List Nat}(g:Gs h B e v cs)(f:Fr Z h h')(d:∀z∈Z,z∉vb v):Gs h' B e v cs:=by
 rcases g with z|⟨b,n,z1,z2,z3,z4,o⟩
 ·exact .inl z
 ·exact .inr ⟨b,n,z1,z2,z3,z4,f.own _ _ (fun m=>d _ m (by rw[z1];simp[vb])) o⟩
theorem Cps.vals:∀{a b:List Itm},Cps a b→b.map Itm.val=a.map Itm.val
 |[],[],_=>rfl
 |_::_,_::_,h=>by
  obtain⟨⟨v,rfl,_⟩,h2⟩:=h;simp only[List.map_cons,Cps.vals h2];rfl
 |[],_::_,h=>h.elim
 |_::_,[],h=>h.elim
theorem yK{X:List Itm}{E:List Ent}(ev:X.map Itm.val=E.map (fun e=>e.x.val))(n:(E.map fun e=>e.x.key).Nodup):IxOf (fm (fun _=>none,0) X 0).1 E:=by
 have ek:X.map Itm.key=E.map (fun e=>e.x.key):=by
  have:=congrArg (List.map Prod.fst) ev;rw[List.map_map,List.map_map]at this;exact this
 intro k j;rw[tH X _ 0 (by rw[ek];exact n)];constructor
 ·rintro(⟨n,x,h1,h2,h3⟩|⟨_,h2⟩)
  ·have:=congrArg (fun l=>l[n]?) ek;simp only[List.getElem?_map,h1]at this;cases q:E[n]?with
   |none=>rw[q]at this;cases this
   |some e=>rw[q]at this;exact⟨e,by rw[show j=n by omega];exact q,by rw[←h2];exact(Option.some.inj this).symm⟩
  ·cases h2
 ·rintro⟨e,h1,h2⟩;have:=congrArg (fun l=>l[j]?) ek;simp only[List.getElem?_map,h1]at this;cases q:X[j]?with
  |none=>rw[q]at this;cases this
  |some x=>rw[q]at this;exact .inl ⟨j,x,q,by rw[←h2];exact Option.some.inj this,by omega⟩
theorem Ds{n0 N:Nat}{h:Heap}{b bg B bm S bl:Nat}{Ks K:List Knd}{vK v:V}{pm:Option Nat}{E:List Ent}(w:WF h)(s:Sto n0 h b K 12 [] [] [] [] vK bg B bm S bl pm (fun _=>none,0))(sk:dL Ks K)(wr:∀y∈Wr b bg B bm S bl pm,y<N)(o:LOk Ks h E)
 (hi:∀(Z:List Nat)(h':Heap),(∀z∈Z,z∈Wr b bg B bm S bl pm∨h.next≤z)→Fr Z h h'→∀e∈E,ItmH h' e.x) (g:Gs h N 4 v ((E.map Ent.x).flatMap Itm.cells)):ao go 9 [.ptr b 0,.agg [.int .u8 1,.int .i64 0,.int .i64 0,.int .i64 0,v]] h fun u h'=>u=.int .i64 0∧Fr (Wr b bg B bm S bl pm) h h'∧
  ∃X st B' S' pm' mc,Sto n0 h' b K 12 X (E.map fun e=>aO Ks e.x) (List.replicate E.length false) st vK bg B' bm S' bl pm' mc∧X.map Itm.val=E.map (fun e=>e.x.val)∧(∀x∈X,nZ x.vm=true)∧IxOf mc.1 E∧mc.2≤1024∧
   ∀y∈Wr b bg B' bm S' bl pm',y∈Wr b bg B bm S bl pm∨h.next≤y:=by
 have sl:Sl h 4 v (E.map Ent.x).length ((E.map Ent.x).flatMap Itm.cells):=Gs.sl g (aF dH _) (by omega);have v1:=sl.one;have el:(E.map Ent.x).length=E.length:=by simp
 have hl:=o.l;have okr:okR K 12=true:=by rw[←vu sk];exact o.r.1
 have e0:dE 1 0 0 0 (E.map Ent.x).length=0:=by simp[dE]
 refine yn (k:=1) (n:=(E.map Ent.x).length) w s (by omega) sl (fun h' c f=>absurd e0 c) (fun _ h1 f1=>?_);have s1:=s.fr w f1;have eb:(E.map Ent.x).map (aO K)=E.map fun e=>aO Ks e.x:=by
  rw[List.map_map];exact List.map_congr_left fun e m=>(yl sk e.x).1
 have nd:((E.map Ent.x).map Itm.key).Nodup:=by rw[List.map_map];exact o.n
 have er:ju K 12 0 [] (E.map Ent.x) [] (fun _=>false)=0:=by
  unfold ju;have inc:kC K 12 (fun _=>false) [] (E.map Ent.x)=0:=by
   refine t7 (fun y m=>?_) nd;obtain⟨e,em,rfl⟩:=List.mem_map.1 m;obtain⟨_,_,q1,q2⟩:=o.h e em;exact⟨by rw[←fk sk,o.r.2.1];exact q1,by rw[yj sk];exact q2,rfl,by simp⟩
  rw[if_neg (by simp),if_neg (by simp;omega),inc,if_neg (by decide),eb];exact yc (fun x m=>by obtain⟨e,em,rfl⟩:=List.mem_map.1 m;exact o.base e em) (by simp;omega)
 refine OQ.mono (yL (a:=0) f1.wf s1 (by omega) okr (by simp) (by simp) (by simp) (Y:=E.map Ent.x) (fun Z h' hZ f=>?_) (fun y m=>?_) (by omega) (by simp only[aD,aJ,v1];rfl)) ?_
 ·have n1:=f1.next;have gl:=g.lt w;have f':Fr Z h h':=Fr.trans f1 f w (by simp) (fun x m=>.inl m);refine⟨Sl.a (Gs.sl (g.dj f' fun z m c=>?_) (aF dH _) (by omega)),fun y m=>?_⟩
  ·have:=g.vb z c;have:=gl z c;rcases hZ z m with q|q
   ·have:=wr z q;omega
   ·omega
  ·obtain⟨e,em,rfl⟩:=List.mem_map.1 m;exact hi Z h' (fun z m=>(hZ z m).imp id fun q=>by omega) f' e em
 ·obtain⟨e,em,rfl⟩:=List.mem_map.1 m;exact(o.h e em).2.1
 rintro _ h' ⟨rfl,_,r2⟩;have er':ju K 12 0 [] (E.map Ent.x) [] (fun x=>(((fun _=>none,0):eW).1 x).isSome)=0:=er;rw[er']at r2⊢;obtain⟨_,_,_,Y',B',S',pm',cp,s2,f2,q1,q2,q3⟩:=r2 rfl;rw[eb]at s2;simp only[Int.toNat_zero,List.take_nil,List.drop_nil,List.nil_append,List.append_nil,List.drop_zero,el]at s2;have ev:Y'.map Itm.val=E.map (fun e=>e.x.val):=by rw[cp.vals,List.map_map];rfl
 refine⟨rfl,Fr.trans f1 f2 w (by simp) (fun x m=>.inl m),Y',_,B',S',pm',_,s2,ev,cp.nz,yK ev o.n,?_,?_⟩
 ·have:=tI Y' (fun _=>none,0) 0;have:=cp.len;simp only[]at *;omega
 ·have n1:=f1.next;intro y m;simp only[Wr,List.mem_append,List.mem_cons,List.not_mem_nil,or_false]at m⊢;rcases m with(m|m|m|m|m|m)|m
  ·exact .inl (.inl (.inl m))
  ·exact .inl (.inl (.inr (.inl m)))
  ·rcases q1 with q|q
   ·exact .inl (.inl (.inr (.inr (.inl (m.trans q)))))
   ·exact .inr (by omega)
  ·exact .inl (.inl (.inr (.inr (.inr (.inl m)))))
  ·rcases q2 with q|q
   ·exact .inl (.inl (.inr (.inr (.inr (.inr (.inl (m.trans q)))))))
   ·exact .inr (by omega)
  ·exact .inl (.inl (.inr (.inr (.inr (.inr (.inr m))))))
  ·rcases q3 with q|q
   ·rw[q]at m;exact .inl (.inr m)
   ·exact .inr (by have:=q y (by simpa using m);omega)
theorem Da{n0:Nat}{h:Heap}{b bg B bm S bl:Nat}{Ks K:List Knd}{vK v:V}{pm:Option Nat}{E:List Ent}{X:List Itm}{st:List Bool}{mc:eW}(w:WF h)(s:Sto n0 h b K 12 X (E.map fun e=>aO Ks e.x) (List.replicate E.length false) st vK bg B bm S bl pm mc)
 (ix:IxOf mc.1 E) (o:LOk Ks h E) (sv:∀(Z:List Nat)(h':Heap),(∀z∈Z,z∈Wr b bg B bm S bl pm∨h.next≤z)→Fr Z h h'→ARecs htC 2 h' v ((E.filter Ent.kn).map Ent.ht)):
 ao go 12 [.ptr b 0,v] h fun u h'=>∃c:Int,u=.tup [.int .i64 c,.int .i64 0]∧Fr (bl::pm.toList) h h'∧Sto n0 h' b K 12 X (E.map Ent.b) (E.map Ent.kn) st vK bg B bm S bl pm mc:=by
 have hl:=o.l;obtain⟨c',em⟩:=qq ix o.base o.b o.c (by omega) E.length 0 0 (by omega);simp only[List.drop_zero,List.take_zero,List.map_nil,List.nil_append]at em;refine OQ.mono (lY w s sv (fun x m=>?_) (by have:=List.length_filter_le Ent.kn E;simp;omega) (fun k j q=>?_)) ?_
 ·obtain⟨e,me,rfl⟩:=List.mem_map.1 m;have me2:=List.mem_filter.1 me;have:=o.c e me2.1 me2.2;exact⟨(o.h e me2.1).1.k,by show _≤e.b;omega,by show e.b≤_;omega⟩
 ·obtain⟨e,h1,_⟩:=(ix k j).1 q;have:=(List.getElem?_eq_some_iff.1 h1).1;omega
 rintro _ h' ⟨rfl,r1,_⟩;rw[em]at r1⊢;obtain⟨f,s2⟩:=r1 rfl;exact⟨_,rfl,f,s2⟩
theorem Ad{h:Heap}{vK vE:V}{Ks:List Knd}{E:List Ent}(w:WF h)(rk:Recs Knd.cells 9 h vK Ks)(kh:∀q∈Ks,KndH h q)(re:Recs Ent.cells 6 h vE E)(o:LOk Ks h E):
 ao go 17 [.agg [vK,.int .i64 12],.agg [vE]] h fun u h'=>∃b,u=.ptr b 0∧Fr [] h h'∧SE h.next Ks h' b E:=by
 have v1:vK.one=true:=Sl.one rk;have v2:vE.one=true:=Sl.one re;have hl:=o.l;obtain⟨h1,e_h1⟩:∃h1,h1=halloc h [vK,.int .i64 12]:=⟨_,rfl⟩;have F_h1:Fr [] h h1:=e_h1▸Fr.halloc w _;have o_h1:Own h1 h.next [vK,.int .i64 12]:=e_h1▸Own.new w _;obtain⟨h2,e_h2⟩:∃h2,h2=halloc h1 [vE]:=⟨_,rfl⟩;have F_h2:Fr [] h1 h2:=e_h2▸Fr.halloc F_h1.wf _;have o_h2:Own h2 h1.next [vE]:=e_h2▸Own.new F_h1.wf _;have n1:h1.next=h.next+1:=by rw[e_h1];rfl
 have n2:h2.next=h1.next+1:=by rw[e_h2];rfl
 have F02:=F_h1.then F_h2;have c0:au h2 h.next 0 2=some [vK,.int .i64 12]:=by rw[(F_h2.get o_h1).ld];rfl
 refine ag g17 rfl ?_;simp only[fn17,evs,↓reduceIte,Nat.reduceEqDiff,Nat.reduceAdd,←e_h1,←e_h2,c0];refine aa (CS F02.wf (Recs.fr rk F02) (fun q m=>(kh q m).fr F02) (by rw[o.r.2.1];omega) o.r.1) ?_;rintro _ h3 ⟨b,bg,bm,bl,vK',K,rfl,F3,sk,s3,ge⟩;have F03:=F02.then F3;simp only[evs,↓reduceIte,Nat.reduceEqDiff];obtain⟨h4,e_h4⟩:∃h4,h4=halloc h3 [.int .u8 0,.int .i64 0,.int .i64 0,.int .i64 0,.nils]:=⟨_,rfl⟩;have F_h4:Fr [] h3 h4:=e_h4▸Fr.halloc F3.wf _;have o_h4:Own h4 h3.next [.int .u8 0,.int .i64 0,.int .i64 0,.int .i64 0,.nils]:=e_h4▸Own.new F3.wf _;have n4:h4.next=h3.next+1:=by rw[e_h4];rfl
 simp only[←e_h4];refine ah (c':=[.int .u8 1,.int .i64 0,.int .i64 0,.int .i64 0,.nils]) F_h4.wf o_h4 rfl rfl rfl ?_;rintro h5 o5 F5 n5;have F35:Fr [] h3 h5:=F_h4.fresh F5 F3.wf (Nat.le_refl _);have wl:∀y∈Wr b bg h2.next bm bm bl none,h2.next≤y∧y<h3.next:=fun y m=>⟨ge y m,s3.wrlt F3.wf y m⟩;simp only[evs];refine aE (fun n env hh=>Fr [] h3 hh∧∃(i:Nat)(vI vT:V),env.get 9=some (.int .i64 i)∧env.get 8=some vT∧env.get 7=some (.ptr h3.next 0)∧env.get 5=some (.ptr b 0)∧env.get 3=some (.ptr h1.next 0)∧i≤E.length∧Own hh h3.next [.int .u8 1,.int .i64 0,.int .i64 0,.int .i64 0,vI]∧
  Gs hh h4.next 4 vI (((E.take i).map Ent.x).flatMap Itm.cells)∧Gs hh h4.next 2 vT ((((E.take i).filter Ent.kn).map Ent.ht).flatMap htC)∧(∀z∈vb vI,z∉vb vT)∧n=E.length-i) E.length (by omega) ?_ ?_
 ·exact⟨F35,0,.nils,.nils,(by simp[T.get_set]),(by simp[T.get_set]),(by simp[T.get_set]),(by simp[T.get_set]),(by simp[T.get_set]),by omega,o5,.inl ⟨rfl,rfl⟩,.inl ⟨rfl,rfl⟩,by simp[vb],rfl⟩
 ·rintro n env hh ⟨F,i,vI,vT,g9,g8,g7,g5,g3,hi,on,GI,GT,dj,rfl⟩;have nF:=F.next;have onl:=on.lt F.wf;have F0h:=F03.then F;have gl3:ab hh h1.next 0=some vE:=((F3.then F).get o_h2).ld1 0;by_cases c:i<E.length
  ·have p4:E[i]? =some E[i]:=List.getElem?_eq_getElem c;generalize E[i]=e at p4;have em:=List.mem_of_getElem? p4;have ae:=((o.h e em).1).fr F0h;have rd:∀{H},Fr [] h H→∃bi oi,aP (.ixs 6) [vE,.int .i64 (i:Int)]=some (.ptr bi oi)∧au H bi oi 4=some e.x.cells∧ab H bi oi=some (.int .u64 (e.x.key:Int))∧ab H bi (oi+4)=some (.int .i64 e.b)∧ab H bi (oi+5)=some (.bool e.kn):=by
    intro H f;obtain⟨bi,oi,e',p1,p2,p3,p4'⟩:=(re.fr f).ix aZ .i64 (i:Int) (by omega) (by omega);rw[Int.toNat_natCast,p4]at p4';cases p4';exact⟨bi,oi,p1,yF p3 (by omega),p2 0 (by omega),p2 4 (by omega),p2 5 (by omega)⟩
   obtain⟨bi,oi,p1,p3,_⟩:=rd F0h;obtain⟨hx,e_hx⟩:∃hx,hx=halloc hh e.x.cells:=⟨_,rfl⟩;have F_hx:Fr [] hh hx:=e_hx▸Fr.halloc F.wf _;have o_hx:Own hx hh.next e.x.cells:=e_hx▸Own.new F.wf _;have nx:hx.next=hh.next+1:=by rw[e_hx];rfl
   have i0:ab hh h3.next 4=some vI:=on.ld1 4;have i1:ab hx h3.next 4=some vI:=(F_hx.get on).ld1 4;have u1:bo [.int .u64 0,.int .u8 0,.str [],.nils] 0 e.x.cells=some e.x.cells:=rfl;simp only[evs,↓reduceIte,Nat.reduceEqDiff,Nat.reduceLT,eff,g9,g7,g3,gl3,re.len,show(i:Int)<E.length by omega,i0,p1,p3,u1,show e.x.cells.length=4 from rfl,←e_hx];have ib:=GI.vb;have il:=GI.lt F.wf;have tb:=GT.vb;have tl:=GT.lt F.wf;refine Gs.append1 (bytes:=56) (n:=1) F_hx.wf (GI.fr F_hx) (Sl.lit o_hx rfl) (by omega) (by omega) ae.one (by omega) (by rw[aF dH];simp;omega) ?_;intro vI' hy GI' eI FI;have ony:=FI.own _ _ (fun m=>by have:=ib _ m;omega) (F_hx.get on);have c1:=GI'.one;simp only[evs,↓reduceIte,Nat.reduceEqDiff,eff,g7];refine ah (c':=[.int .u8 1,.int .i64 0,.int .i64 0,.int .i64 0,vI']) FI.wf ony (by rw[aB c1];rfl) (by rw[aB c1];simp only[aD,aJ,c1];rfl) (by rw[aB c1];rfl) ?_;rintro hz oz Fz nz;have nI:=FI.next;have n3:=F.next;have FN:Fr [] h3 hz:=(Fr.new F3.wf (F.then F_hx) FI (fun z m=>by have:=ib z m;omega)).fresh Fz F3.wf (Nat.le_refl _);have F0z:=F03.then FN;have GIz:=GI'.keep Fz (by simp;omega);have GTz:=((GT.fr F_hx).dj FI (fun z m=>dj z m)).keep Fz (by simp;omega);have dz:∀z∈vb vI',z∉vb vT:=by
    intro z m c;rw[eI,List.mem_singleton]at m;have:=tl z c;omega
   have gz3:ab hz h1.next 0=some vE:=((F3.then FN).get o_h2).ld1 0;obtain⟨bz,oz',q1,q3,q0,q4,q5⟩:=rd F0z;have eqI:((E.take (i+1)).map Ent.x).flatMap Itm.cells=((E.take i).map Ent.x).flatMap Itm.cells++e.x.cells:=by rw[List.take_add_one,p4];simp
   simp(disch:=omega) only[evs,↓reduceIte,Nat.reduceEqDiff,Nat.reduceAdd,DF,eff,Nat.reduceSub,ai,g9,g8,g3,gz3,q1,q5,i0,i1,gl3,p3];cases ek:e.kn with
   |false=>
    have eqT:(E.take (i+1)).filter Ent.kn=(E.take i).filter Ent.kn:=by rw[List.take_add_one,p4,List.filter_append];simp[ek]
    simp only[evs,↓reduceIte];refine(aj _ _ _).2 ⟨E.length-(i+1),by omega,FN,i+1,vI',vT,(by simp[T.get_set]),(by simp[T.get_set,g8]),(by simp[T.get_set,g7]),(by simp[T.get_set,g5]),(by simp[T.get_set,g3]),by omega,oz,by rw[eqI];exact GIz,by rw[eqT];exact GTz,dz,rfl⟩
   |true=>
    obtain⟨hq,e_hq⟩:∃hq,hq=halloc hz [.int .u64 (e.x.key:Int),.int .i64 e.b]:=⟨_,rfl⟩;have F_hq:Fr [] hz hq:=e_hq▸Fr.halloc Fz.wf _;have o_hq:Own hq hz.next [.int .u64 (e.x.key:Int),.int .i64 e.b]:=e_hq▸Own.new Fz.wf _;have nq:hq.next=hz.next+1:=by rw[e_hq];rfl
    simp only[evs,↓reduceIte,Nat.reduceEqDiff,Nat.reduceAdd,Nat.reduceLT,eff,g9,g3,gz3,q1,q0,q4,←e_hq];refine Gs.append1 (bytes:=16) (n:=1) F_hq.wf (GTz.fr F_hq) (Sl.lit o_hq rfl) (by omega) (by omega) rfl (by omega) (by rw[aF (f:=htC) (k:=2) (fun _=>rfl)];have:=List.length_filter_le Ent.kn (E.take i);simp at this⊢;omega) ?_;intro vT' hr GT' eT FT;have FR:Fr [] h3 hr:=Fr.new F3.wf (FN.then F_hq) FT (fun z m=>by have:=tb z m;omega);have onr:=FT.own _ _ (fun m=>by have:=tb _ m;omega) (F_hq.get oz);have GIr:=(GIz.fr F_hq).dj FT (fun z m c=>dz z c m);have il':=GIz.lt Fz.wf;have eqT:(((E.take (i+1)).filter Ent.kn).map Ent.ht).flatMap htC=(((E.take i).filter Ent.kn).map Ent.ht).flatMap htC++[.int .u64 (e.x.key:Int),.int .i64 e.b]:=by rw[List.take_add_one,p4,List.filter_append];simp[ek];rfl
    simp(disch:=omega) only[evs,↓reduceIte,Nat.reduceEqDiff,Nat.reduceAdd,DF,eff,Nat.reduceSub,ai,g9,gz3,q0,q4];refine(aj _ _ _).2 ⟨E.length-(i+1),by omega,FR,i+1,vI',vT',(by simp[T.get_set]),(by simp[T.get_set]),(by simp[T.get_set,g7]),(by simp[T.get_set,g5]),(by simp[T.get_set,g3]),by omega,onr,by rw[eqI];exact GIr,by rw[eqT];exact GT',?_,rfl⟩;intro z m c;rw[eT,List.mem_singleton]at c;have:=il' z m;omega
  ·have ei:i=E.length:=by omega
   subst ei;rw[List.take_of_length_le (Nat.le_refl _)]at GI GT;have l5:au hh h3.next 0 5=some [.int .u8 1,.int .i64 0,.int .i64 0,.int .i64 0,vI]:=by rw[on.ld];rfl
   have tb:=GT.vb;have tl:=GT.lt F.wf;have sh:=s3.fr F3.wf F;have oh:=o.fr F0h;simp only[evs,↓reduceIte,Nat.reduceEqDiff,g9,g7,g5,g3,gl3,re.len,show¬(E.length:Int)<E.length by omega,l5];refine aa (Ds (N:=h4.next) F.wf sh sk (fun y m=>by have:=wl y m;omega) oh (fun Z h' hZ f e m=>?_) GI) ?_
   ·refine(o.h e m).1.fr (Fr.new w F0h f fun z mz=>?_);have:=F0h.next;rcases hZ z mz with q|q
    ·have:=wl z q;omega
    ·omega
   rintro _ ha ⟨rfl,Fa,X,st,B',S',pm',mc,sa,ev,nz,ix,mc2,wr'⟩;have F0a:Fr [] h ha:=Fr.new w F0h Fa (fun z m=>by have:=wl z m;omega);have na:=Fa.next;simp only[evs,↓reduceIte,Nat.reduceEqDiff,g8,g5];refine aa (Da Fa.wf sa ix (o.fr F0a) (fun Z h' hZ f=>?_)) ?_
   ·refine Sl.a (Gs.sl (n:=((E.filter Ent.kn).map Ent.ht).length) ((GT.dj Fa (fun z m c=>?_)).dj f (fun z m c=>?_)) (aF (f:=htC) (k:=2) (fun _=>rfl) _) (by omega))
    ·have:=wl z m;have:=tb z c;omega
    ·have:=tb z c;have:=tl z c;rcases hZ z m with q|q
     ·rcases wr' z q with q|q
      ·have:=wl z q;omega
      ·omega
     ·omega
   rintro _ hb ⟨c',rfl,Fb,sb⟩;simp only[evs,↓reduceIte,Nat.reduceEqDiff,g5];have wn:∀y∈Wr b bg B' bm S' bl pm',h.next≤y:=by
    intro y m;rcases wr' y m with q|q
    ·have:=wl y q;omega
    ·have:=F0h.next;omega
   refine⟨b,rfl,Fr.new w F0a Fb (fun z m=>wn z ?_),h2.next,K,X,st,vK',bg,B',bm,S',bl,pm',mc,sb,sk,ev,nz,ix,mc2,wn,F02.next⟩;rcases List.mem_cons.1 m with rfl|m
   ·simp[Wr]
   ·exact List.mem_append.2 (.inr m)
structure Drawn(N M:Nat)(h:Heap)(Ks:List Knd)(vE:V)(X:List Itm)(E:List Ent):Prop where
 g:Gs h N 6 vE (E.flatMap Ent.cells)
 l:∀z∈vb vE,z<M
 i:∀e∈E,ItmG N h e.x
 il:∀e∈E,∀z∈vb e.x.vm,z<M
 o:∀h',(∀e∈E,ItmH h' e.x)→LOk Ks h' E
theorem Drawn.keep{N M:Nat}{h h':Heap}{Ks:List Knd}{vE:V}{X:List Itm}{E:List Ent}{Z:List Nat}(d:Drawn N M h Ks vE X E)(f:Fr Z h h')(l:∀z∈Z,z<N∨M≤z):Drawn N M h' Ks vE X E:=
 ⟨d.g.dj f (fun z m c=>by have:=d.l z c;have:=d.g.vb z c;have:=l z m;omega),d.l,fun e m=>(d.i e m).keep f (fun z mz c=>by have:=d.il e m z c;have:=(d.i e m).g.vb z c;have:=l z mz;omega),d.il,d.o⟩
theorem Drawn.H{N M:Nat}{h:Heap}{Ks:List Knd}{vE:V}{X:List Itm}{E:List Ent}(d:Drawn N M h Ks vE X E):∀e∈E,ItmH h e.x:=fun e m=>(d.i e m).H
theorem Drawn.lok{N M:Nat}{h:Heap}{Ks:List Knd}{vE:V}{X:List Itm}{E:List Ent}(d:Drawn N M h Ks vE X E):LOk Ks h E:=d.o h d.H
theorem Drawn.rs{N M:Nat}{h:Heap}{Ks:List Knd}{vE:V}{X:List Itm}{E:List Ent}(d:Drawn N M h Ks vE X E):Recs Ent.cells 6 h vE E:=Gs.sl (n:=E.length) d.g (aF aZ _) (by omega)
theorem Bo{h:Heap}{vI vH:V}{kb:Nat}{L:List (Nat×Nat×Nat×Nat)}{H:List Nat}(w:WF h)(a:ARecs q4 4 h vI L)(hb:∀q∈L,q.1<256∧q.2.1<256∧q.2.2.1<256∧q.2.2.2<256)
 (aH:ARecs b8 1 h vH H) (hH:∀n∈H,n<256) (hk:kb<256):
 ao go 16 [.agg [vI,vH,.int .u8 (kb:Int)]] h fun u h'=>Fr [] h h'∧∃vK Ks X vE E,u=.tup [.agg [vK,.int .i64 12],.agg [vE]]∧Recs Knd.cells 9 h' vK Ks∧(∀q∈Ks,KndH h' q)∧Drawn h.next h'.next h' Ks vE X E:=by
 refine OQ.mono (Fj w a hb aH hH hk) ?_;rintro _ h' ⟨F,vK,Ks,vX,X,vE,E,rfl,rk,kh,gk,okr,lk,il,G,eok,nd,el⟩;refine⟨F,vK,Ks,X,vE,E,rfl,rk,kh,G,G.lt F.wf,fun e m=>il.i _ (eok e m).m,fun e m=>(il.i _ (eok e m).m).g.lt F.wf,fun h2 hh=>⟨fun e m=>?_,fun e m=>(eok e m).b,fun e m=>(eok e m).c,nd,el,okr,lk,gk⟩⟩;have g:=il.i _ (eok e m).m;exact⟨hh e m,Sl.nz (Gs.sl (n:=e.x.marks.length) g.g (by rw[rU];exact(Nat.mul_one _).symm) (by omega)),(eok e m).o,(eok e m).r⟩
theorem LOk.okZ{Ks:List Knd}{h:Heap}{E:List Ent}(a:LOk Ks h E):okZ E:=by
 intro e m;cases ek:e.kn
 ·have:=a.base e m;rw[a.b e m ek];omega
 ·have:=a.c e m ek;omega
theorem Gr{N:Nat}{Ks:List Knd}{h h0:Heap}{b:Nat}{E:List Ent}{v vE vE':V}{T:List (Nat×Int)}(w0:WF h0)(w:WF h)(s:SE N Ks h b E)(f0:Fr [] h0 h)(hN:h0.next≤N)(hE:E.length≤4096)(aT:ARecs htC 2 h0 v T)
 (hT:∀x∈T,x.1<18446744073709551616∧-9223372036854775808≤x.2∧x.2≤9223372036854775807) (hl:T.length≤4096):
 ∃m,IxOf m E∧∀H,Fr [] h H→∀E':List Ent,E'.map Ent.x=E.map Ent.x→((cF m T 0 (E.map Ent.b) (E.map Ent.kn)).1=0→E'.map Ent.b=(cF m T 0 (E.map Ent.b) (E.map Ent.kn)).2.2.1∧E'.map Ent.kn=(cF m T 0 (E.map Ent.b) (E.map Ent.kn)).2.2.2)→
  ((cF m T 0 (E.map Ent.b) (E.map Ent.kn)).1≠0→E'=E)→
 ao go 12 [.ptr b 0,v] H fun u h'=>u=.tup [.int .i64 ((cF m T 0 (E.map Ent.b) (E.map Ent.kn)).2.1:Int),.int .i64 (cF m T 0 (E.map Ent.b) (E.map Ent.kn)).1]∧(∃Z,(∀z∈Z,N≤z∧z<h.next)∧Fr Z H h')∧SE N Ks h' b E':=by
 obtain⟨n0,K,X,st,vK,bg,B,bm,S,bl,pm,mc,s,sk,ev,nz,ix,mc2,ge,hn⟩:=s;refine⟨mc.1,ix,fun H f E' ex e0 e1=>?_⟩;have lt:=s.wrlt w;have s1:=s.fr w f;have n1:=f.next;have f0H:=f0.then f;have mem:∀z∈bl::pm.toList,z∈Wr b bg B bm S bl pm:=by
  intro z m;rcases List.mem_cons.1 m with rfl|m
  ·simp[Wr]
  ·exact List.mem_append.2 (.inr m)
 have ev':X.map Itm.val=E'.map (fun e=>e.x.val):=by
  have:=congrArg (List.map Itm.val) ex;rw[List.map_map,List.map_map]at this;rw[ev];exact this.symm
 refine OQ.mono (lY f.wf s1 (fun Z h' hZ fz=>aT.fr (Fr.new w0 f0H fz (fun z m=>?_))) hT hl (fun k j q=>?_)) ?_
 ·have:=f0H.next;rcases hZ z m with q|q
  ·have:=ge z q;omega
  ·omega
 ·obtain⟨e,h1,_⟩:=(ix k j).1 q;have:=(List.getElem?_eq_some_iff.1 h1).1;omega
 rintro _ h' ⟨rfl,r1,r2⟩;by_cases c:(cF mc.1 T 0 (E.map Ent.b) (E.map Ent.kn)).1=0
 ·obtain⟨f2,s2⟩:=r1 c;obtain⟨q1,q2⟩:=e0 c;rw[←q1,←q2]at s2;exact⟨rfl,⟨_,fun z m=>⟨ge z (mem z m),lt z (mem z m)⟩,f2⟩,n0,K,X,st,vK,bg,B,bm,S,bl,pm,mc,s2,sk,ev',nz,ix.same ex,mc2,ge,hn⟩
 ·obtain⟨f2,c',pm',g1,g2,s2⟩:=r2 c;obtain rfl:=e1 c;have bN:=ge b (by simp[Wr]);have nN:=s.n0l;refine⟨rfl,⟨_,fun z m=>?_,f2⟩,n0,K,X,st,vK,bg,B,bm,S,c',pm',mc,s2,sk,ev,nz,ix,mc2,fun y m=>?_,hn⟩
  ·rcases List.mem_cons.1 m with rfl|m
   ·exact⟨bN,lt _ (by simp[Wr])⟩
   ·exact⟨ge z (mem z m),lt z (mem z m)⟩
  ·have n0l:=s.n0l;simp only[Wr,List.mem_append,List.mem_cons,List.not_mem_nil,or_false]at m;rcases m with(m|m|m|m|m|m)|m
   ·exact ge y (by simp[Wr,m])
   ·exact ge y (by simp[Wr,m])
   ·exact ge y (by simp[Wr,m])
   ·exact ge y (by simp[Wr,m])
   ·exact ge y (by simp[Wr,m])
   ·omega
   ·have:=g2 y (by simpa using m);omega
theorem wR(h:Heap):ao go 15 [] h fun u h'=>u=.bool true∧h=h':=
 ⟨.bool true,h,Hh C4 rfl (by unfold lov;rw[if_pos ⟨rfl,rfl⟩]),rfl,rfl⟩
theorem lh{h:Heap}{vI vH vT:V}{kb:Nat}{L:List (Nat×Nat×Nat×Nat)}{H:List Nat}{T:List (Nat×Int)}(w:WF h)(a:ARecs q4 4 h vI L)(hb:∀q∈L,q.1<256∧q.2.1<256∧q.2.2.1<256∧q.2.2.2<256)
 (aH:ARecs b8 1 h vH H) (hH:∀n∈H,n<256) (hk:kb<256) (aT:ARecs htC 2 h vT T) (hT:∀x∈T,x.1<18446744073709551616∧-9223372036854775808≤x.2∧x.2≤9223372036854775807):
 ao go 4 [.agg [vI,vH,.int .u8 (kb:Int)],vT] h fun u h'=>u=.bool true∧Fr [] h h':=by
 have v1:=a.one;have v2:=aH.one;obtain⟨h1,e_h1⟩:∃h1,h1=halloc h [vI,vH,.int .u8 (kb:Int)]:=⟨_,rfl⟩;have F_h1:Fr [] h h1:=e_h1▸Fr.halloc w _;have o_h1:Own h1 h.next [vI,vH,.int .u8 (kb:Int)]:=e_h1▸Own.new w _;have n1:h1.next=h.next+1:=by rw[e_h1];rfl
 by_cases c:T.length≤20
 ·have l3:au h1 h.next 0 3=some [vI,vH,.int .u8 (kb:Int)]:=by rw[o_h1.ld];rfl
  refine ag g4 rfl ?_;simp only[fn4,evs,↓reduceIte,Nat.reduceEqDiff,Nat.reduceAdd,←e_h1,aT.len,show¬(20:Int)<T.length by omega,l3];refine aa (Bo F_h1.wf (a.fr F_h1) hb (aH.fr F_h1) hH hk) ?_;rintro _ h2 ⟨F2,vK,Ks,X,vE,E,rfl,rk,kh,d⟩;have vk1:vK.one=true:=Sl.one rk;have ve1:=d.g.one;obtain⟨h3,e_h3⟩:∃h3,h3=halloc h2 [.nils,.int .i64 0]:=⟨_,rfl⟩;have F_h3:Fr [] h2 h3:=e_h3▸Fr.halloc F2.wf _;have o_h3:Own h3 h2.next [.nils,.int .i64 0]:=e_h3▸Own.new F2.wf _;obtain⟨h4,e_h4⟩:∃h4,h4=halloc h3 [.nils]:=⟨_,rfl⟩;have F_h4:Fr [] h3 h4:=e_h4▸Fr.halloc F_h3.wf _;have o_h4:Own h4 h3.next [.nils]:=e_h4▸Own.new F_h3.wf _;have n3:h3.next=h2.next+1:=by rw[e_h3];rfl
  have n4:h4.next=h3.next+1:=by rw[e_h4];rfl
  simp only[evs,↓reduceIte,Nat.reduceEqDiff,←e_h3,←e_h4];refine ah (o:=0) (v:=.agg [vK,.int .i64 12]) (c':=[vK,.int .i64 12]) F_h4.wf (F_h4.get o_h3) rfl (by show aq [_,_]=true;simp only[aD,aJ,vk1];rfl) rfl ?_;rintro h5 o5 F5 n5;simp only[evs,↓reduceIte];refine ah (o:=0) (v:=.agg [vE]) (c':=[vE]) F5.wf (F5.own _ _ (by simp;omega) o_h4) rfl (by show aq [_]=true;simp only[aD,aJ,ve1];rfl) rfl ?_;rintro h6 o6 F6 n6;have F26:Fr [] h2 h6:=((F_h3.then F_h4).fresh F5 F2.wf (Nat.le_refl _)).fresh F6 F2.wf (by omega);have l5:au h6 h2.next 0 2=some [vK,.int .i64 12]:=by rw[(F6.own _ _ (by simp;omega) o5).ld];rfl
  have l6:au h6 h3.next 0 1=some [vE]:=by rw[o6.ld];rfl
  have d6:=d.keep F26 (by simp);have F06:=(F_h1.then F2).then F26;simp only[evs,↓reduceIte,Nat.reduceEqDiff,l5,l6];refine aa (Ad F6.wf (Recs.fr rk F26) (fun q m=>(kh q m).fr F26) d6.rs d6.lok) ?_;rintro _ h7 ⟨b,rfl,F7,s7⟩;have F07:=F06.then F7;have d7:=d6.keep F7 (by simp);have el:=d7.lok.l;have l7:ab h7 h3.next 0=some vE:=(F7.get o6).ld1 0;obtain⟨m,ix,go12⟩:=Gr (vE:=vE) (vE':=vE) w F7.wf s7 F07 (by have:=F06.next;omega) (by omega) aT hT (by omega);simp only[evs,↓reduceIte,Nat.reduceEqDiff,l7];refine aa (Bk F7.wf d7.rs (by omega) ix d7.lok.okZ d7.H (aT.fr F07) hT (by omega)) ?_;rintro _ h8 ⟨F8,vE',E',rfl,rE,ex,_,e0,e1⟩;simp only[evs,↓reduceIte,Nat.reduceEqDiff];refine aa (go12 h8 F8 E' ex e0 e1) ?_;rintro _ h9 ⟨rfl,⟨Z,hZ,F9⟩,s9⟩;have d9:=(d7.keep F8 (by simp)).keep F9 (fun z m=>by have:=hZ z m;have:=F26.next;omega);have F09:Fr [] h h9:=Fr.new w (F07.then F8) F9 (fun z m=>by have:=hZ z m;have:=F06.next;omega);have r9:Recs Ent.cells 6 h9 vE' E':=by
   rcases rE with⟨rfl,rfl⟩|G
   ·exact d9.rs
   ·exact Gs.sl (n:=E'.length) (G.dj F9 (fun z m c=>by have:=hZ z m;have:=G.vb z c;omega)) (aF aZ _) (by omega)
  have i9:∀e∈E',ItmH h9 e.x:=by
   intro e me;have:e.x∈E'.map Ent.x:=List.mem_map.2 ⟨e,me,rfl⟩;rw[ex]at this;obtain⟨e',m',q⟩:=List.mem_map.1 this;rw[←q];exact d9.H e' m'
  have le:E'.length=E.length:=by have:=congrArg List.length ex;simpa using this
  have vo:vE'.one=true:=Sl.one r9;simp only[evs,↓reduceIte,Nat.reduceEqDiff,aB vo];refine aa (CP F9.wf s9 r9 i9 (by omega)) ?_;rintro _ ha ⟨rfl,Fa⟩;simp only[evs,↓reduceIte];refine aa (wR ha) ?_;rintro _ _ ⟨rfl,rfl⟩;simp only[evs,↓reduceIte];exact F09.then Fa
 ·refine ag g4 rfl ?_;simp only[fn4,evs,↓reduceIte,Nat.reduceEqDiff,Nat.reduceAdd,←e_h1,aT.len,show(20:Int)<T.length by omega];refine aa (wR h1) ?_;rintro _ _ ⟨rfl,rfl⟩;simp only[evs,↓reduceIte];exact F_h1
end Go.Ev.Lay
