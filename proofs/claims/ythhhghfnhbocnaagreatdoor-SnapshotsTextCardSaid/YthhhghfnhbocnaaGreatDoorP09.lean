/- An evaluator of the program, and contracts over it: SdE to TxA. -/
import Derived.Test.YthhhghfnhbocnaaGreatDoorP08
set_option linter.unusedSimpArgs false
set_option linter.unusedVariables false
set_option linter.constructorNameAsVariable false
set_option linter.unnecessarySimpa false
namespace Go.Ev.Lay
set_option maxRecDepth 4000
theorem aP_seqA(a b:Str×Str):aP (.seq true [2,2]) [.agg (attC a),.agg (attC b)]=some (.bool (!(a==b))):=by
  obtain⟨a1,a2⟩:=a;obtain⟨b1,b2⟩:=b;have e:((a1,a2)==(b1,b2))=(a1==b1&&a2==b2):=rfl;rw[e];show(bif a1==b1 then(bif a2==b2 then some true else some false)else some false).map (fun r=>V.bool (!r))=_;cases a1==b1<;>cases a2==b2<;>rfl
theorem beq_cons(x y:Str×Str)(l m:List (Str×Str)):(x::l==y::m)=(x==y&&l==m):=rfl
theorem beq_len{l m:List (Str×Str)}(h:¬l.length=m.length):(l==m)=false:=by
  cases c:l==m
  ·rfl
  ·have:l=m:=by simpa using c
   subst this;exact absurd rfl h
theorem eqA_ok{h:Heap}{va vb:V}{A B:List (Str×Str)}(a:Recs attC 2 h va A)(b:Recs attC 2 h vb B)(na:A.length≤4096)(nb:B.length≤4096):Does go 54 [va,vb] h fun u h'=>u=.bool (A==B)∧h=h':=by
  by_cases cl:A.length=B.length
  ·refine does_fn g54 rfl ?_;simp(maxSteps:=1000000) (disch:=omega) only[fn54,evs,↓reduceIte,Nat.reduceEqDiff,Nat.reduceAdd,Nat.reduceMul,Nat.reduceLeDiff,Nat.reduceLT,Int.reduceNeg,DF,eff,Nat.reduceSub,fwrap_i64,a.len,b.len,eq_true (show(A.length:Int)=B.length by omega)];refine W_loop (fun n env hh=>h=hh∧∃i:Nat,env.get 13=some (.int .i64 i)∧env.get 12=some (.int .i64 A.length)∧env.get 0=some va∧env.get 1=some vb∧i≤A.length∧(A.drop i==B.drop i)=(A==B)∧n=A.length-i) A.length (by omega) ?_ ?_
   ·exact⟨rfl,0,(by simp[T.get_set]),by simp[T.get_set,cl],(by simp[T.get_set]),(by simp[T.get_set]),by omega,rfl,rfl⟩
   ·rintro n env hh ⟨rfl,i,g13,g12,g0,g1,hi,e,rfl⟩;by_cases c:i<A.length
    ·obtain⟨b1,o1,s1,p1,_,p3,p4⟩:=a.ix attC_len .i64 (i:Int) (by omega) (by omega);obtain⟨b2,o2,s2,q1,_,q3,q4⟩:=b.ix attC_len .i64 (i:Int) (by omega) (by omega);rw[Int.toNat_natCast]at p4 q4;rw[drop_cons p4,drop_cons q4,beq_cons]at e;cases d:s1==s2
     ·simp(maxSteps:=1000000) (disch:=omega) only[evs,↓reduceIte,Nat.reduceEqDiff,Nat.reduceAdd,Nat.reduceMul,Nat.reduceLeDiff,Nat.reduceLT,Int.reduceNeg,DF,eff,Nat.reduceSub,fwrap_i64,g13,g12,g0,g1,show(i:Int)<A.length by omega,p1,q1,p3,q3,aP_seqA,d];rw[←e,d];rfl
     ·simp(maxSteps:=1000000) (disch:=omega) only[evs,↓reduceIte,Nat.reduceEqDiff,Nat.reduceAdd,Nat.reduceMul,Nat.reduceLeDiff,Nat.reduceLT,Int.reduceNeg,DF,eff,Nat.reduceSub,fwrap_i64,g13,g12,g0,g1,show(i:Int)<A.length by omega,p1,q1,p3,q3,aP_seqA,d];rw[d,Bool.true_and]at e;refine(roundQ_norm _ _ _).2 ⟨A.length-(i+1),by omega,rfl,i+1,(by simp[T.get_set]),(by simp[T.get_set,g12]),(by simp[T.get_set,g0]),(by simp[T.get_set,g1]),by omega,e,rfl⟩
    ·simp(maxSteps:=1000000) (disch:=omega) only[evs,↓reduceIte,Nat.reduceEqDiff,Nat.reduceAdd,Nat.reduceMul,Nat.reduceLeDiff,Nat.reduceLT,Int.reduceNeg,DF,eff,Nat.reduceSub,fwrap_i64,g13,g12,g0,g1,show¬(i:Int)<A.length by omega];rw[List.drop_of_length_le (by omega),List.drop_of_length_le (by omega)]at e;rw[←e];rfl
  ·refine does_fn g54 rfl ?_;simp(maxSteps:=1000000) (disch:=omega) only[fn54,evs,↓reduceIte,Nat.reduceEqDiff,Nat.reduceAdd,Nat.reduceMul,Nat.reduceLeDiff,Nat.reduceLT,Int.reduceNeg,DF,eff,Nat.reduceSub,fwrap_i64,a.len,b.len,show¬(A.length:Int)=B.length by omega];exact congrArg V.bool (beq_len cl).symm
/-- a node in memory -/
structure Nd where
  k:Nat
  tg:Str
  ky:Str
  at':List (Str×Str)
  tx:Str
  va:V
  vc:V
  sub:NT
namespace Nd
def cells(a:Nd):List V:=[.int .u8 (a.k:Int),.str a.tg,.str a.ky,a.va,.str a.tx,a.vc]
def nt(a:Nd):NT:=.cons a.k a.tg a.ky a.at' a.tx a.va a.vc a.sub .nil
def ct(a:Nd):CT:=.cons a.k a.tg a.ky a.at' a.tx a.sub.ct .nil
end Nd
def NdH(h:Heap)(a:Nd):Prop:=NH h a.nt
theorem NdH.fr{h h':Heap}{a:Nd}(x:NdH h a)(f:Fr [] h h'):NdH h' a:=NH.fr f x
theorem NdH.one{h:Heap}{a:Nd}(x:NdH h a):onesB a.cells=true:=NH.one1 x
def EqN(N:Nat)(a:Nd):Prop:=∀{h:Heap}{b:Nd},WF h→NdH h a→NdH h b→Does go N [.agg a.cells,.agg b.cells] h fun u h'=>u=.bool (a.ct.eqb b.ct)∧Fr [] h h'
def EqL(N:Nat):NT→Prop
  |.nil=>True
  |.cons k tg ky at' tx va vc sub nx=>EqN N ⟨k,tg,ky,at',tx,va,vc,sub⟩∧EqL N nx
theorem EqL.at'{N:Nat}:∀{t:NT}(i:Nat),EqL N t→EqL N (t.at' i)
  |.nil,0,_=>trivial
  |.nil,_+1,_=>trivial
  |.cons _ _ _ _ _ _ _ _ _,0,a=>a
  |.cons _ _ _ _ _ _ _ _ _,i+1,⟨_,g⟩=>EqL.at' i g
/-- the i-th one of siblings -/
theorem NT.nd(t:NT)(i:Nat)(hi:i<t.len):∃(a:Nd)(nx:NT),t.at' i=.cons a.k a.tg a.ky a.at' a.tx a.va a.vc a.sub nx∧t.cells.drop (i*6)=a.cells++nx.cells∧t.at' (i+1)=nx:=by
  obtain⟨k,tg,ky,at',tx,va,vc,sub,nx,e1,e2,e3,_⟩:=t.split i hi;exact⟨⟨k,tg,ky,at',tx,va,vc,sub⟩,nx,e1,e2,e3⟩
theorem NH.nd{h:Heap}{t nx:NT}{i:Nat}{a:Nd}(x:NH h t)(e:t.at' i=.cons a.k a.tg a.ky a.at' a.tx a.va a.vc a.sub nx):NdH h a:=by
  have:=NH.at' i x;rw[e]at this;obtain⟨h1,h2,h3,h4,h5,h6,_⟩:=this;exact⟨h1,h2,h3,h4,h5,h6,trivial⟩
theorem eqb_one(a b:Nd)(nx nx':CT):(CT.cons a.k a.tg a.ky a.at' a.tx a.sub.ct nx).eqb (CT.cons b.k b.tg b.ky b.at' b.tx b.sub.ct nx')=(a.ct.eqb b.ct&&nx.eqb nx'):=by
  simp[Nd.ct,CT.eqb]
theorem eqb_len{a b:NT}(h:¬a.len=b.len):a.ct.eqb b.ct=false:=by
  cases c:a.ct.eqb b.ct
  ·rfl
  ·have:=(CT.eqb_eq _ _).1 c;rw[←NT.ct_len,←NT.ct_len,this]at h;exact absurd rfl h
theorem eqF_ok{N:Nat}(hN:N<1099511627776){h:Heap}{va vb:V}{a b:NT}(w:WF h)(sa:Sl h 6 va a.len a.cells)(na:NH h a)(la:a.len≤4096)(sb:Sl h 6 vb b.len b.cells)(nb:NH h b)(lb:b.len≤4096)(E:EqL N a):
    Does go 55 [va,vb,.func (.func N) [] []] h fun u h'=>u=.bool (a.ct.eqb b.ct)∧Fr [] h h':=by
  by_cases cl:a.len=b.len
  ·refine does_fn g55 rfl ?_;simp(maxSteps:=1000000) (disch:=omega) only[fn55,evs,↓reduceIte,Nat.reduceEqDiff,Nat.reduceAdd,Nat.reduceMul,Nat.reduceLeDiff,Nat.reduceLT,Int.reduceNeg,DF,eff,Nat.reduceSub,fwrap_i64,sa.len,sb.len,eq_true (show(a.len:Int)=b.len by omega)];refine W_loop (fun n env hh=>Fr [] h hh∧∃i:Nat,env.get 17=some (.int .i64 i)∧env.get 16=some (.int .i64 a.len)∧env.get 15=some va∧env.get 1=some vb∧env.get 2=some (.func (.func N) [] [])∧i≤a.len∧
     (a.at' i).ct.eqb (b.at' i).ct=a.ct.eqb b.ct∧n=a.len-i) a.len (by omega) ?_ ?_
   ·exact⟨Fr.refl w,0,(by simp[T.get_set]),by simp[T.get_set,cl],(by simp[T.get_set]),(by simp[T.get_set]),(by simp[T.get_set]),by omega,by cases a<;>cases b<;>rfl,rfl⟩
   ·rintro n env hh ⟨F,i,g17,g16,g15,g1,g2,hi,e,rfl⟩;by_cases c:i<a.len
    ·obtain⟨x,nx,e1,e2,e3⟩:=a.nd i c;obtain⟨y,ny,f1,f2,f3⟩:=b.nd i (by omega);obtain⟨b1,o1,p1,p2⟩:=(sa.fr F).ix6 c e2;have nx1:=(na.fr F).nd e1;have ny1:=(nb.fr F).nd f1;obtain⟨h1,e_h1⟩:∃h1,h1=halloc hh [.int .u8 0,.str [],.str [],.nils,.str [],.nils]:=⟨_,rfl⟩;have F_h1:Fr [] hh h1:=e_h1▸Fr.halloc F.wf _;have o_h1:Own h1 hh.next [.int .u8 0,.str [],.str [],.nils,.str [],.nils]:=e_h1▸Own.new F.wf _;simp(maxSteps:=1000000) (disch:=omega) only[evs,↓reduceIte,Nat.reduceEqDiff,Nat.reduceAdd,Nat.reduceMul,Nat.reduceLeDiff,Nat.reduceLT,Int.reduceNeg,DF,eff,Nat.reduceSub,fwrap_i64,g17,g16,g15,g1,g2,show(i:Int)<a.len by omega,p1,p2.2.2.2.2.2.2,←e_h1];refine store_step (c':=x.cells) F_h1.wf o_h1 rfl nx1.one rfl ?_;intro h2 q2 F2 n2;have F02:Fr [] hh h2:=F_h1.fresh F2 F.wf (Nat.le_refl _);obtain⟨b2,o2,r1,r2⟩:=(sb.fr (F.then F02)).ix6 (i:=i) (by omega) f2;obtain⟨h3,e_h3⟩:∃h3,h3=halloc h2 [.int .u8 0,.str [],.str [],.nils,.str [],.nils]:=⟨_,rfl⟩;have F_h3:Fr [] h2 h3:=e_h3▸Fr.halloc F02.wf _;have o_h3:Own h3 h2.next [.int .u8 0,.str [],.str [],.nils,.str [],.nils]:=e_h3▸Own.new F02.wf _;simp(maxSteps:=1000000) (disch:=omega) only[evs,↓reduceIte,Nat.reduceEqDiff,Nat.reduceAdd,Nat.reduceMul,Nat.reduceLeDiff,Nat.reduceLT,Int.reduceNeg,DF,eff,Nat.reduceSub,fwrap_i64,g17,g16,g15,g1,g2,r1,r2.2.2.2.2.2.2,←e_h3];refine store_step (c':=y.cells) F_h3.wf o_h3 rfl ny1.one rfl ?_;intro h4 q4 F4 n4;have F24:Fr [] h2 h4:=F_h3.fresh F4 F02.wf (Nat.le_refl _);have F04:=F02.then F24;have lx:hload h4 hh.next 0 6=some x.cells:=by rw[(F24.get q2).ld];rfl
     have ly:hload h4 h2.next 0 6=some y.cells:=by rw[q4.ld];rfl
     have Ex:=E.at' i;rw[e1]at Ex;simp(maxSteps:=1000000) (disch:=omega) only[evs,↓reduceIte,Nat.reduceEqDiff,Nat.reduceAdd,Nat.reduceMul,Nat.reduceLeDiff,Nat.reduceLT,Int.reduceNeg,DF,eff,Nat.reduceSub,fwrap_i64,g17,g16,g15,g1,g2,lx,ly,hN];refine OQ_does (Ex.1 F04.wf (nx1.fr F04) (ny1.fr F04)) ?_;rintro _ h5 ⟨rfl,F5⟩;rw[e1,f1]at e;simp only[NT.ct]at e;rw[eqb_one]at e;cases d:x.ct.eqb y.ct
     ·simp(maxSteps:=1000000) (disch:=omega) only[evs,↓reduceIte,Nat.reduceEqDiff,Nat.reduceAdd,Nat.reduceMul,Nat.reduceLeDiff,Nat.reduceLT,Int.reduceNeg,DF,eff,Nat.reduceSub,fwrap_i64,g17,g16,g15,g1,g2];exact⟨by rw[←e,d];rfl,(F.then F04).then F5⟩
     ·simp(maxSteps:=1000000) (disch:=omega) only[evs,↓reduceIte,Nat.reduceEqDiff,Nat.reduceAdd,Nat.reduceMul,Nat.reduceLeDiff,Nat.reduceLT,Int.reduceNeg,DF,eff,Nat.reduceSub,fwrap_i64,g17,g16,g15,g1,g2];rw[d,Bool.true_and]at e;refine(roundQ_norm _ _ _).2 ⟨a.len-(i+1),by omega,(F.then F04).then F5,i+1,(by simp[T.get_set]),(by simp[T.get_set,g16]),(by simp[T.get_set,g15]),(by simp[T.get_set,g1]),(by simp[T.get_set,g2]),by omega,by rw[e3,f3];exact e,rfl⟩
      done
    ·simp(maxSteps:=1000000) (disch:=omega) only[evs,↓reduceIte,Nat.reduceEqDiff,Nat.reduceAdd,Nat.reduceMul,Nat.reduceLeDiff,Nat.reduceLT,Int.reduceNeg,DF,eff,Nat.reduceSub,fwrap_i64,g17,g16,g15,g1,g2,show¬(i:Int)<a.len by omega];rw[NT.at_end _ _ (by omega),NT.at_end _ _ (by omega)]at e;exact⟨by rw[←e];rfl,F⟩
  ·refine does_fn g55 rfl ?_;simp(maxSteps:=1000000) (disch:=omega) only[fn55,evs,↓reduceIte,Nat.reduceEqDiff,Nat.reduceAdd,Nat.reduceMul,Nat.reduceLeDiff,Nat.reduceLT,Int.reduceNeg,DF,eff,Nat.reduceSub,fwrap_i64,sa.len,sb.len,show¬(a.len:Int)=b.len by omega];exact⟨by rw[eqb_len cl],Fr.refl w⟩
theorem eqN_ok{N:Nat}(hf:F.get N=some (eqFn N))(hN:N<1099511627776){a:Nd}(E:EqL N a.sub):EqN N a:=by
  intro h b w ha hb;obtain⟨ka,tga,kya,ata,txa,vaa,vca,sa⟩:=a;obtain⟨kb,tgb,kyb,atb,txb,vab,vcb,sb⟩:=b;have ha':=ha;have hb':=hb;obtain⟨_,a2,a3,a4,a5,a6,_⟩:=ha;obtain⟨_,b2,b3,b4,b5,b6,_⟩:=hb;simp only[Nd.cells,Nd.ct]at *;obtain⟨h1,e_h1⟩:∃h1,h1=halloc h [.int .u8 (ka:Int),.str tga,.str kya,vaa,.str txa,vca]:=⟨_,rfl⟩;have F_h1:Fr [] h h1:=e_h1▸Fr.halloc w _;have o_h1:Own h1 h.next [.int .u8 (ka:Int),.str tga,.str kya,vaa,.str txa,vca]:=e_h1▸Own.new w _;obtain⟨h2,e_h2⟩:∃h2,h2=halloc h1 [.int .u8 (kb:Int),.str tgb,.str kyb,vab,.str txb,vcb]:=⟨_,rfl⟩;have F_h2:Fr [] h1 h2:=e_h2▸Fr.halloc F_h1.wf _;have o_h2:Own h2 h1.next [.int .u8 (kb:Int),.str tgb,.str kyb,vab,.str txb,vcb]:=e_h2▸Own.new F_h1.wf _;have F2:=F_h1.then F_h2;have o1:=F_h2.get o_h1;have x0:hload1 h2 h.next 0=some (.int .u8 (ka:Int)):=o1.ld1 0;have x1:hload1 h2 h.next 1=some (.str tga):=o1.ld1 1;have x2:hload1 h2 h.next 2=some (.str kya):=o1.ld1 2;have x3:hload1 h2 h.next 3=some vaa:=o1.ld1 3;have x4:hload1 h2 h.next 4=some (.str txa):=o1.ld1 4;have x5:hload1 h2 h.next 5=some vca:=o1.ld1 5;have y0:hload1 h2 h1.next 0=some (.int .u8 (kb:Int)):=o_h2.ld1 0;have y1:hload1 h2 h1.next 1=some (.str tgb):=o_h2.ld1 1;have y2:hload1 h2 h1.next 2=some (.str kyb):=o_h2.ld1 2;have y3:hload1 h2 h1.next 3=some vab:=o_h2.ld1 3;have y4:hload1 h2 h1.next 4=some (.str txb):=o_h2.ld1 4;have y5:hload1 h2 h1.next 5=some vcb:=o_h2.ld1 5;refine does_fn hf rfl ?_;by_cases c0:ka=kb
  ·subst c0;cases c1:tga==tgb
   ·simp(maxSteps:=1000000) (disch:=omega) only[evs,↓reduceIte,Nat.reduceEqDiff,Nat.reduceAdd,Nat.reduceMul,Nat.reduceLeDiff,Nat.reduceLT,Int.reduceNeg,DF,eff,Nat.reduceSub,fwrap_i64,eqFn,←e_h1,←e_h2,x0,y0,x1,y1,aP_sbe,c1];exact⟨by simp[CT.eqb,c1],F2⟩
   cases c2:kya==kyb
   ·simp(maxSteps:=1000000) (disch:=omega) only[evs,↓reduceIte,Nat.reduceEqDiff,Nat.reduceAdd,Nat.reduceMul,Nat.reduceLeDiff,Nat.reduceLT,Int.reduceNeg,DF,eff,Nat.reduceSub,fwrap_i64,eqFn,←e_h1,←e_h2,x0,y0,x1,y1,aP_sbe,c1,x2,y2,c2];exact⟨by simp[CT.eqb,c2],F2⟩
   cases c3:txa==txb
   ·simp(maxSteps:=1000000) (disch:=omega) only[evs,↓reduceIte,Nat.reduceEqDiff,Nat.reduceAdd,Nat.reduceMul,Nat.reduceLeDiff,Nat.reduceLT,Int.reduceNeg,DF,eff,Nat.reduceSub,fwrap_i64,eqFn,←e_h1,←e_h2,x0,y0,x1,y1,aP_sbe,c1,x2,y2,c2,x4,y4,c3];exact⟨by simp[CT.eqb,c3],F2⟩
   simp(maxSteps:=1000000) (disch:=omega) only[evs,↓reduceIte,Nat.reduceEqDiff,Nat.reduceAdd,Nat.reduceMul,Nat.reduceLeDiff,Nat.reduceLT,Int.reduceNeg,DF,eff,Nat.reduceSub,fwrap_i64,eqFn,←e_h1,←e_h2,x0,y0,x1,y1,aP_sbe,c1,x2,y2,c2,x4,y4,c3,x3,y3];refine OQ_does (eqA_ok (a2.fr F2) (b2.fr F2) a3 b3) ?_;rintro _ _ ⟨rfl,rfl⟩;cases c4:ata==atb
   ·simp(maxSteps:=1000000) (disch:=omega) only[evs,↓reduceIte,Nat.reduceEqDiff,Nat.reduceAdd,Nat.reduceMul,Nat.reduceLeDiff,Nat.reduceLT,Int.reduceNeg,DF,eff,Nat.reduceSub,fwrap_i64,c4];exact⟨by simp[CT.eqb,c4],F2⟩
   simp(maxSteps:=1000000) (disch:=omega) only[evs,↓reduceIte,Nat.reduceEqDiff,Nat.reduceAdd,Nat.reduceMul,Nat.reduceLeDiff,Nat.reduceLT,Int.reduceNeg,DF,eff,Nat.reduceSub,fwrap_i64,c4,x5,y5];refine OQ_does (eqF_ok hN F2.wf (a4.fr F2) (a6.fr F2) a5 (b4.fr F2) (b6.fr F2) b5 E) ?_;rintro _ h3 ⟨rfl,F3⟩;simp(maxSteps:=1000000) (disch:=omega) only[evs,↓reduceIte,Nat.reduceEqDiff,Nat.reduceAdd,Nat.reduceMul,Nat.reduceLeDiff,Nat.reduceLT,Int.reduceNeg,DF,eff,Nat.reduceSub,fwrap_i64];refine⟨?_,F2.then F3⟩;simp only[CT.eqb,c1,c2,c3,c4,decide_true,Bool.true_and,Bool.and_true]
  ·simp(maxSteps:=1000000) (disch:=omega) only[evs,↓reduceIte,Nat.reduceEqDiff,Nat.reduceAdd,Nat.reduceMul,Nat.reduceLeDiff,Nat.reduceLT,Int.reduceNeg,DF,eff,Nat.reduceSub,fwrap_i64,eqFn,←e_h1,←e_h2,x0,y0,show¬(ka:Int)=kb by omega];exact⟨by simp[CT.eqb,c0],F2⟩
theorem eqL_all{N:Nat}(hf:F.get N=some (eqFn N))(hN:N<1099511627776):∀t:NT,EqL N t
  |.nil=>trivial
  |.cons k tg ky at' tx va vc sub nx=>⟨eqN_ok hf hN (a:=⟨k,tg,ky,at',tx,va,vc,sub⟩) (eqL_all hf hN sub),eqL_all hf hN nx⟩
theorem equal_ok{h:Heap}{a b:Nd}(w:WF h)(ha:NdH h a)(hb:NdH h b):Does go 81 [.agg a.cells,.agg b.cells] h fun u h'=>u=.bool (a.ct.eqb b.ct)∧Fr [] h h':=eqN_ok g81e (by decide) (eqL_all g81e (by decide) _) w ha hb
theorem nsame_ok{h:Heap}{a b:Nd}(w:WF h)(ha:NdH h a)(hb:NdH h b):Does go 33 [.agg a.cells,.agg b.cells] h fun u h'=>u=.bool (a.ct.eqb b.ct)∧Fr [] h h':=eqN_ok g33e (by decide) (eqL_all g33e (by decide) _) w ha hb
/-- a valid tree -/
def Good(t:CT):Prop:=t.good 1∧t.size≤64
theorem check_ok{h:Heap}{a:Nd}(w:WF h)(ha:NdH h a)(g:Good a.ct):Does go 23 [.agg a.cells] h fun u h'=>u=.int .i64 0∧Fr [] h h':=by
  obtain⟨k,tg,ky,at',tx,va,vc,sub⟩:=a;refine(ncheck_ok w ha).mono ?_;rintro u h' ⟨rfl,F⟩;have:NT.count k tg ky at' tx sub=1+sub.ct.size:=NT.count_good g.1 (by have:=g.2;simp only[Nd.ct,CT.size]at this;omega);exact⟨by rw[this,if_neg (by omega)],F⟩
theorem nSame_ok{h:Heap}{a b:Nd}(w:WF h)(ha:NdH h a)(hb:NdH h b)(ga:Good a.ct)(gb:Good b.ct):Does go 15 [.agg a.cells,.agg b.cells] h fun u h'=>u=.bool (a.ct.eqb b.ct)∧Fr [] h h':=by
  obtain⟨h1,e_h1⟩:∃h1,h1=halloc h a.cells:=⟨_,rfl⟩;have F_h1:Fr [] h h1:=e_h1▸Fr.halloc w _;have o_h1:Own h1 h.next a.cells:=e_h1▸Own.new w _;obtain⟨h2,e_h2⟩:∃h2,h2=halloc h1 b.cells:=⟨_,rfl⟩;have F_h2:Fr [] h1 h2:=e_h2▸Fr.halloc F_h1.wf _;have o_h2:Own h2 h1.next b.cells:=e_h2▸Own.new F_h1.wf _;have F2:=F_h1.then F_h2;have o1:=F_h2.get o_h1;have l1:hload h2 h.next 0 6=some a.cells:=by rw[o1.ld];rfl
  have l2:hload h2 h1.next 0 6=some b.cells:=by rw[o_h2.ld];rfl
  refine does_fn g15 rfl ?_;simp(maxSteps:=1000000) (disch:=omega) only[fn15,evs,↓reduceIte,Nat.reduceEqDiff,Nat.reduceAdd,Nat.reduceMul,Nat.reduceLeDiff,Nat.reduceLT,Int.reduceNeg,DF,eff,Nat.reduceSub,fwrap_i64,←e_h1,←e_h2,l1];refine OQ_does (check_ok F2.wf (ha.fr F2) ga) ?_;rintro _ h3 ⟨rfl,F3⟩;have l3:hload h3 h1.next 0 6=some b.cells:=by rw[(F3.get o_h2).ld];rfl
  simp(maxSteps:=1000000) (disch:=omega) only[evs,↓reduceIte,Nat.reduceEqDiff,Nat.reduceAdd,Nat.reduceMul,Nat.reduceLeDiff,Nat.reduceLT,Int.reduceNeg,DF,eff,Nat.reduceSub,fwrap_i64,l3];refine OQ_does (check_ok F3.wf (hb.fr (F2.then F3)) gb) ?_;rintro _ h4 ⟨rfl,F4⟩;have F24:=F3.then F4;have l4:hload h4 h.next 0 6=some a.cells:=by rw[(F24.get o1).ld];rfl
  have l5:hload h4 h1.next 0 6=some b.cells:=by rw[(F24.get o_h2).ld];rfl
  simp(maxSteps:=1000000) (disch:=omega) only[evs,↓reduceIte,Nat.reduceEqDiff,Nat.reduceAdd,Nat.reduceMul,Nat.reduceLeDiff,Nat.reduceLT,Int.reduceNeg,DF,eff,Nat.reduceSub,fwrap_i64,l4,l5];refine OQ_does (nsame_ok F4.wf (ha.fr (F2.then F24)) (hb.fr (F2.then F24))) ?_;rintro _ h5 ⟨rfl,F5⟩;simp(maxSteps:=1000000) (disch:=omega) only[evs,↓reduceIte,Nat.reduceEqDiff,Nat.reduceAdd,Nat.reduceMul,Nat.reduceLeDiff,Nat.reduceLT,Int.reduceNeg,DF,eff,Nat.reduceSub,fwrap_i64];exact(F2.then F24).then F5
/-- a row in memory -/
structure Rw where
  key:Int
  top:Int
  sz:Int
  nd:Nd
/-- a row -/
structure CR where
  key:Int
  top:Int
  sz:Int
  t:CT
def Rw.cells(r:Rw):List V:=[.int .u64 r.key,.int .i64 r.top,.int .i64 r.sz,.int .u8 (r.nd.k:Int),.str r.nd.tg,.str r.nd.ky,r.nd.va,.str r.nd.tx,r.nd.vc]
theorem Rw.len(r:Rw):r.cells.length=9:=rfl
def Rw.c(r:Rw):CR:=⟨r.key,r.top,r.sz,r.nd.ct⟩
def RwH(h:Heap)(r:Rw):Prop:=NdH h r.nd
theorem RwH.fr{h h':Heap}{r:Rw}(x:RwH h r)(f:Fr [] h h'):RwH h' r:=NdH.fr x f
theorem RwH.one{h:Heap}{r:Rw}(x:RwH h r):onesB r.cells=true:=by
  have:=NdH.one x;simp only[Rw.cells,onesB_cons,V.one,Bool.true_and];exact this
def sameB(a b:CR):Bool:=decide (a.key=b.key)&&(decide (a.top=b.top)&&(decide (a.sz=b.sz)&&a.t.eqb b.t))
theorem sameB_eq(a b:CR):sameB a b=true↔a=b:=by
  obtain⟨a1,a2,a3,a4⟩:=a;obtain⟨b1,b2,b3,b4⟩:=b;simp only[sameB,Bool.and_eq_true,decide_eq_true_eq,CT.eqb_eq,CR.mk.injEq]
theorem rsame_ok{h:Heap}{a b:Rw}(w:WF h)(ha:RwH h a)(hb:RwH h b):Does go 56 [.agg a.cells,.agg b.cells] h fun u h'=>u=.bool (sameB a.c b.c)∧Fr [] h h':=by
  obtain⟨h1,e_h1⟩:∃h1,h1=halloc h a.cells:=⟨_,rfl⟩;have F_h1:Fr [] h h1:=e_h1▸Fr.halloc w _;have o_h1:Own h1 h.next a.cells:=e_h1▸Own.new w _;obtain⟨h2,e_h2⟩:∃h2,h2=halloc h1 b.cells:=⟨_,rfl⟩;have F_h2:Fr [] h1 h2:=e_h2▸Fr.halloc F_h1.wf _;have o_h2:Own h2 h1.next b.cells:=e_h2▸Own.new F_h1.wf _;have F2:=F_h1.then F_h2;have o1:=F_h2.get o_h1;have x0:hload1 h2 h.next 0=some (.int .u64 a.key):=o1.ld1 0;have x1:hload1 h2 h.next 1=some (.int .i64 a.top):=o1.ld1 1;have x2:hload1 h2 h.next 2=some (.int .i64 a.sz):=o1.ld1 2;have x3:hload h2 h.next 3 6=some a.nd.cells:=by rw[o1.ld];rfl
  have y0:hload1 h2 h1.next 0=some (.int .u64 b.key):=o_h2.ld1 0;have y1:hload1 h2 h1.next 1=some (.int .i64 b.top):=o_h2.ld1 1;have y2:hload1 h2 h1.next 2=some (.int .i64 b.sz):=o_h2.ld1 2;have y3:hload h2 h1.next 3 6=some b.nd.cells:=by rw[o_h2.ld];rfl
  by_cases c0:a.key=b.key
  ·by_cases c1:a.top=b.top
   ·by_cases c2:a.sz=b.sz
    ·refine does_fn g56 rfl ?_;simp(maxSteps:=1000000) (disch:=omega) only[fn56,evs,↓reduceIte,Nat.reduceEqDiff,Nat.reduceAdd,Nat.reduceMul,Nat.reduceLeDiff,Nat.reduceLT,Int.reduceNeg,DF,eff,Nat.reduceSub,fwrap_i64,←e_h1,←e_h2,x0,y0,x1,y1,x2,y2,eq_true c0,eq_true c1,eq_true c2,x3,y3];refine OQ_does (equal_ok F2.wf (NdH.fr ha F2) (NdH.fr hb F2)) ?_;rintro _ h3 ⟨rfl,F3⟩;simp(maxSteps:=1000000) (disch:=omega) only[evs,↓reduceIte,Nat.reduceEqDiff,Nat.reduceAdd,Nat.reduceMul,Nat.reduceLeDiff,Nat.reduceLT,Int.reduceNeg,DF,eff,Nat.reduceSub,fwrap_i64];exact⟨by simp[sameB,Rw.c,c0,c1,c2],F2.then F3⟩
    ·refine does_fn g56 rfl ?_;simp(maxSteps:=1000000) (disch:=omega) only[fn56,evs,↓reduceIte,Nat.reduceEqDiff,Nat.reduceAdd,Nat.reduceMul,Nat.reduceLeDiff,Nat.reduceLT,Int.reduceNeg,DF,eff,Nat.reduceSub,fwrap_i64,←e_h1,←e_h2,x0,y0,x1,y1,x2,y2,eq_true c0,eq_true c1,c2];exact⟨by simp[sameB,Rw.c,c2],F2⟩
   ·refine does_fn g56 rfl ?_;simp(maxSteps:=1000000) (disch:=omega) only[fn56,evs,↓reduceIte,Nat.reduceEqDiff,Nat.reduceAdd,Nat.reduceMul,Nat.reduceLeDiff,Nat.reduceLT,Int.reduceNeg,DF,eff,Nat.reduceSub,fwrap_i64,←e_h1,←e_h2,x0,y0,x1,y1,eq_true c0,c1];exact⟨by simp[sameB,Rw.c,c1],F2⟩
  ·refine does_fn g56 rfl ?_;simp(maxSteps:=1000000) (disch:=omega) only[fn56,evs,↓reduceIte,Nat.reduceEqDiff,Nat.reduceAdd,Nat.reduceMul,Nat.reduceLeDiff,Nat.reduceLT,Int.reduceNeg,DF,eff,Nat.reduceSub,fwrap_i64,←e_h1,←e_h2,x0,y0,c0];exact⟨by simp[sameB,Rw.c,c0],F2⟩
def rowsB:List CR→List CR→Bool
  |[],[]=>true
  |x::l,y::m=>sameB x y&&rowsB l m
  |_,_=>false
theorem rowsB_eq:∀(l m:List CR),rowsB l m=true↔l=m
  |[],[]=>by simp[rowsB]
  |[],_::_=>by simp[rowsB]
  |_::_,[]=>by simp[rowsB]
  |x::l,y::m=>by simp[rowsB,sameB_eq,rowsB_eq l m]
theorem rowsB_len{l m:List CR}(h:¬l.length=m.length):rowsB l m=false:=by
  cases c:rowsB l m
  ·rfl
  ·rw[(rowsB_eq l m).1 c]at h;exact absurd rfl h
theorem drop_map_cons{α β:Type}{f:α→β}{l:List α}{i:Nat}{x:α}(h:l[i]? =some x):(l.map f).drop i=f x::(l.map f).drop (i+1):=drop_cons (by rw[List.getElem?_map,h];rfl)
def RsH(h:Heap)(v:V)(L:List Rw):Prop:=Recs Rw.cells 9 h v L∧(∀r∈L,RwH h r)∧L.length≤4096
theorem RsH.fr{h h':Heap}{v:V}{L:List Rw}(x:RsH h v L)(f:Fr [] h h'):RsH h' v L:=⟨x.1.fr f,fun r m=>(x.2.1 r m).fr f,x.2.2⟩
theorem eqR_ok{h:Heap}{va vb:V}{A B:List Rw}(w:WF h)(a:RsH h va A)(b:RsH h vb B):Does go 57 [va,vb,.func (.func 56) [] []] h fun u h'=>u=.bool (rowsB (A.map Rw.c) (B.map Rw.c))∧Fr [] h h':=by
  have bnd:=a.2.2;by_cases cl:A.length=B.length
  ·refine does_fn g57 rfl ?_;simp(maxSteps:=1000000) (disch:=omega) only[fn57,evs,↓reduceIte,Nat.reduceEqDiff,Nat.reduceAdd,Nat.reduceMul,Nat.reduceLeDiff,Nat.reduceLT,Int.reduceNeg,DF,eff,Nat.reduceSub,fwrap_i64,a.1.len,b.1.len,eq_true (show(A.length:Int)=B.length by omega)];refine W_loop (fun n env hh=>Fr [] h hh∧∃i:Nat,env.get 17=some (.int .i64 i)∧env.get 16=some (.int .i64 A.length)∧env.get 15=some va∧env.get 1=some vb∧env.get 2=some (.func (.func 56) [] [])∧i≤A.length∧
     rowsB ((A.map Rw.c).drop i) ((B.map Rw.c).drop i)=rowsB (A.map Rw.c) (B.map Rw.c)∧n=A.length-i) A.length (by have:=a.2.2;omega) ?_ ?_
   ·exact⟨Fr.refl w,0,(by simp[T.get_set]),by simp[T.get_set,cl],(by simp[T.get_set]),(by simp[T.get_set]),(by simp[T.get_set]),by omega,rfl,rfl⟩
   ·rintro n env hh ⟨F,i,g17,g16,g15,g1,g2,hi,e,rfl⟩;by_cases c:i<A.length
    ·obtain⟨b1,o1,x,p1,_,p3,p4⟩:=(a.1.fr F).ix Rw.len .i64 (i:Int) (by omega) (by omega);rw[Int.toNat_natCast]at p4;have hx:=(a.fr F).2.1 x (List.mem_of_getElem? p4);obtain⟨h1,e_h1⟩:∃h1,h1=halloc hh [.int .u64 0,.int .i64 0,.int .i64 0,.int .u8 0,.str [],.str [],.nils,.str [],.nils]:=⟨_,rfl⟩;have F_h1:Fr [] hh h1:=e_h1▸Fr.halloc F.wf _;have o_h1:Own h1 hh.next [.int .u64 0,.int .i64 0,.int .i64 0,.int .u8 0,.str [],.str [],.nils,.str [],.nils]:=e_h1▸Own.new F.wf _;simp(maxSteps:=1000000) (disch:=omega) only[evs,↓reduceIte,Nat.reduceEqDiff,Nat.reduceAdd,Nat.reduceMul,Nat.reduceLeDiff,Nat.reduceLT,Int.reduceNeg,DF,eff,Nat.reduceSub,fwrap_i64,g17,g16,g15,g1,g2,show(i:Int)<A.length by omega,p1,p3,←e_h1];refine store_step (c':=x.cells) F_h1.wf o_h1 rfl hx.one rfl ?_;intro h2 q2 F2 n2;have F02:Fr [] hh h2:=F_h1.fresh F2 F.wf (Nat.le_refl _);obtain⟨b2,o2,y,r1,_,r3,r4⟩:=(b.1.fr (F.then F02)).ix Rw.len .i64 (i:Int) (by omega) (by have:=a.2.2;omega);rw[Int.toNat_natCast]at r4;have hy:=(b.fr (F.then F02)).2.1 y (List.mem_of_getElem? r4);obtain⟨h3,e_h3⟩:∃h3,h3=halloc h2 [.int .u64 0,.int .i64 0,.int .i64 0,.int .u8 0,.str [],.str [],.nils,.str [],.nils]:=⟨_,rfl⟩;have F_h3:Fr [] h2 h3:=e_h3▸Fr.halloc F02.wf _;have o_h3:Own h3 h2.next [.int .u64 0,.int .i64 0,.int .i64 0,.int .u8 0,.str [],.str [],.nils,.str [],.nils]:=e_h3▸Own.new F02.wf _;simp(maxSteps:=1000000) (disch:=omega) only[evs,↓reduceIte,Nat.reduceEqDiff,Nat.reduceAdd,Nat.reduceMul,Nat.reduceLeDiff,Nat.reduceLT,Int.reduceNeg,DF,eff,Nat.reduceSub,fwrap_i64,g17,g16,g15,g1,g2,r1,r3,←e_h3];refine store_step (c':=y.cells) F_h3.wf o_h3 rfl hy.one rfl ?_;intro h4 q4 F4 n4;have F24:Fr [] h2 h4:=F_h3.fresh F4 F02.wf (Nat.le_refl _);have F04:=F02.then F24;have lx:hload h4 hh.next 0 9=some x.cells:=by rw[(F24.get q2).ld];rfl
     have ly:hload h4 h2.next 0 9=some y.cells:=by rw[q4.ld];rfl
     simp(maxSteps:=1000000) (disch:=omega) only[evs,↓reduceIte,Nat.reduceEqDiff,Nat.reduceAdd,Nat.reduceMul,Nat.reduceLeDiff,Nat.reduceLT,Int.reduceNeg,DF,eff,Nat.reduceSub,fwrap_i64,g17,g16,g15,g1,g2,lx,ly];refine OQ_does (rsame_ok F04.wf (hx.fr F04) (hy.fr F24)) ?_;rintro _ h5 ⟨rfl,F5⟩;rw[drop_map_cons p4,drop_map_cons r4]at e;simp only[rowsB]at e;cases d:sameB x.c y.c
     ·simp(maxSteps:=1000000) (disch:=omega) only[evs,↓reduceIte,Nat.reduceEqDiff,Nat.reduceAdd,Nat.reduceMul,Nat.reduceLeDiff,Nat.reduceLT,Int.reduceNeg,DF,eff,Nat.reduceSub,fwrap_i64,g17,g16,g15,g1,g2];exact⟨by rw[←e,d];rfl,(F.then F04).then F5⟩
     ·simp(maxSteps:=1000000) (disch:=omega) only[evs,↓reduceIte,Nat.reduceEqDiff,Nat.reduceAdd,Nat.reduceMul,Nat.reduceLeDiff,Nat.reduceLT,Int.reduceNeg,DF,eff,Nat.reduceSub,fwrap_i64,g17,g16,g15,g1,g2];rw[d,Bool.true_and]at e;refine(roundQ_norm _ _ _).2 ⟨A.length-(i+1),by omega,(F.then F04).then F5,i+1,(by simp[T.get_set]),(by simp[T.get_set,g16]),(by simp[T.get_set,g15]),(by simp[T.get_set,g1]),(by simp[T.get_set,g2]),by omega,e,rfl⟩
      done
    ·simp(maxSteps:=1000000) (disch:=omega) only[evs,↓reduceIte,Nat.reduceEqDiff,Nat.reduceAdd,Nat.reduceMul,Nat.reduceLeDiff,Nat.reduceLT,Int.reduceNeg,DF,eff,Nat.reduceSub,fwrap_i64,g17,g16,g15,g1,g2,show¬(i:Int)<A.length by omega];rw[List.drop_of_length_le (by simp;omega),List.drop_of_length_le (by simp;omega)]at e;exact⟨by rw[←e];rfl,F⟩
  ·refine does_fn g57 rfl ?_;simp(maxSteps:=1000000) (disch:=omega) only[fn57,evs,↓reduceIte,Nat.reduceEqDiff,Nat.reduceAdd,Nat.reduceMul,Nat.reduceLeDiff,Nat.reduceLT,Int.reduceNeg,DF,eff,Nat.reduceSub,fwrap_i64,a.1.len,b.1.len,show¬(A.length:Int)=B.length by omega];exact⟨by rw[rowsB_len (by simpa using cl)],Fr.refl w⟩
/-- a slice in memory -/
structure Sc where
  off:Int
  vr:V
  rows:List Rw
  pin:Bool
  hd:Rw
/-- a slice -/
structure CS where
  off:Int
  rows:List CR
  pin:Bool
  hd:CR
def Sc.cells(s:Sc):List V:=[.int .i64 s.off,s.vr,.bool s.pin,.int .u64 s.hd.key,.int .i64 s.hd.top,.int .i64 s.hd.sz,.int .u8 (s.hd.nd.k:Int),.str s.hd.nd.tg,.str s.hd.nd.ky,s.hd.nd.va,.str s.hd.nd.tx,s.hd.nd.vc]
def Sc.c(s:Sc):CS:=⟨s.off,s.rows.map Rw.c,s.pin,s.hd.c⟩
def ScH(h:Heap)(s:Sc):Prop:=RsH h s.vr s.rows∧RwH h s.hd
theorem ScH.fr{h h':Heap}{s:Sc}(x:ScH h s)(f:Fr [] h h'):ScH h' s:=⟨x.1.fr f,x.2.fr f⟩
theorem ScH.one{h:Heap}{s:Sc}(x:ScH h s):onesB s.cells=true:=by
  have v1:=Sl.one x.1.1;have e:s.cells=[.int .i64 s.off,s.vr,.bool s.pin]++s.hd.cells:=rfl;rw[e,onesB_append,x.2.one];simp only[onesB_cons,onesB_nil,v1];rfl
def SameB(a b:CS):Bool:=decide (a.off=b.off)&&(decide (a.pin=b.pin)&&(sameB a.hd b.hd&&rowsB a.rows b.rows))
theorem SameB_eq(a b:CS):SameB a b=true↔a=b:=by
  obtain⟨a1,a2,a3,a4⟩:=a;obtain⟨b1,b2,b3,b4⟩:=b;simp only[SameB,Bool.and_eq_true,decide_eq_true_eq,sameB_eq,rowsB_eq,CS.mk.injEq];constructor
  ·rintro⟨a,b,c,d⟩;exact⟨a,d,b,c⟩
  ·rintro⟨a,d,b,c⟩;exact⟨a,b,c,d⟩
theorem Same_ok{h:Heap}{a b:Sc}(w:WF h)(ha:ScH h a)(hb:ScH h b):Does go 34 [.agg a.cells,.agg b.cells] h fun u h'=>u=.bool (SameB a.c b.c)∧Fr [] h h':=by
  obtain⟨h1,e_h1⟩:∃h1,h1=halloc h a.cells:=⟨_,rfl⟩;have F_h1:Fr [] h h1:=e_h1▸Fr.halloc w _;have o_h1:Own h1 h.next a.cells:=e_h1▸Own.new w _;obtain⟨h2,e_h2⟩:∃h2,h2=halloc h1 b.cells:=⟨_,rfl⟩;have F_h2:Fr [] h1 h2:=e_h2▸Fr.halloc F_h1.wf _;have o_h2:Own h2 h1.next b.cells:=e_h2▸Own.new F_h1.wf _;have F2:=F_h1.then F_h2;have o1:=F_h2.get o_h1;have x0:hload1 h2 h.next 0=some (.int .i64 a.off):=o1.ld1 0;have x2:hload1 h2 h.next 2=some (.bool a.pin):=o1.ld1 2;have x3:hload h2 h.next 3 9=some a.hd.cells:=by rw[o1.ld];rfl
  have y0:hload1 h2 h1.next 0=some (.int .i64 b.off):=o_h2.ld1 0;have y2:hload1 h2 h1.next 2=some (.bool b.pin):=o_h2.ld1 2;have y3:hload h2 h1.next 3 9=some b.hd.cells:=by rw[o_h2.ld];rfl
  by_cases c0:a.off=b.off
  ·by_cases c1:a.pin=b.pin
   ·refine does_fn g34 rfl ?_;simp(maxSteps:=1000000) (disch:=omega) only[fn34,evs,↓reduceIte,Nat.reduceEqDiff,Nat.reduceAdd,Nat.reduceMul,Nat.reduceLeDiff,Nat.reduceLT,Int.reduceNeg,DF,eff,Nat.reduceSub,fwrap_i64,←e_h1,←e_h2,x0,y0,x2,y2,eq_true c0,eq_true c1,x3,y3];refine OQ_does (rsame_ok F2.wf (ha.2.fr F2) (hb.2.fr F2)) ?_;rintro _ h3 ⟨rfl,F3⟩;have x1:hload1 h3 h.next 1=some a.vr:=(F3.get o1).ld1 1;have y1:hload1 h3 h1.next 1=some b.vr:=(F3.get o_h2).ld1 1;cases c2:sameB a.hd.c b.hd.c
    ·simp(maxSteps:=1000000) (disch:=omega) only[evs,↓reduceIte,Nat.reduceEqDiff,Nat.reduceAdd,Nat.reduceMul,Nat.reduceLeDiff,Nat.reduceLT,Int.reduceNeg,DF,eff,Nat.reduceSub,fwrap_i64];exact⟨by simp[SameB,Sc.c,c2],F2.then F3⟩
    ·simp(maxSteps:=1000000) (disch:=omega) only[evs,↓reduceIte,Nat.reduceEqDiff,Nat.reduceAdd,Nat.reduceMul,Nat.reduceLeDiff,Nat.reduceLT,Int.reduceNeg,DF,eff,Nat.reduceSub,fwrap_i64,x1,y1];refine OQ_does (eqR_ok F3.wf (ha.1.fr (F2.then F3)) (hb.1.fr (F2.then F3))) ?_;rintro _ h4 ⟨rfl,F4⟩;simp(maxSteps:=1000000) (disch:=omega) only[evs,↓reduceIte,Nat.reduceEqDiff,Nat.reduceAdd,Nat.reduceMul,Nat.reduceLeDiff,Nat.reduceLT,Int.reduceNeg,DF,eff,Nat.reduceSub,fwrap_i64];exact⟨by simp[SameB,Sc.c,c0,c1,c2],(F2.then F3).then F4⟩
   ·refine does_fn g34 rfl ?_;simp(maxSteps:=1000000) (disch:=omega) only[fn34,evs,↓reduceIte,Nat.reduceEqDiff,Nat.reduceAdd,Nat.reduceMul,Nat.reduceLeDiff,Nat.reduceLT,Int.reduceNeg,DF,eff,Nat.reduceSub,fwrap_i64,←e_h1,←e_h2,x0,y0,x2,y2,eq_true c0,c1];exact⟨by simp[SameB,Sc.c,c1],F2⟩
  ·refine does_fn g34 rfl ?_;simp(maxSteps:=1000000) (disch:=omega) only[fn34,evs,↓reduceIte,Nat.reduceEqDiff,Nat.reduceAdd,Nat.reduceMul,Nat.reduceLeDiff,Nat.reduceLT,Int.reduceNeg,DF,eff,Nat.reduceSub,fwrap_i64,←e_h1,←e_h2,x0,y0,c0];exact⟨by simp[SameB,Sc.c,c0],F2⟩
theorem ssame_ok{h:Heap}{a b:Rw}(w:WF h)(ha:RwH h a)(hb:RwH h b):Does go 46 [.agg a.cells,.agg b.cells] h fun u h'=>u=.bool (sameB a.c b.c)∧Fr [] h h':=by
  obtain⟨h1,e_h1⟩:∃h1,h1=halloc h a.cells:=⟨_,rfl⟩;have F_h1:Fr [] h h1:=e_h1▸Fr.halloc w _;have o_h1:Own h1 h.next a.cells:=e_h1▸Own.new w _;obtain⟨h2,e_h2⟩:∃h2,h2=halloc h1 b.cells:=⟨_,rfl⟩;have F_h2:Fr [] h1 h2:=e_h2▸Fr.halloc F_h1.wf _;have o_h2:Own h2 h1.next b.cells:=e_h2▸Own.new F_h1.wf _;have F2:=F_h1.then F_h2;have o1:=F_h2.get o_h1;have x3:hload h2 h.next 0 9=some a.cells:=by rw[o1.ld];rfl
  have y3:hload h2 h1.next 0 9=some b.cells:=by rw[o_h2.ld];rfl
  have e:∀r:Rw,afill [.int .i64 0,.nils,.bool false,.int .u64 0,.int .i64 0,.int .i64 0,.int .u8 0,.str [],.str [],.nils,.str [],.nils] [(3,9)] [.agg r.cells]=some (⟨0,.nils,[],false,r⟩:Sc).cells:=fun r=>rfl;refine does_fn g46 rfl ?_;simp(maxSteps:=1000000) (disch:=omega) only[fn46,evs,↓reduceIte,Nat.reduceEqDiff,Nat.reduceAdd,Nat.reduceMul,Nat.reduceLeDiff,Nat.reduceLT,Int.reduceNeg,DF,eff,Nat.reduceSub,fwrap_i64,←e_h1,←e_h2,x3,y3,e];refine OQ_does (Same_ok (a:=⟨0,.nils,[],false,a⟩) (b:=⟨0,.nils,[],false,b⟩) F2.wf ⟨⟨Recs.nil,by simp,by simp⟩,ha.fr F2⟩ ⟨⟨Recs.nil,by simp,by simp⟩,hb.fr F2⟩) ?_;rintro _ h3 ⟨rfl,F3⟩;simp(maxSteps:=1000000) (disch:=omega) only[evs,↓reduceIte,Nat.reduceEqDiff,Nat.reduceAdd,Nat.reduceMul,Nat.reduceLeDiff,Nat.reduceLT,Int.reduceNeg,DF,eff,Nat.reduceSub,fwrap_i64];exact⟨by simp[SameB,Sc.c,rowsB],F2.then F3⟩
def wKey:Str:=[107,101,121]
def wTop:Str:=[116,111,112]
def wSize:Str:=[115,105,122,101]
def wTree:Str:=[116,114,101,101]
def wOff:Str:=[111,102,102,115,101,116]
def wRows:Str:=[114,111,119,115]
def wPin:Str:=[112,105,110,110,101,100]
def wHead:Str:=[104,101,97,100]
def rowD(a b:CR):Str:=if a.key≠b.key then wKey else if a.top≠b.top then wTop else if a.sz≠b.sz then wSize else if sameB a b=true then[]else wTree
theorem row_ok{h:Heap}{a b:Rw}(w:WF h)(ha:RwH h a)(hb:RwH h b):Does go 35 [.agg a.cells,.agg b.cells] h fun u h'=>u=.str (rowD a.c b.c)∧Fr [] h h':=by
  obtain⟨h1,e_h1⟩:∃h1,h1=halloc h a.cells:=⟨_,rfl⟩;have F_h1:Fr [] h h1:=e_h1▸Fr.halloc w _;have o_h1:Own h1 h.next a.cells:=e_h1▸Own.new w _;obtain⟨h2,e_h2⟩:∃h2,h2=halloc h1 b.cells:=⟨_,rfl⟩;have F_h2:Fr [] h1 h2:=e_h2▸Fr.halloc F_h1.wf _;have o_h2:Own h2 h1.next b.cells:=e_h2▸Own.new F_h1.wf _;have F2:=F_h1.then F_h2;have o1:=F_h2.get o_h1;have x0:hload1 h2 h.next 0=some (.int .u64 a.key):=o1.ld1 0;have x1:hload1 h2 h.next 1=some (.int .i64 a.top):=o1.ld1 1;have x2:hload1 h2 h.next 2=some (.int .i64 a.sz):=o1.ld1 2;have x3:hload h2 h.next 0 9=some a.cells:=by rw[o1.ld];rfl
  have y0:hload1 h2 h1.next 0=some (.int .u64 b.key):=o_h2.ld1 0;have y1:hload1 h2 h1.next 1=some (.int .i64 b.top):=o_h2.ld1 1;have y2:hload1 h2 h1.next 2=some (.int .i64 b.sz):=o_h2.ld1 2;have y3:hload h2 h1.next 0 9=some b.cells:=by rw[o_h2.ld];rfl
  by_cases c0:a.key=b.key
  ·by_cases c1:a.top=b.top
   ·by_cases c2:a.sz=b.sz
    ·refine does_fn g35 rfl ?_;simp(maxSteps:=1000000) (disch:=omega) only[fn35,evs,↓reduceIte,Nat.reduceEqDiff,Nat.reduceAdd,Nat.reduceMul,Nat.reduceLeDiff,Nat.reduceLT,Int.reduceNeg,DF,eff,Nat.reduceSub,fwrap_i64,←e_h1,←e_h2,x0,y0,x1,y1,x2,y2,eq_true c0,eq_true c1,eq_true c2,x3,y3];refine OQ_does (ssame_ok F2.wf (ha.fr F2) (hb.fr F2)) ?_;rintro _ h3 ⟨rfl,F3⟩;cases d:sameB a.c b.c
     ·simp(maxSteps:=1000000) (disch:=omega) only[evs,↓reduceIte,Nat.reduceEqDiff,Nat.reduceAdd,Nat.reduceMul,Nat.reduceLeDiff,Nat.reduceLT,Int.reduceNeg,DF,eff,Nat.reduceSub,fwrap_i64];exact⟨by simp[rowD,Rw.c,c0,c1,c2];rw[show sameB ⟨b.key,b.top,b.sz,a.nd.ct⟩ ⟨b.key,b.top,b.sz,b.nd.ct⟩=false by rw[←d];simp[Rw.c,c0,c1,c2]];rfl,F2.then F3⟩
     ·simp(maxSteps:=1000000) (disch:=omega) only[evs,↓reduceIte,Nat.reduceEqDiff,Nat.reduceAdd,Nat.reduceMul,Nat.reduceLeDiff,Nat.reduceLT,Int.reduceNeg,DF,eff,Nat.reduceSub,fwrap_i64];exact⟨by simp only[rowD,d,if_true];simp[Rw.c,c0,c1,c2],F2.then F3⟩
    ·refine does_fn g35 rfl ?_;simp(maxSteps:=1000000) (disch:=omega) only[fn35,evs,↓reduceIte,Nat.reduceEqDiff,Nat.reduceAdd,Nat.reduceMul,Nat.reduceLeDiff,Nat.reduceLT,Int.reduceNeg,DF,eff,Nat.reduceSub,fwrap_i64,←e_h1,←e_h2,x0,y0,x1,y1,x2,y2,eq_true c0,eq_true c1,c2];exact⟨by simp[rowD,Rw.c,c0,c1,c2,wSize],F2⟩
   ·refine does_fn g35 rfl ?_;simp(maxSteps:=1000000) (disch:=omega) only[fn35,evs,↓reduceIte,Nat.reduceEqDiff,Nat.reduceAdd,Nat.reduceMul,Nat.reduceLeDiff,Nat.reduceLT,Int.reduceNeg,DF,eff,Nat.reduceSub,fwrap_i64,←e_h1,←e_h2,x0,y0,x1,y1,eq_true c0,c1];exact⟨by simp[rowD,Rw.c,c0,c1,wTop],F2⟩
  ·refine does_fn g35 rfl ?_;simp(maxSteps:=1000000) (disch:=omega) only[fn35,evs,↓reduceIte,Nat.reduceEqDiff,Nat.reduceAdd,Nat.reduceMul,Nat.reduceLeDiff,Nat.reduceLT,Int.reduceNeg,DF,eff,Nat.reduceSub,fwrap_i64,←e_h1,←e_h2,x0,y0,c0];exact⟨by simp[rowD,Rw.c,c0,wKey],F2⟩
/-- the first row that differs -/
def rowsD:List CR→List CR→Str
  |x::l,y::m=>if rowD x y=[]then rowsD l m else rowD x y
  |_,_=>[]
def diffD(a b:CS):Str:=if SameB a b=true then[]else if a.off≠b.off then wOff else if a.rows.length≠b.rows.length then wRows
  else if rowsD a.rows b.rows≠[]then rowsD a.rows b.rows else if a.pin≠b.pin then wPin else wHead
theorem differ_ok{h:Heap}{a b:Sc}(w:WF h)(ha:ScH h a)(hb:ScH h b):Does go 16 [.agg a.cells,.agg b.cells] h fun u h'=>u=.str (diffD a.c b.c)∧Fr [] h h':=by
  have bnd:=ha.1.2.2;obtain⟨h1,e_h1⟩:∃h1,h1=halloc h a.cells:=⟨_,rfl⟩;have F_h1:Fr [] h h1:=e_h1▸Fr.halloc w _;have o_h1:Own h1 h.next a.cells:=e_h1▸Own.new w _;obtain⟨h2,e_h2⟩:∃h2,h2=halloc h1 b.cells:=⟨_,rfl⟩;have F_h2:Fr [] h1 h2:=e_h2▸Fr.halloc F_h1.wf _;have o_h2:Own h2 h1.next b.cells:=e_h2▸Own.new F_h1.wf _;have F2:=F_h1.then F_h2;have o1:=F_h2.get o_h1;have lx:hload h2 h.next 0 12=some a.cells:=by rw[o1.ld];rfl
  have ly:hload h2 h1.next 0 12=some b.cells:=by rw[o_h2.ld];rfl
  refine does_fn g16 rfl ?_;simp(maxSteps:=1000000) (disch:=omega) only[fn16,evs,↓reduceIte,Nat.reduceEqDiff,Nat.reduceAdd,Nat.reduceMul,Nat.reduceLeDiff,Nat.reduceLT,Int.reduceNeg,DF,eff,Nat.reduceSub,fwrap_i64,←e_h1,←e_h2,lx,ly];refine OQ_does (Same_ok F2.wf (ha.fr F2) (hb.fr F2)) ?_;rintro _ h3 ⟨rfl,F3⟩;have F03:=F2.then F3;have o1':=F3.get o1;have o2':=F3.get o_h2;cases d:SameB a.c b.c
  ·have x0:hload1 h3 h.next 0=some (.int .i64 a.off):=o1'.ld1 0;have x1:hload1 h3 h.next 1=some a.vr:=o1'.ld1 1;have y0:hload1 h3 h1.next 0=some (.int .i64 b.off):=o2'.ld1 0;have y1:hload1 h3 h1.next 1=some b.vr:=o2'.ld1 1;have la:=(ha.1.1.fr F03).len;have lb:=(hb.1.1.fr F03).len;have dd:diffD a.c b.c=if a.c.off≠b.c.off then wOff else if a.c.rows.length≠b.c.rows.length then wRows else if rowsD a.c.rows b.c.rows≠[]then rowsD a.c.rows b.c.rows else if a.c.pin≠b.c.pin then wPin else wHead:=by
     unfold diffD;rw[d,if_neg (by simp)]
   by_cases c0:a.off=b.off
   ·by_cases c1:a.rows.length=b.rows.length
    ·simp(maxSteps:=1000000) (disch:=omega) only[evs,↓reduceIte,Nat.reduceEqDiff,Nat.reduceAdd,Nat.reduceMul,Nat.reduceLeDiff,Nat.reduceLT,Int.reduceNeg,DF,eff,Nat.reduceSub,fwrap_i64,x0,y0,x1,y1,eq_true c0,la,lb,eq_true (show(a.rows.length:Int)=b.rows.length by omega)];refine W_loop (fun n env hh=>Fr [] h hh∧Own hh h.next a.cells∧Own hh h1.next b.cells∧∃i:Nat,env.get 25=some (.int .i64 i)∧env.get 24=some (.int .i64 a.rows.length)∧env.get 2=some (.ptr h.next 0)∧env.get 3=some (.ptr h1.next 0)∧i≤a.rows.length∧
       rowsD (a.c.rows.drop i) (b.c.rows.drop i)=rowsD a.c.rows b.c.rows∧n=a.rows.length-i) a.rows.length (by have:=ha.1.2.2;omega) ?_ ?_
     ·exact⟨F03,o1',o2',0,(by simp[T.get_set]),by simp[T.get_set,c1],(by simp[T.get_set]),(by simp[T.get_set]),by omega,rfl,rfl⟩
     ·rintro n env hh ⟨F,p,q,i,g25,g24,g2,g3,hi,e,rfl⟩;have x1:hload1 hh h.next 1=some a.vr:=p.ld1 1;have y1:hload1 hh h1.next 1=some b.vr:=q.ld1 1;by_cases c:i<a.rows.length
      ·obtain⟨b1,o1,x,p1,_,p3,p4⟩:=(ha.1.1.fr F).ix Rw.len .i64 (i:Int) (by omega) (by omega);obtain⟨b2,o2,y,r1,_,r3,r4⟩:=(hb.1.1.fr F).ix Rw.len .i64 (i:Int) (by omega) (by omega);rw[Int.toNat_natCast]at p4 r4;have hx:=(ha.1.fr F).2.1 x (List.mem_of_getElem? p4);have hy:=(hb.1.fr F).2.1 y (List.mem_of_getElem? r4);rw[show a.c.rows.drop i=x.c::a.c.rows.drop (i+1)from drop_map_cons p4,show b.c.rows.drop i=y.c::b.c.rows.drop (i+1)from drop_map_cons r4]at e;simp only[rowsD]at e;simp(maxSteps:=1000000) (disch:=omega) only[evs,↓reduceIte,Nat.reduceEqDiff,Nat.reduceAdd,Nat.reduceMul,Nat.reduceLeDiff,Nat.reduceLT,Int.reduceNeg,DF,eff,Nat.reduceSub,fwrap_i64,g25,g24,g2,g3,show(i:Int)<a.rows.length by omega,x1,y1,p1,r1,p3,r3];refine OQ_does (row_ok F.wf hx hy) ?_;rintro _ h5 ⟨rfl,F5⟩;have p5:=F5.get p;have q5:=F5.get q;have x15:hload1 h5 h.next 1=some a.vr:=p5.ld1 1;have y15:hload1 h5 h1.next 1=some b.vr:=q5.ld1 1;by_cases z:rowD x.c y.c=[]
       ·rw[if_pos z]at e;simp(maxSteps:=1000000) (disch:=omega) only[evs,↓reduceIte,Nat.reduceEqDiff,Nat.reduceAdd,Nat.reduceMul,Nat.reduceLeDiff,Nat.reduceLT,Int.reduceNeg,DF,eff,Nat.reduceSub,fwrap_i64,g25,g24,g2,g3,aP_sbn,z,beq_self_eq_true,x1,y1,p3,r3,x15,y15];refine(roundQ_norm _ _ _).2 ⟨a.rows.length-(i+1),by omega,F.then F5,p5,q5,i+1,(by simp[T.get_set]),(by simp[T.get_set,g24]),(by simp[T.get_set,g2]),(by simp[T.get_set,g3]),by omega,e,rfl⟩
        done
       ·rw[if_neg z]at e;have zb:(rowD x.c y.c==[])=false:=by simpa using z
        simp(maxSteps:=1000000) (disch:=omega) only[evs,↓reduceIte,Nat.reduceEqDiff,Nat.reduceAdd,Nat.reduceMul,Nat.reduceLeDiff,Nat.reduceLT,Int.reduceNeg,DF,eff,Nat.reduceSub,fwrap_i64,g25,g24,g2,g3,aP_sbn,zb,x1,y1,p3,r3,x15,y15];refine⟨?_,F.then F5⟩;rw[dd,if_neg (by simp[Sc.c,c0]),if_neg (by simp[Sc.c,c1]),←e,if_pos z]
      ·have x2:hload1 hh h.next 2=some (.bool a.pin):=p.ld1 2;have y2:hload1 hh h1.next 2=some (.bool b.pin):=q.ld1 2;rw[List.drop_of_length_le (by simp[Sc.c];omega),List.drop_of_length_le (by simp[Sc.c];omega)]at e;have e':rowsD a.c.rows b.c.rows=[]:=by rw[←e];rfl
       by_cases c2:a.pin=b.pin
       ·simp(maxSteps:=1000000) (disch:=omega) only[evs,↓reduceIte,Nat.reduceEqDiff,Nat.reduceAdd,Nat.reduceMul,Nat.reduceLeDiff,Nat.reduceLT,Int.reduceNeg,DF,eff,Nat.reduceSub,fwrap_i64,g25,g24,g2,g3,show¬(i:Int)<a.rows.length by omega,x2,y2,eq_true c2];refine⟨?_,F⟩;rw[dd,if_neg (by simp[Sc.c,c0]),if_neg (by simp[Sc.c,c1]),e',if_neg (by simp),if_neg (by simp[Sc.c,c2])];rfl
       ·simp(maxSteps:=1000000) (disch:=omega) only[evs,↓reduceIte,Nat.reduceEqDiff,Nat.reduceAdd,Nat.reduceMul,Nat.reduceLeDiff,Nat.reduceLT,Int.reduceNeg,DF,eff,Nat.reduceSub,fwrap_i64,g25,g24,g2,g3,show¬(i:Int)<a.rows.length by omega,x2,y2,c2];refine⟨?_,F⟩;rw[dd,if_neg (by simp[Sc.c,c0]),if_neg (by simp[Sc.c,c1]),e',if_neg (by simp),if_pos (by simpa[Sc.c]using c2)];rfl
    ·simp(maxSteps:=1000000) (disch:=omega) only[evs,↓reduceIte,Nat.reduceEqDiff,Nat.reduceAdd,Nat.reduceMul,Nat.reduceLeDiff,Nat.reduceLT,Int.reduceNeg,DF,eff,Nat.reduceSub,fwrap_i64,x0,y0,x1,y1,eq_true c0,la,lb,show¬(a.rows.length:Int)=b.rows.length by omega];exact⟨by rw[dd,if_neg (by simp[Sc.c,c0]),if_pos (by simpa[Sc.c]using c1)];rfl,F03⟩
   ·simp(maxSteps:=1000000) (disch:=omega) only[evs,↓reduceIte,Nat.reduceEqDiff,Nat.reduceAdd,Nat.reduceMul,Nat.reduceLeDiff,Nat.reduceLT,Int.reduceNeg,DF,eff,Nat.reduceSub,fwrap_i64,x0,y0,c0];exact⟨by rw[dd,if_pos (by simpa[Sc.c]using c0)];rfl,F03⟩
  ·simp(maxSteps:=1000000) (disch:=omega) only[evs,↓reduceIte,Nat.reduceEqDiff,Nat.reduceAdd,Nat.reduceMul,Nat.reduceLeDiff,Nat.reduceLT,Int.reduceNeg,DF,eff,Nat.reduceSub,fwrap_i64];exact⟨by unfold diffD;rw[d,if_pos rfl],F03⟩
theorem clone_ok{h:Heap}{n:Nat}{x:V}{xs:List V}(w:WF h)(a:ASl h 2 x n xs)(hn:n≤100000):Does go 80 [x] h fun u h'=>Gn 2 h' h.next u n xs∧Fr [] h h':=by
  by_cases c:x=.nils
  ·subst c;have:n=0:=a.2;subst this;have q:aP (.nil 1 false) [.nils,.nils]=some (.bool true):=rfl;refine does_fn g80 rfl ?_;simp(maxSteps:=1000000) (disch:=omega) only[fn80,evs,↓reduceIte,Nat.reduceEqDiff,Nat.reduceAdd,Nat.reduceMul,Nat.reduceLeDiff,Nat.reduceLT,Int.reduceNeg,DF,eff,Nat.reduceSub,fwrap_i64,q];exact⟨⟨a.1,.inl ⟨rfl,.inl rfl⟩⟩,Fr.refl w⟩
  ·refine does_fn g80 rfl ?_;simp(maxSteps:=1000000) (disch:=omega) only[fn80,evs,↓reduceIte,Nat.reduceEqDiff,Nat.reduceAdd,Nat.reduceMul,Nat.reduceLeDiff,Nat.reduceLT,Int.reduceNeg,DF,eff,Nat.reduceSub,fwrap_i64,(a.src rfl).2.2 c];refine clone_core (bytes:=32) w a rfl (by omega) (by omega) ?_;intro v' h' g f;simp(maxSteps:=1000000) (disch:=omega) only[evs,↓reduceIte,Nat.reduceEqDiff,Nat.reduceAdd,Nat.reduceMul,Nat.reduceLeDiff,Nat.reduceLT,Int.reduceNeg,DF,eff,Nat.reduceSub,fwrap_i64];exact⟨g,f⟩
/-- a slice in memory of its own, from block B on, without spare room -/
def CpG(e:Nat)(h:Heap)(B:Nat)(v:V)(n:Nat)(cs:List V):Prop:=cs.length=n*e∧((n=0∧(v=.nils∨∃b,B≤b∧v=.slice b 0 0 0∧Own h b []))∨∃b,B≤b∧v=.slice b 0 n n∧Own h b cs)
theorem CpG.sl{e:Nat}{h:Heap}{B n:Nat}{v:V}{cs:List V}(g:CpG e h B v n cs):Sl h e v n cs:=by
  obtain⟨hl,⟨rfl,rfl|⟨b,_,rfl,o⟩⟩|⟨b,_,rfl,o⟩⟩:=g
  ·exact⟨hl,rfl⟩
  ·have:cs=[]:=List.length_eq_zero_iff.1 (by omega);subst this;exact⟨hl,rfl,Nat.le_refl _,[],o,by simp,by simp⟩
  ·exact⟨hl,rfl,Nat.le_refl _,cs,o,by omega,by rw[List.drop_zero,List.take_of_length_le (by omega)]⟩
theorem CpG.one{e:Nat}{h:Heap}{B n:Nat}{v:V}{cs:List V}(g:CpG e h B v n cs):v.one=true:=g.sl.one
theorem Stab.cpg{P:Nat→Prop}{h:Heap}{e B n:Nat}{v:V}{cs:List V}(w:WF h)(g:CpG e h B v n cs)(p:∀b,B≤b→b<h.next→P b):Stab P h fun h=>CpG e h B v n cs:=by
  obtain⟨hl,⟨rfl,rfl|⟨b,hb,rfl,o⟩⟩|⟨b,hb,rfl,o⟩⟩:=g
  ·exact fun _ _ _ _=>⟨hl,.inl ⟨rfl,.inl rfl⟩⟩
  ·exact(Stab.own w o (p b hb (o.lt w))).imp fun h o=>⟨hl,.inl ⟨rfl,.inr ⟨b,hb,rfl,o⟩⟩⟩
  ·exact(Stab.own w o (p b hb (o.lt w))).imp fun h o=>⟨hl,.inr ⟨b,hb,rfl,o⟩⟩
theorem clip_ok{N:Nat}{h:Heap}{v:V}{n:Nat}{cs:List V}(g:Gn 2 h N v n cs):Does go 79 [v] h fun u h'=>CpG 2 h N u n cs∧h=h':=by
  have q:∀y n,n≤y→abounds n y false true true [.int .i64 (n:Int),.int .i64 (n:Int)]=some (0,n,some n):=fun y n hy=>by
    simp only[abounds,abound_ok .i64 (n:Int) y (by omega) (by omega),abound_ok .i64 (n:Int) n (by omega) (by omega),Option.bind_some,Option.map_some,Int.toNat_natCast]
  obtain⟨hl,⟨rfl,rfl|⟨b,hb,rfl,o⟩⟩|⟨b,hb,rfl,o⟩⟩:=g
  ·have x:aP (.sl none 2 false true true) [.nils,.int .i64 0,.int .i64 0]=some .nils:=rfl;refine does_fn g79 rfl ?_;simp(maxSteps:=1000000) (disch:=omega) only[fn79,evs,↓reduceIte,Nat.reduceEqDiff,Nat.reduceAdd,Nat.reduceMul,Nat.reduceLeDiff,Nat.reduceLT,Int.reduceNeg,DF,eff,Nat.reduceSub,fwrap_i64,x];exact⟨hl,.inl ⟨rfl,.inl rfl⟩⟩
  ·have x:aP (.sl none 2 false true true) [.slice b 0 0 0,.int .i64 ((0:Nat):Int),.int .i64 ((0:Nat):Int)]=some (.slice b 0 0 0):=by
     simp only[aP,aslice,q 0 0 (Nat.le_refl _),Option.map_some,Option.getD_some];rfl
   refine does_fn g79 rfl ?_;simp(maxSteps:=1000000) (disch:=omega) only[fn79,evs,↓reduceIte,Nat.reduceEqDiff,Nat.reduceAdd,Nat.reduceMul,Nat.reduceLeDiff,Nat.reduceLT,Int.reduceNeg,DF,eff,Nat.reduceSub,fwrap_i64,x];exact⟨hl,.inl ⟨rfl,.inr ⟨b,hb,rfl,o⟩⟩⟩
  ·have x:aP (.sl none 2 false true true) [.sliceU b 0 n 2,.int .i64 ((n:Nat):Int),.int .i64 ((n:Nat):Int)]=some (.slice b 0 n n):=by
     simp only[aP,aslice,beq_tt (rfl:2=2),(Nat.blt_eq ..).mpr (show 0<2 by omega),Bool.and_self,cond_true,q n n (Nat.le_refl _),Option.map_some,Option.bind_some,Option.getD_some];cases Nat.beq n 0<;>simp
   refine does_fn g79 rfl ?_;simp(maxSteps:=1000000) (disch:=omega) only[fn79,evs,↓reduceIte,Nat.reduceEqDiff,Nat.reduceAdd,Nat.reduceMul,Nat.reduceLeDiff,Nat.reduceLT,Int.reduceNeg,DF,eff,Nat.reduceSub,fwrap_i64,x];exact⟨hl,.inr ⟨b,hb,rfl,o⟩⟩
/-- a node is copied -/
def CpE(a:Nd):Prop:=∀{h:Heap},WF h→NdH h a→Does go 50 [.agg a.cells,.bool false] h fun u h'=>∃b:Nd,u=.agg b.cells∧b.ct=a.ct.strip∧Stab (fun x=>h.next≤x) h' (fun h=>NdH h b)∧Fr [] h h'
def CpL:NT→Prop
  |.nil=>True
  |.cons k tg ky at' tx va vc sub nx=>CpE ⟨k,tg,ky,at',tx,va,vc,sub⟩∧CpL nx
theorem CpL.at':∀{t:NT}(i:Nat),CpL t→CpL (t.at' i)
  |.nil,0,_=>trivial
  |.nil,_+1,_=>trivial
  |.cons _ _ _ _ _ _ _ _ _,0,a=>a
  |.cons _ _ _ _ _ _ _ _ _,i+1,⟨_,g⟩=>CpL.at' i g
abbrev z6:List V:=[.int .u8 0,.str [],.str [],.nils,.str [],.nils]
theorem repL_drop6(m:Nat):(repL z6 (m+1)).drop 6=repL z6 m:=by rw[repL_succ];rfl
theorem copied_any{a:Nd}(C:CpL a.sub):CpE a:=by
  intro h w hx;obtain⟨k,tg,ky,at',tx,va,vc,sub⟩:=a;obtain⟨hk,ra,na,rc,nc,ns,_⟩:=hx;simp only[Nd.cells,Nd.ct]at *;obtain⟨h1,e_h1⟩:∃h1,h1=halloc h [.int .u8 (k:Int),.str tg,.str ky,va,.str tx,vc]:=⟨_,rfl⟩;have F_h1:Fr [] h h1:=e_h1▸Fr.halloc w _;have o_h1:Own h1 h.next [.int .u8 (k:Int),.str tg,.str ky,va,.str tx,vc]:=e_h1▸Own.new w _;obtain⟨h2,e_h2⟩:∃h2,h2=halloc h1 [.int .u8 0,.str [],.str [],.nils,.str [],.nils]:=⟨_,rfl⟩;have F_h2:Fr [] h1 h2:=e_h2▸Fr.halloc F_h1.wf _;have o_h2:Own h2 h1.next [.int .u8 0,.str [],.str [],.nils,.str [],.nils]:=e_h2▸Own.new F_h1.wf _;have n1:=hnx e_h1;have n2:=hnx e_h2;have F02:=F_h1.then F_h2;refine does_fn g50 rfl ?_;simp(maxSteps:=1000000) (disch:=omega) only[fn50,evs,↓reduceIte,Nat.reduceEqDiff,Nat.reduceAdd,Nat.reduceMul,Nat.reduceLeDiff,Nat.reduceLT,Int.reduceNeg,DF,eff,Nat.reduceSub,fwrap_i64,←e_h1,←e_h2];refine store_step (c':=[.int .u8 (k:Int),.str tg,.str [],va,.str tx,vc]) F_h2.wf (F_h2.get o_h1) rfl rfl rfl ?_;intro h3 o3 F3 n3;have F23:Fr [] h h3:=F02.fresh F3 w (Nat.le_refl _);have oz3:=F3.own _ _ (by simp;omega) o_h2;have l3:hload1 h3 h.next 3=some va:=o3.ld1 3;simp(maxSteps:=1000000) (disch:=omega) only[evs,↓reduceIte,Nat.reduceEqDiff,Nat.reduceAdd,Nat.reduceMul,Nat.reduceLeDiff,Nat.reduceLT,Int.reduceNeg,DF,eff,Nat.reduceSub,fwrap_i64,l3];refine OQ_does (clone_ok F3.wf (Sl.a (Recs.fr ra F23)) (by omega)) ?_;rintro v1 h4 ⟨g4,F4⟩;simp(maxSteps:=1000000) (disch:=omega) only[evs,↓reduceIte,Nat.reduceEqDiff,Nat.reduceAdd,Nat.reduceMul,Nat.reduceLeDiff,Nat.reduceLT,Int.reduceNeg,DF,eff,Nat.reduceSub,fwrap_i64];refine OQ_does (clip_ok g4) ?_;rintro v2 _ ⟨g5,rfl⟩;have one2:=g5.one;simp(maxSteps:=1000000) (disch:=omega) only[evs,↓reduceIte,Nat.reduceEqDiff,Nat.reduceAdd,Nat.reduceMul,Nat.reduceLeDiff,Nat.reduceLT,Int.reduceNeg,DF,eff,Nat.reduceSub,fwrap_i64,cells_one one2];refine store_step (c':=[.int .u8 (k:Int),.str tg,.str [],v2,.str tx,vc]) F4.wf (F4.get o3) (by rw[cells_one one2];rfl) (by rw[cells_one one2];simp[onesB_cons,onesB_nil,one2]) (by rw[cells_one one2];rfl) ?_;intro h5 o5 F5 n5;have nn4:=F4.next;have F05:Fr [] h h5:=(F23.then F4).fresh F5 w (Nat.le_refl _);have oz5:=F5.own _ _ (by simp;omega) (F4.get oz3);have S5:Stab (fun x=>h.next+2≤x∧x<h5.next) h5 fun h=>Recs attC 2 h v2 at':=
    ((Stab.cpg F4.wf g5 (P:=fun x=>h.next+2≤x∧x<h5.next) fun x m l=>⟨by omega,by omega⟩).imp fun h q=>q.sl).fr F4.wf F5 (by intro x m;rw[List.mem_singleton.1 m];exact .inl fun p=>by omega)
  have l5:hload1 h5 h.next 5=some vc:=o5.ld1 5;simp(maxSteps:=1000000) (disch:=omega) only[evs,↓reduceIte,Nat.reduceEqDiff,Nat.reduceAdd,Nat.reduceMul,Nat.reduceLeDiff,Nat.reduceLT,Int.reduceNeg,DF,eff,Nat.reduceSub,fwrap_i64,l5,(rc.fr F05).len];refine(amake_ok h5 z6 104 .i64 .i64 (sub.len:Int) (sub.len:Int) _ (by omega) (by omega) (by omega) (by omega)).2 ?_;simp only[Int.toNat_natCast];obtain⟨h6,e6⟩:∃h6,h6=halloc h5 (repL z6 sub.len):=⟨_,rfl⟩;have F6:Fr [] h5 h6:=e6▸Fr.halloc F5.wf _;have o6:Own h6 h5.next (repL z6 sub.len):=e6▸Own.new F5.wf _;have n6:=hnx e6;have F06:=F05.then F6;have l6:hload1 h6 h.next 5=some vc:=(F6.get o5).ld1 5;simp(maxSteps:=1000000) (disch:=omega) only[evs,↓reduceIte,Nat.reduceEqDiff,Nat.reduceAdd,Nat.reduceMul,Nat.reduceLeDiff,Nat.reduceLT,Int.reduceNeg,DF,eff,Nat.reduceSub,fwrap_i64,←e6,l6,(rc.fr F06).len];refine W_loop (fun n env hh=>Fr [] h hh∧h6.next≤hh.next∧Own hh h.next [.int .u8 (k:Int),.str tg,.str [],v2,.str tx,vc]∧Own hh h1.next z6∧Stab (fun x=>h.next+2≤x∧x<h5.next) hh (fun h=>Recs attC 2 h v2 at')∧
      ∃(i:Nat)(d:NT),env.get 23=some (.int .i64 i)∧env.get 22=some (.int .i64 sub.len)∧env.get 21=some vc∧env.get 5=some (.slice h5.next 0 sub.len sub.len)∧env.get 1=some (.bool false)∧env.get 2=some (.ptr h.next 0)∧env.get 4=some (.ptr h1.next 0)∧
      i≤sub.len∧d.len=i∧Own hh h5.next (d.cells++repL z6 (sub.len-i))∧Stab (fun x=>h5.next<x) hh (fun h=>NH h d)∧d.ct.app (sub.at' i).ct.strip=sub.ct.strip∧n=sub.len-i) sub.len (by omega) ?_ ?_
  ·exact⟨F06,Nat.le_refl _,F6.get o5,F6.get oz5,S5.fr0 F5.wf F6,0,.nil,(by simp[T.get_set]),(by simp[T.get_set]),(by simp[T.get_set]),(by simp[T.get_set]),(by simp[T.get_set]),(by simp[T.get_set]),(by simp[T.get_set]),by omega,rfl,o6,Stab.const trivial,by cases sub<;>rfl,rfl⟩
  ·rintro n env hh ⟨F,hn,ob,oz,Sa,i,d,g23,g22,g21,g5,g1,g2,g4,hi,dl,od,Sd,e,rfl⟩;have dc:=d.cells_len;rw[dl]at dc;by_cases c:i<sub.len
   ·obtain⟨x,nx,e1,e2,e3⟩:=sub.nd i c;obtain⟨b1,o1,p1,p2⟩:=(rc.fr F).ix6 c e2;have hx:=(ns.fr F).nd e1;obtain⟨h7,e_h7⟩:∃h7,h7=halloc hh [.int .u8 0,.str [],.str [],.nils,.str [],.nils]:=⟨_,rfl⟩;have F_h7:Fr [] hh h7:=e_h7▸Fr.halloc F.wf _;have o_h7:Own h7 hh.next [.int .u8 0,.str [],.str [],.nils,.str [],.nils]:=e_h7▸Own.new F.wf _;simp(maxSteps:=1000000) (disch:=omega) only[evs,↓reduceIte,Nat.reduceEqDiff,Nat.reduceAdd,Nat.reduceMul,Nat.reduceLeDiff,Nat.reduceLT,Int.reduceNeg,DF,eff,Nat.reduceSub,fwrap_i64,g23,g22,g21,g5,g1,g2,g4,show(i:Int)<sub.len by omega,p1,p2.2.2.2.2.2.2,←e_h7];refine store_step (c':=x.cells) F_h7.wf o_h7 rfl hx.one rfl ?_;intro h8 q8 F8 n8;have F78:Fr [] hh h8:=F_h7.fresh F8 F.wf (Nat.le_refl _);have lx:hload h8 hh.next 0 6=some x.cells:=by rw[q8.ld];rfl
    have Cx:=C.at' i;rw[e1]at Cx;simp(maxSteps:=1000000) (disch:=omega) only[evs,↓reduceIte,Nat.reduceEqDiff,Nat.reduceAdd,Nat.reduceMul,Nat.reduceLeDiff,Nat.reduceLT,Int.reduceNeg,DF,eff,Nat.reduceSub,fwrap_i64,g23,g22,g21,g5,g1,g2,g4,lx];refine OQ_does (Cx.1 F78.wf (NdH.fr hx F78)) ?_;rintro _ h9 ⟨y,rfl,ey,Sy,F9⟩;have F79:=F78.then F9;have hy:=Sy.now F9.wf;have ix:aP (.ixs 6) [.slice h5.next 0 sub.len sub.len,.int .i64 (i:Int)]=some (.ptr h5.next (i*6)):=by
      rw[aP_ixS _ _ _ _ _ _ _ (by omega) (by omega)];simp
    simp(maxSteps:=1000000) (disch:=omega) only[evs,↓reduceIte,Nat.reduceEqDiff,Nat.reduceAdd,Nat.reduceMul,Nat.reduceLeDiff,Nat.reduceLT,Int.reduceNeg,DF,eff,Nat.reduceSub,fwrap_i64,g23,g22,g21,g5,g1,g2,g4,ix];have eC:updO (d.cells++repL z6 (sub.len-i)) (i*6) y.cells=some ((d.app (.cons y.k y.tg y.ky y.at' y.tx y.va y.vc y.sub .nil)).cells++repL z6 (sub.len-(i+1))):=by
      have yl:y.cells.length=6:=rfl;obtain⟨m,hm⟩:∃m,sub.len-i=m+1:=⟨sub.len-i-1,by omega⟩;rw[hm,updO_at _ _ _ (by rw[List.length_append,dc,repL_succ,List.length_append,yl];simp),NT.app_cells,←dc,List.take_left,List.drop_length_add_append,yl,repL_drop6,show sub.len-(i+1)=m by omega];simp[NT.cells,Nd.cells]
    refine store_step F9.wf (F79.get od) rfl hy.one eC ?_;intro h10 q10 F10 n10;have nn9:=F9.next;have nh:=F.next;have nn8:=F78.next;have F710:Fr [h5.next] hh h10:=F79.trans F10 F.wf (by simp) (fun x m=>.inl m);have F0:Fr [] h h10:=F.trans F710 w (by simp) (fun x m=>.inr (by rw[List.mem_singleton.1 m];omega));have Sd':Stab (fun x=>h5.next<x) h10 fun h=>NH h (d.app (.cons y.k y.tg y.ky y.at' y.tx y.va y.vc y.sub .nil)):=
      ((Sd.fr F.wf F710 (by intro x m;rw[List.mem_singleton.1 m];exact .inl fun p=>by omega)).and
        ((Sy.wk (Q:=fun x=>h5.next<x) fun x _ p=>by omega).fr F9.wf F10 (by intro x m;rw[List.mem_singleton.1 m];exact .inl fun p=>by omega))).imp fun h q=>NH.app q.1 q.2
    rw[e1]at e;simp(maxSteps:=1000000) (disch:=omega) only[evs,↓reduceIte,Nat.reduceEqDiff,Nat.reduceAdd,Nat.reduceMul,Nat.reduceLeDiff,Nat.reduceLT,Int.reduceNeg,DF,eff,Nat.reduceSub,fwrap_i64,g23,g22,g21,g5,g1,g2,g4];refine(roundQ_norm _ _ _).2 ⟨sub.len-(i+1),by omega,F0,by omega,F710.own _ _ (by simp;omega) ob,F710.own _ _ (by simp;omega) oz,Sa.fr F.wf F710 (by intro x m;rw[List.mem_singleton.1 m];exact .inl fun p=>by omega),i+1,_,(by simp[T.get_set]),(by simp[T.get_set,g22]),(by simp[T.get_set,g21]),(by simp[T.get_set,g5]),(by simp[T.get_set,g1]),(by simp[T.get_set,g2]),(by simp[T.get_set,g4]),by omega,by rw[NT.app_one_len,dl],q10,Sd',?_,rfl⟩;have ey':(CT.cons y.k y.tg y.ky y.at' y.tx y.sub.ct .nil)=.cons x.k x.tg [] x.at' x.tx x.sub.ct.strip .nil:=ey;simp only[CT.cons.injEq]at ey';obtain⟨f1,f2,f3,f4,f5,f6,_⟩:=ey';rw[NT.app_one_ct,f1,f2,f3,f4,f5,f6,e3];exact e
   ·have hi':i=sub.len:=by omega
    subst hi';rw[Nat.sub_self,repL_zero,List.append_nil]at od;rw[NT.at_end _ _ (Nat.le_refl _)]at e;have e:d.ct=sub.ct.strip:=by rw[←e];exact(CT.app_nil _).symm
    simp(maxSteps:=1000000) (disch:=omega) only[evs,↓reduceIte,Nat.reduceEqDiff,Nat.reduceAdd,Nat.reduceMul,Nat.reduceLeDiff,Nat.reduceLT,Int.reduceNeg,DF,eff,Nat.reduceSub,fwrap_i64,g23,g22,g21,g5,g1,g2,g4,show¬(sub.len:Int)<sub.len by omega];have cs:V.cells (.slice h5.next 0 sub.len sub.len)=[.slice h5.next 0 sub.len sub.len]:=rfl;refine store_step (c':=[.int .u8 (k:Int),.str tg,.str [],v2,.str tx,.slice h5.next 0 sub.len sub.len]) F.wf ob rfl rfl rfl ?_;intro h7 q7 F7 n7;have lx:hload h7 h.next 0 6=some [.int .u8 (k:Int),.str tg,.str [],v2,.str tx,.slice h5.next 0 sub.len sub.len]:=by rw[q7.ld];rfl
    simp(maxSteps:=1000000) (disch:=omega) only[evs,↓reduceIte,Nat.reduceEqDiff,Nat.reduceAdd,Nat.reduceMul,Nat.reduceLeDiff,Nat.reduceLT,Int.reduceNeg,DF,eff,Nat.reduceSub,fwrap_i64,g23,g22,g21,g5,g1,g2,g4,lx];refine store_step (c':=[.int .u8 (k:Int),.str tg,.str [],v2,.str tx,.slice h5.next 0 sub.len sub.len]) F7.wf (F7.own _ _ (by simp;omega) oz) rfl (by simp only[V.cells,onesB_cons,onesB_nil,one2];rfl) rfl ?_;intro h8 q8 F8 n8;have ly:hload h8 h1.next 0 6=some [.int .u8 (k:Int),.str tg,.str [],v2,.str tx,.slice h5.next 0 sub.len sub.len]:=by rw[q8.ld];rfl
    simp(maxSteps:=1000000) (disch:=omega) only[evs,↓reduceIte,Nat.reduceEqDiff,Nat.reduceAdd,Nat.reduceMul,Nat.reduceLeDiff,Nat.reduceLT,Int.reduceNeg,DF,eff,Nat.reduceSub,fwrap_i64,g2,g4,ly];have F78:Fr [h.next,h1.next] hh h8:=F7.trans F8 F.wf (fun x m=>.inl (by simp at m;simp[m])) (fun x m=>.inl (by simp at m;simp[m]));have no:∀x∈[h.next,h1.next],x<h.next+2:=by simp;omega
    have nn:=F.next;refine⟨⟨k,tg,[],at',tx,v2,.slice h5.next 0 sub.len sub.len,d⟩,rfl,by simp only[e,CT.strip],?_,F.trans F78 w (by simp) (fun x m=>.inr (by simp at m;omega))⟩;have A1:=(Sa.fr F.wf F78 fun x m=>.inl fun p=>by have:=no x m;omega).wk (Q:=fun x=>h.next≤x) fun x _ p=>by omega
    have A2:=(Sd.fr F.wf F78 fun x m=>.inl fun p=>by have:=no x m;omega).wk (Q:=fun x=>h.next≤x) fun x _ p=>by omega
    have A3:=((Stab.own F.wf od (P:=fun x=>x=h5.next) rfl).fr F.wf F78 fun x m=>.inl fun p=>by have:=no x m;omega).wk (Q:=fun x=>h.next≤x) fun x _ p=>by omega
    refine((A1.and A2).and A3).imp ?_;rintro h9 ⟨⟨r1,r2⟩,r3⟩;refine⟨hk,r1,na,⟨by rw[d.cells_len],dl.symm,Nat.le_of_eq dl,d.cells,r3,by show 0+d.len*6≤d.cells.length;rw[d.cells_len];omega,by rw[List.drop_zero,List.take_of_length_le (by show d.cells.length≤d.len*6;rw[d.cells_len];omega)]⟩,(by show d.len≤4096;omega),r2,trivial⟩
theorem cpL_all:∀t:NT,CpL t
  |.nil=>trivial
  |.cons k tg ky at' tx va vc sub nx=>⟨copied_any (a:=⟨k,tg,ky,at',tx,va,vc,sub⟩) (cpL_all sub),cpL_all nx⟩
theorem copied_ok(a:Nd):CpE a:=copied_any (cpL_all _)
theorem Good.strip{t:CT}(g:Good t):Good t.strip:=⟨CT.strip_good t 1 g.1,by rw[CT.strip_size];exact g.2⟩
theorem strip_ok{h:Heap}{a:Nd}(w:WF h)(ha:NdH h a)(g:Good a.ct):Does go 31 [.agg a.cells] h fun u h'=>∃b:Nd,u=.agg b.cells∧b.ct=a.ct.strip∧Stab (fun x=>h.next≤x) h' (fun h=>NdH h b)∧Fr [] h h':=by
  obtain⟨h1,e_h1⟩:∃h1,h1=halloc h a.cells:=⟨_,rfl⟩;have F_h1:Fr [] h h1:=e_h1▸Fr.halloc w _;have o_h1:Own h1 h.next a.cells:=e_h1▸Own.new w _;obtain⟨h2,e_h2⟩:∃h2,h2=halloc h1 [.int .u8 0,.str [],.str [],.nils,.str [],.nils]:=⟨_,rfl⟩;have F_h2:Fr [] h1 h2:=e_h2▸Fr.halloc F_h1.wf _;have o_h2:Own h2 h1.next [.int .u8 0,.str [],.str [],.nils,.str [],.nils]:=e_h2▸Own.new F_h1.wf _;have n1:=hnx e_h1;have n2:=hnx e_h2;have F2:=F_h1.then F_h2;have l1:hload h2 h.next 0 6=some a.cells:=by rw[(F_h2.get o_h1).ld];rfl
  refine does_fn g31 rfl ?_;simp(maxSteps:=1000000) (disch:=omega) only[fn31,evs,↓reduceIte,Nat.reduceEqDiff,Nat.reduceAdd,Nat.reduceMul,Nat.reduceLeDiff,Nat.reduceLT,Int.reduceNeg,DF,eff,Nat.reduceSub,fwrap_i64,←e_h1,←e_h2,l1];refine OQ_does (check_ok F2.wf (ha.fr F2) g) ?_;rintro _ h3 ⟨rfl,F3⟩;have l3:hload h3 h.next 0 6=some a.cells:=by rw[(F3.get (F_h2.get o_h1)).ld];rfl
  have F03:=F2.then F3;have nn3:=F3.next;simp(maxSteps:=1000000) (disch:=omega) only[evs,↓reduceIte,Nat.reduceEqDiff,Nat.reduceAdd,Nat.reduceMul,Nat.reduceLeDiff,Nat.reduceLT,Int.reduceNeg,DF,eff,Nat.reduceSub,fwrap_i64,l3];refine OQ_does (copied_ok a F03.wf (ha.fr F03)) ?_;rintro _ h4 ⟨b,rfl,eb,Sb,F4⟩;simp(maxSteps:=1000000) (disch:=omega) only[evs,↓reduceIte,Nat.reduceEqDiff,Nat.reduceAdd,Nat.reduceMul,Nat.reduceLeDiff,Nat.reduceLT,Int.reduceNeg,DF,eff,Nat.reduceSub,fwrap_i64];refine store_step (c':=b.cells) F4.wf (F4.get (F3.get o_h2)) rfl (Sb.now F4.wf).one rfl ?_;intro h5 o5 F5 n5;have l5:hload h5 h1.next 0 6=some b.cells:=by rw[o5.ld];rfl
  simp(maxSteps:=1000000) (disch:=omega) only[evs,↓reduceIte,Nat.reduceEqDiff,Nat.reduceAdd,Nat.reduceMul,Nat.reduceLeDiff,Nat.reduceLT,Int.reduceNeg,DF,eff,Nat.reduceSub,fwrap_i64,l5];refine⟨b,rfl,eb,(Sb.fr F4.wf F5 (by intro x m;rw[List.mem_singleton.1 m];exact .inl fun p=>by omega)).wk fun x _ p=>by have:=F03.next;omega,(F03.then F4).fresh F5 w (by omega)⟩
def oT:IC:=(.seq (.ops [⟨none,.p (.faddr 2) [.v 1],none⟩,⟨none,.ld 1 false (.l 0),none⟩,⟨none,.cf 53 [.l 0,.c (.int .i64 0),.c (.int .i64 2)],none⟩,⟨none,.p (.ext 0) [.l 0],none⟩,⟨none,.p (.ext 1) [.l 1],none⟩,⟨none,.p (.faddr 5) [.v 3],none⟩,⟨none,.st 1 (.l 0) (.l 2),none⟩]) (.seq (.ops [⟨none,.ld 6 true (.v 3),none⟩,⟨none,.st 6 (.v 2) (.l 0),none⟩]) (.ret)))
def fn32x:IFn:=⟨1,.seq (.ops [⟨none,.bx (.v 0),some 1⟩,⟨none,.al [(.int .u8 0),(.str []),(.str []),.nils,(.str []),.nils],some 2⟩]) (.seq (.dops [⟨none,.p (.faddr 0) [.v 1],none⟩,⟨none,.ld 1 false (.l 0),none⟩,⟨none,.cf 51 [.l 0],none⟩,⟨none,.p (.faddr 1) [.v 1],none⟩,⟨none,.ld 1 false (.l 0),none⟩,⟨none,.cf 52 [.l 0],none⟩,⟨none,.p (.build [(.int .u8 0),(.str []),(.str []),.nils,(.str []),.nils] [(0,1),(1,1),(3,1)]) [.c (.int .u8 1),.l 3,.l 0],none⟩,⟨none,.al [(.int .u8 0),(.str []),(.str []),.nils,(.str []),.nils],none⟩,⟨none,.st 6 (.l 0) (.l 1),none⟩] [7] [0,1,3,0,8,31,63,0,255] [0,1,2,3,4,5,6,7,8] [(1,0,0),(4,0,1)] [(3,7)]) (.seq (.seq (.ops [⟨none,.p (.faddr 1) [.v 1],none⟩,⟨none,.ld 1 false (.l 0),none⟩,⟨none,.p (.ib .rem) [.l 0,.c (.int .u8 3)],none⟩,⟨none,.p (.ib .eql) [.l 0,.c (.int .u8 1)],some 14⟩]) (.cond (.v 14) (.ops [⟨none,.p (.faddr 2) [.v 3],none⟩,⟨none,.st 1 (.l 0) (.c (.str [114,111,111,116])),none⟩]) (.skip))) oT)),[.c 2 6 true],[0,1,2,3,14]⟩
theorem g32x:F.get 32=some fn32x:=rfl
set_option maxRecDepth 4000
/-- a tree as plain data -/
structure Dn where
  tag:Nat
  key:Nat
  vc:V
  code:List Nat
def Dn.cells(x:Dn):List V:=[.int .u8 (x.tag:Int),.int .u8 (x.key:Int),x.vc]
def Dn.c(x:Dn):CT:=drawC x.tag x.key x.code
structure DnH(h:Heap)(x:Dn):Prop where
  k:x.key<256
  c:∀c∈x.code,c<256
  n:x.code.length<281474976710656
  r:RO h x.vc x.code
theorem DnH.fr{h h':Heap}{x:Dn}{X:List Nat}(a:DnH h x)(w:WF h)(f:Fr X h h'):DnH h' x:=⟨a.k,a.c,a.n,a.r.fr w f⟩
theorem DnH.one{h:Heap}{x:Dn}(a:DnH h x)(w:WF h):x.vc.one=true:=(Stab.now a.r w).one
theorem Dn.good{h:Heap}{x:Dn}(a:DnH h x):Good x.c:=by
  have:=draw_good (tag:=x.tag) a.k a.c;exact⟨this.1,by simp only[Dn.c,drawC,CT.size];omega⟩
theorem oT_ok{h0 hh:Heap}{env:T V}{b1 b2 b3 tag key:Nat}{ky:Str}{code:List Nat}{va vcode:V}{R:V→Heap→Prop}(w:WF h0)(F:Fr [] h0 hh)(n1:h0.next≤b1)(n2:h0.next≤b2)(n3:b2<b3)(nb:b1≠b2)(nb':b1≠b3)(l3:b3<hh.next)
    (o1:Own hh b1 [.int .u8 (tag:Int),.int .u8 (key:Int),vcode]) (o2:Own hh b2 z6) (o3:Own hh b3 [.int .u8 1,.str (tagL tag),.str ky,va,.str [],.nils])
    (Sa:Stab (fun x=>b3<x) hh fun h=>Recs attC 2 h va (attU key 3)) (one5:va.one=true) (ek:ky=if key%3=1 then rootL else[]) (hc:∀c∈code,c<256) (hn:code.length<281474976710656) (ro:RO hh vcode code)
    (g1:env.get 1=some (.ptr b1 0)) (g2:env.get 2=some (.ptr b2 0)) (g3:env.get 3=some (.ptr b3 0))
    (k:∀(b:Nd) h',b.ct=drawC tag key code→NdH h' b→Fr [] h0 h'→R (.agg b.cells) h'):W go oT env hh (RetQ [.c 2 6 true] R):=by
  have l2:hload1 hh b1 2=some vcode:=o1.ld1 2;simp(maxSteps:=1000000) (disch:=omega) only[evs,↓reduceIte,Nat.reduceEqDiff,Nat.reduceAdd,Nat.reduceMul,Nat.reduceLeDiff,Nat.reduceLT,Int.reduceNeg,DF,eff,Nat.reduceSub,fwrap_i64,oT,g1,g2,g3,l2];refine OQ_does (build_any 19 (a:=0) (lv:=2) 20 (by simp[rs];omega) F.wf ro hc hn (by simp[rs];omega) (by omega) (by omega)) ?_;rintro _ h7 ⟨sub,vs,a2,rfl,Gs7,Ss,L7,e1,_,_,F7⟩;have ones:vs.one=true:=Gs7.one;simp(maxSteps:=1000000) (disch:=omega) only[evs,↓reduceIte,Nat.reduceEqDiff,Nat.reduceAdd,Nat.reduceMul,Nat.reduceLeDiff,Nat.reduceLT,Int.reduceNeg,DF,eff,Nat.reduceSub,fwrap_i64,g1,g2,g3];refine store_step (c':=[.int .u8 1,.str (tagL tag),.str ky,va,.str [],vs]) F7.wf (F7.get o3) (by rw[cells_one ones];rfl) (by rw[cells_one ones];simp[onesB_cons,onesB_nil,ones]) (by rw[cells_one ones];rfl) ?_;intro h8 o8 F8 n8;have lx:hload h8 b3 0 6=some [.int .u8 1,.str (tagL tag),.str ky,va,.str [],vs]:=by rw[o8.ld];rfl
  have nn7:=F7.next;simp(maxSteps:=1000000) (disch:=omega) only[evs,↓reduceIte,Nat.reduceEqDiff,Nat.reduceAdd,Nat.reduceMul,Nat.reduceLeDiff,Nat.reduceLT,Int.reduceNeg,DF,eff,Nat.reduceSub,fwrap_i64,g1,g2,g3,lx];refine store_step (c':=[.int .u8 1,.str (tagL tag),.str ky,va,.str [],vs]) F8.wf (F8.own _ _ (by simp;omega) (F7.get o2)) rfl (by simp only[V.cells,onesB_cons,onesB_nil,one5,ones];rfl) rfl ?_;intro h9 o9 F9 n9;have ly:hload h9 b2 0 6=some [.int .u8 1,.str (tagL tag),.str ky,va,.str [],vs]:=by rw[o9.ld];rfl
  simp(maxSteps:=1000000) (disch:=omega) only[evs,↓reduceIte,Nat.reduceEqDiff,Nat.reduceAdd,Nat.reduceMul,Nat.reduceLeDiff,Nat.reduceLT,Int.reduceNeg,DF,eff,Nat.reduceSub,fwrap_i64,g1,g2,g3,ly];have F79:Fr [b2,b3] h7 h9:=F8.trans F9 F7.wf (fun x m=>.inl (by simp at m;simp[m])) (fun x m=>.inl (by simp at m;simp[m]));have Fh9:Fr [b2,b3] hh h9:=F7.trans F79 F.wf (by simp) (fun x m=>.inl m);have no:∀x∈[b2,b3],x≤b3∧h0.next≤x:=by simp;omega
  have A1:=(Sa.fr F.wf Fh9 fun x m=>.inl fun p=>by have:=(no x m).1;omega).now F9.wf;have A2:=((Stab.gs F7.wf Gs7 (P:=fun x=>hh.next≤x) fun x m=>Gs7.ge x m).fr F7.wf F79 fun x m=>.inl fun p=>by have:=(no x m).1;omega).now F9.wf;have A3:=(Ss.fr F7.wf F79 fun x m=>.inl fun p=>by have:=(no x m).1;omega).now F9.wf;refine k ⟨1,tagL tag,ky,attU key 3,[],va,vs,sub⟩ h9 ?_ ⟨(by decide:1<256),A1,(by have:=attU_len key 3;show(attU key 3).length≤4096;omega),A2.sl sub.cells_len (by omega),(by show sub.len≤4096;omega),A3,trivial⟩ ((F.then F7).trans F79 w (by simp) (fun x m=>.inr (no x m).2));simp only[drawC,Nd.ct,ek,e1];rfl
theorem tree_ok{h:Heap}{x:Dn}(w:WF h)(a:DnH h x):Does go 32 [.agg x.cells] h fun u h'=>∃b:Nd,u=.agg b.cells∧b.ct=x.c∧NdH h' b∧Fr [] h h':=by
  obtain⟨tag,key,vcode,code⟩:=x;have onec:=a.one w;obtain⟨hk,hc,hn,ro⟩:=a;simp only[Dn.cells,Dn.c]at *;obtain⟨h1,e_h1⟩:∃h1,h1=halloc h [.int .u8 (tag:Int),.int .u8 (key:Int),vcode]:=⟨_,rfl⟩;have F_h1:Fr [] h h1:=e_h1▸Fr.halloc w _;have o_h1:Own h1 h.next [.int .u8 (tag:Int),.int .u8 (key:Int),vcode]:=e_h1▸Own.new w _;obtain⟨h2,e_h2⟩:∃h2,h2=halloc h1 [.int .u8 0,.str [],.str [],.nils,.str [],.nils]:=⟨_,rfl⟩;have F_h2:Fr [] h1 h2:=e_h2▸Fr.halloc F_h1.wf _;have o_h2:Own h2 h1.next [.int .u8 0,.str [],.str [],.nils,.str [],.nils]:=e_h2▸Own.new F_h1.wf _;have n1:=hnx e_h1;have n2:=hnx e_h2;refine does_fn g32x rfl ?_;simp(maxSteps:=1000000) (disch:=omega) only[evs,↓reduceIte,Nat.reduceEqDiff,Nat.reduceAdd,Nat.reduceMul,Nat.reduceLeDiff,Nat.reduceLT,Int.reduceNeg,DF,eff,Nat.reduceSub,fwrap_i64,fn32x,←e_h1,←e_h2];refine W_dal [⟨none,.p (.faddr 0) [.v 1],none⟩,⟨none,.ld 1 false (.l 0),none⟩,⟨none,.cf 51 [.l 0],none⟩,⟨none,.p (.faddr 1) [.v 1],none⟩,⟨none,.ld 1 false (.l 0),none⟩,⟨none,.cf 52 [.l 0],none⟩,⟨none,.p (.build [(.int .u8 0),(.str []),(.str []),.nils,(.str []),.nils] [(0,1),(1,1),(3,1)]) [.c (.int .u8 1),.l 3,.l 0],none⟩] _ rfl ?_;have F3:=Fr.halloc F_h2.wf z6;have o3:=Own.new F_h2.wf z6;have n3:(halloc h2 z6).next=h2.next+1:=rfl;generalize halloc h2 z6=h3 at F3 o3 n3⊢;have F03:=(F_h1.then F_h2).then F3;have ob3:=F3.get (F_h2.get o_h1);have oz3:=F3.get o_h2;have t0:hload1 h3 h.next 0=some (.int .u8 (tag:Int)):=ob3.ld1 0;have t1:hload1 h3 h.next 1=some (.int .u8 (key:Int)):=ob3.ld1 1;simp(maxSteps:=1000000) (disch:=omega) only[evs,↓reduceIte,Nat.reduceEqDiff,Nat.reduceAdd,Nat.reduceMul,Nat.reduceLeDiff,Nat.reduceLT,Int.reduceNeg,DF,eff,Nat.reduceSub,fwrap_i64,t0];refine OQ_does (tag_ok F3.wf) ?_;rintro _ h4 ⟨rfl,F4⟩;have t14:hload1 h4 h.next 1=some (.int .u8 (key:Int)):=(F4.get ob3).ld1 1;simp(maxSteps:=1000000) (disch:=omega) only[evs,↓reduceIte,Nat.reduceEqDiff,Nat.reduceAdd,Nat.reduceMul,Nat.reduceLeDiff,Nat.reduceLT,Int.reduceNeg,DF,eff,Nat.reduceSub,fwrap_i64,t0,t1,t14];refine OQ_does (attrs_ok F4.wf hk) ?_;rintro va h5 ⟨Ga,F5⟩;have F35:=F4.then F5;have one5:va.one=true:=Ga.one;have ob5:=F35.get ob3;have oz5:=F35.get oz3;have nn4:=F4.next;simp(maxSteps:=1000000) (disch:=omega) only[evs,↓reduceIte,Nat.reduceEqDiff,Nat.reduceAdd,Nat.reduceMul,Nat.reduceLeDiff,Nat.reduceLT,Int.reduceNeg,DF,eff,Nat.reduceSub,fwrap_i64,t0,t1,t14,WD_late,late_al,cells_one one5];refine store_step (c':=[.int .u8 1,.str (tagL tag),.str [],va,.str [],.nils]) F5.wf (F35.get o3) rfl (by simp only[V.cells,onesB_cons,onesB_nil,one5];rfl) rfl ?_;intro h6 o6 F6 n6;have F06:Fr [] h h6:=(F03.then F35).fresh F6 w (by omega);have ob6:=F6.own _ _ (by simp;omega) ob5;have oz6:=F6.own _ _ (by simp;omega) oz5;have nn5:=F5.next;have Sa:Stab (fun x=>h2.next<x) h6 fun h=>Recs attC 2 h va (attU key 3):=
    ((Stab.gs F5.wf Ga (P:=fun x=>h2.next<x) fun x m=>by have:=Ga.ge x m;omega).imp fun h q=>Gs.sl q (attC_flat _) (by omega)).fr F5.wf F6 (by intro x m;rw[List.mem_singleton.1 m];exact .inl fun p=>by omega)
  have t16:hload1 h6 h.next 1=some (.int .u8 (key:Int)):=ob6.ld1 1;have r3:=rem_u8 key 3 3 rfl (by omega);simp(maxSteps:=1000000) (disch:=omega) only[evs,↓reduceIte,Nat.reduceEqDiff,Nat.reduceAdd,Nat.reduceMul,Nat.reduceLeDiff,Nat.reduceLT,Int.reduceNeg,DF,eff,Nat.reduceSub,fwrap_i64,t0,t1,t14,t16,r3];by_cases c:key%3=1
  ·simp(maxSteps:=1000000) (disch:=omega) only[evs,↓reduceIte,Nat.reduceEqDiff,Nat.reduceAdd,Nat.reduceMul,Nat.reduceLeDiff,Nat.reduceLT,Int.reduceNeg,DF,eff,Nat.reduceSub,fwrap_i64,eq_true (show((key%3:Nat):Int)=1 by omega)];refine store_step (c':=[.int .u8 1,.str (tagL tag),.str rootL,va,.str [],.nils]) F6.wf o6 rfl rfl rfl ?_;intro h7 o7 F7 n7;simp(maxSteps:=1000000) (disch:=omega) only[evs,↓reduceIte,Nat.reduceEqDiff,Nat.reduceAdd,Nat.reduceMul,Nat.reduceLeDiff,Nat.reduceLT,Int.reduceNeg,DF,eff,Nat.reduceSub,fwrap_i64];have F67:Fr [] h h7:=F06.trans F7 w (by simp) (fun x m=>.inr (by rw[List.mem_singleton.1 m];omega));refine oT_ok w F67 (Nat.le_refl _) (by omega) (by omega:h1.next<h2.next) (by omega) (by omega) (by omega) (F7.own _ _ (by simp;omega) ob6) (F7.own _ _ (by simp;omega) oz6) o7 (Sa.fr F06.wf F7 (by intro x m;rw[List.mem_singleton.1 m];exact .inl fun p=>by omega)) one5 (by rw[if_pos c]) hc hn (ro.fr w F67) (by simp[T.get_set]) (by simp[T.get_set]) (by simp[T.get_set]) ?_;exact fun b h' e1 e2 e3=>⟨b,rfl,e1,e2,e3⟩
  ·simp(maxSteps:=1000000) (disch:=omega) only[evs,↓reduceIte,Nat.reduceEqDiff,Nat.reduceAdd,Nat.reduceMul,Nat.reduceLeDiff,Nat.reduceLT,Int.reduceNeg,DF,eff,Nat.reduceSub,fwrap_i64,show¬((key%3:Nat):Int)=1 by omega];refine oT_ok w F06 (Nat.le_refl _) (by omega) (by omega:h1.next<h2.next) (by omega) (by omega) (by omega) ob6 oz6 o6 Sa one5 (by rw[if_neg c]) hc hn (ro.fr w F06) (by simp[T.get_set]) (by simp[T.get_set]) (by simp[T.get_set]) ?_;exact fun b h' e1 e2 e3=>⟨b,rfl,e1,e2,e3⟩
/-- a row as plain data -/
structure Dw where
  key:Int
  top:Int
  sz:Int
  nd:Dn
def Dw.cells(x:Dw):List V:=[.int .u64 x.key,.int .i64 x.top,.int .i64 x.sz,.int .u8 (x.nd.tag:Int),.int .u8 (x.nd.key:Int),x.nd.vc]
theorem Dw.len(x:Dw):x.cells.length=6:=rfl
def Dw.c(x:Dw):CR:=⟨x.key,x.top,x.sz,x.nd.c.strip⟩
def R64(a:Int):Prop:=-9223372036854775808≤a∧a≤9223372036854775807
/-- a row whose numbers are numbers, and whose tree is valid -/
def CR.ok(c:CR):Prop:=(0≤c.key∧c.key≤18446744073709551615)∧R64 c.top∧R64 c.sz∧Good c.t
def DwH(h:Heap)(x:Dw):Prop:=DnH h x.nd∧(0≤x.key∧x.key≤18446744073709551615)∧R64 x.top∧R64 x.sz
theorem DwH.fr{h h':Heap}{x:Dw}{X:List Nat}(a:DwH h x)(w:WF h)(f:Fr X h h'):DwH h' x:=⟨DnH.fr a.1 w f,a.2⟩
theorem DwH.ok{h:Heap}{x:Dw}(a:DwH h x):x.c.ok:=⟨a.2.1,a.2.2.1,a.2.2.2,(Dn.good a.1).strip⟩
theorem wOf_ok{h:Heap}{x:Dw}(w:WF h)(a:DwH h x):Does go 14 [.agg x.cells] h fun u h'=>∃r:Rw,u=.agg r.cells∧r.c=x.c∧Stab (fun y=>h.next≤y) h' (fun h=>RwH h r)∧Fr [] h h':=by
  have onec:=DnH.one a.1 w;obtain⟨h1,e_h1⟩:∃h1,h1=halloc h x.cells:=⟨_,rfl⟩;have F_h1:Fr [] h h1:=e_h1▸Fr.halloc w _;have o_h1:Own h1 h.next x.cells:=e_h1▸Own.new w _;obtain⟨h2,e_h2⟩:∃h2,h2=halloc h1 [.int .u64 0,.int .i64 0,.int .i64 0,.int .u8 0,.str [],.str [],.nils,.str [],.nils]:=⟨_,rfl⟩;have F_h2:Fr [] h1 h2:=e_h2▸Fr.halloc F_h1.wf _;have o_h2:Own h2 h1.next [.int .u64 0,.int .i64 0,.int .i64 0,.int .u8 0,.str [],.str [],.nils,.str [],.nils]:=e_h2▸Own.new F_h1.wf _;have n1:=hnx e_h1;have n2:=hnx e_h2;have F2:=F_h1.then F_h2;have o1:=F_h2.get o_h1;have lds:∀{h'},Fr [] h2 h'→hload1 h' h.next 0=some (.int .u64 x.key)∧hload1 h' h.next 1=some (.int .i64 x.top)∧hload1 h' h.next 2=some (.int .i64 x.sz)∧hload h' h.next 3 3=some x.nd.cells:=fun f=>by
    have o:=f.get o1;exact⟨o.ld1 0,o.ld1 1,o.ld1 2,by rw[o.ld];rfl⟩
  obtain⟨a0,a1,a2,a3⟩:=lds (Fr.refl F2.wf);refine does_fn g14 rfl ?_;simp(maxSteps:=1000000) (disch:=omega) only[fn14,evs,↓reduceIte,Nat.reduceEqDiff,Nat.reduceAdd,Nat.reduceMul,Nat.reduceLeDiff,Nat.reduceLT,Int.reduceNeg,DF,eff,Nat.reduceSub,fwrap_i64,←e_h1,←e_h2,a0,a1,a2,a3];refine OQ_does (tree_ok F2.wf (DnH.fr a.1 w F2)) ?_;rintro _ h3 ⟨t,rfl,et,ht,F3⟩;obtain⟨b0,b1,b2,b3⟩:=lds F3;simp(maxSteps:=1000000) (disch:=omega) only[evs,↓reduceIte,Nat.reduceEqDiff,Nat.reduceAdd,Nat.reduceMul,Nat.reduceLeDiff,Nat.reduceLT,Int.reduceNeg,DF,eff,Nat.reduceSub,fwrap_i64,a0,a1,a2,a3,b0,b1,b2,b3];refine OQ_does (strip_ok F3.wf ht (by rw[et];exact Dn.good a.1)) ?_;rintro _ h4 ⟨s,rfl,es,Ss,F4⟩;obtain⟨c0,c1,c2,c3⟩:=lds (F3.then F4);have F04:=(F2.then F3).then F4;have nn3:=(F2.then F3).next;have nn3b:=F3.next;have hs:=Ss.now F4.wf;simp(maxSteps:=1000000) (disch:=omega) only[evs,↓reduceIte,Nat.reduceEqDiff,Nat.reduceAdd,Nat.reduceMul,Nat.reduceLeDiff,Nat.reduceLT,Int.reduceNeg,DF,eff,Nat.reduceSub,fwrap_i64,a0,a1,a2,a3,b0,b1,b2,b3,c0,c1,c2,c3,show s.cells.length=6 from rfl,show updO [.int .u8 0,.str [],.str [],.nils,.str [],.nils] 0 s.cells=some s.cells from rfl];refine store_step (v:=.agg (⟨x.key,x.top,x.sz,s⟩:Rw).cells) (c':=(⟨x.key,x.top,x.sz,s⟩:Rw).cells) F4.wf ((F3.then F4).get o_h2) (by rfl) (by exact RwH.one (r:=⟨x.key,x.top,x.sz,s⟩) hs) (by rfl) ?_;intro h5 o5 F5 n5;have l5:hload h5 h1.next 0 9=some (⟨x.key,x.top,x.sz,s⟩:Rw).cells:=by rw[o5.ld];rfl
  simp(maxSteps:=1000000) (disch:=omega) only[evs,↓reduceIte,Nat.reduceEqDiff,Nat.reduceAdd,Nat.reduceMul,Nat.reduceLeDiff,Nat.reduceLT,Int.reduceNeg,DF,eff,Nat.reduceSub,fwrap_i64,a0,a1,a2,a3,b0,b1,b2,b3,c0,c1,c2,c3,show s.cells.length=6 from rfl,show updO [.int .u8 0,.str [],.str [],.nils,.str [],.nils] 0 s.cells=some s.cells from rfl,l5];refine⟨⟨x.key,x.top,x.sz,s⟩,rfl,by simp only[Rw.c,Dw.c,es,et],?_,F04.fresh F5 w (by omega)⟩;exact(Ss.fr F4.wf F5 (by intro x m;rw[List.mem_singleton.1 m];exact .inl fun p=>by omega)).wk fun y _ p=>by omega
def tT:IC:=(.seq (.seq (.ops [⟨none,.p (.faddr 2) [.v 1],none⟩,⟨none,.ld 1 false (.l 0),none⟩,⟨none,.p .lenS [.l 0],none⟩,⟨none,.p (.ib .gtr) [.l 0,.c (.int .i64 0)],some 33⟩]) (.cond (.v 33) (.seq (.ops [⟨none,.p (.faddr 2) [.v 3],none⟩,⟨none,.st 1 (.l 0) (.c (.bool true)),none⟩]) (.ops [⟨none,.p (.faddr 2) [.v 1],none⟩,⟨none,.ld 1 false (.l 0),none⟩,⟨none,.p (.ixs 6) [.l 0,.c (.int .i64 0)],none⟩,⟨none,.ld 6 true (.l 0),none⟩,⟨none,.cf 14 [.l 0],none⟩,⟨none,.p (.faddr 3) [.v 3],none⟩,⟨none,.st 9 (.l 0) (.l 1),none⟩])) (.skip))) (.seq (.ops [⟨none,.ld 12 true (.v 3),none⟩,⟨none,.st 12 (.v 2) (.l 0),none⟩]) (.ret)))
def fn9x:IFn:=⟨1,.seq (.ops [⟨none,.bx (.v 0),some 1⟩,⟨none,.al [(.int .i64 0),.nils,(.bool false),(.int .u64 0),(.int .i64 0),(.int .i64 0),(.int .u8 0),(.str []),(.str []),.nils,(.str []),.nils],some 2⟩]) (.seq (.ops [⟨none,.p (.faddr 0) [.v 1],none⟩,⟨none,.ld 1 false (.l 0),none⟩,⟨none,.p (.build [(.int .i64 0),.nils,(.bool false),(.int .u64 0),(.int .i64 0),(.int .i64 0),(.int .u8 0),(.str []),(.str []),.nils,(.str []),.nils] [(0,1)]) [.l 0],none⟩,⟨none,.al [(.int .i64 0),.nils,(.bool false),(.int .u64 0),(.int .i64 0),(.int .i64 0),(.int .u8 0),(.str []),(.str []),.nils,(.str []),.nils],some 3⟩,⟨none,.st 12 (.v 3) (.l 0),none⟩]) (.seq (.seq (.ops [⟨none,.p .mv [.c (.int .i64 0)],some 4⟩]) (.block 0 (.loop (.seq (.seq (.ops [⟨none,.p (.faddr 1) [.v 1],none⟩,⟨none,.ld 1 false (.l 0),none⟩,⟨none,.p .lenS [.l 0],none⟩,⟨none,.p (.ib .lss) [.v 4,.l 0],none⟩,⟨(some (.l 0,true)),.p .mv [.v 4],none⟩,⟨(some (.l 1,true)),.p (.ib .lss) [.l 0,.c (.int .i64 6)],none⟩,⟨none,.p .pick [.l 2,.l 0,.c (.bool false)],some 16⟩]) (.cond (.v 16) (.skip) (.exit 0))) (.seq (.block 1 (.dops [⟨none,.p (.faddr 1) [.v 3],none⟩,⟨none,.ld 1 false (.l 0),none⟩,⟨none,.p (.faddr 1) [.v 1],none⟩,⟨none,.ld 1 false (.l 0),none⟩,⟨none,.p .mv [.v 4],none⟩,⟨none,.p (.ixs 6) [.l 1,.l 0],none⟩,⟨none,.ld 6 true (.l 0),none⟩,⟨none,.cf 14 [.l 0],none⟩,⟨none,.bs [(.int .u64 0),(.int .i64 0),(.int .i64 0),(.int .u8 0),(.str []),(.str []),.nils,(.str []),.nils] [(0,9)] 1 [.l 0],none⟩,⟨none,.ap 9 128 (.l 7) (.l 0),none⟩,⟨none,.p (.faddr 1) [.v 3],none⟩,⟨none,.st 1 (.l 0) (.l 1),none⟩] [] [0,1,0,4,0,28,60,124,252,511,1023,2047] [0,1,2,3,4,5,6,7,8,9,10,11] [(1,0,2),(3,0,0),(6,0,0)] [])) (.ops [⟨none,.p .mv [.v 4],none⟩,⟨none,.p (.ib .add) [.l 0,.c (.int .i64 1)],none⟩,⟨none,.p .mv [.l 0],some 4⟩])))))) tT)),[.c 2 12 true],[0,1,2,3,4,16,33]⟩
theorem g9x:F.get 9=some fn9x:=rfl
set_option maxRecDepth 4000
abbrev z9:List V:=[.int .u64 0,.int .i64 0,.int .i64 0,.int .u8 0,.str [],.str [],.nils,.str [],.nils]
abbrev z12:List V:=[.int .i64 0,.nils,.bool false,.int .u64 0,.int .i64 0,.int .i64 0,.int .u8 0,.str [],.str [],.nils,.str [],.nils]
/-- a row more -/
theorem rpush_ok{hh:Heap}{L:Nat}{C:Nat→Prop}{v:V}{A:List Rw}{x:Rw}(w:WF hh)(g:Gs hh L 9 v (A.flatMap Rw.cells))(hL:L≤hh.next)(st:Stab (fun y=>C y∧y∉vb v) hh fun h=>∀r∈A,RwH h r)
    (sx:Stab (fun y=>C y∧y∉vb v) hh fun h=>RwH h x) (hlen:A.length≤7) {K:V→Heap→Prop}
    (kk:∀v' h',Gs h' L 9 v' ((A++[x]).flatMap Rw.cells)→Stab (fun y=>C y∧y∉vb v') h' (fun h=>∀r∈A++[x],RwH h r)→vb v'=[hh.next+1]→Fr (vb v) hh h'→K v' h'):
    OQ (aapp (halloc hh x.cells) 9 128 v (.slice hh.next 0 1 1)) K:=by
  have F1:=Fr.halloc w x.cells;have o1:=Own.new w x.cells;have cl:=flat_len Rw.len A;refine Gs.append1 (n:=1) F1.wf (g.fr F1) (Sl.lit o1 rfl) (by omega) (by omega) (sx.now w).one (by have:=F1.next;omega) (by omega) ?_;intro v' h' g' e' f;have F:Fr (vb v) hh h':=F1.trans f w (by simp) (fun x m=>.inl m);refine kk v' h' (by rw[List.flatMap_append];simpa using g') ?_ e' F;have S:Stab (fun y=>C y∧y∉vb v) hh fun h=>∀r∈A++[x],RwH h r:=(st.and sx).imp fun h q r m=>(List.mem_append.1 m).elim (q.1 r) fun m=>by rw[List.mem_singleton.1 m];exact q.2
  have S1:Stab (fun y=>(C y∧y∉vb v)∧y≠hh.next+1) hh fun h=>∀r∈A++[x],RwH h r:=S.wk fun b hb p=>⟨p,by omega⟩;refine(S1.fr w F fun x m=>.inl fun p=>p.1.2 m).wk fun b hb p=>⟨p.1.1,?_⟩;rw[e'];have:(halloc hh x.cells).next=hh.next+1:=rfl;rw[this];simpa using p.2
/-- rows as plain data, that may be read whatever is written to -/
def RD(h:Heap)(v:V)(R:List Dw):Prop:=Stab (fun _=>False) h (fun h=>ARecs Dw.cells 6 h v R)∧(∀x∈R,DwH h x)∧R.length<70368744177664
theorem RD.fr{h h':Heap}{v:V}{R:List Dw}{X:List Nat}(a:RD h v R)(w:WF h)(f:Fr X h h'):RD h' v R:=⟨a.1.fr w f fun _ _=>.inl id,fun x m=>(a.2.1 x m).fr w f,a.2.2⟩
/-- a slice as plain data -/
structure Dt where
  off:Int
  vr:V
  rows:List Dw
  vh:V
  heads:List Dw
def Dt.cells(x:Dt):List V:=[.int .i64 x.off,x.vr,x.vh]
def DtH(h:Heap)(x:Dt):Prop:=RD h x.vr x.rows∧RD h x.vh x.heads
theorem DtH.fr{h h':Heap}{x:Dt}{X:List Nat}(a:DtH h x)(w:WF h)(f:Fr X h h'):DtH h' x:=⟨a.1.fr w f,a.2.fr w f⟩
def zR:Rw:=⟨0,0,0,⟨0,[],[],[],[],.nils,.nils,.nil⟩⟩
theorem zR_ok(h:Heap):RwH h zR:=⟨by decide,⟨rfl,rfl⟩,by decide,⟨rfl,rfl⟩,by decide,trivial,trivial⟩
def hdC:List Dw→CR
  |[]=>zR.c
  |y::_=>y.c
def Dt.c(x:Dt):CS:=⟨x.off,(x.rows.take 6).map Dw.c,decide (0<x.heads.length),hdC x.heads⟩
def TO(h0:Heap)(x:Dt)(u:V)(h':Heap):Prop:=∃s:Sc,u=.agg s.cells∧s.c=x.c∧s.rows.length≤6∧Gs h' h0.next 9 s.vr (s.rows.flatMap Rw.cells)∧
    Stab (fun y=>h0.next≤y∧y∉vb s.vr) h' (fun h=>(∀r∈s.rows,RwH h r)∧RwH h s.hd)∧Fr [] h0 h'
theorem tT_ok{h0 hh:Heap}{env:T V}{b1 b2 b3:Nat}{x:Dt}{v:V}{A:List Rw}{R:V→Heap→Prop}(w:WF h0)(F:Fr [] h0 hh)(n1:h0.next≤b1)(n12:b1<b2)(n23:b2<b3)(n3:b3<hh.next)
    (ox:Own hh b1 x.cells) (oz:Own hh b2 z12) (os:Own hh b3 (⟨x.off,v,[],false,zR⟩:Sc).cells) (G:Gs hh (b3+1) 9 v (A.flatMap Rw.cells)) (S:Stab (fun y=>b3+1≤y∧y∉vb v) hh fun h=>∀r∈A,RwH h r)
    (eA:A.map Rw.c=(x.rows.take 6).map Dw.c) (a:DtH hh x) (g1:env.get 1=some (.ptr b1 0)) (g2:env.get 2=some (.ptr b2 0)) (g3:env.get 3=some (.ptr b3 0))
    (k:∀u h',TO h0 x u h'→R u h'):W go tT env hh (RetQ [.c 2 12 true] R):=by
  have lA:A.length≤6:=by
    have:=congrArg List.length eA;simp at this;omega
  have onev:v.one=true:=G.one;have hr:=a.2.1.now F.wf;have x2:hload1 hh b1 2=some x.vh:=ox.ld1 2;have vlt:=G.lt F.wf;have vge:=G.ge
  -- the end, for any head
  have fin:∀(p:Bool)(hd:Rw)(h7:Heap)(env:T V),Fr [b3] hh h7→Own h7 b3 (⟨x.off,v,A,p,hd⟩:Sc).cells→Stab (fun y=>b3+1≤y∧y∉vb v) h7 (fun h=>RwH h hd)→p=decide (0<x.heads.length)→hd.c=hdC x.heads→
      hload h7 b3 0 12=some (⟨x.off,v,A,p,hd⟩:Sc).cells∧onesB (⟨x.off,v,A,p,hd⟩:Sc).cells=true∧Own h7 b2 z12∧∀h8,Own h8 b2 (⟨x.off,v,A,p,hd⟩:Sc).cells→Fr [b2] h7 h8→hload h8 b2 0 12=some (⟨x.off,v,A,p,hd⟩:Sc).cells∧R (.agg (⟨x.off,v,A,p,hd⟩:Sc).cells) h8:=by
    intro p hd h7 env F7 o7 Sh ep eh;have no:∀y∈[b2,b3],y≤b3∧h0.next≤y:=by simp;omega
    have one:=(Sh.now F7.wf).one;refine⟨by rw[o7.ld];rfl,?_,F7.own _ _ (by simp;omega) oz,fun h8 o8 F8=>⟨by rw[o8.ld];rfl,k _ _ ⟨⟨x.off,v,A,p,hd⟩,rfl,?_,lA,?_,?_,?_⟩⟩⟩
    ·have e:(⟨x.off,v,A,p,hd⟩:Sc).cells=[.int .i64 x.off,v,.bool p]++hd.cells:=rfl;rw[e,onesB_append,one];simp[onesB_cons,onesB_nil,onev];exact⟨rfl,rfl⟩
    ·simp only[Sc.c,Dt.c,eA,ep,eh]
    ·have F78:Fr [b2,b3] hh h8:=F7.trans F8 F.wf (fun y m=>.inl (by simp at m;simp[m])) (fun y m=>.inl (by simp at m;simp[m]));exact((Stab.gs F.wf G (P:=fun y=>b3<y) fun y m=>by have:=vge y m;omega) _ _ (fun y m=>.inl fun q=>by have:=(no y m).1;omega) F78).low (by omega)
    ·have F78:Fr [b2,b3] hh h8:=F7.trans F8 F.wf (fun y m=>.inl (by simp at m;simp[m])) (fun y m=>.inl (by simp at m;simp[m]));exact((S.fr F.wf F78 fun y m=>.inl fun q=>by have:=(no y m).1;omega).and (Sh.fr F7.wf F8 fun y m=>.inl fun q=>by rw[List.mem_singleton.1 m]at q;omega)).wk fun y _ q=>⟨by omega,q.2⟩
    ·have F78:Fr [b2,b3] hh h8:=F7.trans F8 F.wf (fun y m=>.inl (by simp at m;simp[m])) (fun y m=>.inl (by simp at m;simp[m]));exact F.trans F78 w (by simp) (fun y m=>.inr (no y m).2)
  by_cases c:0<x.heads.length
  ·obtain⟨y,l,ey⟩:∃y l,x.heads=y::l:=by cases q:x.heads with|nil=>rw[q]at c;simp at c|cons y l=>exact⟨y,l,rfl⟩
   simp(maxSteps:=1000000) (disch:=omega) only[evs,↓reduceIte,Nat.reduceEqDiff,Nat.reduceAdd,Nat.reduceMul,Nat.reduceLeDiff,Nat.reduceLT,Int.reduceNeg,DF,eff,Nat.reduceSub,fwrap_i64,tT,g1,g2,g3,x2,hr.len,show(0:Int)<x.heads.length by omega];refine store_step (c':=(⟨x.off,v,[],true,zR⟩:Sc).cells) F.wf os rfl rfl rfl ?_;intro h4 o4 F4 n4;have ox4:=F4.own _ _ (by simp;omega) ox;have x24:hload1 h4 b1 2=some x.vh:=ox4.ld1 2;have a4:=a.fr F.wf F4;obtain⟨b',o',y',p1,_,p3,p4⟩:=(a4.2.1.now F4.wf).ix Dw.len .i64 0 (by omega) (by omega);have:y'=y:=by
     rw[ey]at p4;simpa using p4.symm
   subst this;simp(maxSteps:=1000000) (disch:=omega) only[evs,↓reduceIte,Nat.reduceEqDiff,Nat.reduceAdd,Nat.reduceMul,Nat.reduceLeDiff,Nat.reduceLT,Int.reduceNeg,DF,eff,Nat.reduceSub,fwrap_i64,g1,g2,g3,x24,p1,p3];refine OQ_does (wOf_ok F4.wf (a4.2.2.1 y' (by rw[ey];simp))) ?_;rintro _ h5 ⟨r,rfl,er,Sr,F5⟩;have hr5:=Sr.now F5.wf;have nn:=F5.next;simp(maxSteps:=1000000) (disch:=omega) only[evs,↓reduceIte,Nat.reduceEqDiff,Nat.reduceAdd,Nat.reduceMul,Nat.reduceLeDiff,Nat.reduceLT,Int.reduceNeg,DF,eff,Nat.reduceSub,fwrap_i64,g1,g2,g3];refine store_step (c':=(⟨x.off,v,A,true,r⟩:Sc).cells) F5.wf (F5.get o4) rfl hr5.one rfl ?_;intro h6 o6 F6 n6;have F06:Fr [b3] hh h6:=(F4.trans F5 F.wf (T:=[b3]) (fun y m=>.inl m) (by simp)).trans F6 F.wf (fun y m=>.inl m) (fun y m=>.inl m);obtain⟨f1,f2,f3,f4⟩:=fin true r h6 env F06 o6 ((Sr.fr F5.wf F6 (by intro y m;rw[List.mem_singleton.1 m];exact .inl fun q=>by omega)).wk fun y _ q=>⟨by omega,fun m=>by have:=vlt y m;omega⟩) (by simp[c]) (by rw[er,ey];rfl);simp(maxSteps:=1000000) (disch:=omega) only[evs,↓reduceIte,Nat.reduceEqDiff,Nat.reduceAdd,Nat.reduceMul,Nat.reduceLeDiff,Nat.reduceLT,Int.reduceNeg,DF,eff,Nat.reduceSub,fwrap_i64,g1,g2,g3,f1];refine store_step (c':=(⟨x.off,v,A,true,r⟩:Sc).cells) F6.wf f3 rfl f2 rfl ?_;intro h7 o7 F7 n7;obtain⟨f5,f6⟩:=f4 h7 o7 F7;simp(maxSteps:=1000000) (disch:=omega) only[evs,↓reduceIte,Nat.reduceEqDiff,Nat.reduceAdd,Nat.reduceMul,Nat.reduceLeDiff,Nat.reduceLT,Int.reduceNeg,DF,eff,Nat.reduceSub,fwrap_i64,g1,g2,g3,f5];exact f6
  ·have e0:x.heads=[]:=List.length_eq_zero_iff.1 (by omega);obtain⟨f1,f2,f3,f4⟩:=fin false zR hh env (Fr.refl F.wf) os (fun _ h' _ _=>zR_ok h') (by simp[e0]) (by rw[e0];rfl);simp(maxSteps:=1000000) (disch:=omega) only[evs,↓reduceIte,Nat.reduceEqDiff,Nat.reduceAdd,Nat.reduceMul,Nat.reduceLeDiff,Nat.reduceLT,Int.reduceNeg,DF,eff,Nat.reduceSub,fwrap_i64,tT,g1,g2,g3,x2,hr.len,show¬(0:Int)<x.heads.length by omega,f1];refine store_step (c':=(⟨x.off,v,A,false,zR⟩:Sc).cells) F.wf f3 rfl f2 rfl ?_;intro h7 o7 F7 n7;obtain⟨f5,f6⟩:=f4 h7 o7 F7;simp(maxSteps:=1000000) (disch:=omega) only[evs,↓reduceIte,Nat.reduceEqDiff,Nat.reduceAdd,Nat.reduceMul,Nat.reduceLeDiff,Nat.reduceLT,Int.reduceNeg,DF,eff,Nat.reduceSub,fwrap_i64,g1,g2,g3,f5];exact f6
theorem tOf_ok{h:Heap}{x:Dt}(w:WF h)(a:DtH h x):Does go 9 [.agg x.cells] h (TO h x):=by
  have oner:x.vr.one=true:=(a.1.1.now w).one;have oneh:x.vh.one=true:=(a.2.1.now w).one;obtain⟨h1,e_h1⟩:∃h1,h1=halloc h x.cells:=⟨_,rfl⟩;have F_h1:Fr [] h h1:=e_h1▸Fr.halloc w _;have o_h1:Own h1 h.next x.cells:=e_h1▸Own.new w _;obtain⟨h2,e_h2⟩:∃h2,h2=halloc h1 [.int .i64 0,.nils,.bool false,.int .u64 0,.int .i64 0,.int .i64 0,.int .u8 0,.str [],.str [],.nils,.str [],.nils]:=⟨_,rfl⟩;have F_h2:Fr [] h1 h2:=e_h2▸Fr.halloc F_h1.wf _;have o_h2:Own h2 h1.next [.int .i64 0,.nils,.bool false,.int .u64 0,.int .i64 0,.int .i64 0,.int .u8 0,.str [],.str [],.nils,.str [],.nils]:=e_h2▸Own.new F_h1.wf _;have n1:=hnx e_h1;have n2:=hnx e_h2;have F2:=F_h1.then F_h2;have o1:=F_h2.get o_h1;have a0:hload1 h2 h.next 0=some (.int .i64 x.off):=o1.ld1 0;obtain⟨h3,e_h3⟩:∃h3,h3=halloc h2 [.int .i64 0,.nils,.bool false,.int .u64 0,.int .i64 0,.int .i64 0,.int .u8 0,.str [],.str [],.nils,.str [],.nils]:=⟨_,rfl⟩;have F_h3:Fr [] h2 h3:=e_h3▸Fr.halloc F2.wf _;have o_h3:Own h3 h2.next [.int .i64 0,.nils,.bool false,.int .u64 0,.int .i64 0,.int .i64 0,.int .u8 0,.str [],.str [],.nils,.str [],.nils]:=e_h3▸Own.new F2.wf _;have n3:=hnx e_h3;refine does_fn g9x rfl ?_;simp(maxSteps:=1000000) (disch:=omega) only[evs,↓reduceIte,Nat.reduceEqDiff,Nat.reduceAdd,Nat.reduceMul,Nat.reduceLeDiff,Nat.reduceLT,Int.reduceNeg,DF,eff,Nat.reduceSub,fwrap_i64,fn9x,←e_h1,←e_h2,a0,←e_h3];refine store_step (c':=(⟨x.off,.nils,[],false,zR⟩:Sc).cells) F_h3.wf o_h3 rfl rfl rfl ?_;intro h4 o4 F4 n4;have F24:Fr [] h2 h4:=F_h3.fresh F4 F2.wf (Nat.le_refl _);have F04:=F2.then F24;simp(maxSteps:=1000000) (disch:=omega) only[evs,↓reduceIte,Nat.reduceEqDiff,Nat.reduceAdd,Nat.reduceMul,Nat.reduceLeDiff,Nat.reduceLT,Int.reduceNeg,DF,eff,Nat.reduceSub,fwrap_i64];refine W_loop (fun n env hh=>Fr [] h hh∧h4.next≤hh.next∧Own hh h.next x.cells∧Own hh h1.next z12∧∃(i:Nat)(v:V)(A:List Rw),env.get 4=some (.int .i64 i)∧env.get 1=some (.ptr h.next 0)∧env.get 2=some (.ptr h1.next 0)∧env.get 3=some (.ptr h2.next 0)∧
      Own hh h2.next (⟨x.off,v,[],false,zR⟩:Sc).cells∧i≤x.rows.length∧i≤6∧Gs hh h3.next 9 v (A.flatMap Rw.cells)∧Stab (fun y=>h3.next≤y∧y∉vb v) hh (fun h=>∀r∈A,RwH h r)∧A.map Rw.c=(x.rows.take i).map Dw.c∧n=6-i) 6 (by omega) ?_ ?_
  ·exact⟨F04,Nat.le_refl _,F24.get o1,F24.get o_h2,0,.nils,[],(by simp[T.get_set]),(by simp[T.get_set]),(by simp[T.get_set]),(by simp[T.get_set]),o4,by omega,by omega,.inl ⟨rfl,rfl⟩,(fun _ _ _ _=>by simp),rfl,rfl⟩
  ·rintro n env hh ⟨F,hn,ox,oz,i,v,A,g4,g1,g2,g3,os,hi,hi6,G,S,eA,rfl⟩;have lA:A.length=i:=by
     have:=congrArg List.length eA;simp at this;omega
   have onev:v.one=true:=G.one;have rr:=(a.1.fr w F).1.now F.wf;have x1:hload1 hh h.next 1=some x.vr:=ox.ld1 1;have s1:hload1 hh h2.next 1=some v:=os.ld1 1;by_cases c1:i<x.rows.length
   ·by_cases c2:i<6
    ·obtain⟨b1,o1',y,p1,_,p3,p4⟩:=rr.ix Dw.len .i64 (i:Int) (by omega) (by have:=a.1.2.2;omega);rw[Int.toNat_natCast]at p4;have hy:=(a.1.fr w F).2.1 y (List.mem_of_getElem? p4);simp(maxSteps:=1000000) (disch:=omega) only[evs,↓reduceIte,Nat.reduceEqDiff,Nat.reduceAdd,Nat.reduceMul,Nat.reduceLeDiff,Nat.reduceLT,Int.reduceNeg,DF,eff,Nat.reduceSub,fwrap_i64,g4,g1,g2,g3,x1,s1,rr.len,show(i:Int)<x.rows.length by omega,show(i:Int)<6 by omega,p1,p3];refine OQ_does (wOf_ok F.wf hy) ?_;rintro _ h5 ⟨r,rfl,er,Sr,F5⟩;have s15:hload1 h5 h2.next 1=some v:=(F5.get os).ld1 1;have x15:hload1 h5 h.next 1=some x.vr:=(F5.get ox).ld1 1;have hnn:=F5.next;have vlt:=G.lt F.wf;have hr:=Sr.now F5.wf;have F6:=Fr.halloc F5.wf r.cells;have s16:hload1 (halloc h5 r.cells) h2.next 1=some v:=(F6.get (F5.get os)).ld1 1;have x16:hload1 (halloc h5 r.cells) h.next 1=some x.vr:=(F6.get (F5.get ox)).ld1 1;simp(maxSteps:=1000000) (disch:=omega) only[evs,↓reduceIte,Nat.reduceEqDiff,Nat.reduceAdd,Nat.reduceMul,Nat.reduceLeDiff,Nat.reduceLT,Int.reduceNeg,DF,eff,Nat.reduceSub,fwrap_i64,g4,g1,g2,g3,x1,s1,p1,p3,s15,x15,show r.cells.length=9 from rfl,show updO [.int .u64 0,.int .i64 0,.int .i64 0,.int .u8 0,.str [],.str [],.nils,.str [],.nils] 0 r.cells=some r.cells from rfl];refine rpush_ok (C:=fun y=>h3.next≤y) (x:=r) F5.wf (G.fr F5) (by omega) (S.fr0 F.wf F5) (Sr.wk fun y _ p=>⟨by omega,fun m=>by have:=vlt y m;omega⟩) (by omega) ?_;intro v' h7 G7 S7 _ F7;have onev':v'.one=true:=G7.one;have ge:=G.ge;have F07:Fr (vb v) hh h7:=F5.trans F7 F.wf (by simp) (fun x m=>.inl m);have os7:=F07.own _ _ (fun m=>by have:=ge _ m;omega) os;have ox7:=F07.own _ _ (fun m=>by have:=ge _ m;omega) ox;have oz7:=F07.own _ _ (fun m=>by have:=ge _ m;omega) oz;have s17:hload1 h7 h2.next 1=some v:=os7.ld1 1;have x17:hload1 h7 h.next 1=some x.vr:=ox7.ld1 1;simp(maxSteps:=1000000) (disch:=omega) only[evs,↓reduceIte,Nat.reduceEqDiff,Nat.reduceAdd,Nat.reduceMul,Nat.reduceLeDiff,Nat.reduceLT,Int.reduceNeg,DF,eff,Nat.reduceSub,fwrap_i64,g4,g1,g2,g3,x1,s1,p1,p3,s15,x15,s16,x16,s17,x17];refine store_step (c':=(⟨x.off,v',[],false,zR⟩:Sc).cells) F7.wf os7 (by rw[cells_one onev'];rfl) (by rw[cells_one onev'];simp[onesB_cons,onesB_nil,onev']) (by rw[cells_one onev'];rfl) ?_;intro h8 o8 F8 n8;have s18:hload1 h8 h2.next 1=some v':=o8.ld1 1;have nn7:=F07.next;have F08:Fr [] h h8:=(F.trans F07 w (T:=[]) (by simp) (fun x m=>.inr (by have:=ge x m;have:=F04.next;omega))).fresh F8 w (by omega);simp(maxSteps:=1000000) (disch:=omega) only[evs,↓reduceIte,Nat.reduceEqDiff,Nat.reduceAdd,Nat.reduceMul,Nat.reduceLeDiff,Nat.reduceLT,Int.reduceNeg,DF,eff,Nat.reduceSub,fwrap_i64,g4,g1,g2,g3,x1,s1,p1,p3,s15,x15,s16,x16,s17,x17];refine(roundQ_norm _ _ _).2 ⟨6-(i+1),by omega,F08,by omega,F8.own _ _ (by simp;omega) ox7,F8.own _ _ (by simp;omega) oz7,i+1,v',A++[r],(by simp[T.get_set]),(by simp[T.get_set,g1]),(by simp[T.get_set,g2]),(by simp[T.get_set,g3]),o8,by omega,by omega,?_,?_,?_,rfl⟩
     ·exact(Stab.gs F7.wf G7 (P:=fun y=>h3.next≤y) fun y m=>G7.ge y m) _ _ (by intro y m;rw[List.mem_singleton.1 m];exact .inl fun p=>by omega) F8
     ·exact S7.fr F7.wf F8 (by intro y m;rw[List.mem_singleton.1 m];exact .inl fun p=>by omega)
     ·rw[List.map_append,eA,List.take_add_one,p4,List.map_append];simp[er]
    ·simp(maxSteps:=1000000) (disch:=omega) only[evs,↓reduceIte,Nat.reduceEqDiff,Nat.reduceAdd,Nat.reduceMul,Nat.reduceLeDiff,Nat.reduceLT,Int.reduceNeg,DF,eff,Nat.reduceSub,fwrap_i64,g4,g1,g2,g3,x1,s1,rr.len,show(i:Int)<x.rows.length by omega,show¬(i:Int)<6 by omega];have:i=6:=by omega
     subst this;exact tT_ok w F (Nat.le_refl _) (by omega:h.next<h1.next) (by omega:h1.next<h2.next) (by omega) ox oz os (by rw[←n3];exact G) (by rw[←n3];exact S) (by rw[eA]) (a.fr w F) (by simp[T.get_set,g1]) (by simp[T.get_set,g2]) (by simp[T.get_set,g3]) (fun _ _ q=>q)
   ·simp(maxSteps:=1000000) (disch:=omega) only[evs,↓reduceIte,Nat.reduceEqDiff,Nat.reduceAdd,Nat.reduceMul,Nat.reduceLeDiff,Nat.reduceLT,Int.reduceNeg,DF,eff,Nat.reduceSub,fwrap_i64,g4,g1,g2,g3,x1,s1,rr.len,show¬(i:Int)<x.rows.length by omega];exact tT_ok w F (Nat.le_refl _) (by omega:h.next<h1.next) (by omega:h1.next<h2.next) (by omega) ox oz os (by rw[←n3];exact G) (by rw[←n3];exact S) (by rw[eA];rw[List.take_of_length_le (by omega),List.take_of_length_le (by omega)]) (a.fr w F) (by simp[T.get_set,g1]) (by simp[T.get_set,g2]) (by simp[T.get_set,g3]) (fun _ _ q=>q)
def dec(n:Nat):Str:=if h:n<10 then[UInt8.ofNat (48+n)]else dec (n/10)++[UInt8.ofNat (48+n%10)]
termination_by n
decreasing_by omega
theorem dec_lt{n:Nat}(h:n<10):dec n=[UInt8.ofNat (48+n)]:=by rw[dec,dif_pos h]
theorem dec_ge{n:Nat}(h:¬n<10):dec n=dec (n/10)++[UInt8.ofNat (48+n%10)]:=by rw[dec,dif_neg h]
theorem dec_len:∀(k n:Nat),0<k→n<10^k→(dec n).length≤k
  |0,_,h,_=>by omega
  |k+1,n,_,h=>by
    by_cases c:n<10
    ·rw[dec_lt c];simp
    ·rw[dec_ge c,List.length_append];have:k≠0:=by rintro rfl;simp at h;omega
     have:=dec_len k (n/10) (by omega) (by rw[Nat.pow_succ]at h;omega);simp;omega
theorem dec_len20{n:Nat}(h:n<18446744073709551616):(dec n).length≤20:=dec_len 20 n (by omega) (by omega)
theorem dig_sl:∀d,d<10→aP (.slstr true true) [.str [48,49,50,51,52,53,54,55,56,57],.int .u64 (d:Nat),.int .u64 ((d:Nat)+1:Int)]=some (.str [UInt8.ofNat (48+d)]):=by
  intro d hd;match d,hd with
  |0,_=>rfl
  |1,_=>rfl
  |2,_=>rfl
  |3,_=>rfl
  |4,_=>rfl
  |5,_=>rfl
  |6,_=>rfl
  |7,_=>rfl
  |8,_=>rfl
  |9,_=>rfl
theorem aP_sba(a b:Str)(h:a.length+b.length<9223372036854775808):aP (.sb .add) [.str a,.str b]=some (.str (a++b)):=by
  show(bif Nat.blt (a.length+b.length) 9223372036854775808 then some (V.str (a++b))else none)=_;rw[(Nat.blt_eq ..).mpr h];rfl
theorem rem_u64(a n:Nat)(b:Int)(hb:b=n)(h:n≠0):aP (.ib .rem) [.int .u64 (a:Int),.int .u64 b]=some (.int .u64 ((a%n:Nat):Int)):=by
  subst hb;rw[aP_rem _ _ _ (by omega)];congr 2
theorem quo_u64(a n:Nat)(b:Int)(hb:b=n)(h:n≠0)(ha:a<18446744073709551616):aP (.ib .quo) [.int .u64 (a:Int),.int .u64 b]=some (.int .u64 ((a/n:Nat):Int)):=by
  subst hb;rw[aP_quo _ _ _ (by omega),show(a:Int).tdiv (n:Int)=((a/n:Nat):Int)from rfl];have q:=Nat.div_le_self a n;generalize a/n=m at q⊢;rw[fwrap_u64 _ (by omega) (by omega)]
theorem natural_ok{h:Heap}(n:Nat):n<18446744073709551616→Does go 22 [.int .u64 (n:Int)] h fun u h'=>u=.str (dec n)∧h=h':=by
  induction n using Nat.strongRecOn with
  |_ n ih=>
  intro hn;by_cases c:n<10
  ·refine does_fn g22 rfl ?_;simp(maxSteps:=1000000) (disch:=omega) only[fn22,evs,↓reduceIte,Nat.reduceEqDiff,Nat.reduceAdd,Nat.reduceMul,Nat.reduceLeDiff,Nat.reduceLT,Int.reduceNeg,DF,eff,Nat.reduceSub,fwrap_i64,show(n:Int)<10 by omega,fwrap_u64 ((n:Int)+1) (by omega) (by omega),dig_sl n c];rw[dec_lt c]
  ·have r:=rem_u64 n 10 10 rfl (by omega);have q:=quo_u64 n 10 10 rfl (by omega) hn;have hm:n%10<10:=Nat.mod_lt _ (by omega);refine does_fn g22 rfl ?_;simp(maxSteps:=1000000) (disch:=omega) only[fn22,evs,↓reduceIte,Nat.reduceEqDiff,Nat.reduceAdd,Nat.reduceMul,Nat.reduceLeDiff,Nat.reduceLT,Int.reduceNeg,DF,eff,Nat.reduceSub,fwrap_i64,show¬(n:Int)<10 by omega,q];refine OQ_does (ih (n/10) (by omega) (by omega)) ?_;rintro _ _ ⟨rfl,rfl⟩;simp(maxSteps:=1000000) (disch:=omega) only[evs,↓reduceIte,Nat.reduceEqDiff,Nat.reduceAdd,Nat.reduceMul,Nat.reduceLeDiff,Nat.reduceLT,Int.reduceNeg,DF,eff,Nat.reduceSub,fwrap_i64,r,fwrap_u64 (((n%10:Nat):Int)+1) (by omega) (by omega),dig_sl (n%10) hm,aP_sba (dec (n/10)) [UInt8.ofNat (48+n%10)] (by have:=dec_len20 (n:=n/10) (by omega);simp;omega)];rw[dec_ge c]
/-- a number of 64 bits in decimal -/
def decI(v:Int):Str:=if v<0 then 45::dec (-v).toNat else dec v.toNat
theorem decI_len{v:Int}(h:R64 v):(decI v).length≤21:=by
  unfold decI;obtain⟨h1,h2⟩:=h;split
  ·have:=dec_len20 (n:=(-v).toNat) (by omega);simp;omega
  ·have:=dec_len20 (n:=v.toNat) (by omega);omega
theorem decimal_ok{h:Heap}{v:Int}(hv:R64 v):Does go 10 [.int .i64 v] h fun u h'=>u=.str (decI v)∧h=h':=by
  obtain⟨h1,h2⟩:=hv;by_cases c:v<0
  ·obtain⟨n,hn⟩:∃n:Nat,-v=n:=⟨(-v).toNat,by omega⟩;have e1:fwrap .i64 (0-(v+1))=(n:Int)-1:=by rw[fwrap_i64 _ (by omega) (by omega)];omega
   have e2:fwrap .u64 ((n:Int)-1)=(n:Int)-1:=fwrap_u64 _ (by omega) (by omega);have e3:fwrap .u64 ((n:Int)-1+1)=(n:Int):=by rw[fwrap_u64 _ (by omega) (by omega)];omega
   refine does_fn g10 rfl ?_;simp(maxSteps:=1000000) (disch:=omega) only[fn10,evs,↓reduceIte,Nat.reduceEqDiff,Nat.reduceAdd,Nat.reduceMul,Nat.reduceLeDiff,Nat.reduceLT,Int.reduceNeg,DF,eff,Nat.reduceSub,fwrap_i64,c,aP_neg,e1,e2,e3];refine OQ_does (natural_ok n (by omega)) ?_;rintro _ _ ⟨rfl,rfl⟩;simp(maxSteps:=1000000) (disch:=omega) only[evs,↓reduceIte,Nat.reduceEqDiff,Nat.reduceAdd,Nat.reduceMul,Nat.reduceLeDiff,Nat.reduceLT,Int.reduceNeg,DF,eff,Nat.reduceSub,fwrap_i64,aP_sba [45] (dec n) (by have:=dec_len20 (n:=n) (by omega);simp;omega)];simp[decI,c,hn]
  ·obtain⟨n,rfl⟩:∃n:Nat,v=n:=⟨v.toNat,by omega⟩;have e2:fwrap .u64 (n:Int)=(n:Int):=fwrap_u64 _ (by omega) (by omega);refine does_fn g10 rfl ?_;simp(maxSteps:=1000000) (disch:=omega) only[fn10,evs,↓reduceIte,Nat.reduceEqDiff,Nat.reduceAdd,Nat.reduceMul,Nat.reduceLeDiff,Nat.reduceLT,Int.reduceNeg,DF,eff,Nat.reduceSub,fwrap_i64,c,e2];refine OQ_does (natural_ok n (by omega)) ?_;rintro _ _ ⟨rfl,rfl⟩;simp(maxSteps:=1000000) (disch:=omega) only[evs,↓reduceIte,Nat.reduceEqDiff,Nat.reduceAdd,Nat.reduceMul,Nat.reduceLeDiff,Nat.reduceLT,Int.reduceNeg,DF,eff,Nat.reduceSub,fwrap_i64];simp[decI,c]
end Go.Ev.Lay
