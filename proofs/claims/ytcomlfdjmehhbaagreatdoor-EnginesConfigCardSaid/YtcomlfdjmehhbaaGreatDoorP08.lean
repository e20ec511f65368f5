/- An evaluator of the program, and contracts over it: EcA to EcI. -/
import Derived.Test.YtcomlfdjmehhbaaGreatDoorP07
set_option linter.unusedSimpArgs false
set_option linter.unusedVariables false
set_option linter.constructorNameAsVariable false
set_option linter.unnecessarySimpa false
namespace Go.Ev.Lay
set_option maxRecDepth 4000
structure Cfg where
  view:Int
  over:Int
  least:Int
  vK:V
  Ks:List Knd
  cap:Int
  arena:Int
  flaw:Nat
def Cfg.cells(c:Cfg):List V:=[.int .i64 c.view,.int .i64 c.over,.int .i64 c.least,c.vK,.int .i64 c.cap,.int .i64 c.arena,.int .u8 (c.flaw:Int)]
/-- a configuration stands in memory -/
structure CfH(h:Heap)(c:Cfg):Prop where
  ks:ARecs Knd.cells 9 h c.vK c.Ks
  each:∀q∈c.Ks,KndH h q
  n:c.Ks.length≤70368744177664
theorem CfH.fr{h h':Heap}{c:Cfg}(a:CfH h c)(f:Fr [] h h'):CfH h' c:=⟨a.ks.fr f,fun q m=>(a.each q m).fr f,a.n⟩
theorem CfH.one{h:Heap}{c:Cfg}(a:CfH h c):av c.cells=true:=by
  have:=a.ks.one;simp only[Cfg.cells,aB,aR,this];rfl
def okP(q:Knd):Bool:=decide (0≤q.pool)&&decide (q.pool≤16)
def okL(least:Int)(q:Knd):Bool:=decide (least≤q.base)
theorem wm{h:Heap}{q:Knd}(w:WF h)(a:KndH h q):au go 60 [.agg q.cells] h fun u h'=>u=.bool (!okP q)∧Fr [] h h':=by
  obtain⟨h1,e_h1⟩:∃h1,h1=halloc h q.cells:=⟨_,rfl⟩;have F_h1:Fr [] h h1:=e_h1▸Fr.halloc w _;have o_h1:Own h1 h.next q.cells:=e_h1▸Own.new w _;have l8:ab h1 h.next 8=some (.int .i64 q.pool):=o_h1.ld1 8;by_cases c0:q.pool<0
  ·refine af ?_;simp(maxSteps:=1000000) (disch:=omega) only[evs,↓reduceIte,Nat.reduceEqDiff,Nat.reduceAdd,Nat.reduceMul,Nat.reduceLeDiff,Nat.reduceLT,Int.reduceNeg,DF,eff,Nat.reduceSub,aa,←e_h1,l8,c0];exact⟨by simp[okP];omega,F_h1⟩
  by_cases c1:16<q.pool
  ·refine af ?_;simp(maxSteps:=1000000) (disch:=omega) only[evs,↓reduceIte,Nat.reduceEqDiff,Nat.reduceAdd,Nat.reduceMul,Nat.reduceLeDiff,Nat.reduceLT,Int.reduceNeg,DF,eff,Nat.reduceSub,aa,←e_h1,l8,c0,c1];exact⟨by simp[okP];omega,F_h1⟩
  refine af ?_;simp(maxSteps:=1000000) (disch:=omega) only[evs,↓reduceIte,Nat.reduceEqDiff,Nat.reduceAdd,Nat.reduceMul,Nat.reduceLeDiff,Nat.reduceLT,Int.reduceNeg,DF,eff,Nat.reduceSub,aa,←e_h1,l8,c0,c1];exact⟨by simp[okP];omega,F_h1⟩
theorem wn{h:Heap}{q:Knd}{cb:Nat}{least:Int}(w:WF h)(a:KndH h q)(hc:∀h',Fr [] h h'→ab h' cb 2=some (.int .i64 least)):au go 26 [.agg q.cells,.ptr cb 0] h fun u h'=>u=.bool (!okL least q)∧Fr [] h h':=by
  obtain⟨h1,e_h1⟩:∃h1,h1=halloc h q.cells:=⟨_,rfl⟩;have F_h1:Fr [] h h1:=e_h1▸Fr.halloc w _;have o_h1:Own h1 h.next q.cells:=e_h1▸Own.new w _;have l6:ab h1 h.next 6=some (.int .i64 q.base):=o_h1.ld1 6;have lc:=hc h1 F_h1;by_cases c0:q.base<least
  ·refine af ?_;simp(maxSteps:=1000000) (disch:=omega) only[evs,↓reduceIte,Nat.reduceEqDiff,Nat.reduceAdd,Nat.reduceMul,Nat.reduceLeDiff,Nat.reduceLT,Int.reduceNeg,DF,eff,Nat.reduceSub,aa,←e_h1,l6,lc,c0];exact⟨by simp[okL];omega,F_h1⟩
  refine af ?_;simp(maxSteps:=1000000) (disch:=omega) only[evs,↓reduceIte,Nat.reduceEqDiff,Nat.reduceAdd,Nat.reduceMul,Nat.reduceLeDiff,Nat.reduceLT,Int.reduceNeg,DF,eff,Nat.reduceSub,aa,←e_h1,l6,lc,c0];exact⟨by simp[okL];omega,F_h1⟩
theorem vP{h:Heap}{v:V}{L:List Knd}(w:WF h)(a:ARecs Knd.cells 9 h v L)(hL:∀q∈L,KndH h q)(hn:L.length≤70368744177664):
    au go 62 [v,.func (.func 60) [] []] h fun u h'=>∃r:Int,u=.int .i64 r∧(decide (0≤r)= !L.all okP)∧Fr [] h h':=by
  refine af ?_;simp(maxSteps:=1000000) (disch:=omega) only[evs,↓reduceIte,Nat.reduceEqDiff,Nat.reduceAdd,Nat.reduceMul,Nat.reduceLeDiff,Nat.reduceLT,Int.reduceNeg,DF,eff,Nat.reduceSub,aa,ARecs.len a];refine aQ (fun k env hh=>Fr [] h hh∧∃(i:Nat),env.get 8=some (.int .i64 i)∧env.get 7=some (.int .i64 L.length)∧env.get 0=some v∧env.get 1=some (.func (.func 60) [] [])∧
      i≤L.length∧(L.drop i).all okP=L.all okP∧k=L.length-i) L.length (by omega) ?_ ?_
  ·exact⟨Fr.refl w,0,(by simp[T.get_set]),(by simp[T.get_set]),(by simp[T.get_set]),(by simp[T.get_set]),by omega,rfl,rfl⟩
  ·rintro k env hh ⟨F,i,g8,g7,g0,g1,hi,e,rfl⟩;by_cases hlt:i<L.length
   ·have hlt':(i:Int)<L.length:=by omega
    obtain⟨b,o,s,e1,_,e3,e5⟩:=(ARecs.fr a F).ix bQ .i64 i (by omega) hlt';rw[Int.toNat_natCast]at e5;rw[bq e5,List.all_cons]at e;have hs:=hL s (List.mem_of_getElem? e5);simp(maxSteps:=1000000) (disch:=omega) only[evs,↓reduceIte,Nat.reduceEqDiff,Nat.reduceAdd,Nat.reduceMul,Nat.reduceLeDiff,Nat.reduceLT,Int.reduceNeg,DF,eff,Nat.reduceSub,aa,g8,g7,g0,g1,hlt',e1,e3];refine ae (wm F.wf (hs.fr F)) ?_;rintro _ h1 ⟨rfl,F1⟩;cases c:okP s
    ·simp(maxSteps:=1000000) (disch:=omega) only[evs,↓reduceIte,Nat.reduceEqDiff,Nat.reduceAdd,Nat.reduceMul,Nat.reduceLeDiff,Nat.reduceLT,Int.reduceNeg,DF,eff,Nat.reduceSub,aa,g8,g7,g0,g1];rw[c]at e;exact⟨i,rfl,by rw[←e];simp,F.then F1⟩
    ·simp(maxSteps:=1000000) (disch:=omega) only[evs,↓reduceIte,Nat.reduceEqDiff,Nat.reduceAdd,Nat.reduceMul,Nat.reduceLeDiff,Nat.reduceLT,Int.reduceNeg,DF,eff,Nat.reduceSub,aa,g8,g7,g0,g1];rw[c]at e;refine rqn ⟨L.length-(i+1),by omega,F.then F1,i+1,(by simp[T.get_set]),(by simp[T.get_set,g7]),(by simp[T.get_set,g0]),(by simp[T.get_set,g1]),by omega,by simpa using e,rfl⟩
     done
   ·simp(maxSteps:=1000000) (disch:=omega) only[evs,↓reduceIte,Nat.reduceEqDiff,Nat.reduceAdd,Nat.reduceMul,Nat.reduceLeDiff,Nat.reduceLT,Int.reduceNeg,DF,eff,Nat.reduceSub,aa,g8,g7,g0,g1,show¬(i:Int)<L.length by omega];rw[List.drop_of_length_le (by omega)]at e;exact⟨-1,rfl,by rw[←e];rfl,F⟩
theorem vR{h:Heap}{v:V}{L:List Knd}(w:WF h)(a:ARecs Knd.cells 9 h v L)(hL:∀q∈L,KndH h q)(hn:L.length≤70368744177664):
    au go 28 [v,.func (.func 60) [] []] h fun u h'=>u=.bool (!L.all okP)∧Fr [] h h':=by
  refine af ?_;simp(maxSteps:=1000000) (disch:=omega) only[evs,↓reduceIte,Nat.reduceEqDiff,Nat.reduceAdd,Nat.reduceMul,Nat.reduceLeDiff,Nat.reduceLT,Int.reduceNeg,DF,eff,Nat.reduceSub,aa];refine ae (vP w a hL hn) ?_;rintro _ h2 ⟨r,rfl,e,F2⟩;simp(maxSteps:=1000000) (disch:=omega) only[evs,↓reduceIte,Nat.reduceEqDiff,Nat.reduceAdd,Nat.reduceMul,Nat.reduceLeDiff,Nat.reduceLT,Int.reduceNeg,DF,eff,Nat.reduceSub,aa];exact⟨by rw[e],F2⟩
theorem vQ{h:Heap}{v:V}{L:List Knd}{cb:Nat}{least:Int}(w:WF h)(a:ARecs Knd.cells 9 h v L)(hL:∀q∈L,KndH h q)(hn:L.length≤70368744177664)(hc:∀h',Fr [] h h'→ab h' cb 2=some (.int .i64 least)):
    au go 62 [v,.func (.func 26) [] [.ptr cb 0]] h fun u h'=>∃r:Int,u=.int .i64 r∧(decide (0≤r)= !L.all (okL least))∧Fr [] h h':=by
  refine af ?_;simp(maxSteps:=1000000) (disch:=omega) only[evs,↓reduceIte,Nat.reduceEqDiff,Nat.reduceAdd,Nat.reduceMul,Nat.reduceLeDiff,Nat.reduceLT,Int.reduceNeg,DF,eff,Nat.reduceSub,aa,ARecs.len a];refine aQ (fun k env hh=>Fr [] h hh∧∃(i:Nat),env.get 8=some (.int .i64 i)∧env.get 7=some (.int .i64 L.length)∧env.get 0=some v∧env.get 1=some (.func (.func 26) [] [.ptr cb 0])∧
      i≤L.length∧(L.drop i).all (okL least)=L.all (okL least)∧k=L.length-i) L.length (by omega) ?_ ?_
  ·exact⟨Fr.refl w,0,(by simp[T.get_set]),(by simp[T.get_set]),(by simp[T.get_set]),(by simp[T.get_set]),by omega,rfl,rfl⟩
  ·rintro k env hh ⟨F,i,g8,g7,g0,g1,hi,e,rfl⟩;by_cases hlt:i<L.length
   ·have hlt':(i:Int)<L.length:=by omega
    obtain⟨b,o,s,e1,_,e3,e5⟩:=(ARecs.fr a F).ix bQ .i64 i (by omega) hlt';rw[Int.toNat_natCast]at e5;rw[bq e5,List.all_cons]at e;have hs:=hL s (List.mem_of_getElem? e5);simp(maxSteps:=1000000) (disch:=omega) only[evs,↓reduceIte,Nat.reduceEqDiff,Nat.reduceAdd,Nat.reduceMul,Nat.reduceLeDiff,Nat.reduceLT,Int.reduceNeg,DF,eff,Nat.reduceSub,aa,g8,g7,g0,g1,hlt',e1,e3];refine ae (wn F.wf (hs.fr F) (fun h2 f=>hc h2 (F.then f))) ?_;rintro _ h1 ⟨rfl,F1⟩;cases c:(okL least) s
    ·simp(maxSteps:=1000000) (disch:=omega) only[evs,↓reduceIte,Nat.reduceEqDiff,Nat.reduceAdd,Nat.reduceMul,Nat.reduceLeDiff,Nat.reduceLT,Int.reduceNeg,DF,eff,Nat.reduceSub,aa,g8,g7,g0,g1];rw[c]at e;exact⟨i,rfl,by rw[←e];simp,F.then F1⟩
    ·simp(maxSteps:=1000000) (disch:=omega) only[evs,↓reduceIte,Nat.reduceEqDiff,Nat.reduceAdd,Nat.reduceMul,Nat.reduceLeDiff,Nat.reduceLT,Int.reduceNeg,DF,eff,Nat.reduceSub,aa,g8,g7,g0,g1];rw[c]at e;refine rqn ⟨L.length-(i+1),by omega,F.then F1,i+1,(by simp[T.get_set]),(by simp[T.get_set,g7]),(by simp[T.get_set,g0]),(by simp[T.get_set,g1]),by omega,by simpa using e,rfl⟩
     done
   ·simp(maxSteps:=1000000) (disch:=omega) only[evs,↓reduceIte,Nat.reduceEqDiff,Nat.reduceAdd,Nat.reduceMul,Nat.reduceLeDiff,Nat.reduceLT,Int.reduceNeg,DF,eff,Nat.reduceSub,aa,g8,g7,g0,g1,show¬(i:Int)<L.length by omega];rw[List.drop_of_length_le (by omega)]at e;exact⟨-1,rfl,by rw[←e];rfl,F⟩
theorem vS{h:Heap}{v:V}{L:List Knd}{cb:Nat}{least:Int}(w:WF h)(a:ARecs Knd.cells 9 h v L)(hL:∀q∈L,KndH h q)(hn:L.length≤70368744177664)(hc:∀h',Fr [] h h'→ab h' cb 2=some (.int .i64 least)):
    au go 28 [v,.func (.func 26) [] [.ptr cb 0]] h fun u h'=>u=.bool (!L.all (okL least))∧Fr [] h h':=by
  refine af ?_;simp(maxSteps:=1000000) (disch:=omega) only[evs,↓reduceIte,Nat.reduceEqDiff,Nat.reduceAdd,Nat.reduceMul,Nat.reduceLeDiff,Nat.reduceLT,Int.reduceNeg,DF,eff,Nat.reduceSub,aa];refine ae (vQ w a hL hn hc) ?_;rintro _ h2 ⟨r,rfl,e,F2⟩;simp(maxSteps:=1000000) (disch:=omega) only[evs,↓reduceIte,Nat.reduceEqDiff,Nat.reduceAdd,Nat.reduceMul,Nat.reduceLeDiff,Nat.reduceLT,Int.reduceNeg,DF,eff,Nat.reduceSub,aa];exact⟨by rw[e],F2⟩
theorem sY{h:Heap}{c:Cfg}(w:WF h)(a:CfH h c):au go 61 [.agg c.cells] h fun u h'=>u=.agg [c.vK,.int .i64 c.cap]∧Fr [] h h':=by
  have on:=a.ks.one;obtain⟨h1,e_h1⟩:∃h1,h1=halloc h c.cells:=⟨_,rfl⟩;have F_h1:Fr [] h h1:=e_h1▸Fr.halloc w _;have o_h1:Own h1 h.next c.cells:=e_h1▸Own.new w _;obtain⟨h2,e_h2⟩:∃h2,h2=halloc h1 [.nils,.int .i64 0]:=⟨_,rfl⟩;have F_h2:Fr [] h1 h2:=e_h2▸Fr.halloc F_h1.wf _;have o_h2:Own h2 h1.next [.nils,.int .i64 0]:=e_h2▸Own.new F_h1.wf _;have l3:ab h2 h.next 3=some c.vK:=(F_h2.get o_h1).ld1 3;have l4:ab h2 h.next 4=some (.int .i64 c.cap):=(F_h2.get o_h1).ld1 4;refine af ?_;simp(maxSteps:=1000000) (disch:=omega) only[evs,↓reduceIte,Nat.reduceEqDiff,Nat.reduceAdd,Nat.reduceMul,Nat.reduceLeDiff,Nat.reduceLT,Int.reduceNeg,DF,eff,Nat.reduceSub,aa,←e_h1,←e_h2,l3,l4,ay on];refine ao (c':=[c.vK,.int .i64 c.cap]) F_h2.wf o_h2 rfl (by simp only[V.cells,aB,aR,on];rfl) rfl ?_;rintro h3 o3 F3 n3;have l5:ak h3 h1.next 0 2=some [c.vK,.int .i64 c.cap]:=by rw[o3.ld];rfl
  have n1:h1.next=h.next+1:=by rw[e_h1];rfl
  simp(maxSteps:=1000000) (disch:=omega) only[evs,↓reduceIte,Nat.reduceEqDiff,Nat.reduceAdd,Nat.reduceMul,Nat.reduceLeDiff,Nat.reduceLT,Int.reduceNeg,DF,eff,Nat.reduceSub,aa,l5];exact(F_h1.then F_h2).fresh F3 w (by omega)
def jM(c:Cfg):Bool:=okR c.Ks c.cap&&(decide (1≤c.arena)&&(decide (c.arena≤65536)&&c.Ks.all okP))
theorem vX{h:Heap}{c:Cfg}(w:WF h)(a:CfH h c):au go 27 [.agg c.cells] h fun u h'=>u=.int .i64 (if jM c then 0 else 7)∧Fr [] h h':=by
  obtain⟨h1,e_h1⟩:∃h1,h1=halloc h c.cells:=⟨_,rfl⟩;have F_h1:Fr [] h h1:=e_h1▸Fr.halloc w _;have o_h1:Own h1 h.next c.cells:=e_h1▸Own.new w _;have l7:ak h1 h.next 0 7=some c.cells:=by rw[o_h1.ld];rfl
  refine af ?_;simp(maxSteps:=1000000) (disch:=omega) only[evs,↓reduceIte,Nat.reduceEqDiff,Nat.reduceAdd,Nat.reduceMul,Nat.reduceLeDiff,Nat.reduceLT,Int.reduceNeg,DF,eff,Nat.reduceSub,aa,←e_h1,l7];refine ae (sY F_h1.wf (a.fr F_h1)) ?_;rintro _ h2 ⟨rfl,F2⟩;have a2:=(a.fr F_h1).fr F2;simp(maxSteps:=1000000) (disch:=omega) only[evs,↓reduceIte,Nat.reduceEqDiff,Nat.reduceAdd,Nat.reduceMul,Nat.reduceLeDiff,Nat.reduceLT,Int.reduceNeg,DF,eff,Nat.reduceSub,aa];refine ae (fH F2.wf a2.ks a2.each a2.n) ?_;rintro _ h3 ⟨rfl,F3⟩;have F03:=(F_h1.then F2).then F3;cases c0:okR c.Ks c.cap
  ·simp(maxSteps:=1000000) (disch:=omega) only[evs,↓reduceIte,Nat.reduceEqDiff,Nat.reduceAdd,Nat.reduceMul,Nat.reduceLeDiff,Nat.reduceLT,Int.reduceNeg,DF,eff,Nat.reduceSub,aa,c0,show¬(7:Int)=0 by omega];exact⟨by simp[jM,c0],F03⟩
  have o3:=F3.get (F2.get o_h1);have l5:ab h3 h.next 5=some (.int .i64 c.arena):=o3.ld1 5;have l3:ab h3 h.next 3=some c.vK:=o3.ld1 3;by_cases c1:c.arena<1
  ·simp(maxSteps:=1000000) (disch:=omega) only[evs,↓reduceIte,Nat.reduceEqDiff,Nat.reduceAdd,Nat.reduceMul,Nat.reduceLeDiff,Nat.reduceLT,Int.reduceNeg,DF,eff,Nat.reduceSub,aa,c0,show¬(7:Int)=0 by omega,l5,c1];exact⟨by simp[jM];omega,F03⟩
  by_cases c2:65536<c.arena
  ·simp(maxSteps:=1000000) (disch:=omega) only[evs,↓reduceIte,Nat.reduceEqDiff,Nat.reduceAdd,Nat.reduceMul,Nat.reduceLeDiff,Nat.reduceLT,Int.reduceNeg,DF,eff,Nat.reduceSub,aa,c0,show¬(7:Int)=0 by omega,l5,c1,c2];exact⟨by simp[jM];omega,F03⟩
  simp(maxSteps:=1000000) (disch:=omega) only[evs,↓reduceIte,Nat.reduceEqDiff,Nat.reduceAdd,Nat.reduceMul,Nat.reduceLeDiff,Nat.reduceLT,Int.reduceNeg,DF,eff,Nat.reduceSub,aa,c0,l5,l3,c1,c2];refine ae (vR F3.wf (a2.fr F3).ks (a2.fr F3).each a2.n) ?_;rintro _ h4 ⟨rfl,F4⟩;have e:jM c=c.Ks.all okP:=by simp[jM,c0,show 1≤c.arena by omega,show c.arena≤65536 by omega]
  rw[e];cases c3:c.Ks.all okP
  ·simp(maxSteps:=1000000) (disch:=omega) only[evs,↓reduceIte,Nat.reduceEqDiff,Nat.reduceAdd,Nat.reduceMul,Nat.reduceLeDiff,Nat.reduceLT,Int.reduceNeg,DF,eff,Nat.reduceSub,aa,c3];exact F03.then F4
  ·simp(maxSteps:=1000000) (disch:=omega) only[evs,↓reduceIte,Nat.reduceEqDiff,Nat.reduceAdd,Nat.reduceMul,Nat.reduceLeDiff,Nat.reduceLT,Int.reduceNeg,DF,eff,Nat.reduceSub,aa,c3];exact F03.then F4
/-- the configuration is right -/
def cfB(c:Cfg):Bool:=decide (1≤c.view)&&(decide (c.view≤2147483648)&&(decide (0≤c.over)&&(decide (c.over≤16)&&(decide (1≤c.least)&&(decide (c.least≤2305843009213693952)&&(decide (c.flaw≤6)&&(jM c&&c.Ks.all (okL c.least))))))))
theorem em{h:Heap}{c:Cfg}(w:WF h)(a:CfH h c):au go 7 [.agg c.cells] h fun u h'=>u=.int .i64 (if cfB c then 0 else 7)∧Fr [] h h':=by
  obtain⟨h1,e_h1⟩:∃h1,h1=halloc h c.cells:=⟨_,rfl⟩;have F_h1:Fr [] h h1:=e_h1▸Fr.halloc w _;have o_h1:Own h1 h.next c.cells:=e_h1▸Own.new w _;have l0:ab h1 h.next 0=some (.int .i64 c.view):=o_h1.ld1 0;have l1:ab h1 h.next 1=some (.int .i64 c.over):=o_h1.ld1 1;have l2:ab h1 h.next 2=some (.int .i64 c.least):=o_h1.ld1 2;have l6:ab h1 h.next 6=some (.int .u8 (c.flaw:Int)):=o_h1.ld1 6;have l7:ak h1 h.next 0 7=some c.cells:=by rw[o_h1.ld];rfl
  by_cases c0:c.view<1
  ·refine af ?_;simp(maxSteps:=1000000) (disch:=omega) only[evs,↓reduceIte,Nat.reduceEqDiff,Nat.reduceAdd,Nat.reduceMul,Nat.reduceLeDiff,Nat.reduceLT,Int.reduceNeg,DF,eff,Nat.reduceSub,aa,←e_h1,l0,c0];exact⟨by simp[cfB];omega,F_h1⟩
  by_cases c1:2147483648<c.view
  ·refine af ?_;simp(maxSteps:=1000000) (disch:=omega) only[evs,↓reduceIte,Nat.reduceEqDiff,Nat.reduceAdd,Nat.reduceMul,Nat.reduceLeDiff,Nat.reduceLT,Int.reduceNeg,DF,eff,Nat.reduceSub,aa,←e_h1,l0,c0,c1];exact⟨by simp[cfB];omega,F_h1⟩
  by_cases c2:c.over<0
  ·refine af ?_;simp(maxSteps:=1000000) (disch:=omega) only[evs,↓reduceIte,Nat.reduceEqDiff,Nat.reduceAdd,Nat.reduceMul,Nat.reduceLeDiff,Nat.reduceLT,Int.reduceNeg,DF,eff,Nat.reduceSub,aa,←e_h1,l0,l1,c0,c1,c2];exact⟨by simp[cfB];omega,F_h1⟩
  by_cases c3:16<c.over
  ·refine af ?_;simp(maxSteps:=1000000) (disch:=omega) only[evs,↓reduceIte,Nat.reduceEqDiff,Nat.reduceAdd,Nat.reduceMul,Nat.reduceLeDiff,Nat.reduceLT,Int.reduceNeg,DF,eff,Nat.reduceSub,aa,←e_h1,l0,l1,c0,c1,c2,c3];exact⟨by simp[cfB];omega,F_h1⟩
  by_cases c4:c.least<1
  ·refine af ?_;simp(maxSteps:=1000000) (disch:=omega) only[evs,↓reduceIte,Nat.reduceEqDiff,Nat.reduceAdd,Nat.reduceMul,Nat.reduceLeDiff,Nat.reduceLT,Int.reduceNeg,DF,eff,Nat.reduceSub,aa,←e_h1,l0,l1,l2,c0,c1,c2,c3,c4];exact⟨by simp[cfB];omega,F_h1⟩
  by_cases c5:2305843009213693952<c.least
  ·refine af ?_;simp(maxSteps:=1000000) (disch:=omega) only[evs,↓reduceIte,Nat.reduceEqDiff,Nat.reduceAdd,Nat.reduceMul,Nat.reduceLeDiff,Nat.reduceLT,Int.reduceNeg,DF,eff,Nat.reduceSub,aa,←e_h1,l0,l1,l2,c0,c1,c2,c3,c4,c5];exact⟨by simp[cfB];omega,F_h1⟩
  by_cases c6:6<c.flaw
  ·refine af ?_;simp(maxSteps:=1000000) (disch:=omega) only[evs,↓reduceIte,Nat.reduceEqDiff,Nat.reduceAdd,Nat.reduceMul,Nat.reduceLeDiff,Nat.reduceLT,Int.reduceNeg,DF,eff,Nat.reduceSub,aa,←e_h1,l0,l1,l2,l6,c0,c1,c2,c3,c4,c5,show(6:Int)<(c.flaw:Int) by omega];exact⟨by simp[cfB];omega,F_h1⟩
  refine af ?_;simp(maxSteps:=1000000) (disch:=omega) only[evs,↓reduceIte,Nat.reduceEqDiff,Nat.reduceAdd,Nat.reduceMul,Nat.reduceLeDiff,Nat.reduceLT,Int.reduceNeg,DF,eff,Nat.reduceSub,aa,←e_h1,l0,l1,l2,l6,l7,c0,c1,c2,c3,c4,c5,show¬(6:Int)<(c.flaw:Int) by omega];refine ae (vX F_h1.wf (a.fr F_h1)) ?_;rintro _ h2 ⟨rfl,F2⟩;have F02:=F_h1.then F2;cases c7:jM c
  ·simp(maxSteps:=1000000) (disch:=omega) only[evs,↓reduceIte,Nat.reduceEqDiff,Nat.reduceAdd,Nat.reduceMul,Nat.reduceLeDiff,Nat.reduceLT,Int.reduceNeg,DF,eff,Nat.reduceSub,aa,c7,show¬(7:Int)=0 by omega];exact⟨by simp[cfB,c7],F02⟩
  have l3:ab h2 h.next 3=some c.vK:=(F2.get o_h1).ld1 3;simp(maxSteps:=1000000) (disch:=omega) only[evs,↓reduceIte,Nat.reduceEqDiff,Nat.reduceAdd,Nat.reduceMul,Nat.reduceLeDiff,Nat.reduceLT,Int.reduceNeg,DF,eff,Nat.reduceSub,aa,c7,l3];refine ae (vS (least:=c.least) F2.wf (a.fr F02).ks (a.fr F02).each a.n (fun h' f=>(f.get (F2.get o_h1)).ld1 2)) ?_;rintro _ h3 ⟨rfl,F3⟩;have e:cfB c=c.Ks.all (okL c.least):=by simp[cfB,c7,show 1≤c.view by omega,show c.view≤2147483648 by omega,show 0≤c.over by omega,show c.over≤16 by omega,show 1≤c.least by omega,show c.least≤2305843009213693952 by omega,show c.flaw≤6 by omega]
  rw[e];cases c8:c.Ks.all (okL c.least)
  ·simp(maxSteps:=1000000) (disch:=omega) only[evs,↓reduceIte,Nat.reduceEqDiff,Nat.reduceAdd,Nat.reduceMul,Nat.reduceLeDiff,Nat.reduceLT,Int.reduceNeg,DF,eff,Nat.reduceSub,aa,c8];exact F02.then F3
  ·simp(maxSteps:=1000000) (disch:=omega) only[evs,↓reduceIte,Nat.reduceEqDiff,Nat.reduceAdd,Nat.reduceMul,Nat.reduceLeDiff,Nat.reduceLT,Int.reduceNeg,DF,eff,Nat.reduceSub,aa,c8];exact F02.then F3
def PT.pcnt:PT→Int→Int→Int
  |.nil,_,n=>n
  |.cons _ _ _ _ _ _ _ sub nx,most,n=>if n≤most then nx.pcnt most (n+sub.pcnt (most-n) 1)else n
theorem PT.pcnt_le:∀(t:PT)(most n:Int),1≤n→n≤t.pcnt most n∧(t.pcnt most n≤n∨t.pcnt most n≤most+1)
  |.nil,_,_,_=>⟨Int.le_refl _,.inl (Int.le_refl _)⟩
  |.cons _ _ _ _ _ _ _ sub nx,most,n,h=>by
    simp only[PT.pcnt];split
    ·rename_i c;have a:=PT.pcnt_le sub (most-n) 1 (Int.le_refl _);have b:=PT.pcnt_le nx most (n+sub.pcnt (most-n) 1) (by omega);omega
    ·exact⟨Int.le_refl _,.inl (Int.le_refl _)⟩
def PaE(k:Nat)(tg ky:Str)(sl:List Slo)(tx:Str)(vs vp:V)(sub:PT):Prop:=∀(h:Heap)(most:Int),WF h→PH h (.cons k tg ky sl tx vs vp sub .nil)→0≤most→most≤80→
  au go 4 [.agg [.int .u8 (k:Int),.str tg,.str ky,vs,.str tx,vp],.int .i64 most] h fun u h'=>u=.int .i64 (sub.pcnt most 1)∧Fr [] h h'
def PaA:PT→Prop
  |.nil=>True
  |.cons k tg ky sl tx vs vp sub nx=>PaE k tg ky sl tx vs vp sub∧PaA nx
theorem PaA.at':∀{t:PT}(i:Nat),PaA t→PaA (t.at' i)
  |.nil,0,_=>trivial
  |.nil,_+1,_=>trivial
  |.cons _ _ _ _ _ _ _ _ _,0,a=>a
  |.cons _ _ _ _ _ _ _ _ _,i+1,⟨_,g⟩=>PaA.at' i g
theorem np{k:Nat}{tg ky:Str}{sl:List Slo}{tx:Str}{vs vp:V}{sub:PT}(A:PaA sub):PaE k tg ky sl tx vs vp sub:=by
  intro h most w ⟨hk,rs,ls0,sp,lp0,ph,_⟩ m0 m1;obtain⟨h1,e_h1⟩:∃h1,h1=halloc h [.int .u8 (k:Int),.str tg,.str ky,vs,.str tx,vp]:=⟨_,rfl⟩;have F_h1:Fr [] h h1:=e_h1▸Fr.halloc w _;have o_h1:Own h1 h.next [.int .u8 (k:Int),.str tg,.str ky,vs,.str tx,vp]:=e_h1▸Own.new w _;refine af ?_;simp(maxSteps:=1000000) (disch:=omega) only[evs,↓reduceIte,Nat.reduceEqDiff,Nat.reduceAdd,Nat.reduceMul,Nat.reduceLeDiff,Nat.reduceLT,Int.reduceNeg,DF,eff,Nat.reduceSub,aa,←e_h1];refine aQ (fun j env hh=>Fr [] h1 hh∧∃(i:Nat)(n:Int),env.get 6=some (.int .i64 i)∧env.get 5=some (.int .i64 n)∧env.get 2=some (.ptr h.next 0)∧env.get 1=some (.int .i64 most)∧
      i≤sub.len∧1≤n∧n≤81∧(sub.at' i).pcnt most n=sub.pcnt most 1∧j=sub.len-i) sub.len (by omega) ?_ ?_
  ·exact⟨Fr.refl F_h1.wf,0,1,(by simp[T.get_set]),(by simp[T.get_set]),(by simp[T.get_set]),(by simp[T.get_set]),by omega,by omega,by omega,by cases sub<;>rfl,rfl⟩
  ·rintro j env hh ⟨F,i,n,g6,g5,g2,g1,hi,n1,n2,e,rfl⟩;have l5:ab hh h.next 5=some vp:=(F.get o_h1).ld1 5;have sp':=(sp.fr F_h1).fr F;by_cases hlt:i<sub.len
   ·have hlt':(i:Int)<sub.len:=by omega
    obtain⟨kc,tgc,kyc,slc,txc,vsc,vpc,sb,nx,e1,e2,e3,e4,e5,e6⟩:=sub.split i hlt;by_cases c:n≤most
    ·have Ai:=A.at' i;have phi:=ph.at' i;rw[e1]at Ai phi e;obtain⟨b',o',p1,p2⟩:=sp'.ix6 hlt e2;have F0:=F_h1.then F;have q6:=p2.2.2.2.2.2.2;simp(maxSteps:=1000000) (disch:=omega) only[evs,↓reduceIte,Nat.reduceEqDiff,Nat.reduceAdd,Nat.reduceMul,Nat.reduceLeDiff,Nat.reduceLT,Int.reduceNeg,DF,eff,Nat.reduceSub,aa,g6,g5,g2,g1,l5,sp'.len,hlt',c,p1,q6];refine ae (Ai.1 hh (most-n) F.wf (PH.fr F0 ⟨phi.1,phi.2.1,phi.2.2.1,phi.2.2.2.1,phi.2.2.2.2.1,phi.2.2.2.2.2.1,trivial⟩) (by omega) (by omega)) ?_;rintro _ h2 ⟨rfl,F2⟩;have le:=PT.pcnt_le sb (most-n) 1 (by omega);simp(maxSteps:=1000000) (disch:=omega) only[evs,↓reduceIte,Nat.reduceEqDiff,Nat.reduceAdd,Nat.reduceMul,Nat.reduceLeDiff,Nat.reduceLT,Int.reduceNeg,DF,eff,Nat.reduceSub,aa,g6,g5,g2,g1];simp only[PT.pcnt,if_pos c]at e;refine rqn ⟨sub.len-(i+1),by omega,F.then F2,i+1,n+sb.pcnt (most-n) 1,(by simp[T.get_set]),(by simp[T.get_set]),(by simp[T.get_set,g2]),(by simp[T.get_set,g1]),by omega,by omega,by omega,by rw[e3];exact e,rfl⟩
     done
    ·simp(maxSteps:=1000000) (disch:=omega) only[evs,↓reduceIte,Nat.reduceEqDiff,Nat.reduceAdd,Nat.reduceMul,Nat.reduceLeDiff,Nat.reduceLT,Int.reduceNeg,DF,eff,Nat.reduceSub,aa,g6,g5,g2,g1,l5,sp'.len,hlt',c];rw[e1]at e;simp only[PT.pcnt,if_neg c]at e;rw[←e];exact⟨rfl,F_h1.then F⟩
   ·simp(maxSteps:=1000000) (disch:=omega) only[evs,↓reduceIte,Nat.reduceEqDiff,Nat.reduceAdd,Nat.reduceMul,Nat.reduceLeDiff,Nat.reduceLT,Int.reduceNeg,DF,eff,Nat.reduceSub,aa,g6,g5,g2,g1,l5,sp'.len,show¬(i:Int)<sub.len by omega];rw[PT.at_end _ _ (by omega)]at e;rw[←e];exact⟨rfl,F_h1.then F⟩
theorem paa:∀t:PT,PaA t
  |.nil=>trivial
  |.cons _ _ _ _ _ _ _ sub nx=>⟨np (paa sub),paa nx⟩
/-- a slice in memory of its own, from block B on, without spare room -/
def CpG(e:Nat)(h:Heap)(B:Nat)(v:V)(n:Nat)(cs:List V):Prop:=cs.length=n*e∧((n=0∧(v=.nils∨∃b,B≤b∧v=.slice b 0 0 0∧Own h b []))∨∃b,B≤b∧v=.slice b 0 n n∧Own h b cs)
theorem CpG.sl{e:Nat}{h:Heap}{B n:Nat}{v:V}{cs:List V}(g:CpG e h B v n cs):Sl h e v n cs:=by
  obtain⟨hl,⟨rfl,rfl|⟨b,_,rfl,o⟩⟩|⟨b,_,rfl,o⟩⟩:=g
  ·exact⟨hl,rfl⟩
  ·have:cs=[]:=List.length_eq_zero_iff.1 (by omega);subst this;exact⟨hl,rfl,Nat.le_refl _,[],o,by simp,by simp⟩
  ·exact⟨hl,rfl,Nat.le_refl _,cs,o,by omega,by rw[List.drop_zero,List.take_of_length_le (by omega)]⟩
theorem CpG.fr{e:Nat}{h h':Heap}{B n:Nat}{v:V}{cs:List V}{X:List Nat}(g:CpG e h B v n cs)(f:Fr X h h')(hx:∀x∈X,x<B):CpG e h' B v n cs:=by
  obtain⟨hl,⟨rfl,rfl|⟨b,hb,rfl,o⟩⟩|⟨b,hb,rfl,o⟩⟩:=g
  ·exact⟨hl,.inl ⟨rfl,.inl rfl⟩⟩
  ·exact⟨hl,.inl ⟨rfl,.inr ⟨b,hb,rfl,f.own _ _ (fun m=>by have:=hx _ m;omega) o⟩⟩⟩
  ·exact⟨hl,.inr ⟨b,hb,rfl,f.own _ _ (fun m=>by have:=hx _ m;omega) o⟩⟩
theorem CpG.frH{e:Nat}{h h':Heap}{B n:Nat}{v:V}{cs:List V}{X:List Nat}(w:WF h)(g:CpG e h B v n cs)(f:Fr X h h')(hx:∀x∈X,x<B∨h.next≤x):CpG e h' B v n cs:=by
  obtain⟨hl,⟨rfl,rfl|⟨b,hb,rfl,o⟩⟩|⟨b,hb,rfl,o⟩⟩:=g
  ·exact⟨hl,.inl ⟨rfl,.inl rfl⟩⟩
  ·exact⟨hl,.inl ⟨rfl,.inr ⟨b,hb,rfl,f.own _ _ (fun m=>by have:=hx _ m;have:=o.lt w;omega) o⟩⟩⟩
  ·exact⟨hl,.inr ⟨b,hb,rfl,f.own _ _ (fun m=>by have:=hx _ m;have:=o.lt w;omega) o⟩⟩
theorem CpG.one{e:Nat}{h:Heap}{B n:Nat}{v:V}{cs:List V}(g:CpG e h B v n cs):v.one=true:=g.sl.one
theorem ui{N:Nat}{h:Heap}{v:V}{n:Nat}{cs:List V}(g:Gn 9 h N v n cs):au go 58 [v] h fun u h'=>CpG 9 h N u n cs∧h=h':=by
  have q:∀y n,n≤y→aw n y false true true [.int .i64 (n:Int),.int .i64 (n:Int)]=some (0,n,some n):=fun y n hy=>by
    simp only[aw,aO .i64 (n:Int) y (by omega) (by omega),aO .i64 (n:Int) n (by omega) (by omega),Option.bind_some,Option.map_some,Int.toNat_natCast]
  obtain⟨hl,⟨rfl,rfl|⟨b,hb,rfl,o⟩⟩|⟨b,hb,rfl,o⟩⟩:=g
  ·have x:aP (.sl none 9 false true true) [.nils,.int .i64 0,.int .i64 0]=some .nils:=rfl;refine af ?_;simp(maxSteps:=1000000) (disch:=omega) only[evs,↓reduceIte,Nat.reduceEqDiff,Nat.reduceAdd,Nat.reduceMul,Nat.reduceLeDiff,Nat.reduceLT,Int.reduceNeg,DF,eff,Nat.reduceSub,aa,x];exact⟨hl,.inl ⟨rfl,.inl rfl⟩⟩
  ·have x:aP (.sl none 9 false true true) [.slice b 0 0 0,.int .i64 ((0:Nat):Int),.int .i64 ((0:Nat):Int)]=some (.slice b 0 0 0):=by
     simp only[aP,bD,q 0 0 (Nat.le_refl _),Option.map_some,Option.getD_some];rfl
   refine af ?_;simp(maxSteps:=1000000) (disch:=omega) only[evs,↓reduceIte,Nat.reduceEqDiff,Nat.reduceAdd,Nat.reduceMul,Nat.reduceLeDiff,Nat.reduceLT,Int.reduceNeg,DF,eff,Nat.reduceSub,aa,x];exact⟨hl,.inl ⟨rfl,.inr ⟨b,hb,rfl,o⟩⟩⟩
  ·have x:aP (.sl none 9 false true true) [.sliceU b 0 n 9,.int .i64 ((n:Nat):Int),.int .i64 ((n:Nat):Int)]=some (.slice b 0 n n):=by
     simp only[aP,bD,eS (rfl:9=9),(Nat.blt_eq ..).mpr (show 0<9 by omega),Bool.and_self,cond_true,q n n (Nat.le_refl _),Option.map_some,Option.bind_some,Option.getD_some];cases Nat.beq n 0<;>simp
   refine af ?_;simp(maxSteps:=1000000) (disch:=omega) only[evs,↓reduceIte,Nat.reduceEqDiff,Nat.reduceAdd,Nat.reduceMul,Nat.reduceLeDiff,Nat.reduceLT,Int.reduceNeg,DF,eff,Nat.reduceSub,aa,x];exact⟨hl,.inr ⟨b,hb,rfl,o⟩⟩
theorem uk{N:Nat}{h:Heap}{v:V}{n:Nat}{cs:List V}(g:Gn 3 h N v n cs):au go 106 [v] h fun u h'=>CpG 3 h N u n cs∧h=h':=by
  have q:∀y n,n≤y→aw n y false true true [.int .i64 (n:Int),.int .i64 (n:Int)]=some (0,n,some n):=fun y n hy=>by
    simp only[aw,aO .i64 (n:Int) y (by omega) (by omega),aO .i64 (n:Int) n (by omega) (by omega),Option.bind_some,Option.map_some,Int.toNat_natCast]
  obtain⟨hl,⟨rfl,rfl|⟨b,hb,rfl,o⟩⟩|⟨b,hb,rfl,o⟩⟩:=g
  ·have x:aP (.sl none 3 false true true) [.nils,.int .i64 0,.int .i64 0]=some .nils:=rfl;refine af ?_;simp(maxSteps:=1000000) (disch:=omega) only[evs,↓reduceIte,Nat.reduceEqDiff,Nat.reduceAdd,Nat.reduceMul,Nat.reduceLeDiff,Nat.reduceLT,Int.reduceNeg,DF,eff,Nat.reduceSub,aa,x];exact⟨hl,.inl ⟨rfl,.inl rfl⟩⟩
  ·have x:aP (.sl none 3 false true true) [.slice b 0 0 0,.int .i64 ((0:Nat):Int),.int .i64 ((0:Nat):Int)]=some (.slice b 0 0 0):=by
     simp only[aP,bD,q 0 0 (Nat.le_refl _),Option.map_some,Option.getD_some];rfl
   refine af ?_;simp(maxSteps:=1000000) (disch:=omega) only[evs,↓reduceIte,Nat.reduceEqDiff,Nat.reduceAdd,Nat.reduceMul,Nat.reduceLeDiff,Nat.reduceLT,Int.reduceNeg,DF,eff,Nat.reduceSub,aa,x];exact⟨hl,.inl ⟨rfl,.inr ⟨b,hb,rfl,o⟩⟩⟩
  ·have x:aP (.sl none 3 false true true) [.sliceU b 0 n 3,.int .i64 ((n:Nat):Int),.int .i64 ((n:Nat):Int)]=some (.slice b 0 n n):=by
     simp only[aP,bD,eS (rfl:3=3),(Nat.blt_eq ..).mpr (show 0<3 by omega),Bool.and_self,cond_true,q n n (Nat.le_refl _),Option.map_some,Option.bind_some,Option.getD_some];cases Nat.beq n 0<;>simp
   refine af ?_;simp(maxSteps:=1000000) (disch:=omega) only[evs,↓reduceIte,Nat.reduceEqDiff,Nat.reduceAdd,Nat.reduceMul,Nat.reduceLeDiff,Nat.reduceLT,Int.reduceNeg,DF,eff,Nat.reduceSub,aa,x];exact⟨hl,.inr ⟨b,hb,rfl,o⟩⟩
theorem uj{N:Nat}{h:Heap}{v:V}{n:Nat}{cs:List V}(g:Gn 6 h N v n cs):au go 107 [v] h fun u h'=>CpG 6 h N u n cs∧h=h':=by
  have q:∀y n,n≤y→aw n y false true true [.int .i64 (n:Int),.int .i64 (n:Int)]=some (0,n,some n):=fun y n hy=>by
    simp only[aw,aO .i64 (n:Int) y (by omega) (by omega),aO .i64 (n:Int) n (by omega) (by omega),Option.bind_some,Option.map_some,Int.toNat_natCast]
  obtain⟨hl,⟨rfl,rfl|⟨b,hb,rfl,o⟩⟩|⟨b,hb,rfl,o⟩⟩:=g
  ·have x:aP (.sl none 6 false true true) [.nils,.int .i64 0,.int .i64 0]=some .nils:=rfl;refine af ?_;simp(maxSteps:=1000000) (disch:=omega) only[evs,↓reduceIte,Nat.reduceEqDiff,Nat.reduceAdd,Nat.reduceMul,Nat.reduceLeDiff,Nat.reduceLT,Int.reduceNeg,DF,eff,Nat.reduceSub,aa,x];exact⟨hl,.inl ⟨rfl,.inl rfl⟩⟩
  ·have x:aP (.sl none 6 false true true) [.slice b 0 0 0,.int .i64 ((0:Nat):Int),.int .i64 ((0:Nat):Int)]=some (.slice b 0 0 0):=by
     simp only[aP,bD,q 0 0 (Nat.le_refl _),Option.map_some,Option.getD_some];rfl
   refine af ?_;simp(maxSteps:=1000000) (disch:=omega) only[evs,↓reduceIte,Nat.reduceEqDiff,Nat.reduceAdd,Nat.reduceMul,Nat.reduceLeDiff,Nat.reduceLT,Int.reduceNeg,DF,eff,Nat.reduceSub,aa,x];exact⟨hl,.inl ⟨rfl,.inr ⟨b,hb,rfl,o⟩⟩⟩
  ·have x:aP (.sl none 6 false true true) [.sliceU b 0 n 6,.int .i64 ((n:Nat):Int),.int .i64 ((n:Nat):Int)]=some (.slice b 0 n n):=by
     simp only[aP,bD,eS (rfl:6=6),(Nat.blt_eq ..).mpr (show 0<6 by omega),Bool.and_self,cond_true,q n n (Nat.le_refl _),Option.map_some,Option.bind_some,Option.getD_some];cases Nat.beq n 0<;>simp
   refine af ?_;simp(maxSteps:=1000000) (disch:=omega) only[evs,↓reduceIte,Nat.reduceEqDiff,Nat.reduceAdd,Nat.reduceMul,Nat.reduceLeDiff,Nat.reduceLT,Int.reduceNeg,DF,eff,Nat.reduceSub,aa,x];exact⟨hl,.inr ⟨b,hb,rfl,o⟩⟩
/-- the block of a slice -/
def sbk:V→List Nat
  |.slice b _ _ _=>[b]
  |_=>[]
/-- a part is copied, without spare room -/
def EPp(k:Nat)(tg ky:Str)(sl:List Slo)(tx:Str)(vs vp:V)(sub:PT):Prop:=∀(h:Heap),WF h→PH h (.cons k tg ky sl tx vs vp sub .nil)→
  PT.small (.cons k tg ky sl tx vs vp sub .nil)→au go 59 [.agg [.int .u8 (k:Int),.str tg,.str ky,vs,.str tx,vp]] h fun u h'=>∃vs' vp' sub',u=.agg [.int .u8 (k:Int),.str tg,.str ky,vs',.str tx,vp']∧PT.same sub sub'∧Fr [] h h'∧CpG 6 h' h.next vp' sub.len sub'.cells∧
    ∀(X:List Nat)(h2:Heap),(∀y∈X,y<h.next)→Fr X h' h2→PH h2 (.cons k tg ky sl tx vs' vp' sub' .nil)
def EPs:PT→Prop
  |.nil=>True
  |.cons k tg ky sl tx vs vp sub nx=>EPp k tg ky sl tx vs vp sub∧EPs nx
theorem EPs.at':∀{t:PT}(i:Nat),EPs t→EPs (t.at' i)
  |.nil,0,_=>trivial
  |.nil,_+1,_=>trivial
  |.cons _ _ _ _ _ _ _ _ _,0,a=>a
  |.cons _ _ _ _ _ _ _ _ _,i+1,⟨_,g⟩=>EPs.at' i g
theorem nT{k:Nat}{tg ky:Str}{sl:List Slo}{tx:Str}{vs vp:V}{sub:PT}(P:EPs sub):EPp k tg ky sl tx vs vp sub:=by
  intro h w ⟨hk,rs,ls0,sp,lp0,ph,_⟩ ⟨ls,lp,sm0,_⟩;have zs:nZ vs=true:=rfl;have zp:nZ vp=true:=rfl;obtain⟨h1,e_h1⟩:∃h1,h1=halloc h [.int .u8 (k:Int),.str tg,.str ky,vs,.str tx,vp]:=⟨_,rfl⟩;have F_h1:Fr [] h h1:=e_h1▸Fr.halloc w _;have o_h1:Own h1 h.next [.int .u8 (k:Int),.str tg,.str ky,vs,.str tx,vp]:=e_h1▸Own.new w _;obtain⟨h2,e_h2⟩:∃h2,h2=halloc h1 [.int .u8 0,.str [],.str [],.nils,.str [],.nils]:=⟨_,rfl⟩;have F_h2:Fr [] h1 h2:=e_h2▸Fr.halloc F_h1.wf _;have o_h2:Own h2 h1.next [.int .u8 0,.str [],.str [],.nils,.str [],.nils]:=e_h2▸Own.new F_h1.wf _;have n1:h1.next=h.next+1:=by rw[e_h1];rfl
  have n2:h2.next=h1.next+1:=by rw[e_h2];rfl
  have F02:=F_h1.then F_h2;have ob:=F_h2.get o_h1;have l3:ab h2 h.next 3=some vs:=ob.ld1 3;have l5:ab h2 h.next 5=some vp:=ob.ld1 5;refine af ?_;simp(maxSteps:=1000000) (disch:=omega) only[evs,↓reduceIte,Nat.reduceEqDiff,Nat.reduceAdd,Nat.reduceMul,Nat.reduceLeDiff,Nat.reduceLT,Int.reduceNeg,DF,eff,Nat.reduceSub,aa,←e_h1,←e_h2,l3];refine ae (iC F_h2.wf (ARecs.fr rs F02) zs (by omega)) ?_;rintro vs0 h3 ⟨gs0,F3⟩;simp(maxSteps:=1000000) (disch:=omega) only[evs,↓reduceIte,Nat.reduceEqDiff,Nat.reduceAdd,Nat.reduceMul,Nat.reduceLeDiff,Nat.reduceLT,Int.reduceNeg,DF,eff,Nat.reduceSub,aa];refine ae (uk gs0) ?_;rintro vs' _ ⟨gs,rfl⟩;simp(maxSteps:=1000000) (disch:=omega) only[evs,↓reduceIte,Nat.reduceEqDiff,Nat.reduceAdd,Nat.reduceMul,Nat.reduceLeDiff,Nat.reduceLT,Int.reduceNeg,DF,eff,Nat.reduceSub,aa];refine ao (c':=[.int .u8 (k:Int),.str tg,.str ky,vs',.str tx,vp]) F3.wf (F3.get ob) (by simp[ay gs.one]) (by rw[ay gs.one];simp only[aB,aR,gs.one];rfl) (by rw[ay gs.one];rfl) ?_;rintro h4 o4 F4 n4;have F04:Fr [] h h4:=(F02.then F3).fresh F4 w (Nat.le_refl _);have l5':ab h4 h.next 5=some vp:=o4.ld1 5;simp(maxSteps:=1000000) (disch:=omega) only[evs,↓reduceIte,Nat.reduceEqDiff,Nat.reduceAdd,Nat.reduceMul,Nat.reduceLeDiff,Nat.reduceLT,Int.reduceNeg,DF,eff,Nat.reduceSub,aa,l5'];refine ae (gJ F4.wf (sp.fr F04) zp (by omega)) ?_;rintro vp0 h5 ⟨gp0,F5⟩;simp(maxSteps:=1000000) (disch:=omega) only[evs,↓reduceIte,Nat.reduceEqDiff,Nat.reduceAdd,Nat.reduceMul,Nat.reduceLeDiff,Nat.reduceLT,Int.reduceNeg,DF,eff,Nat.reduceSub,aa];refine ae (uj gp0) ?_;rintro vp' _ ⟨gp,rfl⟩;simp(maxSteps:=1000000) (disch:=omega) only[evs,↓reduceIte,Nat.reduceEqDiff,Nat.reduceAdd,Nat.reduceMul,Nat.reduceLeDiff,Nat.reduceLT,Int.reduceNeg,DF,eff,Nat.reduceSub,aa];refine ao (c':=[.int .u8 (k:Int),.str tg,.str ky,vs',.str tx,vp']) F5.wf (F5.get o4) (by simp[ay gp.one]) (by rw[ay gp.one];simp only[aB,aR,gp.one];rfl) (by rw[ay gp.one];rfl) ?_;rintro h6 o6 F6 n6;have l56:ab h6 h.next 5=some vp':=o6.ld1 5;have hn3:=F3.next;have gp6:=gp.fr F6 (by simp;omega);simp(maxSteps:=1000000) (disch:=omega) only[evs,↓reduceIte,Nat.reduceEqDiff,Nat.reduceAdd,Nat.reduceMul,Nat.reduceLeDiff,Nat.reduceLT,Int.reduceNeg,DF,eff,Nat.reduceSub,aa,l56,gp6.sl.len];have F06:Fr [] h h6:=(F04.then F5).fresh F6 w (Nat.le_refl _);have oz6:Own h6 h1.next [.int .u8 0,.str [],.str [],.nils,.str [],.nils]:=F6.own _ _ (by simp;omega) (F5.get (F4.own _ _ (by simp;omega) (F3.get o_h2)));have F26:Fr [h.next] h3 h6:=Fr.trans (Fr.trans (T:=[h.next]) F4 F5 F3.wf (by simp) (by simp)) F6 F3.wf (by simp) (by simp);have gs6:CpG 3 h6 h2.next vs' sl.length (sl.flatMap my):=gs.fr F26 (by simp;omega);have vpl:∀y∈sbk vp',h4.next≤y∧y<h6.next:=by
    obtain⟨_,⟨_,rfl|⟨b,hb,rfl,o⟩⟩|⟨b,hb,rfl,o⟩⟩:=gp6
    ·simp[sbk]
    ·have:=o.lt F6.wf;simp only[sbk,List.mem_singleton];rintro y rfl;exact⟨hb,this⟩
    ·have:=o.lt F6.wf;simp only[sbk,List.mem_singleton];rintro y rfl;exact⟨hb,this⟩
  refine aQ (fun n env hh=>Fr [] h hh∧h6.next≤hh.next∧Own hh h.next [.int .u8 (k:Int),.str tg,.str ky,vs',.str tx,vp']∧Own hh h1.next [.int .u8 0,.str [],.str [],.nils,.str [],.nils]∧(∃X3:List Nat,(∀y∈X3,y<h2.next∨h3.next≤y)∧Fr X3 h3 hh)∧
      ∃(i:Nat)(d:PT),env.get 17=some (.int .i64 i)∧env.get 16=some (.int .i64 sub.len)∧env.get 1=some (.ptr h.next 0)∧env.get 2=some (.ptr h1.next 0)∧i≤sub.len∧d.len=i∧PT.same (sub.take' i) d∧
      CpG 6 hh h4.next vp' sub.len (d.cells++sub.cells.drop (i*6))∧(∀(X:List Nat)(h2:Heap),(∀y∈X,y<h.next∨y=h.next∨y=h1.next∨y∈sbk vp')→Fr X hh h2→PH h2 d)∧n=sub.len-i) sub.len (by omega) ?_ ?_
  ·exact⟨F06,Nat.le_refl _,o6,oz6,⟨_,by simp;omega,F26⟩,0,.nil,(by simp[T.get_set]),(by simp[T.get_set]),(by simp[T.get_set]),(by simp[T.get_set]),by omega,rfl,by cases sub<;>trivial,by simpa[PT.cells]using gp6,fun _ _ _ _=>trivial,rfl⟩
  ·rintro n env hh ⟨F,hn,ox,oz,⟨X3,hX3,fX3⟩,i,d,g17,g16,g1,g2,hi,dl,ds,gph,dst,rfl⟩;have lx:ab hh h.next 5=some vp':=ox.ld1 5;by_cases hlt:i<sub.len
   ·have hlt':(i:Int)<sub.len:=by omega
    obtain⟨kc,tgc,kyc,slc,txc,vsc,vpc,sb,nx,e1,e2,e3,e4,e5,e6⟩:=sub.split i hlt;have Pi:=P.at' i;have phi:=ph.at' i;have smi:=PT.small_at i sm0;rw[e1]at Pi phi smi;obtain⟨_,⟨z,_⟩|⟨bp,hbp,rfl,obp⟩⟩:=gph
    ·omega
    have dc:=d.cells_len;rw[dl]at dc;have q0:∀Y:List V,(d.cells++Y).drop (i*6)=Y:=fun Y=>by rw[←dc,List.drop_left]
    have q1:∀Y:List V,(d.cells++Y).take (i*6)=d.cells:=fun Y=>by rw[←dc,List.take_left]
    have q2:∀Y:List V,(d.cells++Y).drop (i*6+6)=Y.drop 6:=fun Y=>by rw[←dc,List.drop_length_add_append]
    have ix:=cZ 6 bp 0 sub.len sub.len .i64 (i:Int) (by omega) hlt';simp only[Int.toNat_natCast,Nat.zero_add]at ix;have lc:ak hh bp (i*6) 6=some [.int .u8 (kc:Int),.str tgc,.str kyc,vsc,.str txc,vpc]:=by
      rw[obp.ld,aC,q0,e2];rfl
    have hb:=vpl bp (by simp[sbk]);simp(maxSteps:=1000000) (disch:=omega) only[evs,↓reduceIte,Nat.reduceEqDiff,Nat.reduceAdd,Nat.reduceMul,Nat.reduceLeDiff,Nat.reduceLT,Int.reduceNeg,DF,eff,Nat.reduceSub,aa,g17,g16,g1,g2,hlt',lx,ix,lc];refine ae (Pi.1 hh F.wf (PH.fr F ⟨phi.1,phi.2.1,phi.2.2.1,phi.2.2.2.1,phi.2.2.2.2.1,phi.2.2.2.2.2.1,trivial⟩) ⟨smi.1,smi.2.1,smi.2.2.1,trivial⟩) ?_;rintro _ h7 ⟨vs2,vp2,sb2,rfl,sm,F7,_,st2⟩;have lx7:ab h7 h.next 5=some (.slice bp 0 sub.len sub.len):=(F7.get ox).ld1 5;have on:av [.int .u8 (kc:Int),.str tgc,.str kyc,vs2,.str txc,vp2]=true:=PH.ones (st2 [] h7 (by simp) (Fr.refl F7.wf));simp(maxSteps:=1000000) (disch:=omega) only[evs,↓reduceIte,Nat.reduceEqDiff,Nat.reduceAdd,Nat.reduceMul,Nat.reduceLeDiff,Nat.reduceLT,Int.reduceNeg,DF,eff,Nat.reduceSub,aa,g17,g16,g1,g2,lx,lx7,ix,lc];have eC:cg (d.cells++sub.cells.drop (i*6)) (i*6) [.int .u8 (kc:Int),.str tgc,.str kyc,vs2,.str txc,vp2]=some ((d.app (.cons kc tgc kyc slc txc vs2 vp2 sb2 .nil)).cells++sub.cells.drop ((i+1) *6)):=by
      rw[bO _ _ _ (by rw[List.length_append,dc,e2];simp),PT.app_cells];congr 1;show _++_++(d.cells++sub.cells.drop (i*6)).drop (i*6+6)=_;rw[q1,q2,List.drop_drop,show i*6+6=(i+1) *6 by omega];simp[PT.cells]
    refine ao F7.wf (F7.get obp) rfl on eC ?_;rintro h8 o8 F8 n8;have hn7:=F7.next;have F08:Fr [] h h8:=(F.then F7).fresh F8 w (by omega);simp(maxSteps:=1000000) (disch:=omega) only[evs,↓reduceIte,Nat.reduceEqDiff,Nat.reduceAdd,Nat.reduceMul,Nat.reduceLeDiff,Nat.reduceLT,Int.reduceNeg,DF,eff,Nat.reduceSub,aa,g17,g16,g1,g2,lx,lx7,lc];refine rqn ⟨sub.len-(i+1),by omega,F08,by omega,F8.own _ _ (by simp;omega) (F7.get ox),F8.own _ _ (by simp;omega) (F7.get oz),⟨X3++[bp],?_,Fr.trans (Fr.trans fX3 F7 F3.wf (fun y hy=>.inl (by simp[hy])) (by simp)) F8 F3.wf (fun y hy=>.inl hy) (fun y hy=>.inl (by simp at hy;simp[hy]))⟩,i+1,_,(by simp[T.get_set]),(by simp[T.get_set,g16]),(by simp[T.get_set,g1]),(by simp[T.get_set,g2]),by omega,?_,?_,⟨?_,.inr ⟨bp,hbp,rfl,o8⟩⟩,?_,rfl⟩
    ·intro y hy;simp at hy;rcases hy with hy|rfl
     ·exact hX3 y hy
     ·exact .inr (by omega)
    ·rw[PT.app_len,dl];rfl
    ·rw[PT.take_succ e1];exact PT.same_app ds ⟨rfl,rfl,rfl,rfl,rfl,sm,trivial⟩
    ·rw[List.length_append,PT.app_cells,List.length_append,dc,List.length_drop,PT.cells_len,PT.cells_len];simp only[PT.len];omega
    ·intro X h9 hX f9;have f79:Fr ([bp]++X) h7 h9:=Fr.trans F8 f9 F7.wf (fun y hy=>.inl (by simp at hy;simp[hy])) (fun y hy=>.inl (by simp[hy]));have fh9:Fr ([bp]++X) hh h9:=Fr.trans F7 f79 F.wf (by simp) (fun y hy=>.inl hy);refine PH.app (dst _ h9 ?_ fh9) (st2 _ h9 ?_ f79)
     ·intro y hy;simp at hy;rcases hy with rfl|hy
      ·exact .inr (.inr (.inr (by simp[sbk])))
      ·exact hX y hy
     ·intro y hy;simp at hy;rcases hy with rfl|hy
      ·omega
      ·rcases hX y hy with q|q|q|q
       ·omega
       ·omega
       ·omega
       ·simp[sbk]at q;omega
   ·have hi':i=sub.len:=by omega
    have gsh:=gs.frH F3.wf fX3 hX3;have l6:=ox.at6.2.2.2.2.2.2;have vp1:=gph.one;have vs1:=gsh.one;simp(maxSteps:=1000000) (disch:=omega) only[evs,↓reduceIte,Nat.reduceEqDiff,Nat.reduceAdd,Nat.reduceMul,Nat.reduceLeDiff,Nat.reduceLT,Int.reduceNeg,DF,eff,Nat.reduceSub,aa,g17,g16,g1,g2,show¬(i:Int)<sub.len by omega,l6];refine ao (c':=[.int .u8 (k:Int),.str tg,.str ky,vs',.str tx,vp']) F.wf oz rfl (by simp only[V.cells,aB,aR,vs1,vp1];rfl) rfl ?_;rintro h7 o7 F7 n7;simp(maxSteps:=1000000) (disch:=omega) only[evs,↓reduceIte,Nat.reduceEqDiff,Nat.reduceAdd,Nat.reduceMul,Nat.reduceLeDiff,Nat.reduceLT,Int.reduceNeg,DF,eff,Nat.reduceSub,aa,g1,g2,o7.at6.2.2.2.2.2.2];subst hi';rw[List.drop_of_length_le (by rw[PT.cells_len];omega),List.append_nil]at gph;have te:sub.take' sub.len=sub:=by
      have:=PT.take_app sub sub.len;rw[PT.at_end _ _ (Nat.le_refl _)]at this;have an:∀t:PT,t.app .nil=t:=by
        intro t;induction t with
        |nil=>rfl
        |cons _ _ _ _ _ _ _ _ nx _ ih=>simp only[PT.app,ih]
      rw[an]at this;exact this
    rw[te]at ds;refine⟨vs',vp',d,rfl,ds,F.fresh F7 w (by omega),?_,fun X h8 hX f8=>?_⟩
    ·have q:=gph.frH F.wf F7 (by simp;omega);obtain⟨q1,⟨q2,q3|⟨b,q4,q5⟩⟩|⟨b,q4,q5⟩⟩:=q
     ·exact⟨q1,.inl ⟨q2,.inl q3⟩⟩
     ·exact⟨q1,.inl ⟨q2,.inr ⟨b,by omega,q5⟩⟩⟩
     ·exact⟨q1,.inr ⟨b,by omega,q5⟩⟩
    have f:Fr ([h1.next]++X) hh h8:=Fr.trans F7 f8 F.wf (fun y hy=>.inl (by simp at hy;simp[hy])) (fun y hy=>.inl (by simp[hy]));have a1:=gsh.fr f (by
      intro y hy;simp at hy;rcases hy with rfl|hy
      ·omega
      ·have:=hX y hy;omega)
    have a2:=gph.fr f (by
      intro y hy;simp at hy;rcases hy with rfl|hy
      ·omega
      ·have:=hX y hy;omega)
    refine⟨hk,Sl.a a1.sl,ls0,by rw[dl];exact Sl.a a2.sl,by omega,dst _ h8 ?_ f,trivial⟩;intro y hy;simp at hy;rcases hy with rfl|hy
    ·exact .inr (.inr (.inl rfl))
    ·exact .inl (hX y hy)
theorem eps:∀t:PT,EPs t
  |.nil=>trivial
  |.cons _ _ _ _ _ _ _ sub nx=>⟨nT (eps sub),eps nx⟩
/-- a row of so many cells -/
def zR(h:Heap)(b n:Nat):Prop:=∃c,Own h b c∧c.length=n
/-- the parts of a copied kind -/
def PO(N bK:Nat)(h:Heap)(q:Knd):Prop:=(q.sub.len=0∧(q.vp=.nils∨∃b,q.vp=.slice b 0 0 0))∨∃b,N≤b∧b≠bK∧q.vp=.slice b 0 q.sub.len q.sub.len∧zR h b (q.sub.len*6)
def Cfg.put(c:Cfg)(v:V)(K:List Knd):Cfg:=⟨c.view,c.over,c.least,v,K,c.cap,c.arena,c.flaw⟩
theorem jT{h:Heap}{c:Cfg}(w:WF h)(a:CfH h c)(ok:okR c.Ks c.cap=true):
    au go 25 [.agg c.cells] h fun u h'=>∃(bK:Nat)(K:List Knd),u=.agg (c.put (.slice bK 0 K.length K.length) K).cells∧bY c.Ks K∧Fr [] h h'∧h.next≤bK∧Own h' bK (K.flatMap Knd.cells)∧(∀q∈K,PO h.next bK h' q)∧
      ∀(X:List Nat)(h2:Heap),(∀y∈X,y<h.next∨h'.next≤y)→Fr X h' h2→CfH h2 (c.put (.slice bK 0 K.length K.length) K):=by
  have on:=a.ks.one;have lenL:=iQ ok;obtain⟨view,over,least,vK0,L,cap,arena,flaw⟩:=c;simp only[Cfg.put]at *;obtain⟨h1,e_h1⟩:∃h1,h1=halloc h [.int .i64 view,.int .i64 over,.int .i64 least,vK0,.int .i64 cap,.int .i64 arena,.int .u8 (flaw:Int)]:=⟨_,rfl⟩;have F_h1:Fr [] h h1:=e_h1▸Fr.halloc w _;have o_h1:Own h1 h.next [.int .i64 view,.int .i64 over,.int .i64 least,vK0,.int .i64 cap,.int .i64 arena,.int .u8 (flaw:Int)]:=e_h1▸Own.new w _;obtain⟨h2,e_h2⟩:∃h2,h2=halloc h1 [.int .i64 0,.int .i64 0,.int .i64 0,.nils,.int .i64 0,.int .i64 0,.int .u8 0]:=⟨_,rfl⟩;have F_h2:Fr [] h1 h2:=e_h2▸Fr.halloc F_h1.wf _;have o_h2:Own h2 h1.next [.int .i64 0,.int .i64 0,.int .i64 0,.nils,.int .i64 0,.int .i64 0,.int .u8 0]:=e_h2▸Own.new F_h1.wf _;have n1:h1.next=h.next+1:=by rw[e_h1];rfl
  have n2:h2.next=h1.next+1:=by rw[e_h2];rfl
  have F02:=F_h1.then F_h2;have ob:=F_h2.get o_h1;have l3:ab h2 h.next 3=some vK0:=ob.ld1 3;simp only[Cfg.cells];refine af ?_;simp(maxSteps:=1000000) (disch:=omega) only[evs,↓reduceIte,Nat.reduceEqDiff,Nat.reduceAdd,Nat.reduceMul,Nat.reduceLeDiff,Nat.reduceLT,Int.reduceNeg,DF,eff,Nat.reduceSub,aa,←e_h1,←e_h2,l3];refine ae (ei F_h2.wf (a.ks.fr F02) rfl (by show L.length≤100000;omega)) ?_;rintro v0 h3 ⟨g0,F3⟩;simp(maxSteps:=1000000) (disch:=omega) only[evs,↓reduceIte,Nat.reduceEqDiff,Nat.reduceAdd,Nat.reduceMul,Nat.reduceLeDiff,Nat.reduceLT,Int.reduceNeg,DF,eff,Nat.reduceSub,aa];refine ae (ui g0) ?_;rintro vK _ ⟨gk,rfl⟩;obtain⟨_,⟨z,_⟩|⟨bp,hbp,rfl,obp⟩⟩:=gk
  ·have z':L.length=0:=z;omega
  have bp3:=obp.lt F3.wf;simp(maxSteps:=1000000) (disch:=omega) only[evs,↓reduceIte,Nat.reduceEqDiff,Nat.reduceAdd,Nat.reduceMul,Nat.reduceLeDiff,Nat.reduceLT,Int.reduceNeg,DF,eff,Nat.reduceSub,aa];refine sts (c':=[.int .i64 view,.int .i64 over,.int .i64 least,.slice bp 0 L.length L.length,.int .i64 cap,.int .i64 arena,.int .u8 (flaw:Int)]) F3.wf (F3.get ob) ?_;rintro h4 o4 F4 n4;have F04:Fr [] h h4:=(F02.then F3).fresh F4 w (Nat.le_refl _);have l34:ab h4 h.next 3=some (.slice bp 0 L.length L.length):=o4.ld1 3;have hn3:=F3.next;have obp4:Own h4 bp (L.flatMap Knd.cells):=F4.own _ _ (by simp;omega) obp;have oz4:=F4.own _ _ (by simp;omega) (F3.get o_h2);simp(maxSteps:=1000000) (disch:=omega) only[evs,↓reduceIte,Nat.reduceEqDiff,Nat.reduceAdd,Nat.reduceMul,Nat.reduceLeDiff,Nat.reduceLT,Int.reduceNeg,DF,eff,Nat.reduceSub,aa,l34];have fl:∀M:List Knd,(M.flatMap Knd.cells).length=M.length*9:=cD bQ;refine aQ (fun n env hh=>Fr [] h hh∧h4.next≤hh.next∧Own hh h.next [.int .i64 view,.int .i64 over,.int .i64 least,.slice bp 0 L.length L.length,.int .i64 cap,.int .i64 arena,.int .u8 (flaw:Int)]∧
      Own hh h1.next [.int .i64 0,.int .i64 0,.int .i64 0,.nils,.int .i64 0,.int .i64 0,.int .u8 0]∧
      ∃(i:Nat)(D:List Knd),env.get 12=some (.int .i64 i)∧env.get 11=some (.int .i64 L.length)∧env.get 1=some (.ptr h.next 0)∧env.get 2=some (.ptr h1.next 0)∧i≤L.length∧D.length=i∧bY (L.take i) D∧
      Own hh bp ((D++L.drop i).flatMap Knd.cells)∧(∀q∈D,CpG 6 hh h4.next q.vp q.sub.len q.sub.cells)∧(∀(X:List Nat)(h2:Heap),(∀y∈X,y<h4.next)→Fr X hh h2→∀q∈D,KndH h2 q)∧n=L.length-i) L.length (by omega) ?_ ?_
  ·exact⟨F04,Nat.le_refl _,o4,oz4,0,[],(by simp[T.get_set]),(by simp[T.get_set]),(by simp[T.get_set]),(by simp[T.get_set]),by omega,rfl,trivial,by simpa using obp4,by simp,by simp,rfl⟩
  ·rintro n env hh ⟨F,hn,ox,oz,i,D,g12,g11,g1,g2,hi,dl,ds,ob',dp,dst,rfl⟩;have lx:ab hh h.next 3=some (.slice bp 0 L.length L.length):=ox.ld1 3;by_cases hlt:i<L.length
   ·have hlt':(i:Int)<L.length:=by omega
    obtain⟨q,hq⟩:∃q,L[i]? =some q:=⟨_,List.getElem?_eq_getElem hlt⟩;have hqL:=a.each q (List.mem_of_getElem? hq);have hqok:=tk ok q (List.mem_of_getElem? hq);have dc:(D.flatMap Knd.cells).length=i*9:=by rw[fl,dl]
    have eL:(D++L.drop i).flatMap Knd.cells=D.flatMap Knd.cells++(q.cells++(L.drop (i+1)).flatMap Knd.cells):=by
      rw[bq hq];simp
    rw[eL]at ob';have ix:=cZ 9 bp 0 L.length L.length .i64 (i:Int) (by omega) hlt';simp only[Int.toNat_natCast,Nat.zero_add]at ix;have lc:ak hh bp (i*9) 6=some q.part:=by
      rw[ob'.ld,aC,←dc,List.drop_left];rfl
    simp(maxSteps:=1000000) (disch:=omega) only[evs,↓reduceIte,Nat.reduceEqDiff,Nat.reduceAdd,Nat.reduceMul,Nat.reduceLeDiff,Nat.reduceLT,Int.reduceNeg,DF,eff,Nat.reduceSub,aa,g12,g11,g1,g2,hlt',lx,ix,lc];refine ae (nT (eps q.sub) hh F.wf (hqL.fr F) (Knd.small hqok)) ?_;rintro _ h7 ⟨vs2,vp2,sb2,rfl,sm,F7,cp7,st2⟩;have lx7:ab h7 h.next 3=some (.slice bp 0 L.length L.length):=(F7.get ox).ld1 3;have on2:av [.int .u8 (q.k:Int),.str q.tg,.str q.ky,vs2,.str q.tx,vp2]=true:=PH.ones (st2 [] h7 (by simp) (Fr.refl F7.wf));simp(maxSteps:=1000000) (disch:=omega) only[evs,↓reduceIte,Nat.reduceEqDiff,Nat.reduceAdd,Nat.reduceMul,Nat.reduceLeDiff,Nat.reduceLT,Int.reduceNeg,DF,eff,Nat.reduceSub,aa,g12,g11,g1,g2,lx,lx7,ix,lc];have eC:cg (D.flatMap Knd.cells++(q.cells++(L.drop (i+1)).flatMap Knd.cells)) (i*9) [.int .u8 (q.k:Int),.str q.tg,.str q.ky,vs2,.str q.tx,vp2]=some ((D++[(⟨q.k,q.tg,q.ky,q.sl,q.tx,vs2,vp2,sb2,q.base,q.sticky,q.pool⟩:Knd)]++L.drop (i+1)).flatMap Knd.cells):=by
      rw[bO _ _ _ (by rw[List.length_append,dc,List.length_append,bQ];simp only[List.length_cons,List.length_nil];omega)];congr 1;have q1:(D.flatMap Knd.cells++(q.cells++(L.drop (i+1)).flatMap Knd.cells)).take (i*9)=D.flatMap Knd.cells:=by rw[←dc,List.take_left]
      have q2:(D.flatMap Knd.cells++(q.cells++(L.drop (i+1)).flatMap Knd.cells)).drop (i*9+6)=[.int .i64 q.base,.bool q.sticky,.int .i64 q.pool]++(L.drop (i+1)).flatMap Knd.cells:=by
        rw[←dc,List.drop_length_add_append];rfl
      show _++_++(D.flatMap Knd.cells++(q.cells++(L.drop (i+1)).flatMap Knd.cells)).drop (i*9+6)=_;rw[q1,q2];simp[Knd.cells,Knd.part]
    refine ao F7.wf (F7.get ob') rfl on2 eC ?_;rintro h8 o8 F8 n8;have hn7:=F7.next;have F08:Fr [] h h8:=(F.then F7).fresh F8 w (by omega);simp(maxSteps:=1000000) (disch:=omega) only[evs,↓reduceIte,Nat.reduceEqDiff,Nat.reduceAdd,Nat.reduceMul,Nat.reduceLeDiff,Nat.reduceLT,Int.reduceNeg,DF,eff,Nat.reduceSub,aa,g12,g11,g1,g2,lx,lx7,lc];refine rqn ⟨L.length-(i+1),by omega,F08,by omega,F8.own _ _ (by simp;omega) (F7.get ox),F8.own _ _ (by simp;omega) (F7.get oz),i+1,_,(by simp[T.get_set]),(by simp[T.get_set,g11]),(by simp[T.get_set,g1]),(by simp[T.get_set,g2]),by omega,?_,?_,o8,?_,?_,rfl⟩
    ·simp[dl]
    ·rw[List.take_add_one,hq];exact fO ds ⟨⟨rfl,rfl,rfl,rfl,rfl,rfl,rfl,rfl,sm⟩,trivial⟩
    ·intro p hp;rcases List.mem_append.1 hp with hp|hp
     ·exact((dp p hp).fr F7 (by simp)).fr F8 (by simp;omega)
     ·simp at hp;subst hp;have hl:q.sub.len=sb2.len:=PT.same_len sm;have c8:=cp7.fr F8 (by simp;omega);rw[hl]at c8;show CpG 6 h8 h4.next vp2 sb2.len sb2.cells;obtain⟨x1,⟨x2,x3|⟨b,x4,x5⟩⟩|⟨b,x4,x5⟩⟩:=c8
      ·exact⟨x1,.inl ⟨x2,.inl x3⟩⟩
      ·exact⟨x1,.inl ⟨x2,.inr ⟨b,by omega,x5⟩⟩⟩
      ·exact⟨x1,.inr ⟨b,by omega,x5⟩⟩
    ·intro X h9 hX f9 p hp;have f79:Fr ([bp]++X) h7 h9:=Fr.trans F8 f9 F7.wf (fun y hy=>.inl (by simp at hy;simp[hy])) (fun y hy=>.inl (by simp[hy]));have fh9:Fr ([bp]++X) hh h9:=Fr.trans F7 f79 F.wf (by simp) (fun y hy=>.inl hy);have hX':∀y∈[bp]++X,y<h4.next:=by
       intro y hy;simp at hy;rcases hy with rfl|hy
       ·omega
       ·exact hX y hy
     rcases List.mem_append.1 hp with hp|hp
     ·exact dst _ h9 hX' fh9 p hp
     ·simp at hp;subst hp;exact st2 _ h9 (fun y hy=>by have:=hX' y hy;omega) f79
   ·have hi':i=L.length:=by omega
    subst hi';rw[List.take_of_length_le (Nat.le_refl _)]at ds;rw[List.drop_of_length_le (Nat.le_refl _),List.append_nil]at ob';have l7:ak hh h.next 0 7=some [.int .i64 view,.int .i64 over,.int .i64 least,.slice bp 0 L.length L.length,.int .i64 cap,.int .i64 arena,.int .u8 (flaw:Int)]:=by rw[ox.ld];rfl
    simp(maxSteps:=1000000) (disch:=omega) only[evs,↓reduceIte,Nat.reduceEqDiff,Nat.reduceAdd,Nat.reduceMul,Nat.reduceLeDiff,Nat.reduceLT,Int.reduceNeg,DF,eff,Nat.reduceSub,aa,g12,g11,g1,g2,show¬((L.length:Nat):Int)<(L.length:Nat) by omega,l7];refine sts (c':=[.int .i64 view,.int .i64 over,.int .i64 least,.slice bp 0 L.length L.length,.int .i64 cap,.int .i64 arena,.int .u8 (flaw:Int)]) F.wf oz ?_;rintro h7 o7 F7 n7;have l77:ak h7 h1.next 0 7=some [.int .i64 view,.int .i64 over,.int .i64 least,.slice bp 0 L.length L.length,.int .i64 cap,.int .i64 arena,.int .u8 (flaw:Int)]:=by rw[o7.ld];rfl
    simp(maxSteps:=1000000) (disch:=omega) only[evs,↓reduceIte,Nat.reduceEqDiff,Nat.reduceAdd,Nat.reduceMul,Nat.reduceLeDiff,Nat.reduceLT,Int.reduceNeg,DF,eff,Nat.reduceSub,aa,g1,g2,l77];refine⟨bp,D,by rw[dl],ds,F.fresh F7 w (by omega),by omega,F7.own _ _ (by simp;omega) ob',?_,fun X h8 hX f8=>?_⟩
    ·intro p hp;obtain⟨x1,⟨x2,x3|⟨b,x4,x5,_⟩⟩|⟨b,x4,x5,x6⟩⟩:=(dp p hp).fr F7 (by simp;omega)
     ·exact .inl ⟨x2,.inl x3⟩
     ·exact .inl ⟨x2,.inr ⟨b,x5⟩⟩
     ·exact .inr ⟨b,by omega,by omega,x5,_,x6,x1⟩
    ·have f:Fr ([h1.next]++X) hh h8:=Fr.trans F7 f8 F.wf (fun y hy=>.inl (by simp at hy;simp[hy])) (fun y hy=>.inl (by simp[hy]));have bph:=ob'.lt F.wf;have hn7:hh.next≤h7.next:=F7.next;have obp8:Own h8 bp (D.flatMap Knd.cells):=f.own _ _ (by
       intro m;simp at m;rcases m with m|m
       ·omega
       ·have:=hX _ m;omega) ob'
     refine⟨?_,dst _ h8 (fun y hy=>?_) (f.old F.wf),by show D.length≤_;omega⟩
     ·show ASl h8 9 (.slice bp 0 D.length D.length) D.length _;exact Sl.a (Sl.lit obp8 (fl D))
     ·simp at hy;rcases hy.1 with q|q
      ·omega
      ·have:=hX y q;omega
theorem pA{h:Heap}{v:V}{n:Nat}{cs:List V}(w:WF h)(s:Sl h 1 v n cs)(on:av cs=true)(hn:n≤16):au go 103 [v] h fun u h'=>∃c,u=.slice c 0 n n∧h.next≤c∧Own h' c cs∧Fr [] h h':=by
  refine af ?_;simp(maxSteps:=1000000) (disch:=omega) only[evs,↓reduceIte,Nat.reduceEqDiff,Nat.reduceAdd,Nat.reduceMul,Nat.reduceLeDiff,Nat.reduceLT,Int.reduceNeg,DF,eff,Nat.reduceSub,aa,s.len];refine(oG _ _ _ _ _ _ _ _ (by omega) (by omega) (by omega) (by omega)).2 ?_;rw[gw];simp only[Int.toNat_natCast];obtain⟨h1,e_h1⟩:∃h1,h1=halloc h (List.replicate n (V.int .i64 0)):=⟨_,rfl⟩;have F_h1:Fr [] h h1:=e_h1▸Fr.halloc w _;have o_h1:Own h1 h.next (List.replicate n (V.int .i64 0)):=e_h1▸Own.new w _;rw[←e_h1];simp(maxSteps:=1000000) (disch:=omega) only[evs,↓reduceIte,Nat.reduceEqDiff,Nat.reduceAdd,Nat.reduceMul,Nat.reduceLeDiff,Nat.reduceLT,Int.reduceNeg,DF,eff,Nat.reduceSub,aa];refine sj (dl:=n) F_h1.wf o_h1 (s.fr F_h1) on (by simp) ?_;rintro h2 o2 F2 n2;have hl:cs.length=n:=by have:=s.1;omega
  have e:List.take 0 (List.replicate n (V.int .i64 0))++List.take (min n n) cs++List.drop (0+min n n) (List.replicate n (V.int .i64 0))=cs:=by
    rw[Nat.min_self,List.take_of_length_le (l:=cs) (by omega)];simp
  rw[e]at o2;simp(maxSteps:=1000000) (disch:=omega) only[evs,↓reduceIte,Nat.reduceEqDiff,Nat.reduceAdd,Nat.reduceMul,Nat.reduceLeDiff,Nat.reduceLT,Int.reduceNeg,DF,eff,Nat.reduceSub,aa];exact⟨h.next,rfl,Nat.le_refl _,o2,F_h1.fresh F2 w (Nat.le_refl _)⟩
theorem rO{h:Heap}{c r:Nat}{bs:List Int}(w:WF h)(o1:Own h c (bs.map (V.int .i64)))(o2:Own h r (List.replicate bs.length V.nils))(l1:1≤bs.length)(l8:bs.length≤8)(hb:∀b∈bs,0≤b∧b≤65536):
    au go 104 [.agg [.slice c 0 bs.length bs.length,.slice r 0 bs.length bs.length]] h fun u h'=>u=.int .i64 0∧Fr [] h h':=by
  obtain⟨h1,e_h1⟩:∃h1,h1=halloc h [.slice c 0 bs.length bs.length,.slice r 0 bs.length bs.length]:=⟨_,rfl⟩;have F_h1:Fr [] h h1:=e_h1▸Fr.halloc w _;have o_h1:Own h1 h.next [.slice c 0 bs.length bs.length,.slice r 0 bs.length bs.length]:=e_h1▸Own.new w _;have m0:ab h1 h.next 0=some (.slice c 0 bs.length bs.length):=o_h1.ld1 0;have m1:ab h1 h.next 1=some (.slice r 0 bs.length bs.length):=o_h1.ld1 1;refine af ?_;simp(maxSteps:=1000000) (disch:=omega) only[evs,↓reduceIte,Nat.reduceEqDiff,Nat.reduceAdd,Nat.reduceMul,Nat.reduceLeDiff,Nat.reduceLT,Int.reduceNeg,DF,eff,Nat.reduceSub,aa,←e_h1,m0,m1,show¬((bs.length:Nat):Int)<1 by omega,show¬(8:Int)<(bs.length:Nat) by omega];refine aQ (fun n env hh=>Fr [] h1 hh∧∃(i:Nat),env.get 25=some (.int .i64 i)∧env.get 24=some (.int .i64 bs.length)∧env.get 23=some (.slice c 0 bs.length bs.length)∧env.get 1=some (.ptr h.next 0)∧i≤bs.length∧n=bs.length-i) bs.length (by omega) ?_ ?_
  ·exact⟨Fr.refl F_h1.wf,0,(by simp[T.get_set]),(by simp[T.get_set]),(by simp[T.get_set]),(by simp[T.get_set]),by omega,rfl⟩
  ·rintro n env hh ⟨F,i,g25,g24,g23,g1,hi,rfl⟩;have p1:ab hh h.next 1=some (.slice r 0 bs.length bs.length):=(F.get o_h1).ld1 1;by_cases hlt:i<bs.length
   ·have hlt':(i:Int)<bs.length:=by omega
    have ix:=cZ 1 c 0 bs.length bs.length .i64 (i:Int) (by omega) hlt';have iy:=cZ 1 r 0 bs.length bs.length .i64 (i:Int) (by omega) hlt';simp only[Int.toNat_natCast,Nat.zero_add,Nat.mul_one]at ix iy;obtain⟨x,hx⟩:∃x,bs[i]? =some x:=⟨_,List.getElem?_eq_getElem hlt⟩;have lx:ab hh c i=some (.int .i64 x):=by rw[(F.get (F_h1.get o1)).ld1,dm,List.getElem?_map,hx];rfl
    have ly:ab hh r i=some .nils:=by rw[(F.get (F_h1.get o2)).ld1,dm,List.getElem?_replicate,if_pos hlt]
    obtain⟨x0,x1⟩:=hb x (List.mem_of_getElem? hx);simp(maxSteps:=1000000) (disch:=omega) only[evs,↓reduceIte,Nat.reduceEqDiff,Nat.reduceAdd,Nat.reduceMul,Nat.reduceLeDiff,Nat.reduceLT,Int.reduceNeg,DF,eff,Nat.reduceSub,aa,g25,g24,g23,g1,hlt',ix,iy,lx,ly,p1,show¬x<0 by omega,show¬(65536:Int)<x by omega];refine rqn ⟨bs.length-(i+1),by omega,F,i+1,(by simp[T.get_set]),(by simp[T.get_set,g24]),(by simp[T.get_set,g23]),(by simp[T.get_set,g1]),by omega,rfl⟩
    done
   ·simp(maxSteps:=1000000) (disch:=omega) only[evs,↓reduceIte,Nat.reduceEqDiff,Nat.reduceAdd,Nat.reduceMul,Nat.reduceLeDiff,Nat.reduceLT,Int.reduceNeg,DF,eff,Nat.reduceSub,aa,g25,g24,g23,g1,show¬(i:Int)<bs.length by omega];exact F_h1.then F
theorem bE{call:ai}{env:T V}{late:List Nat}{s:IStep}{l:List IStep}{i:Nat}{loc:List V}{h:Heap}(hi:late.contains i=false):
    lay call env late (s::l) i loc h=(lay call env late l (i+1) (lI call loc env h s::loc) h).map fun r=>((s,none)::r.1,r.2):=by
  simp only[lay,hi,cond_false];cases lay call env late l (i+1) (lI call loc env h s::loc) h<;>rfl
theorem fw{call:ai}{env:T V}{late:List Nat}{s:IStep}{l:List IStep}{i:Nat}{loc:List V}{h h':Heap}{v:V}(hi:late.contains i=false)(he:eff s.op=false)(e:aq call loc env h s.op=some (v,h')):
    lay call env late (s::l) i loc h=(lay call env late l (i+1) (v::loc) h).map fun r=>((s,none)::r.1,r.2):=by
  simp only[lay,hi,cond_false,lI,he,e];cases lay call env late l (i+1) (v::loc) h<;>rfl
theorem qv{call:ai}{env:T V}{late:List Nat}{s:IStep}{l:List IStep}{i:Nat}{loc:List V}{h:Heap}{c:List V}{k:Option (Nat×Nat)}(hi:late.contains i=true)(e:ew loc env s.op=some (c,k)):
    lay call env late (s::l) i loc h=(lay call env late l (i+1) (dH h.next k::loc) (halloc h c)).map fun r=>((s,some (dH h.next k,c))::r.1,r.2):=by
  simp only[lay,hi,cond_true,e];cases lay call env late l (i+1) (dH h.next k::loc) (halloc h c)<;>rfl
theorem tn(bytes n:Nat)(h:bytes*n≤281474976710656)(h2:n<9223372036854775808):mkN bytes (.int .i64 (n:Int)) (.int .i64 (n:Int))=some (n,n):=by
  have:(Nat.ble n n&&Nat.blt n 9223372036854775808&&Nat.ble (bytes*n) 281474976710656)=true:=by
    simp only[Bool.and_eq_true,Nat.ble_eq,Nat.blt_eq];omega
  simp only[mkN];show(bif _ then some (n,n)else none)=_;rw[this];rfl
theorem yc{env:T V}{h:Heap}{v:V}{n:Nat}(hn:n≤8)(g0:env.get 0=some v)(hv:aP .lenS [v]=some (.int .i64 (n:Int))):
    lay go env [4,6] [⟨none,.p .mv [.v 0],none⟩,⟨none,.cf 103 [.l 0],none⟩,⟨none,.p .mv [.v 0],none⟩,⟨none,.p .lenS [.l 0],none⟩,⟨none,.mk [.nils] 24 (.l 0) (.l 0),none⟩,⟨none,.p (.build [.nils,.nils] [(0,1),(1,1)]) [.l 3,.l 0],none⟩,⟨none,.al [.nils,.nils],none⟩,⟨none,.st 2 (.l 0) (.l 1),none⟩] 0 [] h=
      some ([(⟨none,.p .mv [.v 0],none⟩,none),(⟨none,.cf 103 [.l 0],none⟩,none),(⟨none,.p .mv [.v 0],none⟩,none),(⟨none,.p .lenS [.l 0],none⟩,none),(⟨none,.mk [.nils] 24 (.l 0) (.l 0),none⟩,some (.slice h.next 0 n n,List.replicate n .nils)),(⟨none,.p (.build [.nils,.nils] [(0,1),(1,1)]) [.l 3,.l 0],none⟩,none),(⟨none,.al [.nils,.nils],none⟩,some (.ptr (h.next+1) 0,[.nils,.nils])),(⟨none,.st 2 (.l 0) (.l 1),none⟩,none)],
        halloc (halloc h (List.replicate n .nils)) [.nils,.nils]):=by
  have ev_mv:∀(loc:List V)(h:Heap)(x:Opd)(v:V),evO loc env x=some v→aq go loc env h (.p .mv [x])=some (v,h):=fun loc h x v e=>by
    simp only[aq,fY,cR,e,bS,aP]
  have ev_len:∀(loc:List V)(h:Heap),aq go (v::loc) env h (.p .lenS [.l 0])=some (.int .i64 (n:Int),h):=fun loc h=>by
    simp only[aq,fY,cR,iw,b8,bS,hv]
  have ev_mk:∀loc:List V,ew (.int .i64 (n:Int)::loc) env (.mk [.nils] 24 (.l 0) (.l 0))=some (List.replicate n .nils,some (n,n)):=fun loc=>by
    simp only[ew,iw,b8,tn 24 n (by omega) (by omega),gw]
  rw[bE rfl,bE rfl,fw rfl rfl (ev_mv _ _ _ _ (by rw[qC];exact g0)),fw rfl rfl (ev_len _ _),qv rfl (ev_mk _),bE rfl,qv (c:=[.nils,.nils]) (k:=none) rfl rfl,bE rfl];rfl
theorem ym(loc:List V)(env:T V)(n r:Nat)(hn:n≤8):a9 (.int .i64 (n:Int)::loc) env (.mk [.nils] 24 (.l 0) (.l 0)) (.slice r 0 n n) (List.replicate n .nils)=true:=by
  have e:ew (.int .i64 (n:Int)::loc) env (.mk [.nils] 24 (.l 0) (.l 0))=some (List.replicate n .nils,some (n,n)):=by
    simp only[ew,iw,b8,tn 24 n (by omega) (by omega),gw]
  have q:∀l:List V,ez l l=true:=fun l=>by
    have:=bJ (.agg l);simpa only[vEq]using this
  simp only[a9,e,lid,dH,bJ,q,Bool.and_self]
theorem yn(loc:List V)(env:T V)(r:Nat):a9 loc env (.al [.nils,.nils]) (.ptr r 0) [.nils,.nils]=true:=by
  have e:ew loc env (.al [.nils,.nils])=some ([.nils,.nils],none):=rfl;simp only[a9,e,lid,dH,bJ,ez,Bool.and_self]
theorem vD{h:Heap}{b:Nat}{bs:List Int}(w:WF h)(o:Own h b (bs.map (V.int .i64)))(l1:1≤bs.length)(l8:bs.length≤8)(hb:∀b∈bs,0≤b∧b≤65536):
    au go 53 [.slice b 0 bs.length bs.length] h fun u h'=>∃c r,u=.tup [.agg [.slice c 0 bs.length bs.length,.slice r 0 bs.length bs.length],.int .i64 0]∧Fr [] h h':=by
  obtain⟨h1,e_h1⟩:∃h1,h1=halloc h [.nils,.nils]:=⟨_,rfl⟩;have F_h1:Fr [] h h1:=e_h1▸Fr.halloc w _;have o_h1:Own h1 h.next [.nils,.nils]:=e_h1▸Own.new w _;refine af ?_;simp(maxSteps:=1000000) (disch:=omega) only[evs,↓reduceIte,Nat.reduceEqDiff,Nat.reduceAdd,Nat.reduceMul,Nat.reduceLeDiff,Nat.reduceLT,Int.reduceNeg,DF,eff,Nat.reduceSub,aa,←e_h1,show¬(8:Int)<(bs.length:Nat) by omega];refine(xL _ _ _ _ _ _).2 ?_;rw[yc (v:=.slice b 0 bs.length bs.length) (n:=bs.length) l8 (by simp[T.get_set]) rfl,ii];have F7:=Fr.halloc F_h1.wf (List.replicate bs.length V.nils);have w1:=Own.new F_h1.wf (List.replicate bs.length V.nils);have F8:=Fr.halloc F7.wf [.nils,.nils];have w2:=Own.new F7.wf [.nils,.nils];have w1':=F8.get w1;have w2':Own (halloc (halloc h1 (List.replicate bs.length V.nils)) [.nils,.nils]) (h1.next+1) [.nils,.nils]:=w2;have F78:=F7.then F8;have nx:(halloc (halloc h1 (List.replicate bs.length V.nils)) [.nils,.nils]).next=h1.next+2:=rfl;generalize halloc (halloc h1 (List.replicate bs.length V.nils)) [.nils,.nils]=h8 at w1' w2' F78 nx⊢;have sI:Sl h8 1 (.slice b 0 bs.length bs.length) bs.length (bs.map (V.int .i64)):=Sl.lit (F78.get (F_h1.get o)) (by simp);simp(maxSteps:=1000000) (disch:=omega) only[evs,↓reduceIte,Nat.reduceEqDiff,Nat.reduceAdd,Nat.reduceMul,Nat.reduceLeDiff,Nat.reduceLT,Int.reduceNeg,DF,eff,Nat.reduceSub,aa];refine ae (pA F78.wf sI (by simp[av,V.one]) (by omega)) ?_;rintro _ h2 ⟨c,rfl,hc,oc,F2⟩;simp(maxSteps:=1000000) (disch:=omega) only[evs,↓reduceIte,Nat.reduceEqDiff,Nat.reduceAdd,Nat.reduceMul,Nat.reduceLeDiff,Nat.reduceLT,Int.reduceNeg,DF,eff,Nat.reduceSub,aa,fh,ym,yn];have o28:=F2.get w2';refine sts (c':=[.slice c 0 bs.length bs.length,.slice h1.next 0 bs.length bs.length]) F2.wf o28 ?_;rintro h3 o3 F3 n3;have F13:Fr [] h1 h3:=(F78.then F2).fresh F3 F_h1.wf (by omega);have l3:ak h3 (h1.next+1) 0 2=some [.slice c 0 bs.length bs.length,.slice h1.next 0 bs.length bs.length]:=by rw[o3.ld];rfl
  have n1:h1.next=h.next+1:=by rw[e_h1];rfl
  simp(maxSteps:=1000000) (disch:=omega) only[evs,↓reduceIte,Nat.reduceEqDiff,Nat.reduceAdd,Nat.reduceMul,Nat.reduceLeDiff,Nat.reduceLT,Int.reduceNeg,DF,eff,Nat.reduceSub,aa,l3];refine ae (rO F3.wf (F3.own _ _ (by simp;omega) oc) (F3.own _ _ (by simp) (F2.get w1')) l1 l8 hb) ?_;rintro _ h4 ⟨rfl,F4⟩;have o4:=F4.get o3;have l4:ak h4 (h1.next+1) 0 2=some [.slice c 0 bs.length bs.length,.slice h1.next 0 bs.length bs.length]:=by rw[o4.ld];rfl
  simp(maxSteps:=1000000) (disch:=omega) only[evs,↓reduceIte,Nat.reduceEqDiff,Nat.reduceAdd,Nat.reduceMul,Nat.reduceLeDiff,Nat.reduceLT,Int.reduceNeg,DF,eff,Nat.reduceSub,aa,l4];refine sts (c':=[.slice c 0 bs.length bs.length,.slice h1.next 0 bs.length bs.length]) F4.wf ((F13.then F4).get o_h1) ?_;rintro h5 o5 F5 n5;have l5:ak h5 h.next 0 2=some [.slice c 0 bs.length bs.length,.slice h1.next 0 bs.length bs.length]:=by rw[o5.ld];rfl
  simp(maxSteps:=1000000) (disch:=omega) only[evs,↓reduceIte,Nat.reduceEqDiff,Nat.reduceAdd,Nat.reduceMul,Nat.reduceLeDiff,Nat.reduceLT,Int.reduceNeg,DF,eff,Nat.reduceSub,aa,l5];exact⟨c,h1.next,rfl,((F_h1.then F13).then F4).fresh F5 w (by omega)⟩
def wz(_:Unit):List V:=[.int .u32 1,.bool false,.int .i64 0,.nilp]
def pR:List V:=[.nils,.int .i64 0,.int .i64 0,.int .i64 0,.int .i64 0,.int .i64 0,.int .i64 0,.int .i64 0,.int .i64 0,.int .i64 0,.int .i64 0,.bool false,.nils]
theorem vB{h:Heap}{b nb:Nat}(w:WF h)(o:Own h b pR):au go 163 [.ptr b 0,.ptr nb 0] h fun u h'=>u=.tup [.agg [.int .u32 0,.int .u32 1],.int .i64 0]∧Fr [b] h h'∧
    ∃s,Own h' b [s,.int .i64 0,.int .i64 1,.int .i64 0,.int .i64 0,.int .i64 0,.int .i64 0,.int .i64 0,.int .i64 0,.int .i64 0,.int .i64 0,.bool false,.nils]:=by
  unfold pR at o;have hb:=o.lt w;obtain⟨h1,e_h1⟩:∃h1,h1=halloc h [.int .u32 0,.int .u32 0]:=⟨_,rfl⟩;have F_h1:Fr [] h h1:=e_h1▸Fr.halloc w _;have o_h1:Own h1 h.next [.int .u32 0,.int .u32 0]:=e_h1▸Own.new w _;have ob:=F_h1.get o;have d0:ab h1 b 0=some .nils:=ob.ld1 0;have d1:ab h1 b 1=some (.int .i64 0):=ob.ld1 1;obtain⟨h2,e_h2⟩:∃h2,h2=halloc h1 [.int .u32 1,.bool false,.int .i64 0,.nilp]:=⟨_,rfl⟩;have F_h2:Fr [] h1 h2:=e_h2▸Fr.halloc F_h1.wf _;have o_h2:Own h2 h1.next [.int .u32 1,.bool false,.int .i64 0,.nilp]:=e_h2▸Own.new F_h1.wf _;refine af ?_;simp(maxSteps:=1000000) (disch:=omega) only[evs,↓reduceIte,Nat.reduceEqDiff,Nat.reduceAdd,Nat.reduceMul,Nat.reduceLeDiff,Nat.reduceLT,Int.reduceNeg,DF,eff,Nat.reduceSub,aa,←e_h1,d0,d1,show¬(0:Int)=1048576 by omega,←e_h2];refine GRecs.append (f:=wz) (k:=4) (bytes:=24) (B:=h2.next) (L:=[]) (x:=()) F_h2.wf GRecs.nil (fun _=>rfl) rfl (by omega) o_h2 (Nat.le_refl _) (by simp) ?_;intro v' h3 G F3;have F3:Fr [] h2 h3:=F3;have e1:([]++[()]:List Unit).flatMap wz=[.int .u32 1,.bool false,.int .i64 0,.nilp]:=rfl;unfold GRecs at G;rw[e1]at G;obtain⟨_,z⟩|⟨sb,n,rfl,hl,hn,hB,os⟩:=G
  ·cases z
  have n1:n=1:=by simp only[List.length_cons,List.length_nil]at hl;omega
  subst n1;have n1:h1.next=h.next+1:=by rw[e_h1];rfl
  have n2:h2.next=h1.next+1:=by rw[e_h2];rfl
  have F13:=F_h2.then F3;have ob3:=F13.get ob;have ox3:=F13.get o_h1;simp(maxSteps:=1000000) (disch:=omega) only[evs,↓reduceIte,Nat.reduceEqDiff,Nat.reduceAdd,Nat.reduceMul,Nat.reduceLeDiff,Nat.reduceLT,Int.reduceNeg,DF,eff,Nat.reduceSub,aa];refine sts (c':=[.sliceU sb 0 1 4,.int .i64 0,.int .i64 0,.int .i64 0,.int .i64 0,.int .i64 0,.int .i64 0,.int .i64 0,.int .i64 0,.int .i64 0,.int .i64 0,.bool false,.nils]) F3.wf ob3 ?_;rintro h4 o4 F4 n4;have a40:ab h4 b 0=some (.sliceU sb 0 1 4):=o4.ld1 0;simp(maxSteps:=1000000) (disch:=omega) only[evs,↓reduceIte,Nat.reduceEqDiff,Nat.reduceAdd,Nat.reduceMul,Nat.reduceLeDiff,Nat.reduceLT,Int.reduceNeg,DF,eff,Nat.reduceSub,aa,a40];refine sts (c':=[.sliceU sb 0 1 4,.int .i64 1,.int .i64 0,.int .i64 0,.int .i64 0,.int .i64 0,.int .i64 0,.int .i64 0,.int .i64 0,.int .i64 0,.int .i64 0,.bool false,.nils]) F4.wf o4 ?_;rintro h5 o5 F5 n5;have a50:ab h5 b 0=some (.sliceU sb 0 1 4):=o5.ld1 0;have a51:ab h5 b 1=some (.int .i64 1):=o5.ld1 1;have ix:=gh 4 sb 0 1 4 .i64 (0:Int) (by omega) (by omega);simp only[Int.toNat_zero,Nat.zero_mul,Nat.add_zero]at ix;have os5:Own h5 sb [.int .u32 1,.bool false,.int .i64 0,.nilp]:=F5.own _ _ (by simp;omega) (F4.own _ _ (by simp;omega) os);have s52:ab h5 sb 2=some (.int .i64 0):=os5.ld1 2;simp(maxSteps:=1000000) (disch:=omega) only[evs,↓reduceIte,Nat.reduceEqDiff,Nat.reduceAdd,Nat.reduceMul,Nat.reduceLeDiff,Nat.reduceLT,Int.reduceNeg,DF,eff,Nat.reduceSub,aa,a50,a51,show(1:Int)-1=0 from rfl,ix,s52];refine sts (c':=[.sliceU sb 0 1 4,.int .i64 0,.int .i64 0,.int .i64 0,.int .i64 0,.int .i64 0,.int .i64 0,.int .i64 0,.int .i64 0,.int .i64 0,.int .i64 0,.bool false,.nils]) F5.wf o5 ?_;rintro h6 o6 F6 n6;have os6:=F6.own _ _ (by simp;omega) os5;simp(maxSteps:=1000000) (disch:=omega) only[evs,↓reduceIte,Nat.reduceEqDiff,Nat.reduceAdd,Nat.reduceMul,Nat.reduceLeDiff,Nat.reduceLT,Int.reduceNeg,DF,eff,Nat.reduceSub,aa];refine sts (c':=[.int .u32 1,.bool false,.int .i64 0,.nilp]) F6.wf os6 ?_;rintro h7 os7 F7 n7;simp(maxSteps:=1000000) (disch:=omega) only[evs,↓reduceIte,Nat.reduceEqDiff,Nat.reduceAdd,Nat.reduceMul,Nat.reduceLeDiff,Nat.reduceLT,Int.reduceNeg,DF,eff,Nat.reduceSub,aa];refine sts (c':=[.int .u32 1,.bool true,.int .i64 0,.nilp]) F7.wf os7 ?_;rintro h8 os8 F8 n8;simp(maxSteps:=1000000) (disch:=omega) only[evs,↓reduceIte,Nat.reduceEqDiff,Nat.reduceAdd,Nat.reduceMul,Nat.reduceLeDiff,Nat.reduceLT,Int.reduceNeg,DF,eff,Nat.reduceSub,aa];refine sts (c':=[.int .u32 1,.bool true,.int .i64 0,.ptr nb 0]) F8.wf os8 ?_;rintro h9 os9 F9 n9;have ob9:Own h9 b [.sliceU sb 0 1 4,.int .i64 0,.int .i64 0,.int .i64 0,.int .i64 0,.int .i64 0,.int .i64 0,.int .i64 0,.int .i64 0,.int .i64 0,.int .i64 0,.bool false,.nils]:=F9.own _ _ (by simp;omega) (F8.own _ _ (by simp;omega) (F7.own _ _ (by simp;omega) o6));have a92:ab h9 b 2=some (.int .i64 0):=ob9.ld1 2;simp(maxSteps:=1000000) (disch:=omega) only[evs,↓reduceIte,Nat.reduceEqDiff,Nat.reduceAdd,Nat.reduceMul,Nat.reduceLeDiff,Nat.reduceLT,Int.reduceNeg,DF,eff,Nat.reduceSub,aa,a92];refine sts (c':=[.sliceU sb 0 1 4,.int .i64 0,.int .i64 1,.int .i64 0,.int .i64 0,.int .i64 0,.int .i64 0,.int .i64 0,.int .i64 0,.int .i64 0,.int .i64 0,.bool false,.nils]) F9.wf ob9 ?_;rintro h10 o10 F10 n10;have os10:=F10.own _ _ (by simp;omega) os9;have s100:ab h10 sb 0=some (.int .u32 1):=os10.ld1 0;have F3_10:Fr [b,sb] h3 h10:=by
    refine Fr.trans (T:=[b,sb]) (Fr.trans (T:=[b,sb]) (Fr.trans (T:=[b,sb]) (Fr.trans (T:=[b,sb]) (Fr.trans (T:=[b,sb]) (Fr.trans (T:=[b,sb]) F4 F5 F3.wf (by simp) (by simp)) F6 F3.wf (by simp) (by simp)) F7 F3.wf (by simp) (by simp)) F8 F3.wf (by simp) (by simp)) F9 F3.wf (by simp) (by simp)) F10 F3.wf (by simp) (by simp)
  have ox10:Own h10 h.next [.int .u32 0,.int .u32 0]:=F3_10.own _ _ (by simp;omega) ox3;simp(maxSteps:=1000000) (disch:=omega) only[evs,↓reduceIte,Nat.reduceEqDiff,Nat.reduceAdd,Nat.reduceMul,Nat.reduceLeDiff,Nat.reduceLT,Int.reduceNeg,DF,eff,Nat.reduceSub,aa,s100,show bt .u32 0=0 from rfl];refine sts (c':=[.int .u32 0,.int .u32 1]) F10.wf ox10 ?_;rintro h11 o11 F11 n11;have l11:ak h11 h.next 0 2=some [.int .u32 0,.int .u32 1]:=by rw[o11.ld];rfl
  simp(maxSteps:=1000000) (disch:=omega) only[evs,↓reduceIte,Nat.reduceEqDiff,Nat.reduceAdd,Nat.reduceMul,Nat.reduceLeDiff,Nat.reduceLT,Int.reduceNeg,DF,eff,Nat.reduceSub,aa,l11];refine⟨?_,_,F11.own _ _ (by simp;omega) o10⟩;have F0_10:Fr [b,sb] h h10:=Fr.trans (F_h1.then F13) F3_10 w (by simp) (by simp);have F0_11:Fr [b,sb,h.next] h h11:=Fr.trans F0_10 F11 w (fun y hy=>.inl (by simp at hy;rcases hy with rfl|rfl<;>simp)) (fun y hy=>.inl (by simp at hy;simp[hy]))
  refine Fr.trans (S:=[]) (Fr.refl w) F0_11 w (by simp) (fun y hy=>?_);simp at hy;rcases hy with rfl|rfl|rfl
  ·simp
  ·exact .inr (by omega)
  ·exact .inr (by omega)
theorem vE{h:Heap}{b:Nat}{c0 c1 c2 c3 c4 c5 c6 c7 f:V}(w:WF h)(hr:ab h b 11=some (.bool false))(hr':∀h',Fr [] h h'→ab h' b 11=some (.bool false)):
    au go 164 [.ptr b 0,.agg [c0,c1,c2,c3,c4,c5,c6,c7],f] h fun u h'=>u=.tup []∧Fr [] h h':=by
  obtain⟨h1,e_h1⟩:∃h1,h1=halloc h [c0,c1,c2,c3,c4,c5,c6,c7]:=⟨_,rfl⟩;have F_h1:Fr [] h h1:=e_h1▸Fr.halloc w _;have o_h1:Own h1 h.next [c0,c1,c2,c3,c4,c5,c6,c7]:=e_h1▸Own.new w _;refine af ?_;simp(maxSteps:=1000000) (disch:=omega) only[evs,↓reduceIte,Nat.reduceEqDiff,Nat.reduceAdd,Nat.reduceMul,Nat.reduceLeDiff,Nat.reduceLT,Int.reduceNeg,DF,eff,Nat.reduceSub,aa,←e_h1,hr' h1 F_h1];exact F_h1
theorem zJ{env:T V}{h:Heap}{n:Nat}{tg:Str}(g3:env.get 3=some (.ptr n 0))(l0:ab h n 0=some (.int .u8 1))(l1:ab h n 1=some (.str tg))(l4:ab h n 4=some (.str [])):
    lay go env [11,16] [⟨none,.ld 1 false (.v 2),none⟩,⟨none,.p .nilck [.l 0],none⟩,⟨none,.p (.faddr 0) [.l 0],none⟩,⟨none,.p (.faddr 0) [.v 3],none⟩,⟨none,.ld 1 false (.l 0),none⟩,⟨none,.p (.faddr 1) [.v 3],none⟩,⟨none,.ld 1 false (.l 0),none⟩,⟨none,.p (.faddr 4) [.v 3],none⟩,⟨none,.ld 1 false (.l 0),none⟩,⟨none,.p (.build [(.int .u8 0),(.str []),.nils,(.str []),(.int .i64 0),(.int .i64 0),(.bool false),(.int .u32 0),(.int .u32 0),.nils] [(0,1),(1,1),(3,1)]) [.l 4,.l 2,.l 0],none⟩,⟨none,.p (.build [(.int .u8 0),(.str []),.nils,(.str []),(.int .i64 0),(.int .i64 0),(.bool false),(.int .u32 0),(.int .u32 0),.nils] [(0,10)]) [.l 0],none⟩,⟨none,.bx (.l 0),none⟩,⟨none,.cf 163 [.l 9,.l 0],none⟩,⟨none,.p .mv [.l 0],none⟩,⟨none,.p (.ext 0) [.l 0],none⟩,⟨none,.p (.ext 1) [.l 1],none⟩,⟨none,.al [(.int .u32 0),(.int .u32 0)],none⟩,⟨none,.st 2 (.l 0) (.l 2),none⟩,⟨none,.p .mv [.l 2],none⟩] 0 [] h=
      some ([(⟨none,.ld 1 false (.v 2),none⟩,none),(⟨none,.p .nilck [.l 0],none⟩,none),(⟨none,.p (.faddr 0) [.l 0],none⟩,none),(⟨none,.p (.faddr 0) [.v 3],none⟩,none),(⟨none,.ld 1 false (.l 0),none⟩,none),(⟨none,.p (.faddr 1) [.v 3],none⟩,none),(⟨none,.ld 1 false (.l 0),none⟩,none),(⟨none,.p (.faddr 4) [.v 3],none⟩,none),(⟨none,.ld 1 false (.l 0),none⟩,none),(⟨none,.p (.build [(.int .u8 0),(.str []),.nils,(.str []),(.int .i64 0),(.int .i64 0),(.bool false),(.int .u32 0),(.int .u32 0),.nils] [(0,1),(1,1),(3,1)]) [.l 4,.l 2,.l 0],none⟩,none),(⟨none,.p (.build [(.int .u8 0),(.str []),.nils,(.str []),(.int .i64 0),(.int .i64 0),(.bool false),(.int .u32 0),(.int .u32 0),.nils] [(0,10)]) [.l 0],none⟩,none),(⟨none,.bx (.l 0),none⟩,some (.ptr h.next 0,[.int .u8 1,.str tg,.nils,.str [],.int .i64 0,.int .i64 0,.bool false,.int .u32 0,.int .u32 0,.nils])),(⟨none,.cf 163 [.l 9,.l 0],none⟩,none),(⟨none,.p .mv [.l 0],none⟩,none),(⟨none,.p (.ext 0) [.l 0],none⟩,none),(⟨none,.p (.ext 1) [.l 1],none⟩,none),(⟨none,.al [(.int .u32 0),(.int .u32 0)],none⟩,some (.ptr (h.next+1) 0,[.int .u32 0,.int .u32 0])),(⟨none,.st 2 (.l 0) (.l 2),none⟩,none),(⟨none,.p .mv [.l 2],none⟩,none)],
        halloc (halloc h [.int .u8 1,.str tg,.nils,.str [],.int .i64 0,.int .i64 0,.bool false,.int .u32 0,.int .u32 0,.nils]) [.int .u32 0,.int .u32 0]):=by
  have ev_fa:∀(loc:List V)(h:Heap)(k:Nat),aq go loc env h (.p (.faddr k) [.v 3])=some (.ptr n k,h):=fun loc h k=>by
    simp only[aq,fY,cR,qC,g3,bS,kD,Nat.zero_add]
  have ev_ld:∀(loc:List V)(h:Heap)(k:Nat)(v:V),ab h n k=some v→aq go (.ptr n k::loc) env h (.ld 1 false (.l 0))=some (v,h):=fun loc h k v e=>by
    simp only[aq,iw,b8,ga,e]
  have ev_b:∀(loc:List V)(h:Heap)(x y:V),aq go (.str []::x::.str tg::y::.int .u8 1::loc) env h (.p (.build [(.int .u8 0),(.str []),.nils,(.str []),(.int .i64 0),(.int .i64 0),(.bool false),(.int .u32 0),(.int .u32 0),.nils] [(0,1),(1,1),(3,1)]) [.l 4,.l 2,.l 0])=some (.agg [.int .u8 1,.str tg,.nils,.str [],.int .i64 0,.int .i64 0,.bool false,.int .u32 0,.int .u32 0,.nils],h):=fun loc h x y=>by
    simp only[aq,fY,cR,iw,b8,eF,bS];rfl
  have ev_c:∀(loc:List V)(h:Heap),aq go (.agg [.int .u8 1,.str tg,.nils,.str [],.int .i64 0,.int .i64 0,.bool false,.int .u32 0,.int .u32 0,.nils]::loc) env h (.p (.build [(.int .u8 0),(.str []),.nils,(.str []),(.int .i64 0),(.int .i64 0),(.bool false),(.int .u32 0),(.int .u32 0),.nils] [(0,10)]) [.l 0])=some (.agg [.int .u8 1,.str tg,.nils,.str [],.int .i64 0,.int .i64 0,.bool false,.int .u32 0,.int .u32 0,.nils],h):=fun loc h=>by
    simp only[aq,fY,cR,iw,b8,eF,bS];rfl
  rw[bE rfl,bE rfl,bE rfl,fw rfl rfl (ev_fa _ _ _),fw rfl rfl (ev_ld _ _ _ _ l0),fw rfl rfl (ev_fa _ _ _),fw rfl rfl (ev_ld _ _ _ _ l1),fw rfl rfl (ev_fa _ _ _),fw rfl rfl (ev_ld _ _ _ _ l4)];rw[fw rfl rfl (ev_b _ _ _ _),fw rfl rfl (ev_c _ _),qv (c:=[.int .u8 1,.str tg,.nils,.str [],.int .i64 0,.int .i64 0,.bool false,.int .u32 0,.int .u32 0,.nils]) (k:=none) rfl rfl,bE rfl,bE rfl,bE rfl,bE rfl,qv (c:=[.int .u32 0,.int .u32 0]) (k:=none) rfl rfl,bE rfl,bE rfl];rfl
theorem tw(loc:List V)(env:T V)(l:List V)(r:Nat):a9 (.agg l::loc) env (.bx (.l 0)) (.ptr r 0) l=true:=by
  have e:ew (.agg l::loc) env (.bx (.l 0))=some (l,none):=rfl;have q:ez l l=true:=by
    have:=bJ (.agg l);simpa only[vEq]using this
  simp only[a9,e,lid,dH,bJ,q,Bool.and_self]
theorem wN(loc:List V)(env:T V)(r:Nat):a9 loc env (.al [.int .u32 0,.int .u32 0]) (.ptr r 0) [.int .u32 0,.int .u32 0]=true:=by
  have e:ew loc env (.al [.int .u32 0,.int .u32 0])=some ([.int .u32 0,.int .u32 0],none):=rfl;simp only[a9,e,lid,dH,bJ,ez,Bool.and_self]
theorem sg{h:Heap}{b:Nat}(w:WF h)(o:Own h b pR):
    au go 105 [.ptr b 0,.agg [.int .u8 1,.str [108,105,115,116],.str [],.nils,.str [],.nils]] h fun u h'=>u=.tup [.agg [.int .u32 0,.int .u32 1],.int .i64 0]∧Fr [b] h h':=by
  have hb:=o.lt w;obtain⟨h1,e_h1⟩:∃h1,h1=halloc h [.ptr b 0]:=⟨_,rfl⟩;have F_h1:Fr [] h h1:=e_h1▸Fr.halloc w _;have o_h1:Own h1 h.next [.ptr b 0]:=e_h1▸Own.new w _;obtain⟨h2,e_h2⟩:∃h2,h2=halloc h1 [.int .u8 1,.str [108,105,115,116],.str [],.nils,.str [],.nils]:=⟨_,rfl⟩;have F_h2:Fr [] h1 h2:=e_h2▸Fr.halloc F_h1.wf _;have o_h2:Own h2 h1.next [.int .u8 1,.str [108,105,115,116],.str [],.nils,.str [],.nils]:=e_h2▸Own.new F_h1.wf _;obtain⟨h3,e_h3⟩:∃h3,h3=halloc h2 [.int .u32 0,.int .u32 0]:=⟨_,rfl⟩;have F_h3:Fr [] h2 h3:=e_h3▸Fr.halloc F_h2.wf _;have o_h3:Own h3 h2.next [.int .u32 0,.int .u32 0]:=e_h3▸Own.new F_h2.wf _;have n1:h1.next=h.next+1:=by rw[e_h1];rfl
  have n2:h2.next=h1.next+1:=by rw[e_h2];rfl
  have n3:h3.next=h2.next+1:=by rw[e_h3];rfl
  have F03:=(F_h1.then F_h2).then F_h3;have od:=F_h3.get (F_h2.get o_h1);have on:=F_h3.get o_h2;have d0:ab h3 h.next 0=some (.ptr b 0):=od.ld1 0;have l6:ak h3 h1.next 0 6=some [.int .u8 1,.str [108,105,115,116],.str [],.nils,.str [],.nils]:=by rw[on.ld];rfl
  refine af ?_;simp(maxSteps:=1000000) (disch:=omega) only[evs,↓reduceIte,Nat.reduceEqDiff,Nat.reduceAdd,Nat.reduceMul,Nat.reduceLeDiff,Nat.reduceLT,Int.reduceNeg,DF,eff,Nat.reduceSub,aa,←e_h1,←e_h2,←e_h3,d0,l6];have nh:NH h3 (.cons 1 [108,105,115,116] [] [] [] .nils .nils .nil .nil):=⟨by omega,Recs.nil,by simp,⟨rfl,rfl⟩,by simp[NT.len],trivial,trivial⟩;refine ae (gX F03.wf nh) ?_;rintro _ h4 ⟨rfl,F4⟩;have e:NT.count 1 [108,105,115,116] [] [] [] .nil=1:=by decide
  rw[e,if_neg (by omega)];simp(maxSteps:=1000000) (disch:=omega) only[evs,↓reduceIte,Nat.reduceEqDiff,Nat.reduceAdd,Nat.reduceMul,Nat.reduceLeDiff,Nat.reduceLT,Int.reduceNeg,DF,eff,Nat.reduceSub,aa];have F04:=F03.then F4;have on4:=F4.get on;refine(xL _ _ _ _ _ _).2 ?_;rw[zJ (n:=h1.next) (tg:=[108,105,115,116]) (by simp[T.get_set]) (on4.ld1 0) (on4.ld1 1) (on4.ld1 4),ii];have F7:=Fr.halloc F4.wf [.int .u8 1,.str [108,105,115,116],.nils,.str [],.int .i64 0,.int .i64 0,.bool false,.int .u32 0,.int .u32 0,.nils];have w1:=Own.new F4.wf [.int .u8 1,.str [108,105,115,116],.nils,.str [],.int .i64 0,.int .i64 0,.bool false,.int .u32 0,.int .u32 0,.nils];have F8:=Fr.halloc F7.wf [.int .u32 0,.int .u32 0];have w2:=Own.new F7.wf [.int .u32 0,.int .u32 0];have F78:=F7.then F8;have w1':=F8.get w1;have w2':Own (halloc (halloc h4 [.int .u8 1,.str [108,105,115,116],.nils,.str [],.int .i64 0,.int .i64 0,.bool false,.int .u32 0,.int .u32 0,.nils]) [.int .u32 0,.int .u32 0]) (h4.next+1) [.int .u32 0,.int .u32 0]:=w2;have nx:(halloc (halloc h4 [.int .u8 1,.str [108,105,115,116],.nils,.str [],.int .i64 0,.int .i64 0,.bool false,.int .u32 0,.int .u32 0,.nils]) [.int .u32 0,.int .u32 0]).next=h4.next+2:=rfl;generalize halloc (halloc h4 [.int .u8 1,.str [108,105,115,116],.nils,.str [],.int .i64 0,.int .i64 0,.bool false,.int .u32 0,.int .u32 0,.nils]) [.int .u32 0,.int .u32 0]=h8 at w1' w2' F78 nx⊢;have F08:=F04.then F78;have d8:ab h8 h.next 0=some (.ptr b 0):=(F78.get (F4.get od)).ld1 0;have on8:=F78.get on4;have k0:ab h8 h1.next 0=some (.int .u8 1):=on8.ld1 0;have k1:ab h8 h1.next 1=some (.str [108,105,115,116]):=on8.ld1 1;have k4:ab h8 h1.next 4=some (.str []):=on8.ld1 4;have n4:=F4.next;simp(maxSteps:=1000000) (disch:=omega) only[evs,↓reduceIte,Nat.reduceEqDiff,Nat.reduceAdd,Nat.reduceMul,Nat.reduceLeDiff,Nat.reduceLT,Int.reduceNeg,DF,eff,Nat.reduceSub,aa,d8,k0,k1,k4,fh,tw];refine ae (vB F08.wf (F08.get o)) ?_;rintro _ h9 ⟨rfl,F9,s,o9⟩;have d9:ab h9 h.next 0=some (.ptr b 0):=(F9.own _ _ (by simp;omega) (F78.get (F4.get od))).ld1 0;have on9:=F9.own _ _ (by simp;omega) on8;have q0:ab h9 h1.next 0=some (.int .u8 1):=on9.ld1 0;have q1:ab h9 h1.next 1=some (.str [108,105,115,116]):=on9.ld1 1;have q4:ab h9 h1.next 4=some (.str []):=on9.ld1 4;have w29:=F9.own _ _ (by simp;omega) w2';simp(maxSteps:=1000000) (disch:=omega) only[evs,↓reduceIte,Nat.reduceEqDiff,Nat.reduceAdd,Nat.reduceMul,Nat.reduceLeDiff,Nat.reduceLT,Int.reduceNeg,DF,eff,Nat.reduceSub,aa,d8,d9,k0,k1,k4,q0,q1,q4,fh,tw,wN];refine sts (c':=[.int .u32 0,.int .u32 1]) F9.wf w29 ?_;rintro h10 o10 F10 n10;have d10:ab h10 h.next 0=some (.ptr b 0):=(F10.own _ _ (by simp;omega) (F9.own _ _ (by simp;omega) (F78.get (F4.get od)))).ld1 0;have o10b:=F10.own _ _ (by simp;omega) o9;have on10:=F10.own _ _ (by simp;omega) on9;have r0:ab h10 h1.next 0=some (.int .u8 1):=on10.ld1 0;have r1:ab h10 h1.next 1=some (.str [108,105,115,116]):=on10.ld1 1;have r4:ab h10 h1.next 4=some (.str []):=on10.ld1 4;simp(maxSteps:=1000000) (disch:=omega) only[evs,↓reduceIte,Nat.reduceEqDiff,Nat.reduceAdd,Nat.reduceMul,Nat.reduceLeDiff,Nat.reduceLT,Int.reduceNeg,DF,eff,Nat.reduceSub,aa,d8,d9,d10,k0,k1,k4,q0,q1,q4,r0,r1,r4,fh,tw,wN];have c8:ak h10 b 3 8=some [.int .i64 0,.int .i64 0,.int .i64 0,.int .i64 0,.int .i64 0,.int .i64 0,.int .i64 0,.int .i64 0]:=by rw[o10b.ld];rfl
  simp(maxSteps:=1000000) (disch:=omega) only[evs,↓reduceIte,Nat.reduceEqDiff,Nat.reduceAdd,Nat.reduceMul,Nat.reduceLeDiff,Nat.reduceLT,Int.reduceNeg,DF,eff,Nat.reduceSub,aa,d10,c8];refine ae (vE F10.wf (o10b.ld1 11) (fun h' f=>(f.get o10b).ld1 11)) ?_;rintro _ h11 ⟨rfl,F11⟩;have o11b:=F11.get o10b;have d11:ab h11 h.next 0=some (.ptr b 0):=(F11.get (F10.own _ _ (by simp;omega) (F9.own _ _ (by simp;omega) (F78.get (F4.get od))))).ld1 0;have x3:ab h11 b 3=some (.int .i64 0):=o11b.ld1 3;have c11:ak h11 b 3 8=some [.int .i64 0,.int .i64 0,.int .i64 0,.int .i64 0,.int .i64 0,.int .i64 0,.int .i64 0,.int .i64 0]:=by rw[o11b.ld];rfl
  simp(maxSteps:=1000000) (disch:=omega) only[evs,↓reduceIte,Nat.reduceEqDiff,Nat.reduceAdd,Nat.reduceMul,Nat.reduceLeDiff,Nat.reduceLT,Int.reduceNeg,DF,eff,Nat.reduceSub,aa,d10,d11,c8,c11,x3];refine sts (c':=[s,.int .i64 0,.int .i64 1,.int .i64 1,.int .i64 0,.int .i64 0,.int .i64 0,.int .i64 0,.int .i64 0,.int .i64 0,.int .i64 0,.bool false,.nils]) F11.wf o11b ?_;rintro h12 o12 F12 n12;have od11:=F11.get (F10.own _ _ (by simp;omega) (F9.own _ _ (by simp;omega) (F78.get (F4.get od))));have od12:=F12.own _ _ (by simp;omega) od11;have d12:ab h12 h.next 0=some (.ptr b 0):=od12.ld1 0;have x4:ab h12 b 4=some (.int .i64 0):=o12.ld1 4;simp(maxSteps:=1000000) (disch:=omega) only[evs,↓reduceIte,Nat.reduceEqDiff,Nat.reduceAdd,Nat.reduceMul,Nat.reduceLeDiff,Nat.reduceLT,Int.reduceNeg,DF,eff,Nat.reduceSub,aa,d12,x4];refine sts (c':=[s,.int .i64 0,.int .i64 1,.int .i64 1,.int .i64 1,.int .i64 0,.int .i64 0,.int .i64 0,.int .i64 0,.int .i64 0,.int .i64 0,.bool false,.nils]) F12.wf o12 ?_;rintro h13 o13 F13 n13;have F9_13:Fr [b,h4.next+1] h9 h13:=Fr.trans (T:=[b,h4.next+1]) (Fr.trans (T:=[b,h4.next+1]) (Fr.trans (T:=[b,h4.next+1]) F10 F11 F9.wf (by simp) (by simp)) F12 F9.wf (by simp) (by simp)) F13 F9.wf (by simp) (by simp);have oc:Own h13 (h4.next+1) [.int .u32 0,.int .u32 1]:=F13.own _ _ (by simp;omega) (F12.own _ _ (by simp;omega) (F11.get o10));have l13:ak h13 (h4.next+1) 0 2=some [.int .u32 0,.int .u32 1]:=by rw[oc.ld];rfl
  have oz:Own h13 h2.next [.int .u32 0,.int .u32 0]:=F9_13.own _ _ (by simp;omega) (F9.own _ _ (by simp;omega) (F78.get (F4.get o_h3)));simp(maxSteps:=1000000) (disch:=omega) only[evs,↓reduceIte,Nat.reduceEqDiff,Nat.reduceAdd,Nat.reduceMul,Nat.reduceLeDiff,Nat.reduceLT,Int.reduceNeg,DF,eff,Nat.reduceSub,aa,l13];refine sts (c':=[.int .u32 0,.int .u32 1]) F13.wf oz ?_;rintro h14 o14 F14 n14;have l14:ak h14 h2.next 0 2=some [.int .u32 0,.int .u32 1]:=by rw[o14.ld];rfl
  simp(maxSteps:=1000000) (disch:=omega) only[evs,↓reduceIte,Nat.reduceEqDiff,Nat.reduceAdd,Nat.reduceMul,Nat.reduceLeDiff,Nat.reduceLT,Int.reduceNeg,DF,eff,Nat.reduceSub,aa,l14];have A:Fr [b,h4.next+1,h2.next] h h14:=Fr.trans (Fr.trans (T:=[b,h4.next+1]) (Fr.trans (T:=[b]) F08 F9 w (by simp) (by simp)) F9_13 w (by simp) (by simp)) F14 w (fun y hy=>.inl (by simp at hy;rcases hy with rfl|rfl<;>simp)) (fun y hy=>.inl (by simp at hy;simp[hy]))
  refine Fr.trans (S:=[]) (Fr.refl w) A w (by simp) (fun y hy=>?_);simp at hy;rcases hy with rfl|rfl|rfl
  ·simp
  ·exact .inr (by omega)
  ·exact .inr (by omega)
theorem pN{h:Heap}{b:Nat}(w:WF h)(o:Own h b pR):au go 55 [.ptr b 0,.str [108,105,115,116]] h fun u h'=>u=.tup [.agg [.int .u32 0,.int .u32 1],.int .i64 0]∧Fr [b] h h':=by
  have hb:=o.lt w;obtain⟨h1,e_h1⟩:∃h1,h1=halloc h [.int .u32 0,.int .u32 0]:=⟨_,rfl⟩;have F_h1:Fr [] h h1:=e_h1▸Fr.halloc w _;have o_h1:Own h1 h.next [.int .u32 0,.int .u32 0]:=e_h1▸Own.new w _;refine af ?_;simp(maxSteps:=1000000) (disch:=omega) only[evs,↓reduceIte,Nat.reduceEqDiff,Nat.reduceAdd,Nat.reduceMul,Nat.reduceLeDiff,Nat.reduceLT,Int.reduceNeg,DF,eff,Nat.reduceSub,aa,←e_h1];refine ae (sg F_h1.wf (F_h1.get o)) ?_;rintro _ h2 ⟨rfl,F2⟩;simp(maxSteps:=1000000) (disch:=omega) only[evs,↓reduceIte,Nat.reduceEqDiff,Nat.reduceAdd,Nat.reduceMul,Nat.reduceLeDiff,Nat.reduceLT,Int.reduceNeg,DF,eff,Nat.reduceSub,aa];refine sts (c':=[.int .u32 0,.int .u32 1]) F2.wf (F2.own _ _ (by simp;omega) o_h1) ?_;rintro h3 o3 F3 n3;have l3:ak h3 h.next 0 2=some [.int .u32 0,.int .u32 1]:=by rw[o3.ld];rfl
  simp(maxSteps:=1000000) (disch:=omega) only[evs,↓reduceIte,Nat.reduceEqDiff,Nat.reduceAdd,Nat.reduceMul,Nat.reduceLeDiff,Nat.reduceLT,Int.reduceNeg,DF,eff,Nat.reduceSub,aa,l3];have A:Fr [b,h.next] h h3:=Fr.trans (Fr.trans (T:=[b]) F_h1 F2 w (by simp) (by simp)) F3 w (fun y hy=>.inl (by simp at hy;simp[hy])) (fun y hy=>.inl (by simp at hy;simp[hy]));refine Fr.trans (S:=[]) (Fr.refl w) A w (by simp) (fun y hy=>?_);simp at hy;rcases hy with rfl|rfl
  ·simp
  ·exact .inr (by omega)
theorem wi{h:Heap}(w:WF h):au go 54 [] h fun u h'=>u=.ptr h.next 0∧Own h' h.next pR∧Fr [] h h':=by
  obtain⟨h1,e_h1⟩:∃h1,h1=halloc h pR:=⟨_,rfl⟩;have F_h1:Fr [] h h1:=e_h1▸Fr.halloc w _;have o_h1:Own h1 h.next pR:=e_h1▸Own.new w _;have e2:halloc h [.nils,.int .i64 0,.int .i64 0,.int .i64 0,.int .i64 0,.int .i64 0,.int .i64 0,.int .i64 0,.int .i64 0,.int .i64 0,.int .i64 0,.bool false,.nils]=h1:=e_h1.symm;refine af ?_;simp(maxSteps:=1000000) (disch:=omega) only[evs,↓reduceIte,Nat.reduceEqDiff,Nat.reduceAdd,Nat.reduceMul,Nat.reduceLeDiff,Nat.reduceLT,Int.reduceNeg,DF,eff,Nat.reduceSub,aa,e2];exact⟨o_h1,F_h1⟩
theorem vL{h:Heap}{b:Nat}(w:WF h):au go 56 [.ptr b 0] h fun u h'=>u=.tup [.ptr h.next 0,.int .i64 0]∧Fr [] h h':=by
  obtain⟨h1,e_h1⟩:∃h1,h1=halloc h [.ptr b 0,.nils]:=⟨_,rfl⟩;have F_h1:Fr [] h h1:=e_h1▸Fr.halloc w _;have o_h1:Own h1 h.next [.ptr b 0,.nils]:=e_h1▸Own.new w _;refine af ?_;simp(maxSteps:=1000000) (disch:=omega) only[evs,↓reduceIte,Nat.reduceEqDiff,Nat.reduceAdd,Nat.reduceMul,Nat.reduceLeDiff,Nat.reduceLT,Int.reduceNeg,DF,eff,Nat.reduceSub,aa,←e_h1];exact F_h1
theorem yM(A:List V)(m:Nat)(x z:V)(hm:0<m):cg (A++List.replicate m z) A.length [x]=some ((A++[x])++List.replicate (m-1) z):=by
  obtain⟨k,rfl⟩:∃k,m=k+1:=⟨m-1,by omega⟩;rw[bO _ _ _ (by simp)];simp[List.replicate_succ]
theorem yL(A R:List V)(x y:V):cg ((A++[y])++R) A.length [x]=some ((A++[x])++R):=by
  rw[bO _ _ _ (by simp)];simp
/-- how many rows a pool keeps -/
def bnd(flaw:Nat)(q:Knd):Int:=if flaw=3 then 65536 else q.pool
theorem wl{h:Heap}{v:V}{L:List Knd}{cap:Int}{flaw:Nat}(w:WF h)(a:ARecs Knd.cells 9 h v L)(hL:∀q∈L,KndH h q)(ok:okR L cap=true)(hP:∀q∈L,okP q=true)(hf:flaw<256):
    au go 24 [v,.int .i64 cap,.int .u8 (flaw:Int)] h fun u h'=>∃t,u=.tup [.ptr t 0,.int .i64 0]∧Fr [] h h':=by
  have lenL:=iQ ok;have v1:=a.one;refine af ?_;simp(maxSteps:=1000000) (disch:=omega) only[evs,↓reduceIte,Nat.reduceEqDiff,Nat.reduceAdd,Nat.reduceMul,Nat.reduceLeDiff,Nat.reduceLT,Int.reduceNeg,DF,eff,Nat.reduceSub,aa,ay v1];refine ae (fH w a hL (by omega)) ?_;rintro _ h1 ⟨rfl,F1⟩;rw[ok,if_pos rfl];simp(maxSteps:=1000000) (disch:=omega) only[evs,↓reduceIte,Nat.reduceEqDiff,Nat.reduceAdd,Nat.reduceMul,Nat.reduceLeDiff,Nat.reduceLT,Int.reduceNeg,DF,eff,Nat.reduceSub,aa,a.len];refine(oG _ _ _ _ _ _ _ _ (by omega) (by omega) (by omega) (by omega)).2 ?_;rw[gw];simp only[Int.toNat_natCast];obtain⟨h2,e_h2⟩:∃h2,h2=halloc h1 (List.replicate L.length (V.int .i64 0)):=⟨_,rfl⟩;have F_h2:Fr [] h1 h2:=e_h2▸Fr.halloc F1.wf _;have o_h2:Own h2 h1.next (List.replicate L.length (V.int .i64 0)):=e_h2▸Own.new F1.wf _;rw[←e_h2];have n2:h2.next=h1.next+1:=by rw[e_h2];rfl
  simp(maxSteps:=1000000) (disch:=omega) only[evs,↓reduceIte,Nat.reduceEqDiff,Nat.reduceAdd,Nat.reduceMul,Nat.reduceLeDiff,Nat.reduceLT,Int.reduceNeg,DF,eff,Nat.reduceSub,aa,a.len];have F02:=F1.then F_h2;refine aQ (fun n env hh=>Fr [] h hh∧h2.next≤hh.next∧∃(i:Nat),env.get 31=some (.int .i64 i)∧env.get 30=some (.int .i64 L.length)∧env.get 29=some v∧env.get 9=some (.slice h1.next 0 L.length L.length)∧env.get 0=some v∧env.get 1=some (.int .i64 cap)∧env.get 2=some (.int .u8 (flaw:Int))∧
      i≤L.length∧Own hh h1.next ((L.take i).map (fun q=>V.int .i64 (bnd flaw q))++List.replicate (L.length-i) (V.int .i64 0))∧n=L.length-i) L.length (by omega) ?_ ?_
  ·exact⟨F02,Nat.le_refl _,0,(by simp[T.get_set]),(by simp[T.get_set]),(by simp[T.get_set]),(by simp[T.get_set]),(by simp[T.get_set]),(by simp[T.get_set]),(by simp[T.get_set]),by omega,by simpa using o_h2,rfl⟩
  ·rintro n env hh ⟨F,hn,i,g31,g30,g29,g9,g0,g1,g2,hi,ob,rfl⟩;by_cases hlt:i<L.length
   ·have hlt':(i:Int)<L.length:=by omega
    obtain⟨bi,oi,q,p1,_,p3,p4⟩:=(a.fr F).ix bQ .i64 (i:Int) (by omega) hlt';rw[Int.toNat_natCast]at p4;have hq:=hL q (List.mem_of_getElem? p4);have hp:=hP q (List.mem_of_getElem? p4);simp only[okP,Bool.and_eq_true,decide_eq_true_eq]at hp;obtain⟨h3,e_h3⟩:∃h3,h3=halloc hh [.int .u8 0,.str [],.str [],.nils,.str [],.nils,.int .i64 0,.bool false,.int .i64 0]:=⟨_,rfl⟩;have F_h3:Fr [] hh h3:=e_h3▸Fr.halloc F.wf _;have o_h3:Own h3 hh.next [.int .u8 0,.str [],.str [],.nils,.str [],.nils,.int .i64 0,.bool false,.int .i64 0]:=e_h3▸Own.new F.wf _;have n3:h3.next=hh.next+1:=by rw[e_h3];rfl
    simp(maxSteps:=1000000) (disch:=omega) only[evs,↓reduceIte,Nat.reduceEqDiff,Nat.reduceAdd,Nat.reduceMul,Nat.reduceLeDiff,Nat.reduceLT,Int.reduceNeg,DF,eff,Nat.reduceSub,aa,g31,g30,g29,g9,g0,g1,g2,hlt',p1,p3,←e_h3];refine ao (c':=q.cells) F_h3.wf o_h3 rfl hq.ones9 rfl ?_;rintro h4 o4 F4 n4;have F04:Fr [] hh h4:=F_h3.fresh F4 F.wf (Nat.le_refl _);have l8:ab h4 hh.next 8=some (.int .i64 q.pool):=o4.ld1 8;have ix:=cZ 1 h1.next 0 L.length L.length .i64 (i:Int) (by omega) hlt';simp only[Int.toNat_natCast,Nat.zero_add,Nat.mul_one]at ix;have ob4:=F04.get ob;have lA:((L.take i).map (fun q=>V.int .i64 (bnd flaw q))).length=i:=by simp;omega
    have u1:=yM ((L.take i).map (fun q=>V.int .i64 (bnd flaw q))) (L.length-i) (.int .i64 q.pool) (.int .i64 0) (by omega);rw[lA]at u1;have eT:∀x:Int,x=bnd flaw q→(List.take i L).map (fun q=>V.int .i64 (bnd flaw q))++[V.int .i64 x]=(List.take (i+1) L).map (fun q=>V.int .i64 (bnd flaw q)):=fun x hx=>by
      rw[List.take_add_one,p4,hx];simp
    simp(maxSteps:=1000000) (disch:=omega) only[evs,↓reduceIte,Nat.reduceEqDiff,Nat.reduceAdd,Nat.reduceMul,Nat.reduceLeDiff,Nat.reduceLT,Int.reduceNeg,DF,eff,Nat.reduceSub,aa,g31,g30,g29,g9,g0,g1,g2,l8,show¬q.pool<0 by omega,show¬(16:Int)<q.pool by omega,ix];refine ao F04.wf ob4 rfl rfl u1 ?_;rintro h5 o5 F5 n5;have F05:Fr [] h h5:=(F.then F04).fresh F5 w (by have:=F1.next;omega);by_cases c3:flaw=3
    ·simp(maxSteps:=1000000) (disch:=omega) only[evs,↓reduceIte,Nat.reduceEqDiff,Nat.reduceAdd,Nat.reduceMul,Nat.reduceLeDiff,Nat.reduceLT,Int.reduceNeg,DF,eff,Nat.reduceSub,aa,g31,g30,g29,g9,g0,g1,g2,ix,eq_true (show(flaw:Int)=3 by omega)];have u2:=yL ((L.take i).map (fun q=>V.int .i64 (bnd flaw q))) (List.replicate (L.length-i-1) (.int .i64 0)) (.int .i64 65536) (.int .i64 q.pool);rw[lA]at u2;refine ao F5.wf o5 rfl rfl u2 ?_;rintro h6 o6 F6 n6;have F06:Fr [] h h6:=F05.fresh F6 w (by have:=F1.next;omega);simp(maxSteps:=1000000) (disch:=omega) only[evs,↓reduceIte,Nat.reduceEqDiff,Nat.reduceAdd,Nat.reduceMul,Nat.reduceLeDiff,Nat.reduceLT,Int.reduceNeg,DF,eff,Nat.reduceSub,aa,g31,g30,g29,g9,g0,g1,g2];rw[eT 65536 (by simp[bnd,c3])]at o6;refine rqn ⟨L.length-(i+1),by omega,F06,by omega,i+1,(by simp[T.get_set]),(by simp[T.get_set,g30]),(by simp[T.get_set,g29]),(by simp[T.get_set,g9]),(by simp[T.get_set,g0]),(by simp[T.get_set,g1]),(by simp[T.get_set,g2]),by omega,o6,rfl⟩
     done
    ·simp(maxSteps:=1000000) (disch:=omega) only[evs,↓reduceIte,Nat.reduceEqDiff,Nat.reduceAdd,Nat.reduceMul,Nat.reduceLeDiff,Nat.reduceLT,Int.reduceNeg,DF,eff,Nat.reduceSub,aa,g31,g30,g29,g9,g0,g1,g2,ix,show¬(flaw:Int)=3 by omega];rw[eT q.pool (by simp[bnd,c3])]at o5;refine rqn ⟨L.length-(i+1),by omega,F05,by omega,i+1,(by simp[T.get_set]),(by simp[T.get_set,g30]),(by simp[T.get_set,g29]),(by simp[T.get_set,g9]),(by simp[T.get_set,g0]),(by simp[T.get_set,g1]),(by simp[T.get_set,g2]),by omega,o5,rfl⟩
     done
   ·have hi':i=L.length:=by omega
    subst hi';rw[List.take_of_length_le (Nat.le_refl _),Nat.sub_self,List.replicate_zero,List.append_nil]at ob;have ob':Own hh h1.next ((L.map (bnd flaw)).map (V.int .i64)):=by rw[List.map_map];exact ob
    have lB:(L.map (bnd flaw)).length=L.length:=by simp
    have pn:=vD F.wf ob' (by rw[lB];omega) (by rw[lB];omega) (fun b hb=>by
      obtain⟨q,hq,rfl⟩:=List.mem_map.1 hb;have hp:=hP q hq;simp only[okP,Bool.and_eq_true,decide_eq_true_eq]at hp;unfold bnd;split<;>omega)
    rw[lB]at pn;simp(maxSteps:=1000000) (disch:=omega) only[evs,↓reduceIte,Nat.reduceEqDiff,Nat.reduceAdd,Nat.reduceMul,Nat.reduceLeDiff,Nat.reduceLT,Int.reduceNeg,DF,eff,Nat.reduceSub,aa,g31,g30,g29,g9,g0,g1,g2,show¬((L.length:Nat):Int)<(L.length:Nat) by omega];refine ae pn ?_;rintro _ h3 ⟨c,r,rfl,F3⟩;have F03:=F.then F3;obtain⟨h4,e_h4⟩:∃h4,h4=halloc h3 [.nils,.nils]:=⟨_,rfl⟩;have F_h4:Fr [] h3 h4:=e_h4▸Fr.halloc F3.wf _;have o_h4:Own h4 h3.next [.nils,.nils]:=e_h4▸Own.new F3.wf _;simp(maxSteps:=1000000) (disch:=omega) only[evs,↓reduceIte,Nat.reduceEqDiff,Nat.reduceAdd,Nat.reduceMul,Nat.reduceLeDiff,Nat.reduceLT,Int.reduceNeg,DF,eff,Nat.reduceSub,aa,g31,g30,g29,g9,g0,g1,g2,←e_h4];refine sts (c':=[.slice c 0 L.length L.length,.slice r 0 L.length L.length]) F_h4.wf o_h4 ?_;rintro h5 o5 F5 n5;have F05:Fr [] h h5:=(F03.then F_h4).fresh F5 w (by have:=F03.next;omega);simp(maxSteps:=1000000) (disch:=omega) only[evs,↓reduceIte,Nat.reduceEqDiff,Nat.reduceAdd,Nat.reduceMul,Nat.reduceLeDiff,Nat.reduceLT,Int.reduceNeg,DF,eff,Nat.reduceSub,aa,g31,g30,g29,g9,g0,g1,g2];refine ae (wi F5.wf) ?_;rintro _ h6 ⟨rfl,od,F6⟩;simp(maxSteps:=1000000) (disch:=omega) only[evs,↓reduceIte,Nat.reduceEqDiff,Nat.reduceAdd,Nat.reduceMul,Nat.reduceLeDiff,Nat.reduceLT,Int.reduceNeg,DF,eff,Nat.reduceSub,aa,g31,g30,g29,g9,g0,g1,g2];refine ae (pN F6.wf od) ?_;rintro _ h7 ⟨rfl,F7⟩;have F07:Fr [] h h7:=(F05.then F6).fresh F7 w (by have:=F05.next;omega);obtain⟨h8,e_h8⟩:∃h8,h8=halloc h7 [.int .u32 0,.int .u32 0]:=⟨_,rfl⟩;have F_h8:Fr [] h7 h8:=e_h8▸Fr.halloc F7.wf _;have o_h8:Own h8 h7.next [.int .u32 0,.int .u32 0]:=e_h8▸Own.new F7.wf _;simp(maxSteps:=1000000) (disch:=omega) only[evs,↓reduceIte,Nat.reduceEqDiff,Nat.reduceAdd,Nat.reduceMul,Nat.reduceLeDiff,Nat.reduceLT,Int.reduceNeg,DF,eff,Nat.reduceSub,aa,g31,g30,g29,g9,g0,g1,g2,←e_h8];refine sts (c':=[.int .u32 0,.int .u32 1]) F_h8.wf o_h8 ?_;rintro h9 o9 F9 n9;have F09:Fr [] h h9:=(F07.then F_h8).fresh F9 w (by have:=F07.next;omega);simp(maxSteps:=1000000) (disch:=omega) only[evs,↓reduceIte,Nat.reduceEqDiff,Nat.reduceAdd,Nat.reduceMul,Nat.reduceLeDiff,Nat.reduceLT,Int.reduceNeg,DF,eff,Nat.reduceSub,aa,g31,g30,g29,g9,g0,g1,g2];refine ae (vL F9.wf) ?_;rintro _ h10 ⟨rfl,F10⟩;have F010:=F09.then F10;simp(maxSteps:=1000000) (disch:=omega) only[evs,↓reduceIte,Nat.reduceEqDiff,Nat.reduceAdd,Nat.reduceMul,Nat.reduceLeDiff,Nat.reduceLT,Int.reduceNeg,DF,eff,Nat.reduceSub,aa,g31,g30,g29,g9,g0,g1,g2];refine ae (ei F010.wf (a.fr F010) rfl (by omega)) ?_;rintro vK h11 ⟨gk,F11⟩;obtain⟨_,⟨z,_⟩|⟨bp,hbp,rfl,obp⟩⟩:=gk
    ·omega
    have n4:h4.next=h3.next+1:=by rw[e_h4];rfl
    have n8:h8.next=h7.next+1:=by rw[e_h8];rfl
    have hn6:=F6.next;have hn7:=F7.next;have hn10:=F10.next;have hn11:=F11.next;have bp11:=obp.lt F11.wf;have o12:Own h11 h3.next [.slice c 0 L.length L.length,.slice r 0 L.length L.length]:=F11.get (F10.get (F9.own _ _ (by simp;omega) (F_h8.get (F7.own _ _ (by simp;omega) (F6.get o5)))));have o15:Own h11 h7.next [.int .u32 0,.int .u32 1]:=F11.get (F10.get o9);have fl:∀M:List Knd,(M.flatMap Knd.cells).length=M.length*9:=cD bQ;simp(maxSteps:=1000000) (disch:=omega) only[evs,↓reduceIte,Nat.reduceEqDiff,Nat.reduceAdd,Nat.reduceMul,Nat.reduceLeDiff,Nat.reduceLT,Int.reduceNeg,DF,eff,Nat.reduceSub,aa,g31,g30,g29,g9,g0,g1,g2];refine aQ (fun n env hh=>Fr [] h hh∧h11.next≤hh.next∧Own hh h3.next [.slice c 0 L.length L.length,.slice r 0 L.length L.length]∧Own hh h7.next [.int .u32 0,.int .u32 1]∧
        ∃(i:Nat)(C:List V),env.get 84=some (.int .i64 i)∧env.get 83=some (.int .i64 L.length)∧env.get 17=some (.sliceU bp 0 L.length 9)∧env.get 12=some (.ptr h3.next 0)∧env.get 15=some (.ptr h7.next 0)∧env.get 14=some (.ptr h5.next 0)∧env.get 16=some (.ptr h9.next 0)∧env.get 1=some (.int .i64 cap)∧env.get 2=some (.int .u8 (flaw:Int))∧
        i≤L.length∧Own hh bp C∧C.length=L.length*9∧C.drop (i*9)=(L.drop i).flatMap Knd.cells∧n=L.length-i) L.length (by omega) ?_ ?_
    ·exact⟨F010.then F11,Nat.le_refl _,o12,o15,0,_,(by simp[T.get_set]),(by simp[T.get_set]),(by simp[T.get_set]),(by simp[T.get_set]),(by simp[T.get_set]),(by simp[T.get_set]),(by simp[T.get_set]),(by simp[T.get_set,g1]),(by simp[T.get_set,g2]),by omega,obp,by rw[fl],by simp,rfl⟩
    ·rintro n env hh ⟨F,hn,p12,p15,i,C,g84,g83,g17,g12,g15,g14,g16,g1,g2,hi,ob,lC,dC,rfl⟩;by_cases hlt:i<L.length
     ·have hlt':(i:Int)<L.length:=by omega
      obtain⟨q,hq⟩:∃q,L[i]? =some q:=⟨_,List.getElem?_eq_getElem hlt⟩;have hqL:=hL q (List.mem_of_getElem? hq);have hqok:=tk ok q (List.mem_of_getElem? hq);rw[bq hq,List.flatMap_cons]at dC;have ix:=gh 9 bp 0 L.length 9 .i64 (i:Int) (by omega) hlt';simp only[Int.toNat_natCast,Nat.zero_add]at ix;have lc:ak hh bp (i*9) 6=some q.part:=by
        rw[ob.ld,aC,dC];rfl
      simp(maxSteps:=1000000) (disch:=omega) only[evs,↓reduceIte,Nat.reduceEqDiff,Nat.reduceAdd,Nat.reduceMul,Nat.reduceLeDiff,Nat.reduceLT,Int.reduceNeg,DF,eff,Nat.reduceSub,aa,g84,g83,g17,g12,g15,g14,g16,g1,g2,hlt',ix,lc];refine ae (iW yA (pcs yA q.sub) hh F.wf (hqL.fr F) (Knd.small hqok)) ?_;rintro _ h12 ⟨vs2,vp2,sb2,rfl,sm,F12,st2⟩;have on2:av [.int .u8 (q.k:Int),.str q.tg,.str q.ky,vs2,.str q.tx,vp2]=true:=PH.ones (st2 [] h12 (by simp) (Fr.refl F12.wf));simp(maxSteps:=1000000) (disch:=omega) only[evs,↓reduceIte,Nat.reduceEqDiff,Nat.reduceAdd,Nat.reduceMul,Nat.reduceLeDiff,Nat.reduceLT,Int.reduceNeg,DF,eff,Nat.reduceSub,aa,g84,g83,g17,g12,g15,g14,g16,g1,g2,ix];have eC:=bO C (i*9) [.int .u8 (q.k:Int),.str q.tg,.str q.ky,vs2,.str q.tx,vp2] (by simp only[List.length_cons,List.length_nil];omega);refine ao F12.wf (F12.get ob) rfl on2 eC ?_;rintro h13 o13 F13 n13;have hn12:=F12.next;have F013:Fr [] h h13:=(F.then F12).fresh F13 w (by have:=F010.next;omega);simp(maxSteps:=1000000) (disch:=omega) only[evs,↓reduceIte,Nat.reduceEqDiff,Nat.reduceAdd,Nat.reduceMul,Nat.reduceLeDiff,Nat.reduceLT,Int.reduceNeg,DF,eff,Nat.reduceSub,aa,g84,g83,g17,g12,g15,g14,g16,g1,g2];refine rqn ⟨L.length-(i+1),by omega,F013,by omega,F13.own _ _ (by simp;omega) (F12.get p12),F13.own _ _ (by simp;omega) (F12.get p15),i+1,_,(by simp[T.get_set]),(by simp[T.get_set,g83]),(by simp[T.get_set,g17]),(by simp[T.get_set,g12]),(by simp[T.get_set,g15]),(by simp[T.get_set,g14]),(by simp[T.get_set,g16]),(by simp[T.get_set,g1]),(by simp[T.get_set,g2]),by omega,o13,?_,?_,rfl⟩
      ·simp only[List.length_append,List.length_take,List.length_drop,List.length_cons,List.length_nil];omega
      ·have e1:(C.drop (i*9)).drop 9=(L.drop (i+1)).flatMap Knd.cells:=by rw[dC];rfl
       rw[List.drop_drop,show i*9+9=(i+1) *9 by omega]at e1;rw[←e1];have lt:(C.take (i*9)++[.int .u8 (q.k:Int),.str q.tg,.str q.ky,vs2,.str q.tx,vp2]).length=i*9+6:=by simp only[List.length_append,List.length_take,List.length_cons,List.length_nil];omega
       rw[show(i+1) *9=(C.take (i*9)++[.int .u8 (q.k:Int),.str q.tg,.str q.ky,vs2,.str q.tx,vp2]).length+3 by rw[lt];omega,List.drop_length_add_append,List.drop_drop,lt];congr 1
     ·have m12:ak hh h3.next 0 2=some [.slice c 0 L.length L.length,.slice r 0 L.length L.length]:=by rw[p12.ld];rfl
      have m15:ak hh h7.next 0 2=some [.int .u32 0,.int .u32 1]:=by rw[p15.ld];rfl
      simp(maxSteps:=1000000) (disch:=omega) only[evs,↓reduceIte,Nat.reduceEqDiff,Nat.reduceAdd,Nat.reduceMul,Nat.reduceLeDiff,Nat.reduceLT,Int.reduceNeg,DF,eff,Nat.reduceSub,aa,g84,g83,g17,g12,g15,g14,g16,g1,g2,show¬(i:Int)<(L.length:Nat) by omega,m12,m15];exact⟨hh.next,rfl,F.then (Fr.halloc F.wf _)⟩
/-- an engine at its beginning, that of a configuration -/
structure Eng(h:Heap)(g:Nat)(c:Cfg):Prop where
  ex:∃(t s bg bK:Nat)(K:List Knd)(v1 v2 v3 v4:V),Own h g ((c.put (.slice bK 0 K.length K.length) K).cells++[.ptr t 0,.ptr s 0,.int .i64 c.view,.int .i64 0,.int .i64 0,.int .i64 0,.int .i64 0,.int .i64 0,.int .u64 0,.int .i64 0])∧
    Own h s [v1,v2,.ptr bg 0,v3,v4]∧Own h bg [.nils,.int .i64 0,.int .i64 0]∧bY c.Ks K∧∀(X:List Nat)(h2:Heap),(∀y∈X,h.next≤y)→Fr X h h2→CfH h2 (c.put (.slice bK 0 K.length K.length) K)
theorem Eng.fr{h h':Heap}{g:Nat}{c:Cfg}{X:List Nat}(w:WF h)(a:Eng h g c)(hX:∀y∈X,h.next≤y)(f:Fr X h h'):Eng h' g c:=by
  obtain⟨t,s,bg,bK,K,v1,v2,v3,v4,o1,o2,o3,e,st⟩:=a.ex;have q:∀b,b<h.next→b∉X:=fun b hb m=>by have:=hX b m;omega
  refine⟨t,s,bg,bK,K,v1,v2,v3,v4,f.own _ _ (q _ (o1.lt w)) o1,f.own _ _ (q _ (o2.lt w)) o2,f.own _ _ (q _ (o3.lt w)) o3,e,fun Y h2 hY f2=>?_⟩;have hn:=f.next;exact st (X++Y) h2 (fun y hy=>by
    rcases List.mem_append.1 hy with m|m
    ·exact hX y m
    ·have:=hY y m;omega) (Fr.trans f f2 w (fun y hy=>.inl (by simp[hy])) (fun y hy=>.inl (by simp[hy])))
theorem wg{h:Heap}{c:Cfg}(w:WF h)(a:CfH h c)(hf:c.flaw<256):
    au go 6 [.agg c.cells] h fun u h'=>(u=if cfB c then .tup [.ptr (h'.next-1) 0,.int .i64 0]else .tup [.nilp,.int .i64 7])∧Fr [] h h'∧(cfB c=true→Eng h' (h'.next-1) c∧h.next≤h'.next-1):=by
  have on:=a.ks.one;obtain⟨h1,e_h1⟩:∃h1,h1=halloc h c.cells:=⟨_,rfl⟩;have F_h1:Fr [] h h1:=e_h1▸Fr.halloc w _;have o_h1:Own h1 h.next c.cells:=e_h1▸Own.new w _;have l7:ak h1 h.next 0 7=some c.cells:=by rw[o_h1.ld];rfl
  refine af ?_;simp(maxSteps:=1000000) (disch:=omega) only[evs,↓reduceIte,Nat.reduceEqDiff,Nat.reduceAdd,Nat.reduceMul,Nat.reduceLeDiff,Nat.reduceLT,Int.reduceNeg,DF,eff,Nat.reduceSub,aa,←e_h1,l7];refine ae (em F_h1.wf (a.fr F_h1)) ?_;rintro _ h2 ⟨rfl,F2⟩;cases cb:cfB c
  ·simp(maxSteps:=1000000) (disch:=omega) only[evs,↓reduceIte,Nat.reduceEqDiff,Nat.reduceAdd,Nat.reduceMul,Nat.reduceLeDiff,Nat.reduceLT,Int.reduceNeg,DF,eff,Nat.reduceSub,aa,cb,show¬(7:Int)=0 by omega];exact⟨F_h1.then F2,fun e=>e.elim⟩
  have F02:=F_h1.then F2;have o2:=F2.get o_h1;have l3:ab h2 h.next 3=some c.vK:=o2.ld1 3;have l4:ab h2 h.next 4=some (.int .i64 c.cap):=o2.ld1 4;have cb':=cb;simp only[cfB,jM,Bool.and_eq_true,decide_eq_true_eq]at cb';obtain⟨c0,c1,c2,c3,c4,c5,c6,⟨k0,k1,k2,k3⟩,k4⟩:=cb';have lenL:=iQ k0;simp(maxSteps:=1000000) (disch:=omega) only[evs,↓reduceIte,Nat.reduceEqDiff,Nat.reduceAdd,Nat.reduceMul,Nat.reduceLeDiff,Nat.reduceLT,Int.reduceNeg,DF,eff,Nat.reduceSub,aa,cb,l3,l4,ay on];refine ae (xV F2.wf (a.fr F02).ks (a.fr F02).each (by omega) k0) ?_;rintro _ h3 ⟨s,bg,bm,bl,vK,K0,rfl,F3,_,os,og,_,_,b1,b2,b3,b4,_,_,_⟩;have F03:=F02.then F3;have o3:=F3.get o2;have m3:ab h3 h.next 3=some c.vK:=o3.ld1 3;have m4:ab h3 h.next 4=some (.int .i64 c.cap):=o3.ld1 4;have m6:ab h3 h.next 6=some (.int .u8 (c.flaw:Int)):=o3.ld1 6;simp(maxSteps:=1000000) (disch:=omega) only[evs,↓reduceIte,Nat.reduceEqDiff,Nat.reduceAdd,Nat.reduceMul,Nat.reduceLeDiff,Nat.reduceLT,Int.reduceNeg,DF,eff,Nat.reduceSub,aa,m3,m4,m6];refine ae (wl F3.wf (a.fr F03).ks (a.fr F03).each k0 (List.all_eq_true.1 k3) hf) ?_;rintro _ h4 ⟨t,rfl,F4⟩;have F04:=F03.then F4;have o4:=F4.get o3;have p7:ak h4 h.next 0 7=some c.cells:=by rw[o4.ld];rfl
  have p0:ab h4 h.next 0=some (.int .i64 c.view):=o4.ld1 0;simp(maxSteps:=1000000) (disch:=omega) only[evs,↓reduceIte,Nat.reduceEqDiff,Nat.reduceAdd,Nat.reduceMul,Nat.reduceLeDiff,Nat.reduceLT,Int.reduceNeg,DF,eff,Nat.reduceSub,aa,p7,p0];refine ae (jT F4.wf (a.fr F04) k0) ?_;rintro _ h5 ⟨bK,K,rfl,sk,F5,hbK,oK,pK,st⟩;have o5:=F5.get o4;have q7:ak h5 h.next 0 7=some c.cells:=by rw[o5.ld];rfl
  have q0:ab h5 h.next 0=some (.int .i64 c.view):=o5.ld1 0;have F05:=F04.then F5;simp only[Cfg.cells,Cfg.put]at p7 q7⊢;have F06:=F05.then (Fr.halloc F05.wf ((c.put (.slice bK 0 K.length K.length) K).cells++[.ptr t 0,.ptr s 0,.int .i64 c.view,.int .i64 0,.int .i64 0,.int .i64 0,.int .i64 0,.int .i64 0,.int .u64 0,.int .i64 0]));have ogE:=Own.new F05.wf ((c.put (.slice bK 0 K.length K.length) K).cells++[.ptr t 0,.ptr s 0,.int .i64 c.view,.int .i64 0,.int .i64 0,.int .i64 0,.int .i64 0,.int .i64 0,.int .u64 0,.int .i64 0]);have Fl:=Fr.halloc F05.wf ((c.put (.slice bK 0 K.length K.length) K).cells++[.ptr t 0,.ptr s 0,.int .i64 c.view,.int .i64 0,.int .i64 0,.int .i64 0,.int .i64 0,.int .i64 0,.int .u64 0,.int .i64 0]);simp(maxSteps:=1000000) (disch:=omega) only[evs,↓reduceIte,Nat.reduceEqDiff,Nat.reduceAdd,Nat.reduceMul,Nat.reduceLeDiff,Nat.reduceLT,Int.reduceNeg,DF,eff,Nat.reduceSub,aa,p7,p0,q7,q0];have eg:∀x:List V,(halloc h5 x).next-1=h5.next:=fun x=>by show h5.next+1-1=_;omega
  have hn4:=F04.next;have hn5:=F5.next;refine⟨by rw[eg],F06,fun _=>⟨⟨t,s,bg,bK,K,vK,.int .i64 c.cap,.ptr bm 0,.ptr bl 0,?_,Fl.get (F5.get (F4.get os)),Fl.get (F5.get (F4.get og)),sk,fun X h7 hX f7=>?_⟩,by rw[eg];omega⟩⟩
  ·rw[eg];exact ogE
  ·refine st X h7 (fun y hy=>.inr ?_) (Fr.trans Fl f7 F05.wf (by simp) (fun y hy=>.inl hy));have:h5.next+1≤y:=hX y hy;omega
end Go.Ev.Lay
