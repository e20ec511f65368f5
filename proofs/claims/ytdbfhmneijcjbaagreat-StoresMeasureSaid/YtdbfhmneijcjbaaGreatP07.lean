/- An evaluator of the program, and contracts over it: LayK to StD. -/
import Derived.Test.YtdbfhmneijcjbaaGreatP04
import Derived.Test.YtdbfhmneijcjbaaGreatP06
set_option linter.unusedSimpArgs false
set_option linter.unusedVariables false
set_option linter.constructorNameAsVariable false
namespace Go.Ev.Lay
set_option maxRecDepth 4000
theorem sy{h:Heap}{s:Int×Int}{a:Int}(w:WF h):ao go 291 [.agg [.int .i64 s.1,.int .i64 s.2],.int .i64 a] h fun u h'=>u=.int .i64 (if a<s.1 then s.1 else s.2)∧Fr [] h h':=by
 obtain⟨h1,e_h1⟩:∃h1,h1=halloc h [.int .i64 s.1,.int .i64 s.2]:=⟨_,rfl⟩;have F_h1:Fr [] h h1:=e_h1▸Fr.halloc w _;have o_h1:Own h1 h.next [.int .i64 s.1,.int .i64 s.2]:=e_h1▸Own.new w _;by_cases c:a<s.1
 ·refine ag g291 rfl ?_;simp only[fn291,evs,↓reduceIte,Nat.reduceEqDiff,Nat.reduceAdd,←e_h1,o_h1.ld1,c];exact F_h1
 ·refine ag g291 rfl ?_;simp only[fn291,evs,↓reduceIte,Nat.reduceEqDiff,Nat.reduceAdd,←e_h1,o_h1.ld1,c];exact F_h1
theorem DH{h:Heap}{u v:V}{A B:List (Int×Int)}(w:WF h)(a:Sp h u A)(b:Sp h v B)(oka:SOK A (-1))(okb:SOK B (-1))(ha:A.length≤4096)(hb:B.length≤4096):
 ao go 290 [u,v] h fun u h'=>u=.int .i64 0∧Fr [] h h':=by
 refine ag g290 rfl ?_;simp only[fn290,evs,↓reduceIte,Nat.reduceEqDiff,Nat.reduceAdd];refine aa (jo w a oka ha) ?_;rintro _ h1 ⟨rfl,F1⟩;simp only[evs,↓reduceIte,Nat.reduceEqDiff];refine aa (jo F1.wf (b.fr F1) okb hb) ?_;rintro _ h2 ⟨rfl,F2⟩;simp only[evs,↓reduceIte];exact F1.then F2
def cnt(A:List (Int×Int))(a:Int):Nat:=(A.map fun s=>(if a<s.1 then 1 else 0)+(if a<s.2 then 1 else 0)).sum
theorem iN(s:Int×Int)(A:List (Int×Int))(a:Int):cnt (s::A) a=(if a<s.1 then 1 else 0)+(if a<s.2 then 1 else 0)+cnt A a:=by simp[cnt]
theorem jZ:∀(A:List (Int×Int)){a e:Int},a≤e→cnt A e≤cnt A a
 |[],_,_,_=>Nat.le_refl _
 |s::A,a,e,h=>by
  have:=jZ A h;rw[iN,iN];by_cases c1:e<s.1<;>by_cases c2:e<s.2<;>by_cases c3:a<s.1<;>by_cases c4:a<s.2<;>simp[c1,c2,c3,c4]<;>omega
theorem oV:∀(A:List (Int×Int)){a e:Int}{s:Int×Int},a<e→s∈A→(s.1=e∨s.2=e)→cnt A e<cnt A a
 |t::A,a,e,s,h,hs,hse=>by
  rw[iN,iN];have hle:=jZ A (Int.le_of_lt h);rcases List.mem_cons.1 hs with rfl|hs
  ·by_cases c1:e<s.1<;>by_cases c2:e<s.2<;>by_cases c3:a<s.1<;>by_cases c4:a<s.2<;>simp[c1,c2,c3,c4]<;>omega
  ·have:=oV A h hs hse;by_cases c1:e<t.1<;>by_cases c2:e<t.2<;>by_cases c3:a<t.1<;>by_cases c4:a<t.2<;>simp[c1,c2,c3,c4]<;>omega
theorem xf(A:List (Int×Int))(a:Int):cnt A a≤2*A.length:=by
 induction A with
 |nil=>simp[cnt]
 |cons s A ih=>rw[iN];simp only[List.length_cons];by_cases c3:a<s.1<;>by_cases c4:a<s.2<;>simp[c3,c4]<;>omega
def pJ(D:List (Int×Int))(a:Int):Bool:=match D with
 |[]=>false
 |s::_=>decide (s.1≤a)
def jF(D:List (Int×Int))(a:Int):Int:=match D with
 |[]=>1073741824
 |s::_=>if a<s.1 then s.1 else s.2
theorem seg{D:List (Int×Int)}{last a x:Int}(ok:SOK D last)(hx:a≤x)(hD:∀s D',D=s::D'→a<s.2)(he:x<jF D a):inS D x=pJ D a:=by
 cases D with
 |nil=>rfl
 |cons s D=>
  obtain⟨h1,h2,h3,h4,h5⟩:=ok;have:=hD s D rfl;simp only[jF]at he;rw[ga,SOK.below h5 (by split at he<;>omega),Bool.or_false];simp only[pJ];rw[Bool.eq_iff_iff];simp;split at he<;>omega
theorem jg{A:List (Int×Int)}{i:Nat}{a x:Int}(h:∀s∈A.take i,s.2≤a)(hx:a≤x):inS A x=inS (A.drop i) x:=by
 conv=>lhs;rw[←List.take_append_drop i A]
 rw[mR];have:inS (A.take i) x=false:=by
  simp only[inS,List.any_eq_false,Bool.and_eq_true,decide_eq_true_eq];intro s hs;have:=h s hs;omega
 rw[this,Bool.false_or]
theorem Aa{A:List (Int×Int)}{i:Nat}{s:Int×Int}{a:Int}(h:∀s∈A.take i,s.2≤a)(e:A[i]? =some s)(hs:s.2≤a):∀s∈A.take (i+1),s.2≤a:=by
 intro t ht;rw[List.take_add_one,e]at ht;simp at ht;rcases ht with ht|rfl
 ·exact h t ht
 ·exact hs
theorem wG{h:Heap}{v:V}{A:List (Int×Int)}{env:T V}{at':Int}{i:Nat}{Q:Ex→T V→Heap→Prop}{c:IC}(sv sx sz:Nat)(hA:A.length≤4096)(h10:sx≠10∧sz≠10∧sv≠sx∧sv≠sz∧sx≠sz)(id:Nat)
 (a:Sp h v A) (gv:env.get sv=some v) (g10:env.get 10=some (.int .i64 at')) (gx:env.get sx=some (.int .i64 i)) (hi:i≤A.length) (hb:∀s∈A.take i,s.2≤at')
 (body:∀(env:T V)(i:Nat)(Q:Ex→T V→Heap→Prop),env.get sv=some v→env.get 10=some (.int .i64 at')→env.get sx=some (.int .i64 i)→i≤A.length→
  (∀env',env'.get sx=some (.int .i64 ((i:Int)+1))→(∀s,s≠sx→s≠sz→env'.get s=env.get s)→(∃s,A[i]? =some s∧s.2≤at')→Q .norm env' h)→
  (∀env',(∀s,s≠sz→env'.get s=env.get s)→(∀s,A[i]? =some s→at'<s.2)→Q (.exit id) env' h)→W go c env h Q)
 (k:∀env' (j:Nat),env'.get sx=some (.int .i64 j)→(∀s,s≠sx→s≠sz→env'.get s=env.get s)→j≤A.length→(∀s∈A.take j,s.2≤at')→(∀s,A[j]? =some s→at'<s.2)→Q (.exit id) env' h):
 W go (.loop c) env h Q:=by
 refine aE (fun k env' hh=>hh=h∧(∀s,s≠sx→s≠sz→env'.get s=env.get s)∧∃j:Nat,env'.get sx=some (.int .i64 j)∧j≤A.length∧(∀s∈A.take j,s.2≤at')∧k=A.length-j) (A.length-i) (by omega) ?_ ?_
 ·exact⟨rfl,fun _ _ _=>rfl,i,gx,hi,hb,rfl⟩
 ·rintro k' env1 hh ⟨rfl,same,j,gj,hj,hbj,rfl⟩;refine body env1 j _ ((same sv h10.2.2.1 h10.2.2.2.1).trans gv) ((same 10 (Ne.symm h10.1) (Ne.symm h10.2.1)).trans g10) gj hj ?_ ?_
  ·rintro env2 e1 e2 ⟨s,es,hs⟩;have hlt:j<A.length:=by
    rcases Nat.lt_or_ge j A.length with y|y
    ·exact y
    ·rw[List.getElem?_eq_none y]at es;cases es
   exact(aj _ _ _).2 ⟨A.length-(j+1),by omega,rfl,fun s a1 a2=>(e2 s a1 a2).trans (same s a1 a2),j+1,by simpa using e1,by omega,Aa hbj es hs,rfl⟩
  ·intro env2 e2 hs;exact(iv _ _ _ _).2 (k env2 j ((e2 sx h10.2.2.2.2).trans gj) (fun s a1 a2=>(e2 s a2).trans (same s a1 a2)) hj hbj hs)
structure Keep(kf:V)(keep:Bool→Bool→Bool):Prop where
 fn:∃g,kf=.func (.func g) [] []∧g<1099511627776∧∀h a b,ao go g [.bool a,.bool b] h fun u h'=>u=.bool (keep a b)∧h'=h
 ff:keep false false=false
theorem qo{h:Heap}{u v kf:V}{A B:List (Int×Int)}{keep:Bool→Bool→Bool}(w:WF h)(a:Sp h u A)(b:Sp h v B)(oka:SOK A (-1))(okb:SOK B (-1))(ha:A.length≤4096)(hb:B.length≤4096)
 (hk:Keep kf keep) (m:Int) (hm:m≤8000) (hma:∀s∈A,s.2≤m) (hmb:∀s∈B,s.2≤m):
 ao go 269 [u,v,kf] h fun z h'=>Fr [] h h'∧∃y L,z=.tup [y,.int .i64 0]∧y.one=true∧SpF h' y L∧SOK L (-1)∧(∀x,inS L x=keep (inS A x) (inS B x))∧∀s∈L,s.2≤max m 0:=by
 refine ag g269 rfl ?_;simp only[fn269,evs,Nat.reduceAdd,Int.reduceNeg];refine Cc ?_;simp only[evs,↓reduceIte,Nat.reduceEqDiff,Int.reduceNeg];refine aa (DH w a b oka okb ha hb) ?_;rintro _ h1 ⟨rfl,F1⟩;simp only[evs,↓reduceIte,Int.reduceNeg];obtain⟨g,rfl,hgy,hkf⟩:=hk.fn;have below:∀(O:List (Int×Int)){c:Int},(∀s∈O,s.2≤c)→∀x,c≤x→inS O x=false:=by
  intro O c hO x hx;simp only[inS,List.any_eq_false,Bool.and_eq_true,decide_eq_true_eq];intro s hs;have:=hO s hs;omega
 refine aE (fun k env hh=>∃(i j:Nat)(at':Int)(vo:V)(O:List (Int×Int)),Fr [] h hh∧env.get 0=some u∧env.get 1=some v∧env.get 2=some (.func (.func g) [] [])∧env.get 9=some vo∧
  env.get 10=some (.int .i64 at')∧env.get 11=some (.int .i64 i)∧env.get 12=some (.int .i64 j)∧i≤A.length∧j≤B.length∧0≤at'∧at'≤max m 0∧(∀s∈A.take i,s.2≤at')∧(∀s∈B.take j,s.2≤at')∧
  GRecs sp 2 hh h.next vo O∧SOK O (-1)∧(∀s∈O,s.2≤at')∧(∀x,x<at'→inS O x=keep (inS A x) (inS B x))∧k=cnt A at'+cnt B at') (cnt A 0+cnt B 0) (by have:=xf A 0;have:=xf B 0;omega) ?_ ?_
 ·refine⟨0,0,0,.nils,[],F1,(by simp[T.get_set]),(by simp[T.get_set]),(by simp[T.get_set]),(by simp[T.get_set]),(by simp[T.get_set]),(by simp[T.get_set]),(by simp[T.get_set]),by omega,by omega,by omega,by omega,by simp,by simp,GRecs.nil,trivial,by simp,?_,rfl⟩;intro x hx;rw[oka.below (by omega),okb.below (by omega),hk.ff];rfl
 ·rintro k env hh ⟨i,j,at',vo,O,F,g0,g1,g2,g9,g10,g11,g12,hi,hj,at0,atm,hbi,hbj,gO,okO,mO,sO,rfl⟩;simp only[evs,Int.reduceNeg];refine wG 0 11 34 ha (by omega) 2 (a.fr F) g0 g10 g11 hi hbi ?_ ?_
  ·intro env i Q g0 g10 g11 hi hn hx;by_cases hlt:(i:Int)<A.length
   ·obtain⟨bb,oo,s,e1,e2,e3,e4,e5⟩:=Sp.ix (a.fr F) i hlt;by_cases hs:s.2≤at'
    ·simp(disch:=omega) only[evs,↓reduceIte,Nat.reduceEqDiff,ai,g0,g10,g11,(a.fr F).len,hlt,e1,e3,hs];exact hn _ (by simp[T.get_set]) (fun s h1 h2=>by simp[T.get_set,h1,h2]) ⟨s,e5,hs⟩
    ·simp only[evs,↓reduceIte,g0,g10,g11,(a.fr F).len,hlt,e1,e3,hs];exact hx _ (fun s h1=>by simp[T.get_set,h1]) (fun t ht=>by rw[e5]at ht;cases ht;omega)
   ·simp only[evs,↓reduceIte,g0,g11,(a.fr F).len,hlt];exact hx _ (fun s h1=>by simp[T.get_set,h1]) (fun t ht=>by rw[List.getElem?_eq_none (by omega)]at ht;cases ht)
  intro env1 i1 g11' same1 hi1 hb1 hs1;have g0':=(same1 0 (by omega) (by omega)).trans g0;have g1':=(same1 1 (by omega) (by omega)).trans g1;have g2':=(same1 2 (by omega) (by omega)).trans g2;have g9':=(same1 9 (by omega) (by omega)).trans g9;have g10':=(same1 10 (by omega) (by omega)).trans g10;have g12':=(same1 12 (by omega) (by omega)).trans g12;simp only[evs,↓reduceIte,Int.reduceNeg];refine wG 1 12 49 hb (by omega) 4 (b.fr F) g1' g10' g12' hj hbj ?_ ?_
  ·intro env i Q g0 g10 g11 hi hn hx;by_cases hlt:(i:Int)<B.length
   ·obtain⟨bb,oo,s,e1,e2,e3,e4,e5⟩:=Sp.ix (b.fr F) i hlt;by_cases hs:s.2≤at'
    ·simp(disch:=omega) only[evs,↓reduceIte,Nat.reduceEqDiff,ai,g0,g10,g11,(b.fr F).len,hlt,e1,e3,hs];exact hn _ (by simp[T.get_set]) (fun s h1 h2=>by simp[T.get_set,h1,h2]) ⟨s,e5,hs⟩
    ·simp only[evs,↓reduceIte,g0,g10,g11,(b.fr F).len,hlt,e1,e3,hs];exact hx _ (fun s h1=>by simp[T.get_set,h1]) (fun t ht=>by rw[e5]at ht;cases ht;omega)
   ·simp only[evs,↓reduceIte,g0,g11,(b.fr F).len,hlt];exact hx _ (fun s h1=>by simp[T.get_set,h1]) (fun t ht=>by rw[List.getElem?_eq_none (by omega)]at ht;cases ht)
  intro env2 j1 g12'' same2 hj1 hb2 hs2;have n0:=(same2 0 (by omega) (by omega)).trans g0';have n1:=(same2 1 (by omega) (by omega)).trans g1';have n2:=(same2 2 (by omega) (by omega)).trans g2';have n9:=(same2 9 (by omega) (by omega)).trans g9';have n10:=(same2 10 (by omega) (by omega)).trans g10';have n11:=(same2 11 (by omega) (by omega)).trans g11';clear same1 same2 g0' g1' g2' g9' g10' g11' g12' g0 g1 g2 g9 g10 g11 g12 hbi hbj hi hj env env1;obtain⟨ca,okA⟩:=oka.drop i1;obtain⟨cb,okB⟩:=okb.drop j1;have segA:∀x,at'≤x→x<jF (A.drop i1) at'→inS A x=pJ (A.drop i1) at':=fun x h1 h2=>by
   rw[jg hb1 h1,seg okA h1 (fun s D' e=>hs1 s (by rw[←List.head?_drop,e];rfl)) h2]
  have segB:∀x,at'≤x→x<jF (B.drop j1) at'→inS B x=pJ (B.drop j1) at':=fun x h1 h2=>by
   rw[jg hb2 h1,seg okB h1 (fun s D' e=>hs2 s (by rw[←List.head?_drop,e];rfl)) h2]
  by_cases cA:(i1:Int)<A.length
  ·obtain⟨bA,oA,s,eA1,eA2,eA3,eA4,eA5⟩:=Sp.ix (a.fr F) i1 cA;have eD:=aK eA5;rw[eD]at segA okA;simp only[jF,pJ]at segA;have sm:=hma s (List.mem_of_getElem? eA5);have s2:=hs1 s eA5;obtain⟨q1,q2,q3,q4,_⟩:=okA;simp only[evs,↓reduceIte,Nat.reduceEqDiff,Int.reduceNeg,n0,n10,n11,(a.fr F).len,cA,eA1,eA2,eA4];refine aa (sy F.wf) ?_;rintro _ h3 ⟨rfl,F3⟩;have FH:=F.then F3;obtain⟨eA,heA⟩:∃eA,eA=if at'<s.1 then s.1 else s.2:=⟨_,rfl⟩;rw[←heA]at segA⊢;have leA:at'<eA∧eA≤m∧eA≤1073741824∧(s.1=eA∨s.2=eA):=by rw[heA];split<;>omega
   by_cases cB:(j1:Int)<B.length
   ·obtain⟨bB,oB,t,eB1,eB2,eB3,eB4,eB5⟩:=Sp.ix (b.fr FH) j1 cB;have eE:=aK eB5;rw[eE]at segB okB;simp only[jF,pJ]at segB;have tm:=hmb t (List.mem_of_getElem? eB5);have t2:=hs2 t eB5;obtain⟨r1,r2,r3,r4,_⟩:=okB;simp only[evs,↓reduceIte,Nat.reduceEqDiff,Int.reduceNeg,n1,n10,g12'',(b.fr FH).len,cB,eB1,eB2,eB4];refine aa (sy F3.wf) ?_;rintro _ h4 ⟨rfl,F4⟩;have FH:=FH.then F4;have gO':=gO.fr (F3.then F4);obtain⟨eB,heB⟩:∃eB,eB=if at'<t.1 then t.1 else t.2:=⟨_,rfl⟩;rw[←heB]at segB⊢;have leB:at'<eB∧eB≤m∧eB≤1073741824∧(t.1=eB∨t.2=eB):=by rw[heB];split<;>omega
    simp only[evs,↓reduceIte,Nat.reduceEqDiff,Int.reduceNeg,n0,n2,n11,(a.fr FH).len,show¬(i1:Int)=A.length by omega];obtain⟨e,he⟩:∃e,e=min (min 1073741824 eA) eB:=⟨_,rfl⟩;rw[←he];have hA:∀x,at'≤x→x<e→inS A x=decide (s.1≤at'):=fun x h1 h2=>segA x h1 (by omega);have hB:∀x,at'≤x→x<e→inS B x=decide (t.1≤at'):=fun x h1 h2=>segB x h1 (by omega);have heM:e≤max m 0:=by omega
    have hcnt:cnt A e+cnt B e<cnt A at'+cnt B at':=by
     by_cases c:eA≤eB
     ·have:=oV A (a:=at') (e:=e) (by omega) (List.mem_of_getElem? eA5) (by omega);have:=jZ B (a:=at') (e:=e) (by omega);omega
     ·have:=oV B (a:=at') (e:=e) (by omega) (List.mem_of_getElem? eB5) (by omega);have:=jZ A (a:=at') (e:=e) (by omega);omega
    have cO:=okO.count at' mO (by omega);refine⟨hgy,aa (hkf _ _ _) ?_⟩;rintro _ _ ⟨rfl,hhh⟩;subst hhh;cases hkeep:keep (decide (s.1≤at')) (decide (t.1≤at'))
    ·simp only[evs,↓reduceIte,Nat.reduceEqDiff,Int.reduceNeg];refine(aj _ _ _).2 ⟨cnt A e+cnt B e,hcnt,i1,j1,e,vo,O,FH,(by simp[T.get_set,n0]),(by simp[T.get_set,n1]),(by simp[T.get_set,n2]),(by simp[T.get_set,n9]),(by simp[T.get_set]),(by simp[T.get_set,n11]),(by simp[T.get_set,g12'']),hi1,hj1,by omega,heM,fun s hs=>by have:=hb1 s hs;omega,fun s hs=>by have:=hb2 s hs;omega,gO',okO,fun s hs=>by have:=mO s hs;omega,?_,rfl⟩;intro x hx;by_cases hxa:x<at'
     ·exact sO x hxa
     ·rw[hA x (by omega) hx,hB x (by omega) hx,hkeep,below O mO x (by omega)]
    ·simp only[evs,↓reduceIte,Nat.reduceEqDiff,Int.reduceNeg,n9,n10];refine aa (pz FH.wf gO' FH.next (by omega)) ?_;rintro vo' h9 ⟨g9,U9⟩;replace U9:=Gs.up gO' U9;simp only[evs,↓reduceIte,Nat.reduceEqDiff,Int.reduceNeg];obtain⟨s1,s2,s3⟩:=gy (a:=at') (b:=e) okO (fun _=>mO) at0 (by omega);refine(aj _ _ _).2 ⟨cnt A e+cnt B e,hcnt,i1,j1,e,vo',kU O at' e,FH.ups w U9,(by simp[T.get_set,n0]),(by simp[T.get_set,n1]),(by simp[T.get_set,n2]),(by simp[T.get_set]),(by simp[T.get_set]),(by simp[T.get_set,n11]),(by simp[T.get_set,g12'']),hi1,hj1,by omega,heM,fun s hs=>by have:=hb1 s hs;omega,fun s hs=>by have:=hb2 s hs;omega,g9,s1,s3 e (fun s hs=>by have:=mO s hs;omega) (fun _=>Int.le_refl _),?_,rfl⟩;intro x hx;rw[s2 x];by_cases hxa:x<at'
     ·rw[sO x hxa,show decide (at'≤x)=false by simp;omega];simp
     ·rw[hA x (by omega) hx,hB x (by omega) hx,hkeep,below O mO x (by omega)];simp;omega
   ·have gO':=gO.fr F3;rw[List.drop_of_length_le (by omega)]at segB;simp only[jF,pJ]at segB;simp only[evs,↓reduceIte,Nat.reduceEqDiff,Int.reduceNeg,n0,n1,n2,n11,g12'',(a.fr FH).len,(b.fr FH).len,cB,show¬(i1:Int)=A.length by omega];obtain⟨e,he⟩:∃e,e=min 1073741824 eA:=⟨_,rfl⟩;rw[←he];have hA:∀x,at'≤x→x<e→inS A x=decide (s.1≤at'):=fun x h1 h2=>segA x h1 (by omega);have hB:∀x,at'≤x→x<e→inS B x=false:=fun x h1 h2=>segB x h1 (by omega);have heM:e≤max m 0:=by omega
    have hcnt:cnt A e+cnt B e<cnt A at'+cnt B at':=by
     have:=oV A (a:=at') (e:=e) (by omega) (List.mem_of_getElem? eA5) (by omega);have:=jZ B (a:=at') (e:=e) (by omega);omega
    have cO:=okO.count at' mO (by omega);refine⟨hgy,aa (hkf _ _ _) ?_⟩;rintro _ _ ⟨rfl,hhh⟩;subst hhh;cases hkeep:keep (decide (s.1≤at')) (false)
    ·simp only[evs,↓reduceIte,Nat.reduceEqDiff,Int.reduceNeg];refine(aj _ _ _).2 ⟨cnt A e+cnt B e,hcnt,i1,j1,e,vo,O,FH,(by simp[T.get_set,n0]),(by simp[T.get_set,n1]),(by simp[T.get_set,n2]),(by simp[T.get_set,n9]),(by simp[T.get_set]),(by simp[T.get_set,n11]),(by simp[T.get_set,g12'']),hi1,hj1,by omega,heM,fun s hs=>by have:=hb1 s hs;omega,fun s hs=>by have:=hb2 s hs;omega,gO',okO,fun s hs=>by have:=mO s hs;omega,?_,rfl⟩;intro x hx;by_cases hxa:x<at'
     ·exact sO x hxa
     ·rw[hA x (by omega) hx,hB x (by omega) hx,hkeep,below O mO x (by omega)]
    ·simp only[evs,↓reduceIte,Nat.reduceEqDiff,Int.reduceNeg,n9,n10];refine aa (pz FH.wf gO' FH.next (by omega)) ?_;rintro vo' h9 ⟨g9,U9⟩;replace U9:=Gs.up gO' U9;simp only[evs,↓reduceIte,Nat.reduceEqDiff,Int.reduceNeg];obtain⟨s1,s2,s3⟩:=gy (a:=at') (b:=e) okO (fun _=>mO) at0 (by omega);refine(aj _ _ _).2 ⟨cnt A e+cnt B e,hcnt,i1,j1,e,vo',kU O at' e,FH.ups w U9,(by simp[T.get_set,n0]),(by simp[T.get_set,n1]),(by simp[T.get_set,n2]),(by simp[T.get_set]),(by simp[T.get_set]),(by simp[T.get_set,n11]),(by simp[T.get_set,g12'']),hi1,hj1,by omega,heM,fun s hs=>by have:=hb1 s hs;omega,fun s hs=>by have:=hb2 s hs;omega,g9,s1,s3 e (fun s hs=>by have:=mO s hs;omega) (fun _=>Int.le_refl _),?_,rfl⟩;intro x hx;rw[s2 x];by_cases hxa:x<at'
     ·rw[sO x hxa,show decide (at'≤x)=false by simp;omega];simp
     ·rw[hA x (by omega) hx,hB x (by omega) hx,hkeep,below O mO x (by omega)];simp;omega
  ·rw[List.drop_of_length_le (by omega)]at segA;simp only[jF,pJ]at segA;have FH:=F;by_cases cB:(j1:Int)<B.length
   ·obtain⟨bB,oB,t,eB1,eB2,eB3,eB4,eB5⟩:=Sp.ix (b.fr FH) j1 cB;have eE:=aK eB5;rw[eE]at segB okB;simp only[jF,pJ]at segB;have tm:=hmb t (List.mem_of_getElem? eB5);have t2:=hs2 t eB5;obtain⟨r1,r2,r3,r4,_⟩:=okB;simp only[evs,↓reduceIte,Nat.reduceEqDiff,Int.reduceNeg,n0,n1,n10,n11,g12'',(a.fr FH).len,(b.fr FH).len,cA,cB,eB1,eB2,eB4];refine aa (sy FH.wf) ?_;rintro _ h4 ⟨rfl,F4⟩;have FH:=FH.then F4;have gO':=gO.fr F4;obtain⟨eB,heB⟩:∃eB,eB=if at'<t.1 then t.1 else t.2:=⟨_,rfl⟩;rw[←heB]at segB⊢;have leB:at'<eB∧eB≤m∧eB≤1073741824∧(t.1=eB∨t.2=eB):=by rw[heB];split<;>omega
    simp only[evs,↓reduceIte,Nat.reduceEqDiff,Int.reduceNeg,n0,n1,n2,n11,g12'',(a.fr FH).len,(b.fr FH).len,eq_true (show(i1:Int)=A.length by omega),show¬(j1:Int)=B.length by omega];obtain⟨e,he⟩:∃e,e=min 1073741824 eB:=⟨_,rfl⟩;rw[←he];have hA:∀x,at'≤x→x<e→inS A x=false:=fun x h1 h2=>segA x h1 (by omega);have hB:∀x,at'≤x→x<e→inS B x=decide (t.1≤at'):=fun x h1 h2=>segB x h1 (by omega);have heM:e≤max m 0:=by omega
    have hcnt:cnt A e+cnt B e<cnt A at'+cnt B at':=by
     have:=oV B (a:=at') (e:=e) (by omega) (List.mem_of_getElem? eB5) (by omega);have:=jZ A (a:=at') (e:=e) (by omega);omega
    have cO:=okO.count at' mO (by omega);refine⟨hgy,aa (hkf _ _ _) ?_⟩;rintro _ _ ⟨rfl,hhh⟩;subst hhh;cases hkeep:keep (false) (decide (t.1≤at'))
    ·simp only[evs,↓reduceIte,Nat.reduceEqDiff,Int.reduceNeg];refine(aj _ _ _).2 ⟨cnt A e+cnt B e,hcnt,i1,j1,e,vo,O,FH,(by simp[T.get_set,n0]),(by simp[T.get_set,n1]),(by simp[T.get_set,n2]),(by simp[T.get_set,n9]),(by simp[T.get_set]),(by simp[T.get_set,n11]),(by simp[T.get_set,g12'']),hi1,hj1,by omega,heM,fun s hs=>by have:=hb1 s hs;omega,fun s hs=>by have:=hb2 s hs;omega,gO',okO,fun s hs=>by have:=mO s hs;omega,?_,rfl⟩;intro x hx;by_cases hxa:x<at'
     ·exact sO x hxa
     ·rw[hA x (by omega) hx,hB x (by omega) hx,hkeep,below O mO x (by omega)]
    ·simp only[evs,↓reduceIte,Nat.reduceEqDiff,Int.reduceNeg,n9,n10];refine aa (pz FH.wf gO' FH.next (by omega)) ?_;rintro vo' h9 ⟨g9,U9⟩;replace U9:=Gs.up gO' U9;simp only[evs,↓reduceIte,Nat.reduceEqDiff,Int.reduceNeg];obtain⟨s1,s2,s3⟩:=gy (a:=at') (b:=e) okO (fun _=>mO) at0 (by omega);refine(aj _ _ _).2 ⟨cnt A e+cnt B e,hcnt,i1,j1,e,vo',kU O at' e,FH.ups w U9,(by simp[T.get_set,n0]),(by simp[T.get_set,n1]),(by simp[T.get_set,n2]),(by simp[T.get_set]),(by simp[T.get_set]),(by simp[T.get_set,n11]),(by simp[T.get_set,g12'']),hi1,hj1,by omega,heM,fun s hs=>by have:=hb1 s hs;omega,fun s hs=>by have:=hb2 s hs;omega,g9,s1,s3 e (fun s hs=>by have:=mO s hs;omega) (fun _=>Int.le_refl _),?_,rfl⟩;intro x hx;rw[s2 x];by_cases hxa:x<at'
     ·rw[sO x hxa,show decide (at'≤x)=false by simp;omega];simp
     ·rw[hA x (by omega) hx,hB x (by omega) hx,hkeep,below O mO x (by omega)];simp;omega
   ·rw[List.drop_of_length_le (by omega)]at segB;simp only[jF,pJ]at segB;simp only[evs,↓reduceIte,Nat.reduceEqDiff,Int.reduceNeg,n0,n1,n9,n11,g12'',(a.fr FH).len,(b.fr FH).len,cA,cB,eq_true (show(i1:Int)=A.length by omega),eq_true (show(j1:Int)=B.length by omega)];have cO:=okO.count at' mO (by omega);refine aa (sA gO (by omega)) ?_;rintro _ _ ⟨z,rfl,sz,oz,hhh⟩;subst hhh;simp only[evs,↓reduceIte,Nat.reduceEqDiff,Int.reduceNeg];refine⟨FH,z,O,rfl,oz,sz,okO,fun x=>?_,fun s hs=>by have:=mO s hs;omega⟩;by_cases hxa:x<at'
    ·exact sO x hxa
    ·rw[below O mO x (by omega),jg hb1 (show at'≤x by omega),jg hb2 (show at'≤x by omega),List.drop_of_length_le (by omega),List.drop_of_length_le (by omega)];simp[inS,hk.ff]
theorem Dd:Keep (.func (.func 271) [] []) (fun a b=>a||b):=by
 refine⟨⟨271,rfl,by decide,fun h a b=>?_⟩,rfl⟩;cases a
 ·refine ag g271 rfl ?_;simp only[fn271,evs,↓reduceIte,Nat.reduceEqDiff,Nat.reduceAdd];cases b<;>rfl
 ·refine ag g271 rfl ?_;simp only[fn271,evs,↓reduceIte,Nat.reduceEqDiff,Nat.reduceAdd];rfl
theorem AS:Keep (.func (.func 270) [] []) (fun a b=>a&& !b):=by
 refine⟨⟨270,rfl,by decide,fun h a b=>?_⟩,rfl⟩;cases a
 ·refine ag g270 rfl ?_;simp only[fn270,evs,↓reduceIte,Nat.reduceEqDiff,Nat.reduceAdd];rfl
 ·refine ag g270 rfl ?_;simp only[fn270,evs,↓reduceIte,Nat.reduceEqDiff,Nat.reduceAdd];cases b<;>rfl
theorem Ci{h:Heap}{u v:V}{A B:List (Int×Int)}(w:WF h)(a:Sp h u A)(b:Sp h v B)(oka:SOK A (-1))(okb:SOK B (-1))(ha:A.length≤4096)(hb:B.length≤4096)
 (m:Int) (hm:m≤8000) (hma:∀s∈A,s.2≤m) (hmb:∀s∈B,s.2≤m):
 ao go 236 [u,v] h fun z h'=>Fr [] h h'∧∃y L,z=.tup [y,.int .i64 0]∧y.one=true∧SpF h' y L∧SOK L (-1)∧(∀x,inS L x=(inS A x||inS B x))∧∀s∈L,s.2≤max m 0:=by
 refine ag g236 rfl ?_;simp only[fn236,evs,↓reduceIte,Nat.reduceEqDiff,Nat.reduceAdd,Int.reduceNeg];refine aa (qo w a b oka okb ha hb Dd m hm hma hmb) ?_;rintro _ h1 ⟨F,y,L,rfl,r⟩;simp only[evs,↓reduceIte,Nat.reduceEqDiff,Int.reduceNeg];exact⟨F,y,L,rfl,r⟩
theorem wz{h:Heap}{u v:V}{A B:List (Int×Int)}(w:WF h)(a:Sp h u A)(b:Sp h v B)(oka:SOK A (-1))(okb:SOK B (-1))(ha:A.length≤4096)(hb:B.length≤4096)
 (m:Int) (hm:m≤8000) (hma:∀s∈A,s.2≤m) (hmb:∀s∈B,s.2≤m):
 ao go 235 [u,v] h fun z h'=>Fr [] h h'∧∃y L,z=.tup [y,.int .i64 0]∧y.one=true∧SpF h' y L∧SOK L (-1)∧(∀x,inS L x=(inS A x&& !inS B x))∧∀s∈L,s.2≤max m 0:=by
 refine ag g235 rfl ?_;simp only[fn235,evs,↓reduceIte,Nat.reduceEqDiff,Nat.reduceAdd,Int.reduceNeg];refine aa (qo w a b oka okb ha hb AS m hm hma hmb) ?_;rintro _ h1 ⟨F,y,L,rfl,r⟩;simp only[evs,↓reduceIte,Nat.reduceEqDiff,Int.reduceNeg];exact⟨F,y,L,rfl,r⟩
theorem SOK.len{L:List (Int×Int)}(ok:SOK L (-1)){m:Int}(hm:m≤8000)(h:∀s∈L,s.2≤m):L.length≤4096:=by
 have:=ok.count (max m 0) (fun s hs=>by have:=h s hs;omega) (by omega);omega
theorem qr{h:Heap}{v:V}{L:List (Int×Int)}{f t m:Int}{kn:Bool}(w:WF h)(af:SpF h v L)(ok:SOK L (-1))(hm:m≤8000)(hL:∀s∈L,s.2≤m)(hf:0≤f)(hft:f≤t)(ht:t≤m):
 ao go 182 [v,.int .i64 f,.int .i64 t,.bool kn] h fun y h'=>Fr [] h h'∧∃L',y.one=true∧SpF h' y L'∧SOK L' (-1)∧(∀x,inS L' x=if f≤x∧x<t then kn else inS L x)∧∀s∈L',s.2≤m:=by
 have a:=af.slc;by_cases e:f=t
 ·refine ag g182 rfl ?_;simp only[fn182,evs,↓reduceIte,Nat.reduceEqDiff,Nat.reduceAdd,Int.reduceNeg,eq_true e];exact⟨Fr.refl w,L,Sl.one a,af,ok,fun x=>by rw[if_neg (by omega)],hL⟩
 ·have hlen:=ok.len hm hL;obtain⟨h1,e_h1⟩:∃h1,h1=halloc h (sp (f,t)):=⟨_,rfl⟩;have F_h1:Fr [] h h1:=e_h1▸Fr.halloc w _;have o_h1:Own h1 h.next (sp (f,t)):=e_h1▸Own.new w _;have e_h2:halloc h [.int .i64 f,.int .i64 t]=h1:=e_h1.symm;have ok1:SOK [(f,t)] (-1):=⟨by simp;omega,hf,by simp;omega,by simp;omega,trivial⟩;have s1:Sp h1 (.slice h.next 0 1 1) [(f,t)]:=Sl.lit (n:=1) o_h1 rfl;have mx:max m 0=m:=by omega
  cases kn
  ·refine ag g182 rfl ?_;simp only[fn182,evs,↓reduceIte,Nat.reduceEqDiff,Nat.reduceAdd,Nat.reduceLT,Int.reduceNeg,eq_false e,e_h2];refine aa (wz F_h1.wf (a.fr F_h1) s1 ok ok1 hlen (by simp) m hm hL (by simp;exact ht)) ?_;rintro _ h2 ⟨F2,y,L',rfl,o1,sL,okL,iL,mL⟩;simp only[evs,↓reduceIte,Int.reduceNeg];rw[mx]at mL;refine⟨F_h1.then F2,L',o1,sL,okL,fun x=>?_,mL⟩;rw[iL,ga,kD];by_cases c:f≤x∧x<t
   ·rw[if_pos c];simp[c]
   ·rw[if_neg c];have:(decide (f≤x)&&decide (x<t))=false:=by simp;omega
    simp[this]
  ·refine ag g182 rfl ?_;simp only[fn182,evs,↓reduceIte,Nat.reduceEqDiff,Nat.reduceAdd,Nat.reduceLT,Int.reduceNeg,eq_false e,e_h2];refine aa (Ci F_h1.wf (a.fr F_h1) s1 ok ok1 hlen (by simp) m hm hL (by simp;exact ht)) ?_;rintro _ h2 ⟨F2,y,L',rfl,o1,sL,okL,iL,mL⟩;simp only[evs,↓reduceIte,Int.reduceNeg];rw[mx]at mL;refine⟨F_h1.then F2,L',o1,sL,okL,fun x=>?_,mL⟩;rw[iL,ga,kD];by_cases c:f≤x∧x<t
   ·rw[if_pos c];simp[c]
   ·rw[if_neg c];have:(decide (f≤x)&&decide (x<t))=false:=by simp;omega
    simp[this]
theorem wD{h:Heap}{c vk:V}{e:Int}(w:WF h)(hc:c.one=true)(hk:vk.one=true):
 ao go 149 [.agg [c],vk,.int .i64 e] h fun z h'=>Fr [] h h'∧z=if e=0 then .tup [.agg [c,vk],.int .i64 0]else .tup [.agg [.nilp,.nils],.int .i64 e]:=by
 obtain⟨h1,e_h1⟩:∃h1,h1=halloc h [c]:=⟨_,rfl⟩;have F_h1:Fr [] h h1:=e_h1▸Fr.halloc w _;have o_h1:Own h1 h.next [c]:=e_h1▸Own.new w _;obtain⟨h2,e_h2⟩:∃h2,h2=halloc h1 [.nilp,.nils]:=⟨_,rfl⟩;have F_h2:Fr [] h1 h2:=e_h2▸Fr.halloc F_h1.wf _;have o_h2:Own h2 h1.next [.nilp,.nils]:=e_h2▸Own.new F_h1.wf _;have F12:=F_h1.then F_h2;by_cases e0:e=0
 ·subst e0;refine ag g149 rfl ?_;simp only[fn149,evs,↓reduceIte,Nat.reduceEqDiff,Nat.reduceAdd,←e_h1,←e_h2,(F_h2.get o_h1).ld,aB hk];refine ah (c':=[c,vk]) F_h2.wf o_h2 rfl (by first|rfl|simp[aq,V.cells, *]) rfl ?_
  rintro h3 o_h3 F_h3 n_h3;simp only[evs,↓reduceIte,Nat.reduceEqDiff,o_h3.ld];exact F12.fresh F_h3 w F_h1.next
 ·refine ag g149 rfl ?_;simp only[fn149,evs,↓reduceIte,Nat.reduceEqDiff,Nat.reduceAdd,←e_h1,←e_h2,eq_false e0];refine ah (c':=[.nilp,.nils]) F_h2.wf o_h2 rfl (by first|rfl|simp[aq,V.cells,aN, *]) rfl ?_
  rintro h3 o_h3 F_h3 n_h3;simp only[evs,↓reduceIte,Nat.reduceEqDiff,o_h3.ld];exact F12.fresh F_h3 w F_h1.next
theorem yz{h:Heap}{v:V}{L:List (Int×Int)}{a n:Int}(w:WF h)(s:Sp h v L)(ok:SOK L (-1))(hl:L.length≤4096)(ha:0≤a)(ha1:a≤1073741824)(hn:0≤n)(hn1:n≤1073741824):
 ao go 208 [v,.int .i64 a,.int .i64 n] h fun u h'=>u=.int .i64 0∧Fr [] h h':=by
 refine ag g208 rfl ?_;simp only[fn208,evs,↓reduceIte,Nat.reduceEqDiff,Nat.reduceAdd];refine aa (jo w s ok hl) ?_;rintro _ h1 ⟨rfl,F⟩;simp only[evs,↓reduceIte,Nat.reduceEqDiff,show¬a<0 by omega,show¬1073741824<a by omega,show¬n<0 by omega,show¬1073741824<n by omega];exact F
def shf(a n:Int)(f:Int→Bool)(x:Int):Bool:=if x<a then f x else if x<a+n then false else f (x-n)
theorem DW{h:Heap}{v:V}{L:List (Int×Int)}{a n m:Int}(w:WF h)(s:Sp h v L)(ok:SOK L (-1))(hm:m+n≤8000)(hL:∀s∈L,s.2≤m)(hm0:0≤m)(ha:0≤a)(ha1:a≤m)(hn:0≤n):
 ao go 228 [v,.int .i64 a,.int .i64 n] h fun z h'=>Fr [] h h'∧∃y L',z=.tup [y,.int .i64 0]∧y.one=true∧SpF h' y L'∧SOK L' (-1)∧(∀x,inS L' x=shf a n (inS L) x)∧∀s∈L',s.2≤m+n:=by
 have hlen:=ok.len (by omega) hL;refine ag g228 rfl ?_;simp only[fn228,evs,↓reduceIte,Nat.reduceEqDiff,Nat.reduceAdd,Int.reduceNeg];refine aa (yz w s ok hlen ha (by omega) hn (by omega)) ?_;rintro _ h1 ⟨rfl,F1⟩;have s1:=s.fr F1;by_cases e:L=[]
 ·subst e;have hz:aP .lenS [v]=some (.int .i64 0):=s.len;simp(disch:=omega) only[evs,↓reduceIte,Nat.reduceEqDiff,Int.reduceNeg,ai,hz,show¬(0:Int)≤0-1 by omega];refine aE (fun _ env hh=>hh=h1∧env.get 10=some .nils∧env.get 46=some (.int .i64 0)∧env.get 45=some (.int .i64 0)) 0 (by omega) ⟨rfl,(by simp[T.get_set]),(by simp[T.get_set]),(by simp[T.get_set])⟩ ?_;rintro k env hh ⟨rfl,g10,g46,g45⟩;simp only[evs,↓reduceIte,Nat.reduceEqDiff,Int.reduceNeg,g10,g46,g45,show¬(0:Int)<0 by omega];refine aa (sA (B:=0) GRecs.nil (by simp)) ?_;rintro _ _ ⟨z,rfl,sz,oz,hh⟩;subst hh;simp only[evs,↓reduceIte,Nat.reduceEqDiff,Int.reduceNeg];exact⟨F1,z,[],rfl,oz,sz,trivial,fun x=>by simp[shf,inS],by simp⟩
 ·have pos:0<L.length:=List.length_pos_iff.2 e;obtain⟨bb,oo,t,e1,e2,e3,e4,e5⟩:=Sp.ix s1 (L.length-1) (by omega);have el:((L.length-1:Nat):Int)=(L.length:Int)-1:=by omega
  rw[el]at e1;have tm:=hL t (List.mem_of_getElem? e5);have c:a<t.2∨¬a<t.2:=by omega
  rcases c with c|c;all_goals
   simp(disch:=omega) only[evs,↓reduceIte,Nat.reduceEqDiff,Int.reduceNeg,ai,s1.len,show(0:Int)≤(L.length:Int)-1 by omega,e1,e3,c,show¬1073741824<t.2+n by omega];refine aE (fun k env hh=>∃(i:Nat)(vo:V)(O:List (Int×Int))(last:Int),Fr [] h hh∧env.get 44=some v∧env.get 45=some (.int .i64 L.length)∧env.get 46=some (.int .i64 i)∧env.get 10=some vo∧
    env.get 1=some (.int .i64 a)∧env.get 2=some (.int .i64 n)∧i≤L.length∧GRecs sp 2 hh h.next vo O∧SOK O (-1)∧SOK (L.drop i) last∧(∀s∈O,s.2≤if last≤a then last else last+n)∧last≤m∧
    (∀x,inS O x=shf a n (inS (L.take i)) x)∧k=L.length-i) L.length (by omega) ?_ ?_
   ·exact⟨0,.nils,[],-1,F1,(by simp[T.get_set]),(by simp[T.get_set]),(by simp[T.get_set]),(by simp[T.get_set]),(by simp[T.get_set]),(by simp[T.get_set]),by omega,GRecs.nil,trivial,ok,by simp,by omega,fun x=>by simp[shf,inS],rfl⟩
   ·rintro k env hh ⟨i,vo,O,last,F,g44,g45,g46,g10,g1,g2,hi,gO,okO,okL,mO,lm,sO,rfl⟩;have cO:=okO.count (m+n) (fun s hs=>by have:=mO s hs;split at this<;>omega) (by omega);by_cases hlt:(i:Int)<L.length
    ·obtain⟨bb,oo,s,e1,e2,e3,e4,e5⟩:=Sp.ix (Recs.fr (L:=L) ‹Sp h v L› F) i hlt
     have sm:=hL s (List.mem_of_getElem? e5);rw[aK e5]at okL;obtain⟨k1,k2,k3,k4,k5⟩:=okL;obtain⟨h2,e_h2⟩:∃h2,h2=halloc hh [.int .i64 0,.int .i64 0]:=⟨_,rfl⟩;have F_h2:Fr [] hh h2:=e_h2▸Fr.halloc F.wf _;have o_h2:Own h2 hh.next [.int .i64 0,.int .i64 0]:=e_h2▸Own.new F.wf _;simp only[evs,↓reduceIte,Nat.reduceEqDiff,Int.reduceNeg,g44,g45,g46,hlt,e1,e4,←e_h2];refine ah (c':=[.int .i64 s.1,.int .i64 s.2]) F_h2.wf o_h2 rfl (by first|rfl|simp[aq,V.cells,aN, *]) rfl ?_
     rintro h3 o_h3 F_h3 n_h3;have F23:Fr [] hh h3:=F_h2.fresh F_h3 F.wf (Nat.le_refl _);have F3:=F.then F23;have b3:h.next≤h3.next:=F3.next;have bk:h.next≤hh.next:=F.next;simp only[evs,↓reduceIte,Nat.reduceEqDiff,Int.reduceNeg,g10,g1,o_h3.ld1];refine aa (pz F3.wf (gO.fr F23) b3 (by omega)) ?_;rintro v1 h4 ⟨gO1,U4⟩;obtain⟨p1,p2,p3⟩:=gy (a:=s.1) (b:=min s.2 a) okO (fun hh s' hs'=>by have:=mO s' hs';split at this<;>omega) k2 (by omega);have mO1:∀s'∈kU O s.1 (min s.2 a),s'.2≤if s.2≤a then s.2 else s.2+n:=p3 _ (fun s' hs'=>by have:=mO s' hs';split at this<;>split<;>omega) (fun _=>by split<;>omega);have mO1':∀s'∈kU O s.1 (min s.2 a),s'.2≤max s.1 a+n:=p3 _ (fun s' hs'=>by have:=mO s' hs';split at this<;>omega) (fun _=>by omega);have cO1:=p1.count (m+n) (fun s hs=>by have:=mO1 s hs;split at this<;>omega) (by omega);have oo3:Own h4 hh.next [.int .i64 s.1,.int .i64 s.2]:=by
      refine U4.own _ _ ?_ o_h3;rcases gO with⟨rfl,_⟩|⟨b,n',rfl,_,_,_,og⟩
      ·simp[vb]
      ·have:=og.lt F.wf;simp[vb];omega
     have U4':=Gs.up (gO.fr F23) U4;simp(disch:=omega) only[evs,↓reduceIte,Nat.reduceEqDiff,Int.reduceNeg,ai,g1,g2,oo3.ld1];refine aa (pz U4.wf gO1 (Nat.le_trans b3 U4.next) (by omega)) ?_;rintro v2 h5 ⟨gO2,U5⟩;have U5':=Gs.up gO1 U5;obtain⟨q1,q2,q3⟩:=gy (a:=max s.1 a+n) (b:=s.2+n) p1 (fun _=>mO1') (by omega) (by omega);simp(disch:=omega) only[evs,↓reduceIte,Nat.reduceEqDiff,Int.reduceNeg,ai,g46];refine(aj _ _ _).2 ⟨L.length-(i+1),by omega,i+1,v2,_,s.2,F3.ups w (U4'.trans U5'),(by simp[T.get_set,g44]),(by simp[T.get_set,g45]),(by simp[T.get_set]),(by simp[T.get_set]),(by simp[T.get_set,g1]),(by simp[T.get_set,g2]),by omega,gO2,q1,k5,q3 _ mO1 (fun _=>by split<;>omega),sm,?_,rfl⟩;intro x;rw[q2,p2,sO,List.take_add_one,e5];simp only[Option.toList_some,shf,mR,ga,kD,Bool.or_false];by_cases c1:x<a
     ·simp only[if_pos c1,Bool.or_assoc];congr 1;rw[Bool.eq_iff_iff];simp;omega
     ·by_cases c2:x<a+n
      ·simp only[if_neg c1,if_pos c2,Bool.false_or];rw[Bool.eq_iff_iff];simp;omega
      ·simp only[if_neg c1,if_neg c2,Bool.or_assoc];congr 1;rw[Bool.eq_iff_iff];simp;omega
    ·simp only[evs,↓reduceIte,Nat.reduceEqDiff,Int.reduceNeg,g45,g46,g10,hlt];refine aa (sA gO (by omega)) ?_;rintro _ _ ⟨z,rfl,sz,oz,hh⟩;subst hh;simp only[evs,↓reduceIte,Nat.reduceEqDiff,Int.reduceNeg];refine⟨F,z,O,rfl,oz,sz,okO,fun x=>by rw[sO,List.take_of_length_le (by omega)],fun s hs=>by have:=mO s hs;split at this<;>omega⟩
structure Kn(L:List (Int×Int))(ks:List Bool):Prop where
 ok:SOK L (-1)
 le:∀s∈L,s.2≤ks.length
 eq:∀i:Nat,inS L i=ks.getD i false
def Ix(h:Heap)(v:V)(l:List Int)(ks:List Bool):Prop:=∃p vk L,v=.agg [pv p,vk]∧Rp h (.agg [pv p]) l∧SpF h vk L∧Kn L ks∧ks.length=l.length∧l.length≤1024
theorem Ix.fr{h h':Heap}{v:V}{l:List Int}{ks:List Bool}(a:Ix h v l ks)(f:Fr [] h h'):Ix h' v l ks:=by
 obtain⟨p,vk,L,e,r,s,x⟩:=a;exact⟨p,vk,L,e,r.fr f,s.fr f,x⟩
theorem Ix.len{h:Heap}{v:V}{l:List Int}{ks:List Bool}(a:Ix h v l ks):ks.length=l.length∧l.length≤1024:=by
 obtain⟨p,vk,L,e,r,s,_,x⟩:=a;exact x
theorem Ix.fit{h:Heap}{v:V}{l:List Int}{ks:List Bool}(a:Ix h v l ks):Fit l:=by
 obtain⟨p,vk,L,e,r,s,_,x⟩:=a;obtain⟨_,_,_,_,_,f⟩:=r;exact f
theorem gZ{h:Heap}{v:V}{l:List Int}{ks:List Bool}(w:WF h)(a:Ix h v l ks):ao go 121 [v] h fun u h'=>u=.int .i64 l.length∧Fr [] h h':=by
 obtain⟨p,vk,L,rfl,r,s,_⟩:=a;obtain⟨h1,e_h1⟩:∃h1,h1=halloc h [pv p,vk]:=⟨_,rfl⟩;have F_h1:Fr [] h h1:=e_h1▸Fr.halloc w _;have o_h1:Own h1 h.next [pv p,vk]:=e_h1▸Own.new w _;refine ag g121 rfl ?_;simp only[fn121,evs,↓reduceIte,Nat.reduceEqDiff,←e_h1,o_h1.ld];refine aa (pC F_h1.wf (r.fr F_h1)) ?_;rintro _ h2 ⟨rfl,F2⟩;simp only[evs,↓reduceIte];exact F_h1.then F2
theorem Ca{h:Heap}{v:V}{l:List Int}{ks:List Bool}{i:Int}(w:WF h)(a:Ix h v l ks):
 ao go 145 [v,.int .i64 i] h fun u h'=>(u=if 0≤i∧i<l.length then .tup [.int .i64 (l.getD i.toNat 0),.int .i64 0]else .tup [.int .i64 0,.int .i64 4])∧Fr [] h h':=by
 obtain⟨p,vk,L,rfl,r,s,_⟩:=a;obtain⟨h1,e_h1⟩:∃h1,h1=halloc h [pv p,vk]:=⟨_,rfl⟩;have F_h1:Fr [] h h1:=e_h1▸Fr.halloc w _;have o_h1:Own h1 h.next [pv p,vk]:=e_h1▸Own.new w _;refine ag g145 rfl ?_;simp only[fn145,evs,↓reduceIte,Nat.reduceEqDiff,Nat.reduceAdd,←e_h1,o_h1.ld];refine aa (Ck F_h1.wf (r.fr F_h1)) ?_;rintro _ h2 ⟨rfl,F2⟩;by_cases c:0≤i∧i<l.length
 ·simp only[if_pos c];simp only[evs,↓reduceIte,Nat.reduceEqDiff];exact F_h1.then F2
 ·simp only[if_neg c];simp only[evs,↓reduceIte,Nat.reduceEqDiff];exact F_h1.then F2
theorem Kn.len{L:List (Int×Int)}{ks:List Bool}(k:Kn L ks)(h:ks.length≤1024):L.length≤4096:=k.ok.len (m:=ks.length) (by omega) k.le
theorem zA{h:Heap}{v:V}{l:List Int}{ks:List Bool}{i:Int}(w:WF h)(a:Ix h v l ks):
 ao go 146 [v,.int .i64 i] h fun u h'=>(u=if 0≤i∧i<l.length then .tup [.bool (ks.getD i.toNat false),.int .i64 0]else .tup [.bool false,.int .i64 4])∧Fr [] h h':=by
 have a0:=a;obtain⟨p,vk,L,rfl,r,s,kn,e1,e2⟩:=a;obtain⟨h1,e_h1⟩:∃h1,h1=halloc h [pv p,vk]:=⟨_,rfl⟩;have F_h1:Fr [] h h1:=e_h1▸Fr.halloc w _;have o_h1:Own h1 h.next [pv p,vk]:=e_h1▸Own.new w _;by_cases h0:i<0
 ·refine ag g146 rfl ?_;simp only[fn146,evs,↓reduceIte,Nat.reduceEqDiff,Nat.reduceAdd,←e_h1,h0];exact⟨by rw[if_neg (by omega)],F_h1⟩
 ·refine ag g146 rfl ?_;simp only[fn146,evs,↓reduceIte,Nat.reduceEqDiff,Nat.reduceAdd,←e_h1,o_h1.ld,h0];refine aa (gZ F_h1.wf (a0.fr F_h1)) ?_;rintro _ h2 ⟨rfl,F2⟩;by_cases hi:(l.length:Int)≤i
  ·simp only[evs,↓reduceIte,Nat.reduceEqDiff,hi];exact⟨by rw[if_neg (by omega)],F_h1.then F2⟩
  ·simp only[evs,↓reduceIte,Nat.reduceEqDiff,hi,(F2.get o_h1).ld1];refine aa (Gi F2.wf (s.fr (F_h1.then F2)).slc kn.ok (kn.len (by omega))) ?_;rintro _ h3 ⟨rfl,F3⟩;simp only[evs,↓reduceIte,Nat.reduceEqDiff];refine⟨?_,(F_h1.then F2).then F3⟩;rw[if_pos (by omega)];have:=kn.eq i.toNat;rw[show((i.toNat:Nat):Int)=i by omega]at this;rw[this]
theorem mZ{h:Heap}{s:Int}:ao go 180 [.int .i64 s] h fun u h'=>u=.bool (decide (s<1∨2305843009213693952<s))∧h'=h:=by
 by_cases c:s<1
 ·refine ag g180 rfl ?_;simp only[fn180,evs,↓reduceIte,Nat.reduceEqDiff,c];simp
 ·refine ag g180 rfl ?_;simp only[fn180,evs,↓reduceIte,Nat.reduceEqDiff,c];simp
def bK(l:List Int)(i size:Int):Int:=if 0≤i∧i<l.length then if size<1∨2305843009213693952<size then 12 else if 4611686018427387904-(l.sum-l.getD i.toNat 0)<size then 13 else 0 else 4
theorem rF{l:List Int}{i size:Int}(h:¬((0≤i∧i<l.length)∧(size<1∨2305843009213693952<size))):bK l i size=jr l i size:=by
 unfold bK jr;by_cases c:0≤i∧i<l.length
 ·rw[if_pos c,if_pos c,if_neg (show¬(size<1∨2305843009213693952<size) by omega),if_neg (show¬(size<0∨2305843009213693952<size) by omega)]
 ·rw[if_neg c,if_neg c]
theorem oL{ks:List Bool}{i j:Nat}{b:Bool}(h:i<ks.length):(ks.set i b).getD j false=if j=i then b else ks.getD j false:=by
 simp only[List.getD_eq_getElem?_getD,List.getElem?_set];by_cases c:i=j
 ·subst c;simp[h]
 ·rw[if_neg c,if_neg (Ne.symm c)]
theorem DQ{h:Heap}{v:V}{l:List Int}{ks:List Bool}{i size:Int}{kn:Bool}(w:WF h)(a:Ix h v l ks)(s0:-9223372036854775808≤size)(s1:size≤9223372036854775807)(i0:-9223372036854775808≤i)(i1:i≤9223372036854775807):
 ao go 110 [v,.int .i64 i,.int .i64 size,.bool kn] h fun u h'=>Fr [] h h'∧∃c d,u=.tup [.agg [c,d],.int .i64 (bK l i size)]∧c.one=true∧d.one=true∧(bK l i size=0→Ix h' (.agg [c,d]) (l.set i.toNat size) (ks.set i.toNat kn)):=by
 have a0:=a;obtain⟨p,vk,L,rfl,r,s,kn',e1,e2⟩:=a;obtain⟨h1,e_h1⟩:∃h1,h1=halloc h [pv p,vk]:=⟨_,rfl⟩;have F_h1:Fr [] h h1:=e_h1▸Fr.halloc w _;have o_h1:Own h1 h.next [pv p,vk]:=e_h1▸Own.new w _;obtain⟨h2,e_h2⟩:∃h2,h2=halloc h1 [.nilp,.nils]:=⟨_,rfl⟩;have F_h2:Fr [] h1 h2:=e_h2▸Fr.halloc F_h1.wf _;have o_h2:Own h2 h1.next [.nilp,.nils]:=e_h2▸Own.new F_h1.wf _;have F12:=F_h1.then F_h2;have o1:=F_h2.get o_h1;have b1:h.next≤h1.next:=F_h1.next;have c:i<0∨(0≤i∧(l.length:Int)≤i)∨(0≤i∧i<l.length∧¬(size<1∨2305843009213693952<size))∨(0≤i∧i<l.length∧(size<1∨2305843009213693952<size)):=by omega
 rcases c with c|c|c|c
 case' inr.inr.inr=>
  refine ag g110 rfl ?_;simp only[fn110,evs,↓reduceIte,Nat.reduceEqDiff,Nat.reduceAdd,←e_h1,←e_h2,o1.ld,eq_true c.1];refine aa (gZ F12.wf (a0.fr F12)) ?_;rintro _ h3 ⟨rfl,F3⟩;simp only[evs,↓reduceIte,Nat.reduceEqDiff,eq_true c.2.1];refine aa mZ ?_;rintro _ _ ⟨rfl,hh⟩;subst hh;simp only[evs,↓reduceIte,Nat.reduceEqDiff,eq_true c.2.2];refine ah (c':=[.nilp,.nils]) F3.wf (F3.get o_h2) rfl (by first|rfl|simp[aq,V.cells,aN, *]) rfl ?_
  rintro h4 o_h4 F_h4 n_h4;simp only[evs,↓reduceIte,Nat.reduceEqDiff,o_h4.ld];have e:bK l i size=12:=by unfold bK;rw[if_pos ⟨c.1,c.2.1⟩,if_pos c.2.2]
  rw[e];exact⟨(F12.then F3).fresh F_h4 w b1,_,_,rfl,rfl,rfl,by simp⟩
 case' inl=>
  refine ag g110 rfl ?_;simp only[fn110,evs,↓reduceIte,Nat.reduceEqDiff,Nat.reduceAdd,←e_h1,←e_h2,o1.ld,show¬0≤i by omega];obtain⟨h3,F3,e3⟩:∃h3,Fr [] h2 h3∧h3=h2:=⟨h2,Fr.refl F12.wf,rfl⟩;rw[←e3];have ee:=rF (l:=l) (i:=i) (size:=size) (by omega)
 case' inr.inl=>
  refine ag g110 rfl ?_;simp only[fn110,evs,↓reduceIte,Nat.reduceEqDiff,Nat.reduceAdd,←e_h1,←e_h2,o1.ld,eq_true c.1];refine aa (gZ F12.wf (a0.fr F12)) ?_;rintro _ h3 ⟨rfl,F3⟩;simp only[evs,↓reduceIte,Nat.reduceEqDiff,show¬i<l.length by omega,(F3.get o1).ld];have ee:=rF (l:=l) (i:=i) (size:=size) (by omega)
 case' inr.inr.inl=>
  refine ag g110 rfl ?_;simp only[fn110,evs,↓reduceIte,Nat.reduceEqDiff,Nat.reduceAdd,←e_h1,←e_h2,o1.ld,eq_true c.1];refine aa (gZ F12.wf (a0.fr F12)) ?_;rintro _ h3 ⟨rfl,F3⟩;simp only[evs,↓reduceIte,Nat.reduceEqDiff,eq_true c.2.1];refine aa mZ ?_;rintro _ _ ⟨rfl,hh⟩;subst hh;simp only[evs,↓reduceIte,Nat.reduceEqDiff,eq_false c.2.2,(F3.get o1).ld];have ee:=rF (l:=l) (i:=i) (size:=size) (by omega)
 all_goals
  clear c;try simp only[evs,↓reduceIte,Nat.reduceEqDiff,Nat.reduceAdd,Nat.reduceMul,Nat.reduceLeDiff,Nat.reduceLT,Int.reduceNeg,DF,eff,Nat.reduceSub,(F3.get o1).ld]
  have F13:=F12.then F3;refine aa (DX F3.wf (r.fr F13) s0 s1) ?_;rintro _ h4 ⟨F4,c4,rfl,hc4,hr⟩;rw[ee];obtain⟨h5,e_h5⟩:∃h5,h5=halloc h4 [.nilp]:=⟨_,rfl⟩;have F_h5:Fr [] h4 h5:=e_h5▸Fr.halloc F4.wf _;have o_h5:Own h5 h4.next [.nilp]:=e_h5▸Own.new F4.wf _;simp only[evs,↓reduceIte,←e_h5];refine ah (c':=[c4]) F_h5.wf o_h5 rfl (by simp[aq,V.cells,hc4]) rfl ?_;rintro h6 o6 F6 n6;have F46:Fr [] h4 h6:=F_h5.fresh F6 F4.wf (Nat.le_refl _);have F36:=(F4.then F46);have F26:=F3.then F36;by_cases z:jr l i size=0
  ·have hi:0≤i∧i<l.length:=by
    unfold jr at z;by_cases hh:0≤i∧i<l.length
    ·exact hh
    ·rw[if_neg hh]at z;omega
   simp(disch:=omega) only[evs,↓reduceIte,Nat.reduceEqDiff,eff,ai,eq_true z,o6.ld,(F26.get o1).ld1];refine aa (qr (m:=ks.length) F46.wf (s.fr (F12.then F26)) kn'.ok (by omega) kn'.le (by omega) (by omega) (by omega)) ?_;rintro vk' h7 ⟨F7,L',ov,sL,okL,iL,mL⟩;simp only[evs,eff];refine aa (wD F7.wf hc4 ov) ?_;rintro _ h8 ⟨F8,rfl⟩;rw[if_pos rfl];have F28:=(F26.then F7).then F8;simp only[evs,↓reduceIte,Nat.reduceEqDiff,eff];refine ah (c':=[c4,vk']) F8.wf (F28.get o_h2) rfl (by first|rfl|simp[aq,V.cells, *]) rfl ?_
   rintro h9 o_h9 F_h9 n_h9;simp only[evs,↓reduceIte,Nat.reduceEqDiff,Nat.reduceAdd,DF,eff,Nat.reduceSub,o_h9.ld,o6.ld,(F26.get o1).ld1,(F7.get o6).ld];have rr:=(hr z);obtain⟨t',p',ep,at',et,ft⟩:=rr;cases ep;refine⟨(F12.then F28).fresh F_h9 w b1,_,_,by rw[z],aN _,ov,fun _=>⟨p',vk',L',rfl,?_,?_,?_,?_,?_⟩⟩
   ·exact(Rp.fr (l:=l.set i.toNat size) ⟨t',p',rfl,at',et,ft⟩ ((F46.then F7).then F8)).frb F_h9 (F28.get o_h2) (by simp)
   ·exact(sL.fr F8).frb F_h9 (F28.get o_h2) (yA (by simp))
   ·refine⟨okL,by simpa using mL,fun j=>?_⟩;rw[iL,oL (by omega),kn'.eq];by_cases cj:j=i.toNat
    ·rw[if_pos cj,if_pos (by omega)]
    ·rw[if_neg cj,if_neg (by omega)]
   ·simpa using e1
   ·simpa using e2
  ·simp only[evs,↓reduceIte,Nat.reduceEqDiff,eq_false z];refine ah (c':=[.nilp,.nils]) F46.wf (F26.get o_h2) rfl (by first|rfl|simp[aq,V.cells,aN, *]) rfl ?_
   rintro h9 o_h9 F_h9 n_h9;simp only[evs,↓reduceIte,Nat.reduceEqDiff,o_h9.ld];exact⟨(F12.then F26).fresh F_h9 w b1,_,_,rfl,rfl,rfl,by simp[]⟩
def rK(t:Int):List Int→Int
 |[]=>0
 |s::l=>if s<1∨2305843009213693952<s then 12 else if 4611686018427387904<t+s then 13 else rK (t+s) l
theorem uP:∀(a:List Int)(s t:Int),chk (a++[s]) t=if chk a t=0 then(if s<0∨2305843009213693952<s then 12 else if 4611686018427387904-(t+a.sum)<s then 13 else 0)else chk a t
 |[],s,t=>by simp[chk]
 |x::a,s,t=>by
  simp only[List.cons_append,chk];by_cases c1:x<0∨2305843009213693952<x
  ·simp only[if_pos c1];simp
  ·simp only[if_neg c1];by_cases c2:4611686018427387904-t<x
   ·simp only[if_pos c2];simp
   ·simp only[if_neg c2];rw[uP a s (t+x)];simp only[List.sum_cons,show t+x+a.sum=t+(x+a.sum) by omega];rfl
def cD(l:List Int)(a:Int)(m:List Int):Int:=if 0≤a∧a≤l.length then if 1024-(l.length:Int)<m.length then 3 else if rK 0 m=0 then(if 4611686018427387904-m.sum<l.sum then 13 else 0)else rK 0 m else 4
theorem AV{ks:List Bool}{a n:Nat}{kn:Bool}(ha:a≤ks.length)(j:Nat):
 (ks.take a++List.replicate n kn++ks.drop a).getD j false=if j<a then ks.getD j false else if j<a+n then kn else ks.getD (j-n) false:=by
 simp only[List.getD_eq_getElem?_getD];by_cases c1:j<a
 ·rw[if_pos c1,List.append_assoc,List.getElem?_append_left (by simp;omega),List.getElem?_take,if_pos c1]
 ·rw[if_neg c1,List.append_assoc,List.getElem?_append_right (by simp;omega)];have hl:(ks.take a).length=a:=by simp;omega
  rw[hl];by_cases c2:j<a+n
  ·rw[if_pos c2,List.getElem?_append_left (by simp;omega),List.getElem?_replicate,if_pos (by omega)];rfl
  ·rw[if_neg c2,List.getElem?_append_right (by simp;omega),List.length_replicate,List.getElem?_drop];congr 2;omega
theorem DR{h:Heap}{v u:V}{l m:List Int}{ks:List Bool}{i:Int}{kn:Bool}(w:WF h)(a:Ix h v l ks)(am:mK h u m)(hm:m.length≤1000000)(i0:-9223372036854775808≤i)(i1:i≤9223372036854775807):
 ao go 223 [v,.int .i64 i,u,.bool kn] h fun z h'=>Fr [] h h'∧∃c d,z=.tup [.agg [c,d],.int .i64 (cD l i m)]∧c.one=true∧d.one=true∧
  (cD l i m=0→Ix h' (.agg [c,d]) (l.take i.toNat++m++l.drop i.toNat) (ks.take i.toNat++List.replicate m.length kn++ks.drop i.toNat)):=by
 have a0:=a;obtain⟨p,vk,L,rfl,r,s,kn',e1,e2⟩:=a;obtain⟨h1,e_h1⟩:∃h1,h1=halloc h [pv p,vk]:=⟨_,rfl⟩;have F_h1:Fr [] h h1:=e_h1▸Fr.halloc w _;have o_h1:Own h1 h.next [pv p,vk]:=e_h1▸Own.new w _;obtain⟨h2,e_h2⟩:∃h2,h2=halloc h1 [.nilp,.nils]:=⟨_,rfl⟩;have F_h2:Fr [] h1 h2:=e_h2▸Fr.halloc F_h1.wf _;have o_h2:Own h2 h1.next [.nilp,.nils]:=e_h2▸Own.new F_h1.wf _;have F12:=F_h1.then F_h2;have o1:=F_h2.get o_h1;have b1:h.next≤h1.next:=F_h1.next;by_cases c0:i<0
 ·refine ag g223 rfl ?_;simp only[fn223,evs,↓reduceIte,Nat.reduceEqDiff,Nat.reduceAdd,←e_h1,←e_h2,c0];refine ah (c':=[.nilp,.nils]) F_h2.wf o_h2 rfl (by first|rfl|simp[aq,V.cells,aN, *]) rfl ?_
  rintro h4 o_h4 F_h4 n_h4;simp only[evs,↓reduceIte,Nat.reduceEqDiff,o_h4.ld];have e:cD l i m=4:=by unfold cD;rw[if_neg (by omega)]
  rw[e];exact⟨F12.fresh F_h4 w b1,_,_,rfl,rfl,rfl,by simp⟩
 ·refine ag g223 rfl ?_;simp only[fn223,evs,↓reduceIte,Nat.reduceEqDiff,Nat.reduceAdd,←e_h1,←e_h2,o1.ld,c0];refine aa (gZ F12.wf (a0.fr F12)) ?_;rintro _ h3 ⟨rfl,F3⟩;by_cases c1:(l.length:Int)<i
  ·simp only[evs,↓reduceIte,Nat.reduceEqDiff,c1];refine ah (c':=[.nilp,.nils]) F3.wf (F3.get o_h2) rfl (by first|rfl|simp[aq,V.cells,aN, *]) rfl ?_
   rintro h4 o_h4 F_h4 n_h4;simp only[evs,↓reduceIte,Nat.reduceEqDiff,o_h4.ld];have e:cD l i m=4:=by unfold cD;rw[if_neg (by omega)]
   rw[e];exact⟨(F12.then F3).fresh F_h4 w b1,_,_,rfl,rfl,rfl,by simp⟩
  ·have am3:=am.fr (F12.then F3);simp only[evs,↓reduceIte,Nat.reduceEqDiff,c1,am3.len,(F3.get o1).ld];refine aa (gZ F3.wf (a0.fr (F12.then F3))) ?_;rintro _ h4 ⟨rfl,F4⟩;have F34:=F3.then F4;have F14:=F12.then F34;have am4:=am.fr F14;have hi:0≤i∧i≤l.length:=by omega
   by_cases c2:1024-(l.length:Int)<m.length
   ·simp(disch:=omega) only[evs,↓reduceIte,Nat.reduceEqDiff,ai,c2];refine ah (c':=[.nilp,.nils]) F4.wf (F34.get o_h2) rfl (by first|rfl|simp[aq,V.cells,aN, *]) rfl ?_
    rintro h5 o_h5 F_h5 n_h5;simp only[evs,↓reduceIte,Nat.reduceEqDiff,o_h5.ld];have e:cD l i m=3:=by unfold cD;rw[if_pos hi,if_pos c2]
    rw[e];exact⟨F14.fresh F_h5 w b1,_,_,rfl,rfl,rfl,by simp⟩
   ·simp(disch:=omega) only[evs,↓reduceIte,Nat.reduceEqDiff,ai,c2,am4.len];have o2:=F34.get o_h2;refine aE (fun k env hh=>hh=h4∧∃(j:Nat),env.get 36=some (.int .i64 j)∧env.get 34=some u∧env.get 35=some (.int .i64 m.length)∧env.get 2=some u∧env.get 1=some (.int .i64 i)∧env.get 3=some (.bool kn)∧
     env.get 4=some (.ptr h.next 0)∧env.get 8=some (.ptr h1.next 0)∧j≤m.length∧chk (m.take j) 0=0∧0≤(m.take j).sum∧(m.take j).sum≤4611686018427387904∧rK (m.take j).sum (m.drop j)=rK 0 m∧k=m.length-j) m.length (by omega) ?_ ?_
    ·exact⟨rfl,0,(by simp[T.get_set]),(by simp[T.get_set]),(by simp[T.get_set]),(by simp[T.get_set]),(by simp[T.get_set]),(by simp[T.get_set]),(by simp[T.get_set]),(by simp[T.get_set]),by omega,by simp[chk],by simp,by simp,by simp,rfl⟩
    ·rintro k env hh ⟨rfl,j,g36,g34,g35,g2,g1,g3,g4,g8,hj,ck,sn,sm,se,rfl⟩;by_cases hlt:(j:Int)<m.length
     ·obtain⟨bb,oo,x,q1,q2,q3⟩:=am4.ix .i64 j (by omega) hlt;simp only[Int.toNat_natCast]at q3;rw[aK q3,rK]at se;simp only[evs,↓reduceIte,Nat.reduceEqDiff,g36,g34,g35,hlt,q1,q2];refine aa mZ ?_;rintro _ _ ⟨rfl,hh⟩;subst hh;by_cases c3:x<1∨2305843009213693952<x
      ·simp only[evs,↓reduceIte,Nat.reduceEqDiff,eq_true c3,g8];refine ah (c':=[.nilp,.nils]) F4.wf o2 rfl (by first|rfl|simp[aq,V.cells,aN, *]) rfl ?_
       rintro h5 o_h5 F_h5 n_h5;simp only[evs,↓reduceIte,Nat.reduceEqDiff,o_h5.ld,g8];rw[if_pos c3]at se;have e:cD l i m=12:=by unfold cD;rw[if_pos hi,if_neg c2,if_neg (by omega),←se]
       rw[e];exact⟨F14.fresh F_h5 w b1,_,_,rfl,rfl,rfl,by simp⟩
      ·rw[if_neg c3]at se;have hv:u≠.sliceE:=Sl.ne am4 (by omega);obtain⟨u',p1,p2⟩:=am4.upto hv .i64 ((j:Int)+1) (by omega) (by omega);have tk:m.take (j+1)=m.take j++[x]:=by rw[List.take_add_one,q3];rfl
       rw[show((j:Int)+1).toNat=j+1 by omega]at p2;have cs:chk (m.take (j+1)) 0=if 4611686018427387904<(m.take j).sum+x then 13 else 0:=by
        rw[tk,uP,if_pos ck,if_neg (by omega)];by_cases c4:4611686018427387904<(m.take j).sum+x
        ·rw[if_pos c4,if_pos (by omega)]
        ·rw[if_neg c4,if_neg (by omega)]
       simp(disch:=omega) only[evs,↓reduceIte,Nat.reduceEqDiff,ai,eq_false c3,g2,p1];refine aa (pF F4.wf p2 (by simp;omega)) ?_;rintro _ _ ⟨rfl,hh⟩;subst hh;rw[if_neg (by simp;omega),cs];by_cases c4:4611686018427387904<(m.take j).sum+x
       ·rw[if_pos c4]at se⊢;simp only[evs,↓reduceIte,Nat.reduceEqDiff,g8,show¬(13:Int)=0 by omega];refine ah (c':=[.nilp,.nils]) F4.wf o2 rfl (by first|rfl|simp[aq,V.cells,aN, *]) rfl ?_
        rintro h5 o_h5 F_h5 n_h5;simp only[evs,↓reduceIte,Nat.reduceEqDiff,o_h5.ld,g8];have e:cD l i m=13:=by unfold cD;rw[if_pos hi,if_neg c2,if_neg (by omega),←se]
        rw[e];exact⟨F14.fresh F_h5 w b1,_,_,rfl,rfl,rfl,by simp⟩
       ·rw[if_neg c4]at se⊢;simp(disch:=omega) only[evs,↓reduceIte,Nat.reduceEqDiff,ai,g36];have ts:(m.take (j+1)).sum=(m.take j).sum+x:=by rw[tk];simp
        refine(aj _ _ _).2 ⟨m.length-(j+1),by omega,rfl,j+1,(by simp[T.get_set]),(by simp[T.get_set,g34]),(by simp[T.get_set,g35]),(by simp[T.get_set,g2]),(by simp[T.get_set,g1]),(by simp[T.get_set,g3]),(by simp[T.get_set,g4]),(by simp[T.get_set,g8]),by omega,by rw[cs,if_neg c4],by rw[ts];omega,by rw[ts];omega,by rw[ts];exact se,rfl⟩
        done
     ·have ej:j=m.length:=by omega
      subst ej;simp only[List.take_length,List.drop_length,rK]at ck se sn sm;simp only[evs,↓reduceIte,Nat.reduceEqDiff,g36,g35,g2,g1,g4,hlt,(F34.get o1).ld];refine aa (DY F4.wf (r.fr F14) am4 hm) ?_;rintro _ h5 ⟨F5,c5,rfl,hc5,hr⟩;have ei:pI l i m=cD l i m:=by
       unfold pI cD ofE ig;rw[if_pos hi,if_pos hi,if_neg (show¬4096<m.length by omega),if_pos ck,if_neg (show¬4096<l.length+m.length by omega),if_neg c2,if_pos se.symm]
      rw[ei]at hr⊢;obtain⟨h6,e_h6⟩:∃h6,h6=halloc h5 [.nilp]:=⟨_,rfl⟩;have F_h6:Fr [] h5 h6:=e_h6▸Fr.halloc F5.wf _;have o_h6:Own h6 h5.next [.nilp]:=e_h6▸Own.new F5.wf _;simp only[evs,↓reduceIte,←e_h6];refine ah (c':=[c5]) F_h6.wf o_h6 rfl (by simp[aq,V.cells,hc5]) rfl ?_;rintro h7 o7 F7 n7;have F57:Fr [] h5 h7:=F_h6.fresh F7 F5.wf (Nat.le_refl _);have F27:=(F34.then F5).then F57;by_cases z:cD l i m=0
      ·simp only[evs,↓reduceIte,Nat.reduceEqDiff,eq_true z,g2,g1,g4,(F27.get o1).ld1,am.len];refine aa (DW (m:=ks.length) F57.wf (s.fr (F12.then F27)).slc kn'.ok (by omega) kn'.le (by omega) (by omega) (by omega) (by omega)) ?_;rintro _ h8 ⟨F8,vk1,L1,rfl,ov1,sL1,ok1,iL1,mL1⟩;simp(disch:=omega) only[evs,↓reduceIte,Nat.reduceEqDiff,eff,ai,g2,g1,g3,(F8.get o7).ld,am.len];refine aa (qr (m:=ks.length+m.length) F8.wf sL1 ok1 (by omega) mL1 (by omega) (by omega) (by omega)) ?_;rintro vk2 h9 ⟨F9,L2,ov2,sL2,ok2,iL2,mL2⟩;simp only[evs,↓reduceIte,eff];refine aa (wD F9.wf hc5 ov2) ?_;rintro _ h10 ⟨F10,rfl⟩;rw[if_pos rfl];have F210:=((F27.then F8).then F9).then F10;simp only[evs,↓reduceIte,Nat.reduceEqDiff,eff,g8];refine ah (c':=[c5,vk2]) F10.wf (F210.get o_h2) rfl (by first|rfl|simp[aq,V.cells, *]) rfl ?_
       rintro h11 o_h11 F_h11 n_h11;simp only[evs,↓reduceIte,Nat.reduceEqDiff,Nat.reduceAdd,DF,eff,Nat.reduceSub,o_h11.ld,g8,(F8.get o7).ld,((F8.then F9).get o7).ld];obtain⟨t',p',ep,at',et,ft⟩:=hr z;cases ep;refine⟨(F12.then F210).fresh F_h11 w b1,_,_,by rw[z],aN _,ov2,fun _=>⟨p',vk2,L2,rfl,?_,?_,?_,?_,?_⟩⟩
       ·exact(Rp.fr (l:=l.take i.toNat++m++l.drop i.toNat) ⟨t',p',rfl,at',et,ft⟩ (((F57.then F8).then F9).then F10)).frb F_h11 (F210.get o_h2) (by simp)
       ·exact(sL2.fr F10).frb F_h11 (F210.get o_h2) (yA (by simp))
       ·refine⟨ok2,?_,fun j=>?_⟩
        ·intro x hx;have:=mL2 x hx;simp;omega
        ·rw[iL2,iL1,AV (by omega)];unfold shf;by_cases d1:j<i.toNat
         ·rw[if_neg (by omega),if_pos (by omega),if_pos d1,kn'.eq]
         ·by_cases d2:j<i.toNat+m.length
          ·rw[if_pos (by omega),if_neg d1,if_pos d2]
          ·rw[if_neg (by omega),if_neg (by omega),if_neg (by omega),if_neg d1,if_neg d2,←kn'.eq];congr 1;omega
       ·simp;omega
       ·simp;omega
      ·simp only[evs,↓reduceIte,Nat.reduceEqDiff,eq_false z,g8];refine ah (c':=[.nilp,.nils]) F57.wf (F27.get o_h2) rfl (by first|rfl|simp[aq,V.cells,aN, *]) rfl ?_
       rintro h9 o_h9 F_h9 n_h9;simp only[evs,↓reduceIte,Nat.reduceEqDiff,o_h9.ld,g8];exact⟨(F12.then F27).fresh F_h9 w b1,_,_,rfl,rfl,rfl,by simp[]⟩
theorem DO(k:IntKind)(x:Nat)(b:Int)(n:Nat)(h:b=n)(hn:n≤64):aP (.sh false) [.int .u64 (x:Int),.int k b]=some (.int .u64 ((x/2^n:Nat):Int)):=by
 subst h;rw[ww _ _ _ _ (by omega)];simp only[Int.toNat_natCast,IntKind.bits,Nat.min_eq_left hn];congr 2;rw[Int.fdiv_eq_ediv_of_nonneg _ (Int.natCast_nonneg _),Int.natCast_ediv]
theorem Ho(w x y:Nat):(BitVec.ofInt w (x:Int)&&&BitVec.ofInt w (y:Int)).toNat=(x%2^w)&&&(y%2^w):=by simp[BitVec.toNat_and]
theorem Hn(w x y:Nat):(BitVec.ofInt w (x:Int)^^^BitVec.ofInt w (y:Int)).toNat=(x%2^w)^^^(y%2^w):=by simp[BitVec.toNat_xor]
theorem B8(k:IntKind)(a b:Int):aP (.ib .and) [.int k a,.int k b]=some (.int k (aY k (BitVec.toNat (BitVec.ofInt k.bits a&&&BitVec.ofInt k.bits b)))):=by simp only[aP,bF,cond_true,eU]
theorem FJ(k:IntKind)(a b:Int):aP (.ib .xor) [.int k a,.int k b]=some (.int k (aY k (BitVec.toNat (BitVec.ofInt k.bits a^^^BitVec.ofInt k.bits b)))):=by simp only[aP,bF,cond_true,eU]
theorem p64:2^IntKind.u64.bits=18446744073709551616:=rfl
theorem DP(x y:Nat)(a b:Int)(ha:a=x)(hb:b=y)(hx:x<18446744073709551616)(hy:y<18446744073709551616):aP (.ib .and) [.int .u64 a,.int .u64 b]=some (.int .u64 ((x&&&y:Nat):Int)):=by
 subst ha hb;have hxy:x&&&y<18446744073709551616:=Nat.lt_of_le_of_lt Nat.and_le_left hx;rw[B8,Ho,p64,Nat.mod_eq_of_lt hx,Nat.mod_eq_of_lt hy,bU _ (by omega) (by omega)]
theorem mW(x y:Nat)(a b:Int)(ha:a=x)(hb:b=y)(hx:x<18446744073709551616)(hy:y<18446744073709551616):aP (.ib .xor) [.int .u64 a,.int .u64 b]=some (.int .u64 ((x^^^y:Nat):Int)):=by
 subst ha hb;have hxy:x^^^y<2^64:=Nat.xor_lt_two_pow (by simpa using hx) (by simpa using hy);rw[FJ,Hn,p64,Nat.mod_eq_of_lt hx,Nat.mod_eq_of_lt hy,bU _ (by omega) (by omega)]
def uw(x:Nat):V:=.int .u64 (x:Int)
def flc(n m:Int)(ws:List Nat):List V:=.int .i64 n::.int .i64 m::ws.map uw
structure WOK(ws:List Nat)(bs:List Bool):Prop where
 len:ws.length=64
 w:∀k,k<64→∃x,ws[k]? =some x∧x<18446744073709551616∧∀j,j<64→x.testBit j=bs.getD (64*k+j) false
def Fl(h:Heap)(b:Nat)(bs:List Bool):Prop:=∃ws,Own h b (flc bs.length (bs.count true) ws)∧WOK ws bs∧bs.length≤4096
theorem Fl.fr{h h':Heap}{b:Nat}{bs:List Bool}(a:Fl h b bs)(f:Fr [] h h'):Fl h' b bs:=by
 obtain⟨ws,o,x⟩:=a;exact⟨ws,f.get o,x⟩
theorem w4(n m:Int)(ws:List Nat)(k:Nat):nth (flc n m ws) (2+k)=(ws[k]?).map uw:=by
 rw[iA,Nat.add_comm];simp[flc]
theorem Ec(i:Nat):aP (.ib .quo) [.int .i64 (i:Int),.int .i64 64]=some (.int .i64 ((i/64:Nat):Int))∨i>9000000:=by
 by_cases h:i>9000000
 ·exact .inr h
 ·left;rw[lT _ _ 64 (by decide),show Int.tdiv (i:Int) 64=((i/64:Nat):Int)from(Int.ofNat_tdiv i 64).symm,ai _ (by omega) (by omega)]
theorem Eb(i:Nat):aP (.ib .rem) [.int .i64 (i:Int),.int .i64 64]=some (.int .i64 ((i%64:Nat):Int)):=by
 rw[j4 _ _ 64 (by decide),show Int.tmod (i:Int) 64=((i%64:Nat):Int)from(Int.ofNat_tmod i 64).symm]
theorem HS(x j:Nat):decide (((x/2^j&&&1:Nat):Int)=1)=x.testBit j:=by
 rw[Nat.testBit_eq_decide_div_mod_eq,Nat.and_one_is_mod];rw[Bool.eq_iff_iff,decide_eq_true_eq,decide_eq_true_eq];omega
theorem A1{h:Heap}{b:Nat}{bs:List Bool}{i:Nat}(f:Fl h b bs)(hi:i<bs.length):ao go 211 [.ptr b 0,.int .i64 (i:Int)] h fun u h'=>u=.bool (bs.getD i false)∧h'=h:=by
 obtain⟨ws,o,ok,hn⟩:=f;obtain⟨x,e1,e2,e3⟩:=ok.w (i/64) (by omega);have q1:=(Ec i).resolve_right (by omega);have q2:=Eb i;have q3:=sW 1 b 2 64 .i64 ((i/64:Nat):Int) (by omega) (by omega);have q4:ab h b (2+(i/64) *1)=some (.int .u64 (x:Int)):=by rw[o.ld1,Nat.mul_one,w4,e1];rfl
 have q5:=DO .i64 x ((i%64:Nat):Int) (i%64) rfl (by omega);have q6:=DP (x/2^(i%64)) 1 _ 1 rfl rfl (Nat.lt_of_le_of_lt (Nat.div_le_self _ _) e2) (by omega);simp only[Int.toNat_natCast]at q3;refine ag g211 rfl ?_;simp only[fn211,xL,xJ,xM,gF,sX,DV,DU,CV,mY,mX,AA,sZ,eF,sf,sd,mj,gh,w9,cS,eV,bZ,bD,bY,jk,fC,T.get_set,kX,kW,kH,sj,i7,xA,pA,gz,wy,↓reduceIte,Nat.reduceEqDiff,Nat.reduceAdd,Nat.zero_add,q1,q2,q3,q4,q5,q6,HS];rw[e3 (i%64) (by omega),show 64*(i/64)+i%64=i by omega];exact⟨rfl,trivial⟩
theorem qJ:∀(bs:List Bool)(i:Nat)(v:Bool),i<bs.length→bs.getD i false≠v→((bs.set i v).count true:Int)=bs.count true+if v=true then 1 else-1
 |b::bs,0,v,_,h=>by cases b<;>cases v<;>simp at h⊢ <;>omega
 |b::bs,i+1,v,hi,h=>by
  have ih:=qJ bs i v (by simpa using hi) (by simpa using h);simp only[List.set_cons_succ,List.count_cons];split at ih<;>simp_all<;>split<;>omega
theorem tw:∀(bs:List Bool)(i:Nat),bs.set i (bs.getD i false)=bs
 |[],_=>rfl
 |b::bs,0=>by simp
 |b::bs,i+1=>by have:=tw bs i;simp at this⊢;exact this
theorem WOK.flip{ws:List Nat}{bs:List Bool}(ok:WOK ws bs){i x:Nat}{v:Bool}(hi:i<bs.length)(h4:bs.length≤4096)(hx:ws[i/64]? =some x)(hv:bs.getD i false≠v):WOK (ws.set (i/64) (x^^^2^(i%64))) (bs.set i v):=by
 refine⟨by rw[List.length_set];exact ok.len,fun k hk=>?_⟩;obtain⟨y,e1,e2,e3⟩:=ok.w k hk;by_cases c:k=i/64
 ·subst c;rw[hx]at e1;cases e1;refine⟨x^^^2^(i%64),by simp[ok.len,hk],?_,fun j hj=>?_⟩
  ·have:=Nat.xor_lt_two_pow (n:=64) (x:=x) (y:=2^(i%64)) (by simpa using e2) (Nat.pow_lt_pow_right (by omega) (by omega));simpa using this
  ·rw[Nat.testBit_xor,Nat.testBit_two_pow,e3 j hj,oL hi];by_cases cj:i%64=j
   ·rw[if_pos (by omega)];have:64*(i/64)+j=i:=by omega
    rw[this];simp only[cj,decide_true];cases h1:bs.getD i false<;>cases v<;>simp_all
   ·rw[if_neg (by omega)];simp[cj]
 ·refine⟨y,by rw[List.getElem?_set_ne (Ne.symm c)];exact e1,e2,fun j hj=>?_⟩;rw[e3 j hj,oL hi,if_neg (by omega)]
theorem Dp(n m:Int)(ws:List Nat)(k y:Nat):(flc n m ws).set (2+k) (.int .u64 (y:Int))=flc n m (ws.set k y):=by
 rw[Nat.add_comm];simp[flc,List.map_set,uw]
theorem c7(n m:Int)(ws:List Nat):(flc n m ws).length=ws.length+2:=by simp[flc]
theorem iY(l:List V):bo l 0 []=some l:=by cases l<;>rfl
theorem un(n m m':Int)(ws:List Nat):bo (flc n m ws) 1 [.int .i64 m']=some (flc n m' ws):=by
 show bo (.int .i64 n::.int .i64 m::ws.map uw) (0+1) [.int .i64 m']=_;rw[aX,aQ,iY];rfl
theorem A7(n n' m:Int)(ws:List Nat):bo (flc n m ws) 0 [.int .i64 n']=some (flc n' m ws):=by
 show bo (.int .i64 n::.int .i64 m::ws.map uw) 0 [.int .i64 n']=_;rw[aQ,iY];rfl
theorem CW(k:IntKind)(j:Nat)(hj:j<64):aP (.sh true) [.int .u64 1,.int k (j:Int)]=some (.int .u64 ((2^j:Nat):Int)):=by
 have h2:2^j<2^64:=Nat.pow_lt_pow_right (by omega) hj;rw[FK _ _ _ _ (by omega)];simp only[Int.toNat_natCast,IntKind.bits,Nat.min_eq_left (show j≤64 by omega),Int.one_mul];rw[bU _ (Int.natCast_nonneg _) (Int.ofNat_le.2 (Nat.le_of_lt_succ (by simpa using h2)))]
theorem wZ{h:Heap}{b:Nat}{bs:List Bool}{i:Nat}{v:Bool}(w:WF h)(f:Fl h b bs)(hi:i<bs.length):ao go 212 [.ptr b 0,.int .i64 (i:Int),.bool v] h fun u h'=>u=.tup []∧Fl h' b (bs.set i v)∧Fr [b] h h'∧h'.next=h.next:=by
 have f0:=f;obtain⟨ws,o,ok,hn⟩:=f;obtain⟨x,e1,e2,e3⟩:=ok.w (i/64) (by omega);have q1:=(Ec i).resolve_right (by omega);have q2:=Eb i;have q3:=sW 1 b 2 64 .i64 ((i/64:Nat):Int) (by omega) (by omega);simp only[Int.toNat_natCast,Nat.mul_one]at q3;have q4:ab h b (2+i/64)=some (.int .u64 (x:Int)):=by rw[o.ld1,w4,e1];rfl
 have q5:=CW .i64 (i%64) (by omega);have h2:2^(i%64)<2^64:=Nat.pow_lt_pow_right (by omega) (by omega);have q6:=mW x (2^(i%64)) _ _ rfl rfl e2 (by simpa using h2);have jZ:bs.count true≤bs.length:=List.count_le_length;refine ag g212 rfl ?_;simp only[fn212,evs,↓reduceIte,Nat.reduceEqDiff,Nat.reduceAdd];refine aa (A1 f0 hi) ?_;rintro _ _ ⟨rfl,hh⟩;subst hh;by_cases hv:bs.getD i false=v
 ·simp only[evs,↓reduceIte,eq_true hv];rw[←hv,tw];exact⟨f0,Fr.refl w⟩
 ·simp only[evs,↓reduceIte,Nat.reduceEqDiff,eff,eq_false hv,q1,q2,q3,q4,q5,q6];refine ah (c':=flc bs.length (bs.count true) (ws.set (i/64) (x^^^2^(i%64)))) w o rfl rfl ?_ ?_
  ·rw[show V.cells (.int .u64 ((x^^^2^(i%64):Nat):Int))=[.int .u64 ((x^^^2^(i%64):Nat):Int)]from rfl,iX _ _ _ (by rw[c7,ok.len];omega),Dp]
  rintro h1 o1 F1 n1;have cs:=qJ bs i v hi hv;have okf:=ok.flip hi hn e1 hv;have ln:((bs.set i v).length:Int)=bs.length:=by simp
  cases v
  ·simp(disch:=omega) only[evs,↓reduceIte,Nat.reduceEqDiff,Nat.reduceAdd,DF,Nat.reduceSub,ai,q4,o1.ld1,flc];refine ah (c':=flc bs.length ((bs.count true:Int)-1) (ws.set (i/64) (x^^^2^(i%64)))) F1.wf o1 rfl rfl (un _ _ _ _) ?_;rintro h2 o2 F2 n2;simp only[evs];simp only[Bool.false_eq_true,if_false]at cs;refine⟨⟨_,by rw[ln,cs,show(bs.count true:Int)+-1=bs.count true-1 by omega];exact o2,okf,by simpa using hn⟩,F1.trans F2 w (fun x hx=>.inl hx) (fun x hx=>.inl hx),n2.trans n1⟩
  ·simp(disch:=omega) only[evs,↓reduceIte,Nat.reduceEqDiff,Nat.reduceAdd,DF,Nat.reduceSub,ai,q4,o1.ld1,flc];refine ah (c':=flc bs.length ((bs.count true:Int)+1) (ws.set (i/64) (x^^^2^(i%64)))) F1.wf o1 rfl rfl (un _ _ _ _) ?_;rintro h2 o2 F2 n2;simp only[evs];simp only[if_true]at cs;refine⟨⟨_,by rw[ln,cs];exact o2,okf,by simpa using hn⟩,F1.trans F2 w (fun x hx=>.inl hx) (fun x hx=>.inl hx),n2.trans n1⟩
def ut(n:Nat)(a k:Int):Int:=if a<0∨k<0∨n<a∨n-a<k then 4 else 0
theorem qC{h:Heap}{b:Nat}{bs:List Bool}{a k:Int}(f:Fl h b bs)(a0:-9223372036854775808≤a)(a1:a≤9223372036854775807):ao go 150 [.ptr b 0,.int .i64 a,.int .i64 k] h fun u h'=>u=.int .i64 (ut bs.length a k)∧h'=h:=by
 obtain⟨ws,o,ok,hn⟩:=f;have q:ab h b 0=some (.int .i64 (bs.length:Int)):=o.ld1 0;unfold ut;by_cases c1:a<0
 ·refine ag g150 rfl ?_;simp only[fn150,evs,↓reduceIte,Nat.reduceEqDiff,Nat.reduceAdd,c1];simp
 ·by_cases c2:k<0
  ·refine ag g150 rfl ?_;simp only[fn150,evs,↓reduceIte,Nat.reduceEqDiff,Nat.reduceAdd,c1,c2];simp
  ·by_cases c3:(bs.length:Int)<a
   ·refine ag g150 rfl ?_;simp only[fn150,evs,↓reduceIte,Nat.reduceEqDiff,Nat.reduceAdd,q,c1,c2,c3];simp
   ·by_cases c4:(bs.length:Int)-a<k
    ·refine ag g150 rfl ?_;simp(disch:=omega) only[fn150,evs,↓reduceIte,Nat.reduceEqDiff,Nat.reduceAdd,ai,q,c1,c2,c3,c4];simp
    ·refine ag g150 rfl ?_;simp(disch:=omega) only[fn150,evs,↓reduceIte,Nat.reduceEqDiff,Nat.reduceAdd,ai,q,c1,c2,c3,c4];simp
theorem Dt{h:Heap}{b:Nat}{bs:List Bool}{i:Int}{v:Bool}(w:WF h)(f:Fl h b bs)(a0:-9223372036854775808≤i)(a1:i≤9223372036854775807):ao go 178 [.ptr b 0,.int .i64 i,.bool v] h fun u h'=>
 (u=.int .i64 (if 0≤i∧i<bs.length then 0 else 4))∧Fl h' b (if 0≤i∧i<bs.length then bs.set i.toNat v else bs)∧Fr [b] h h'∧h'.next=h.next:=by
 refine ag g178 rfl ?_;simp only[fn178,evs,↓reduceIte,Nat.reduceEqDiff,Nat.reduceAdd];refine aa (qC f a0 a1) ?_;rintro _ _ ⟨rfl,hh⟩;subst hh;by_cases c:0≤i∧i<bs.length
 ·have e:ut bs.length i 1=0:=by unfold ut;rw[if_neg (by omega)]
  obtain⟨j,rfl⟩:∃j:Nat,i=j:=⟨i.toNat,by omega⟩;rw[e,if_pos c,if_pos c];simp only[evs,↓reduceIte,Nat.reduceEqDiff];refine aa (wZ w f (by omega)) ?_;rintro _ h1 ⟨rfl,f1,F1,n1⟩;simp only[evs,↓reduceIte,Int.toNat_natCast];exact⟨f1,F1,n1⟩
 ·have e:ut bs.length i 1=4:=by unfold ut;rw[if_pos (by omega)]
  rw[e,if_neg c,if_neg c];simp only[evs,↓reduceIte,Nat.reduceEqDiff,show¬(4:Int)=0 by omega];exact⟨f,Fr.refl w⟩
theorem Gm(h:Heap):WOK (List.replicate 64 0) []:=⟨by simp,fun k hk=>⟨0,by rw[List.getElem?_replicate,if_pos hk],by omega,fun j _=>by simp⟩⟩
theorem Du{h:Heap}(w:WF h):ao go 224 [.int .i64 0] h fun u h'=>∃b,u=.tup [.ptr b 0,.int .i64 0]∧h.next≤b∧Fl h' b []∧Fr [] h h':=by
 refine ag g224 rfl ?_;simp only[fn224,evs,↓reduceIte,Nat.reduceEqDiff,show¬(0:Int)<0 by omega,show¬(4096:Int)<0 by omega];exact⟨_,rfl,Nat.le_refl _,⟨List.replicate 64 0,Own.new w _,Gm h,by simp⟩,Fr.halloc w _⟩
theorem Sl.frb{h h':Heap}{esz:Nat}{v:V}{n:Nat}{cs:List V}{b:Nat}{c c':List V}(a:Sl h esz v n cs)(f:Fr [b] h h')(o:Own h b c)(o':Own h' b c')(hl:c'.length=c.length)(hd:cs≠[]→∃x∈cs,x∉c):Sl h' esz v n cs:=by
 obtain⟨e1,e2⟩:=a;have main:∀(bb oo:Nat),(∃d,Own h bb d∧oo+n*esz≤d.length∧cs=(d.drop oo).take (n*esz))→∃d,Own h' bb d∧oo+n*esz≤d.length∧cs=(d.drop oo).take (n*esz):=by
  rintro bb oo ⟨d,od,h1,h2⟩;by_cases e:bb=b
  ·subst e;have:=od.uniq o;subst this;by_cases hL:cs=[]
   ·subst hL;have:n*esz=0:=by simpa using e1.symm
    exact⟨c',o',by omega,by simp[this]⟩
   ·obtain⟨x,hx,hn⟩:=hd hL;rw[h2]at hx;exact absurd (List.mem_of_mem_drop (List.mem_of_mem_take hx)) hn
  ·exact⟨d,f.own _ _ (by simpa using e) od,h1,h2⟩
 refine⟨e1,?_⟩;cases v with
 |slice bb oo len cap=>obtain⟨x1,x2,x3⟩:=e2;exact⟨x1,x2,main bb oo x3⟩
 |sliceU bb oo len cap=>obtain⟨x1,x2,x3⟩:=e2;exact⟨x1,x2,main bb oo x3⟩
 |_=>exact e2
theorem Bools.frb{h h':Heap}{v:V}{bs:List Bool}{b:Nat}{n m n' m':Int}{ws ws':List Nat}(a:Bools h v bs)(f:Fr [b] h h')(o:Own h b (flc n m ws))(o':Own h' b (flc n' m' ws'))(hl:ws'.length=ws.length):Bools h' v bs:=by
 refine Sl.frb a f o o' (by simp[c7,hl]) fun hne=>?_;cases bs with
 |nil=>simp at hne
 |cons x bs=>exact⟨.bool x,by simp,by simp[flc,uw]⟩
theorem CL(bs:List Bool)(i:Nat)(x:Bool)(h:bs[i]? =some x):((bs.take i).map V.bool++List.replicate (bs.length-i) (V.bool false)).set i (V.bool x)=(bs.take (i+1)).map V.bool++List.replicate (bs.length-(i+1)) (V.bool false):=by
 have hi:i<bs.length:=by
  rcases Nat.lt_or_ge i bs.length with y|y
  ·exact y
  ·rw[List.getElem?_eq_none y]at h;cases h
 have hl:((bs.take i).map V.bool).length=i:=by simp;omega
 rw[List.set_append,if_neg (by omega),hl,Nat.sub_self,show bs.length-i=(bs.length-(i+1))+1 by omega,List.replicate_succ,List.set_cons_zero,List.take_add_one,h];simp
theorem A6{h:Heap}{b:Nat}{bs:List Bool}(w:WF h)(f:Fl h b bs):ao go 151 [.ptr b 0] h fun u h'=>Bools h' u bs∧(∃c,u=.slice c 0 bs.length bs.length∧h.next≤c)∧Fr [] h h':=by
 have f0:=f;obtain⟨ws,o,ok,hn⟩:=f;have q:ab h b 0=some (.int .i64 (bs.length:Int)):=o.ld1 0;refine ag g151 rfl ?_;simp only[fn151,evs,↓reduceIte,Nat.reduceEqDiff,q];refine(gw _ _ _ _ _ _ _ _ (by omega) (by omega) (by omega) (by omega)).2 ?_;simp only[Int.toNat_natCast];rw[tF];obtain⟨h1,e_h1⟩:∃h1,h1=halloc h (List.replicate bs.length (.bool false)):=⟨_,rfl⟩;have F_h1:Fr [] h h1:=e_h1▸Fr.halloc w _;have o_h1:Own h1 h.next (List.replicate bs.length (.bool false)):=e_h1▸Own.new w _;simp only[evs,↓reduceIte,←e_h1];refine aE (fun k env hh=>∃i:Nat,env.get 12=some (.int .i64 i)∧env.get 11=some (.int .i64 bs.length)∧env.get 3=some (.slice h.next 0 bs.length bs.length)∧env.get 0=some (.ptr b 0)∧i≤bs.length∧Fr [] h hh∧
  Own hh h.next ((bs.take i).map V.bool++List.replicate (bs.length-i) (.bool false))∧k=bs.length-i) bs.length (by omega) ?_ ?_
 ·exact⟨0,(by simp[T.get_set]),(by simp[T.get_set]),(by simp[T.get_set]),(by simp[T.get_set]),by omega,F_h1,by simpa using o_h1,rfl⟩
 ·rintro k env hh ⟨i,g12,g11,g3,g0,hi,F,oo,rfl⟩;by_cases hlt:(i:Int)<bs.length
  ·have ei:bs[i]? =some (bs.getD i false):=by simp[List.getD,show i<bs.length by omega]
   simp only[evs,↓reduceIte,Nat.reduceEqDiff,g12,g11,g0,hlt];refine aa (A1 (f0.fr F) (by omega)) ?_;rintro _ _ ⟨rfl,hh'⟩;subst hh';have ix:=iS 1 h.next 0 bs.length bs.length .i64 i (by omega) hlt;simp only[Int.toNat_natCast,Nat.mul_one,Nat.zero_add]at ix;simp only[evs,↓reduceIte,Nat.reduceEqDiff,g3,ix];refine ah (c':=(bs.take (i+1)).map V.bool++List.replicate (bs.length-(i+1)) (.bool false)) F.wf oo rfl rfl ?_ ?_
   ·show bo _ i [.bool (bs.getD i false)]=_;rw[iX _ _ _ (by simp;omega),CL bs i _ ei]
   rintro h2 o2 F2 n2;simp(disch:=omega) only[evs,↓reduceIte,Nat.reduceEqDiff,ai,g12];refine(aj _ _ _).2 ⟨bs.length-(i+1),by omega,i+1,(by simp[T.get_set]),(by simp[T.get_set,g11]),(by simp[T.get_set,g3]),(by simp[T.get_set,g0]),by omega,F.fresh F2 w (Nat.le_refl _),o2,rfl⟩
   done
  ·simp only[evs,↓reduceIte,Nat.reduceEqDiff,g12,g11,g3,hlt];have:i=bs.length:=by omega
   subst this;simp only[List.take_length,Nat.sub_self,List.replicate_zero,List.append_nil]at oo;exact⟨Sl.lit oo (by simp),⟨_,rfl,Nat.le_refl _⟩,F⟩
theorem wI(B:List Bool)(k:Nat)(x:Bool)(h:B[k]? =some x):(B.take k++List.replicate (B.length-k) false).set k x=B.take (k+1)++List.replicate (B.length-(k+1)) false:=by
 have hi:k<B.length:=by
  rcases Nat.lt_or_ge k B.length with y|y
  ·exact y
  ·rw[List.getElem?_eq_none y]at h;cases h
 have hl:(B.take k).length=k:=by simp;omega
 rw[List.set_append,if_neg (by omega),hl,Nat.sub_self,show B.length-k=(B.length-(k+1))+1 by omega,List.replicate_succ,List.set_cons_zero,List.take_add_one,h];simp
theorem Fl.falses{h:Heap}{b N:Nat}(o:Own h b (flc N 0 (List.replicate 64 0)))(hN:N≤4096):Fl h b (List.replicate N false):=by
 refine⟨List.replicate 64 0,by simpa[List.count_replicate]using o,⟨by simp,fun k hk=>⟨0,by rw[List.getElem?_replicate,if_pos hk],by omega,fun j _=>?_⟩⟩,by simpa using hN⟩;simp only[Nat.zero_testBit,List.getD_eq_getElem?_getD,List.getElem?_replicate];split<;>rfl
theorem Bools.noint{h:Heap}{v:V}{bs:List Bool}(a:Bools h v bs):∀k n,v≠.int k n:=by
 rintro k n rfl;exact a.2
theorem zn{h:Heap}{b:Nat}{bs0:List Bool}{vl:V}{Ls:List (V×List Bool)}(w:WF h)(f:Fl h b bs0)(a:Vals Prod.fst h vl Ls)(al:∀p∈Ls,Bools h p.1 p.2)(hN:(Ls.flatMap Prod.snd).length≤4096)(hl:Ls.length≤100):
 ao go 152 [.ptr b 0,vl] h fun u h'=>u=.tup []∧Fl h' b (Ls.flatMap Prod.snd)∧Fr [b] h h':=by
 obtain⟨ws,o,ok,hn⟩:=f;obtain⟨B,hB⟩:∃B,B=Ls.flatMap Prod.snd:=⟨_,rfl⟩;rw[←hB]at hN⊢;have stay:∀{hh:Heap}{n' m':Int}{ws':List Nat},Fr [b] h hh→Own hh b (flc n' m' ws')→ws'.length=64→Vals Prod.fst hh vl Ls∧∀p∈Ls,Bools hh p.1 p.2:=by
  intro hh n' m' ws' F o' hl';refine⟨Sl.frb a F o o' (by rw[c7,c7,hl',ok.len]) fun hne=>?_,fun p hp=>Bools.frb (al p hp) F o o' (by rw[hl',ok.len])⟩;cases Ls with
  |nil=>simp at hne
  |cons p Ls=>
   refine⟨p.1,by simp,?_⟩;have:=(al p (by simp)).noint;simp only[flc,List.mem_cons,List.mem_map,not_or,not_exists,not_and];exact⟨this _ _,this _ _,fun x _ hx=>this _ _ hx.symm⟩
 have stayF:∀{hh:Heap}{bs:List Bool},Fr [b] h hh→Fl hh b bs→Vals Prod.fst hh vl Ls∧∀p∈Ls,Bools hh p.1 p.2:=fun F⟨_,o',ok',_⟩=>stay F o' ok'.len;refine ag g152 rfl ?_;simp only[fn152,evs,↓reduceIte,Nat.reduceAdd];refine ah (c':=flc 0 0 (List.replicate 64 0)) w o rfl rfl ?_ ?_
 ·rw[cW _ _ _ (by rw[c7,ok.len];simp[V.cells])];simp only[List.take_zero,List.nil_append,V.cells];rw[List.drop_of_length_le (by rw[c7,ok.len];simp)];rfl
 rintro h1 o1 F1 n1;obtain⟨a1,al1⟩:=stay F1 o1 (by simp);simp only[evs,↓reduceIte,a1.len];refine aE (fun k env hh=>∃i:Nat,env.get 16=some (.int .i64 i)∧env.get 15=some (.int .i64 Ls.length)∧env.get 14=some vl∧env.get 0=some (.ptr b 0)∧env.get 1=some vl∧i≤Ls.length∧Fr [b] h hh∧
  Own hh b (flc ((Ls.take i).flatMap Prod.snd).length 0 (List.replicate 64 0))∧k=Ls.length-i) Ls.length (by omega) ?_ ?_
 ·exact⟨0,(by simp[T.get_set]),(by simp[T.get_set]),(by simp[T.get_set]),(by simp[T.get_set]),(by simp[T.get_set]),by omega,F1,by simpa using o1,rfl⟩
 rintro k env hh ⟨i,g16,g15,g14,g0,g1,hi,F,oo,rfl⟩;obtain⟨a2,al2⟩:=stay F oo (by simp);by_cases hlt:(i:Int)<Ls.length
 ·obtain⟨bb,po,p,e1,e2,e3⟩:=a2.ix .i64 i (by omega) hlt;simp only[Int.toNat_natCast]at e3;have lp:=al2 p (List.mem_of_getElem? e3);have tk:(Ls.take (i+1)).flatMap Prod.snd=(Ls.take i).flatMap Prod.snd++p.2:=by rw[List.take_add_one,e3];simp
  have hle:((Ls.take (i+1)).flatMap Prod.snd).length≤B.length:=by
   rw[hB];conv=>rhs;rw[←List.take_append_drop (i+1) Ls]
   rw[List.flatMap_append,List.length_append];omega
  rw[tk,List.length_append]at hle;simp(disch:=omega) only[evs,↓reduceIte,Nat.reduceEqDiff,ai,g16,g15,g14,g0,hlt,e1,e2,oo.ld1,flc,lp.len];refine ah (c':=flc ((Ls.take (i+1)).flatMap Prod.snd).length 0 (List.replicate 64 0)) F.wf oo rfl rfl ?_ ?_
  ·rw[tk,List.length_append,Int.natCast_add];exact A7 _ _ _ _
  rintro h2 o2 F2 n2;simp(disch:=omega) only[evs,↓reduceIte,Nat.reduceEqDiff,ai,g16];refine(aj _ _ _).2 ⟨Ls.length-(i+1),by omega,i+1,(by simp[T.get_set]),(by simp[T.get_set,g15]),(by simp[T.get_set,g14]),(by simp[T.get_set,g0]),(by simp[T.get_set,g1]),by omega,F.trans F2 w (fun x hx=>.inl hx) (fun x hx=>.inl hx),o2,rfl⟩
  done
 ·have:i=Ls.length:=by omega
  subst this;rw[List.take_length,←hB]at oo;have fl0:=Fl.falses oo hN;simp only[evs,↓reduceIte,Nat.reduceEqDiff,g16,g15,g1,hlt,a2.len];refine aE (fun k env hh=>∃j:Nat,env.get 32=some (.int .i64 j)∧env.get 31=some (.int .i64 Ls.length)∧env.get 30=some vl∧env.get 0=some (.ptr b 0)∧
   env.get 6=some (.int .i64 ((Ls.take j).flatMap Prod.snd).length)∧j≤Ls.length∧Fr [b] h hh∧Fl hh b (B.take ((Ls.take j).flatMap Prod.snd).length++List.replicate (B.length-((Ls.take j).flatMap Prod.snd).length) false)∧k=Ls.length-j) Ls.length (by omega) ?_ ?_
  ·exact⟨0,(by simp[T.get_set]),(by simp[T.get_set]),(by simp[T.get_set]),(by simp[T.get_set,g0]),(by simp[T.get_set]),by omega,F,by simpa using fl0,rfl⟩
  rintro k env hh ⟨j,g32,g31,g30,g0,g6,hj,F,fj,rfl⟩;obtain⟨a3,al3⟩:=stayF F fj;by_cases hlt:(j:Int)<Ls.length
  ·obtain⟨bb,po,p,e1,e2,e3⟩:=a3.ix .i64 j (by omega) hlt;simp only[Int.toNat_natCast]at e3;have lp:=al3 p (List.mem_of_getElem? e3);obtain⟨K,hK⟩:∃K,K=((Ls.take j).flatMap Prod.snd).length:=⟨_,rfl⟩;rw[←hK]at g6 fj;have tk:((Ls.take (j+1)).flatMap Prod.snd).length=K+p.2.length:=by rw[List.take_add_one,e3,hK];simp
   have eB:B=(Ls.take j).flatMap Prod.snd++(p.2++(Ls.drop (j+1)).flatMap Prod.snd):=by
    rw[hB];conv=>lhs;rw[←List.take_append_drop j Ls,aK e3]
    rw[List.flatMap_append,List.flatMap_cons]
   have lB:K+p.2.length≤B.length:=by rw[eB,List.length_append,List.length_append];omega
   have nB:∀q,q<p.2.length→B[K+q]? =p.2[q]? :=fun q hq=>by
    rw[eB,List.getElem?_append_right (by omega),List.getElem?_append_left (by omega)];congr 1;omega
   simp only[evs,↓reduceIte,Nat.reduceEqDiff,g32,g31,g30,hlt,e1,e2,lp.len];refine aE (fun k env' hh=>(∀s,s=32∨s=31∨s=30∨s=0→env'.get s=env.get s)∧∃q:Nat,env'.get 38=some (.int .i64 q)∧env'.get 37=some (.int .i64 p.2.length)∧env'.get 36=some p.1∧env'.get 6=some (.int .i64 ((K+q:Nat):Int))∧q≤p.2.length∧Fr [b] h hh∧
    Fl hh b (B.take (K+q)++List.replicate (B.length-(K+q)) false)∧k=p.2.length-q) p.2.length (by omega) ?_ ?_
   ·exact⟨fun s hs=>by rcases hs with rfl|rfl|rfl|rfl<;>simp[T.get_set],0,(by simp[T.get_set]),(by simp[T.get_set]),(by simp[T.get_set]),(by simp[T.get_set,g6]),by omega,F,by simpa using fj,rfl⟩
   rintro k env1 hh ⟨same,q,g38,g37,g36,g6',hq,F,fq,rfl⟩;have n32:=(same 32 (by simp)).trans g32;have n31:=(same 31 (by simp)).trans g31;have n30:=(same 30 (by simp)).trans g30;have n0:=(same 0 (by simp)).trans g0;obtain⟨a4,al4⟩:=stayF F fq;have lp4:=al4 p (List.mem_of_getElem? e3);by_cases hlt2:(q:Int)<p.2.length
   ·obtain⟨b5,p5,x,d1,d2,d3⟩:=lp4.ix .i64 q (by omega) hlt2;simp only[Int.toNat_natCast]at d3;simp only[evs,↓reduceIte,Nat.reduceEqDiff,n0,g38,g37,g36,g6',hlt2,d1,d2];refine aa (wZ F.wf fq (by simp;omega)) ?_;rintro _ h5 ⟨rfl,f5,F5,n5⟩;rw[wI B (K+q) x ((nB q (by omega)).trans d3)]at f5;simp(disch:=omega) only[evs,↓reduceIte,Nat.reduceEqDiff,ai,g38,g6'];refine(aj _ _ _).2 ⟨p.2.length-(q+1),by omega,fun s hs=>by rcases hs with rfl|rfl|rfl|rfl<;>simp[T.get_set,n32,n31,n30,n0,g32,g31,g30,g0],q+1,(by simp[T.get_set]),(by simp[T.get_set,g37]),(by simp[T.get_set,g36]),(by simp[T.get_set];omega),by omega,F.trans F5 w (fun x hx=>.inl hx) (fun x hx=>.inl hx),f5,rfl⟩
    done
   ·have:q=p.2.length:=by omega
    subst this;simp(disch:=omega) only[evs,↓reduceIte,Nat.reduceEqDiff,ai,n32,g38,g37,hlt2];refine(aj _ _ _).2 ⟨Ls.length-(j+1),by omega,j+1,(by simp[T.get_set]),(by simp[T.get_set,n31]),(by simp[T.get_set,n30]),(by simp[T.get_set,n0]),(by simp[T.get_set,g6',tk]),by omega,F,by rw[tk];exact fq,rfl⟩
    done
  ·have:j=Ls.length:=by omega
   subst this;rw[List.take_length,←hB]at fj;simp only[List.take_length,Nat.sub_self,List.replicate_zero,List.append_nil]at fj;simp only[evs,↓reduceIte,g32,g31,hlt];exact⟨fj,F⟩
theorem Al(n i:Nat)(v:Bool)(hi:i<n):((List.replicate i v).map V.bool++List.replicate (n-i) (V.bool false)).set i (V.bool v)=(List.replicate (i+1) v).map V.bool++List.replicate (n-(i+1)) (V.bool false):=by
 have hl:((List.replicate i v).map V.bool).length=i:=by simp
 rw[List.set_append,if_neg (by omega),hl,Nat.sub_self,show n-i=(n-(i+1))+1 by omega,List.replicate_succ,List.set_cons_zero,List.replicate_succ'];simp
theorem Vals.one{α:Type}{f:α→V}{h:Heap}{v:V}{l:List α}(a:Vals f h v l):v.one=true:=Sl.one a
theorem Dv{h:Heap}{b:Nat}{bs:List Bool}{a n:Nat}{v:Bool}(w:WF h)(f:Fl h b bs)(ha:a≤bs.length)(hn:n+bs.length≤4096):
 ao go 225 [.ptr b 0,.int .i64 (a:Int),.int .i64 (n:Int),.bool v] h fun u h'=>u=.int .i64 0∧Fl h' b (bs.take a++List.replicate n v++bs.drop a)∧Fr [b] h h':=by
 have f0:=f;obtain⟨ws,o,ok,hn0⟩:=f;have q:ab h b 0=some (.int .i64 (bs.length:Int)):=o.ld1 0;refine ag g225 rfl ?_;simp only[fn225,evs,↓reduceIte,Nat.reduceEqDiff,Nat.reduceAdd];refine aa (qC f0 (by omega) (by omega)) ?_;rintro _ _ ⟨rfl,hh⟩;replace hh:=hh.symm;subst hh;have e:ut bs.length a 0=0:=by unfold ut;rw[if_neg (by omega)]
 rw[e];simp(disch:=omega) only[evs,↓reduceIte,Nat.reduceEqDiff,ai,show¬(n:Int)<0 by omega,q,show¬4096-(bs.length:Int)<n by omega];refine(gw _ _ _ _ _ _ _ _ (by omega) (by omega) (by omega) (by omega)).2 ?_;simp only[Int.toNat_natCast];rw[tF];obtain⟨h0,e0⟩:∃h0,h0=h:=⟨h,rfl⟩;subst e0;obtain⟨h1,e_h1⟩:∃h1,h1=halloc h0 (List.replicate n (V.bool false)):=⟨_,rfl⟩;have F_h1:Fr [] h0 h1:=e_h1▸Fr.halloc w _;have o_h1:Own h1 h0.next (List.replicate n (V.bool false)):=e_h1▸Own.new w _;rw[←e_h1];simp only[evs,↓reduceIte];refine aE (fun k env hh=>∃i:Nat,env.get 34=some (.int .i64 i)∧env.get 33=some (.int .i64 n)∧env.get 10=some (.slice h0.next 0 n n)∧env.get 0=some (.ptr b 0)∧env.get 1=some (.int .i64 a)∧env.get 3=some (.bool v)∧i≤n∧Fr [] h0 hh∧
  Own hh h0.next ((List.replicate i v).map V.bool++List.replicate (n-i) (V.bool false))∧k=n-i) n (by omega) ?_ ?_
 ·exact⟨0,(by simp[T.get_set]),(by simp[T.get_set]),(by simp[T.get_set]),(by simp[T.get_set]),(by simp[T.get_set]),(by simp[T.get_set]),by omega,F_h1,by simpa using o_h1,rfl⟩
 ·rintro k env hh ⟨i,g34,g33,g10,g0,g1,g3,hi,F,oo,rfl⟩;by_cases hlt:(i:Int)<n
  ·have ix:=iS 1 h0.next 0 n n .i64 i (by omega) hlt;simp only[Int.toNat_natCast,Nat.mul_one,Nat.zero_add]at ix;simp only[evs,↓reduceIte,Nat.reduceEqDiff,g34,g33,g10,g3,hlt,ix];refine ah (c':=(List.replicate (i+1) v).map V.bool++List.replicate (n-(i+1)) (V.bool false)) F.wf oo rfl rfl ?_ ?_
   ·show bo _ i [.bool v]=_;rw[iX _ _ _ (by simp;omega),Al _ _ _ (by omega)]
   rintro h2 o2 F2 n2;simp(disch:=omega) only[evs,↓reduceIte,Nat.reduceEqDiff,ai,g34];refine(aj _ _ _).2 ⟨n-(i+1),by omega,i+1,(by simp[T.get_set]),(by simp[T.get_set,g33]),(by simp[T.get_set,g10]),(by simp[T.get_set,g0]),(by simp[T.get_set,g1]),(by simp[T.get_set,g3]),by omega,F.fresh F2 w (Nat.le_refl _),o2,rfl⟩
   done
  ·have:i=n:=by omega
   subst this;simp only[Nat.sub_self,List.replicate_zero,List.append_nil]at oo;have bm:Bools hh (.slice h0.next 0 i i) (List.replicate i v):=by
    have:=Sl.lit (esz:=1) (n:=i) oo (by simp);show Sl hh 1 _ _ _;simpa using this
   simp only[evs,↓reduceIte,Nat.reduceEqDiff,g34,g33,g0,hlt];refine aa (A6 F.wf (f0.fr F)) ?_;rintro _ h2 ⟨bl,⟨c,rfl,hcnew⟩,F2⟩;obtain⟨v1,s1,b1⟩:=bl.upto (by simp) .i64 a (by omega) (by omega);obtain⟨v3,s3,b3⟩:=bl.from' (by simp) .i64 a (by omega) (by omega);simp only[Int.toNat_natCast]at b1 b3;have c1:=aB (Vals.one b1);have c3:=aB (Vals.one b3);obtain⟨h3,e_h3⟩:∃h3,h3=halloc h2 [v1,.slice h0.next 0 i i,v3]:=⟨_,rfl⟩;have F_h3:Fr [] h2 h3:=e_h3▸Fr.halloc F2.wf _;have o_h3:Own h3 h2.next [v1,.slice h0.next 0 i i,v3]:=e_h3▸Own.new F2.wf _;have e3:halloc h2 [v1,.slice h0.next 0 i i,v3]=h3:=e_h3.symm;simp only[evs,↓reduceIte,Nat.reduceEqDiff,eff,g10,g0,g1,s1,s3,c1,c3,e3];have F03:=(F.then F2).then F_h3;refine aa (zn (Ls:=[(v1,bs.take a),(.slice h0.next 0 i i,List.replicate i v),(v3,bs.drop a)]) F_h3.wf (f0.fr F03) (Sl.lit (n:=3) o_h3 rfl) ?_ ?_ (by simp)) ?_
   ·intro p hp;simp only[List.mem_cons,List.not_mem_nil,or_false]at hp;rcases hp with rfl|rfl|rfl
    ·exact b1.fr F_h3
    ·exact bm.fr (F2.then F_h3)
    ·exact b3.fr F_h3
   ·simp;omega
   rintro _ h4 ⟨rfl,f4,F4⟩;simp only[evs,↓reduceIte,Nat.reduceAdd,DF];refine⟨by simpa[List.flatMap_cons]using f4,F03.trans F4 w (by simp) (fun x hx=>.inl hx)⟩
def Glb(h:Heap):Prop:=Pl h 0 HF
theorem Ft(n:Nat):aY .u64 (n:Int)=((n%18446744073709551616:Nat):Int):=by
 rw[di];simp only[IntKind.wrap,IntKind.bits,IntKind.signed];simp
theorem GC(x y:Nat)(b:Int)(hb:b=y):aP (.ib .mul) [.int .u64 (x:Int),.int .u64 b]=some (.int .u64 ((x*y%18446744073709551616:Nat):Int)):=by
 subst hb;rw[wx,←Int.natCast_mul,Ft]
theorem BZ(l:List V)(k:IntKind)(n i:Nat)(hi:i<n):aP (.ixarr n 1 false) [.agg l,.int k (i:Int)]=nth l i:=by
 have:iR (.int k (i:Int)) n=some i:=by
  show(bif Nat.blt i n then some i else none)=_;rw[(Nat.blt_eq ..).mpr hi];rfl
 simp only[aP,this,Option.bind_some,cond_false,Nat.mul_one]
def Sel(bs:List Bool)(k p:Nat):Prop:=p<bs.length∧bs.getD p false=true∧(bs.take p).count true=k
def Mk(h:Heap)(pm:Option Nat)(bs:List Bool):Prop:=match pm with
 |none=>bs=[]
 |some c=>Fl h c bs
theorem Mk.fr{h h':Heap}{pm:Option Nat}{bs:List Bool}(a:Mk h pm bs)(f:Fr [] h h'):Mk h' pm bs:=by
 cases pm with
 |none=>exact a
 |some c=>exact Fl.fr a f
def Lo(h:Heap)(b:Nat)(l:List Int)(ks bs:List Bool):Prop:=∃p vk pm,Own h b [pv p,vk,pv pm]∧vk.one=true∧Ix h (.agg [pv p,vk]) l ks∧Mk h pm bs∧bs.length=l.length
theorem Lo.fr{h h':Heap}{b:Nat}{l:List Int}{ks bs:List Bool}(a:Lo h b l ks bs)(f:Fr [] h h'):Lo h' b l ks bs:=by
 obtain⟨p,vk,pm,o,v1,ix,mk,e⟩:=a;exact⟨p,vk,pm,f.get o,v1,ix.fr f,mk.fr f,e⟩
theorem Glb.fr{h h':Heap}(a:Glb h)(f:Fr [] h h'):Glb h':=f.pl _ _ (by simp) a
theorem D4{h:Heap}{b:Nat}{l:List Int}{ks bs:List Bool}(w:WF h)(a:Lo h b l ks bs):ao go 62 [.ptr b 0] h fun u h'=>u=.int .i64 l.length∧Fr [] h h':=by
 obtain⟨p,vk,pm,o,v1,ix,mk,e⟩:=a;refine ag g62 rfl ?_;simp only[fn62,evs,↓reduceIte,Nat.reduceEqDiff,o.ld];refine aa (gZ w ix) ?_;rintro _ h2 ⟨rfl,F2⟩;simp only[evs,↓reduceIte];exact F2
theorem Ix.rp{h:Heap}{p:Option Nat}{vk:V}{l:List Int}{ks:List Bool}(a:Ix h (.agg [pv p,vk]) l ks):Rp h (.agg [pv p]) l:=by
 obtain⟨p',vk',L,e,r,_⟩:=a;simp only[V.agg.injEq,List.cons.injEq,and_true]at e;rw[e.1];exact r
theorem zM{h:Heap}{b:Nat}{l:List Int}{ks bs:List Bool}(w:WF h)(a:Lo h b l ks bs):ao go 14 [.ptr b 0] h fun u h'=>u=.int .i64 l.sum∧Fr [] h h':=by
 obtain⟨p,vk,pm,o,v1,ix,mk,e⟩:=a;have r:=ix.rp;refine ag g14 rfl ?_;simp only[fn14,evs,↓reduceIte,Nat.reduceEqDiff,o.ld];refine aa (kV w r) ?_;rintro _ h2 ⟨rfl,F2⟩;simp only[evs,↓reduceIte];exact F2
theorem CA{h:Heap}{b:Nat}{l:List Int}{ks bs:List Bool}{i:Int}(w:WF h)(a:Lo h b l ks bs):
 ao go 76 [.ptr b 0,.int .i64 i] h fun u h'=>(u=if 0≤i∧i<l.length then .tup [.int .i64 (l.getD i.toNat 0),.int .i64 0]else .tup [.int .i64 0,.int .i64 4])∧Fr [] h h':=by
 obtain⟨p,vk,pm,o,v1,ix,mk,e⟩:=a;refine ag g76 rfl ?_;simp only[fn76,evs,↓reduceIte,Nat.reduceEqDiff,Nat.reduceAdd,o.ld];refine aa (Ca w ix) ?_;rintro _ h2 ⟨rfl,F2⟩;by_cases c:0≤i∧i<l.length
 ·simp only[if_pos c];simp only[evs,↓reduceIte,Nat.reduceEqDiff];exact F2
 ·simp only[if_neg c];simp only[evs,↓reduceIte,Nat.reduceEqDiff];exact F2
theorem zP{h:Heap}{b:Nat}{l:List Int}{ks bs:List Bool}{i:Int}(w:WF h)(a:Lo h b l ks bs):
 ao go 77 [.ptr b 0,.int .i64 i] h fun u h'=>(u=if 0≤i∧i<l.length then .tup [.bool (ks.getD i.toNat false),.int .i64 0]else .tup [.bool false,.int .i64 4])∧Fr [] h h':=by
 obtain⟨p,vk,pm,o,v1,ix,mk,e⟩:=a;refine ag g77 rfl ?_;simp only[fn77,evs,↓reduceIte,Nat.reduceEqDiff,Nat.reduceAdd,o.ld];refine aa (zA w ix) ?_;rintro _ h2 ⟨rfl,F2⟩;by_cases c:0≤i∧i<l.length
 ·simp only[if_pos c];simp only[evs,↓reduceIte,Nat.reduceEqDiff];exact F2
 ·simp only[if_neg c];simp only[evs,↓reduceIte,Nat.reduceEqDiff];exact F2
def okF(view over:Int):Prop:=1≤view∧view≤2147483648∧0≤over∧over≤16
instance(view over:Int):Decidable (okF view over):=by unfold okF;infer_instance
def HeadS(l:List Int)(bs:List Bool)(s r e:Int):Prop:=
 if l=[]∧s=0 then r=0∧e=11 else if 0≤s∧s<l.sum then if(bs.take ((rZ l s).1+1)).count true=0 then r=0∧e=11 else e=0∧∃p:Nat,r=p∧Sel bs ((bs.take ((rZ l s).1+1)).count true-1) p else r=0∧e=4
theorem HeadS.zero{l:List Int}{bs:List Bool}{s r e:Int}(a:HeadS l bs s r e)(h:e=0):0≤s∧s<l.sum∧∃p:Nat,r=p∧p<bs.length:=by
 unfold HeadS at a;split at a
 ·omega
 ·split at a
  ·rename_i c;split at a
   ·omega
   ·obtain⟨_,p,e1,e2⟩:=a;exact⟨c.1,c.2,p,e1,e2.1⟩
  ·omega
structure FrF(b:Nat)(h h':Heap):Prop where
 next:h.next≤h'.next
 wf:WF h'
 own:∀x c,x≠b→(∀n m ws,ws.length=64→c≠flc n m ws)→Own h x c→Own h' x c
 pl:∀x c,x≠b→(∀n m ws,ws.length=64→c≠flc n m ws)→Pl h x c→Pl h' x c
 ro:∀x c,Rs h x c→Rs h' x c
theorem FrF.trans{b:Nat}{h h1 h2:Heap}(a:FrF b h h1)(c:FrF b h1 h2):FrF b h h2:=
 ⟨Nat.le_trans a.next c.next,c.wf,fun x d hx hd o=>c.own x d hx hd (a.own x d hx hd o),fun x d hx hd o=>c.pl x d hx hd (a.pl x d hx hd o),fun x d r=>c.ro x d (a.ro x d r)⟩
theorem D3{h:Heap}(w:WF h):ao go 43 [] h fun u h'=>∃b,u=.ptr b 0∧h.next≤b∧Lo h' b [] [] []∧Own h' b [.nilp,.nils,.nilp]∧Fr [] h h':=by
 refine ag g43 rfl ?_;simp only[fn43,evs,↓reduceIte];refine⟨_,rfl,Nat.le_refl _,⟨none,.nils,none,Own.new w _,rfl,⟨none,.nils,[],rfl,⟨.nil,none,rfl,rfl,rfl,by simp,by simp,by simp⟩,.inl ⟨rfl,rfl⟩,⟨trivial,by simp,fun i=>by simp[inS]⟩,rfl,by simp⟩,rfl,rfl⟩,Own.new w _,Fr.halloc w _⟩
theorem Ix.frb{h h':Heap}{v:V}{l:List Int}{ks:List Bool}{b:Nat}{c:List V}(a:Ix h v l ks)(f:Fr [b] h h')(o:Own h b c)(h6:c.length≠6)(hc:∀L:List (Int×Int),0<L.length→c≠L.flatMap sp):Ix h' v l ks:=by
 obtain⟨p,vk,L,e,r,s,x⟩:=a;exact⟨p,vk,L,e,r.frb f o h6,s.frb f o hc,x⟩
theorem Ix.frf{h h':Heap}{v:V}{l:List Int}{ks:List Bool}{b:Nat}{bs:List Bool}(a:Ix h v l ks)(f:Fr [b] h h')(fl:Fl h b bs):Ix h' v l ks:=by
 obtain⟨ws,o,ok,_⟩:=fl;refine a.frb f o (by rw[c7,ok.len];omega) fun L p e=>?_;have hm:∀x∈flc (bs.length:Int) (bs.count true:Int) ws,∃n,x=.int .i64 n:=by
  rw[e];intro x hx;simp only[List.mem_flatMap,sp]at hx;obtain⟨s,_,hx⟩:=hx;simp at hx;rcases hx with rfl|rfl<;>exact⟨_,rfl⟩
 cases ws with
 |nil=>have:=ok.len;simp at this
 |cons y ws=>
  obtain⟨n,hn⟩:=hm (uw y) (by simp[flc]);simp[uw]at hn
theorem wN{p:Option Nat}{vk:V}{pm:Option Nat}(hvk:∀k n,vk≠.int k n):∀x∈[pv p,vk,pv pm],∀k n,x≠.int k n:=by
 intro x hx k n;simp only[List.mem_cons,List.not_mem_nil,or_false]at hx;rcases hx with rfl|rfl|rfl
 ·cases p<;>simp[pv]
 ·exact hvk k n
 ·cases pm<;>simp[pv]
theorem Ix.noint{h:Heap}{p:Option Nat}{vk:V}{l:List Int}{ks:List Bool}(a:Ix h (.agg [pv p,vk]) l ks):∀k n,vk≠.int k n:=by
 obtain⟨p',vk',L,e,r,s,_⟩:=a;simp only[V.agg.injEq,List.cons.injEq,and_true]at e;obtain⟨_,rfl⟩:=e;exact s.noint
theorem Ix.form{h:Heap}{c d:V}{l:List Int}{ks:List Bool}(a:Ix h (.agg [c,d]) l ks):∃p,c=pv p:=by
 obtain⟨p',vk',L,e,_⟩:=a;simp only[V.agg.injEq,List.cons.injEq,and_true]at e;exact⟨p',e.1⟩
theorem Mk.frb{h h':Heap}{pm:Option Nat}{bs:List Bool}{b:Nat}{c:List V}(a:Mk h pm bs)(f:Fr [b] h h')(o:Own h b c)(h3:c.length=3):Mk h' pm bs:=by
 cases pm with
 |none=>exact a
 |some q=>
  obtain⟨ws,oq,ok,hn⟩:=a;refine⟨ws,f.own _ _ ?_ oq,ok,hn⟩;simp only[List.mem_singleton];rintro rfl;have:=oq.uniq o;subst this;rw[c7,ok.len]at h3;omega
theorem Bools.frl{h h':Heap}{v:V}{bs:List Bool}{b:Nat}{c c':List V}(a:Bools h v bs)(f:Fr [b] h h')(o:Own h b c)(o':Own h' b c')(hc:∀x,V.bool x∉c)(hl:c'.length=c.length):Bools h' v bs:=by
 refine Sl.frb a f o o' hl fun hne=>?_;cases bs with
 |nil=>simp at hne
 |cons x bs=>exact⟨.bool x,by simp,hc x⟩
theorem nobool{p:Option Nat}{vk:V}{pm:Option Nat}(h:∀x,vk≠V.bool x):∀x,V.bool x∉[pv p,vk,pv pm]:=by
 intro x hx;simp only[List.mem_cons,List.not_mem_nil,or_false]at hx;rcases hx with e|e|e
 ·cases p<;>simp[pv]at e
 ·exact h x e.symm
 ·cases pm<;>simp[pv]at e
theorem SpF.nobool{h:Heap}{v:V}{L:List (Int×Int)}(a:SpF h v L):∀x,v≠V.bool x:=by
 rcases a with⟨rfl,_⟩|⟨b,rfl,_⟩<;>simp
theorem Ix.nobool{h:Heap}{p:Option Nat}{vk:V}{l:List Int}{ks:List Bool}(a:Ix h (.agg [pv p,vk]) l ks):∀x,vk≠V.bool x:=by
 obtain⟨p',vk',L,e,r,s,_⟩:=a;simp only[V.agg.injEq,List.cons.injEq,and_true]at e;obtain⟨_,rfl⟩:=e;exact s.nobool
theorem Dk{bs st:List Bool}{i j:Nat}(hi:i≤bs.length)(x:Bool)(hx:st[j]? =some x):
 (bs.take i++(st.take j++List.replicate (st.length-j) false)++bs.drop i).set (i+j) x=bs.take i++(st.take (j+1)++List.replicate (st.length-(j+1)) false)++bs.drop i:=by
 have hj:j<st.length:=by
  rcases Nat.lt_or_ge j st.length with y|y
  ·exact y
  ·rw[List.getElem?_eq_none y]at hx;cases hx
 have hl:(bs.take i).length=i:=by simp;omega
 rw[List.append_assoc,List.set_append,if_neg (by omega),hl,Nat.add_sub_cancel_left,List.set_append,if_pos (by simp;omega),wI st j x hx,List.append_assoc,List.append_assoc,List.append_assoc]
theorem yM{bs st:List Bool}{i j:Nat}(hx:st[j]? =some false):bs.take i++(st.take j++List.replicate (st.length-j) false)++bs.drop i=bs.take i++(st.take (j+1)++List.replicate (st.length-(j+1)) false)++bs.drop i:=by
 have hj:j<st.length:=by
  rcases Nat.lt_or_ge j st.length with y|y
  ·exact y
  ·rw[List.getElem?_eq_none y]at hx;cases hx
 rw[List.take_add_one,hx,show st.length-j=(st.length-(j+1))+1 by omega,List.replicate_succ];simp
end Go.Ev.Lay
namespace Go.Ev.St
abbrev aS:=Nat×Nat×Nat
def pth(a n j:Nat):Nat:=(a+j)%n
theorem rT{a n j:Nat}(h:0<n):pth a n j<n:=Nat.mod_lt _ h
theorem Ax(a n j:Nat):(pth a n j+1)%n=pth a n (j+1):=by
 unfold pth;rw[Nat.mod_add_mod,Nat.add_assoc]
theorem Aw(a n:Nat):pth a n 0=a%n:=by simp[pth]
theorem Ay{a n i:Nat}(h:i<n):∃j,j<n∧pth a n j=i:=by
 refine⟨(i+(n-a%n))%n,Nat.mod_lt _ (by omega),?_⟩;unfold pth;have h1:a%n<n:=Nat.mod_lt _ (by omega);rw[Nat.add_mod_mod,←Nat.mod_add_mod,show a%n+(i+(n-a%n))=i+n by omega,Nat.add_mod_right,Nat.mod_eq_of_lt h]
structure Opn(mx:Nat→Nat)(sl:List aS):Prop where
 st:∀s∈sl,s.1=0∨s.1=1∨s.1=2
 uniq:∀i j k v w:Nat,sl[i]? =some (1,k,v)→sl[j]? =some (1,k,w)→i=j
 path:∀i k v:Nat,sl[i]? =some (1,k,v)→∃j,j<sl.length∧pth (mx k) sl.length j=i∧∀j',j'<j→∀s,sl[pth (mx k) sl.length j']? =some s→s.1≠0
 room:∃(i:Nat)(s:aS),sl[i]? =some s∧s.1=0
structure Looked(mx:Nat→Nat)(sl:List aS)(k at':Nat)(found:Bool):Prop where
 lt:at'<sl.length
 yes:found=true→∃v,sl[at']? =some (1,k,v)
 no:found=false→(∀i v:Nat,sl[i]? ≠some (1,k,v))∧(∃s:aS,sl[at']? =some s∧s.1≠1)∧∃j,j<sl.length∧pth (mx k) sl.length j=at'∧∀j',j'<j→∀s,sl[pth (mx k) sl.length j']? =some s→s.1≠0
structure Seek(mx:Nat→Nat)(sl:List aS)(k j:Nat)(g:Option Nat):Prop where
 jl:j<sl.length
 seen:∀j',j'<j→∀s,sl[pth (mx k) sl.length j']? =some s→s.1≠0∧¬(s.1=1∧s.2.1=k)
 grave:∀x,g=some x→x<sl.length∧∃j0,j0<j∧pth (mx k) sl.length j0=x∧∃s,sl[x]? =some s∧s.1=2
variable {mx : Nat → Nat} {sl : List aS} {k j : Nat} {g : Option Nat}
theorem Opn.pos(o:Opn mx sl):0<sl.length:=by
 obtain⟨i,s,h,_⟩:=o.room;have:=(List.getElem?_eq_some_iff.1 h).1;omega
theorem Seek.start(o:Opn mx sl)(k:Nat):Seek mx sl k 0 none:=⟨o.pos,fun _ h=>by omega,fun _ h=>by cases h⟩
theorem Seek.found(q:Seek mx sl k j g){v:Nat}(h:sl[pth (mx k) sl.length j]? =some (1,k,v)):Looked mx sl k (pth (mx k) sl.length j) true:=
 ⟨rT (by have:=q.jl;omega),fun _=>⟨v,h⟩,fun e=>by cases e⟩
theorem Seek.absent(o:Opn mx sl)(q:Seek mx sl k j g){s:aS}(h:sl[pth (mx k) sl.length j]? =some s)(h0:s.1=0)(i v:Nat):sl[i]? ≠some (1,k,v):=by
 intro hi;obtain⟨j1,l1,e1,p1⟩:=o.path i k v hi;rcases Nat.lt_trichotomy j1 j with c|c|c
 ·have:=(q.seen j1 c (1,k,v) (by rw[e1];exact hi)).2;exact this ⟨rfl,rfl⟩
 ·subst c;rw[e1,hi]at h;cases h;cases h0
 ·exact p1 j c s h h0
theorem Seek.free(o:Opn mx sl)(q:Seek mx sl k j g){s:aS}(h:sl[pth (mx k) sl.length j]? =some s)(h0:s.1=0):Looked mx sl k (g.getD (pth (mx k) sl.length j)) false:=by
 cases g with
 |none=>exact⟨rT o.pos,fun e=>(by cases e),fun _=>⟨q.absent o h h0,⟨s,h,by omega⟩,j,q.jl,rfl,fun j' hj s hs=>(q.seen j' hj s hs).1⟩⟩
 |some x=>
  obtain⟨l1,j0,l2,e,s',h1,h2⟩:=q.grave x rfl;have:=q.jl;exact⟨l1,fun e=>(by cases e),fun _=>⟨q.absent o h h0,⟨s',h1,by omega⟩,j0,by omega,e,fun j' hj s hs=>(q.seen j' (by omega) s hs).1⟩⟩
theorem Seek.next(o:Opn mx sl)(q:Seek mx sl k j g){s:aS}(h:sl[pth (mx k) sl.length j]? =some s)(h0:s.1≠0)(h1:¬(s.1=1∧s.2.1=k)):
 Seek mx sl k (j+1) (if s.1=2∧g=none then some (pth (mx k) sl.length j)else g):=by
 have jl:=q.jl;have seen:∀j',j'<j+1→∀s,sl[pth (mx k) sl.length j']? =some s→s.1≠0∧¬(s.1=1∧s.2.1=k):=by
  intro j' hj s' hs;by_cases c:j'=j
  ·subst c;rw[h]at hs;cases hs;exact⟨h0,h1⟩
  ·exact q.seen j' (by omega) s' hs
 refine⟨?_,seen,?_⟩
 ·rcases Nat.lt_or_ge (j+1) sl.length with c|c
  ·exact c
  ·exfalso;obtain⟨i,s',hi,h'⟩:=o.room;obtain⟨j',l',e⟩:=Ay (a:=mx k) (List.getElem?_eq_some_iff.1 hi).1;exact(seen j' (by omega) s' (by rw[e];exact hi)).1 h'
 ·intro x hx;by_cases c:s.1=2∧g=none
  ·rw[if_pos c]at hx;cases hx;exact⟨rT o.pos,j,by omega,rfl,s,h,c.1⟩
  ·rw[if_neg c]at hx;obtain⟨l1,j0,l2,e⟩:=q.grave x hx;exact⟨l1,j0,by omega,e⟩
theorem dq(sl:List aS)(a i:Nat)(x s:aS)(h:(sl.set a x)[i]? =some s):(i=a∧s=x∧a<sl.length)∨(i≠a∧sl[i]? =some s):=by
 by_cases c:i=a
 ·subst c;have hl:=(List.getElem?_eq_some_iff.1 h).1;rw[List.length_set]at hl;rw[List.getElem?_set_self hl]at h;cases h;exact .inl ⟨rfl,rfl,hl⟩
 ·rw[List.getElem?_set_ne (Ne.symm c)]at h;exact .inr ⟨c,h⟩
theorem gH{sl:List aS}{a:Nat}(x:aS)(h:a<sl.length):(sl.set a x)[a]? =some x:=List.getElem?_set_self h
theorem Opn.put(o:Opn mx sl){a:Nat}(q:Looked mx sl k a false)(v:Nat)(hr:∃(i:Nat)(s:aS),i≠a∧sl[i]? =some s∧s.1=0):Opn mx (sl.set a (1,k,v)):=by
 obtain⟨no,⟨s0,hs0,h0⟩,j,jl,je,jp⟩:=q.no rfl;refine⟨?_,?_,?_,?_⟩
 ·intro s hs;rcases List.mem_or_eq_of_mem_set hs with h|rfl
  ·exact o.st s h
  ·exact .inr (.inl rfl)
 ·intro i i' k' v' w' hi hi';rcases dq _ _ _ _ _ hi with⟨e1,e,_⟩|⟨c,h1⟩<;>rcases dq _ _ _ _ _ hi' with⟨e2,e',_⟩|⟨c',h2⟩
  ·rw[e1,e2]
  ·cases e;exact absurd h2 (no _ _)
  ·cases e';exact absurd h1 (no _ _)
  ·exact o.uniq _ _ _ _ _ h1 h2
 ·intro i k' v' hi;rw[List.length_set];rcases dq _ _ _ _ _ hi with⟨rfl,e,_⟩|⟨c,hi⟩
  ·cases e;refine⟨j,jl,je,fun j' hj s hs=>?_⟩;rcases dq _ _ _ _ _ hs with⟨_,rfl,_⟩|⟨_,hs⟩
   ·simp
   ·exact jp j' hj s hs
  ·obtain⟨j1,l1,e1,p1⟩:=o.path i k' v' hi;refine⟨j1,l1,e1,fun j' hj s hs=>?_⟩;rcases dq _ _ _ _ _ hs with⟨_,rfl,_⟩|⟨_,hs⟩
   ·simp
   ·exact p1 j' hj s hs
 ·obtain⟨i,s,c,hi,hs⟩:=hr;exact⟨i,s,by rw[List.getElem?_set_ne (Ne.symm c)];exact hi,hs⟩
theorem Opn.change(o:Opn mx sl){a w:Nat}(h:sl[a]? =some (1,k,w))(v:Nat):Opn mx (sl.set a (1,k,v)):=by
 have key:∀i k' v':Nat,(sl.set a (1,k,v))[i]? =some (1,k',v')→∃w',sl[i]? =some (1,k',w'):=by
  intro i k' v' hi;rcases dq _ _ _ _ _ hi with⟨rfl,e,_⟩|⟨c,hi⟩
  ·cases e;exact⟨w,h⟩
  ·exact⟨v',hi⟩
 have nz:∀(i:Nat)(s:aS),(sl.set a (1,k,v))[i]? =some s→(∀s',sl[i]? =some s'→s'.1≠0)→s.1≠0:=by
  intro i s hs hz;rcases dq _ _ _ _ _ hs with⟨_,rfl,_⟩|⟨_,hs⟩
  ·simp
  ·exact hz s hs
 refine⟨?_,?_,?_,?_⟩
 ·intro s hs;rcases List.mem_or_eq_of_mem_set hs with h|rfl
  ·exact o.st s h
  ·exact .inr (.inl rfl)
 ·intro i i' k' v' w' hi hi';obtain⟨_,h1⟩:=key _ _ _ hi;obtain⟨_,h2⟩:=key _ _ _ hi';exact o.uniq _ _ _ _ _ h1 h2
 ·intro i k' v' hi;rw[List.length_set];obtain⟨_,h1⟩:=key _ _ _ hi;obtain⟨j1,l1,e1,p1⟩:=o.path _ _ _ h1;exact⟨j1,l1,e1,fun j' hj s hs=>nz _ _ hs (p1 j' hj)⟩
 ·obtain⟨i,s,hi,hs⟩:=o.room;refine⟨i,s,?_,hs⟩;rw[List.getElem?_set_ne]
  ·exact hi
  ·rintro rfl;rw[h]at hi;cases hi;cases hs
theorem Opn.drop(o:Opn mx sl){a w:Nat}(h:sl[a]? =some (1,k,w))(x y:Nat):Opn mx (sl.set a (2,x,y)):=by
 have key:∀i k' v':Nat,(sl.set a (2,x,y))[i]? =some (1,k',v')→sl[i]? =some (1,k',v'):=by
  intro i k' v' hi;rcases dq _ _ _ _ _ hi with⟨rfl,e,_⟩|⟨c,hi⟩
  ·cases e
  ·exact hi
 refine⟨?_,?_,?_,?_⟩
 ·intro s hs;rcases List.mem_or_eq_of_mem_set hs with h|rfl
  ·exact o.st s h
  ·exact .inr (.inr rfl)
 ·intro i i' k' v' w' hi hi';exact o.uniq _ _ _ _ _ (key _ _ _ hi) (key _ _ _ hi')
 ·intro i k' v' hi;rw[List.length_set];obtain⟨j1,l1,e1,p1⟩:=o.path _ _ _ (key _ _ _ hi);refine⟨j1,l1,e1,fun j' hj s hs=>?_⟩;rcases dq _ _ _ _ _ hs with⟨_,rfl,_⟩|⟨_,hs⟩
  ·simp
  ·exact p1 j' hj s hs
 ·obtain⟨i,s,hi,hs⟩:=o.room;refine⟨i,s,?_,hs⟩;rw[List.getElem?_set_ne]
  ·exact hi
  ·rintro rfl;rw[h]at hi;cases hi;cases hs
theorem Opn.zero(mx:Nat→Nat)(n:Nat)(h:0<n):Opn mx (List.replicate n (0,0,0)):=by
 have e:∀(i:Nat)(s:aS),(List.replicate n ((0,0,0):aS))[i]? =some s→s=(0,0,0):=fun i s hs=>List.eq_of_mem_replicate (List.mem_of_getElem? hs);refine⟨fun s hs=>.inl (by rw[List.eq_of_mem_replicate hs]),fun i j k v w hi=>?_,fun i k v hi=>?_,⟨0,(0,0,0),by rw[List.getElem?_replicate,if_pos h],rfl⟩⟩
 ·have:=e _ _ hi;cases this
 ·have:=e _ _ hi;cases this
def cnS(c:Nat)(sl:List aS):Nat:=sl.countP fun s=>s.1==c
theorem gU{a c:Nat}{s x:aS}(h:sl[a]? =some s):cnS c (sl.set a x)+(if s.1=c then 1 else 0)=cnS c sl+(if x.1=c then 1 else 0):=by
 unfold cnS;induction sl generalizing a with
 |nil=>simp at h
 |cons y l ih=>
  cases a with
  |zero=>
   simp at h;subst h;simp only[List.set_cons_zero,List.countP_cons,beq_iff_eq];split<;>split<;>omega
  |succ a=>
   simp only[List.set_cons_succ,List.countP_cons,beq_iff_eq];have:=ih (a:=a) (by simpa using h);omega
theorem uN{n:Nat}(h:0<cnS 0 sl):∃(i:Nat)(s:aS),sl[i]? =some s∧s.1=0:=by
 unfold cnS at h;rw[List.countP_pos_iff]at h;obtain⟨s,hs,e⟩:=h;obtain⟨i,hi,e2⟩:=List.mem_iff_getElem.1 hs;exact⟨i,s,by rw[List.getElem?_eq_some_iff];exact⟨hi,e2⟩,by simpa using e⟩
theorem xi(h:∀s∈sl,s.1=0∨s.1=1∨s.1=2):cnS 0 sl+cnS 1 sl+cnS 2 sl=sl.length:=by
 unfold cnS;induction sl with
 |nil=>rfl
 |cons y l ih=>
  have:=ih fun s hs=>h s (List.mem_cons_of_mem _ hs);simp only[List.countP_cons,beq_iff_eq,List.length_cons];rcases h y (List.mem_cons_self ..)with e|e|e<;>simp only[e]<;>simp<;>omega
end Go.Ev.St
namespace Go.Ev.Lay
open Go.Ev.St
set_option maxRecDepth 4000
theorem EO(x n m:Nat)(b:Int)(hb:b=n)(hn:n≤64)(hm:m=2^n):aP (.sh false) [.int .u64 (x:Int),.int .u64 b]=some (.int .u64 ((x/m:Nat):Int)):=by
 subst hb;rw[ww _ _ _ _ (by omega)];simp only[Int.toNat_natCast,IntKind.bits,Nat.min_eq_left hn];rw[←hm];congr 2;exact Int.fdiv_eq_ediv_of_nonneg _ (Int.natCast_nonneg _)
def GG(x:Nat):Nat:=x^^^(x/2147483648)
def C8(x:Nat):Nat:=(x^^^(x/134217728)) *10723151780598845931%18446744073709551616
def C9(x:Nat):Nat:=(x^^^(x/1073741824)) *13787848793156543929%18446744073709551616
def mix(x:Nat):Nat:=GG (C8 (C9 x))
theorem E8{h:Heap}{x:Nat}(hx:x<18446744073709551616):ao go 179 [.int .u64 (x:Int)] h fun u h'=>u=.int .u64 (mix x:Nat)∧h'=h:=by
 have s1:=EO x 30 1073741824 30 rfl (by omega) (by decide);have x1:=mW x (x/1073741824) _ _ rfl rfl hx (by omega);have m1:=GC (x^^^x/1073741824) 13787848793156543929 13787848793156543929 rfl;have h1:C9 x<18446744073709551616:=Nat.mod_lt _ (by omega);change _=some (V.int .u64 ((C9 x:Nat):Int))at m1;unfold mix;generalize C9 x=y at h1 m1;have s2:=EO y 27 134217728 27 rfl (by omega) (by decide);have x2:=mW y (y/134217728) _ _ rfl rfl h1 (by omega);have m2:=GC (y^^^y/134217728) 10723151780598845931 10723151780598845931 rfl;have h2:C8 y<18446744073709551616:=Nat.mod_lt _ (by omega);change _=some (V.int .u64 ((C8 y:Nat):Int))at m2;generalize C8 y=z at h2 m2;have s3:=EO z 31 2147483648 31 rfl (by omega) (by decide);have x3:=mW z (z/2147483648) _ _ rfl rfl h2 (by omega);change _=some (V.int .u64 ((GG z:Nat):Int))at x3;refine ag g179 rfl ?_;simp only[fn179,evs,↓reduceIte,Nat.reduceEqDiff,s1,x1,m1,s2,x2,m2,s3,x3]
def sc(s:aS):List V:=[.int .u8 (s.1:Int),.int .u64 (s.2.1:Int),.int .i64 (s.2.2:Int)]
theorem nD(s:aS):(sc s).length=3:=rfl
def Tb(h:Heap)(v:V)(S:Nat)(sl:List aS):Prop:=(v=.slice S 0 sl.length sl.length∨v=.sliceU S 0 sl.length 3)∧Own h S (sl.flatMap sc)
theorem mb(sl:List aS):(sl.flatMap sc).length=sl.length*3:=aF nD sl
theorem Tb.recs{h:Heap}{v:V}{S:Nat}{sl:List aS}(t:Tb h v S sl):Recs sc 3 h v sl:=by
 obtain⟨rfl|rfl,o⟩:=t
 ·exact⟨mb sl,rfl,Nat.le_refl _,_,o,by rw[mb];omega,by rw[List.drop_zero,List.take_of_length_le (by rw[mb];omega)]⟩
 ·exact⟨mb sl,rfl,rfl,_,o,by rw[mb];omega,by rw[List.drop_zero,List.take_of_length_le (by rw[mb];omega)]⟩
theorem Tb.ix{h:Heap}{v:V}{S:Nat}{sl:List aS}(t:Tb h v S sl)(i:Nat)(hi:i<sl.length):aP (.ixs 3) [v,.int .i64 (i:Int)]=some (.ptr S (i*3)):=by
 obtain⟨rfl|rfl,o⟩:=t
 ·have:=iS 3 S 0 sl.length sl.length .i64 (i:Int) (by omega) (by omega);simpa using this
 ·have:=j5 3 S 0 sl.length 3 .i64 (i:Int) (by omega) (by omega);simpa using this
theorem Tb.fr{h h':Heap}{v:V}{S:Nat}{sl:List aS}(t:Tb h v S sl)(f:Fr [] h h'):Tb h' v S sl:=⟨t.1,f.get t.2⟩
def gi:Option Nat→Int
 |none=>-1
 |some x=>x
theorem An(p n:Nat)(h:n≠0):aP (.ib .rem) [.int .i64 ((p:Int)+1),.int .i64 (n:Int)]=some (.int .i64 (((p+1)%n:Nat):Int)):=by
 rw[j4 _ _ _ (by omega)];congr 2
theorem nY{mx:Nat→Nat}{h:Heap}{env:T V}{b S j key:Nat}{v M U:V}{sl:List aS}{g:Option Nat}{Q:Ex→T V→Heap→Prop}(w:WF h)(ob:Own h b [v,M,U])(tb:Tb h v S sl)(op:Opn mx sl)(q:Seek mx sl key j g)(hn:sl.length<1000000)
 (g0:env.get 0=some (.ptr b 0)) (g1:env.get 1=some (.int .u64 (key:Int))) (g4:env.get 4=some (.int .i64 (pth (mx key) sl.length j:Nat))) (g5:env.get 5=some (.bool false)) (g6:env.get 6=some (.int .i64 (gi g)))
 (Ky:∀env' h' at' found,env'.get 4=some (.int .i64 ((at':Nat):Int))→env'.get 5=some (.bool found)→Looked mx sl key at' found→Fr [] h h'→Q .ret env' h')
 (Kg:∀env' h' g',Seek mx sl key (j+1) g'→env'.get 0=some (.ptr b 0)→env'.get 1=some (.int .u64 (key:Int))→env'.get 4=some (.int .i64 (pth (mx key) sl.length (j+1):Nat))→env'.get 5=some (.bool false)→env'.get 6=some (.int .i64 (gi g'))→Fr [] h h'→Q (.goto 0) env' h'):
 W go rY env h Q:=by
 have jl:=q.jl;have hp:pth (mx key) sl.length j<sl.length:=rT (by omega);have hx:=tb.ix _ hp;obtain⟨b1,o1,x,e1,_,e3,e4⟩:=Recs.ix nD tb.recs .i64 (pth (mx key) sl.length j:Nat) (by omega) (by omega);rw[hx]at e1;obtain⟨rfl,rfl⟩:S=b1∧pth (mx key) sl.length j*3=o1:=by simpa using e1
 simp only[Int.toNat_natCast]at e4;have l0:ab h b 0=some v:=ob.ld1 0;obtain⟨s,ky,vl⟩:=x;have hs:=op.st _ (List.mem_of_getElem? e4);simp only[evs,↓reduceIte,rY,g0,g4,l0,hx,e3];refine ah (c':=sc (s,ky,vl)) (w.halloc _) (Own.new w _) rfl rfl rfl ?_;rintro h1 o1 F1 n1;have F:Fr [] h h1:=(Fr.halloc w _).trans F1 w (fun _ hx=>by simp at hx) (fun x hx=>.inr (by simp at hx;omega));have q0:ab h1 h.next 0=some (.int .u8 (s:Int)):=o1.ld1 0;have q1:ab h1 h.next 1=some (.int .u64 (ky:Int)):=o1.ld1 1;have l1:ab h1 b 0=some v:=(F.get ob).ld1 0;have len:=(tb.fr F).recs.len;have rm:=An (pth (mx key) sl.length j) sl.length (by omega);rw[Ax]at rm;have go':(hz:s≠0)→(hk:¬(s=1∧ky=key))→∀env':T V,env'.get 0=some (.ptr b 0)→env'.get 1=some (.int .u64 (key:Int))→env'.get 4=some (.int .i64 (pth (mx key) sl.length (j+1):Nat))→env'.get 5=some (.bool false)→
  env'.get 6=some (.int .i64 (gi (if s=2∧g=none then some (pth (mx key) sl.length j)else g)))→Q (.goto 0) env' h1:=fun hz hk env' a b c d e=>
  Kg env' h1 _ (q.next op e4 hz hk) a b c d e F
 rcases hs with hs|hs|hs
 ·have hs:s=0:=hs;subst hs;replace q0:ab h1 h.next 0=some (.int .u8 0):=q0;have fr:=q.free op e4 rfl;cases g with
  |none=>
   simp only[evs,↓reduceIte,Nat.reduceEqDiff,Int.reduceNeg,q0,g4,g6,show¬(0:Int)=1 by omega,gi,show¬(0:Int)≤-1 by omega];refine Ky _ _ _ _ ?_ ?_ fr F<;>simp[T.get_set]
  |some x=>
   simp only[evs,↓reduceIte,Nat.reduceEqDiff,q0,g6,show¬(0:Int)=1 by omega,gi,eq_true (show(0:Int)≤(x:Int) by omega)];refine Ky _ _ _ _ ?_ ?_ fr F<;>simp[T.get_set]
 ·have hs:s=1:=hs;subst hs;replace q0:ab h1 h.next 0=some (.int .u8 1):=q0;by_cases hk:ky=key
  ·subst hk;have fo:=q.found e4;simp only[evs,↓reduceIte,Nat.reduceEqDiff,q0,q1,g1,g4];refine Ky _ _ _ _ ?_ ?_ fo F<;>simp[T.get_set]
  ·have hk':¬(ky:Int)=(key:Int):=by omega
   have G:=go' (by omega) (fun x=>hk x.2);rw[if_neg (by simp)]at G;simp(disch:=omega) only[evs,↓reduceIte,Nat.reduceEqDiff,ai,q0,q1,g0,g1,g4,eq_false hk',show¬(1:Int)=0 by omega,show¬(1:Int)=2 by omega,l1,len,rm];refine G _ ?_ ?_ ?_ ?_ ?_<;>simp[T.get_set,g0,g1,g5,g6,gi]
 ·have hs:s=2:=hs;subst hs;replace q0:ab h1 h.next 0=some (.int .u8 2):=q0;have G:=go' (by omega) (by omega);cases g with
  |none=>
   rw[if_pos ⟨rfl,rfl⟩]at G;simp(disch:=omega) only[evs,↓reduceIte,Nat.reduceEqDiff,Int.reduceNeg,ai,q0,g0,g4,g6,show¬(2:Int)=1 by omega,show¬(2:Int)=0 by omega,gi,show(-1:Int)<0 by omega,l1,len,rm];refine G _ ?_ ?_ ?_ ?_ ?_<;>simp[T.get_set,g0,g1,g5,gi]
  |some x=>
   rw[if_neg (by simp)]at G;simp(disch:=omega) only[evs,↓reduceIte,Nat.reduceEqDiff,ai,q0,g0,g4,g6,show¬(2:Int)=1 by omega,show¬(2:Int)=0 by omega,gi,eq_false (show¬(x:Int)<0 by omega),l1,len,rm];refine G _ ?_ ?_ ?_ ?_ ?_<;>simp[T.get_set,g0,g1,g5,g6,gi]
theorem CT(a n:Nat)(b:Int)(hb:b=n)(h:n≠0):aP (.ib .rem) [.int .u64 (a:Int),.int .u64 b]=some (.int .u64 ((a%n:Nat):Int)):=by
 subst hb;rw[j4 _ _ _ (by omega)];congr 2
theorem mQ{h:Heap}{b S key:Nat}{v M U:V}{sl:List aS}(w:WF h)(ob:Own h b [v,M,U])(tb:Tb h v S sl)(op:Opn mix sl)(hn:sl.length<1000000)(hk:key<18446744073709551616):
 ao go 108 [.ptr b 0,.int .u64 (key:Int)] h fun u h'=>∃at' found,u=.tup [.int .i64 ((at':Nat):Int),.bool found]∧Looked mix sl key at' found∧Fr [] h h':=by
 have l0:ab h b 0=some v:=ob.ld1 0;have len:=tb.recs.len;have pos:=op.pos;have mok:=E8 (h:=h) hk;generalize mix=mx at op mok;have rm:=CT (mx key) sl.length (sl.length:Nat) rfl (by omega);have rl:mx key%sl.length<sl.length:=Nat.mod_lt _ pos;refine ag g108x rfl ?_;simp only[fn108x,evs,Nat.reduceAdd,Int.reduceNeg];refine xK (fun k env hh=>Fr [] h hh∧∃j g,Seek mx sl key j g∧env.get 0=some (.ptr b 0)∧env.get 1=some (.int .u64 (key:Int))∧env.get 4=some (.int .i64 (pth (mx key) sl.length j:Nat))∧env.get 5=some (.bool false)∧
  env.get 6=some (.int .i64 (gi g))∧k=sl.length-j) (sl.length-1) (by omega) ?_ ?_
 ·simp only[evs,↓reduceIte,Nat.reduceEqDiff,Int.reduceNeg,eff];refine aa mok ?_;rintro _ _ ⟨rfl,hh⟩;replace hh:=hh.symm;subst hh;have cv1:aY .u64 (sl.length:Int)=(sl.length:Int):=bU _ (by omega) (by omega);simp(disch:=omega) only[evs,↓reduceIte,Nat.reduceEqDiff,Nat.reduceAdd,Int.reduceNeg,DF,eff,Nat.reduceSub,ai,l0,len,cv1,rm];refine nY w ob tb op (Seek.start op key) hn ?_ ?_ ?_ ?_ ?_ ?_ ?_
  ·simp[T.get_set]
  ·simp[T.get_set]
  ·rw[Aw];simp[T.get_set]
  ·simp[T.get_set]
  ·simp[T.get_set,gi]
  ·intro env' h' at' found e4 e5 L F;show iT _ _ _ _ _;simp only[evs,e4,e5];exact⟨_,_,rfl,L,F⟩
  ·intro env' h' g' q1 a0 a1 a4 a5 a6 F;exact⟨rfl,F,1,g',q1,a0,a1,a4,a5,a6,rfl⟩
 ·rintro k env hh ⟨F,j,g,q,g0,g1,g4,g5,g6,rfl⟩;have jl:=q.jl;refine nY F.wf (F.get ob) (tb.fr F) op q hn g0 g1 g4 g5 g6 ?_ ?_
  ·intro env' h' at' found e4 e5 L F';show iT _ _ _ _ _;simp only[evs,e4,e5];exact⟨_,_,rfl,L,F.then F'⟩
  ·intro env' h' g' q1 a0 a1 a4 a5 a6 F';exact⟨rfl,sl.length-(j+1),by omega,F.then F',j+1,g',q1,a0,a1,a4,a5,a6,rfl⟩
end Go.Ev.Lay
