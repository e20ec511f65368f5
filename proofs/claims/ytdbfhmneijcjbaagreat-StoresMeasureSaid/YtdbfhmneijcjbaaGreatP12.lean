/- An evaluator of the program, and contracts over it: StbL to StbV. -/
import Derived.Test.YtdbfhmneijcjbaaGreatP11
set_option linter.unusedSimpArgs false
set_option linter.unusedVariables false
set_option linter.constructorNameAsVariable false
namespace Go.Ev.Lay
open Go.Ev.St
set_option maxRecDepth 4000
def AX(l:List (Str×Str)):Prop:=∀(i:Nat)(a:Str×Str),l[i]? =some a→okN a.1=true∧okT a.2=true∧∀(j:Nat)(q:Str×Str),j<i→l[j]? =some q→leS a.1 q.1=false
theorem AX.ok'{l:List (Str×Str)}(h:AX l):∀(n i:Nat),i+n=l.length→db (hP l i) (l.drop i)=true
 |0,i,e=>by rw[List.drop_of_length_le (by omega)];cases hP l i<;>rfl
 |n+1,i,e=>by
  have hi:i<l.length:=by omega
  have g:=List.getElem?_eq_getElem hi;obtain⟨x1,x2,x3⟩:=h i _ g;rw[List.drop_eq_getElem_cons hi,kR,x1,x2];have y:=AX.ok' h n (i+1) (by omega);rw[nQ g]at y;rw[y];have:bS (hP l i) (l[i]).1=true:=by
   by_cases z:i=0
   ·subst z;rfl
   ·have gj:=List.getElem?_eq_getElem (show i-1<l.length by omega);have:=x3 (i-1) _ (by omega) gj;simp[hP,z,gj,bS,this]
  rw[this];rfl
theorem AX.ok{l:List (Str×Str)}(h:AX l):db none l=true:=by simpa[hP]using AX.ok' h l.length 0 (by omega)
theorem E7{h:Heap}{va vc:V}{at':List (Str×Str)}{sub:NT}{env:T V}{pb:Nat}{R:V→Heap→Prop}(l3:ab h pb 3=some va)(ra:Recs eP 2 h va at')(na:at'.length≤4096)(l5:ab h pb 5=some vc)(sl:Sl h 6 vc sub.len sub.cells)(nl:sub.len≤4096)(e1:env.get 1=some (.ptr pb 0))
 (k:∀b,(b=true↔AX at'∧KX sub.keys)→R (.bool b) h):W go noA env h (iT [.t 2] R):=by
 simp only[evs,noA];refine aE (fun n env hh=>hh=h∧∃(i:Nat),env.get 3=some (.int .i64 (i:Int))∧env.get 1=some (.ptr pb 0)∧i≤at'.length∧(∀(i':Nat)(a:Str×Str),i'<i→at'[i']? =some a→okN a.1=true∧okT a.2=true∧∀(j:Nat)(q:Str×Str),j<i'→at'[j]? =some q→leS a.1 q.1=false)∧n=at'.length-i) at'.length (by omega) ?_ ?_
 ·exact⟨rfl,0,(by simp[T.get_set]),(by simp[T.get_set,e1]),by omega,fun _ _ z=>by omega,rfl⟩
 ·rintro n env hh ⟨rfl,i,g3,g1,hi,P,rfl⟩;by_cases hlt:i<at'.length
  ·have hlt':(i:Int)<at'.length:=by omega
   obtain⟨b,o,a,p1,p2,_,p4⟩:=ra.ix dG .i64 (i:Int) (by omega) hlt';rw[Int.toNat_natCast]at p4;have q0:ab hh b o=some (.str a.1):=p2 0 (by omega);have q1:ab hh b (o+1)=some (.str a.2):=p2 1 (by omega);simp only[evs,↓reduceIte,Nat.reduceEqDiff,g3,g1,l3,ra.len,hlt',p1,q0];refine aa dP ?_;rintro _ _ ⟨rfl,rfl⟩;cases c1:okN a.1
   ·simp only[evs,↓reduceIte];exact k false ⟨fun e=>(by cases e),fun K=>by have:=(K.1 i a p4).1;rw[c1]at this;cases this⟩
   simp only[evs,↓reduceIte,Nat.reduceEqDiff,g3,g1,l3,p1,q1];refine aa iq ?_;rintro _ _ ⟨rfl,rfl⟩;cases c2:okT a.2
   ·simp only[evs,↓reduceIte];exact k false ⟨fun e=>(by cases e),fun K=>by have:=(K.1 i a p4).2.1;rw[c2]at this;cases this⟩
   simp only[evs,↓reduceIte];refine aE (fun n env h2=>h2=hh∧∃(j:Nat),env.get 4=some (.int .i64 (j:Int))∧env.get 3=some (.int .i64 (i:Int))∧env.get 1=some (.ptr pb 0)∧j≤i∧(∀(j':Nat)(q:Str×Str),j'<j→at'[j']? =some q→leS a.1 q.1=false)∧n=i-j) i (by omega) ?_ ?_
   ·exact⟨rfl,0,(by simp[T.get_set]),(by simp[T.get_set,g3]),(by simp[T.get_set,g1]),by omega,fun _ _ z=>by omega,rfl⟩
   ·rintro n' env' h2 ⟨rfl,j,g4,g3,g1,hj,Q,rfl⟩;by_cases jlt:j<i
    ·have jlt':(j:Int)<i:=by omega
     obtain⟨b',o',a2,p1',p2',_,p4'⟩:=ra.ix dG .i64 (j:Int) (by omega) (by omega);rw[Int.toNat_natCast]at p4';have q0':ab h2 b' o'=some (.str a2.1):=p2' 0 (by omega);cases c3:leS a.1 a2.1
     ·simp(disch:=omega) only[evs,↓reduceIte,Nat.reduceEqDiff,Nat.reduceAdd,DF,eff,Nat.reduceSub,ai,g4,g3,g1,l3,p1,q0,p1',q0',jlt',jn,c3];refine(aj _ _ _).2 ⟨i-(j+1),by omega,rfl,j+1,(by simp[T.get_set]),(by simp[T.get_set,g3]),(by simp[T.get_set,g1]),by omega,?_,rfl⟩;intro j' q hj' e;rcases Nat.lt_or_ge j' j with z|z
      ·exact Q j' q z e
      ·have:j'=j:=by omega
       subst this;rw[p4']at e;cases e;exact c3
     ·simp only[evs,↓reduceIte,Nat.reduceEqDiff,Nat.reduceAdd,DF,eff,Nat.reduceSub,g4,g3,g1,l3,p1,q0,p1',q0',jlt',jn,c3];exact k false ⟨fun e=>(by cases e),fun K=>by have:=(K.1 i a p4).2.2 j a2 jlt p4';rw[c3]at this;cases this⟩
    ·have:j=i:=by omega
     subst this;have jlt':¬(j:Int)<j:=by omega
     simp(disch:=omega) only[evs,↓reduceIte,Nat.reduceEqDiff,ai,g4,g3,eq_false jlt'];refine(aj _ _ _).2 ⟨at'.length-(j+1),by omega,rfl,j+1,(by simp[T.get_set]),(by simp[T.get_set,g1]),by omega,fun i' b hi' e=>?_,rfl⟩;rcases Nat.lt_or_ge i' j with z|z
     ·exact P i' b z e
     ·have:i'=j:=by omega
      subst this;rw[p4]at e;cases e;exact⟨c1,c2,Q⟩
  ·have hlt':¬(i:Int)<at'.length:=by omega
   simp only[evs,↓reduceIte,g3,g1,l3,ra.len,eq_false hlt'];refine E6 l5 sl nl (by simp[T.get_set,g1]) fun b hb=>k b (hb.trans ⟨fun e=>⟨fun i' a e'=>P i' a ?_ e',e⟩,fun e=>e.2⟩);have:=(List.getElem?_eq_some_iff.1 e').1;omega
def OX(k:Nat)(tg ky:Str)(at':List (Str×Str))(tx:Str)(sub:NT):Prop:=
 (k=2∧okT tx=true∧(tg==[])=true∧(ky==[])=true∧at'.length=0∧sub.len=0)∨(k=1∧okN tg=true∧(ky==[]||okN ky)=true∧(tx==[])=true∧at'.length≤8∧sub.len≤16∧AX at'∧KX sub.keys)
theorem OX.ok{k:Nat}{tg ky:Str}{at':List (Str×Str)}{tx:Str}{sub:NT}(h:OX k tg ky at' tx sub):ST.alone k tg ky at' tx sub.sh=true:=by
 have z:=NT.sh_len sub;have zk:sub.sh.keys=sub.keys:=NT.sh_keys sub;unfold ST.alone;rcases h with⟨h1,h2,h3,h4,h5,h6⟩|⟨h1,h2,h3,h4,h5,h6,h7,h8⟩
 ·rw[if_pos h1,h2,h3,h4,decide_eq_true h5,decide_eq_true (show sub.sh.len=0 by omega)];rfl
 ·rw[if_neg (by omega),h2,h3,h4,h7.ok,zk,h8.ok,decide_eq_true h1,decide_eq_true h5,decide_eq_true (show sub.sh.len≤16 by omega)];rfl
theorem CZ{h:Heap}{k:Nat}{tg ky tx:Str}{at':List (Str×Str)}{va vc:V}{sub:NT}(w:WF h)(n:NH h (.cons k tg ky at' tx va vc sub .nil)):
 ao go 273 [.agg [.int .u8 (k:Int),.str tg,.str ky,va,.str tx,vc]] h fun u h'=>Fr [] h h'∧∃b,u=.bool b∧(b=true↔OX k tg ky at' tx sub):=by
 obtain⟨n1,ra,na,rc,nc,n6,_⟩:=n;obtain⟨h1,e_h1⟩:∃h1,h1=halloc h [.int .u8 (k:Int),.str tg,.str ky,va,.str tx,vc]:=⟨_,rfl⟩;have F_h1:Fr [] h h1:=e_h1▸Fr.halloc w _;have o_h1:Own h1 h.next [.int .u8 (k:Int),.str tg,.str ky,va,.str tx,vc]:=e_h1▸Own.new w _;have l0:ab h1 h.next 0=some (.int .u8 (k:Int)):=o_h1.ld1 0;have l1:ab h1 h.next 1=some (.str tg):=o_h1.ld1 1;have l2:ab h1 h.next 2=some (.str ky):=o_h1.ld1 2;have l3:ab h1 h.next 3=some va:=o_h1.ld1 3;have l4:ab h1 h.next 4=some (.str tx):=o_h1.ld1 4;have l5:ab h1 h.next 5=some vc:=o_h1.ld1 5;have ra1:=ra.fr F_h1;have rc1:=rc.fr F_h1;have no:∀{h'},Fr [] h h'→¬OX k tg ky at' tx sub→(Fr [] h h'∧∃b,V.bool false=.bool b∧(b=true↔OX k tg ky at' tx sub)):=fun f x=>⟨f,false,rfl,fun e=>(by cases e),fun e=>absurd e x⟩;by_cases k2:(k:Int)=2
 ·refine ag g273x rfl ?_;simp only[evs,↓reduceIte,Nat.reduceEqDiff,fn273x,←e_h1,l0,eq_true k2,l4];refine aa iq ?_;rintro _ _ ⟨rfl,rfl⟩;cases c1:okT tx
  ·simp only[evs,↓reduceIte];exact no F_h1 (by rintro(⟨h1,h2,h3,h4,h5,h6⟩|⟨h1,h2,h3,h4,h5,h6,h7⟩)<;>first|omega|simp_all)
  cases c2:tg==[]
  ·simp only[evs,↓reduceIte,Nat.reduceEqDiff,l1,aI,c2];exact no F_h1 (by rintro(⟨h1,h2,h3,h4,h5,h6⟩|⟨h1,h2,h3,h4,h5,h6,h7⟩)<;>first|omega|simp_all)
  cases c3:ky==[]
  ·simp only[evs,↓reduceIte,Nat.reduceEqDiff,l1,l2,aI,c2,c3];exact no F_h1 (by rintro(⟨h1,h2,h3,h4,h5,h6⟩|⟨h1,h2,h3,h4,h5,h6,h7⟩)<;>first|omega|simp_all)
  by_cases c4:(at'.length:Int)=0
  ·simp only[evs,↓reduceIte,Nat.reduceEqDiff,l1,l2,l3,l5,aI,c2,c3,ra1.len,eq_true c4,rc1.len];refine⟨F_h1,_,rfl,fun e=>?_,fun e=>?_⟩
   ·have e0:=of_decide_eq_true e;exact .inl ⟨by omega,c1,c2,c3,by omega,by omega⟩
   ·rcases e with⟨h1,h2,h3,h4,h5,h6⟩|⟨h1,_⟩
    ·exact decide_eq_true (by omega)
    ·omega
  ·simp only[evs,↓reduceIte,Nat.reduceEqDiff,l1,l2,l3,aI,c2,c3,ra1.len,eq_false c4];exact no F_h1 (by rintro(⟨h1,h2,h3,h4,h5,h6⟩|⟨h1,h2,h3,h4,h5,h6,h7⟩)<;>first|omega|simp_all)
 by_cases k1:(k:Int)=1
 ·refine ag g273x rfl ?_;simp only[evs,↓reduceIte,Nat.reduceEqDiff,fn273x,←e_h1,l0,eq_false k2,eq_true k1,l1];refine aa dP ?_;rintro _ _ ⟨rfl,rfl⟩;cases c1:okN tg
  ·simp only[evs,↓reduceIte];exact no F_h1 (by rintro(⟨h1,h2,h3,h4,h5,h6⟩|⟨h1,h2,h3,h4,h5,h6,h7⟩)<;>first|omega|simp_all)
  have rest:∀{env:T V},env.get 1=some (.ptr h.next 0)→tx==[]→(ky==[]||okN ky)=true→at'.length≤8→sub.len≤16→W go noA env h1 (iT [.t 2] fun u h'=>Fr [] h h'∧∃b,u=.bool b∧(b=true↔OX k tg ky at' tx sub)):=by
   intro env e1 c3 c2 c4 c5;refine E7 l3 ra1 na l5 rc1 nc e1 fun b hb=>⟨F_h1,b,rfl,fun e=>.inr ⟨by omega,c1,c2,c3,c4,c5,hb.1 e⟩,fun e=>?_⟩;rcases e with⟨h1,_⟩|⟨h1,h2,h3,h4,h5,h6,h7⟩
   ·omega
   ·exact hb.2 h7
  cases c2:ky==[]
  ·simp only[evs,↓reduceIte,Nat.reduceEqDiff,l2,aR,c2];refine aa dP ?_;rintro _ _ ⟨rfl,rfl⟩;cases c2':okN ky
   ·simp only[evs,↓reduceIte];exact no F_h1 (by rintro(⟨h1,h2,h3,h4,h5,h6⟩|⟨h1,h2,h3,h4,h5,h6,h7⟩)<;>first|omega|simp_all)
   cases c3:tx==[]
   ·simp only[evs,↓reduceIte,Nat.reduceEqDiff,l4,aR,c3];exact no F_h1 (by rintro(⟨h1,h2,h3,h4,h5,h6⟩|⟨h1,h2,h3,h4,h5,h6,h7⟩)<;>first|omega|simp_all)
   by_cases c4:(8:Int)<(at'.length:Nat)
   ·simp only[evs,↓reduceIte,Nat.reduceEqDiff,l3,l4,aR,c3,ra1.len,eq_true c4];exact no F_h1 (by rintro(⟨h1,h2,h3,h4,h5,h6⟩|⟨h1,h2,h3,h4,h5,h6,h7⟩)<;>first|omega|simp_all)
   by_cases c5:(16:Int)<(sub.len:Nat)
   ·simp only[evs,↓reduceIte,Nat.reduceEqDiff,l3,l4,l5,aR,c3,ra1.len,eq_false c4,rc1.len,eq_true c5];exact no F_h1 (by rintro(⟨h1,h2,h3,h4,h5,h6⟩|⟨h1,h2,h3,h4,h5,h6,h7⟩)<;>first|omega|simp_all)
   simp only[evs,↓reduceIte,Nat.reduceEqDiff,l3,l4,l5,aR,c3,ra1.len,eq_false c4,rc1.len,eq_false c5];exact rest (by simp[T.get_set]) c3 (by rw[c2,c2'];rfl) (by omega) (by omega)
  ·simp only[evs,↓reduceIte,Nat.reduceEqDiff,l2,l3,l4,aR,c2];cases c3:tx==[]
   ·simp only[evs,↓reduceIte];exact no F_h1 (by rintro(⟨h1,h2,h3,h4,h5,h6⟩|⟨h1,h2,h3,h4,h5,h6,h7⟩)<;>first|omega|simp_all)
   by_cases c4:(8:Int)<(at'.length:Nat)
   ·simp only[evs,↓reduceIte,ra1.len,eq_true c4];exact no F_h1 (by rintro(⟨h1,h2,h3,h4,h5,h6⟩|⟨h1,h2,h3,h4,h5,h6,h7⟩)<;>first|omega|simp_all)
   by_cases c5:(16:Int)<(sub.len:Nat)
   ·simp only[evs,↓reduceIte,Nat.reduceEqDiff,l5,ra1.len,eq_false c4,rc1.len,eq_true c5];exact no F_h1 (by rintro(⟨h1,h2,h3,h4,h5,h6⟩|⟨h1,h2,h3,h4,h5,h6,h7⟩)<;>first|omega|simp_all)
   simp only[evs,↓reduceIte,Nat.reduceEqDiff,l5,ra1.len,eq_false c4,rc1.len,eq_false c5];exact rest (by simp[T.get_set]) c3 (by rw[c2];rfl) (by omega) (by omega)
 ·refine ag g273x rfl ?_;simp only[evs,↓reduceIte,Nat.reduceEqDiff,fn273x,←e_h1,l0,eq_false k2,eq_false k1];exact no F_h1 (by rintro(⟨h1,h2,h3,h4,h5,h6⟩|⟨h1,h2,h3,h4,h5,h6,h7⟩)<;>first|omega|simp_all)
open Classical in
noncomputable def NT.rs:NT→Nat→Nat→Nat
 |.nil,_,c=>c
 |.cons k tg ky at' tx _ _ sub nx,lv,c=>if 64<c then c else nx.rs lv (c+(if lv=0∨¬OX k tg ky at' tx sub then 1000 else sub.rs (lv-1) 1))
open Classical in
noncomputable def NT.rn(k:Nat)(tg ky:Str)(at':List (Str×Str))(tx:Str)(sub:NT)(lv:Nat):Nat:=if lv=0∨¬OX k tg ky at' tx sub then 1000 else sub.rs (lv-1) 1
theorem NT.rs_cons(k:Nat)(tg ky:Str)(at':List (Str×Str))(tx:Str)(va vc:V)(sub nx:NT)(lv c:Nat):(NT.cons k tg ky at' tx va vc sub nx).rs lv c=if 64<c then c else nx.rs lv (c+NT.rn k tg ky at' tx sub lv):=rfl
theorem NT.rs_le:∀(t:NT)(lv c:Nat),t.rs lv c≤max c (1064+64*lv)
 |.nil,lv,c=>by simp only[NT.rs];omega
 |.cons k tg ky sl tx va vc sub nx,lv,c=>by
  rw[NT.rs_cons];split
  ·omega
  ·have h1:=NT.rs_le sub (lv-1) 1;have h2:=NT.rs_le nx lv (c+NT.rn k tg ky sl tx sub lv);have:NT.rn k tg ky sl tx sub lv≤max 1000 (1000+64*lv):=by
    unfold NT.rn;split
    ·omega
    ·rename_i q;have:lv≠0:=fun e=>q (.inl e);omega
   omega
theorem NT.rs_ge:∀(t:NT)(lv c:Nat),c≤t.rs lv c
 |.nil,lv,c=>Nat.le_refl _
 |.cons k tg ky sl tx va vc sub nx,lv,c=>by
  rw[NT.rs_cons];split
  ·omega
  ·have h2:=NT.rs_ge nx lv (c+NT.rn k tg ky sl tx sub lv);omega
theorem NT.rn_le(k:Nat)(tg ky:Str)(sl:List (Str×Str))(tx:Str)(sub:NT)(lv:Nat):NT.rn k tg ky sl tx sub lv≤1064+64*lv∧1≤NT.rn k tg ky sl tx sub lv:=by
 unfold NT.rn;split
 ·omega
 ·have:=NT.rs_le sub (lv-1) 1;have:=NT.rs_ge sub (lv-1) 1;omega
theorem NT.rs_stop:∀(t:NT)(lv c:Nat),64<c→t.rs lv c=c
 |.nil,_,_,_=>rfl
 |.cons _ _ _ _ _ _ _ _ _,_,_,h=>by rw[NT.rs_cons,if_pos h]
theorem NT.rs_walk:∀(t:NT)(lv c c0:Nat),lv≤6→c0+t.rs lv c≤64→t.sh.walk (7-lv) (c0+c)=(c0+t.rs lv c,true)
 |.nil,_,_,_,_,_=>rfl
 |.cons k tg ky sl tx va vc sub nx,lv,c,c0,hl,h=>by
  have g:=NT.rs_ge (.cons k tg ky sl tx va vc sub nx) lv c;have c64:¬64<c:=by omega
  rw[NT.rs_cons,if_neg c64]at h⊢;have g2:=NT.rs_ge nx lv (c+NT.rn k tg ky sl tx sub lv);have g3:=(NT.rn_le k tg ky sl tx sub lv).2;have er:¬(lv=0∨¬OX k tg ky sl tx sub):=by
   intro q;have:NT.rn k tg ky sl tx sub lv=1000:=by unfold NT.rn;rw[if_pos q]
   omega
  have ev:NT.rn k tg ky sl tx sub lv=sub.rs (lv-1) 1:=by unfold NT.rn;rw[if_neg er]
  have ox:OX k tg ky sl tx sub:=Classical.byContradiction fun q=>er (.inr q);have l0:lv≠0:=fun e=>er (.inl e);have nd:ST.node k tg ky sl tx sub.sh sub.sh.walk (7-lv) (c0+c)=(c0+c+NT.rn k tg ky sl tx sub lv,true):=by
   unfold ST.node;rw[if_neg (by rw[ox.ok];simp;omega),show 7-lv+1=7-(lv-1) by omega,NT.rs_walk sub (lv-1) 1 (c0+c) (by omega) (by omega),ev]
  simp only[NT.sh,ST.walk,nd,if_true];rw[Nat.add_assoc,NT.rs_walk nx lv _ c0 hl h]
theorem NT.rn_node(k:Nat)(tg ky:Str)(sl:List (Str×Str))(tx:Str)(sub:NT)(h:NT.rn k tg ky sl tx sub 6≤64):ST.count k tg ky sl tx sub.sh=NT.rn k tg ky sl tx sub 6:=by
 have:=NT.rs_walk (.cons k tg ky sl tx .nils .nils sub .nil) 6 0 0 (by omega) (by rw[NT.rs_cons,if_neg (by omega)];simpa[NT.rs]using h);rw[NT.rs_cons,if_neg (by omega)]at this;simp only[NT.sh,ST.walk,NT.rs,Nat.zero_add]at this;unfold ST.count;split at this
 ·rename_i q;rw[if_pos (by simpa using q)];simpa using congrArg Prod.fst this
 ·rename_i q;rw[this]at q;exact absurd rfl q
def CN(k:Nat)(tg ky:Str)(at':List (Str×Str))(tx:Str)(va vc:V)(sub:NT):Prop:=∀(lv:Nat)(h:Heap),lv≤6→WF h→NH h (.cons k tg ky at' tx va vc sub .nil)→
 ao go 242 [.agg [.int .u8 (k:Int),.str tg,.str ky,va,.str tx,vc],.int .i64 (lv:Int)] h fun u h'=>Fr [] h h'∧u=.int .i64 (NT.rn k tg ky at' tx sub lv:Nat)
def CNs:NT→Prop
 |.nil=>True
 |.cons k tg ky at' tx va vc sub nx=>CN k tg ky at' tx va vc sub∧CNs nx
theorem CNs.at':∀{t:NT}(i:Nat),CNs t→CNs (t.at' i)
 |.nil,0,_=>trivial
 |.nil,_+1,_=>trivial
 |.cons _ _ _ _ _ _ _ _ _,0,a=>a
 |.cons _ _ _ _ _ _ _ _ _,i+1,⟨_,b⟩=>CNs.at' i b
theorem NT.at_end':∀(t:NT)(i:Nat),t.len≤i→t.at' i=.nil
 |.nil,0,_=>rfl
 |.nil,_+1,_=>rfl
 |.cons _ _ _ _ _ _ _ _ nx,0,h=>by simp[NT.len]at h
 |.cons _ _ _ _ _ _ _ _ nx,i+1,h=>NT.at_end' nx i (by simp[NT.len]at h;omega)
theorem zd{k:Nat}{tg ky tx:Str}{at':List (Str×Str)}{va vc:V}{sub:NT}(M:CNs sub):CN k tg ky at' tx va vc sub:=by
 intro lv h hlv w n;have n0:=n;obtain⟨n1,ra,na,rc,nc,n6,_⟩:=n;obtain⟨h1,e_h1⟩:∃h1,h1=halloc h [.int .u8 (k:Int),.str tg,.str ky,va,.str tx,vc]:=⟨_,rfl⟩;have F_h1:Fr [] h h1:=e_h1▸Fr.halloc w _;have o_h1:Own h1 h.next [.int .u8 (k:Int),.str tg,.str ky,va,.str tx,vc]:=e_h1▸Own.new w _;by_cases c1:(lv:Int)<1
 ·refine ag g242 rfl ?_;simp only[fn242,evs,↓reduceIte,Nat.reduceEqDiff,Nat.reduceAdd,←e_h1,eq_true c1];exact⟨F_h1,by rw[NT.rn,if_pos (.inl (by omega))];rfl⟩
 have l6:au h1 h.next 0 6=some [.int .u8 (k:Int),.str tg,.str ky,va,.str tx,vc]:=by rw[o_h1.ld];rfl
 refine ag g242 rfl ?_;simp only[fn242,evs,↓reduceIte,Nat.reduceEqDiff,Nat.reduceAdd,←e_h1,eq_false c1,l6];refine aa (CZ F_h1.wf (n0.fr F_h1)) ?_;rintro _ h2 ⟨F2,b,rfl,hb⟩;have F02:=F_h1.then F2;cases c2:b
 ·simp only[evs,↓reduceIte];exact⟨F02,by rw[NT.rn,if_pos (.inr fun x=>by have:=hb.2 x;rw[c2]at this;cases this)];rfl⟩
 have al:=hb.1 c2;have o2:=F2.get o_h1;simp only[evs,↓reduceIte];refine aE (fun n env hh=>Fr [] h2 hh∧∃(i c:Nat),env.get 6=some (.int .i64 (i:Int))∧env.get 5=some (.int .i64 (c:Int))∧env.get 2=some (.ptr h.next 0)∧env.get 1=some (.int .i64 (lv:Int))∧i≤sub.len∧c≤2000∧
  (sub.at' i).rs (lv-1) c=sub.rs (lv-1) 1∧n=sub.len-i) sub.len (by omega) ?_ ?_
 ·exact⟨Fr.refl F2.wf,0,1,(by simp[T.get_set]),(by simp[T.get_set]),(by simp[T.get_set]),(by simp[T.get_set]),by omega,by omega,by cases sub<;>rfl,rfl⟩
 ·rintro n' env hh ⟨F,i,c,g6,g5,g2,g1,hi,hc,P,rfl⟩;have F0:=F02.then F;have l5:ab hh h.next 5=some vc:=(F.get o2).ld1 5;have rch:=rc.fr F0;have done:c=sub.rs (lv-1) 1→V.int .i64 (c:Int)=.int .i64 (NT.rn k tg ky at' tx sub lv:Nat):=fun e=>by
   rw[NT.rn,if_neg (by intro q;rcases q with q|q;omega;exact q al),←e]
  by_cases hlt:i<sub.len
  ·have hlt':(i:Int)<sub.len:=by omega
   by_cases c3:(c:Int)≤64
   ·obtain⟨kd,tg2,ky2,at2,tx2,va2,vc2,sub2,nx,e1,e2,e3,e4,e5,_⟩:=sub.split i hlt;obtain⟨bi,oi,p1,p2⟩:=Sl.ix6 rch hlt e2;have ph:=NH.at' i (n6.fr F0);rw[e1]at ph;obtain⟨z1,z2,z3,z4,z5,z6,z7⟩:=ph;have cr:=CNs.at' i M;rw[e1]at cr;obtain⟨q0,q1,q2,q3,q4,q5,q6⟩:=p2;simp(disch:=omega) only[evs,↓reduceIte,Nat.reduceEqDiff,ai,g6,g5,g2,g1,l5,rch.len,hlt',eq_true c3,p1,q6];have lv1:(lv:Int)-1=((lv-1:Nat):Int):=by omega
    rw[lv1];refine aa (cr.1 (lv-1) hh (by omega) F.wf ⟨z1,z2,z3,z4,z5,z6,trivial⟩) ?_;rintro _ h3 ⟨F3,rfl⟩;have le:=NT.rn_le kd tg2 ky2 at2 tx2 sub2 (lv-1);rw[e1,NT.rs_cons,if_neg (by omega)]at P;simp(disch:=omega) only[evs,↓reduceIte,Nat.reduceEqDiff,ai,g6];refine(aj _ _ _).2 ⟨sub.len-(i+1),by omega,F.then F3,i+1,c+NT.rn kd tg2 ky2 at2 tx2 sub2 (lv-1),(by simp[T.get_set]),(by simp[T.get_set]),(by simp[T.get_set,g2]),(by simp[T.get_set,g1]),by omega,by omega,by rw[e3];exact P,rfl⟩
   ·simp only[evs,↓reduceIte,Nat.reduceEqDiff,g6,g5,g2,l5,rch.len,hlt',eq_false c3];rw[NT.rs_stop _ _ _ (by omega)]at P;exact⟨F0,done P⟩
  ·have hlt':¬(i:Int)<sub.len:=by omega
   simp only[evs,↓reduceIte,Nat.reduceEqDiff,g6,g5,g2,l5,rch.len,eq_false hlt'];rw[NT.at_end' _ _ (by omega)]at P;exact⟨F0,done P⟩
theorem cns:∀t:NT,CNs t
 |.nil=>trivial
 |.cons _ _ _ _ _ _ _ sub nx=>⟨zd (cns sub),cns nx⟩
open Classical in
noncomputable def NT.rC(k:Nat)(tg ky:Str)(at':List (Str×Str))(tx:Str)(sub:NT):Nat:=if 64<NT.rn k tg ky at' tx sub 6 then 0 else NT.rn k tg ky at' tx sub 6
theorem NT.rC_count{k:Nat}{tg ky:Str}{at':List (Str×Str)}{tx:Str}{sub:NT}(h:NT.rC k tg ky at' tx sub≠0):ST.count k tg ky at' tx sub.sh=NT.rC k tg ky at' tx sub:=by
 unfold NT.rC at h⊢;split at h
 ·exact absurd rfl h
 ·rename_i q;rw[if_neg q];exact NT.rn_node _ _ _ _ _ _ (by omega)
theorem rA{h:Heap}{k:Nat}{tg ky tx:Str}{at':List (Str×Str)}{va vc:V}{sub:NT}(w:WF h)(n:NH h (.cons k tg ky at' tx va vc sub .nil)):
 ao go 189 [.agg [.int .u8 (k:Int),.str tg,.str ky,va,.str tx,vc]] h fun u h'=>Fr [] h h'∧u=.int .i64 (NT.rC k tg ky at' tx sub:Nat):=by
 obtain⟨h1,e_h1⟩:∃h1,h1=halloc h [.int .u8 (k:Int),.str tg,.str ky,va,.str tx,vc]:=⟨_,rfl⟩;have F_h1:Fr [] h h1:=e_h1▸Fr.halloc w _;have o_h1:Own h1 h.next [.int .u8 (k:Int),.str tg,.str ky,va,.str tx,vc]:=e_h1▸Own.new w _;have l6:au h1 h.next 0 6=some [.int .u8 (k:Int),.str tg,.str ky,va,.str tx,vc]:=by rw[o_h1.ld];rfl
 refine ag g189 rfl ?_;simp only[fn189,evs,↓reduceIte,Nat.reduceEqDiff,←e_h1,l6];refine aa ((cns (.cons k tg ky at' tx va vc sub .nil)).1 6 h1 (by omega) F_h1.wf (n.fr F_h1)) ?_;rintro _ h2 ⟨F2,rfl⟩;by_cases c2:(64:Int)<(NT.rn k tg ky at' tx sub 6:Nat)
 ·simp only[evs,↓reduceIte,eq_true c2];exact⟨F_h1.then F2,by rw[NT.rC,if_pos (by omega)];rfl⟩
 ·simp only[evs,↓reduceIte,Nat.reduceEqDiff,eq_false c2];exact⟨F_h1.then F2,by rw[NT.rC,if_neg (by omega)]⟩
theorem zS{h:Heap}{k:Nat}{tg ky tx:Str}{at':List (Str×Str)}{va vc:V}{sub:NT}(w:WF h)(n:NH h (.cons k tg ky at' tx va vc sub .nil)):
 ao go 188 [.agg [.int .u8 (k:Int),.str tg,.str ky,va,.str tx,vc]] h fun u h'=>Fr [] h h'∧u=.int .i64 (if NT.rC k tg ky at' tx sub=0 then 14 else 0):=by
 obtain⟨h1,e_h1⟩:∃h1,h1=halloc h [.int .u8 (k:Int),.str tg,.str ky,va,.str tx,vc]:=⟨_,rfl⟩;have F_h1:Fr [] h h1:=e_h1▸Fr.halloc w _;have o_h1:Own h1 h.next [.int .u8 (k:Int),.str tg,.str ky,va,.str tx,vc]:=e_h1▸Own.new w _;have l6:au h1 h.next 0 6=some [.int .u8 (k:Int),.str tg,.str ky,va,.str tx,vc]:=by rw[o_h1.ld];rfl
 refine ag g188 rfl ?_;simp only[fn188,evs,↓reduceIte,Nat.reduceEqDiff,←e_h1,l6];refine aa (rA F_h1.wf (n.fr F_h1)) ?_;rintro _ h2 ⟨F2,rfl⟩;by_cases c2:(NT.rC k tg ky at' tx sub:Int)=0
 ·simp only[evs,↓reduceIte,eq_true c2];exact⟨F_h1.then F2,by rw[if_pos (by omega)]⟩
 ·simp only[evs,↓reduceIte,eq_false c2];exact⟨F_h1.then F2,by rw[if_neg (by omega)]⟩
theorem EY{s:NT}{tg ky:Str}{at':List (Str×Str)}{m:ST}(e:s.sh=.cons 1 tg ky at' [] m .nil):∃va vc sub,s=.cons 1 tg ky at' [] va vc sub .nil∧sub.sh=m:=by
 match s,e with
 |.cons k tg2 ky2 a2 tx2 va vc sub nx,e=>
  simp only[NT.sh,ST.cons.injEq]at e;obtain⟨rfl,rfl,rfl,rfl,rfl,e6,e7⟩:=e;match nx,e7 with
  |.nil,_=>exact⟨va,vc,sub,rfl,e6⟩
abbrev Z6':List V:=[.int .u8 0,.str [],.str [],.nils,.str [],.nils]
theorem vx{h:Heap}{k:Nat}{tg ky tx:Str}{sl:List Slo}{va vc:V}{sub:PT}{x:Itm}{most:Int}(w:WF h)(n:PH h (.cons k tg ky sl tx va vc sub .nil))(g:PG (.cons k tg ky sl tx va vc sub .nil))(a:ItmH h x):
 ao go 115 [.agg [.int .u8 (k:Int),.str tg,.str ky,va,.str tx,vc],.agg x.cells,.int .i64 most] h fun u h'=>Fr [] h h'∧∃cs e,u=.tup [.agg cs,.int .i64 e]∧aq cs=true∧cs.length=6∧0≤e∧
  (e=0→k=1∧1≤most∧most≤64∧gL x=true∧ST.count 1 tg ky (sl.map (att x)) [] (cG x sub)≠0∧(ST.count 1 tg ky (sl.map (att x)) [] (cG x sub):Int)≤most):=by
 obtain⟨h1,e_h1⟩:∃h1,h1=halloc h [.int .u8 (k:Int),.str tg,.str ky,va,.str tx,vc]:=⟨_,rfl⟩;have F_h1:Fr [] h h1:=e_h1▸Fr.halloc w _;have o_h1:Own h1 h.next [.int .u8 (k:Int),.str tg,.str ky,va,.str tx,vc]:=e_h1▸Own.new w _;obtain⟨h2,e_h2⟩:∃h2,h2=halloc h1 x.cells:=⟨_,rfl⟩;have F_h2:Fr [] h1 h2:=e_h2▸Fr.halloc F_h1.wf _;have o_h2:Own h2 h1.next x.cells:=e_h2▸Own.new F_h1.wf _;obtain⟨h3,e_h3⟩:∃h3,h3=halloc h2 [.int .u8 0,.str [],.str [],.nils,.str [],.nils]:=⟨_,rfl⟩;have F_h3:Fr [] h2 h3:=e_h3▸Fr.halloc F_h2.wf _;have o_h3:Own h3 h2.next [.int .u8 0,.str [],.str [],.nils,.str [],.nils]:=e_h3▸Own.new F_h2.wf _;have F03:=(F_h1.then F_h2).then F_h3;have n1:h1.next=h.next+1:=by rw[e_h1];rfl
 have n2:h2.next=h1.next+1:=by rw[e_h2];rfl
 have n3:h3.next=h2.next+1:=by rw[e_h3];rfl
 have op:=F_h3.get (F_h2.get o_h1);have oi:=F_h3.get o_h2;have p6:∀{h'},Fr [] h3 h'→au h' h.next 0 6=some [.int .u8 (k:Int),.str tg,.str ky,va,.str tx,vc]:=fun f=>by rw[(f.get op).ld];rfl
 have i4:∀{h'},Fr [] h3 h'→au h' h1.next 0 4=some x.cells:=fun f=>by rw[(f.get oi).ld];rfl
 have z6:∀{h'},Own h' h2.next Z6'→au h' h2.next 0 6=some Z6':=fun o=>by rw[o.ld];rfl
 by_cases c1:most<1
 ·refine ag g115 rfl ?_;simp only[fn115,evs,↓reduceIte,Nat.reduceEqDiff,Nat.reduceAdd,←e_h1,←e_h2,←e_h3,eq_true c1];refine ah (c':=Z6') F03.wf o_h3 rfl rfl rfl ?_;rintro h4 o4 F4 n4;simp only[evs,↓reduceIte,Nat.reduceEqDiff,z6 o4];exact⟨F03.fresh F4 w (by omega),_,1,rfl,rfl,rfl,by omega,fun e=>by cases e⟩
 by_cases c2:(64:Int)<most
 ·refine ag g115 rfl ?_;simp only[fn115,evs,↓reduceIte,Nat.reduceEqDiff,Nat.reduceAdd,←e_h1,←e_h2,←e_h3,eq_false c1,eq_true c2];refine ah (c':=Z6') F03.wf o_h3 rfl rfl rfl ?_;rintro h4 o4 F4 n4;simp only[evs,↓reduceIte,Nat.reduceEqDiff,z6 o4];exact⟨F03.fresh F4 w (by omega),_,1,rfl,rfl,rfl,by omega,fun e=>by cases e⟩
 refine ag g115 rfl ?_;simp only[fn115,evs,↓reduceIte,Nat.reduceEqDiff,Nat.reduceAdd,←e_h1,←e_h2,←e_h3,eq_false c1,eq_false c2,p6 (Fr.refl F03.wf)];refine aa (rD F03.wf (n.fr F03)) ?_;rintro _ h4 ⟨rfl,F4⟩;by_cases c3:PT.rC k tg ky sl tx sub=0
 ·rw[if_pos c3];simp only[evs,↓reduceIte,Nat.reduceEqDiff,p6 F4];refine aa (rD F4.wf (n.fr (F03.then F4))) ?_;rintro _ h5 ⟨rfl,F5⟩;rw[if_pos c3];simp only[evs,↓reduceIte,Nat.reduceEqDiff];refine ah (c':=Z6') F5.wf ((F4.then F5).get o_h3) rfl rfl rfl ?_;rintro h6 o6 F6 n6;simp only[evs,↓reduceIte,Nat.reduceEqDiff,z6 o6];exact⟨((F03.then F4).then F5).fresh F6 w (by omega),_,14,rfl,rfl,rfl,by omega,fun e=>by cases e⟩
 rw[if_neg c3];have k1:k=1:=by
  unfold PT.rC at c3;split at c3
  ·exact absurd rfl c3
  ·omega
 simp only[evs,↓reduceIte,Nat.reduceEqDiff,i4 F4];refine aa (my F4.wf (a.fr (F03.then F4))) ?_;rintro _ h5 ⟨rfl,F5⟩;have F35:=F4.then F5;cases c4:gL x
 ·simp only[evs,↓reduceIte,Nat.reduceEqDiff,i4 F35];refine aa (my F5.wf (a.fr (F03.then F35))) ?_;rintro _ h6 ⟨rfl,F6⟩;rw[c4];simp only[evs,↓reduceIte,Nat.reduceEqDiff];refine ah (c':=Z6') F6.wf ((F35.then F6).get o_h3) rfl rfl rfl ?_;rintro h7 o7 F7 n7;simp only[evs,↓reduceIte,Nat.reduceEqDiff,z6 o7];exact⟨(F03.then (F35.then F6)).fresh F7 w (by omega),_,6,rfl,rfl,rfl,by omega,fun e=>by cases e⟩
 have hm:x.marks.length≤8:=by
  simp only[gL,okM,Bool.and_eq_true,decide_eq_true_eq]at c4;exact c4.2.2.1
 simp only[evs,↓reduceIte,Nat.reduceEqDiff,p6 F35,i4 F35];refine aa ((E9 (.cons k tg ky sl tx va vc sub .nil)).1 x h5 F5.wf (a.fr (F03.then F35)) hm (n.fr (F03.then F35)) g) ?_;rintro u h6 ⟨s,es,F6,sl8,sz,st⟩;subst k1;obtain⟨vA,vC,sub',rfl,em⟩:=EY es;have F36:=F35.then F6;obtain⟨nh0,sl0⟩:=st [] h6 (by simp) (Fr.refl F6.wf);obtain⟨bi,oi',p1,p2⟩:=Sl.ix6 sl0 (i:=0) (Nat.lt_of_lt_of_le Nat.zero_lt_one (Nat.le_of_ble_eq_true rfl)) (r:=[]) rfl;obtain⟨q0,q1,q2,q3,q4,q5,q6⟩:=p2;have p1':aP (.ixs 6) [u,.int .i64 0]=some (.ptr bi oi'):=p1;have on:aq [.int .u8 ((1:Nat):Int),.str tg,.str ky,vA,.str [],vC]=true:=by
  have:=NH.ones nh0;simpa[NT.cells]using this
 have n6:=F6.next;have n36:=F36.next;obtain⟨h7,e_h7⟩:∃h7,h7=halloc h6 [.int .u8 0,.str [],.str [],.nils,.str [],.nils]:=⟨_,rfl⟩;have F_h7:Fr [] h6 h7:=e_h7▸Fr.halloc F6.wf _;have o_h7:Own h7 h6.next [.int .u8 0,.str [],.str [],.nils,.str [],.nils]:=e_h7▸Own.new F6.wf _;simp only[evs,↓reduceIte,p1',q6,←e_h7];refine ah (c':=[.int .u8 ((1:Nat):Int),.str tg,.str ky,vA,.str [],vC]) F_h7.wf o_h7 rfl on rfl ?_;rintro h8 o8 F8 n8;have F68:Fr [] h6 h8:=F_h7.fresh F8 F6.wf (Nat.le_refl _);have F38:=F36.then F68;have c8:∀{h'},Fr [] h8 h'→au h' h6.next 0 6=some [.int .u8 ((1:Nat):Int),.str tg,.str ky,vA,.str [],vC]:=fun f=>by rw[(f.get o8).ld];rfl
 have nh8:∀{h'},Fr [] h8 h'→NH h' (.cons 1 tg ky (sl.map (att x)) [] vA vC sub' .nil):=fun f=>(st [] _ (by simp) (F68.then f)).1;simp only[evs,↓reduceIte,c8 (Fr.refl F8.wf)];refine aa (zS F8.wf (nh8 (Fr.refl F8.wf))) ?_;rintro _ h9 ⟨F9,rfl⟩;by_cases c5:NT.rC 1 tg ky (sl.map (att x)) [] sub'=0
 ·rw[if_pos c5];simp only[evs,↓reduceIte,Nat.reduceEqDiff,show¬(14:Int)=0 by decide];refine ah (c':=Z6') F9.wf ((F38.then F9).get o_h3) rfl rfl rfl ?_;rintro h10 o10 F10 n10;simp only[evs,↓reduceIte,Nat.reduceEqDiff,z6 o10];exact⟨(F03.then (F38.then F9)).fresh F10 w (by omega),_,14,rfl,rfl,rfl,by omega,fun e=>by cases e⟩
 rw[if_neg c5];simp only[evs,↓reduceIte,c8 F9];refine aa (rA F9.wf (nh8 F9)) ?_;rintro _ h10 ⟨F10,rfl⟩;have cnt:=NT.rC_count c5;rw[em]at cnt;by_cases c6:most<(NT.rC 1 tg ky (sl.map (att x)) [] sub':Nat)
 ·simp only[evs,↓reduceIte,Nat.reduceEqDiff,eq_true c6];refine ah (c':=Z6') F10.wf (((F38.then F9).then F10).get o_h3) rfl rfl rfl ?_;rintro h11 o11 F11 n11;simp only[evs,↓reduceIte,Nat.reduceEqDiff,z6 o11];exact⟨(F03.then ((F38.then F9).then F10)).fresh F11 w (by omega),_,14,rfl,rfl,rfl,by omega,fun e=>by cases e⟩
 simp only[evs,↓reduceIte,Nat.reduceEqDiff,eq_false c6,c8 (F9.then F10)];refine ah (c':=[.int .u8 ((1:Nat):Int),.str tg,.str ky,vA,.str [],vC]) F10.wf (((F38.then F9).then F10).get o_h3) rfl on rfl ?_;rintro h11 o11 F11 n11;have r11:au h11 h2.next 0 6=some [.int .u8 ((1:Nat):Int),.str tg,.str ky,vA,.str [],vC]:=by rw[o11.ld];rfl
 simp only[evs,↓reduceIte,Nat.reduceEqDiff,r11];exact⟨(F03.then ((F38.then F9).then F10)).fresh F11 w (by omega),_,0,rfl,on,rfl,by omega,fun _=>⟨by omega,by omega,by rw[cnt];exact c5,by rw[cnt];omega⟩⟩
theorem qt{h:Heap}{b o n m:Nat}{cs:List V}(e:au h b o (n+m)=some cs):au h b o n=some (cs.take n):=by
 simp only[au]at e⊢;cases cc:c9 h b with
 |none=>rw[cc]at e;cases e
 |some C=>
  rw[cc]at e;simp only[bq]at e⊢;have tk:∀(n:Nat)(l:List V),l.length<n→cQ n l=none:=by
   intro n;induction n with
   |zero=>intro l hl;omega
   |succ n ih=>
    intro l hl;cases l with
    |nil=>rfl
    |cons a l=>rw[dZ,ih l (by simpa using hl)];rfl
  have hl:n+m≤(C.drop o).length:=by
   rcases Nat.lt_or_ge (C.drop o).length (n+m)with z|z
   ·rw[tk _ _ z]at e;cases e
   ·exact z
  rw[bC _ _ hl]at e;rw[bC _ _ (by omega)];have e':=Option.some.inj e;rw[←e',List.take_take,Nat.min_eq_left (by omega)]
def GK(Ks:List Knd):Prop:=∀q∈Ks,okK q=true∧PG (.cons q.k q.tg q.ky q.sl q.tx q.vs q.vp q.sub .nil)∧1≤q.base∧q.base≤40
theorem AU{h:Heap}{Ks:List Knd}{cap:Int}{vK:V}{x:Itm}(w:WF h)(rk:Recs Knd.cells 9 h vK Ks)(kh:∀q∈Ks,KndH h q)(gk:GK Ks)(hK:Ks.length<256)(a:ItmH h x):
 ao go 58 [.agg [vK,.int .i64 cap],.agg x.cells,.int .i64 0] h fun u h'=>Fr [] h h'∧∃e:Int,u=.int .i64 e∧0≤e∧(e=0→okI x Ks.length=true∧dX Ks cap x=0):=by
 have v1:vK.one=true:=Sl.one rk;obtain⟨h1,e_h1⟩:∃h1,h1=halloc h [vK,.int .i64 cap]:=⟨_,rfl⟩;have F_h1:Fr [] h h1:=e_h1▸Fr.halloc w _;have o_h1:Own h1 h.next [vK,.int .i64 cap]:=e_h1▸Own.new w _;obtain⟨h2,e_h2⟩:∃h2,h2=halloc h1 x.cells:=⟨_,rfl⟩;have F_h2:Fr [] h1 h2:=e_h2▸Fr.halloc F_h1.wf _;have o_h2:Own h2 h1.next x.cells:=e_h2▸Own.new F_h1.wf _;have n1:h1.next=h.next+1:=by rw[e_h1];rfl
 have F02:=F_h1.then F_h2;have oc:=F_h2.get o_h1;have c0:∀{h'},Fr [] h2 h'→ab h' h.next 0=some vK:=fun f=>(f.get oc).ld1 0;have c1:∀{h'},Fr [] h2 h'→ab h' h.next 1=some (.int .i64 cap):=fun f=>(f.get oc).ld1 1;have i1:∀{h'},Fr [] h2 h'→ab h' h1.next 1=some (.int .u8 (x.type:Int)):=fun f=>(f.get o_h2).ld1 1;have i4:∀{h'},Fr [] h2 h'→au h' h1.next 0 4=some x.cells:=fun f=>by rw[(f.get o_h2).ld];rfl
 have r0:Fr [] h2 h2:=Fr.refl F02.wf;refine ag g58 rfl ?_;simp only[fn58,evs,↓reduceIte,Nat.reduceEqDiff,Nat.reduceAdd,←e_h1,←e_h2,i4 r0,c0 r0,(Recs.fr rk F02).len];refine aa (zg F02.wf (a.fr F02) hK) ?_;rintro _ h3 ⟨rfl,F3⟩;cases d1:okI x Ks.length
 ·simp only[evs,↓reduceIte,Nat.reduceEqDiff];exact⟨F02.then F3,6,rfl,by omega,fun e=>by cases e⟩
 have ht:x.type<Ks.length:=by
  simp only[okI,Bool.and_eq_true,decide_eq_true_eq]at d1;exact d1.2.1
 simp only[evs,↓reduceIte,Nat.reduceEqDiff];refine Cf [⟨none,.p (.faddr 0) [.v 3],none⟩,⟨none,.ld 1 false (.l 0),none⟩,⟨none,.p (.faddr 1) [.v 4],none⟩,⟨none,.ld 1 false (.l 0),none⟩,⟨none,.p (.ixs 9) [.l 2,.l 0],none⟩,⟨none,.p (.faddr 0) [.l 0],none⟩,⟨none,.ld 6 true (.l 0),none⟩,⟨none,.ld 4 true (.v 4),none⟩,⟨none,.p (.faddr 1) [.v 3],none⟩,⟨none,.ld 1 false (.l 0),none⟩,⟨none,.cf 115 [.l 3,.l 2,.l 0],none⟩,⟨none,.p .mv [.l 0],none⟩,⟨none,.p (.ext 0) [.l 0],none⟩,⟨none,.p (.ext 1) [.l 1],none⟩] _ rfl ?_;have F4:=Fr.halloc F3.wf [.int .u8 0,.str [],.str [],.nils,.str [],.nils];have o4:=Own.new F3.wf [.int .u8 0,.str [],.str [],.nils,.str [],.nils];have n4:(halloc h3 [.int .u8 0,.str [],.str [],.nils,.str [],.nils]).next=h3.next+1:=rfl;generalize halloc h3 [.int .u8 0,.str [],.str [],.nils,.str [],.nils]=h4 at F4 o4 n4⊢;have F24:=F3.then F4;have F04:=F02.then F24;obtain⟨bk,ok',q,p1,p2,p3,p4⟩:=Recs.ix e8 (Recs.fr rk F04) .u8 (x.type:Int) (by omega) (by omega);rw[Int.toNat_natCast]at p4;have qm:=List.mem_of_getElem? p4;obtain⟨okq,pgq,_⟩:=gk q qm;have p6:au h4 bk ok' 6=some q.part:=qt (m:=3) p3;simp only[evs,↓reduceIte,Nat.reduceEqDiff,eff,c0 F24,c1 F24,i1 F24,i4 F24,p1,p6];refine aa (vx F4.wf ((kh q qm).fr F04) pgq (a.fr F04)) ?_;rintro _ h5 ⟨F5,cs,e,rfl,on,cl,e0,he⟩;have F25:=F24.then F5;obtain⟨bk',ok'',q',p1',p2',p3',p4'⟩:=Recs.ix e8 (Recs.fr rk (F04.then F5)) .u8 (x.type:Int) (by omega) (by omega);rw[Int.toNat_natCast,p4]at p4';cases p4';rw[p1]at p1';cases p1';have p6':au h5 bk ok' 6=some q.part:=qt (m:=3) p3';simp only[evs,eff,de,r8];refine ah (c':=cs) F5.wf (F5.get o4) cl on (by
  rw[cW _ _ _ (by show 0+cs.length≤6;omega)];simp[V.cells];omega) ?_
 rintro h6 o6 F6 n6;have n3:=F3.next;have n02:=F02.next;have n5:=F5.next;simp only[evs,↓reduceIte,Nat.reduceEqDiff,Nat.reduceAdd,DF,eff,Nat.reduceSub,c0 F24,c1 F24,i1 F24,i4 F24,p6];have Fin:Fr [] h h6:=((F02.then F3).then (F4.then F5)).fresh F6 w (by omega);by_cases d2:(0:Int)<e
 ·simp only[↓reduceIte,eq_true d2];exact⟨Fin,14,rfl,by omega,fun e=>by cases e⟩
 ·simp only[↓reduceIte,eq_false d2];refine⟨Fin,0,rfl,by omega,fun _=>?_⟩;obtain⟨y1,y2,y3,y4,y5,y6⟩:=he (by omega);have er:dX Ks cap x=fL q.k q.tg q.ky q.sl q.tx q.sub x cap:=by simp[dX,p4]
  simp only[okK,Bool.and_eq_true,decide_eq_true_eq]at okq;rw[er];unfold fL;rw[if_neg (by omega),if_neg okq.2,y4,if_neg (by decide),if_neg (by intro z;rcases z with z|z;exact y5 z;omega)]
def Itm.ent(x:Itm)(b:Int)(k:Bool):List V:=x.cells++[.int .i64 b,.bool k]
theorem yU{h:Heap}{Ks:List Knd}{cap:Int}{vK:V}{x:Itm}(w:WF h)(rk:Recs Knd.cells 9 h vK Ks)(a:ItmH h x)(ht:x.type<Ks.length):
 ao go 59 [.agg [vK,.int .i64 cap],.agg x.cells] h fun u h'=>u=.agg (x.ent (aO Ks x) false)∧Fr [] h h':=by
 have v1:vK.one=true:=Sl.one rk;obtain⟨h1,e_h1⟩:∃h1,h1=halloc h [vK,.int .i64 cap]:=⟨_,rfl⟩;have F_h1:Fr [] h h1:=e_h1▸Fr.halloc w _;have o_h1:Own h1 h.next [vK,.int .i64 cap]:=e_h1▸Own.new w _;obtain⟨h2,e_h2⟩:∃h2,h2=halloc h1 x.cells:=⟨_,rfl⟩;have F_h2:Fr [] h1 h2:=e_h2▸Fr.halloc F_h1.wf _;have o_h2:Own h2 h1.next x.cells:=e_h2▸Own.new F_h1.wf _;obtain⟨h3,e_h3⟩:∃h3,h3=halloc h2 [.int .u64 0,.int .u8 0,.str [],.nils,.int .i64 0,.bool false]:=⟨_,rfl⟩;have F_h3:Fr [] h2 h3:=e_h3▸Fr.halloc F_h2.wf _;have o_h3:Own h3 h2.next [.int .u64 0,.int .u8 0,.str [],.nils,.int .i64 0,.bool false]:=e_h3▸Own.new F_h2.wf _;have n1:h1.next=h.next+1:=by rw[e_h1];rfl
 have n2:h2.next=h1.next+1:=by rw[e_h2];rfl
 have F23:=F_h3;have F03:=F_h1.then (F_h2.then F_h3);have c0:ab h3 h.next 0=some vK:=(F_h3.get (F_h2.get o_h1)).ld1 0;have i1:ab h3 h1.next 1=some (.int .u8 (x.type:Int)):=(F_h3.get o_h2).ld1 1;have i4:au h3 h1.next 0 4=some x.cells:=by rw[(F_h3.get o_h2).ld];rfl
 obtain⟨bk,ok',q,p1,p2,p3,p4⟩:=Recs.ix e8 (Recs.fr rk F03) .u8 (x.type:Int) (by omega) (by omega);rw[Int.toNat_natCast]at p4;have p6:ab h3 bk (ok'+6)=some (.int .i64 q.base):=p2 6 (by omega);have eb:aO Ks x=q.base:=by simp[aO,p4]
 have u1:bo [.int .u64 0,.int .u8 0,.str [],.nils,.int .i64 0,.bool false] 0 x.cells=some (x.cells++[.int .i64 0,.bool false]):=rfl;have u2:∀b:Int,bo (x.cells++[.int .i64 0,.bool false]) 4 [.int .i64 b]=some (x.ent b false):=fun _=>rfl;refine ag g59 rfl ?_;simp only[fn59,evs,↓reduceIte,Nat.reduceEqDiff,Nat.reduceAdd,Nat.reduceLT,eff,show x.cells.length=4 from rfl,u1,u2,←e_h1,←e_h2,←e_h3,i4,c0,i1,p1,p6];refine ah (c':=x.ent q.base false) F_h3.wf o_h3 rfl (by show aq (x.cells++[.int .i64 q.base,.bool false])=true;rw[aL,a.one];rfl) rfl ?_;rintro h4 o4 F4 n4;have ld:au h4 h2.next 0 6=some (x.ent q.base false):=by rw[o4.ld];rfl
 simp only[evs,↓reduceIte,Nat.reduceEqDiff,Nat.reduceAdd,DF,Nat.reduceSub,ld,i4,c0,i1,p6];exact⟨by rw[eb],F03.fresh F4 w (by omega)⟩
def e6:List V:=[.int .u8 0,.str [],.str [],.nils,.str [],.nils]
def qd:Str:=[114,111,119]
theorem pH(a n:Nat)(b:Int)(hb:b=n)(h:n≠0):aP (.ib .rem) [.int .u8 (a:Int),.int .u8 b]=some (.int .u8 ((a%n:Nat):Int)):=by
 subst hb;rw[j4 _ _ _ (by omega)];congr 2
theorem ER(a n:Nat)(b:Int)(hb:b=n)(h:n≠0)(ha:a<256):aP (.ib .quo) [.int .u8 (a:Int),.int .u8 b]=some (.int .u8 ((a/n:Nat):Int)):=by
 subst hb;have:=Nat.div_le_self a n;rw[lT _ _ _ (by omega),show Int.tdiv (a:Int) n=((a/n:Nat):Int)from(Int.ofNat_tdiv a n).symm];generalize a/n=q at *;rw[A5 _ (by omega) (by omega)]
theorem yJ{h:Heap}{b:Nat}(w:WF h)(hb:b<256):
 ao go 56 [.int .u8 (b:Int)] h fun u h'=>Fr [] h h'∧∃Ks,(∀Z h'',(∀z∈Z,z<h.next)→Fr Z h' h''→Recs Knd.cells 9 h'' u Ks∧∀q∈Ks,KndH h'' q)∧GK Ks∧okR Ks 12=true∧Ks.length=3:=by
 obtain⟨h1,e_h1⟩:∃h1,h1=halloc h [.str [110],.int .u8 3,.str [],.str [116,101,120,116],.int .u8 1,.str []]:=⟨_,rfl⟩;have F_h1:Fr [] h h1:=e_h1▸Fr.halloc w _;have o_h1:Own h1 h.next [.str [110],.int .u8 3,.str [],.str [116,101,120,116],.int .u8 1,.str []]:=e_h1▸Own.new w _;obtain⟨h2,e_h2⟩:∃h2,h2=halloc h1 [.int .u8 3,.str [],.str [],.nils,.str [],.nils]:=⟨_,rfl⟩;have F_h2:Fr [] h1 h2:=e_h2▸Fr.halloc F_h1.wf _;have o_h2:Own h2 h1.next [.int .u8 3,.str [],.str [],.nils,.str [],.nils]:=e_h2▸Own.new F_h1.wf _;obtain⟨h3,e_h3⟩:∃h3,h3=halloc h2 [.int .u8 0,.str [],.str [],.nils,.str [],.nils]:=⟨_,rfl⟩;have F_h3:Fr [] h2 h3:=e_h3▸Fr.halloc F_h2.wf _;have o_h3:Own h3 h2.next [.int .u8 0,.str [],.str [],.nils,.str [],.nils]:=e_h3▸Own.new F_h2.wf _;have n1:h1.next=h.next+1:=by rw[e_h1];rfl
 have n2:h2.next=h1.next+1:=by rw[e_h2];rfl
 have n3:h3.next=h2.next+1:=by rw[e_h3];rfl
 refine ag g56 rfl ?_;simp only[fn56,evs,↓reduceIte,Nat.reduceAdd,Nat.reduceLT,←e_h1,←e_h2,←e_h3];refine ah (c':=[.int .u8 1,.str qd,.str [],.slice h.next 0 2 2,.str [],.slice h1.next 0 1 1]) F_h3.wf o_h3 rfl rfl rfl ?_;rintro h4 o4 F4 n4;obtain⟨h5,e_h5⟩:∃h5,h5=halloc h4 [.str [105,100],.int .u8 2,.str []]:=⟨_,rfl⟩;have F_h5:Fr [] h4 h5:=e_h5▸Fr.halloc F4.wf _;have o_h5:Own h5 h4.next [.str [105,100],.int .u8 2,.str []]:=e_h5▸Own.new F4.wf _;obtain⟨h6,e_h6⟩:∃h6,h6=halloc h5 [.int .u8 2,.str [],.str [],.nils,.str [35],.nils,.int .u8 4,.str [],.str [],.nils,.str [],.nils]:=⟨_,rfl⟩;have F_h6:Fr [] h5 h6:=e_h6▸Fr.halloc F_h5.wf _;have o_h6:Own h6 h5.next [.int .u8 2,.str [],.str [],.nils,.str [35],.nils,.int .u8 4,.str [],.str [],.nils,.str [],.nils]:=e_h6▸Own.new F_h5.wf _;obtain⟨h7,e_h7⟩:∃h7,h7=halloc h6 [.int .u8 0,.str [],.str [],.nils,.str [],.nils]:=⟨_,rfl⟩;have F_h7:Fr [] h6 h7:=e_h7▸Fr.halloc F_h6.wf _;have o_h7:Own h7 h6.next [.int .u8 0,.str [],.str [],.nils,.str [],.nils]:=e_h7▸Own.new F_h6.wf _;simp only[evs,↓reduceIte,Nat.reduceAdd,Nat.reduceLT,←e_h5,←e_h6,←e_h7];refine ah (c':=[.int .u8 1,.str [104,101,97,100],.str [104],.slice h4.next 0 1 1,.str [],.slice h5.next 0 2 2]) F_h7.wf o_h7 rfl rfl rfl ?_;rintro h8 o8 F8 n8;obtain⟨h9,e_h9⟩:∃h9,h9=halloc h8 [.int .u8 3,.str [],.str [],.nils,.str [],.nils]:=⟨_,rfl⟩;have F_h9:Fr [] h8 h9:=e_h9▸Fr.halloc F8.wf _;have o_h9:Own h9 h8.next [.int .u8 3,.str [],.str [],.nils,.str [],.nils]:=e_h9▸Own.new F8.wf _;obtain⟨ha,e_ha⟩:∃ha,ha=halloc h9 [.str [111,102],.int .u8 2,.str []]:=⟨_,rfl⟩;have F_ha:Fr [] h9 ha:=e_ha▸Fr.halloc F_h9.wf _;have o_ha:Own ha h9.next [.str [111,102],.int .u8 2,.str []]:=e_ha▸Own.new F_h9.wf _;obtain⟨hb',e_hb'⟩:∃hb',hb'=halloc ha [.int .u8 1,.str [98],.str [98,50],.nils,.str [],.slice h8.next 0 1 1,.int .u8 5,.str [116,97,103],.str [],.slice h9.next 0 1 1,.str [],.nils]:=⟨_,rfl⟩;have F_hb':Fr [] ha hb':=e_hb'▸Fr.halloc F_ha.wf _;have o_hb':Own hb' ha.next [.int .u8 1,.str [98],.str [98,50],.nils,.str [],.slice h8.next 0 1 1,.int .u8 5,.str [116,97,103],.str [],.slice h9.next 0 1 1,.str [],.nils]:=e_hb'▸Own.new F_ha.wf _;obtain⟨hc,e_hc⟩:∃hc,hc=halloc hb' [.int .u8 0,.str [],.str [],.nils,.str [],.nils]:=⟨_,rfl⟩;have F_hc:Fr [] hb' hc:=e_hc▸Fr.halloc F_hb'.wf _;have o_hc:Own hc hb'.next [.int .u8 0,.str [],.str [],.nils,.str [],.nils]:=e_hc▸Own.new F_hb'.wf _;simp only[evs,↓reduceIte,Nat.reduceAdd,Nat.reduceLT,←e_h9,←e_ha,←e_hb',←e_hc];refine ah (c':=[.int .u8 1,.str qd,.str [],.nils,.str [],.slice ha.next 0 2 2]) F_hc.wf o_hc rfl rfl rfl ?_;rintro hd od Fd nd;have n4':h4.next=h2.next+1:=by omega
 have n5:h5.next=h4.next+1:=by rw[e_h5];rfl
 have n6:h6.next=h5.next+1:=by rw[e_h6];rfl
 have n7:h7.next=h6.next+1:=by rw[e_h7];rfl
 have n9:h9.next=h8.next+1:=by rw[e_h9];rfl
 have na:ha.next=h9.next+1:=by rw[e_ha];rfl
 have nb:hb'.next=ha.next+1:=by rw[e_hb'];rfl
 have nc:hc.next=hb'.next+1:=by rw[e_hc];rfl
 have F47:=F_h5.then (F_h6.then F_h7);have F8c:=F_h9.then (F_ha.then (F_hb'.then F_hc));have o4d:=Fd.own _ _ (by simp;omega) (F8c.get (F8.own _ _ (by simp;omega) (F47.get o4)));have o8d:=Fd.own _ _ (by simp;omega) (F8c.get o8);have p4:au hd h2.next 0 6=some [.int .u8 1,.str qd,.str [],.slice h.next 0 2 2,.str [],.slice h1.next 0 1 1]:=by rw[o4d.ld];rfl
 have p8:au hd h6.next 0 6=some [.int .u8 1,.str [104,101,97,100],.str [104],.slice h4.next 0 1 1,.str [],.slice h5.next 0 2 2]:=by rw[o8d.ld];rfl
 have pd:au hd hb'.next 0 6=some [.int .u8 1,.str qd,.str [],.nils,.str [],.slice ha.next 0 2 2]:=by rw[od.ld];rfl
 let k0:Knd:=⟨1,qd,[],[([110],3,[]),([116,101,120,116],1,[])],[],.slice h.next 0 2 2,.slice h1.next 0 1 1,.cons 3 [] [] [] [] .nils .nils .nil .nil,10+((b%7:Nat):Int),false,((b%4:Nat):Int)⟩;let k1:Knd:=⟨1,[104,101,97,100],[104],[([105,100],2,[])],[],.slice h4.next 0 1 1,.slice h5.next 0 2 2,.cons 2 [] [] [] [35] .nils .nils .nil (.cons 4 [] [] [] [] .nils .nils .nil .nil),6+((b%3:Nat):Int),true,((b/4%3:Nat):Int)⟩;let k2:Knd:=⟨1,qd,[],[],[],.nils,.slice ha.next 0 2 2,.cons 1 [98] [98,50] [] [] .nils (.slice h8.next 0 1 1) (.cons 3 [] [] [] [] .nils .nils .nil .nil) (.cons 5 [116,97,103] [] [([111,102],2,[])] [] (.slice h9.next 0 1 1) .nils .nil .nil),20,decide (((b%16:Nat):Int)=15),((b/8%3:Nat):Int)⟩;have m7:b%7<7:=Nat.mod_lt _ (by decide);have m4:b%4<4:=Nat.mod_lt _ (by decide);have m3:b%3<3:=Nat.mod_lt _ (by decide);have m43:b/4%3<3:=Nat.mod_lt _ (by decide);have m83:b/8%3<3:=Nat.mod_lt _ (by decide);obtain⟨he,e_he⟩:∃he,he=halloc hd (k0.cells++(k1.cells++(k2.cells++[]))):=⟨_,rfl⟩;have F_he:Fr [] hd he:=e_he▸Fr.halloc Fd.wf _;have o_he:Own he hd.next (k0.cells++(k1.cells++(k2.cells++[]))):=e_he▸Own.new Fd.wf _;have t8:∀{B:Nat}{cs:List V},Own h8 B cs→B<hb'.next→Own he B cs:=fun o l=>F_he.get (Fd.own _ _ (by simp;omega) (F8c.get o));have t4:∀{B:Nat}{cs:List V},Own h4 B cs→B<h6.next→Own he B cs:=fun o l=>t8 (F8.own _ _ (by simp;omega) (F47.get o)) (by omega);have x1:=t4 (F4.own _ _ (by simp;omega) ((F_h2.then F_h3).get o_h1)) (by omega);have x2:=t4 (F4.own _ _ (by simp;omega) (F_h3.get o_h2)) (by omega);have x5:=t8 (F8.own _ _ (by simp;omega) ((F_h6.then F_h7).get o_h5)) (by omega);have x6:=t8 (F8.own _ _ (by simp;omega) (F_h7.get o_h6)) (by omega);have x9:=F_he.get (Fd.own _ _ (by simp;omega) ((F_ha.then (F_hb'.then F_hc)).get o_h9));have xa:=F_he.get (Fd.own _ _ (by simp;omega) ((F_hb'.then F_hc).get o_ha));have xb:=F_he.get (Fd.own _ _ (by simp;omega) (F_hc.get o_hb'));have h3n:h.next≤h2.next:=by omega
 have FF:Fr [] h he:=((((((F_h1.then (F_h2.then F_h3)).fresh F4 w (by omega)).then F47).fresh F8 w (by omega)).then F8c).fresh Fd w (by omega)).then F_he;have gk:GK [k0,k1,k2]:=by
  intro q m;simp only[List.mem_cons,List.not_mem_nil,or_false]at m;rcases m with rfl|rfl|rfl
  ·refine⟨?_,by simp[PG,PT.len,k0],show 1≤10+((b%7:Nat):Int) by omega,show 10+((b%7:Nat):Int)≤40 by omega⟩;have:okB (10+((b%7:Nat):Int))=true:=by simp only[okB,Bool.and_eq_true,decide_eq_true_eq];omega
   show(okB (10+((b%7:Nat):Int))&&_)=true;rw[this];rfl
  ·refine⟨?_,by simp[PG,PT.len,k1],show 1≤6+((b%3:Nat):Int) by omega,show 6+((b%3:Nat):Int)≤40 by omega⟩;have:okB (6+((b%3:Nat):Int))=true:=by simp only[okB,Bool.and_eq_true,decide_eq_true_eq];omega
   show(okB (6+((b%3:Nat):Int))&&_)=true;rw[this];rfl
  ·exact⟨rfl,by simp[PG,PT.len,k2],show(1:Int)≤20 by omega,show(20:Int)≤40 by omega⟩
 have fin:Fr [] h he∧∃Ks,(∀Z h'',(∀z∈Z,z<h.next)→Fr Z he h''→Recs Knd.cells 9 h'' (.slice hd.next 0 3 3) Ks∧∀q∈Ks,KndH h'' q)∧GK Ks∧okR Ks 12=true∧Ks.length=3:=by
  refine⟨FF,[k0,k1,k2],?_,gk,?_,rfl⟩
  ·intro Z H hZ f;have go:∀{B:Nat}{cs:List V},Own he B cs→h.next≤B→Own H B cs:=fun o l=>f.own _ _ (fun m=>by have:=hZ _ m;omega) o;have x1:=go x1 (by omega);have x2:=go x2 (by omega);have x5:=go x5 (by omega);have x6:=go x6 (by omega);have x9:=go x9 (by omega);have xa:=go xa (by omega);have xb:=go xb (by omega);refine⟨Sl.lit (go o_he (by omega)) rfl,?_⟩;intro q m;simp only[List.mem_cons,List.not_mem_nil,or_false]at m;rcases m with rfl|rfl|rfl
   ·exact⟨Nat.le_of_ble_eq_true rfl,Sl.lit x1 rfl,Nat.le_of_ble_eq_true rfl,Sl.lit x2 rfl,Nat.le_of_ble_eq_true rfl,⟨Nat.le_of_ble_eq_true rfl,⟨rfl,rfl⟩,Nat.le_of_ble_eq_true rfl,⟨rfl,rfl⟩,Nat.le_of_ble_eq_true rfl,trivial,trivial⟩,trivial⟩
   ·exact⟨Nat.le_of_ble_eq_true rfl,Sl.lit x5 rfl,Nat.le_of_ble_eq_true rfl,Sl.lit x6 rfl,Nat.le_of_ble_eq_true rfl,⟨Nat.le_of_ble_eq_true rfl,⟨rfl,rfl⟩,Nat.le_of_ble_eq_true rfl,⟨rfl,rfl⟩,Nat.le_of_ble_eq_true rfl,trivial,⟨Nat.le_of_ble_eq_true rfl,⟨rfl,rfl⟩,Nat.le_of_ble_eq_true rfl,⟨rfl,rfl⟩,Nat.le_of_ble_eq_true rfl,trivial,trivial⟩⟩,trivial⟩
   ·exact⟨Nat.le_of_ble_eq_true rfl,⟨rfl,rfl⟩,Nat.le_of_ble_eq_true rfl,Sl.lit xb rfl,Nat.le_of_ble_eq_true rfl,⟨Nat.le_of_ble_eq_true rfl,⟨rfl,rfl⟩,Nat.le_of_ble_eq_true rfl,Sl.lit x9 rfl,Nat.le_of_ble_eq_true rfl,⟨Nat.le_of_ble_eq_true rfl,⟨rfl,rfl⟩,Nat.le_of_ble_eq_true rfl,⟨rfl,rfl⟩,Nat.le_of_ble_eq_true rfl,trivial,trivial⟩,⟨Nat.le_of_ble_eq_true rfl,Sl.lit xa rfl,Nat.le_of_ble_eq_true rfl,⟨rfl,rfl⟩,Nat.le_of_ble_eq_true rfl,trivial,trivial⟩⟩,trivial⟩
  ·have:[k0,k1,k2].all okK=true:=List.all_eq_true.2 fun q m=>(gk q m).1;unfold okR;rw[this];rfl
 simp(disch:=omega) only[evs,↓reduceIte,Nat.reduceEqDiff,Nat.reduceAdd,Nat.reduceLT,ai,p4,p8,pd,pH b 7 7 rfl (by decide),pH b 4 4 rfl (by decide),pH b 3 3 rfl (by decide),ER b 4 4 rfl (by decide) hb,pH (b/4) 3 3 rfl (by decide),pH b 16 16 rfl (by decide),ER b 8 8 rfl (by decide) hb,pH (b/8) 3 3 rfl (by decide)];rw[e_he]at fin;exact fin
theorem FM{call:av}{env:T V}{h:Heap}{k:Nat}{op:IOp}{cs:List V}{o:Option (Nat×Nat)}{Br Rr:List Nat}{reads:List (Nat×Nat×Nat)}{sets:List (Nat×Nat)}{Q:Ex→T V→Heap→Prop}(A B:List IStep)(hk:A.length=k)(lc:∀loc,fZ loc env op=some (cs,o))
 (x:WD call env ((A.map fun s=>(s,none))++(⟨none,op,none⟩,some (dC h.next o,cs))::B.map fun s=>(s,none)) [] [halloc h cs] (halloc h cs) (DF call (A++⟨none,op,none⟩::B) reads sets env (Q .norm))):
 W call (.dops (A++⟨none,op,none⟩::B) [k] Br Rr reads sets) env h Q:=by
 refine(zB _ _ _ _ _ _ _).2 ?_;have e:∀loc,lay call env [k] (⟨none,op,none⟩::B) k loc h=some ((⟨none,op,none⟩,some (dC h.next o,cs))::B.map (fun s=>(s,none)),halloc h cs):=by
  intro loc;have c:List.contains [k] k=true:=by simp
  simp only[lay,c,cond_true,lc,kw B (k+1) _ _ (Nat.lt_succ_self k)]
 rw[r7 A 0 [] (by omega) e,gA];exact x
theorem AO{loc:List V}{env:T V}{op:IOp}{cs:List V}{o:Option (Nat×Nat)}(n:Nat)(e:fZ loc env op=some (cs,o)):bH loc env op (dC n o) cs=true:=by
 cases o with
 |none=>simp only[bH,e,lid,dC,dB,dm,Bool.and_self]
 |some q=>obtain⟨q,r⟩:=q;simp only[bH,e,lid,dC,dB,dm,Bool.and_self]
def zW:List Str:=[[],[97],[114,111,119],[116,119,111,32,119,111,114,100,115],[32,32],[126,33,45,44],[97,32,108,111,110,103,101,114,32,116,101,120,116,32,111,102,32,116,104,105,115,32,107,105,110,100],[57]]
theorem GO(loc:List V)(env:T V)(n:Nat):bH loc env (.bs [(.str [])] [(0,1),(1,1),(2,1),(3,1),(4,1),(5,1),(6,1),(7,1)] 8 [.c (.str []),.c (.str [97]),.c (.str [114,111,119]),.c (.str [116,119,111,32,119,111,114,100,115]),.c (.str [32,32]),.c (.str [126,33,45,44]),.c (.str [97,32,108,111,110,103,101,114,32,116,101,120,116,32,111,102,32,116,104,105,115,32,107,105,110,100]),.c (.str [57])]) (.slice n 0 8 8) (zW.map V.str)=true:=AO (o:=some (8,8)) n rfl
theorem vP(b n k:Nat):dC b (some (n,k))=.slice b 0 n k:=rfl
abbrev GB:List IStep:=[⟨none,.p (.ixa 4 1) [.v 1,.c (.int .i64 0)],none⟩,⟨none,.ld 1 false (.l 0),none⟩,⟨none,.p (.ib .rem) [.l 0,.c (.int .u8 60)],none⟩,⟨none,.p (.conv .u64) [.l 0],none⟩,⟨none,.p (.ib .add) [.c (.int .u64 1),.l 0],none⟩,⟨none,.p (.ixa 4 1) [.v 1,.c (.int .i64 1)],none⟩,⟨none,.ld 1 false (.l 0),none⟩,⟨none,.p (.ib .rem) [.l 0,.c (.int .u8 3)],none⟩]
abbrev Gx:List IStep:=[⟨none,.p (.ixa 4 1) [.v 1,.c (.int .i64 2)],none⟩,⟨none,.ld 1 false (.l 0),none⟩,⟨none,.p (.ib .rem) [.l 0,.c (.int .u8 8)],none⟩,⟨none,.p (.ixs 1) [.l 3,.l 0],none⟩,⟨none,.ld 1 false (.l 0),none⟩,⟨none,.p (.build [(.int .u64 0),(.int .u8 0),(.str []),.nils] [(0,1),(1,1),(2,1)]) [.l 9,.l 6,.l 0],none⟩,⟨none,.al [(.int .u64 0),(.int .u8 0),(.str []),.nils],none⟩,⟨none,.st 4 (.l 0) (.l 1),none⟩]
theorem HH(x:Int)(a n:Nat)(b:Int)(hx:x=a)(hb:b=n)(h:n≠0):aP (.ib .rem) [.int .i64 x,.int .i64 b]=some (.int .i64 ((a%n:Nat):Int)):=by
 subst hb;subst hx;rw[j4 _ _ _ (by omega)];congr 2
theorem rU(l:List Str):(l.flatMap sS).length=l.length:=by
 induction l with
 |nil=>rfl
 |cons a l ih=>simp only[List.flatMap_cons,List.length_append,ih,List.length_cons];show 1+_=_;omega
theorem _root_.Go.Ev.Gs.keep{h h':Heap}{B e:Nat}{v:V}{cs:List V}{Z:List Nat}(g:Gs h B e v cs)(f:Fr Z h h')(hZ:∀z∈Z,z<B):Gs h' B e v cs:=by
 rcases g with z|⟨b,n,z1,z2,z3,z4,o⟩
 ·exact .inl z
 ·exact .inr ⟨b,n,z1,z2,z3,z4,f.own _ _ (fun m=>by have:=hZ _ m;omega) o⟩
theorem _root_.Go.Ev.Gs.vb{h:Heap}{B e:Nat}{v:V}{cs:List V}(g:Gs h B e v cs):∀z∈vb v,B≤z:=by
 rcases g with⟨rfl,_⟩|⟨b,n,rfl,_,_,z4,_⟩
 ·simp[Go.Ev.vb]
 ·intro z m;simp[Go.Ev.vb]at m;omega
theorem _root_.Go.Ev.Gs.le{h:Heap}{B C e:Nat}{v:V}{cs:List V}(g:Gs h B e v cs)(l:C≤B):Gs h C e v cs:=by
 rcases g with z|⟨b,n,z1,z2,z3,z4,o⟩
 ·exact .inl z
 ·exact .inr ⟨b,n,z1,z2,z3,by omega,o⟩
structure ItmG(N:Nat)(h:Heap)(x:Itm):Prop where
 k:x.key<18446744073709551616
 t:x.type<256
 g:Gs h N 1 x.vm (x.marks.flatMap sS)
 n:x.marks.length≤4096
 l:x.text.length<16777216
theorem ItmG.H{N:Nat}{h:Heap}{x:Itm}(a:ItmG N h x):ItmH h x:=⟨a.k,a.t,Sl.a (Gs.sl (n:=x.marks.length) a.g (by rw[rU];exact(Nat.mul_one _).symm) (by omega)),a.n,a.l⟩
theorem ItmG.keep{N:Nat}{h h':Heap}{x:Itm}{Z:List Nat}(a:ItmG N h x)(f:Fr Z h h')(d:∀z∈Z,z∉vb x.vm):ItmG N h' x:=by
 refine⟨a.k,a.t,?_,a.n,a.l⟩;rcases a.g with z|⟨b,n,z1,z2,z3,z4,o⟩
 ·exact .inl z
 ·exact .inr ⟨b,n,z1,z2,z3,z4,f.own _ _ (fun m=>d _ m (by rw[z1];simp[vb])) o⟩
def mk3:List Str:=[[97],[98,50],[107,101,121]]
theorem C3{h:Heap}{b0 b1 b2 b3:Nat}(w:WF h)(h0:b0<256)(h1':b1<256)(h2':b2<256)(h3':b3<256):
 ao go 112 [.agg [.int .u8 (b0:Int),.int .u8 (b1:Int),.int .u8 (b2:Int),.int .u8 (b3:Int)]] h fun u h'=>Fr [] h h'∧∃x:Itm,u=.agg x.cells∧ItmG h.next h' x:=by
 obtain⟨h1,e_h1⟩:∃h1,h1=halloc h [.int .u8 (b0:Int),.int .u8 (b1:Int),.int .u8 (b2:Int),.int .u8 (b3:Int)]:=⟨_,rfl⟩;have F_h1:Fr [] h h1:=e_h1▸Fr.halloc w _;have o_h1:Own h1 h.next [.int .u8 (b0:Int),.int .u8 (b1:Int),.int .u8 (b2:Int),.int .u8 (b3:Int)]:=e_h1▸Own.new w _;obtain⟨h2,e_h2⟩:∃h2,h2=halloc h1 [.int .u64 0,.int .u8 0,.str [],.nils]:=⟨_,rfl⟩;have F_h2:Fr [] h1 h2:=e_h2▸Fr.halloc F_h1.wf _;have o_h2:Own h2 h1.next [.int .u64 0,.int .u8 0,.str [],.nils]:=e_h2▸Own.new F_h1.wf _;have l0:ab h2 h.next 0=some (.int .u8 (b0:Int)):=(F_h2.get o_h1).ld1 0;have l1:ab h2 h.next 1=some (.int .u8 (b1:Int)):=(F_h2.get o_h1).ld1 1;have l2:ab h2 h.next 2=some (.int .u8 (b2:Int)):=(F_h2.get o_h1).ld1 2;have l3:ab h2 h.next 3=some (.int .u8 (b3:Int)):=(F_h2.get o_h1).ld1 3;refine ag g112 rfl ?_;simp only[fn112,evs,↓reduceIte,←e_h1,←e_h2];have n1:h1.next=h.next+1:=by rw[e_h1];rfl
 have n2:h2.next=h1.next+1:=by rw[e_h2];rfl
 refine FM (op:=.bs [(.str [])] [(0,1),(1,1),(2,1),(3,1),(4,1),(5,1),(6,1),(7,1)] 8 [.c (.str []),.c (.str [97]),.c (.str [114,111,119]),.c (.str [116,119,111,32,119,111,114,100,115]),.c (.str [32,32]),.c (.str [126,33,45,44]),.c (.str [97,32,108,111,110,103,101,114,32,116,101,120,116,32,111,102,32,116,104,105,115,32,107,105,110,100]),.c (.str [57])]) GB Gx rfl (fun _=>rfl) (cs:=zW.map V.str) (o:=some (8,8)) ?_;obtain⟨h3,e_h3⟩:∃h3,h3=halloc h2 (zW.map V.str):=⟨_,rfl⟩;have F_h3:Fr [] h2 h3:=e_h3▸Fr.halloc F_h2.wf _;have o_h3:Own h3 h2.next (zW.map V.str):=e_h3▸Own.new F_h2.wf _;have F23:=F_h3;have m0:ab h3 h.next 0=some (.int .u8 (b0:Int)):=(F_h3.get (F_h2.get o_h1)).ld1 0;have m1:ab h3 h.next 1=some (.int .u8 (b1:Int)):=(F_h3.get (F_h2.get o_h1)).ld1 1;have m2:ab h3 h.next 2=some (.int .u8 (b2:Int)):=(F_h3.get (F_h2.get o_h1)).ld1 2;obtain⟨h4,e_h4⟩:∃h4,h4=halloc h3 [.int .u64 0,.int .u8 0,.str [],.nils]:=⟨_,rfl⟩;have F_h4:Fr [] h3 h4:=e_h4▸Fr.halloc F_h3.wf _;have o_h4:Own h4 h3.next [.int .u64 0,.int .u8 0,.str [],.nils]:=e_h4▸Own.new F_h3.wf _;have n3:h3.next=h2.next+1:=by rw[e_h3];rfl
 have xa:∀i:Nat,i<4→aP (.ixa 4 1) [.ptr h.next 0,.int .i64 (i:Int)]=some (.ptr h.next i):=fun i hi=>by rw[sW 1 h.next 0 4 _ _ (by omega) (by omega)];simp
 have x0:aP (.ixa 4 1) [.ptr h.next 0,.int .i64 0]=some (.ptr h.next 0):=xa 0 (by omega);have x1:aP (.ixa 4 1) [.ptr h.next 0,.int .i64 1]=some (.ptr h.next 1):=xa 1 (by omega);have x2:aP (.ixa 4 1) [.ptr h.next 0,.int .i64 2]=some (.ptr h.next 2):=xa 2 (by omega);have x3:aP (.ixa 4 1) [.ptr h.next 0,.int .i64 3]=some (.ptr h.next 3):=xa 3 (by omega);have ge8:b2%8<8:=Nat.mod_lt _ (by decide);obtain⟨bt,ot,x8,y8,_⟩:=Sl.ix (esz:=1) (v:=.slice h2.next 0 8 8) (n:=8) (Sl.lit o_h3 rfl) .u8 ((b2%8:Nat):Int) (by omega) (by omega);obtain⟨tx,tb⟩:∃tx,zW[b2%8]? =some tx∧tx.length<30:=by
  have:b2%8<8:=Nat.mod_lt _ (by decide);match b2%8,this with
  |0,_|1,_|2,_|3,_|4,_|5,_|6,_|7,_=>exact⟨_,rfl,by decide⟩
 have t0:ab h3 bt ot=some (.str tx):=by
  have:=y8 0 (by omega);rw[Int.toNat_natCast,Nat.mul_one,Nat.add_zero,Nat.add_zero,List.getElem?_map,tb.1]at this;exact this
 simp(disch:=omega) only[evs,↓reduceIte,Nat.reduceEqDiff,eff,m0,m1,m2,←e_h3,GB,Gx,de,GO,vP,pH b0 60 60 rfl (by decide),pH b1 3 3 rfl (by decide),pH b2 8 8 rfl (by decide),t0,←e_h4,x0,x1,x2,x8,bU];refine ah (c':=[.int .u64 (1+((b0%60:Nat):Int)),.int .u8 ((b1%3:Nat):Int),.str tx,.nils]) F_h4.wf o_h4 rfl rfl rfl ?_;rintro h5 o5 F5 n5;have F4:=F_h4;have k0:ab h4 h.next 0=some (.int .u8 (b0:Int)):=(F4.get (F_h3.get (F_h2.get o_h1))).ld1 0;have k1:ab h4 h.next 1=some (.int .u8 (b1:Int)):=(F4.get (F_h3.get (F_h2.get o_h1))).ld1 1;have k2:ab h4 h.next 2=some (.int .u8 (b2:Int)):=(F4.get (F_h3.get (F_h2.get o_h1))).ld1 2;have FF:Fr [] h h5:=(F_h1.then (F_h2.then (F_h3.then F_h4))).fresh F5 w (by omega);have ob:=F5.own _ _ (by simp;omega) (F4.get (F_h3.get (F_h2.get o_h1)));obtain⟨bt',ot',x8',y8',_⟩:=Sl.ix (esz:=1) (v:=.slice h2.next 0 8 8) (n:=8) (Sl.lit (F4.get o_h3) rfl) .u8 ((b2%8:Nat):Int) (by omega) (by omega);rw[x8]at x8';cases x8';have t4:ab h4 bt ot=some (.str tx):=by
  have:=y8' 0 (by omega);rw[Int.toNat_natCast,Nat.mul_one,Nat.add_zero,Nat.add_zero,List.getElem?_map,tb.1]at this;exact this
 have o2:=F5.own _ _ (by simp;omega) (F4.get (F_h3.get o_h2));simp only[evs,Nat.reduceAdd,DF,Nat.reduceSub,m0,m1,m2,k0,k1,k2,t0,t4];have n4:h4.next=h3.next+1:=by rw[e_h4];rfl
 refine aE (fun n env hh=>Fr [] h hh∧∃(i:Nat)(vm:V)(ms:List Str),env.get 4=some (.int .i64 i)∧env.get 3=some (.ptr h3.next 0)∧env.get 1=some (.ptr h.next 0)∧env.get 2=some (.ptr h1.next 0)∧i≤3∧
  Own hh h.next [.int .u8 (b0:Int),.int .u8 (b1:Int),.int .u8 (b2:Int),.int .u8 (b3:Int)]∧Own hh h1.next [.int .u64 0,.int .u8 0,.str [],.nils]∧Own hh h3.next [.int .u64 (1+((b0%60:Nat):Int)),.int .u8 ((b1%3:Nat):Int),.str tx,vm]∧Gs hh h4.next 1 vm (ms.flatMap sS)∧h4.next≤hh.next∧ms.length≤i∧n=3-i) 3 (by omega) ?_ ?_
 ·exact⟨FF,0,.nils,[],(by simp[T.get_set]),(by simp[T.get_set]),(by simp[T.get_set]),(by simp[T.get_set]),by omega,ob,o2,o5,.inl ⟨rfl,rfl⟩,by omega,by simp,rfl⟩
 ·rintro n env hh ⟨F,i,vm,ms,g4,g3,g1,g2,hi,ob,o2,oi,G,nx,ml,rfl⟩;have p3:ab hh h.next 3=some (.int .u8 (b3:Int)):=ob.ld1 3;have v3:ab hh h3.next 3=some vm:=oi.ld1 3;by_cases hlt:i<3
  ·have hlt':(i:Int)<3:=by omega
   obtain⟨s,xs⟩:∃s,aP (.sh false) [.int .u8 (b3:Int),.int .i64 (i:Int)]=some (.int .u8 s):=⟨_,ww _ _ _ _ (by omega)⟩;obtain⟨y,xy⟩:∃y,aP (.ib .and) [.int .u8 s,.int .u8 1]=some (.int .u8 y):=⟨_,B8 _ _ _⟩;by_cases c:0<y
   ·obtain⟨a1,e_a1⟩:∃a1,a1=halloc hh [.str [97],.str [98,50],.str [107,101,121]]:=⟨_,rfl⟩;have F_a1:Fr [] hh a1:=e_a1▸Fr.halloc F.wf _;have o_a1:Own a1 hh.next [.str [97],.str [98,50],.str [107,101,121]]:=e_a1▸Own.new F.wf _;have m3:(i+b3/8)%3<3:=Nat.mod_lt _ (by decide);have xq:∀{H},Fr [] a1 H→∃bs os,aP (.ixs 1) [.slice hh.next 0 3 3,.int .i64 (((i+b3/8)%3:Nat):Int)]=some (.ptr bs os)∧ab H bs os=(mk3.map V.str)[(i+b3/8)%3]? :=by
     intro H f;obtain⟨bs,os,xq,yq,_⟩:=Sl.ix (esz:=1) (v:=.slice hh.next 0 3 3) (n:=3) (Sl.lit (f.get o_a1) rfl) .i64 (((i+b3/8)%3:Nat):Int) (by omega) (by omega);refine⟨bs,os,xq,?_⟩;have:=yq 0 (by omega);rw[Int.toNat_natCast,Nat.mul_one,Nat.add_zero,Nat.add_zero]at this;exact this
    obtain⟨mk,em⟩:∃mk,(mk3.map V.str)[(i+b3/8)%3]? =some (.str mk):=by
     match(i+b3/8)%3,m3 with
     |0,_|1,_|2,_=>exact⟨_,rfl⟩
    rw[em]at xq;obtain⟨bs,os,xq1,t1⟩:=xq (Fr.refl F_a1.wf);obtain⟨a2,e_a2⟩:∃a2,a2=halloc a1 [.str mk]:=⟨_,rfl⟩;have F_a2:Fr [] a1 a2:=e_a2▸Fr.halloc F_a1.wf _;have o_a2:Own a2 a1.next [.str mk]:=e_a2▸Own.new F_a1.wf _;obtain⟨_,_,xq2,t2⟩:=xq F_a2;rw[xq1]at xq2;cases xq2;have na1:a1.next=hh.next+1:=by rw[e_a1];rfl
    have na2:a2.next=a1.next+1:=by rw[e_a2];rfl
    have F02:=F_a1.then F_a2;have p31:ab a1 h.next 3=some (.int .u8 (b3:Int)):=(F_a1.get ob).ld1 3;have p32:ab a2 h.next 3=some (.int .u8 (b3:Int)):=(F02.get ob).ld1 3;have v31:ab a1 h3.next 3=some vm:=(F_a1.get oi).ld1 3;have v32:ab a2 h3.next 3=some vm:=(F02.get oi).ld1 3;simp(disch:=omega) only[evs,↓reduceIte,Nat.reduceEqDiff,eff,ai,g4,g3,g1,hlt',x3,p3,xs,xy,eq_true c,v3,←e_a1,ER b3 8 8 rfl (by decide) h3',ai,HH ((i:Int)+((b3/8:Nat):Int)) (i+b3/8) 3 3 (by omega) rfl (by decide),xq1,t1,←e_a2,p31];have mlen:=rU ms;refine Gs.append1 (bytes:=16) (n:=1) F_a2.wf (G.fr F02) (Sl.lit o_a2 rfl) (by omega) (by omega) rfl (by omega) (by rw[mlen];omega) ?_;intro vm' a3 G3 e3 F3;have vb0:=G.vb;have oi3:=F3.own _ _ (fun m=>by have:=vb0 _ m;omega) (F02.get oi);have p33:ab a3 h.next 3=some (.int .u8 (b3:Int)):=(F3.own _ _ (fun m=>by have:=vb0 _ m;omega) (F02.get ob)).ld1 3;have na3:=F3.next;have c1:vm'.one=true:=by
     rcases G3 with⟨rfl,_⟩|⟨b,n,rfl,_⟩<;>rfl
    simp only[evs,↓reduceIte,Nat.reduceEqDiff,eff,g3];refine ah (c':=[.int .u64 (1+((b0%60:Nat):Int)),.int .u8 ((b1%3:Nat):Int),.str tx,vm']) F3.wf oi3 (by rw[aB c1];rfl) (by rw[aB c1];simp only[aD,aJ,c1];rfl) (by rw[aB c1];rfl) ?_;rintro a4 oi4 F4' n4';simp(disch:=omega) only[evs,↓reduceIte,Nat.reduceEqDiff,Nat.reduceAdd,DF,Nat.reduceSub,ai,g4,p3,p31,v3,v31,v32,t1];have FN:Fr [] h a4:=(Fr.new w (F.then F02) F3 (fun y hy=>by have:=vb0 _ hy;omega)).fresh F4' w (by omega);have eq:(ms++[mk]).flatMap sS=ms.flatMap sS++[.str mk]:=by simp[sS]
    refine(aj _ _ _).2 ⟨3-(i+1),by omega,FN,i+1,vm',ms++[mk],(by simp[T.get_set]),(by simp[T.get_set,g3]),(by simp[T.get_set,g1]),(by simp[T.get_set,g2]),by omega,F4'.own _ _ (by simp;omega) (F3.own _ _ (fun m=>by have:=vb0 _ m;omega) (F02.get ob)),F4'.own _ _ (by simp;omega) (F3.own _ _ (fun m=>by have:=vb0 _ m;omega) (F02.get o2)),oi4,by rw[eq];exact G3.keep F4' (by simp;omega),by omega,by simp;omega,rfl⟩
   ·simp(disch:=omega) only[evs,↓reduceIte,Nat.reduceEqDiff,ai,g4,g1,hlt',x3,p3,xs,xy,eq_false c];refine(aj _ _ _).2 ⟨3-(i+1),by omega,F,i+1,vm,ms,(by simp[T.get_set]),(by simp[T.get_set,g3]),(by simp[T.get_set,g1]),(by simp[T.get_set,g2]),by omega,ob,o2,oi,G,nx,by omega,rfl⟩
  ·have nlt:¬(i:Int)<3:=by omega
   by_cases c:(240:Int)≤b3
   ·obtain⟨a1,e_a1⟩:∃a1,a1=halloc hh [.str [97],.str [97]]:=⟨_,rfl⟩;have F_a1:Fr [] hh a1:=e_a1▸Fr.halloc F.wf _;have o_a1:Own a1 hh.next [.str [97],.str [97]]:=e_a1▸Own.new F.wf _;simp only[evs,↓reduceIte,Nat.reduceEqDiff,g4,g3,g1,eq_false nlt,x3,p3,eq_true c,v3,←e_a1];have mlen:=rU ms;have na1:a1.next=hh.next+1:=by rw[e_a1];rfl
    refine Gs.append1 (bytes:=16) (n:=2) F_a1.wf (G.fr F_a1) (Sl.lit o_a1 rfl) (by omega) (by omega) rfl (by omega) (by rw[mlen];omega) ?_;intro vm' a3 G3 e3 F3;have vb0:=G.vb;have oi3:=F3.own _ _ (fun m=>by have:=vb0 _ m;omega) (F_a1.get oi);have na3:=F3.next;have c1:vm'.one=true:=by
     rcases G3 with⟨rfl,_⟩|⟨b,n,rfl,_⟩<;>rfl
    simp only[evs,↓reduceIte,Nat.reduceEqDiff,g3];refine ah (c':=[.int .u64 (1+((b0%60:Nat):Int)),.int .u8 ((b1%3:Nat):Int),.str tx,vm']) F3.wf oi3 (by rw[aB c1];rfl) (by rw[aB c1];simp only[aD,aJ,c1];rfl) (by rw[aB c1];rfl) ?_;rintro a4 oi4 F4' n4';have FN:Fr [] h a4:=(Fr.new w (F.then F_a1) F3 (fun y hy=>by have:=vb0 _ hy;omega)).fresh F4' w (by omega);have eq:(ms++[[97],[97]]).flatMap sS=ms.flatMap sS++[.str [97],.str [97]]:=by simp[sS]
    have o24:=F4'.own _ _ (by simp;omega) (F3.own _ _ (fun m=>by have:=vb0 _ m;omega) (F_a1.get o2));have G4:Gs a4 h4.next 1 vm' ((ms++[[97],[97]]).flatMap sS):=by rw[eq];exact G3.keep F4' (by simp;omega)
    have ld:au a4 h3.next 0 4=some [.int .u64 (1+((b0%60:Nat):Int)),.int .u8 ((b1%3:Nat):Int),.str tx,vm']:=by rw[(oi4).ld];rfl
    simp only[evs,↓reduceIte,Nat.reduceEqDiff,g3,g2,ld];refine ah (o:=0) (v:=.agg [.int .u64 (1+((b0%60:Nat):Int)),.int .u8 ((b1%3:Nat):Int),.str tx,vm']) (c':=[.int .u64 (1+((b0%60:Nat):Int)),.int .u8 ((b1%3:Nat):Int),.str tx,vm']) (FN).wf (o24) rfl (by show aq [_,_,_,_]=true;simp only[aD,aJ,c1];rfl) rfl ?_;rintro z o5 F5' n5';have ld5:au z h1.next 0 4=some [.int .u64 (1+((b0%60:Nat):Int)),.int .u8 ((b1%3:Nat):Int),.str tx,vm']:=by rw[o5.ld];rfl
    simp only[evs,↓reduceIte,Nat.reduceEqDiff,g2,ld5];refine⟨(FN).fresh F5' w (by omega),⟨1+b0%60,b1%3,tx,ms++[[97],[97]],vm'⟩,rfl,by show 1+b0%60<_;omega,by show b1%3<256;omega,?_,by show(ms++[[97],[97]]).length≤4096;simp;omega,by show tx.length<16777216;omega⟩;exact((G4).keep F5' (by simp;omega)).le (by omega)
   ·simp only[evs,↓reduceIte,Nat.reduceEqDiff,g4,g3,g1,eq_false nlt,x3,p3,eq_false c];have c1:vm.one=true:=by
     rcases G with⟨rfl,_⟩|⟨b,n,rfl,_⟩<;>rfl
    have ld:au hh h3.next 0 4=some [.int .u64 (1+((b0%60:Nat):Int)),.int .u8 ((b1%3:Nat):Int),.str tx,vm]:=by rw[(oi).ld];rfl
    simp only[evs,↓reduceIte,Nat.reduceEqDiff,ld,g2];refine ah (o:=0) (v:=.agg [.int .u64 (1+((b0%60:Nat):Int)),.int .u8 ((b1%3:Nat):Int),.str tx,vm]) (c':=[.int .u64 (1+((b0%60:Nat):Int)),.int .u8 ((b1%3:Nat):Int),.str tx,vm]) (F).wf (o2) rfl (by show aq [_,_,_,_]=true;simp only[aD,aJ,c1];rfl) rfl ?_;rintro z o5 F5' n5';have ld5:au z h1.next 0 4=some [.int .u64 (1+((b0%60:Nat):Int)),.int .u8 ((b1%3:Nat):Int),.str tx,vm]:=by rw[o5.ld];rfl
    simp only[evs,↓reduceIte,Nat.reduceEqDiff,g2,ld5];refine⟨(F).fresh F5' w (by omega),⟨1+b0%60,b1%3,tx,ms,vm⟩,rfl,by show 1+b0%60<_;omega,by show b1%3<256;omega,?_,by show(ms).length≤4096;omega,by show tx.length<16777216;omega⟩;exact((G).keep F5' (by simp;omega)).le (by omega)
def q4(q:Nat×Nat×Nat×Nat):List V:=[.int .u8 (q.1:Int),.int .u8 (q.2.1:Int),.int .u8 (q.2.2.1:Int),.int .u8 (q.2.2.2:Int)]
structure IL(N:Nat)(h:Heap)(v:V)(X:List Itm):Prop where
 g:Gs h N 4 v (X.flatMap Itm.cells)
 i:∀x∈X,ItmG N h x
 d:∀x∈X,∀z∈vb v,z∉vb x.vm
 n:(X.map Itm.key).Nodup
theorem IL.fr{N:Nat}{h h':Heap}{v:V}{X:List Itm}(a:IL N h v X)(f:Fr [] h h'):IL N h' v X:=⟨a.g.fr f,fun x m=>(a.i x m).keep f (by simp),a.d,a.n⟩
theorem IL.keep{N:Nat}{h h':Heap}{v:V}{X:List Itm}{Z:List Nat}(a:IL N h v X)(f:Fr Z h h')(l:∀z∈Z,z<N):IL N h' v X:=
 ⟨a.g.keep f l,fun x m=>(a.i x m).keep f (fun z hz c=>by have:=l z hz;have:=(a.i x m).g.vb z c;omega),a.d,a.n⟩
theorem ItmG.le{N M:Nat}{h:Heap}{x:Itm}(a:ItmG N h x)(l:M≤N):ItmG M h x:=⟨a.k,a.t,a.g.le l,a.n,a.l⟩
theorem IL.le{N M:Nat}{h:Heap}{v:V}{X:List Itm}(a:IL N h v X)(l:M≤N):IL M h v X:=⟨a.g.le l,fun x m=>(a.i x m).le l,a.d,a.n⟩
theorem IL.rs{N:Nat}{h:Heap}{v:V}{X:List Itm}(a:IL N h v X):Recs Itm.cells 4 h v X:=Gs.sl (n:=X.length) a.g (aF dH X) (by omega)
theorem _root_.Go.Ev.Gs.lt{h:Heap}{B e:Nat}{v:V}{cs:List V}(w:WF h)(g:Gs h B e v cs):∀z∈vb v,z<h.next:=by
 rcases g with⟨rfl,_⟩|⟨b,n,rfl,_,_,_,o⟩
 ·simp[Go.Ev.vb]
 ·intro z m;simp[Go.Ev.vb]at m;have:=o.lt w;omega
theorem EZ{h:Heap}{v:V}{L:List (Nat×Nat×Nat×Nat)}(w:WF h)(a:ARecs q4 4 h v L)(hb:∀q∈L,q.1<256∧q.2.1<256∧q.2.2.1<256∧q.2.2.2<256):
 ao go 57 [.agg [v]] h fun u h'=>Fr [] h h'∧∃X,IL h.next h' u X∧X.length≤12:=by
 obtain⟨h1,e_h1⟩:∃h1,h1=halloc h [v]:=⟨_,rfl⟩;have F_h1:Fr [] h h1:=e_h1▸Fr.halloc w _;have o_h1:Own h1 h.next [v]:=e_h1▸Own.new w _;have n1:h1.next=h.next+1:=by rw[e_h1];rfl
 refine ag g57 rfl ?_;simp only[fn57,evs,↓reduceIte,←e_h1];refine aE (fun n env hh=>Fr [] h hh∧Fr [] h1 hh∧∃(i:Nat)(u:V)(X:List Itm),env.get 4=some (.int .i64 i)∧env.get 3=some u∧env.get 1=some (.ptr h.next 0)∧i≤L.length∧i≤12∧X.length≤i∧IL h1.next hh u X∧n=12-i) 12 (by omega) ?_ ?_
 ·exact⟨F_h1,Fr.refl F_h1.wf,0,.nils,[],(by simp[T.get_set]),(by simp[T.get_set]),(by simp[T.get_set]),by omega,by omega,by simp,⟨.inl ⟨rfl,rfl⟩,by simp,by simp,by simp⟩,rfl⟩
 ·rintro n env hh ⟨F,F1,i,u,X,g4,g3,g1,hi,h12,hX,il,rfl⟩;have ob:=F1.get o_h1;have l0:ab hh h.next 0=some v:=ob.ld1 0;have len:=(a.fr F).len;by_cases c1:i<L.length
  ·by_cases c2:i<12
   ·obtain⟨bi,oi,q,p1,_,p3,p4⟩:=(a.fr F).ix (f:=q4) (k:=4) (fun _=>rfl) .i64 (i:Int) (by omega) (by omega);rw[Int.toNat_natCast]at p4;obtain⟨b1,b2,b3,b4⟩:=hb q (List.mem_of_getElem? p4);simp only[evs,↓reduceIte,Nat.reduceEqDiff,g4,g1,l0,len,show(i:Int)<L.length by omega,show(i:Int)<12 by omega,p1,p3];refine aa (C3 F.wf b1 b2 b3 b4) ?_;rintro _ h2 ⟨F2,x,rfl,gx⟩;obtain⟨h3,e_h3⟩:∃h3,h3=halloc h2 [.int .u64 0,.int .u8 0,.str [],.nils]:=⟨_,rfl⟩;have F_h3:Fr [] h2 h3:=e_h3▸Fr.halloc F2.wf _;have o_h3:Own h3 h2.next [.int .u64 0,.int .u8 0,.str [],.nils]:=e_h3▸Own.new F2.wf _;simp only[evs,↓reduceIte,←e_h3];refine ah (c':=x.cells) F_h3.wf o_h3 rfl gx.H.one rfl ?_;rintro h4 o4 F4 n4;have n3:h3.next=h2.next+1:=by rw[e_h3];rfl
    have n2:=F2.next;have nh:=F1.next;have F24:Fr [] h2 h4:=F_h3.fresh F4 F2.wf (by omega);have F04:=F2.then F24;have il4:=il.fr F04;have gx4:=gx.keep F24 (by simp);have k0:ab h4 h2.next 0=some (.int .u64 (x.key:Int)):=o4.ld1 0;have ld4:au h4 h2.next 0 4=some x.cells:=by rw[o4.ld];rfl
    simp only[evs,↓reduceIte,Nat.reduceEqDiff,g3,k0];refine aa (Ba il4.rs (by omega)) ?_;rintro _ _ ⟨rfl,r,rfl,hr⟩;by_cases c3:r<0
    ·obtain⟨h5,e_h5⟩:∃h5,h5=halloc h4 x.cells:=⟨_,rfl⟩;have F_h5:Fr [] h4 h5:=e_h5▸Fr.halloc F4.wf _;have o_h5:Own h5 h4.next x.cells:=e_h5▸Own.new F4.wf _;have u1:bo [.int .u64 0,.int .u8 0,.str [],.nils] 0 x.cells=some x.cells:=rfl;simp only[evs,↓reduceIte,Nat.reduceEqDiff,Nat.reduceLT,g3,eq_true c3,ld4,show x.cells.length=4 from rfl,u1,←e_h5];have n5:h5.next=h4.next+1:=by rw[e_h5];rfl
     have il5:=il4.fr F_h5;have gx5:=gx4.keep F_h5 (by simp);refine Gs.append1 (bytes:=56) (n:=1) F_h5.wf il5.g (Sl.lit o_h5 rfl) (by omega) (by omega) gx.H.one (by omega) (by rw[aF dH X];omega) ?_;intro u' h6 G6 e6 F6;have ul:=il.g.lt F.wf;have ub:=il.g.vb;have xb:=gx.g.vb;have gx6:=gx5.keep F6 (fun z m c=>by have:=ul z m;have:=xb z c;omega);have i6:∀y∈X,ItmG h1.next h6 y:=fun y m=>(il5.i y m).keep F6 (il5.d y m);have xl:=gx5.g.lt F_h5.wf;have n6:=F6.next;have F06:=F04.then F_h5;have FN:Fr [] h h6:=Fr.new w (F.then F06) F6 (fun y hy=>by have:=ub _ hy;omega);have FN1:Fr [] h1 h6:=Fr.new F_h1.wf (F1.then F06) F6 (fun y hy=>ub _ hy);have eq:(X++[x]).flatMap Itm.cells=X.flatMap Itm.cells++x.cells:=by simp
     have nk:∀y∈X,y.key≠x.key:=fun y m e=>by have:=hr.2 ⟨y,m,e⟩;omega
     have ilN:IL h1.next h6 u' (X++[x]):=by
      refine⟨by rw[eq];exact G6,?_,?_,?_⟩
      ·intro y m;rcases List.mem_append.1 m with m|m
       ·exact i6 y m
       ·rw[List.mem_singleton.1 m];exact gx6.le (by omega)
      ·intro y m z hz c;rw[e6,List.mem_singleton]at hz;subst hz;rcases List.mem_append.1 m with m|m
       ·have:=(il5.i y m).g.lt F_h5.wf _ c;omega
       ·rw[List.mem_singleton.1 m]at c;have:=xl _ c;omega
      ·rw[List.map_append,List.nodup_append];refine⟨il.n,by simp,?_⟩;intro p hp p' hp' e;obtain⟨y,ym,rfl⟩:=List.mem_map.1 hp;simp only[List.map_cons,List.map_nil,List.mem_singleton]at hp';exact nk y ym (by rw[e,hp'])
     simp(disch:=omega) only[evs,↓reduceIte,Nat.reduceEqDiff,ai,g4];refine(aj _ _ _).2 ⟨12-(i+1),by omega,FN,FN1,i+1,u',X++[x],(by simp[T.get_set]),(by simp[T.get_set]),(by simp[T.get_set,g1]),by omega,by omega,by simp;omega,ilN,rfl⟩
    ·simp(disch:=omega) only[evs,↓reduceIte,Nat.reduceEqDiff,ai,g4,eq_false c3];refine(aj _ _ _).2 ⟨12-(i+1),by omega,F.then F04,F1.then F04,i+1,u,X,(by simp[T.get_set]),(by simp[T.get_set,g3]),(by simp[T.get_set,g1]),by omega,by omega,by omega,il4,rfl⟩
   ·simp only[evs,↓reduceIte,Nat.reduceEqDiff,g4,g3,g1,l0,len,show(i:Int)<L.length by omega,show¬(i:Int)<12 by omega];exact⟨F,X,il.le (by omega),by omega⟩
  ·simp only[evs,↓reduceIte,Nat.reduceEqDiff,g4,g3,g1,l0,len,show¬(i:Int)<L.length by omega];exact⟨F,X,il.le (by omega),by omega⟩
structure Ent where
 x:Itm
 b:Int
 kn:Bool
def Ent.cells(e:Ent):List V:=e.x.ent e.b e.kn
theorem aZ(e:Ent):e.cells.length=6:=rfl
def b8(n:Nat):List V:=[.int .u8 (n:Int)]
structure EOk(Ks:List Knd)(X:List Itm)(e:Ent):Prop where
 m:e.x∈X
 o:okI e.x 3=true
 r:dX Ks 12 e.x=0
 b:e.kn=false→e.b=aO Ks e.x
 c:e.kn=true→1≤e.b∧e.b≤40
set_option maxHeartbeats 1000000 in
theorem Fj{h:Heap}{vI vH:V}{kb:Nat}{L:List (Nat×Nat×Nat×Nat)}{H:List Nat}(w:WF h)(a:ARecs q4 4 h vI L)(hb:∀q∈L,q.1<256∧q.2.1<256∧q.2.2.1<256∧q.2.2.2<256)
 (aH:ARecs b8 1 h vH H) (hH:∀n∈H,n<256) (hk:kb<256):
 ao go 16 [.agg [vI,vH,.int .u8 (kb:Int)]] h fun u h'=>Fr [] h h'∧∃vK Ks vX X vE,∃E:List Ent,u=.tup [.agg [vK,.int .i64 12],.agg [vE]]∧Recs Knd.cells 9 h' vK Ks∧(∀q∈Ks,KndH h' q)∧GK Ks∧okR Ks 12=true∧Ks.length=3∧
  IL h.next h' vX X∧Gs h' h.next 6 vE (E.flatMap Ent.cells)∧(∀e∈E,EOk Ks X e)∧(E.map fun e=>e.x.key).Nodup∧E.length≤12:=by
 obtain⟨h1,e_h1⟩:∃h1,h1=halloc h [vI,vH,.int .u8 (kb:Int)]:=⟨_,rfl⟩;have F_h1:Fr [] h h1:=e_h1▸Fr.halloc w _;have o_h1:Own h1 h.next [vI,vH,.int .u8 (kb:Int)]:=e_h1▸Own.new w _;obtain⟨h2,e_h2⟩:∃h2,h2=halloc h1 [.nils,.int .i64 0]:=⟨_,rfl⟩;have F_h2:Fr [] h1 h2:=e_h2▸Fr.halloc F_h1.wf _;have o_h2:Own h2 h1.next [.nils,.int .i64 0]:=e_h2▸Own.new F_h1.wf _;obtain⟨h3,e_h3⟩:∃h3,h3=halloc h2 [.nils]:=⟨_,rfl⟩;have F_h3:Fr [] h2 h3:=e_h3▸Fr.halloc F_h2.wf _;have o_h3:Own h3 h2.next [.nils]:=e_h3▸Own.new F_h2.wf _;have n1:h1.next=h.next+1:=by rw[e_h1];rfl
 have n2:h2.next=h1.next+1:=by rw[e_h2];rfl
 have n3:h3.next=h2.next+1:=by rw[e_h3];rfl
 have F13:=F_h2.then F_h3;have k2:ab h3 h.next 2=some (.int .u8 (kb:Int)):=(F13.get o_h1).ld1 2;refine ag g16 rfl ?_;simp(maxSteps:=1000000) only[fn16,evs,↓reduceIte,Nat.reduceEqDiff,←e_h1,←e_h2,←e_h3,k2];refine aa (yJ F_h3.wf hk) ?_;rintro vK h4 ⟨F4,Ks,rkh,gk,okr,lk⟩;obtain⟨rk,kh⟩:=rkh [] h4 (by simp) (Fr.refl F4.wf);have v1:=Sl.one rk;have o4:=F4.get (F13.get o_h1);obtain⟨h5,e_h5⟩:∃h5,h5=halloc h4 [.nils,.int .i64 0]:=⟨_,rfl⟩;have F_h5:Fr [] h4 h5:=e_h5▸Fr.halloc F4.wf _;have o_h5:Own h5 h4.next [.nils,.int .i64 0]:=e_h5▸Own.new F4.wf _;have n4:=F4.next;have n5:h5.next=h4.next+1:=by rw[e_h5];rfl
 simp(maxSteps:=1000000) only[evs,↓reduceIte,aB v1,←e_h5];refine ah (o:=0) (v:=.agg [vK,.int .i64 12]) (c':=[vK,.int .i64 12]) F_h5.wf o_h5 rfl (by show aq [_,_]=true;simp only[aD,aJ,v1];rfl) rfl ?_;rintro h6 o6 F6 n6;have F46:Fr [] h4 h6:=F_h5.fresh F6 F4.wf (by omega);have l0:au h6 h.next 0 1=some [vI]:=by rw[(F46.get o4).ld];rfl
 have F06:=(F_h1.then F13).then (F4.then F46);simp(maxSteps:=1000000) only[evs,↓reduceIte,Nat.reduceEqDiff,l0];refine aa (EZ F46.wf (a.fr F06) hb) ?_;rintro vX h7 ⟨F7,X,il,hX⟩;obtain⟨h8,e_h8⟩:∃h8,h8=halloc h7 [.nils]:=⟨_,rfl⟩;have F_h8:Fr [] h7 h8:=e_h8▸Fr.halloc F7.wf _;have o_h8:Own h8 h7.next [.nils]:=e_h8▸Own.new F7.wf _;have n7:=F7.next;have n8:h8.next=h7.next+1:=by rw[e_h8];rfl
 simp(maxSteps:=1000000) only[evs,←e_h8];have F07:=F06.then F7;have oL7:=F7.get (F46.get o4);have oK7:=F7.get o6;have FH:Fr [] h h8:=F07.then F_h8;have oa:=F_h8.get (F7.get (F46.get (F4.get (F_h3.get o_h2))));have oc:=F_h8.get (F7.get (F46.get (F4.get o_h3)));refine aE (fun n env hh=>Fr [] h7 hh∧∃(i:Nat)(vE:V)(E:List Ent),env.get 7=some (.int .i64 i)∧env.get 1=some (.ptr h.next 0)∧env.get 2=some (.ptr h1.next 0)∧env.get 3=some (.ptr h2.next 0)∧env.get 4=some (.ptr h4.next 0)∧env.get 5=some vX∧env.get 6=some (.ptr h7.next 0)∧
  i≤X.length∧Own hh h1.next [.nils,.int .i64 0]∧Own hh h2.next [.nils]∧Own hh h7.next [vE]∧Gs hh h8.next 6 vE (E.flatMap Ent.cells)∧(∀e∈E,EOk Ks X e)∧(E.map Ent.x).Sublist (X.take i)∧n=X.length-i) X.length (by omega) ?_ ?_
 ·exact⟨F_h8,0,.nils,[],(by simp[T.get_set]),(by simp[T.get_set]),(by simp[T.get_set]),(by simp[T.get_set]),(by simp[T.get_set]),(by simp[T.get_set]),(by simp[T.get_set]),by omega,oa,oc,o_h8,.inl ⟨rfl,rfl⟩,by simp,by simp,rfl⟩
 ·rintro n env hh ⟨G,i,vE,E,g7,g1,g2,g3,g4,g5,g6,hi,oa,oc,oe,GE,eok,sub,rfl⟩;have ilh:=il.fr G;have len:=ilh.rs.len;have El:E.length≤i:=by
   have:=sub.length_le;simp only[List.length_map,List.length_take]at this;omega
  by_cases c1:i<X.length
  ·obtain⟨bi,oi,x,p1,_,p3,p4⟩:=Recs.ix dH ilh.rs .i64 (i:Int) (by omega) (by omega);rw[Int.toNat_natCast]at p4;have xm:=List.mem_of_getElem? p4;have kl:au hh h4.next 0 2=some [vK,.int .i64 12]:=by rw[(G.get oK7).ld];rfl
   have Fh4:Fr [] h4 hh:=F46.then (F7.then G);simp(maxSteps:=1000000) only[evs,↓reduceIte,Nat.reduceEqDiff,eff,g7,g4,g5,len,show(i:Int)<X.length by omega,kl,p1,p3];refine aa (AU G.wf (Recs.fr rk Fh4) (fun q m=>(kh q m).fr Fh4) gk (by omega) (ilh.i x xm).H) ?_;rintro _ ha ⟨Fa,e,rfl,e0,he⟩;have Ga:=G.then Fa;have kla:au ha h4.next 0 2=some [vK,.int .i64 12]:=by rw[(Ga.get oK7).ld];rfl
   obtain⟨bi',oi',x',p1',_,p3',p4'⟩:=Recs.ix dH (il.fr Ga).rs .i64 (i:Int) (by omega) (by omega);rw[Int.toNat_natCast,p4]at p4';cases p4';rw[p1]at p1';cases p1';by_cases c2:0<e
   ·simp(maxSteps:=1000000) (disch:=omega) only[evs,↓reduceIte,Nat.reduceEqDiff,Nat.reduceAdd,DF,eff,Nat.reduceSub,ai,g7,g4,kl,p3,eq_true c2];refine(aj _ _ _).2 ⟨X.length-(i+1),by omega,Ga,i+1,vE,E,(by simp[T.get_set]),(by simp[T.get_set,g1]),(by simp[T.get_set,g2]),(by simp[T.get_set,g3]),(by simp[T.get_set,g4]),(by simp[T.get_set,g5]),(by simp[T.get_set,g6]),by omega,Fa.get oa,Fa.get oc,Fa.get oe,GE.fr Fa,eok,sub.trans (List.take_sublist_take_left (by omega)),rfl⟩
   ·simp(maxSteps:=1000000) only[evs,↓reduceIte,Nat.reduceEqDiff,Nat.reduceAdd,DF,eff,Nat.reduceSub,g4,kl,p3,eq_false c2];obtain⟨okx,rex⟩:=he (by omega);have ht:x.type<Ks.length:=by
     have:=okx;simp only[okI,Bool.and_eq_true,decide_eq_true_eq]at this;exact this.2.1
    refine Cf [⟨none,.ld 2 true (.v 4),none⟩,⟨none,.p .mv [.v 5],none⟩,⟨none,.p .mv [.v 7],none⟩,⟨none,.p (.ixs 4) [.l 1,.l 0],none⟩,⟨none,.ld 4 true (.l 0),none⟩,⟨none,.cf 59 [.l 4,.l 0],none⟩] [⟨none,.st 6 (.l 0) (.l 1),none⟩] rfl ?_;obtain⟨hb,e_hb⟩:∃hb,hb=halloc ha [.int .u64 0,.int .u8 0,.str [],.nils,.int .i64 0,.bool false]:=⟨_,rfl⟩;have F_hb:Fr [] ha hb:=e_hb▸Fr.halloc Fa.wf _;have o_hb:Own hb ha.next [.int .u64 0,.int .u8 0,.str [],.nils,.int .i64 0,.bool false]:=e_hb▸Own.new Fa.wf _;have nb:hb.next=ha.next+1:=by rw[e_hb];rfl
    have na:=Ga.next;have it:∀{H},Fr [] h7 H→au H bi oi 4=some x.cells:=by
     intro H f;obtain⟨bi',oi',x',p1',_,p3',p4'⟩:=Recs.ix dH (il.fr f).rs .i64 (i:Int) (by omega) (by omega);rw[Int.toNat_natCast,p4]at p4';cases p4';rw[p1]at p1';cases p1';exact p3'
    have kk:∀{H},Fr [] h7 H→au H h4.next 0 2=some [vK,.int .i64 12]:=by
     intro H f;rw[(f.get oK7).ld];rfl
    have Gb:=Ga.then F_hb;simp(maxSteps:=1000000) only[evs,↓reduceIte,Nat.reduceEqDiff,eff,←e_hb,g7,g4,g5,kk Gb,p1,it Gb];refine aa (yU F_hb.wf (Recs.fr rk (F46.then (F7.then Gb))) ((il.fr Gb).i x xm).H ht) ?_;rintro _ hc ⟨rfl,Fc⟩;have Gc:=Gb.then Fc;simp(maxSteps:=1000000) only[evs,eff,de,r8];refine ah (o:=0) (v:=.agg (x.ent (aO Ks x) false)) (c':=x.ent (aO Ks x) false) Fc.wf (Fc.get o_hb) rfl (by show aq (x.cells++[_,_])=true;rw[aL,((il.fr Gb).i x xm).H.one];rfl) rfl ?_;rintro hd od Fd nd;have nc:=Fc.next;have oel:=oe.lt G.wf;have nG:=Fa.next;have Fad:Fr [] ha hd:=(F_hb.then Fc).fresh Fd Fa.wf (by omega);have Gd:=Ga.then Fad;have oed:=Fad.get (Fa.get oe);have le:=oed.ld1 0;have Ed:=Gs.sl (n:=E.length) (GE.fr (Fa.then Fad)) (aF aZ E) (by omega);have oLd:=Gd.get oL7;have lH:=oLd.ld1 1;have aHd:=aH.fr (F07.then Gd);simp(maxSteps:=1000000) only[evs,↓reduceIte,Nat.reduceEqDiff,Nat.reduceAdd,DF,Nat.reduceSub,g1,g4,g6,kk Gb,it Gb,le,Ed.len,lH,aHd.len];by_cases c3:E.length<H.length
    ·obtain⟨bh,oh,nH0,q1,q2,_,q4'⟩:=aHd.ix (f:=b8) (k:=1) (fun _=>rfl) .i64 (E.length:Int) (by omega) (by omega);rw[Int.toNat_natCast]at q4';have n256:=hH nH0 (List.mem_of_getElem? q4');have q3:ab hd bh oh=some (.int .u8 (nH0:Int)):=q2 0 (by omega);by_cases c4:0<(nH0:Int)
     ·simp(maxSteps:=1000000) (disch:=omega) only[evs,↓reduceIte,Nat.reduceEqDiff,ai,eq_true (show(E.length:Int)<H.length by omega),g1,q1,q3,eq_true c4,lH,pH nH0 40 40 rfl (by decide),ai];refine ah (c':=x.cells++[.int .i64 (1+((nH0%40:Nat):Int)),.bool false]) Fd.wf od rfl rfl rfl ?_;rintro he' oe'' Fe ne;simp(maxSteps:=1000000) only[evs,↓reduceIte,Nat.reduceEqDiff];refine ah (c':=x.cells++[.int .i64 (1+((nH0%40:Nat):Int)),.bool true]) Fe.wf oe'' rfl rfl rfl ?_;rintro hf of' Ff nf;simp(maxSteps:=1000000) only[evs,↓reduceIte,Nat.reduceEqDiff,g6];have FaH:=((Fad.fresh Fe Fa.wf (by omega)).fresh Ff Fa.wf (by omega));have oeH:=FaH.get (Fa.get oe);have ld6:au hf ha.next 0 6=some (Ent.cells ⟨x,1+((nH0%40:Nat):Int),true⟩):=by rw[(of').ld];rfl
      have u1:bo [.int .u64 0,.int .u8 0,.str [],.nils,.int .i64 0,.bool false] 0 (Ent.cells ⟨x,1+((nH0%40:Nat):Int),true⟩)=some (Ent.cells ⟨x,1+((nH0%40:Nat):Int),true⟩):=rfl;have on:aq (Ent.cells ⟨x,1+((nH0%40:Nat):Int),true⟩)=true:=by show aq (x.cells++[_,_])=true;rw[aL,((il.fr Gb).i x xm).H.one];rfl
      obtain⟨hx,e_hx⟩:∃hx,hx=halloc hf (Ent.cells ⟨x,1+((nH0%40:Nat):Int),true⟩):=⟨_,rfl⟩;have F_hx:Fr [] hf hx:=e_hx▸Fr.halloc FaH.wf _;have o_hx:Own hx hf.next (Ent.cells ⟨x,1+((nH0%40:Nat):Int),true⟩):=e_hx▸Own.new FaH.wf _;simp(maxSteps:=1000000) only[evs,↓reduceIte,Nat.reduceEqDiff,Nat.reduceLT,oeH.ld1 0,ld6,u1,show(Ent.cells ⟨x,1+((nH0%40:Nat):Int),true⟩).length=6 from rfl,←e_hx];have vb0:=GE.vb;have nH:=((Fa.then FaH).then F_hx).next;have oel':=(oe.lt G.wf);have nx0:h8.next≤hx.next:=by omega
      refine Gs.append1 (bytes:=72) (n:=1) F_hx.wf (GE.fr ((Fa.then FaH).then F_hx)) (Sl.lit o_hx rfl) (by omega) (by omega) on nx0 (by rw[aF aZ E];omega) ?_;intro vE' hy Gy ey Fy;have tk:∀{B:Nat}{cs:List V},Own hh B cs→B<h8.next→Own hy B cs:=fun o l=>Fy.own _ _ (fun m=>by have:=vb0 _ m;omega) (((Fa.then FaH).then F_hx).get o);have c1':vE'.one=true:=by
       rcases Gy with⟨rfl,_⟩|⟨b,n,rfl,_⟩<;>rfl
      simp(maxSteps:=1000000) only[evs,↓reduceIte,Nat.reduceEqDiff,g6];refine ah (c':=[vE']) Fy.wf (tk oe (by omega)) (by rw[aB c1'];rfl) (by rw[aB c1'];simp only[aD,aJ,c1'];rfl) (by rw[aB c1'];rfl) ?_;rintro hz oz Fz nz;have FN:Fr [] h7 hz:=(Fr.new F7.wf (G.then ((Fa.then FaH).then F_hx)) Fy (fun y hy=>by have:=vb0 _ hy;omega)).fresh Fz F7.wf (by omega);have eq:(E++[(⟨x,1+((nH0%40:Nat):Int),true⟩:Ent)]).flatMap Ent.cells=E.flatMap Ent.cells++Ent.cells ⟨x,1+((nH0%40:Nat):Int),true⟩:=by simp
      simp(maxSteps:=1000000) (disch:=omega) only[evs,↓reduceIte,Nat.reduceEqDiff,ai,g7];refine(aj _ _ _).2 ⟨X.length-(i+1),by omega,FN,i+1,vE',E++[⟨x,1+((nH0%40:Nat):Int),true⟩],(by simp[T.get_set]),(by simp[T.get_set,g1]),(by simp[T.get_set,g2]),(by simp[T.get_set,g3]),(by simp[T.get_set,g4]),(by simp[T.get_set,g5]),(by simp[T.get_set,g6]),by omega,Fz.own _ _ (by simp;omega) (tk oa (by omega)),Fz.own _ _ (by simp;omega) (tk oc (by omega)),oz,by rw[eq];exact Gy.keep Fz (by simp;omega),?_,?_,rfl⟩
      ·intro e' m;rcases List.mem_append.1 m with m|m
       ·exact eok e' m
       ·rw[List.mem_singleton.1 m];exact⟨xm,by rw[←lk];exact okx,rex,fun z=>(by cases z),fun _=>⟨by show(1:Int)≤1+((nH0%40:Nat):Int);omega,by show 1+((nH0%40:Nat):Int)≤40;omega⟩⟩
      ·rw[List.map_append,List.take_add_one,p4];exact sub.append (List.Sublist.refl _)
     ·simp(maxSteps:=1000000) only[evs,↓reduceIte,Nat.reduceEqDiff,eq_true (show(E.length:Int)<H.length by omega),g6,q1,q3,eq_false c4];have FaH:=Fad;have oeH:=FaH.get (Fa.get oe);have ld6:au hd ha.next 0 6=some (Ent.cells ⟨x,aO Ks x,false⟩):=by rw[(od).ld];rfl
      have u1:bo [.int .u64 0,.int .u8 0,.str [],.nils,.int .i64 0,.bool false] 0 (Ent.cells ⟨x,aO Ks x,false⟩)=some (Ent.cells ⟨x,aO Ks x,false⟩):=rfl;have on:aq (Ent.cells ⟨x,aO Ks x,false⟩)=true:=by show aq (x.cells++[_,_])=true;rw[aL,((il.fr Gb).i x xm).H.one];rfl
      obtain⟨hx,e_hx⟩:∃hx,hx=halloc hd (Ent.cells ⟨x,aO Ks x,false⟩):=⟨_,rfl⟩;have F_hx:Fr [] hd hx:=e_hx▸Fr.halloc FaH.wf _;have o_hx:Own hx hd.next (Ent.cells ⟨x,aO Ks x,false⟩):=e_hx▸Own.new FaH.wf _;simp(maxSteps:=1000000) only[evs,↓reduceIte,Nat.reduceEqDiff,Nat.reduceLT,oeH.ld1 0,ld6,u1,show(Ent.cells ⟨x,aO Ks x,false⟩).length=6 from rfl,←e_hx];have vb0:=GE.vb;have nH:=((Fa.then FaH).then F_hx).next;have oel':=(oe.lt G.wf);have nx0:h8.next≤hx.next:=by omega
      refine Gs.append1 (bytes:=72) (n:=1) F_hx.wf (GE.fr ((Fa.then FaH).then F_hx)) (Sl.lit o_hx rfl) (by omega) (by omega) on nx0 (by rw[aF aZ E];omega) ?_;intro vE' hy Gy ey Fy;have tk:∀{B:Nat}{cs:List V},Own hh B cs→B<h8.next→Own hy B cs:=fun o l=>Fy.own _ _ (fun m=>by have:=vb0 _ m;omega) (((Fa.then FaH).then F_hx).get o);have c1':vE'.one=true:=by
       rcases Gy with⟨rfl,_⟩|⟨b,n,rfl,_⟩<;>rfl
      simp(maxSteps:=1000000) only[evs,↓reduceIte,Nat.reduceEqDiff,g6];refine ah (c':=[vE']) Fy.wf (tk oe (by omega)) (by rw[aB c1'];rfl) (by rw[aB c1'];simp only[aD,aJ,c1'];rfl) (by rw[aB c1'];rfl) ?_;rintro hz oz Fz nz;have FN:Fr [] h7 hz:=(Fr.new F7.wf (G.then ((Fa.then FaH).then F_hx)) Fy (fun y hy=>by have:=vb0 _ hy;omega)).fresh Fz F7.wf (by omega);have eq:(E++[(⟨x,aO Ks x,false⟩:Ent)]).flatMap Ent.cells=E.flatMap Ent.cells++Ent.cells ⟨x,aO Ks x,false⟩:=by simp
      simp(maxSteps:=1000000) (disch:=omega) only[evs,↓reduceIte,Nat.reduceEqDiff,ai,g7];refine(aj _ _ _).2 ⟨X.length-(i+1),by omega,FN,i+1,vE',E++[⟨x,aO Ks x,false⟩],(by simp[T.get_set]),(by simp[T.get_set,g1]),(by simp[T.get_set,g2]),(by simp[T.get_set,g3]),(by simp[T.get_set,g4]),(by simp[T.get_set,g5]),(by simp[T.get_set,g6]),by omega,Fz.own _ _ (by simp;omega) (tk oa (by omega)),Fz.own _ _ (by simp;omega) (tk oc (by omega)),oz,by rw[eq];exact Gy.keep Fz (by simp;omega),?_,?_,rfl⟩
      ·intro e' m;rcases List.mem_append.1 m with m|m
       ·exact eok e' m
       ·rw[List.mem_singleton.1 m];exact⟨xm,by rw[←lk];exact okx,rex,fun _=>rfl,fun z=>by cases z⟩
      ·rw[List.map_append,List.take_add_one,p4];exact sub.append (List.Sublist.refl _)
    ·simp(maxSteps:=1000000) only[evs,↓reduceIte,Nat.reduceEqDiff,eq_false (show¬(E.length:Int)<H.length by omega),g6];have FaH:=Fad;have oeH:=FaH.get (Fa.get oe);have ld6:au hd ha.next 0 6=some (Ent.cells ⟨x,aO Ks x,false⟩):=by rw[(od).ld];rfl
     have u1:bo [.int .u64 0,.int .u8 0,.str [],.nils,.int .i64 0,.bool false] 0 (Ent.cells ⟨x,aO Ks x,false⟩)=some (Ent.cells ⟨x,aO Ks x,false⟩):=rfl;have on:aq (Ent.cells ⟨x,aO Ks x,false⟩)=true:=by show aq (x.cells++[_,_])=true;rw[aL,((il.fr Gb).i x xm).H.one];rfl
     obtain⟨hx,e_hx⟩:∃hx,hx=halloc hd (Ent.cells ⟨x,aO Ks x,false⟩):=⟨_,rfl⟩;have F_hx:Fr [] hd hx:=e_hx▸Fr.halloc FaH.wf _;have o_hx:Own hx hd.next (Ent.cells ⟨x,aO Ks x,false⟩):=e_hx▸Own.new FaH.wf _;simp(maxSteps:=1000000) only[evs,↓reduceIte,Nat.reduceEqDiff,Nat.reduceLT,oeH.ld1 0,ld6,u1,show(Ent.cells ⟨x,aO Ks x,false⟩).length=6 from rfl,←e_hx];have vb0:=GE.vb;have nH:=((Fa.then FaH).then F_hx).next;have oel':=(oe.lt G.wf);have nx0:h8.next≤hx.next:=by omega
     refine Gs.append1 (bytes:=72) (n:=1) F_hx.wf (GE.fr ((Fa.then FaH).then F_hx)) (Sl.lit o_hx rfl) (by omega) (by omega) on nx0 (by rw[aF aZ E];omega) ?_;intro vE' hy Gy ey Fy;have tk:∀{B:Nat}{cs:List V},Own hh B cs→B<h8.next→Own hy B cs:=fun o l=>Fy.own _ _ (fun m=>by have:=vb0 _ m;omega) (((Fa.then FaH).then F_hx).get o);have c1':vE'.one=true:=by
      rcases Gy with⟨rfl,_⟩|⟨b,n,rfl,_⟩<;>rfl
     simp(maxSteps:=1000000) only[evs,↓reduceIte,Nat.reduceEqDiff,g6];refine ah (c':=[vE']) Fy.wf (tk oe (by omega)) (by rw[aB c1'];rfl) (by rw[aB c1'];simp only[aD,aJ,c1'];rfl) (by rw[aB c1'];rfl) ?_;rintro hz oz Fz nz;have FN:Fr [] h7 hz:=(Fr.new F7.wf (G.then ((Fa.then FaH).then F_hx)) Fy (fun y hy=>by have:=vb0 _ hy;omega)).fresh Fz F7.wf (by omega);have eq:(E++[(⟨x,aO Ks x,false⟩:Ent)]).flatMap Ent.cells=E.flatMap Ent.cells++Ent.cells ⟨x,aO Ks x,false⟩:=by simp
     simp(maxSteps:=1000000) (disch:=omega) only[evs,↓reduceIte,Nat.reduceEqDiff,ai,g7];refine(aj _ _ _).2 ⟨X.length-(i+1),by omega,FN,i+1,vE',E++[⟨x,aO Ks x,false⟩],(by simp[T.get_set]),(by simp[T.get_set,g1]),(by simp[T.get_set,g2]),(by simp[T.get_set,g3]),(by simp[T.get_set,g4]),(by simp[T.get_set,g5]),(by simp[T.get_set,g6]),by omega,Fz.own _ _ (by simp;omega) (tk oa (by omega)),Fz.own _ _ (by simp;omega) (tk oc (by omega)),oz,by rw[eq];exact Gy.keep Fz (by simp;omega),?_,?_,rfl⟩
     ·intro e' m;rcases List.mem_append.1 m with m|m
      ·exact eok e' m
      ·rw[List.mem_singleton.1 m];exact⟨xm,by rw[←lk];exact okx,rex,fun _=>rfl,fun z=>by cases z⟩
     ·rw[List.map_append,List.take_add_one,p4];exact sub.append (List.Sublist.refl _)
  ·have kl:au hh h4.next 0 2=some [vK,.int .i64 12]:=by rw[(G.get oK7).ld];rfl
   have le:au hh h7.next 0 1=some [vE]:=by rw[oe.ld];rfl
   have vE1:vE.one=true:=by
    rcases GE with⟨rfl,_⟩|⟨b,n,rfl,_⟩<;>rfl
   have Fh4:Fr [] h4 hh:=F46.then (F7.then G);have nG:=G.next;simp(maxSteps:=1000000) only[evs,↓reduceIte,Nat.reduceEqDiff,eff,g7,g2,g4,g5,g6,len,show¬(i:Int)<X.length by omega,kl,le];refine ah (o:=0) (v:=.agg [vK,.int .i64 12]) (c':=[vK,.int .i64 12]) G.wf oa rfl (by show aq [_,_]=true;simp only[aD,aJ,v1];rfl) rfl ?_;rintro ha xa Fa na;have kla:au ha h4.next 0 2=some [vK,.int .i64 12]:=by rw[(Fa.own _ _ (by simp;omega) (G.get oK7)).ld];rfl
   have oe':=Fa.own _ _ (by simp;omega) oe;have lea:au ha h7.next 0 1=some [vE]:=by rw[oe'.ld];rfl
   simp(maxSteps:=1000000) only[evs,↓reduceIte,Nat.reduceEqDiff,eff,g3];refine ah (o:=0) (v:=.agg [vE]) (c':=[vE]) Fa.wf (Fa.own _ _ (by simp;omega) oc) rfl (by show aq [_]=true;simp only[aD,aJ,vE1];rfl) rfl ?_;rintro hz xz Fz nz;have r1:au hz h1.next 0 2=some [vK,.int .i64 12]:=by rw[(Fz.own _ _ (by simp;omega) xa).ld];rfl
   have r2:au hz h2.next 0 1=some [vE]:=by rw[xz.ld];rfl
   simp(maxSteps:=1000000) only[evs,↓reduceIte,Nat.reduceEqDiff,Nat.reduceAdd,DF,Nat.reduceSub,g2,g3,g4,g6,kl,le,lea,r1,r2];have Fh4a:Fr [h1.next] h4 ha:=Fr.trans Fh4 Fa F4.wf (by simp) (fun x m=>.inl m);have Fh4z:Fr [h1.next,h2.next] h4 hz:=Fr.trans Fh4a Fz F4.wf (by simp) (fun x m=>.inl (by simp at m⊢;exact .inr m));obtain⟨rz,kz⟩:=rkh _ hz (by simp;omega) Fh4z;have FN:Fr [] h hz:=((F07.then G).fresh Fa w (by omega)).fresh Fz w (by omega);have ilz:=((il.fr G).keep Fa (by simp;omega)).keep Fz (by simp;omega);have Gz:=((GE.keep Fa (by simp;omega)).keep Fz (by simp;omega)).le (C:=h.next) (by omega);refine⟨FN,vK,Ks,vX,X,vE,E,rfl,rz,kz,gk,okr,lk,ilz.le (by omega),Gz,eok,?_,by omega⟩;have:=(sub.trans (List.take_sublist _ _)).map Itm.key;rw[List.map_map]at this;exact this.nodup il.n
def IxOf(m:Nat→Option Nat)(E:List Ent):Prop:=∀k j,m k=some j↔∃e,E[j]? =some e∧e.x.key=k
theorem Bm{h:Heap}{v:V}{E:List Ent}{m:Nat→Option Nat}{key:Nat}(a:Recs Ent.cells 6 h v E)(hE:E.length≤4096)(ix:IxOf m E):
 ao go 116 [v,.int .u64 (key:Int)] h fun u h'=>h=h'∧u=.int .i64 (match m key with|some j=>(j:Int)|none=>-1):=by
 refine ag g116 rfl ?_;simp only[fn116,evs,Nat.reduceAdd,Int.reduceNeg];refine aE (fun n env hh=>h=hh∧∃i:Nat,env.get 5=some (.int .i64 i)∧env.get 0=some v∧env.get 1=some (.int .u64 (key:Int))∧i≤E.length∧(∀j e,j<i→E[j]? =some e→e.x.key≠key)∧n=E.length-i) E.length (by omega) ?_ ?_
 ·exact⟨rfl,0,(by simp[T.get_set]),(by simp[T.get_set]),(by simp[T.get_set]),by omega,fun j e c=>by omega,rfl⟩
 ·rintro n env hh ⟨rfl,i,g5,g0,g1,hi,hn,rfl⟩;by_cases c:i<E.length
  ·obtain⟨b,o,e,p1,p2,_,p4⟩:=a.ix aZ .i64 (i:Int) (by omega) (by omega);rw[Int.toNat_natCast]at p4;have k0:ab h b o=some (.int .u64 (e.x.key:Int)):=p2 0 (by omega);by_cases ck:e.x.key=key
   ·simp only[evs,↓reduceIte,Nat.reduceEqDiff,Int.reduceNeg,g5,g0,g1,a.len,show(i:Int)<E.length by omega,p1,k0,eq_true (show(e.x.key:Int)=key by omega)];rw[(ix key i).2 ⟨e,p4,ck⟩]
   ·simp(disch:=omega) only[evs,↓reduceIte,Nat.reduceEqDiff,Int.reduceNeg,ai,g5,g0,g1,a.len,show(i:Int)<E.length by omega,p1,k0,eq_false (show¬(e.x.key:Int)=key by omega)];refine(aj _ _ _).2 ⟨E.length-(i+1),by omega,rfl,i+1,(by simp[T.get_set]),(by simp[T.get_set,g0]),(by simp[T.get_set,g1]),by omega,?_,rfl⟩;intro j e' hj hx;by_cases cj:j=i
    ·subst cj;rw[p4]at hx;cases hx;exact ck
    ·exact hn j e' (by omega) hx
  ·simp only[evs,↓reduceIte,Int.reduceNeg,g5,g0,a.len,show¬(i:Int)<E.length by omega];cases e:m key with
   |none=>rfl
   |some j=>
    obtain⟨e',h1,h2⟩:=(ix key j).1 e;have:=(List.getElem?_eq_some_iff.1 h1).1;exact absurd h2 (hn j e' (by omega) h1)
def okZ(E:List Ent):Prop:=∀e∈E,1≤e.b∧e.b≤2305843009213693952
theorem okZ.sum_nn:∀{E:List Ent},okZ E→0≤(E.map Ent.b).sum
 |[],_=>by simp
 |e::E,h=>by
  have h1:=h e (by simp);have h2:=okZ.sum_nn (E:=E) fun x m=>h x (by simp[m]);simp only[List.map_cons,List.sum_cons];omega
theorem okZ.take{E:List Ent}(h:okZ E)(i:Nat):okZ (E.take i):=fun e m=>h e (List.mem_of_mem_take m)
theorem okZ.drop{E:List Ent}(h:okZ E)(i:Nat):okZ (E.drop i):=fun e m=>h e (List.mem_of_mem_drop m)
theorem okZ.split{E:List Ent}(i:Nat):(E.map Ent.b).sum=((E.take i).map Ent.b).sum+((E.drop i).map Ent.b).sum:=by
 rw[←List.sum_append,←List.map_append,List.take_append_drop]
theorem z8{E:List Ent}{i:Nat}{e:Ent}(h:E[i]? =some e):((E.take (i+1)).map Ent.b).sum=((E.take i).map Ent.b).sum+e.b:=by
 rw[List.take_add_one,h];simp
theorem yY{h:Heap}{v:V}{E:List Ent}(a:Recs Ent.cells 6 h v E)(hE:E.length≤4096)(ok:okZ E):
 ao go 190 [v] h fun u h'=>h=h'∧∃t:Int,u=.int .i64 t∧(4611686018427387904<t↔4611686018427387904<(E.map Ent.b).sum):=by
 refine ag g190 rfl ?_;simp only[fn190,evs];refine aE (fun n env hh=>h=hh∧∃i:Nat,env.get 4=some (.int .i64 i)∧env.get 3=some (.int .u64 ((E.take i).map Ent.b).sum)∧env.get 0=some v∧i≤E.length∧((E.take i).map Ent.b).sum≤4611686018427387904∧n=E.length-i) E.length (by omega) ?_ ?_
 ·exact⟨rfl,0,(by simp[T.get_set]),(by simp[T.get_set]),(by simp[T.get_set]),by omega,by simp,rfl⟩
 ·rintro n env hh ⟨rfl,i,g4,g3,g0,hi,hs,rfl⟩;have nn:=(ok.take i).sum_nn;by_cases c:i<E.length
  ·obtain⟨b,o,e,p1,p2,_,p4⟩:=a.ix aZ .i64 (i:Int) (by omega) (by omega);rw[Int.toNat_natCast]at p4;have b4:ab h b (o+4)=some (.int .i64 e.b):=p2 4 (by omega);have ob:=ok e (List.mem_of_getElem? p4);have ts:=z8 p4;have c1:aY .u64 e.b=e.b:=bU _ (by omega) (by omega);have c2:aY .u64 (((E.take i).map Ent.b).sum+e.b)=((E.take (i+1)).map Ent.b).sum:=by rw[bU _ (by omega) (by omega),ts]
   by_cases c3:4611686018427387904<((E.take (i+1)).map Ent.b).sum
   ·simp only[evs,↓reduceIte,Nat.reduceEqDiff,g4,g3,g0,a.len,show(i:Int)<E.length by omega,p1,b4,eq_true (show(0:Int)<e.b by omega),c1,c2,eq_true c3];refine⟨_,rfl,?_⟩;have:=(ok.drop (i+1)).sum_nn;have:=okZ.split (E:=E) (i+1);omega
   ·simp(disch:=omega) only[evs,↓reduceIte,Nat.reduceEqDiff,ai,g4,g3,g0,a.len,show(i:Int)<E.length by omega,p1,b4,eq_true (show(0:Int)<e.b by omega),c1,c2,eq_false c3];refine(aj _ _ _).2 ⟨E.length-(i+1),by omega,rfl,i+1,(by simp[T.get_set]),(by simp[T.get_set]),(by simp[T.get_set,g0]),by omega,by omega,rfl⟩
  ·rw[List.take_of_length_le (by omega)]at hs g3 nn;have c1:aY .i64 (E.map Ent.b).sum=(E.map Ent.b).sum:=ai _ (by omega) (by omega);simp only[evs,↓reduceIte,Nat.reduceEqDiff,g4,g3,g0,a.len,show¬(i:Int)<E.length by omega,c1];exact⟨_,rfl,Iff.rfl⟩
theorem Bj{h:Heap}{v:V}{E:List Ent}(a:Recs Ent.cells 6 h v E)(hE:E.length≤4096)(ok:okZ E):
 ao go 117 [v] h fun u h'=>h=h'∧u=.int .i64 (if 4611686018427387904<(E.map Ent.b).sum then 13 else 0):=by
 refine ag g117 rfl ?_;simp only[fn117,evs,↓reduceIte,Nat.reduceEqDiff];refine aa (yY a hE ok) ?_;rintro _ _ ⟨rfl,t,rfl,ht⟩;by_cases c:4611686018427387904<(E.map Ent.b).sum
 ·simp only[evs,↓reduceIte,eq_true (ht.2 c),c]
 ·simp only[evs,↓reduceIte,eq_false (fun x=>c (ht.1 x)),c]
theorem pR:∀(d:List V)(o:Nat),bo d o []=some d
 |[],o=>fT o
 |x::l,0=>cT x l
 |x::l,o+1=>by rw[aX,pR l o];rfl
theorem iZ(d:List V):∀(c:List V)(o:Nat)(vs c':List V),bo c o vs=some c'→bo (c++d) o vs=some (c'++d)
 |[],o,[],c',e=>by rw[fT]at e;cases e;exact pR d o
 |[],o,v::vs,c',e=>by rw[jx]at e;cases e
 |x::l,0,[],c',e=>by rw[cT]at e;cases e;rfl
 |x::l,0,v::vs,c',e=>by
  rw[aQ]at e;cases q:bo l 0 vs with
  |none=>rw[q]at e;cases e
  |some r=>rw[q]at e;cases e;rw[List.cons_append,aQ,iZ d l 0 vs r q];rfl
 |x::l,o+1,vs,c',e=>by
  rw[aX]at e;cases q:bo l o vs with
  |none=>rw[q]at e;cases e
  |some r=>rw[q]at e;cases e;rw[List.cons_append,aX,iZ d l o vs r q];rfl
theorem jJ(d:List V)(o:Nat)(vs d':List V)(e:bo d o vs=some d'):∀(c:List V),bo (c++d) (c.length+o) vs=some (c++d')
 |[]=>by simpa using e
 |x::l=>by
  rw[List.cons_append,List.length_cons,show l.length+1+o=(l.length+o)+1 by omega,aX,jJ d o vs d' e l];rfl
theorem lL{α:Type}{f:α→List V}{k:Nat}(hf:∀x,(f x).length=k){y:α}{o:Nat}{vs:List V}:∀(L:List α)(i:Nat)(x:α),L[i]? =some x→bo (f x) o vs=some (f y)→bo (L.flatMap f) (i*k+o) vs=some ((L.set i y).flatMap f)
 |z::L,0,x,h,e=>by
  simp at h;subst h;rw[List.flatMap_cons,Nat.zero_mul,Nat.zero_add,List.set_cons_zero,List.flatMap_cons];exact iZ _ _ _ _ _ e
 |z::L,i+1,x,h,e=>by
  rw[List.flatMap_cons,List.set_cons_succ,List.flatMap_cons,show(i+1) *k+o=(f z).length+(i*k+o) by rw[hf,Nat.succ_mul];omega];exact jJ _ _ _ _ (lL hf L i x (by simpa using h) e) _
theorem _root_.Go.Ev.Gs.ptr{h:Heap}{B e:Nat}{v:V}{cs:List V}{n:Nat}(g:Gs h B e v cs)(hn:cs.length=n*e)(he:0<e){i:Nat}(hi:i<n):∃b,vb v=[b]∧B≤b∧Own h b cs∧(∀k,aP (.ixs e) [v,.int k (i:Int)]=some (.ptr b (i*e)))∧∀h' c',Own h' b c'→c'.length=cs.length→Gs h' B e v c':=by
 rcases g with⟨rfl,rfl⟩|⟨b,m,rfl,h1,h2,h3,o⟩
 ·have h0:0=n*e:=hn;have:=Nat.mul_pos (show 0<n by omega) he;omega
 ·have:m=n:=Nat.eq_of_mul_eq_mul_right he (by omega);subst this;refine⟨b,rfl,h3,o,fun k=>?_,fun h' c' o' hl=>.inr ⟨b,m,rfl,by omega,h2,h3,o'⟩⟩;rw[j5 _ _ _ _ _ _ _ (by omega) (by omega)];simp
theorem Ent.upd_b(e:Ent)(s:Int):bo e.cells 4 [.int .i64 s]=some (Ent.cells ⟨e.x,s,e.kn⟩):=rfl
theorem Ent.upd_k(e:Ent)(t:Bool):bo e.cells 5 [.bool t]=some (Ent.cells ⟨e.x,e.b,t⟩):=rfl
theorem sw{h:Heap}{e:Ent}(a:ItmH h e.x):aq e.cells=true:=by
 show aq (e.x.cells++[_,_])=true;rw[aL,a.one];rfl
theorem DB{h:Heap}{v:V}{E:List Ent}{m:Nat→Option Nat}{key:Nat}{s:Int}(w:WF h)(a:Recs Ent.cells 6 h v E)(hE:E.length≤4096)(ix:IxOf m E)(ok:okZ E)(on:∀e∈E,ItmH h e.x)(hs:-9223372036854775808≤s∧s≤9223372036854775807):
 ao go 60 [v,.int .u64 (key:Int),.int .i64 s] h fun u h'=>Fr [] h h'∧∃v',u=.tup [v',.int .i64 (match m key with|none=>11|some j=>bK (E.map Ent.b) j s)]∧
  ∀j e,m key=some j→E[j]? =some e→bK (E.map Ent.b) j s=0→Gs h' h.next 6 v' ((E.set j ⟨e.x,s,true⟩).flatMap Ent.cells):=by
 refine ag g60 rfl ?_;simp only[fn60,evs,↓reduceIte,Nat.reduceEqDiff,Nat.reduceAdd];refine aa (Bm a hE ix) ?_;rintro _ _ ⟨rfl,rfl⟩;cases em:m key with
 |none=>
  simp only[evs,↓reduceIte,Nat.reduceEqDiff,Int.reduceNeg];exact⟨Fr.refl w,_,rfl,fun j e c=>by cases c⟩
 |some j=>
  obtain⟨e,e1,e2⟩:=(ix key j).1 em;have jl:j<E.length:=(List.getElem?_eq_some_iff.1 e1).1;have hx:(0:Int)≤(j:Int)∧(j:Int)<((E.map Ent.b).length:Nat):=by simp;omega
  by_cases c1:s<1
  ·have x:bK (E.map Ent.b) j s=12:=by rw[bK,if_pos hx,if_pos (.inl c1)]
   simp only[evs,↓reduceIte,Nat.reduceEqDiff,eq_false (show¬(j:Int)<0 by omega),eq_true c1];exact⟨Fr.refl w,_,by rw[x],fun j' e' c d z=>by cases c;rw[x]at z;cases z⟩
  by_cases c2:2305843009213693952<s
  ·have x:bK (E.map Ent.b) j s=12:=by rw[bK,if_pos hx,if_pos (.inr c2)]
   simp only[evs,↓reduceIte,Nat.reduceEqDiff,eq_false (show¬(j:Int)<0 by omega),eq_false c1,eq_true c2];exact⟨Fr.refl w,_,by rw[x],fun j' e' c d z=>by cases c;rw[x]at z;cases z⟩
  simp only[evs,↓reduceIte,Nat.reduceEqDiff,eq_false (show¬(j:Int)<0 by omega),eq_false c1,eq_false c2];refine aE (fun n env hh=>Fr [] h hh∧∃(i:Nat)(u:V),env.get 10=some (.int .i64 i)∧env.get 9=some u∧env.get 0=some v∧env.get 2=some (.int .i64 s)∧env.get 8=some (.int .i64 j)∧i≤E.length∧Gs hh h.next 6 u ((E.take i).flatMap Ent.cells)∧n=E.length-i) E.length (by omega) ?_ ?_
  ·exact⟨Fr.refl w,0,.nils,(by simp[T.get_set]),(by simp[T.get_set]),(by simp[T.get_set]),(by simp[T.get_set]),(by simp[T.get_set]),by omega,.inl ⟨rfl,by simp⟩,rfl⟩
  ·rintro n env hh ⟨F,i,u,g10,g9,g0,g2,g8,hi,G,rfl⟩;have ub:=G.vb;have nF:=F.next;by_cases c:i<E.length
   ·obtain⟨bi,oi,x,p1,_,p3,p4⟩:=(a.fr F).ix aZ .i64 (i:Int) (by omega) (by omega);rw[Int.toNat_natCast]at p4;have ones:=sw ((on x (List.mem_of_getElem? p4)).fr F);have u1:bo [.int .u64 0,.int .u8 0,.str [],.nils,.int .i64 0,.bool false] 0 x.cells=some x.cells:=rfl;obtain⟨hx,e_hx⟩:∃hx,hx=halloc hh x.cells:=⟨_,rfl⟩;have F_hx:Fr [] hh hx:=e_hx▸Fr.halloc F.wf _;have o_hx:Own hx hh.next x.cells:=e_hx▸Own.new F.wf _;simp only[evs,↓reduceIte,Nat.reduceEqDiff,Nat.reduceLT,g10,g9,g0,a.len,show(i:Int)<E.length by omega,p1,p3,u1,show x.cells.length=6 from rfl,←e_hx];have nx:hx.next=hh.next+1:=by rw[e_hx];rfl
    refine Gs.append1 (bytes:=72) (n:=1) F_hx.wf (G.fr F_hx) (Sl.lit o_hx rfl) (by omega) (by omega) ones (by omega) (by rw[aF aZ,List.length_take];omega) ?_;intro v' hy Gy ey Fy;have FN:Fr [] h hy:=Fr.new w (F.then F_hx) Fy ub;have eq:(E.take (i+1)).flatMap Ent.cells=(E.take i).flatMap Ent.cells++x.cells:=by rw[List.take_add_one,p4];simp
    simp(disch:=omega) only[evs,↓reduceIte,Nat.reduceEqDiff,ai,g10];refine(aj _ _ _).2 ⟨E.length-(i+1),by omega,FN,i+1,v',(by simp[T.get_set]),(by simp[T.get_set]),(by simp[T.get_set,g0]),(by simp[T.get_set,g2]),(by simp[T.get_set,g8]),by omega,by rw[eq];exact Gy,rfl⟩
   ·rw[List.take_of_length_le (by omega)]at G;obtain⟨bu,hb,hB,ou,px,back⟩:=G.ptr (n:=E.length) (aF aZ E) (by omega) jl;simp only[evs,↓reduceIte,Nat.reduceEqDiff,g10,g9,g0,g2,g8,a.len,show¬(i:Int)<E.length by omega,px];refine ah (c':=(E.set j ⟨e.x,s,e.kn⟩).flatMap Ent.cells) F.wf ou rfl rfl (lL aZ E j e e1 (e.upd_b s)) ?_;rintro h1 o1 F1 n1;simp only[evs,↓reduceIte,Nat.reduceEqDiff,g9,g8,px];refine ah (c':=(E.set j ⟨e.x,s,true⟩).flatMap Ent.cells) F1.wf o1 rfl rfl (by
     have:=lL aZ (E.set j ⟨e.x,s,e.kn⟩) j ⟨e.x,s,e.kn⟩ (by simp[jl]) (Ent.upd_k _ true);rwa[List.set_set]at this) ?_
    rintro h2 o2 F2 n2;have G2:=back h2 _ o2 (by simp only[aF aZ,List.length_set]);have rs:Recs Ent.cells 6 h2 u (E.set j ⟨e.x,s,true⟩):=Gs.sl (n:=(E.set j ⟨e.x,s,true⟩).length) G2 (aF aZ _) (by omega);have FN:Fr [] h h2:=(F.fresh F1 w hB).fresh F2 w hB;have okn:okZ (E.set j ⟨e.x,s,true⟩):=by
     intro y m;rcases List.mem_or_eq_of_mem_set m with q|rfl
     ·exact ok y q
     ·exact⟨by show 1≤s;omega,by show s≤_;omega⟩
    have sm:((E.set j ⟨e.x,s,true⟩).map Ent.b).sum=(E.map Ent.b).sum-(E.map Ent.b).getD j 0+s:=by
     rw[List.map_set,rJ _ _ _ (by simp;omega)]
    have x:bK (E.map Ent.b) j s=if 4611686018427387904<((E.set j ⟨e.x,s,true⟩).map Ent.b).sum then 13 else 0:=by
     rw[bK,if_pos hx,if_neg (by omega),sm,Int.toNat_natCast];by_cases c5:4611686018427387904<(E.map Ent.b).sum-(E.map Ent.b).getD j 0+s
     ·rw[if_pos c5,if_pos (by omega)]
     ·rw[if_neg c5,if_neg (by omega)]
    simp only[evs,↓reduceIte,Nat.reduceEqDiff,g9];refine aa (Bj rs (by simp;omega) okn) ?_;rintro _ _ ⟨rfl,rfl⟩;by_cases c5:4611686018427387904<((E.set j ⟨e.x,s,true⟩).map Ent.b).sum
    ·rw[if_pos c5]at x⊢;simp only[evs,↓reduceIte,Nat.reduceEqDiff,g9];exact⟨FN,_,by rw[x],fun j' e' c d z=>by cases c;rw[x]at z;cases z⟩
    ·rw[if_neg c5]at x⊢;simp only[evs,↓reduceIte,Nat.reduceEqDiff,g9];exact⟨FN,_,by rw[x],fun j' e' c d z=>by cases c;rw[e1]at d;cases d;exact G2⟩
theorem IxOf.same{m:Nat→Option Nat}{E E':List Ent}(ix:IxOf m E)(e:E'.map Ent.x=E.map Ent.x):IxOf m E':=by
 intro k j;rw[ix k j];have:=congrArg (fun l=>l[j]?) e;simp only[List.getElem?_map]at this;constructor
 ·rintro⟨a,h1,h2⟩;rw[h1]at this;cases q:E'[j]?with
  |none=>rw[q]at this;cases this
  |some b=>rw[q]at this;exact⟨b,rfl,by rw[←h2,Option.some.inj this]⟩
 ·rintro⟨a,h1,h2⟩;rw[h1]at this;cases q:E[j]?with
  |none=>rw[q]at this;cases this
  |some b=>rw[q]at this;exact⟨b,rfl,by rw[←h2,←Option.some.inj this]⟩
theorem Bk{h:Heap}{v vH:V}{E:List Ent}{H:List (Nat×Int)}{m:Nat→Option Nat}(w:WF h)(a:Recs Ent.cells 6 h v E)(hE:E.length≤4096)(ix:IxOf m E)(ok:okZ E)(on:∀e∈E,ItmH h e.x)
 (aH:ARecs htC 2 h vH H) (hH:∀x∈H,x.1<18446744073709551616∧-9223372036854775808≤x.2∧x.2≤9223372036854775807) (hl:H.length≤4096):
 ao go 18 [v,vH] h fun u h'=>Fr [] h h'∧∃v' E',u=.tup [v',.int .i64 ((cF m H 0 (E.map Ent.b) (E.map Ent.kn)).2.1:Int),.int .i64 (cF m H 0 (E.map Ent.b) (E.map Ent.kn)).1]∧(v'=v∧E'=E∨Gs h' h.next 6 v' (E'.flatMap Ent.cells))∧E'.map Ent.x=E.map Ent.x∧okZ E'∧
  ((cF m H 0 (E.map Ent.b) (E.map Ent.kn)).1=0→E'.map Ent.b=(cF m H 0 (E.map Ent.b) (E.map Ent.kn)).2.2.1∧E'.map Ent.kn=(cF m H 0 (E.map Ent.b) (E.map Ent.kn)).2.2.2)∧((cF m H 0 (E.map Ent.b) (E.map Ent.kn)).1≠0→E'=E):=by
 refine ag g18 rfl ?_;simp only[fn18,evs,↓reduceIte,Nat.reduceEqDiff,Nat.reduceAdd];refine aE (fun n env hh=>Fr [] h hh∧∃(i:Nat)(u:V)(E2:List Ent),env.get 8=some (.int .i64 i)∧env.get 7=some u∧env.get 0=some v∧env.get 1=some vH∧i≤H.length∧(u=v∧E2=E∨Gs hh h.next 6 u (E2.flatMap Ent.cells))∧E2.map Ent.x=E.map Ent.x∧okZ E2∧cF m (H.drop i) i (E2.map Ent.b) (E2.map Ent.kn)=cF m H 0 (E.map Ent.b) (E.map Ent.kn)∧n=H.length-i) H.length (by omega) ?_ ?_
 ·exact⟨Fr.refl w,0,v,E,(by simp[T.get_set]),(by simp[T.get_set]),(by simp[T.get_set]),(by simp[T.get_set]),by omega,.inl ⟨rfl,rfl⟩,rfl,ok,rfl,rfl⟩
 ·rintro n env hh ⟨F,i,u,E2,g8,g7,g0,g1,hi,ru,ex,ok2,em,rfl⟩;have rs:Recs Ent.cells 6 hh u E2:=by
   rcases ru with⟨rfl,rfl⟩|G
   ·exact a.fr F
   ·exact Gs.sl (n:=E2.length) G (aF aZ _) (by omega)
  have len2:E2.length=E.length:=by have:=congrArg List.length ex;simpa using this
  have on2:∀e∈E2,ItmH hh e.x:=by
   intro e me;have:e.x∈E2.map Ent.x:=List.mem_map.2 ⟨e,me,rfl⟩;rw[ex]at this;obtain⟨e',m',q⟩:=List.mem_map.1 this;rw[←q];exact(on e' m').fr F
  by_cases c:i<H.length
  ·obtain⟨bi,oi,x,p1,p2,_,p4⟩:=(aH.fr F).ix (f:=htC) (k:=2) (fun _=>rfl) .i64 (i:Int) (by omega) (by omega);rw[Int.toNat_natCast]at p4;obtain⟨k0,z0,z1⟩:=hH x (List.mem_of_getElem? p4);have q0:ab hh bi oi=some (.int .u64 (x.1:Int)):=p2 0 (by omega);have q1:ab hh bi (oi+1)=some (.int .i64 x.2):=p2 1 (by omega);have hd:H.drop i=x::H.drop (i+1):=aK p4;simp only[evs,↓reduceIte,Nat.reduceEqDiff,eff,g8,g7,g1,aH.len,show(i:Int)<H.length by omega,p1,q0,q1];refine aa (DB F.wf rs (by omega) (ix.same ex) ok2 on2 ⟨z0,z1⟩) ?_;rintro _ h2 ⟨F2,v',rfl,hv⟩;have F02:=F.then F2;rw[hd]at em;cases ek:m x.1 with
   |none=>
    have e:cF m H 0 (E.map Ent.b) (E.map Ent.kn)=(11,i,E2.map Ent.b,E2.map Ent.kn):=by rw[←em];simp[cF,ek]
    rw[e];simp(disch:=omega) only[evs,↓reduceIte,Nat.reduceEqDiff,Nat.reduceAdd,DF,eff,Nat.reduceSub,ai,g8,g0,q0,q1];exact⟨F02,_,_,rfl,.inl ⟨rfl,rfl⟩,rfl,ok,fun q=>(by cases q),fun _=>rfl⟩
   |some j=>
    obtain⟨e1,j1,_⟩:=(ix.same ex x.1 j).1 ek;have jl:j<E2.length:=(List.getElem?_eq_some_iff.1 j1).1;by_cases c5:bK (E2.map Ent.b) j x.2=0
    ·have sz:1≤x.2∧x.2≤2305843009213693952:=by
      rw[bK,if_pos (by simp;omega)]at c5;split at c5
      ·cases c5
      ·omega
     have es:(E2.set j ⟨e1.x,x.2,true⟩).map Ent.x=E2.map Ent.x:=by
      rw[List.map_set];refine List.ext_getElem? fun k=>?_;rw[List.getElem?_set];split
      ·subst_vars;rw[if_pos (by simpa using jl),List.getElem?_map,j1];rfl
      ·rfl
     have okn:okZ (E2.set j ⟨e1.x,x.2,true⟩):=by
      intro y m;rcases List.mem_or_eq_of_mem_set m with q|rfl
      ·exact ok2 y q
      ·exact sz
     have G:=hv j e1 ek j1 c5;have e:cF m (H.drop (i+1)) (i+1) ((E2.set j ⟨e1.x,x.2,true⟩).map Ent.b) ((E2.set j ⟨e1.x,x.2,true⟩).map Ent.kn)=cF m H 0 (E.map Ent.b) (E.map Ent.kn):=by
      rw[←em,List.map_set,List.map_set];simp[cF,ek,c5]
     simp(disch:=omega) only[evs,↓reduceIte,Nat.reduceEqDiff,Nat.reduceAdd,DF,eff,Nat.reduceSub,ai,g8,q0,q1,c5,eq_false (show¬(0:Int)<0 by omega)];refine(aj _ _ _).2 ⟨H.length-(i+1),by omega,F02,i+1,v',E2.set j ⟨e1.x,x.2,true⟩,(by simp[T.get_set]),(by simp[T.get_set]),(by simp[T.get_set,g0]),(by simp[T.get_set,g1]),by omega,.inr (G.le F.next),by rw[es,ex],okn,e,rfl⟩
    ·have e:cF m H 0 (E.map Ent.b) (E.map Ent.kn)=(bK (E2.map Ent.b) j x.2,i,E2.map Ent.b,E2.map Ent.kn):=by rw[←em];simp[cF,ek,c5]
     have pos:0<bK (E2.map Ent.b) j x.2:=by
      have:bK (E2.map Ent.b) j x.2=4∨bK (E2.map Ent.b) j x.2=12∨bK (E2.map Ent.b) j x.2=13∨bK (E2.map Ent.b) j x.2=0:=by
       unfold bK;repeat' split
       all_goals simp
      omega
     rw[e];simp only[evs,↓reduceIte,Nat.reduceEqDiff,Nat.reduceAdd,DF,eff,Nat.reduceSub,g8,g0,q0,q1,eq_true pos];exact⟨F02,_,_,rfl,.inl ⟨rfl,rfl⟩,rfl,ok,fun q=>absurd q c5,fun _=>rfl⟩
  ·have:i=H.length:=by omega
   subst this;rw[List.drop_length]at em;rw[←em];simp only[evs,↓reduceIte,Nat.reduceEqDiff,g8,g7,g1,aH.len,show¬(H.length:Int)<H.length by omega];exact⟨F,_,E2,rfl,ru,ex,ok2,fun _=>⟨rfl,rfl⟩,fun q=>absurd rfl q⟩
end Go.Ev.Lay
