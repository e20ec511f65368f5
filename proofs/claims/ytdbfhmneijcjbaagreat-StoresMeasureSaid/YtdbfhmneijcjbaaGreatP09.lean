/- An evaluator of the program, and contracts over it: StV to StaJ. -/
import Derived.Test.YtdbfhmneijcjbaaGreatP08
set_option linter.unusedSimpArgs false
set_option linter.unusedVariables false
set_option linter.constructorNameAsVariable false
namespace Go.Ev.Lay
set_option maxRecDepth 4000
theorem FE{h:Heap}:∀{t:NT},NH h t→AllE h t
 |.nil,_=>trivial
 |.cons _ _ _ _ _ _ _ _ _,⟨_,b,c,d,e,f,g⟩=>⟨DA b c d e f (FE f),FE g⟩
def NT.count(k:Nat)(tg ky:Str)(at':List (Str×Str))(tx:Str)(sub:NT):Nat:=
 if(node k tg ky at' tx sub sub.walk 1 0).2=true then(node k tg ky at' tx sub sub.walk 1 0).1 else 0
theorem vM{h:Heap}{k:Nat}{tg ky:Str}{at':List (Str×Str)}{tx:Str}{va vc:V}{sub:NT}(w:WF h)(n:NH h (.cons k tg ky at' tx va vc sub .nil)):
 ao go 203 [.agg [.int .u8 (k:Int),.str tg,.str ky,va,.str tx,vc]] h fun u h'=>∃d:Nat,u=.tup [.int .i64 (NT.count k tg ky at' tx sub:Nat),.int .i64 (d:Int)]∧Fr [] h h':=by
 obtain⟨h1,e_h1⟩:∃h1,h1=halloc h [.int .u8 (k:Int),.str tg,.str ky,va,.str tx,vc]:=⟨_,rfl⟩;have F_h1:Fr [] h h1:=e_h1▸Fr.halloc w _;have o_h1:Own h1 h.next [.int .u8 (k:Int),.str tg,.str ky,va,.str tx,vc]:=e_h1▸Own.new w _;obtain⟨h2,e_h2⟩:∃h2,h2=halloc h1 [.int .i64 0]:=⟨_,rfl⟩;have F_h2:Fr [] h1 h2:=e_h2▸Fr.halloc F_h1.wf _;have o_h2:Own h2 h1.next [.int .i64 0]:=e_h2▸Own.new F_h1.wf _;obtain⟨h3,e_h3⟩:∃h3,h3=halloc h2 [.int .i64 0]:=⟨_,rfl⟩;have F_h3:Fr [] h2 h3:=e_h3▸Fr.halloc F_h2.wf _;have o_h3:Own h3 h2.next [.int .i64 0]:=e_h3▸Own.new F_h2.wf _;obtain⟨h4,e_h4⟩:∃h4,h4=halloc h3 [.nilf]:=⟨_,rfl⟩;have F_h4:Fr [] h3 h4:=e_h4▸Fr.halloc F_h3.wf _;have o_h4:Own h4 h3.next [.nilf]:=e_h4▸Own.new F_h3.wf _;have n1:h1.next=h.next+1:=by rw[e_h1];rfl
 have n2:h2.next=h1.next+1:=by rw[e_h2];rfl
 have n3:h3.next=h2.next+1:=by rw[e_h3];rfl
 refine ag g203 rfl ?_;simp only[fn203,evs,↓reduceIte,Nat.reduceEqDiff,←e_h1,←e_h2,←e_h3,←e_h4];refine ah (c':=[.func (.func 252) [] [.ptr h1.next 0,.ptr h2.next 0,.ptr h3.next 0]]) F_h4.wf o_h4 rfl rfl rfl ?_;rintro h5 o5 F5 n5;have F15:Fr [] h1 h5:=Fr.new F_h1.wf (F_h2.then (F_h3.then F_h4)) F5 (by simp;omega);have ob:=F15.get o_h1;have B:MsB h1 h1.next h2.next h3.next:=⟨F_h1.wf,Nat.le_refl _,by omega,by omega,by omega,by omega,by omega⟩;have M:Ms h1 h5 h1.next h2.next h3.next 0 0:=⟨F15,F5.own _ _ (by simp;omega) (F_h4.get (F_h3.get o_h2)),F5.own _ _ (by simp;omega) (F_h4.get o_h3),o5,by omega⟩;have lw:ab h5 h3.next 0=some (.func (.func 252) [] [.ptr h1.next 0,.ptr h2.next 0,.ptr h3.next 0]):=o5.ld1 0;have A:=(FE (n.fr F_h1)).1;simp only[evs,↓reduceIte,Nat.reduceEqDiff,Nat.reduceLT,lw];refine aa (A h5 h.next 0 h1.next h2.next h3.next 1 0 0 B M (fun h' f=>(f.get o_h1).at6) (by omega) (by omega)) ?_;rintro _ h6 ⟨rfl,d,M6⟩;unfold NT.count;cases c:(NT.node k tg ky at' tx sub sub.walk 1 0).2
 ·simp only[evs,↓reduceIte,Nat.reduceEqDiff];refine ah (c':=[.int .i64 0]) M6.f.wf M6.oc rfl rfl rfl ?_;rintro h7 o7 F7 n7;have od7:=F7.own _ _ (by simp;omega) M6.od;simp only[evs,↓reduceIte,Nat.reduceEqDiff];refine ah (c':=[.int .i64 0]) F7.wf od7 rfl rfl rfl ?_;rintro h8 o8 F8 n8;have a7:ab h8 h1.next 0=some (.int .i64 0):=(F8.own _ _ (by simp;omega) o7).ld1 0;have a8:ab h8 h2.next 0=some (.int .i64 0):=o8.ld1 0;simp only[evs,↓reduceIte,Nat.reduceEqDiff,a7,a8];refine⟨0,by simp,?_⟩;exact Fr.new w F_h1 (Fr.trans (T:=[h1.next,h2.next]) (Fr.trans (T:=[h1.next,h2.next]) M6.f F7 F_h1.wf (by simp) (by simp)) F8 F_h1.wf (by simp) (by simp)) (by simp;omega)
 ·have lc:ab h6 h1.next 0=some (.int .i64 ((NT.node k tg ky at' tx sub sub.walk 1 0).1:Int)):=M6.oc.ld1 0;have ld:ab h6 h2.next 0=some (.int .i64 (d:Int)):=M6.od.ld1 0;simp only[evs,↓reduceIte,Nat.reduceEqDiff,eff,lc,ld];refine ah (c':=[.int .i64 ((NT.node k tg ky at' tx sub sub.walk 1 0).1:Int)]) M6.f.wf M6.oc rfl rfl rfl ?_;rintro h7 o7 F7 n7;have od7:=F7.own _ _ (by simp;omega) M6.od;have ld7:ab h7 h2.next 0=some (.int .i64 (d:Int)):=od7.ld1 0;simp only[evs,↓reduceIte,Nat.reduceEqDiff,eff];refine ah (c':=[.int .i64 (d:Int)]) F7.wf od7 rfl rfl rfl ?_;rintro h8 o8 F8 n8;have a7:ab h8 h1.next 0=some (.int .i64 ((NT.node k tg ky at' tx sub sub.walk 1 0).1:Int)):=(F8.own _ _ (by simp;omega) o7).ld1 0;have a8:ab h8 h2.next 0=some (.int .i64 (d:Int)):=o8.ld1 0;simp only[evs,↓reduceIte,Nat.reduceEqDiff,Nat.reduceAdd,DF,Nat.reduceSub,lc,ld,ld7,a7,a8];refine⟨d,by simp,?_⟩;exact Fr.new w F_h1 (Fr.trans (T:=[h1.next,h2.next]) (Fr.trans (T:=[h1.next,h2.next]) M6.f F7 F_h1.wf (by simp) (by simp)) F8 F_h1.wf (by simp) (by simp)) (by simp;omega)
theorem lJ{h:Heap}{k:Nat}{tg ky:Str}{at':List (Str×Str)}{tx:Str}{va vc:V}{sub:NT}(w:WF h)(n:NH h (.cons k tg ky at' tx va vc sub .nil)):
 ao go 142 [.agg [.int .u8 (k:Int),.str tg,.str ky,va,.str tx,vc]] h fun u h'=>u=.int .i64 (NT.count k tg ky at' tx sub:Nat)∧Fr [] h h':=by
 obtain⟨h1,e_h1⟩:∃h1,h1=halloc h [.int .u8 (k:Int),.str tg,.str ky,va,.str tx,vc]:=⟨_,rfl⟩;have F_h1:Fr [] h h1:=e_h1▸Fr.halloc w _;have o_h1:Own h1 h.next [.int .u8 (k:Int),.str tg,.str ky,va,.str tx,vc]:=e_h1▸Own.new w _;refine ag g142 rfl ?_;simp only[fn142,evs,↓reduceIte,Nat.reduceEqDiff,←e_h1,o_h1.at6.2.2.2.2.2.2];refine aa (vM F_h1.wf (n.fr F_h1)) ?_;rintro _ h2 ⟨d,rfl,F2⟩;simp only[evs,↓reduceIte];exact F_h1.then F2
theorem ql{h:Heap}{k:Nat}{tg ky:Str}{at':List (Str×Str)}{tx:Str}{va vc:V}{sub:NT}(w:WF h)(n:NH h (.cons k tg ky at' tx va vc sub .nil)):
 ao go 74 [.agg [.int .u8 (k:Int),.str tg,.str ky,va,.str tx,vc]] h fun u h'=>u=.int .i64 (if NT.count k tg ky at' tx sub=0 then 14 else 0)∧Fr [] h h':=by
 obtain⟨h1,e_h1⟩:∃h1,h1=halloc h [.int .u8 (k:Int),.str tg,.str ky,va,.str tx,vc]:=⟨_,rfl⟩;have F_h1:Fr [] h h1:=e_h1▸Fr.halloc w _;have o_h1:Own h1 h.next [.int .u8 (k:Int),.str tg,.str ky,va,.str tx,vc]:=e_h1▸Own.new w _;by_cases c:NT.count k tg ky at' tx sub=0
 ·refine ag g74 rfl ?_;simp only[fn74,evs,↓reduceIte,Nat.reduceEqDiff,←e_h1,o_h1.at6.2.2.2.2.2.2];refine aa (lJ F_h1.wf (n.fr F_h1)) ?_;rintro _ h2 ⟨rfl,F2⟩;simp only[evs,↓reduceIte,show((NT.count k tg ky at' tx sub:Nat):Int)=0 by omega];exact⟨by rw[if_pos c],F_h1.then F2⟩
 ·refine ag g74 rfl ?_;simp only[fn74,evs,↓reduceIte,Nat.reduceEqDiff,←e_h1,o_h1.at6.2.2.2.2.2.2];refine aa (lJ F_h1.wf (n.fr F_h1)) ?_;rintro _ h2 ⟨rfl,F2⟩;simp only[evs,↓reduceIte,show¬((NT.count k tg ky at' tx sub:Nat):Int)=0 by omega];exact⟨by rw[if_neg c],F_h1.then F2⟩
theorem wa(z:Str):NT.count 1 z [] [] [] .nil=if okN z then 1 else 0:=by
 have a:fD 1 z [] [] [] .nil=okN z:=by simp[fD,db,eS,NT.keys,NT.len]
 have e:NT.node 1 z [] [] [] .nil NT.nil.walk 1 0=(1,okN z):=by
  unfold NT.node;rw[a];cases okN z<;>rfl
 unfold NT.count;rw[e]
theorem v9(z:Str):NT.count 2 [] [] [] z .nil=if okT z then 1 else 0:=by
 have a:fD 2 [] [] [] z .nil=okT z:=by simp[fD,NT.len]
 have e:NT.node 2 [] [] [] z .nil NT.nil.walk 1 0=(1,okT z):=by
  unfold NT.node;rw[a];cases okT z<;>rfl
 unfold NT.count;rw[e]
theorem jb{h:Heap}(k:Nat)(hk:k<256)(tg tx:Str):NH h (.cons k tg [] [] tx .nils .nils .nil .nil):=⟨hk,Recs.nil,by simp,⟨rfl,rfl⟩,by simp[NT.len],trivial,trivial⟩
theorem fa{h:Heap}{z:Str}(w:WF h):ao go 248 [.str z] h fun u h'=>u=.bool (okN z)∧Fr [] h h':=by
 refine ag g248 rfl ?_;simp only[fn248,evs,↓reduceIte,Nat.reduceEqDiff];refine aa (ql (at':=[]) (sub:=.nil) w (jb 1 (by omega) z [])) ?_;rintro _ h1 ⟨rfl,F⟩;rw[wa];cases okN z
 ·simp only[evs,↓reduceIte];exact⟨rfl,F⟩
 ·simp only[evs,↓reduceIte];exact F
theorem k8{h:Heap}{z:Str}(w:WF h):ao go 246 [.str z] h fun u h'=>u=.bool (okT z)∧Fr [] h h':=by
 refine ag g246 rfl ?_;simp only[fn246,evs,↓reduceIte,Nat.reduceEqDiff];refine aa (ql (at':=[]) (sub:=.nil) w (jb 2 (by omega) [] z)) ?_;rintro _ h1 ⟨rfl,F⟩;rw[v9];cases okT z
 ·simp only[evs,↓reduceIte];exact⟨rfl,F⟩
 ·simp only[evs,↓reduceIte];exact F
abbrev Slo:=Str×Nat×Str
def pG(s:Slo):List V:=[.str s.1,.int .u8 (s.2.1:Int),.str s.2.2]
theorem eK(s:Slo):(pG s).length=3:=rfl
def fF(p:Option Str)(s:Slo):Bool:=okN s.1&&(decide (s.2.1≤3)&&(okT s.2.2&&((decide (s.2.1=0)||s.2.2==[])&&bS p s.1)))
def dK:Option Str→List Slo→Bool
 |_,[]=>true
 |p,s::r=>fF p s&&dK (some s.1) r
theorem ir(p:Option Str)(s:Slo)(r:List Slo):dK p (s::r)=(fF p s&&dK (some s.1) r):=rfl
def cR(at':List Slo)(i:Nat):Option Str:=if i=0 then none else(at'[i-1]?).map (·.1)
theorem nP{at':List Slo}{i:Nat}{a:Slo}(h:at'[i]? =some a):cR at' (i+1)=some a.1:=by simp[cR,h]
def bP(l:List Slo):Bool:=decide (l.length≤8)&&dK none l
theorem ny{h:Heap}{v:V}{l:List Slo}(w:WF h)(ra:Recs pG 3 h v l)(na:l.length≤4096):ao go 283 [v] h fun u h'=>u=.bool (bP l)∧Fr [] h h':=by
 by_cases c8:l.length≤8
 ·refine ag g283 rfl ?_;simp only[fn283,evs,↓reduceIte,Nat.reduceEqDiff,ra.len,show¬(8:Int)<(l.length:Nat) by omega];refine aE (fun n env hh=>Fr [] h hh∧∃(i:Nat),env.get 10=some (.int .i64 i)∧env.get 9=some (.int .i64 l.length)∧env.get 8=some v∧env.get 0=some v∧
   i≤l.length∧dK (cR l i) (l.drop i)=dK none l∧n=l.length-i) l.length (by omega) ?_ ?_
  ·exact⟨Fr.refl w,0,(by simp[T.get_set]),(by simp[T.get_set]),(by simp[T.get_set]),(by simp[T.get_set]),by omega,rfl,rfl⟩
  ·rintro n env hh ⟨F,i,g103,g102,g101,g0,hi,e,rfl⟩;by_cases hlt:i<l.length
   ·have hlt':(i:Int)<l.length:=by omega
    obtain⟨b',o',a,p1,p2,p3,p4⟩:=(ra.fr F).ix eK .i64 (i:Int) (by omega) hlt';rw[Int.toNat_natCast]at p4;rw[aK p4,ir]at e;have en:=nP p4;have bad:∀{h'},Fr [] h h'→fF (cR l i) a=false→V.bool false=.bool (bP l)∧Fr [] h h':=fun f c=>by
     rw[c]at e;exact⟨by simp[bP,←e],f⟩
    obtain⟨h1,e_h1⟩:∃h1,h1=halloc hh [.str [],.int .u8 0,.str []]:=⟨_,rfl⟩;have F_h1:Fr [] hh h1:=e_h1▸Fr.halloc F.wf _;have o_h1:Own h1 hh.next [.str [],.int .u8 0,.str []]:=e_h1▸Own.new F.wf _;simp only[evs,↓reduceIte,Nat.reduceEqDiff,g103,g102,g101,hlt',p1,p3,←e_h1];refine ah (c':=[.str a.1,.int .u8 (a.2.1:Int),.str a.2.2]) F_h1.wf o_h1 rfl rfl rfl ?_;rintro h2 o2 F2 n2;have F02:Fr [] hh h2:=F_h1.fresh F2 F.wf (Nat.le_refl _);have q0:ab h2 hh.next 0=some (.str a.1):=o2.ld1 0;simp only[evs,↓reduceIte,Nat.reduceEqDiff,eff,q0];refine aa (fa F02.wf) ?_;rintro _ h3 ⟨rfl,F3⟩;have F03:=(F.then F02).then F3;have r1:ab h3 hh.next 1=some (.int .u8 (a.2.1:Int)):=(F3.get o2).ld1 1;have r2:ab h3 hh.next 2=some (.str a.2.2):=(F3.get o2).ld1 2;cases c1:okN a.1
    ·simp only[evs,↓reduceIte,Nat.reduceAdd,DF,eff,Nat.reduceSub,q0];exact bad F03 (by simp[fF,c1])
    by_cases c2:3<a.2.1
    ·simp only[evs,↓reduceIte,Nat.reduceEqDiff,Nat.reduceAdd,DF,eff,Nat.reduceSub,q0,r1,show(3:Int)<(a.2.1:Nat) by omega];exact bad F03 (by simp[fF];omega)
    have c2':¬(3:Int)<(a.2.1:Nat):=by omega
    simp only[evs,↓reduceIte,Nat.reduceEqDiff,eff,r1,c2',r2];refine aa (k8 F3.wf) ?_;rintro _ h4 ⟨rfl,F4⟩;have F04:=F03.then F4;have o4:=F4.get (F3.get o2);have s0:ab h4 hh.next 0=some (.str a.1):=o4.ld1 0;have s1:ab h4 hh.next 1=some (.int .u8 (a.2.1:Int)):=o4.ld1 1;have s2:ab h4 hh.next 2=some (.str a.2.2):=o4.ld1 2;cases c3:okT a.2.2
    ·simp only[evs,↓reduceIte,Nat.reduceAdd,DF,eff,Nat.reduceSub,q0,r1,r2];exact bad F04 (by simp[fF,c3])
    have fin:(decide (a.2.1=0)||a.2.2==[])=true→bS (cR l i) a.1=true→dK (cR l (i+1)) (l.drop (i+1))=dK none l:=fun x y=>by
     have z:fF (cR l i) a=true:=by
      unfold fF;rw[c1,c3,x,y,show decide (a.2.1≤3)=true by simp;omega];rfl
     rw[z,Bool.true_and]at e;rw[en];exact e
    by_cases cf:a.2.1=0
    ·by_cases c4:i=0
     ·simp(disch:=omega) only[evs,↓reduceIte,Nat.reduceEqDiff,Nat.reduceAdd,DF,eff,Nat.reduceSub,ai,g103,q0,r1,r2,s1,show¬(0:Int)<(a.2.1:Nat) by omega,show¬(0:Int)<(i:Int) by omega];refine(aj _ _ _).2 ⟨l.length-(i+1),by omega,F04,i+1,(by simp[T.get_set]),(by simp[T.get_set,g102]),(by simp[T.get_set,g101]),(by simp[T.get_set,g0]),by omega,fin (by simp[cf]) (by simp[cR,c4,bS]),rfl⟩
      done
     ·obtain⟨b2,o2',a2,t1,t2,t3,t4⟩:=(ra.fr F04).ix eK .i64 ((i:Int)-1) (by omega) (by omega);have t4':l[i-1]? =some a2:=by rw[←t4];congr 1;omega
      have t2':ab h4 b2 o2'=some (.str a2.1):=t2 0 (by omega);have pe:cR l i=some a2.1:=by simp[cR,c4,t4']
      cases c5:leS a.1 a2.1
      ·simp(disch:=omega) only[evs,↓reduceIte,Nat.reduceEqDiff,Nat.reduceAdd,DF,eff,Nat.reduceSub,ai,g103,g0,q0,r1,r2,s0,s1,show¬(0:Int)<(a.2.1:Nat) by omega,c5,t1,t2',jm,show(0:Int)<(i:Int) by omega];refine(aj _ _ _).2 ⟨l.length-(i+1),by omega,F04,i+1,(by simp[T.get_set]),(by simp[T.get_set,g102]),(by simp[T.get_set,g101]),(by simp[T.get_set,g0]),by omega,fin (by simp[cf]) (by rw[pe];simp[bS,c5]),rfl⟩
       done
      ·simp(disch:=omega) only[evs,↓reduceIte,Nat.reduceEqDiff,Nat.reduceAdd,DF,eff,Nat.reduceSub,ai,g0,q0,r1,r2,s0,s1,show¬(0:Int)<(a.2.1:Nat) by omega,c5,t1,t2',jm,show(0:Int)<(i:Int) by omega];exact bad F04 (by simp[fF,pe,bS,c5])
    ·cases cv:a.2.2==[]
     ·simp only[evs,↓reduceIte,Nat.reduceEqDiff,Nat.reduceAdd,DF,eff,Nat.reduceSub,q0,r1,r2,s1,s2,show(0:Int)<(a.2.1:Nat) by omega,aR,cv];exact bad F04 (by simp[fF,cf,cv])
     ·by_cases c4:i=0
      ·simp(disch:=omega) only[evs,↓reduceIte,Nat.reduceEqDiff,Nat.reduceAdd,DF,eff,Nat.reduceSub,ai,g103,q0,r1,r2,s1,s2,show(0:Int)<(a.2.1:Nat) by omega,aR,cv,show¬(0:Int)<(i:Int) by omega];refine(aj _ _ _).2 ⟨l.length-(i+1),by omega,F04,i+1,(by simp[T.get_set]),(by simp[T.get_set,g102]),(by simp[T.get_set,g101]),(by simp[T.get_set,g0]),by omega,fin (by simp[cv]) (by simp[cR,c4,bS]),rfl⟩
       done
      ·obtain⟨b2,o2',a2,t1,t2,t3,t4⟩:=(ra.fr F04).ix eK .i64 ((i:Int)-1) (by omega) (by omega);have t4':l[i-1]? =some a2:=by rw[←t4];congr 1;omega
       have t2':ab h4 b2 o2'=some (.str a2.1):=t2 0 (by omega);have pe:cR l i=some a2.1:=by simp[cR,c4,t4']
       cases c5:leS a.1 a2.1
       ·simp(disch:=omega) only[evs,↓reduceIte,Nat.reduceEqDiff,Nat.reduceAdd,DF,eff,Nat.reduceSub,ai,g103,g0,q0,r1,r2,s0,s1,s2,show(0:Int)<(a.2.1:Nat) by omega,aR,cv,c5,t1,t2',jm,show(0:Int)<(i:Int) by omega];refine(aj _ _ _).2 ⟨l.length-(i+1),by omega,F04,i+1,(by simp[T.get_set]),(by simp[T.get_set,g102]),(by simp[T.get_set,g101]),(by simp[T.get_set,g0]),by omega,fin (by simp[cv]) (by rw[pe];simp[bS,c5]),rfl⟩
        done
       ·simp(disch:=omega) only[evs,↓reduceIte,Nat.reduceEqDiff,Nat.reduceAdd,DF,eff,Nat.reduceSub,ai,g0,q0,r1,r2,s0,s1,s2,show(0:Int)<(a.2.1:Nat) by omega,aR,cv,c5,t1,t2',jm,show(0:Int)<(i:Int) by omega];exact bad F04 (by simp[fF,pe,bS,c5])
   ·simp only[evs,↓reduceIte,g103,g102,show¬(i:Int)<l.length by omega];rw[List.drop_of_length_le (by omega)]at e;exact⟨by simp[bP,c8,←e,dK],F⟩
 ·refine ag g283 rfl ?_;simp only[fn283,evs,↓reduceIte,Nat.reduceEqDiff,ra.len,show(8:Int)<(l.length:Nat) by omega];exact⟨by simp[bP,c8],Fr.refl w⟩
set_option maxRecDepth 4000
inductive PT where
 |nil
 |cons (kind:Nat) (tag key:Str) (slots:List Slo) (text:Str) (va vc:V) (sub next:PT)
namespace PT
def len:PT→Nat
 |nil=>0
 |cons _ _ _ _ _ _ _ _ nx=>nx.len+1
def cells:PT→List V
 |nil=>[]
 |cons k tg ky _ tx va vc _ nx=>[.int .u8 (k:Int),.str tg,.str ky,va,.str tx,vc]++nx.cells
def keys:PT→List Str
 |nil=>[]
 |cons _ _ ky _ _ _ _ _ nx=>ky::nx.keys
theorem cells_len:∀t:PT,t.cells.length=t.len*6
 |nil=>rfl
 |cons _ _ _ _ _ _ _ _ nx=>by simp[cells,len,cells_len nx];omega
theorem keys_len:∀t:PT,t.keys.length=t.len
 |nil=>rfl
 |cons _ _ _ _ _ _ _ _ nx=>by simp[keys,len,keys_len nx]
def at':PT→Nat→PT
 |t,0=>t
 |nil,_+1=>nil
 |cons _ _ _ _ _ _ _ _ nx,i+1=>nx.at' i
end PT
def PH(h:Heap):PT→Prop
 |.nil=>True
 |.cons k _ _ at' _ va vc sub nx=>k<256∧Recs pG 3 h va at'∧at'.length≤4096∧Sl h 6 vc sub.len sub.cells∧sub.len≤4096∧PH h sub∧PH h nx
theorem PH.fr{h h':Heap}(f:Fr [] h h'):∀{t:PT},PH h t→PH h' t
 |.nil,_=>trivial
 |.cons _ _ _ _ _ _ _ _ _,⟨a,b,c,d,e,g,i⟩=>⟨a,b.fr f,c,d.fr f,e,PH.fr f g,PH.fr f i⟩
namespace PT
theorem split:∀(t:PT)(i:Nat),i<t.len→∃k tg ky at' tx va vc sub nx,t.at' i=.cons k tg ky at' tx va vc sub nx∧t.cells.drop (i*6)=[.int .u8 ((k:Nat):Int),.str tg,.str ky,va,.str tx,vc]++nx.cells∧t.at' (i+1)=nx∧t.keys.drop i=ky::nx.keys∧t.keys[i]? =some ky∧nx.len+(i+1)=t.len
 |.nil,_,h=>by cases h
 |.cons k tg ky at' tx va vc sub nx,0,_=>⟨k,tg,ky,at',tx,va,vc,sub,nx,rfl,rfl,by cases nx<;>rfl,rfl,rfl,rfl⟩
 |.cons _ _ _ _ _ _ _ _ nx,i+1,h=>by
  obtain⟨k,tg,ky,at',tx,va,vc,sub,n,e1,e2,e3,e4,e5,e6⟩:=split nx i (by simp[len]at h;omega);refine⟨k,tg,ky,at',tx,va,vc,sub,n,e1,?_,e3,e4,?_,by simp only[len];omega⟩
  ·rw[show(i+1) *6=6+i*6 by omega,←List.drop_drop];exact e2
  ·simpa[keys]using e5
theorem at_end:∀(t:PT)(i:Nat),t.len≤i→t.at' i=.nil
 |.nil,0,_=>rfl
 |.nil,_+1,_=>rfl
 |.cons _ _ _ _ _ _ _ _ nx,0,h=>by simp[len]at h
 |.cons _ _ _ _ _ _ _ _ nx,i+1,h=>at_end nx i (by simp[len]at h;omega)
end PT
theorem PH.at'{h:Heap}:∀{t:PT}(i:Nat),PH h t→PH h (t.at' i)
 |.nil,0,_=>trivial
 |.nil,_+1,_=>trivial
 |.cons _ _ _ _ _ _ _ _ _,0,a=>a
 |.cons _ _ _ _ _ _ _ _ _,i+1,⟨_,_,_,_,_,_,g⟩=>PH.at' i g
def cY(k:Nat)(tg ky:Str)(sl:List Slo)(tx:Str)(n:Nat):Bool:=
 if k=1 then(ky==[]||okN ky)&&(decide (n≤16)&&(okN tg&&(bP sl&&tx==[])))
 else if k=5 then okN tg&&(bP sl&&(ky==[]&&(tx==[]&&decide (n=0))))
 else if k=2 then okT tx&&(tg==[]&&(ky==[]&&(decide (sl.length=0)&&decide (n=0))))
 else if k=3∨k=4 then tg==[]&&(ky==[]&&(tx==[]&&(decide (sl.length=0)&&decide (n=0))))
 else false
theorem PH.ones{h:Heap}:∀{t:PT},PH h t→aq t.cells=true
 |.nil,_=>rfl
 |.cons k tg ky _ tx va vc _ nx,⟨_,b,_,d,_,_,g⟩=>by
  show aq ([.int .u8 (k:Int),.str tg,.str ky,va,.str tx,vc]++nx.cells)=true;rw[aL,PH.ones g];simp only[aD,aJ,Sl.one b,Sl.one d];rfl
namespace PT
def node(k:Nat)(tg ky:Str)(at':List Slo)(tx:Str)(sub:PT)(w:Nat→Nat→Nat×Bool)(l c:Nat):Nat×Bool:=
 if 6<l∨64<c+1∨cY k tg ky at' tx sub.len=false then(c+1,false)else w (l+1) (c+1)
def walk:PT→Nat→Nat→Nat×Bool
 |nil,_,c=>(c,true)
 |cons k tg ky at' tx _ _ sub nx,l,c=>let r:=node k tg ky at' tx sub sub.walk l c;if r.2=true then nx.walk l r.1 else r
theorem gE:∀(t:PT)(l c:Nat),c≤64→(t.walk l c).1≤65∧((t.walk l c).2=true→(t.walk l c).1≤64)
 |nil,_,c,h=>⟨by simp[walk];omega,fun _=>h⟩
 |cons k tg ky at' tx _ _ sub nx,l,c,h=>by
  have q:(node k tg ky at' tx sub sub.walk l c).1≤65∧((node k tg ky at' tx sub sub.walk l c).2=true→(node k tg ky at' tx sub sub.walk l c).1≤64):=by
   unfold node;split
   ·exact⟨by simp;omega,fun e=>by cases e⟩
   ·rename_i x;exact gE sub (l+1) (c+1) (by omega)
  simp only[walk];split
  ·rename_i x;exact gE nx l _ (q.2 x)
  ·exact q
theorem node_le(k:Nat)(tg ky:Str)(at':List Slo)(tx:Str)(sub:PT)(l c:Nat)(h:c≤64):(node k tg ky at' tx sub sub.walk l c).1≤65∧((node k tg ky at' tx sub sub.walk l c).2=true→(node k tg ky at' tx sub sub.walk l c).1≤64):=by
 unfold node;split
 ·exact⟨by simp;omega,fun e=>by cases e⟩
 ·exact gE sub (l+1) (c+1) (by omega)
end PT
set_option maxRecDepth 4000
theorem yf{h:Heap}{b o k:Nat}{tg ky tx:Str}{sl:List Slo}{va vc:V}{sub:PT}(w:WF h)(hA:∀h',Fr [] h h'→At6 h' b o (.int .u8 (k:Int)) (.str tg) (.str ky) va (.str tx) vc)
 (ra:Recs pG 3 h va sl) (na:sl.length≤4096) (rc:Sl h 6 vc sub.len sub.cells) (nc:sub.len≤4096):
 ao go 261 [.ptr b o] h fun u h'=>u=.bool (cY k tg ky sl tx sub.len)∧Fr [] h h':=by
 have q:=hA h (Fr.refl w);have va1:=Sl.one ra;have vc1:=rc.one;obtain⟨h1,e_h1⟩:∃h1,h1=halloc h [.int .u8 0,.str [],.str [],.nils,.str [],.nils]:=⟨_,rfl⟩;have F_h1:Fr [] h h1:=e_h1▸Fr.halloc w _;have o_h1:Own h1 h.next [.int .u8 0,.str [],.str [],.nils,.str [],.nils]:=e_h1▸Own.new w _;refine ag g261 rfl ?_;simp only[fn261,evs,↓reduceIte,Nat.reduceEqDiff,←e_h1,q.2.2.2.2.2.2];refine ah (c':=[.int .u8 (k:Int),.str tg,.str ky,va,.str tx,vc]) F_h1.wf o_h1 rfl (by simp only[V.cells,aD,aJ,va1,vc1];rfl) rfl ?_;rintro h2 o2 F2 n2;have F02:Fr [] h h2:=F_h1.fresh F2 w (Nat.le_refl _);obtain⟨q0,q1,q2,q3,q4,q5,_⟩:=hA h2 F02;have l3:aP .lenS [va]=some (.int .i64 (sl.length:Nat)):=ra.len;have l5:aP .lenS [vc]=some (.int .i64 (sub.len:Nat)):=rc.len;have s1:ab h2 h.next 1=some (.str tg):=o2.ld1 1;have s2:ab h2 h.next 2=some (.str ky):=o2.ld1 2;have s3:ab h2 h.next 3=some va:=o2.ld1 3;have s4:ab h2 h.next 4=some (.str tx):=o2.ld1 4;have s5:ab h2 h.next 5=some vc:=o2.ld1 5;unfold cY;by_cases k1:k=1
 ·rw[if_pos k1];cases ck:ky==[]
  ·simp only[evs,↓reduceIte,Nat.reduceEqDiff,q0,show(k:Int)=1 by omega,q2,aR,ck];refine aa (fa F2.wf) ?_;rintro _ h3 ⟨rfl,F3⟩;have F03:=F02.then F3;cases cn:okN ky
   ·simp only[evs,↓reduceIte];exact⟨by simp[],F03⟩
   have qp:=(hA h3 F03).2.2.2.2.2.1;by_cases cp0:¬sub.len≤16
   ·simp only[evs,↓reduceIte,Nat.reduceEqDiff,qp,l5,show(16:Int)<(sub.len:Nat) by omega];exact⟨by simp[cp0],F03⟩
   have cp:sub.len≤16:=by omega
   simp only[evs,↓reduceIte,Nat.reduceEqDiff,qp,l5,show¬(16:Int)<(sub.len:Nat) by omega];refine ah (c':=[.int .u8 (k:Int),.str tg,.str [],va,.str tx,vc]) F3.wf (F3.get o2) rfl rfl rfl ?_;rintro he oe Fe ne;simp only[evs,↓reduceIte,Nat.reduceEqDiff];refine ah (c':=[.int .u8 (k:Int),.str tg,.str [],va,.str tx,.nils]) Fe.wf oe rfl rfl rfl ?_;rintro hf of Ff nf;have Gf:Fr [] h hf:=(F03.fresh Fe w (Nat.le_refl _)).fresh Ff w (Nat.le_refl _);have qa:=(hA hf Gf).2.1;simp only[evs,↓reduceIte,Nat.reduceEqDiff,qa];refine aa (fa Gf.wf) ?_;rintro _ ha ⟨rfl,Fa⟩;have G1:=Gf.then Fa;have qb:=(hA ha G1).2.2.2.1;cases c1:okN tg
   ·simp only[evs,↓reduceIte];exact⟨by simp[cp],G1⟩
   simp only[evs,↓reduceIte,Nat.reduceEqDiff,qb];refine aa (ny Fa.wf (ra.fr G1) na) ?_;rintro _ hb ⟨rfl,Fb⟩;have G2:=G1.then Fb;cases c2:bP sl
   ·simp only[evs,↓reduceIte];exact⟨by simp[cp],G2⟩
   simp only[evs,↓reduceIte,Nat.reduceEqDiff];have oa:=Fb.get (Fa.get of);refine ah (c':=[.int .u8 (k:Int),.str [],.str [],va,.str tx,.nils]) Fb.wf oa rfl rfl rfl ?_;rintro hc oc Fc nc1;simp only[evs,↓reduceIte,Nat.reduceEqDiff];refine ah (c':=[.int .u8 (k:Int),.str [],.str [],.nils,.str tx,.nils]) Fc.wf oc rfl rfl rfl ?_;rintro hd od Fd nd;have G3:Fr [] h hd:=(G2.fresh Fc w (Nat.le_refl _)).fresh Fd w (Nat.le_refl _);have z1:ab hd h.next 1=some (.str []):=od.ld1 1;have z2:ab hd h.next 2=some (.str []):=od.ld1 2;have z3:ab hd h.next 3=some (.nils):=od.ld1 3;have z4:ab hd h.next 4=some (.str tx):=od.ld1 4;have z5:ab hd h.next 5=some (.nils):=od.ld1 5;cases tX:tx==[]
   ·simp only[evs,↓reduceIte,Nat.reduceEqDiff,z1,z2,z4,aI,show(([]:Str)==[])=true from rfl,tX];exact⟨by simp[cp],G3⟩
   simp only[evs,↓reduceIte,Nat.reduceEqDiff,z1,z2,z3,z4,z5,aI,show(([]:Str)==[])=true from rfl,tX];exact⟨by simp[cp],G3⟩
  ·have F03:=F02;have qp:=(hA h2 F02).2.2.2.2.2.1;by_cases cp0:¬sub.len≤16
   ·simp only[evs,↓reduceIte,Nat.reduceEqDiff,q0,show(k:Int)=1 by omega,q2,aR,ck,qp,l5,show(16:Int)<(sub.len:Nat) by omega];exact⟨by simp[cp0],F02⟩
   have cp:sub.len≤16:=by omega
   simp only[evs,↓reduceIte,Nat.reduceEqDiff,q0,show(k:Int)=1 by omega,q2,aR,ck,qp,l5,show¬(16:Int)<(sub.len:Nat) by omega];refine ah (c':=[.int .u8 (k:Int),.str tg,.str [],va,.str tx,vc]) F2.wf o2 rfl rfl rfl ?_;rintro he oe Fe ne;simp only[evs,↓reduceIte,Nat.reduceEqDiff];refine ah (c':=[.int .u8 (k:Int),.str tg,.str [],va,.str tx,.nils]) Fe.wf oe rfl rfl rfl ?_;rintro hf of Ff nf;have Gf:Fr [] h hf:=(F02.fresh Fe w (Nat.le_refl _)).fresh Ff w (Nat.le_refl _);have qa:=(hA hf Gf).2.1;simp only[evs,↓reduceIte,Nat.reduceEqDiff,qa];refine aa (fa Gf.wf) ?_;rintro _ ha ⟨rfl,Fa⟩;have G1:=Gf.then Fa;have qb:=(hA ha G1).2.2.2.1;cases c1:okN tg
   ·simp only[evs,↓reduceIte];exact⟨by simp[cp],G1⟩
   simp only[evs,↓reduceIte,Nat.reduceEqDiff,qb];refine aa (ny Fa.wf (ra.fr G1) na) ?_;rintro _ hb ⟨rfl,Fb⟩;have G2:=G1.then Fb;cases c2:bP sl
   ·simp only[evs,↓reduceIte];exact⟨by simp[cp],G2⟩
   simp only[evs,↓reduceIte,Nat.reduceEqDiff];have oa:=Fb.get (Fa.get of);refine ah (c':=[.int .u8 (k:Int),.str [],.str [],va,.str tx,.nils]) Fb.wf oa rfl rfl rfl ?_;rintro hc oc Fc nc1;simp only[evs,↓reduceIte,Nat.reduceEqDiff];refine ah (c':=[.int .u8 (k:Int),.str [],.str [],.nils,.str tx,.nils]) Fc.wf oc rfl rfl rfl ?_;rintro hd od Fd nd;have G3:Fr [] h hd:=(G2.fresh Fc w (Nat.le_refl _)).fresh Fd w (Nat.le_refl _);have z1:ab hd h.next 1=some (.str []):=od.ld1 1;have z2:ab hd h.next 2=some (.str []):=od.ld1 2;have z3:ab hd h.next 3=some (.nils):=od.ld1 3;have z4:ab hd h.next 4=some (.str tx):=od.ld1 4;have z5:ab hd h.next 5=some (.nils):=od.ld1 5;cases tX:tx==[]
   ·simp only[evs,↓reduceIte,Nat.reduceEqDiff,z1,z2,z4,aI,show(([]:Str)==[])=true from rfl,tX];exact⟨by simp[cp],G3⟩
   simp only[evs,↓reduceIte,Nat.reduceEqDiff,z1,z2,z3,z4,z5,aI,show(([]:Str)==[])=true from rfl,tX];exact⟨by simp[cp],G3⟩
 by_cases k5:k=5
 ·rw[if_neg k1,if_pos k5];have qa:=(hA h2 F02).2.1;simp only[evs,↓reduceIte,Nat.reduceEqDiff,q0,show(k:Int)=5 by omega,qa];refine aa (fa F02.wf) ?_;rintro _ ha ⟨rfl,Fa⟩;have G1:=F02.then Fa;have qb:=(hA ha G1).2.2.2.1;cases c1:okN tg
  ·simp only[evs,↓reduceIte];exact⟨by simp[],G1⟩
  simp only[evs,↓reduceIte,Nat.reduceEqDiff,qb];refine aa (ny Fa.wf (ra.fr G1) na) ?_;rintro _ hb ⟨rfl,Fb⟩;have G2:=G1.then Fb;cases c2:bP sl
  ·simp only[evs,↓reduceIte];exact⟨by simp[],G2⟩
  simp only[evs,↓reduceIte,Nat.reduceEqDiff];have oa:=Fb.get (Fa.get o2);refine ah (c':=[.int .u8 (k:Int),.str [],.str ky,va,.str tx,vc]) Fb.wf oa rfl rfl rfl ?_;rintro hc oc Fc nc1;simp only[evs,↓reduceIte,Nat.reduceEqDiff];refine ah (c':=[.int .u8 (k:Int),.str [],.str ky,.nils,.str tx,vc]) Fc.wf oc rfl rfl rfl ?_;rintro hd od Fd nd;have G3:Fr [] h hd:=(G2.fresh Fc w (Nat.le_refl _)).fresh Fd w (Nat.le_refl _);have z1:ab hd h.next 1=some (.str []):=od.ld1 1;have z2:ab hd h.next 2=some (.str ky):=od.ld1 2;have z3:ab hd h.next 3=some (.nils):=od.ld1 3;have z4:ab hd h.next 4=some (.str tx):=od.ld1 4;have z5:ab hd h.next 5=some (vc):=od.ld1 5;cases tK:ky==[]
  ·simp only[evs,↓reduceIte,Nat.reduceEqDiff,z1,z2,aI,show(([]:Str)==[])=true from rfl,tK];exact⟨by simp[],G3⟩
  cases tX:tx==[]
  ·simp only[evs,↓reduceIte,Nat.reduceEqDiff,z1,z2,z4,aI,show(([]:Str)==[])=true from rfl,tK,tX];exact⟨by simp[],G3⟩
  by_cases tP0:¬sub.len=0
  ·simp only[evs,↓reduceIte,Nat.reduceEqDiff,z1,z2,z3,z4,z5,aI,show(([]:Str)==[])=true from rfl,tK,tX,l5,show¬((sub.len:Nat):Int)=0 by omega];exact⟨by simp[tP0],G3⟩
  have tP:sub.len=0:=by omega
  simp only[evs,↓reduceIte,Nat.reduceEqDiff,z1,z2,z3,z4,z5,aI,show(([]:Str)==[])=true from rfl,tK,tX,l5,show((sub.len:Nat):Int)=0 by omega];exact⟨by simp[tP],G3⟩
 by_cases k2:k=2
 ·rw[if_neg k1,if_neg k5,if_pos k2];simp only[evs,↓reduceIte,Nat.reduceEqDiff,q0,show(k:Int)=2 by omega,q4];refine aa (k8 F2.wf) ?_;rintro _ h3 ⟨rfl,F3⟩;have F03:=F02.then F3;cases c1:okT tx
  ·simp only[evs,↓reduceIte];exact⟨by simp,F03⟩
  simp only[evs,↓reduceIte,Nat.reduceEqDiff];refine ah (c':=[.int .u8 (k:Int),.str tg,.str ky,va,.str [],vc]) F3.wf (F3.get o2) rfl rfl rfl ?_;rintro hd od Fd nd;have G3:Fr [] h hd:=F03.fresh Fd w (Nat.le_refl _);have z1:ab hd h.next 1=some (.str tg):=od.ld1 1;have z2:ab hd h.next 2=some (.str ky):=od.ld1 2;have z3:ab hd h.next 3=some (va):=od.ld1 3;have z4:ab hd h.next 4=some (.str []):=od.ld1 4;have z5:ab hd h.next 5=some (vc):=od.ld1 5;cases tT:tg==[]
  ·simp only[evs,↓reduceIte,Nat.reduceEqDiff,z1,aI,tT];exact⟨by simp[],G3⟩
  cases tK:ky==[]
  ·simp only[evs,↓reduceIte,Nat.reduceEqDiff,z1,z2,aI,tT,tK];exact⟨by simp[],G3⟩
  by_cases tS0:¬sl.length=0
  ·simp only[evs,↓reduceIte,Nat.reduceEqDiff,z1,z2,z3,z4,aI,show(([]:Str)==[])=true from rfl,tT,tK,l3,show¬((sl.length:Nat):Int)=0 by omega];exact⟨by simp[tS0],G3⟩
  have tS:sl.length=0:=by omega
  by_cases tP0:¬sub.len=0
  ·simp only[evs,↓reduceIte,Nat.reduceEqDiff,z1,z2,z3,z4,z5,aI,show(([]:Str)==[])=true from rfl,tT,tK,l3,show((sl.length:Nat):Int)=0 by omega,l5,show¬((sub.len:Nat):Int)=0 by omega];exact⟨by simp[tS,tP0],G3⟩
  have tP:sub.len=0:=by omega
  simp only[evs,↓reduceIte,Nat.reduceEqDiff,z1,z2,z3,z4,z5,aI,show(([]:Str)==[])=true from rfl,tT,tK,l3,show((sl.length:Nat):Int)=0 by omega,l5,show((sub.len:Nat):Int)=0 by omega];exact⟨by simp[tS,tP],G3⟩
 by_cases k34:k=3∨k=4
 ·rw[if_neg k1,if_neg k5,if_neg k2,if_pos k34];by_cases k3:k=3
  ·have G3:=F02;cases tT:tg==[]
   ·simp only[evs,↓reduceIte,Nat.reduceEqDiff,q0,show(k:Int)=3 by omega,s1,aI,tT];exact⟨by simp[],G3⟩
   cases tK:ky==[]
   ·simp only[evs,↓reduceIte,Nat.reduceEqDiff,q0,show(k:Int)=3 by omega,s1,s2,aI,tT,tK];exact⟨by simp[],G3⟩
   cases tX:tx==[]
   ·simp only[evs,↓reduceIte,Nat.reduceEqDiff,q0,show(k:Int)=3 by omega,s1,s2,s4,aI,tT,tK,tX];exact⟨by simp[],G3⟩
   by_cases tS0:¬sl.length=0
   ·simp only[evs,↓reduceIte,Nat.reduceEqDiff,q0,show(k:Int)=3 by omega,s1,s2,s3,s4,aI,tT,tK,tX,l3,show¬((sl.length:Nat):Int)=0 by omega];exact⟨by simp[tS0],G3⟩
   have tS:sl.length=0:=by omega
   by_cases tP0:¬sub.len=0
   ·simp only[evs,↓reduceIte,Nat.reduceEqDiff,q0,show(k:Int)=3 by omega,s1,s2,s3,s4,s5,aI,tT,tK,tX,l3,show((sl.length:Nat):Int)=0 by omega,l5,show¬((sub.len:Nat):Int)=0 by omega];exact⟨by simp[tS,tP0],G3⟩
   have tP:sub.len=0:=by omega
   simp only[evs,↓reduceIte,Nat.reduceEqDiff,q0,show(k:Int)=3 by omega,s1,s2,s3,s4,s5,aI,tT,tK,tX,l3,show((sl.length:Nat):Int)=0 by omega,l5,show((sub.len:Nat):Int)=0 by omega];exact⟨by simp[tS,tP],G3⟩
  ·have G3:=F02;cases tT:tg==[]
   ·simp only[evs,↓reduceIte,Nat.reduceEqDiff,q0,show(k:Int)=4 by omega,s1,aI,tT];exact⟨by simp[],G3⟩
   cases tK:ky==[]
   ·simp only[evs,↓reduceIte,Nat.reduceEqDiff,q0,show(k:Int)=4 by omega,s1,s2,aI,tT,tK];exact⟨by simp[],G3⟩
   cases tX:tx==[]
   ·simp only[evs,↓reduceIte,Nat.reduceEqDiff,q0,show(k:Int)=4 by omega,s1,s2,s4,aI,tT,tK,tX];exact⟨by simp[],G3⟩
   by_cases tS0:¬sl.length=0
   ·simp only[evs,↓reduceIte,Nat.reduceEqDiff,q0,show(k:Int)=4 by omega,s1,s2,s3,s4,aI,tT,tK,tX,l3,show¬((sl.length:Nat):Int)=0 by omega];exact⟨by simp[tS0],G3⟩
   have tS:sl.length=0:=by omega
   by_cases tP0:¬sub.len=0
   ·simp only[evs,↓reduceIte,Nat.reduceEqDiff,q0,show(k:Int)=4 by omega,s1,s2,s3,s4,s5,aI,tT,tK,tX,l3,show((sl.length:Nat):Int)=0 by omega,l5,show¬((sub.len:Nat):Int)=0 by omega];exact⟨by simp[tS,tP0],G3⟩
   have tP:sub.len=0:=by omega
   simp only[evs,↓reduceIte,Nat.reduceEqDiff,q0,show(k:Int)=4 by omega,s1,s2,s3,s4,s5,aI,tT,tK,tX,l3,show((sl.length:Nat):Int)=0 by omega,l5,show((sub.len:Nat):Int)=0 by omega];exact⟨by simp[tS,tP],G3⟩
 ·rw[if_neg k1,if_neg k5,if_neg k2,if_neg k34];simp only[evs,↓reduceIte,Nat.reduceEqDiff,q0,show¬(k:Int)=1 by omega,show¬(k:Int)=5 by omega,show¬(k:Int)=2 by omega,show¬(k:Int)=3 by omega,show¬(k:Int)=4 by omega];exact F02
structure Tm(h0 h:Heap)(bc bf bw:Nat)(c:Nat):Prop where
 f:Fr [] h0 h
 oc:Own h bc [.int .i64 (c:Int)]
 od:Own h bf [.func (.func 222) [] []]
 ow:Own h bw [.func (.func 260) [] [.ptr bc 0,.ptr bf 0,.ptr bw 0]]
theorem Tm.fr{h0 h h':Heap}{bc bf bw c:Nat}(m:Tm h0 h bc bf bw c)(f:Fr [] h h'):Tm h0 h' bc bf bw c:=⟨m.f.then f,f.get m.oc,f.get m.od,f.get m.ow⟩
def EL(h0:Heap)(k:Nat)(tg ky:Str)(at':List Slo)(tx:Str)(va vc:V)(sub:PT):Prop:=
 ∀(h:Heap)(b o bc bd bw l c:Nat),MsB h0 bc bd bw→Tm h0 h bc bd bw c→(∀h',Fr [] h0 h'→At6 h' b o (.int .u8 (k:Int)) (.str tg) (.str ky) va (.str tx) vc)→l≤7→c≤64→
  ao go 260 [.ptr b o,.int .i64 (l:Int),.ptr bc 0,.ptr bd 0,.ptr bw 0] h fun u h'=>u=.bool (PT.node k tg ky at' tx sub sub.walk l c).2∧Tm h0 h' bc bd bw (PT.node k tg ky at' tx sub sub.walk l c).1
def TAll(h0:Heap):PT→Prop
 |.nil=>True
 |.cons k tg ky at' tx va vc sub nx=>EL h0 k tg ky at' tx va vc sub∧TAll h0 nx
theorem TAll.at'{h:Heap}:∀{t:PT}(i:Nat),TAll h t→TAll h (t.at' i)
 |.nil,0,_=>trivial
 |.nil,_+1,_=>trivial
 |.cons _ _ _ _ _ _ _ _ _,0,a=>a
 |.cons _ _ _ _ _ _ _ _ _,i+1,⟨_,g⟩=>TAll.at' i g
theorem E5{h:Heap}(v:V):ao go 222 [v] h fun u h'=>u=.tup []∧h=h':=by
 refine ag g222 rfl ?_;simp only[fn222,evs]
theorem zZ{h0:Heap}{k:Nat}{tg ky:Str}{at':List Slo}{tx:Str}{va vc:V}{sub:PT}
 (ra:Recs pG 3 h0 va at') (na:at'.length≤4096) (rc:Sl h0 6 vc sub.len sub.cells) (nc:sub.len≤4096) (A:TAll h0 sub):EL h0 k tg ky at' tx va vc sub:=by
 intro h b o bc bd bw l c B M hA hl hc;have lc:ab h bc 0=some (.int .i64 (c:Int)):=M.oc.ld1 0;refine ag g260 rfl ?_;simp(disch:=omega) only[fn260,evs,↓reduceIte,Nat.reduceEqDiff,Nat.reduceAdd,ai,lc];refine ah (c':=[.int .i64 ((c+1:Nat):Int)]) M.f.wf M.oc rfl rfl rfl ?_;rintro h1 o1 F1 n1;have M2:Tm h0 h1 bc bd bw (c+1):=by
  refine⟨?_,o1,F1.own _ _ (by simpa using B.cd.symm) M.od,F1.own _ _ (by simpa using B.cw.symm) M.ow⟩;exact Fr.trans M.f F1 B.w (fun x hx=>.inl hx) (fun x hx=>.inr (by simp at hx;subst hx;exact B.c))
 have lc2:ab h1 bc 0=some (.int .i64 ((c+1:Nat):Int)):=M2.oc.ld1 0;by_cases c1:6<l
 ·have e:PT.node k tg ky at' tx sub sub.walk l c=(c+1,false):=if_pos (.inl c1);simp only[evs,↓reduceIte,Nat.reduceEqDiff,show(6:Int)<(l:Int) by omega];rw[e];exact⟨rfl,M2⟩
 by_cases c2:64<c+1
 ·have e:PT.node k tg ky at' tx sub sub.walk l c=(c+1,false):=if_pos (.inr (.inl c2));simp only[evs,↓reduceIte,Nat.reduceEqDiff,show¬(6:Int)<(l:Int) by omega,lc2,show(64:Int)<((c+1:Nat):Int) by omega];rw[e];exact⟨rfl,M2⟩
 simp only[evs,↓reduceIte,Nat.reduceEqDiff,show¬(6:Int)<(l:Int) by omega,lc2,show¬(64:Int)<((c+1:Nat):Int) by omega];refine aa (yf M2.f.wf (fun h' f=>hA h' (M2.f.then f)) (ra.fr M2.f) na (rc.fr M2.f) nc) ?_;rintro _ h3 ⟨rfl,F3⟩;have M3:=M2.fr F3;cases c3:cY k tg ky at' tx sub.len
 ·have e:PT.node k tg ky at' tx sub sub.walk l c=(c+1,false):=if_pos (.inr (.inr c3));simp only[evs,↓reduceIte];rw[e];exact⟨rfl,M3⟩
 have e:PT.node k tg ky at' tx sub sub.walk l c=sub.walk (l+1) (c+1):=if_neg (by simp[c3];omega);rw[e];have q5:=(hA h3 M3.f).2.2.2.2.2.1;have lf:ab h3 bd 0=some (.func (.func 222) [] []):=M3.od.ld1 0;simp only[evs,↓reduceIte,Nat.reduceEqDiff,Nat.reduceLT,lf];refine aa (E5 _) ?_;rintro _ _ ⟨rfl,rfl⟩;simp only[evs,↓reduceIte,Nat.reduceEqDiff,q5,(rc.fr M3.f).len];refine aE (fun n env hh=>∃(i c':Nat),Tm h0 hh bc bd bw c'∧env.get 30=some (.int .i64 i)∧env.get 29=some (.int .i64 sub.len)∧env.get 0=some (.ptr b o)∧env.get 1=some (.int .i64 l)∧env.get 4=some (.ptr bw 0)∧
  i≤sub.len∧c'≤64∧(sub.at' i).walk (l+1) c'=sub.walk (l+1) (c+1)∧n=sub.len-i) sub.len (by omega) ?_ ?_
 ·exact⟨0,c+1,M3,(by simp[T.get_set]),(by simp[T.get_set]),(by simp[T.get_set]),(by simp[T.get_set]),(by simp[T.get_set]),by omega,by omega,by cases sub<;>rfl,rfl⟩
 ·rintro n env hh ⟨i,c',M',g30,g29,g0,g1,g4,hi,hc',e',rfl⟩;by_cases hlt:i<sub.len
  ·obtain⟨kd,tg',ky',at2,tx',va',vc',sb,nx,e1,e2,e3,e4,e5,e6⟩:=sub.split i hlt;have hlt':(i:Int)<sub.len:=by omega
   have a:=A.at' i;rw[e1]at a e';obtain⟨b',o',p1,_⟩:=(rc.fr M'.f).ix6 hlt e2;have hA':∀h',Fr [] h0 h'→At6 h' b' o' (.int .u8 (kd:Int)) (.str tg') (.str ky') va' (.str tx') vc':=fun h' f=>by
    obtain⟨b2,o2,p1',p2'⟩:=(rc.fr f).ix6 hlt e2;rw[p1]at p1';cases p1';exact p2'
   have q5:=(hA hh M'.f).2.2.2.2.2.1;have lw:ab hh bw 0=some (.func (.func 260) [] [.ptr bc 0,.ptr bd 0,.ptr bw 0]):=M'.ow.ld1 0;simp(disch:=omega) only[evs,↓reduceIte,Nat.reduceEqDiff,Nat.reduceLT,eff,ai,g30,g29,g0,g1,g4,hlt',lw,q5,p1];refine aa (a.1 hh b' o' bc bd bw (l+1) c' B M' hA' (by omega) hc') ?_;rintro _ h4 ⟨rfl,M4⟩;simp only[PT.walk]at e';have nl:=PT.node_le kd tg' ky' at2 tx' sb (l+1) c' hc';cases c4:(PT.node kd tg' ky' at2 tx' sb sb.walk (l+1) c').2
   ·rw[c4]at e';simp only[evs,↓reduceIte,Nat.reduceEqDiff,Nat.reduceAdd,DF,eff,Nat.reduceSub,g4,lw,q5];rw[←e'];exact⟨by simp[c4],by simpa using M4⟩
   ·rw[c4]at e';simp(disch:=omega) only[evs,↓reduceIte,Nat.reduceEqDiff,Nat.reduceAdd,DF,eff,Nat.reduceSub,ai,g30,g4,lw,q5];refine(aj _ _ _).2 ⟨sub.len-(i+1),by omega,i+1,_,M4,(by simp[T.get_set]),(by simp[T.get_set,g29]),(by simp[T.get_set,g0]),(by simp[T.get_set,g1]),(by simp[T.get_set,g4]),by omega,nl.2 c4,?_,rfl⟩;rw[e3];simpa using e'
  ·simp only[evs,↓reduceIte,g30,g29,show¬(i:Int)<sub.len by omega];rw[PT.at_end _ _ (by omega)]at e';rw[←e'];exact⟨rfl,M'⟩
theorem tall{h:Heap}:∀{t:PT},PH h t→TAll h t
 |.nil,_=>trivial
 |.cons _ _ _ _ _ _ _ _ _,⟨_,b,c,d,e,f,g⟩=>⟨zZ b c d e (tall f),tall g⟩
def PT.count(k:Nat)(tg ky:Str)(at':List Slo)(tx:Str)(sub:PT):Nat:=
 if k=1∧(node k tg ky at' tx sub sub.walk 1 0).2=true then(node k tg ky at' tx sub sub.walk 1 0).1 else 0
theorem zY{h:Heap}{k b o:Nat}{tg ky:Str}{at':List Slo}{tx:Str}{va vc:V}{sub:PT}(w:WF h)(n:PH h (.cons k tg ky at' tx va vc sub .nil))
 (hA:∀h',Fr [] h h'→At6 h' b o (.int .u8 (k:Int)) (.str tg) (.str ky) va (.str tx) vc):
 ao go 221 [.ptr b o,.func (.func 222) [] []] h fun u h'=>u=.int .i64 (PT.count k tg ky at' tx sub:Nat)∧Fr [] h h':=by
 obtain⟨h2,e_h2⟩:∃h2,h2=halloc h [.func (.func 222) [] []]:=⟨_,rfl⟩;have F_h2:Fr [] h h2:=e_h2▸Fr.halloc w _;have o_h2:Own h2 h.next [.func (.func 222) [] []]:=e_h2▸Own.new w _;have q0:=(hA h2 F_h2).1;by_cases k1:k=1
 ·obtain⟨h3,e_h3⟩:∃h3,h3=halloc h2 [.int .i64 0]:=⟨_,rfl⟩;have F_h3:Fr [] h2 h3:=e_h3▸Fr.halloc F_h2.wf _;have o_h3:Own h3 h2.next [.int .i64 0]:=e_h3▸Own.new F_h2.wf _;have n2:h2.next=h.next+1:=by rw[e_h2];rfl
  have n3:h3.next=h2.next+1:=by rw[e_h3];rfl
  refine ag g221 rfl ?_;simp only[fn221,evs,↓reduceIte,Nat.reduceEqDiff,Nat.reduceAdd,←e_h2,q0,show(k:Int)=1 by omega,←e_h3];refine ah (c':=[.int .i64 0]) F_h3.wf o_h3 rfl rfl rfl ?_;rintro h4 o4 F4 n4;obtain⟨h5,e_h5⟩:∃h5,h5=halloc h4 [.nilf]:=⟨_,rfl⟩;have F_h5:Fr [] h4 h5:=e_h5▸Fr.halloc F4.wf _;have o_h5:Own h5 h4.next [.nilf]:=e_h5▸Own.new F4.wf _;simp only[evs,↓reduceIte,Nat.reduceEqDiff,←e_h5];refine ah (c':=[.func (.func 260) [] [.ptr h2.next 0,.ptr h.next 0,.ptr h4.next 0]]) F_h5.wf o_h5 rfl rfl rfl ?_;rintro h6 o6 F6 n6;have F24:Fr [] h h4:=(F_h2.then F_h3).fresh F4 w (by omega);have F06:Fr [] h h6:=(F24.then F_h5).fresh F6 w (by omega);have B:MsB h h2.next h.next h4.next:=⟨w,by omega,Nat.le_refl _,by omega,by omega,by omega,by omega⟩;have M:Tm h h6 h2.next h.next h4.next 0:=⟨F06,F6.own _ _ (by simp;omega) (F_h5.get o4),F6.own _ _ (by simp;omega) (F_h5.get (F4.own _ _ (by simp;omega) (F_h3.get o_h2))),o6⟩;have lw:ab h6 h4.next 0=some (.func (.func 260) [] [.ptr h2.next 0,.ptr h.next 0,.ptr h4.next 0]):=o6.ld1 0;simp only[evs,↓reduceIte,Nat.reduceEqDiff,Nat.reduceLT,lw];refine aa ((tall n).1 h6 b o h2.next h.next h4.next 1 0 B M hA (by omega) (by omega)) ?_;rintro _ h7 ⟨rfl,M7⟩;unfold PT.count;cases c:(PT.node k tg ky at' tx sub sub.walk 1 0).2
  ·simp only[evs,↓reduceIte];exact⟨by simp,M7.f⟩
  ·have lc:ab h7 h2.next 0=some (.int .i64 ((PT.node k tg ky at' tx sub sub.walk 1 0).1:Int)):=M7.oc.ld1 0;simp only[evs,↓reduceIte,Nat.reduceEqDiff,lc];exact⟨by simp[k1],M7.f⟩
 ·refine ag g221 rfl ?_;simp only[fn221,evs,↓reduceIte,Nat.reduceEqDiff,Nat.reduceAdd,←e_h2,q0,show¬(k:Int)=1 by omega];exact⟨by simp[PT.count,k1],F_h2⟩
theorem pU{h:Heap}{k:Nat}{tg ky:Str}{at':List Slo}{tx:Str}{va vc:V}{sub:PT}(w:WF h)(n:PH h (.cons k tg ky at' tx va vc sub .nil)):
 ao go 163 [.agg [.int .u8 (k:Int),.str tg,.str ky,va,.str tx,vc]] h fun u h'=>u=.int .i64 (PT.count k tg ky at' tx sub:Nat)∧Fr [] h h':=by
 obtain⟨h1,e_h1⟩:∃h1,h1=halloc h [.int .u8 (k:Int),.str tg,.str ky,va,.str tx,vc]:=⟨_,rfl⟩;have F_h1:Fr [] h h1:=e_h1▸Fr.halloc w _;have o_h1:Own h1 h.next [.int .u8 (k:Int),.str tg,.str ky,va,.str tx,vc]:=e_h1▸Own.new w _;refine ag g163 rfl ?_;simp only[fn163,evs,↓reduceIte,Nat.reduceEqDiff,←e_h1];refine aa (zY F_h1.wf (n.fr F_h1) (fun h' f=>(f.get o_h1).at6)) ?_;rintro _ h2 ⟨rfl,F2⟩;simp only[evs,↓reduceIte];exact F_h1.then F2
theorem pV{h:Heap}{k:Nat}{tg ky:Str}{at':List Slo}{tx:Str}{va vc:V}{sub:PT}(w:WF h)(n:PH h (.cons k tg ky at' tx va vc sub .nil)):
 ao go 89 [.agg [.int .u8 (k:Int),.str tg,.str ky,va,.str tx,vc]] h fun u h'=>u=.int .i64 (if PT.count k tg ky at' tx sub=0 then 14 else 0)∧Fr [] h h':=by
 obtain⟨h1,e_h1⟩:∃h1,h1=halloc h [.int .u8 (k:Int),.str tg,.str ky,va,.str tx,vc]:=⟨_,rfl⟩;have F_h1:Fr [] h h1:=e_h1▸Fr.halloc w _;have o_h1:Own h1 h.next [.int .u8 (k:Int),.str tg,.str ky,va,.str tx,vc]:=e_h1▸Own.new w _;by_cases c:PT.count k tg ky at' tx sub=0
 ·refine ag g89 rfl ?_;simp only[fn89,evs,↓reduceIte,Nat.reduceEqDiff,←e_h1,o_h1.at6.2.2.2.2.2.2];refine aa (pU F_h1.wf (n.fr F_h1)) ?_;rintro _ h2 ⟨rfl,F2⟩;simp only[evs,↓reduceIte,show((PT.count k tg ky at' tx sub:Nat):Int)=0 by omega];exact⟨by rw[if_pos c],F_h1.then F2⟩
 ·refine ag g89 rfl ?_;simp only[fn89,evs,↓reduceIte,Nat.reduceEqDiff,←e_h1,o_h1.at6.2.2.2.2.2.2];refine aa (pU F_h1.wf (n.fr F_h1)) ?_;rintro _ h2 ⟨rfl,F2⟩;simp only[evs,↓reduceIte,show¬((PT.count k tg ky at' tx sub:Nat):Int)=0 by omega];exact⟨by rw[if_neg c],F_h1.then F2⟩
theorem HX:D2 247:=⟨by decide,fun z h w=>by
 refine ag g247 rfl ?_;simp only[fn247,evs,↓reduceIte,Nat.reduceEqDiff];refine aa (fa w) ?_;rintro _ h1 ⟨rfl,F⟩;simp only[evs,↓reduceIte];exact F⟩
def gL(x:Itm):Bool:=decide (x.key≠0)&&(okT x.text&&okM x.marks)
theorem sN{h:Heap}{x:Itm}(w:WF h)(a:ItmH h x):ao go 201 [.agg x.cells] h fun u h'=>u=.int .i64 (if gL x then 0 else 6)∧Fr [] h h':=by
 obtain⟨h1,e_h1⟩:∃h1,h1=halloc h x.cells:=⟨_,rfl⟩;have F_h1:Fr [] h h1:=e_h1▸Fr.halloc w _;have o_h1:Own h1 h.next x.cells:=e_h1▸Own.new w _;have l0:ab h1 h.next 0=some (.int .u64 (x.key:Int)):=o_h1.ld1 0;have l2:ab h1 h.next 2=some (.str x.text):=o_h1.ld1 2;by_cases c0:x.key=0
 ·refine ag g201 rfl ?_;simp only[fn201,evs,↓reduceIte,Nat.reduceEqDiff,←e_h1,l0,show(x.key:Int)=0 by omega];exact⟨by simp[gL,c0],F_h1⟩
 ·refine ag g201 rfl ?_;simp only[fn201,evs,↓reduceIte,Nat.reduceEqDiff,←e_h1,l0,show¬(x.key:Int)=0 by omega,l2];refine aa (k8 F_h1.wf) ?_;rintro _ h2 ⟨rfl,F2⟩;have F02:=F_h1.then F2;have l3:ab h2 h.next 3=some x.vm:=(F2.get o_h1).ld1 3;cases c2:okT x.text
  ·simp only[evs,↓reduceIte];exact⟨by simp[gL,c2],F02⟩
  ·by_cases c3:x.marks.length≤8
   ·simp only[evs,↓reduceIte,Nat.reduceEqDiff,l3,a.m.len,show¬(8:Int)<(x.marks.length:Nat) by omega];refine aa (kK HX F2.wf (a.m.fr F02) a.n) ?_;rintro _ h3 ⟨rfl,F3⟩;cases c4:x.marks.all okN
    ·simp only[evs,↓reduceIte];exact⟨by simp[gL,okM,c4],F02.then F3⟩
    ·simp only[evs,↓reduceIte];exact⟨by simp[gL,okM,c0,c2,c3,c4],F02.then F3⟩
   ·simp only[evs,↓reduceIte,Nat.reduceEqDiff,l3,a.m.len,show(8:Int)<(x.marks.length:Nat) by omega];exact⟨by simp[gL,okM,c3],F02⟩
def dec(n:Nat):Str:=if h:n<10 then[UInt8.ofNat (48+n)]else dec (n/10)++[UInt8.ofNat (48+n%10)]
termination_by n
decreasing_by omega
theorem sC{n:Nat}(h:n<10):dec n=[UInt8.ofNat (48+n)]:=by rw[dec,dif_pos h]
theorem v8{n:Nat}(h:¬n<10):dec n=dec (n/10)++[UInt8.ofNat (48+n%10)]:=by rw[dec,dif_neg h]
def c8(b:UInt8):V:=.int .u8 (b.toNat:Int)
theorem uR:∀z:Str,eG (z.map c8)=some z
 |[]=>rfl
 |b::z=>by
  show(match eG (z.map c8)with|some s=>some (UInt8.ofNat ((b.toNat:Int)).toNat::s)|none=>none)=_
  rw[uR z,Int.toNat_natCast,UInt8.ofNat_toNat]
theorem Bs:∀d,d<10→aP .ixstr [.str [48,49,50,51,52,53,54,55,56,57],.int .u64 (d:Nat)]=some (c8 (UInt8.ofNat (48+d))):=by
 intro d hd;match d,hd with
 |0,_=>rfl
 |1,_=>rfl
 |2,_=>rfl
 |3,_=>rfl
 |4,_=>rfl
 |5,_=>rfl
 |6,_=>rfl
 |7,_=>rfl
 |8,_=>rfl
 |9,_=>rfl
theorem EW{call:av}{loc:List V}{env:T V}{h:Heap}(x:Opd)(K:V→Heap→Prop):OQ (aG call loc env h (.b2s x)) K↔∃d,evO loc env x=some d∧VQ (sU h d) K h:=by
 simp only[aG,OQ,VQ];cases evO loc env x with
 |none=>simp
 |some d=>
  simp only[];cases e:sU h d with
  |none=>simp[e]
  |some v=>
   simp only[];exact⟨fun⟨_,_,q,k⟩=>by cases q;exact⟨d,rfl,_,e,k⟩,fun⟨_,q,_,e',k⟩=>by cases q;rw[e]at e';cases e';exact⟨_,_,rfl,k⟩⟩
theorem BI{h:Heap}(d:V)(K:V→Heap→Prop):(∃e,some d=some e∧VQ (sU h e) K h)↔VQ (sU h d) K h:=⟨fun⟨_,e,k⟩=>by cases e;exact k,fun k=>⟨d,rfl,k⟩⟩
theorem jY{h:Heap}{n:Nat}(w:WF h)(hn:n<18446744073709551616):ao go 251 [.int .u64 (n:Int)] h fun u h'=>u=.str (dec n)∧Fr [] h h':=by
 obtain⟨h1,e_h1⟩:∃h1,h1=halloc h [.int .u8 0,.int .u8 0,.int .u8 0,.int .u8 0,.int .u8 0,.int .u8 0,.int .u8 0,.int .u8 0,.int .u8 0,.int .u8 0,.int .u8 0,.int .u8 0,.int .u8 0,.int .u8 0,.int .u8 0,.int .u8 0,.int .u8 0,.int .u8 0,.int .u8 0,.int .u8 0]:=⟨_,rfl⟩;have F_h1:Fr [] h h1:=e_h1▸Fr.halloc w _;have o_h1:Own h1 h.next [.int .u8 0,.int .u8 0,.int .u8 0,.int .u8 0,.int .u8 0,.int .u8 0,.int .u8 0,.int .u8 0,.int .u8 0,.int .u8 0,.int .u8 0,.int .u8 0,.int .u8 0,.int .u8 0,.int .u8 0,.int .u8 0,.int .u8 0,.int .u8 0,.int .u8 0,.int .u8 0]:=e_h1▸Own.new w _;refine ag g251 rfl ?_;simp only[fn251,evs,←e_h1];refine aE (fun k env hh=>Fr [] h hh∧∃(i m:Nat)(acc:Str)(C:List V),env.get 4=some (.int .i64 i)∧env.get 0=some (.int .u64 m)∧env.get 3=some (.ptr h.next 0)∧Own hh h.next C∧
  C.length=20∧C.drop i=acc.map c8∧0<i∧i≤20∧m<10^i∧dec n=dec m++acc∧m<18446744073709551616∧k=i) 20 (by omega) ?_ ?_
 ·exact⟨F_h1,20,n,[],_,(by simp[T.get_set]),(by simp[T.get_set]),(by simp[T.get_set]),o_h1,rfl,rfl,by omega,by omega,by omega,by simp,hn,rfl⟩
 ·rintro k env hh ⟨F,i,m,acc,C,g4,g0,g3,oC,hC,hd,i0,i20,hm,e,hm2,hk⟩;have r1:aP (.ib .rem) [.int .u64 (m:Int),.int .u64 10]=some (.int .u64 ((m%10:Nat):Int)):=by rw[j4 _ _ _ (by decide)];rfl
  have r2:aP (.ib .quo) [.int .u64 (m:Int),.int .u64 10]=some (.int .u64 ((m/10:Nat):Int)):=by
   rw[lT _ _ _ (by decide),show((m:Int)).tdiv 10=((m/10:Nat):Int)from rfl,bU _ (by omega) (by omega)]
  have r3:=Bs (m%10) (Nat.mod_lt _ (by omega));obtain⟨j,rfl⟩:∃j,i=j+1:=⟨i-1,by omega⟩;have r4:=sW 1 h.next 0 20 .i64 ((j:Int)) (by omega) (by omega);simp only[Int.toNat_natCast,Nat.mul_one,Nat.zero_add]at r4;simp(disch:=omega) only[evs,↓reduceIte,Nat.reduceEqDiff,ai,g4,g0,g3,r1,r3,show(((j+1:Nat):Int)-1)=(j:Int) by omega,r4];refine ah (c':=C.set j (c8 (UInt8.ofNat (48+m%10)))) F.wf oC rfl rfl (iX C j _ (by omega)) ?_;rintro h2 o2 F2 n2;have F02:Fr [] h h2:=F.fresh F2 w (Nat.le_refl _);have hd2:(C.set j (c8 (UInt8.ofNat (48+m%10)))).drop j=(UInt8.ofNat (48+m%10)::acc).map c8:=by
   rw[List.set_eq_take_append_cons_drop,if_pos (by omega),hd,List.drop_append_of_le_length (by simp;omega)];rw[List.drop_of_length_le (by simp;omega)];rfl
  by_cases c:m/10=0
  ·have e2:dec n=UInt8.ofNat (48+m%10)::acc:=by
    rw[e,sC (by omega),show m%10=m by omega];rfl
   have s1:aP (.sl (some 20) 1 true false false) [.ptr h.next 0,.int .i64 (j:Int)]=some (.slice h.next j (20-j) (20-j)):=by
    simp only[aP,sR,aU,bW .i64 (j:Int) 20 (by omega) (by omega),Option.map_some,Option.getD_none,ew (show(20:Nat)≠j by omega),cond_false,Int.toNat_natCast,Nat.zero_add,Nat.mul_one]
   have s2:sU h2 (.slice h.next j (20-j) (20-j))=some (.str (dec n)):=by
    have:au h2 h.next j (20-j)=some ((UInt8.ofNat (48+m%10)::acc).map c8):=by
     rw[o2.ld,bq,bC _ _ (by simp;omega),List.take_of_length_le (by simp;omega),hd2]
    simp only[sU,this,uR,Option.map_some,e2]
   simp only[evs,↓reduceIte,Nat.reduceEqDiff,r2,g0,g3,show((m/10:Nat):Int)=0 by omega,s1,EW,BI,s2];exact F02
  ·have e2:dec n=dec (m/10)++UInt8.ofNat (48+m%10)::acc:=by
    rw[e,v8 (by omega)];simp
   have j0:0<j:=by
    rcases Nat.eq_zero_or_pos j with z|z
    ·subst z;simp at hm;omega
    ·exact z
   simp only[evs,↓reduceIte,Nat.reduceEqDiff,r2,g0,show¬((m/10:Nat):Int)=0 by omega];refine(aj _ _ _).2 ⟨j,by omega,F02,j,m/10,_,_,(by simp[T.get_set]),(by simp[T.get_set]),(by simp[T.get_set,g3]),o2,by simp[hC],hd2,j0,by omega,by rw[Nat.pow_succ]at hm;omega,e2,by omega,rfl⟩
   done
def uU(x:Itm)(s:Slo):Str:=if s.2.1=0 then s.2.2 else if s.2.1=1 then x.text else if s.2.1=2 then dec x.key else dec x.marks.length
def att(x:Itm)(s:Slo):Str×Str:=(s.1,uU x s)
theorem j6{h:Heap}{z:Str}(w:WF h):ao go 250 [.str z] h fun u h'=>u=.agg [.int .u8 2,.str [],.str [],.nils,.str z,.nils]∧Fr [] h h':=by
 obtain⟨h1,e_h1⟩:∃h1,h1=halloc h [.int .u8 0,.str [],.str [],.nils,.str [],.nils]:=⟨_,rfl⟩;have F_h1:Fr [] h h1:=e_h1▸Fr.halloc w _;have o_h1:Own h1 h.next [.int .u8 0,.str [],.str [],.nils,.str [],.nils]:=e_h1▸Own.new w _;refine ag g250 rfl ?_;simp only[fn250,evs,↓reduceIte,Nat.reduceEqDiff,←e_h1];refine ah (c':=[.int .u8 2,.str [],.str [],.nils,.str z,.nils]) F_h1.wf o_h1 rfl rfl rfl ?_;rintro h2 o2 F2 n2;have l:=o2.at6.2.2.2.2.2.2;simp only[evs,↓reduceIte,l];exact F_h1.fresh F2 w (Nat.le_refl _)
theorem BJ{h:Heap}{x:Itm}{v:V}{l:List Slo}(w:WF h)(a:ItmH h x)(r:Recs pG 3 h v l)(nl:l.length≤4096)(h3:∀s∈l,s.2.1≤3):
 ao go 276 [.agg x.cells,v] h fun u h'=>∃b,h.next≤b∧TbC 2 h' u b ((l.map (att x)).flatMap eP) l.length∧Fr [] h h':=by
 have kx:=a.k;have nx:=a.n;obtain⟨h1,e_h1⟩:∃h1,h1=halloc h x.cells:=⟨_,rfl⟩;have F_h1:Fr [] h h1:=e_h1▸Fr.halloc w _;have o_h1:Own h1 h.next x.cells:=e_h1▸Own.new w _;have n1:h1.next=h.next+1:=by rw[e_h1];rfl
 refine ag g276 rfl ?_;simp only[fn276,evs,↓reduceIte,Nat.reduceEqDiff,Nat.reduceAdd,←e_h1,r.len];refine(gw _ _ _ _ _ _ _ _ (by omega) (by omega) (by omega) (by omega)).2 ?_;simp only[Int.toNat_natCast];obtain⟨h2,e_h2⟩:∃h2,h2=halloc h1 (bv [.str [],.str []] l.length):=⟨_,rfl⟩;have F_h2:Fr [] h1 h2:=e_h2▸Fr.halloc F_h1.wf _;have o_h2:Own h2 h1.next (bv [.str [],.str []] l.length):=e_h2▸Own.new F_h1.wf _;have ln:(bv [V.str [],V.str []] l.length).length=l.length*2:=eM _ _;rw[←e_h2];clear e_h2;generalize bv [V.str [],V.str []] l.length=Z at ln o_h2;simp only[evs,↓reduceIte,Nat.reduceEqDiff,r.len];refine aE (fun n env hh=>Fr [] h hh∧Fr [] h1 hh∧∃(i:Nat)(C:List V),env.get 13=some (.int .i64 i)∧env.get 12=some (.int .i64 l.length)∧env.get 11=some v∧env.get 5=some (.slice h1.next 0 l.length l.length)∧env.get 2=some (.ptr h.next 0)∧
  i≤l.length∧Own hh h1.next C∧C.length=l.length*2∧C.take (i*2)=((l.take i).map (att x)).flatMap eP∧n=l.length-i) l.length (by omega) ?_ ?_
 ·exact⟨F_h1.then F_h2,F_h2,0,Z,(by simp[T.get_set]),(by simp[T.get_set]),(by simp[T.get_set]),(by simp[T.get_set]),(by simp[T.get_set]),by omega,o_h2,ln,by simp,rfl⟩
 ·rintro n env hh ⟨F,F1,i,C,g13,g12,g11,g5,g2,hi,oC,lC,eC,rfl⟩;by_cases hlt:i<l.length
  ·have hlt':(i:Int)<l.length:=by omega
   obtain⟨b',o',s,p1,p2,p3,p4⟩:=(r.fr F).ix eK .i64 (i:Int) (by omega) hlt';rw[Int.toNat_natCast]at p4;have s3:=h3 s (List.mem_of_getElem? p4);obtain⟨h3,e_h3⟩:∃h3,h3=halloc hh [.str [],.int .u8 0,.str []]:=⟨_,rfl⟩;have F_h3:Fr [] hh h3:=e_h3▸Fr.halloc F.wf _;have o_h3:Own h3 hh.next [.str [],.int .u8 0,.str []]:=e_h3▸Own.new F.wf _;simp only[evs,↓reduceIte,Nat.reduceEqDiff,g13,g12,g11,hlt',p1,p3,←e_h3];refine ah (c':=[.str s.1,.int .u8 (s.2.1:Int),.str s.2.2]) F_h3.wf o_h3 rfl rfl rfl ?_;rintro h4 o4 F4 n4;have F04:Fr [] hh h4:=F_h3.fresh F4 F.wf (Nat.le_refl _);have ox:=F04.get (F1.get o_h1);have u0:ab h4 hh.next 0=some (.str s.1):=o4.ld1 0;have u1:ab h4 hh.next 1=some (.int .u8 (s.2.1:Int)):=o4.ld1 1;have u2:ab h4 hh.next 2=some (.str s.2.2):=o4.ld1 2;have x0:ab h4 h.next 0=some (.int .u64 (x.key:Int)):=ox.ld1 0;have x2:ab h4 h.next 2=some (.str x.text):=ox.ld1 2;have x3:ab h4 h.next 3=some x.vm:=ox.ld1 3;simp only[evs,↓reduceIte,Nat.reduceEqDiff,eff,g5,g2,u0,u2,x2,x0];refine aa (jY F04.wf kx) ?_;rintro _ h5 ⟨rfl,F5⟩;have v0:ab h5 hh.next 0=some (.str s.1):=(F5.get o4).ld1 0;have v1:ab h5 hh.next 1=some (.int .u8 (s.2.1:Int)):=(F5.get o4).ld1 1;have v2:ab h5 hh.next 2=some (.str s.2.2):=(F5.get o4).ld1 2;have y2:ab h5 h.next 2=some (.str x.text):=(F5.get ox).ld1 2;have y3:ab h5 h.next 3=some x.vm:=(F5.get ox).ld1 3;have cv:aY .u64 (x.marks.length:Int)=(x.marks.length:Int):=bU _ (by omega) (by omega);simp only[evs,↓reduceIte,Nat.reduceEqDiff,eff,g2,y3,a.m.len,cv];refine aa (jY F5.wf (by omega)) ?_;rintro _ h6 ⟨rfl,F6⟩;have F06:=(F04.then F5).then F6;have w0:ab h6 hh.next 0=some (.str s.1):=(F6.get (F5.get o4)).ld1 0;have w1:ab h6 hh.next 1=some (.int .u8 (s.2.1:Int)):=(F6.get (F5.get o4)).ld1 1;have w2:ab h6 hh.next 2=some (.str s.2.2):=(F6.get (F5.get o4)).ld1 2;have z2:ab h6 h.next 2=some (.str x.text):=(F6.get (F5.get ox)).ld1 2;have z3:ab h6 h.next 3=some x.vm:=(F6.get (F5.get ox)).ld1 3;have pk:aP (.ixarr 4 1 false) [.agg [.str s.2.2,.str x.text,.str (dec x.key),.str (dec x.marks.length)],.int .u8 (s.2.1:Int)]=some (.str (uU x s)):=by
    rw[BZ _ _ _ _ (by omega)];have:s.2.1=0∨s.2.1=1∨s.2.1=2∨s.2.1=3:=by omega
    rcases this with e|e|e|e<;>(rw[e];simp only[uU,e];rfl)
   have ix:=iS 2 h1.next 0 l.length l.length .i64 (i:Int) (by omega) hlt';simp only[Int.toNat_natCast,Nat.zero_add]at ix;simp only[evs,↓reduceIte,Nat.reduceEqDiff,eff,w1,pk,ix];refine ah (c':=C.take (i*2)++eP (att x s)++C.drop (i*2+2)) F6.wf (F06.get oC) rfl rfl (cW C (i*2) (eP (att x s)) (by show i*2+2≤C.length;omega)) ?_;rintro h7 o7 F7 n7;have F17:Fr [] h h7:=(F.then F06).fresh F7 w (by omega);have F27:Fr [] h1 h7:=(F1.then F06).fresh F7 F_h1.wf (Nat.le_refl _);have fin:(C.take (i*2)++eP (att x s)++C.drop (i*2+2)).take ((i+1) *2)=((l.take (i+1)).map (att x)).flatMap eP:=by
    have:(C.take (i*2)++eP (att x s)).length=(i+1) *2:=by rw[List.length_append,dG,List.length_take];omega
    rw[←this,List.take_left,eC,List.take_add_one,p4];simp
   simp(disch:=omega) only[evs,↓reduceIte,Nat.reduceEqDiff,Nat.reduceAdd,DF,Nat.reduceSub,ai,g13,u0,u1,u2,x0,x2,x3,v0,v1,v2,y2,y3,w0,w1,w2,z2];refine(aj _ _ _).2 ⟨l.length-(i+1),by omega,F17,F27,i+1,_,(by simp[T.get_set]),(by simp[T.get_set,g12]),(by simp[T.get_set,g11]),(by simp[T.get_set,g5]),(by simp[T.get_set,g2]),by omega,o7,by simp[eP];omega,fin,rfl⟩
   done
  ·simp only[evs,↓reduceIte,Nat.reduceEqDiff,g13,g12,g5,show¬(i:Int)<l.length by omega];rw[List.take_of_length_le (by omega),List.take_of_length_le (by omega)]at eC;subst eC;exact⟨h1.next,by omega,⟨by rw[lC],.inr ⟨rfl,oC⟩⟩,F⟩
theorem kL{e:Nat}{h:Heap}{v:V}{n:Nat}{cs:List V}(he:0<e)(a:Sl h e v n cs)(hv:v≠.sliceE):
 ∃u,aP (.sl none e false true true) [v,.int .i64 (n:Int),.int .i64 (n:Int)]=some u∧Sl h e u n cs∧u≠.sliceE:=by
 obtain⟨hl,a⟩:=a;have q:∀y,n≤y→aU n y false true true [.int .i64 (n:Int),.int .i64 (n:Int)]=some (0,n,some n):=fun y hy=>by
  simp only[aU,bW .i64 (n:Int) y (by omega) (by omega),bW .i64 (n:Int) n (by omega) (by omega),Option.bind_some,Option.map_some,Int.toNat_natCast]
 cases v with
 |nils=>
  have a:n=0:=a;subst a;exact⟨.nils,by simp only[aP,dV,q 0 (Nat.le_refl _),Option.map_some],⟨hl,rfl⟩,by simp⟩
 |slice b o len cap=>
  obtain⟨rfl,h2,c,hc,h3,e3⟩:=a;refine⟨.slice b (bif Nat.beq len 0 then o else o+0*e) (len-0) (len-0),by simp only[aP,dV,q cap h2,Option.map_some,Option.getD_some],⟨hl,rfl,Nat.le_refl _,c,hc,?_⟩,by simp⟩;by_cases c0:len=0
  ·rw[gW c0];exact⟨h3,e3⟩
  ·rw[ew c0];simp only[cond_false,Nat.zero_mul,Nat.add_zero];exact⟨h3,e3⟩
 |sliceU b o len e'=>
  obtain⟨rfl,rfl,c,hc,h3,e3⟩:=a;refine⟨.slice b (bif Nat.beq len 0 then o else o+0*e') (len-0) (len-0),by simp only[aP,dV,gW (rfl:e'=e'),(Nat.blt_eq ..).mpr he,Bool.and_self,cond_true,q len (Nat.le_refl _),Option.bind_some],⟨hl,rfl,Nat.le_refl _,c,hc,?_⟩,by simp⟩;by_cases c0:len=0
  ·rw[gW c0];exact⟨h3,e3⟩
  ·rw[ew c0];simp only[cond_false,Nat.zero_mul,Nat.add_zero];exact⟨h3,e3⟩
 |sliceE=>exact absurd rfl hv
 |_=>exact a.elim
theorem Bx{h:Heap}{v:V}{n:Nat}{cs:List V}(a:Sl h 6 v n cs)(hv:v≠.sliceE):ao go 277 [v] h fun u h'=>(∀h2,Sl h2 6 v n cs→Sl h2 6 u n cs)∧u≠.sliceE∧h=h':=by
 obtain⟨u,e,s,ne⟩:=kL (by omega) a hv;refine ag g277 rfl ?_;simp only[fn277,evs,↓reduceIte,Nat.reduceEqDiff,a.len,e];refine⟨fun h2 a2=>?_,ne⟩;obtain⟨u2,e2,s2,_⟩:=kL (by omega) a2 hv;rw[e]at e2;cases e2;exact s2
theorem oR{h:Heap}{x:Itm}{v:V}{k:Nat}{tg ky tx key:Str}{l:List Slo}{vs vp:V}{n:Nat}{cs:List V}(w:WF h)(a:ItmH h x)(r:Recs pG 3 h vs l)(nl:l.length≤4096)(h3:∀s∈l,s.2.1≤3)
 (vp1:vp.one=true) (c:Sl h 6 v n cs) (hv:v≠.sliceE):
 ao go 249 [.agg x.cells,.agg [.int .u8 (k:Int),.str tg,.str ky,vs,.str tx,vp],.str key,v] h fun u h'=>∃va vc ba,u=.agg [.int .u8 1,.str tg,.str key,va,.str [],vc]∧h.next≤ba∧TbC 2 h' va ba ((l.map (att x)).flatMap eP) l.length∧(∀h2,Sl h2 6 v n cs→Sl h2 6 vc n cs)∧vc.one=true∧Fr [] h h':=by
 obtain⟨h1,e_h1⟩:∃h1,h1=halloc h x.cells:=⟨_,rfl⟩;have F_h1:Fr [] h h1:=e_h1▸Fr.halloc w _;have o_h1:Own h1 h.next x.cells:=e_h1▸Own.new w _;obtain⟨h2,e_h2⟩:∃h2,h2=halloc h1 [.int .u8 (k:Int),.str tg,.str ky,vs,.str tx,vp]:=⟨_,rfl⟩;have F_h2:Fr [] h1 h2:=e_h2▸Fr.halloc F_h1.wf _;have o_h2:Own h2 h1.next [.int .u8 (k:Int),.str tg,.str ky,vs,.str tx,vp]:=e_h2▸Own.new F_h1.wf _;obtain⟨h3',e_h3'⟩:∃h3',h3'=halloc h2 [.int .u8 0,.str [],.str [],.nils,.str [],.nils]:=⟨_,rfl⟩;have F_h3':Fr [] h2 h3':=e_h3'▸Fr.halloc F_h2.wf _;have o_h3':Own h3' h2.next [.int .u8 0,.str [],.str [],.nils,.str [],.nils]:=e_h3'▸Own.new F_h2.wf _;have n1:h1.next=h.next+1:=by rw[e_h1];rfl
 have n2:h2.next=h1.next+1:=by rw[e_h2];rfl
 have F03:=(F_h1.then F_h2).then F_h3';have ox:=F_h3'.get (F_h2.get o_h1);have op:=F_h3'.get o_h2;have t1:ab h3' h1.next 1=some (.str tg):=op.ld1 1;have t3:ab h3' h1.next 3=some vs:=op.ld1 3;have x4:au h3' h.next 0 4=some x.cells:=by rw[ox.ld];rfl
 refine ag g249 rfl ?_;simp only[fn249,evs,↓reduceIte,Nat.reduceEqDiff,Nat.reduceAdd,eff,←e_h1,←e_h2,←e_h3',t1,t3,x4];refine aa (BJ F_h3'.wf (a.fr F03) (r.fr F03) nl h3) ?_;rintro va h4 ⟨ba,hba,ta,F4⟩;have t1':ab h4 h1.next 1=some (.str tg):=(F4.get op).ld1 1;simp only[evs,↓reduceIte,Nat.reduceEqDiff,eff];refine aa (Bx (c.fr (F03.then F4)) hv) ?_;rintro vc _ ⟨scA,_,rfl⟩;have sc:=scA _ (c.fr (F03.then F4));simp only[evs,↓reduceIte,eff,aB ta.one,aB sc.one];refine ah (c':=[.int .u8 1,.str tg,.str key,va,.str [],vc]) F4.wf (F4.get o_h3') rfl (by simp only[V.cells,aD,aJ,ta.one,sc.one];rfl) rfl ?_;rintro h5 o5 F5 n5;have l6:=o5.at6.2.2.2.2.2.2;have F05:Fr [] h h5:=(F03.then F4).fresh F5 w (by omega);simp only[evs,↓reduceIte,Nat.reduceEqDiff,Nat.reduceAdd,DF,Nat.reduceSub,t1,t1',t3,x4,l6];have n3:h3'.next=h2.next+1:=by rw[e_h3'];rfl
 exact⟨va,vc,ba,rfl,by omega,ta.fr F5 (by simp;omega),scA,sc.one,F05⟩
theorem _root_.Go.Ev.Gs.append1{h:Heap}{B esz bytes:Nat}{v x:V}{cs xs:List V}{n:Nat}(w:WF h)(a:Gs h B esz v cs)(s:Sl h esz x n xs)(he:0<esz)(hn:n≠0)(ho:aq xs=true)(hB:B≤h.next)
 (hsz:(2*(cs.length+n)+1024) *bytes≤281474976710656) {K:V→Heap→Prop} (k:∀v' h',Gs h' B esz v' (cs++xs)→vb v'=[h.next]→Fr (vb v) h h'→K v' h'):OQ (jv h esz bytes v x) K:=by
 unfold jv;rw[s.srcLen];simp only[]
 ·rw[ew hn,cond_false,s.srcCells];simp only[];rcases a with⟨rfl,rfl⟩|⟨b,m,rfl,hm,hm0,hb,o⟩
  ·simp only[py];have:Nat.ble ((2*n+1024) *bytes) 281474976710656=true:=by
    rw[Nat.ble_eq];simpa using hsz
   rw[this,cond_true];refine(cC _ _ _).2 (k _ _ (.inr ⟨h.next,n,rfl,by simpa using s.1,by omega,hB,by simpa using Own.new w xs⟩) rfl (Fr.halloc w xs))
  ·have hle:(2*(m+n)+1024) *bytes≤(2*(cs.length+n)+1024) *bytes:=by
    refine Nat.mul_le_mul_right _ ?_;have:m≤cs.length:=by rw[hm];exact Nat.le_mul_of_pos_right m he
    omega
   have h1:(Nat.beq esz esz&&Nat.ble ((2*(m+n)+1024) *bytes) 281474976710656)=true:=by
    simp only[Nat.beq_refl,Bool.true_and,Nat.ble_eq];omega
   simp only[h1,cond_true,o.cells];have hmn:(m+n) *esz=m*esz+n*esz:=Nat.add_mul _ _ _;have hpos:0<n*esz:=Nat.mul_pos (by omega) he;rw[wi (show¬0+(m+n) *esz≤cs.length by omega),cond_false];have h2:(Nat.ble (0+m*esz) cs.length&&aq xs)=true:=by simp only[ho,Bool.and_true,Nat.ble_eq];omega
   simp only[h2,cond_true,fx,bC cs (m*esz) (by omega)];obtain⟨h',e,o',f⟩:=qj (pos:=0+m*esz) (c':=cs.take (m*esz)++xs) w o;rw[e];simp only[Option.map_some];refine(cC _ _ _).2 (k _ _ (.inr ⟨h.next,m+n,rfl,by simp[s.1];omega,by omega,hB,?_⟩) rfl f);rwa[List.take_of_length_le (by omega)]at o'
inductive ST where
 |nil
 |cons (kind:Nat) (tag key:Str) (attrs:List (Str×Str)) (text:Str) (sub next:ST)
namespace ST
def app:ST→ST→ST
 |nil,t=>t
 |cons k tg ky a tx sub nx,t=>cons k tg ky a tx sub (nx.app t)
theorem app_nil:∀t:ST,t.app nil=t
 |nil=>rfl
 |cons _ _ _ _ _ _ nx=>by simp only[app,app_nil nx]
theorem app_assoc:∀a b c:ST,(a.app b).app c=a.app (b.app c)
 |nil,_,_=>rfl
 |cons _ _ _ _ _ _ nx,b,c=>by simp only[app,app_assoc nx b c]
def len:ST→Nat
 |nil=>0
 |cons _ _ _ _ _ _ nx=>nx.len+1
def keys:ST→List Str
 |nil=>[]
 |cons _ _ ky _ _ _ nx=>ky::nx.keys
def alone(k:Nat)(tg ky:Str)(at':List (Str×Str))(tx:Str)(sub:ST):Bool:=
 if k=2 then okT tx&&(tg==[]&&(ky==[]&&(decide (at'.length=0)&&decide (sub.len=0))))
 else decide (k=1)&&(okN tg&&((ky==[]||okN ky)&&(tx==[]&&(decide (at'.length≤8)&&(decide (sub.len≤16)&&(db none at'&&eS [] sub.keys))))))
def node(k:Nat)(tg ky:Str)(at':List (Str×Str))(tx:Str)(sub:ST)(w:Nat→Nat→Nat×Bool)(l c:Nat):Nat×Bool:=
 if 6<l∨64<c+1∨alone k tg ky at' tx sub=false then(c+1,false)else w (l+1) (c+1)
def walk:ST→Nat→Nat→Nat×Bool
 |nil,_,c=>(c,true)
 |cons k tg ky at' tx sub nx,l,c=>let r:=node k tg ky at' tx sub sub.walk l c;if r.2=true then nx.walk l r.1 else r
def count(k:Nat)(tg ky:Str)(at':List (Str×Str))(tx:Str)(sub:ST):Nat:=
 if(node k tg ky at' tx sub sub.walk 1 0).2=true then(node k tg ky at' tx sub sub.walk 1 0).1 else 0
end ST
namespace NT
def sh:NT→ST
 |nil=>.nil
 |cons k tg ky a tx _ _ sub nx=>.cons k tg ky a tx sub.sh nx.sh
def app:NT→NT→NT
 |nil,t=>t
 |cons k tg ky a tx va vc sub nx,t=>cons k tg ky a tx va vc sub (nx.app t)
theorem app_sh:∀a b:NT,(a.app b).sh=a.sh.app b.sh
 |nil,_=>rfl
 |cons _ _ _ _ _ _ _ _ nx,b=>by simp only[app,sh,ST.app,app_sh nx b]
theorem app_len:∀a b:NT,(a.app b).len=a.len+b.len
 |nil,b=>by simp[app,len]
 |cons _ _ _ _ _ _ _ _ nx,b=>by simp only[app,len,app_len nx b];omega
theorem app_cells:∀a b:NT,(a.app b).cells=a.cells++b.cells
 |nil,_=>rfl
 |cons _ _ _ _ _ _ _ _ nx,b=>by simp only[app,cells,app_cells nx b,List.append_assoc]
theorem sh_len:∀t:NT,t.sh.len=t.len
 |nil=>rfl
 |cons _ _ _ _ _ _ _ _ nx=>by simp only[sh,len,ST.len,sh_len nx]
theorem sh_keys:∀t:NT,t.sh.keys=t.keys
 |nil=>rfl
 |cons _ _ _ _ _ _ _ _ nx=>by simp only[sh,keys,ST.keys,sh_keys nx]
theorem tr(k:Nat)(tg ky:Str)(at':List (Str×Str))(tx:Str)(sub:NT):ST.alone k tg ky at' tx sub.sh=fD k tg ky at' tx sub:=by
 simp only[ST.alone,fD,sh_len,sh_keys]
theorem rO:∀(t:NT)(l c:Nat),t.sh.walk l c=t.walk l c
 |nil,_,_=>rfl
 |cons k tg ky at' tx _ _ sub nx,l,c=>by
  have e1:ST.node k tg ky at' tx sub.sh sub.sh.walk l c=node k tg ky at' tx sub sub.walk l c:=by
   unfold ST.node node;rw[tr,rO sub]
  show(let r:=ST.node k tg ky at' tx sub.sh sub.sh.walk l c;if r.2=true then nx.sh.walk l r.1 else r)=_;rw[e1];simp only[walk,rO nx]
theorem sh_count(k:Nat)(tg ky:Str)(at':List (Str×Str))(tx:Str)(sub:NT):ST.count k tg ky at' tx sub.sh=count k tg ky at' tx sub:=by
 have e1:ST.node k tg ky at' tx sub.sh sub.sh.walk 1 0=node k tg ky at' tx sub sub.walk 1 0:=by
  unfold ST.node node;rw[tr,rO sub]
 unfold ST.count count;rw[e1]
end NT
theorem NH.app{h:Heap}:∀{a b:NT},NH h a→NH h b→NH h (a.app b)
 |.nil,_,_,q=>q
 |.cons _ _ _ _ _ _ _ _ _,_,⟨x1,x2,x3,x4,x5,x6,x7⟩,q=>⟨x1,x2,x3,x4,x5,x6,NH.app x7 q⟩
def fi(z:Str):ST:=.cons 2 [] [] [] z .nil .nil
def im(tg:Str)(a:List (Str×Str)):List Str→ST
 |[]=>.nil
 |m::ms=>.cons 1 tg m a [] (fi m) (im tg a ms)
def jP(x:Itm)(k:Nat)(tg ky:Str)(sl:List Slo)(tx:Str)(sub:ST):ST:=
 if k=1 then .cons 1 tg ky (sl.map (att x)) [] sub .nil
 else if k=2 then fi tx
 else if k=3 then fi x.text
 else if k=4 then fi (dec x.key)
 else if k=5 then im tg (sl.map (att x)) x.marks
 else .nil
def cG(x:Itm):PT→ST
 |.nil=>.nil
 |.cons k tg ky sl tx _ _ sub nx=>(jP x k tg ky sl tx (cG x sub)).app (cG x nx)
def TG:PT→Prop
 |.nil=>True
 |.cons _ _ _ sl _ _ _ sub nx=>(∀s∈sl,s.2.1≤3)∧sub.len≤16∧TG sub∧TG nx
theorem TG.at':∀{t:PT}(i:Nat),TG t→TG (t.at' i)
 |.nil,0,_=>trivial
 |.nil,_+1,_=>trivial
 |.cons _ _ _ _ _ _ _ _ _,0,a=>a
 |.cons _ _ _ _ _ _ _ _ _,i+1,⟨_,_,_,g⟩=>TG.at' i g
theorem uG(tg:Str)(a:List (Str×Str)):∀ms:List Str,(im tg a ms).len=ms.length
 |[]=>rfl
 |m::ms=>by simp[im,ST.len,uG tg a ms]
theorem CX(x:Itm)(k:Nat)(tg ky:Str)(sl:List Slo)(tx:Str)(sub:ST)(hm:x.marks.length≤8):(jP x k tg ky sl tx sub).len≤8:=by
 unfold jP;split
 ·simp[ST.len]
 split
 ·simp[fi,ST.len]
 split
 ·simp[fi,ST.len]
 split
 ·simp[fi,ST.len]
 split
 ·rw[uG];exact hm
 ·simp[ST.len]
def Inv(v:V)(n0:Nat)(h:Heap)(s:NT):Prop:=∀(X:List Nat)(h':Heap),(∀x∈X,x<n0∨x∈vb v)→Fr X h h'→NH h' s
theorem Inv.fr{v:V}{n0:Nat}{h h':Heap}{s:NT}(I:Inv v n0 h s)(w:WF h)(f:Fr [] h h'):Inv v n0 h' s:=fun X h2 hx f2=>
 I X h2 hx (Fr.trans f f2 w (by simp) (fun x hx=>.inl hx))
theorem Inv.nh{v:V}{n0:Nat}{h:Heap}{s:NT}(I:Inv v n0 h s)(w:WF h):NH h s:=I [] h (by simp) (Fr.refl w)
theorem i5{h:Heap}{n0 B k:Nat}{vo:V}{s sub:NT}{tg ky tx:Str}{at':List (Str×Str)}{va vc:V}{K:V→Heap→Prop}(w:WF h)(g:Gs h B 6 vo s.cells)(hB:B≤h.next)(h0:n0≤h.next)(I:Inv vo n0 h s)
 (N:∀(X:List Nat)(h':Heap),(∀x∈X,x<n0∨x∈vb vo)→Fr X h h'→NH h' (.cons k tg ky at' tx va vc sub .nil)) (hl:s.len≤1000)
 (hk:∀v' h',Gs h' B 6 v' (s.app (.cons k tg ky at' tx va vc sub .nil)).cells→Inv v' n0 h' (s.app (.cons k tg ky at' tx va vc sub .nil))→Fr (vb vo) h h'→(∀y∈vb v',h.next≤y)→K v' h'):
 OQ (jv (halloc h [.int .u8 (k:Int),.str tg,.str ky,va,.str tx,vc]) 6 104 vo (.slice h.next 0 1 1)) K:=by
 have n1:=N [] h (by simp) (Fr.refl w);have on:=NH.ones n1;have F1:=Fr.halloc w [.int .u8 (k:Int),.str tg,.str ky,va,.str tx,vc];have o1:=Own.new w [.int .u8 (k:Int),.str tg,.str ky,va,.str tx,vc];have cl:=s.cells_len;have vlt:∀x∈vb vo,x<h.next:=by
  rcases g with⟨rfl,_⟩|⟨b,n,rfl,_,_,_,o⟩
  ·simp[vb]
  ·have:=o.lt w;simp only[vb,List.mem_singleton];rintro x rfl;exact this
 refine Gs.append1 (n:=1) F1.wf (g.fr F1) (Sl.lit o1 rfl) (by omega) (by omega) on (Nat.le_trans hB F1.next) (by rw[cl];omega) ?_;intro v' h' g' e' F';have F:Fr (vb vo) h h':=Fr.trans F1 F' w (by simp) (fun x hx=>.inl hx);refine hk v' h' ?_ ?_ F (by rw[e'];simp only[List.mem_singleton];rintro y rfl;exact F1.next)
 ·rw[NT.app_cells];exact g'
 ·intro X h2 hX f2;have f3:Fr (vb vo++X.filter (fun x=>decide (x<n0))) h h2:=by
   refine Fr.trans F f2 w (fun x hx=>.inl (by simp[hx])) (fun x hx=>?_);rcases hX x hx with q|q
   ·exact .inl (by simp[hx,q])
   ·rw[e']at q;simp at q;exact .inr (by subst q;exact F1.next)
  have hX':∀x∈vb vo++X.filter (fun x=>decide (x<n0)),x<n0∨x∈vb vo:=by
   intro x hx;simp at hx;rcases hx with q|q
   ·exact .inr q
   ·exact .inl q.2
  exact NH.app (I _ h2 hX' f3) (N _ h2 hX' f3)
def MK(t:PT):Prop:=∀(x:Itm)(h:Heap)(v:V),WF h→ItmH h x→x.marks.length≤8→PH h t→TG t→t.len≤16→Sl h 6 v t.len t.cells→
 ao go 202 [.agg x.cells,v] h fun u h'=>∃s:NT,s.sh=cG x t∧Fr [] h h'∧u≠.sliceE∧s.len≤128∧∀(X:List Nat)(h2:Heap),(∀y∈X,y<h.next)→Fr X h' h2→NH h2 s∧Sl h2 6 u s.len s.cells
def MKs:PT→Prop
 |.nil=>True
 |.cons _ _ _ _ _ _ _ sub nx=>MK sub∧MKs nx
theorem MKs.at':∀{t:PT}(i:Nat),MKs t→MKs (t.at' i)
 |.nil,0,_=>trivial
 |.nil,_+1,_=>trivial
 |.cons _ _ _ _ _ _ _ _ _,0,a=>a
 |.cons _ _ _ _ _ _ _ _ _,i+1,⟨_,g⟩=>MKs.at' i g
theorem Gs.nE{h:Heap}{B e:Nat}{v:V}{cs:List V}(g:Gs h B e v cs):v≠.sliceE:=by
 rcases g with⟨rfl,_⟩|⟨b,n,rfl,_⟩<;>simp
theorem Gs.frX{h h':Heap}{B e:Nat}{v:V}{cs:List V}{X:List Nat}(g:Gs h B e v cs)(f:Fr X h h')(hx:∀x∈X,x<B):Gs h' B e v cs:=by
 rcases g with⟨rfl,rfl⟩|⟨b,n,rfl,h1,h2,h3,o⟩
 ·exact .inl ⟨rfl,rfl⟩
 ·exact .inr ⟨b,n,rfl,h1,h2,h3,f.own _ _ (fun m=>by have:=hx _ m;omega) o⟩
theorem vn{n0:Nat}{v:V}{h:Heap}(z:Str):∀(X:List Nat)(h':Heap),(∀x∈X,x<n0∨x∈vb v)→Fr X h h'→NH h' (.cons 2 [] [] [] z .nils .nils .nil .nil):=fun _ _ _ _=>jb 2 (by omega) [] z
theorem wO{t:PT}(M:MKs t):MK t:=by
 intro x h v w a hm pt tg hl sl;obtain⟨h1,e_h1⟩:∃h1,h1=halloc h x.cells:=⟨_,rfl⟩;have F_h1:Fr [] h h1:=e_h1▸Fr.halloc w _;have o_h1:Own h1 h.next x.cells:=e_h1▸Own.new w _;have n1:h1.next=h.next+1:=by rw[e_h1];rfl
 refine ag g202 rfl ?_;simp only[fn202,evs,↓reduceIte,Nat.reduceEqDiff,Nat.reduceAdd,←e_h1,sl.len];refine aE (fun n env hh=>Fr [] h hh∧Fr [] h1 hh∧∃(i:Nat)(s:NT)(vo:V),env.get 12=some (.int .i64 i)∧env.get 11=some (.int .i64 t.len)∧env.get 10=some v∧env.get 5=some vo∧env.get 2=some (.ptr h.next 0)∧
  i≤t.len∧Inv vo h.next hh s∧Gs hh h1.next 6 vo s.cells∧s.sh.app (cG x (t.at' i))=cG x t∧s.len≤8*i∧n=t.len-i) t.len (by omega) ?_ ?_
 ·exact⟨F_h1,Fr.refl F_h1.wf,0,.nil,.nils,(by simp[T.get_set]),(by simp[T.get_set]),(by simp[T.get_set]),(by simp[T.get_set]),(by simp[T.get_set]),by omega,fun _ _ _ _=>trivial,.inl ⟨rfl,rfl⟩,by cases t<;>rfl,by simp[NT.len],rfl⟩
 ·rintro n env hh ⟨F,F1,i,s,vo,g12,g11,g10,g5,g2,hi,I,G,e,sn,rfl⟩;by_cases hlt:i<t.len
  ·have hlt':(i:Int)<t.len:=by omega
   obtain⟨k,tgn,ky,sl',tx,vs,vp,sub,nx,e1,e2,e3,e4,e5,e6⟩:=t.split i hlt;have pti:=pt.at' i;have tgi:=tg.at' i;have Mi:=M.at' i;rw[e1]at pti tgi Mi e;obtain⟨pk,pr,pl,ps,pn,psub,_⟩:=pti;obtain⟨t3,tl,tsub,_⟩:=tgi;obtain⟨b',o',p1,p2⟩:=(sl.fr F).ix6 hlt e2;have on:aq [.int .u8 (k:Int),.str tgn,.str ky,vs,.str tx,vp]=true:=by
    simp only[aD,aJ,Sl.one pr,Sl.one ps];rfl
   have vlt:∀y∈vb vo,y<hh.next:=by
    rcases G with⟨rfl,_⟩|⟨b,n,rfl,_,_,_,o⟩
    ·simp[vb]
    ·have:=o.lt F.wf;simp only[vb,List.mem_singleton];rintro y rfl;exact this
   obtain⟨h3,e_h3⟩:∃h3,h3=halloc hh [.int .u8 0,.str [],.str [],.nils,.str [],.nils]:=⟨_,rfl⟩;have F_h3:Fr [] hh h3:=e_h3▸Fr.halloc F.wf _;have o_h3:Own h3 hh.next [.int .u8 0,.str [],.str [],.nils,.str [],.nils]:=e_h3▸Own.new F.wf _;simp only[evs,↓reduceIte,Nat.reduceEqDiff,g12,g11,g10,hlt',p1,p2.2.2.2.2.2.2,←e_h3];refine ah (c':=[.int .u8 (k:Int),.str tgn,.str ky,vs,.str tx,vp]) F_h3.wf o_h3 rfl on rfl ?_;rintro h4 o4 F4 n4;have F04:Fr [] hh h4:=F_h3.fresh F4 F.wf (Nat.le_refl _);have q4:=o4.at6;have ox:=F04.get (F1.get o_h1);have x4:au h4 h.next 0 4=some x.cells:=by rw[ox.ld];rfl
   have hn4:hh.next≤h4.next:=F04.next;have h1n:=F1.next;simp only[cG]at e;have fin:∀{env2:T V}{s2:NT}{v2:V}{h5:Heap},Fr [] h h5→Fr [] h1 h5→env2.get 12=some (.int .i64 ((i:Int)+1))→env2.get 11=some (.int .i64 t.len)→env2.get 10=some v→env2.get 5=some v2→env2.get 2=some (.ptr h.next 0)→
    Inv v2 h.next h5 s2→Gs h5 h1.next 6 v2 s2.cells→s2.sh=s.sh.app (jP x k tgn ky sl' tx (cG x sub))→
    ∃k',k'<t.len-i∧Fr [] h h5∧Fr [] h1 h5∧∃(i:Nat)(s:NT)(vo:V),env2.get 12=some (.int .i64 i)∧env2.get 11=some (.int .i64 t.len)∧env2.get 10=some v∧env2.get 5=some vo∧env2.get 2=some (.ptr h.next 0)∧
     i≤t.len∧Inv vo h.next h5 s∧Gs h5 h1.next 6 vo s.cells∧s.sh.app (cG x (t.at' i))=cG x t∧s.len≤8*i∧k'=t.len-i:=by
    intro env2 s2 v2 h5 f f1 a1 a2 a3 a4 a5 I2 G2 es;have ol:=CX x k tgn ky sl' tx (cG x sub) hm;refine⟨t.len-(i+1),by omega,f,f1,i+1,s2,v2,a1,a2,a3,a4,a5,by omega,I2,G2,?_,?_,rfl⟩
    ·rw[es,e3,ST.app_assoc];exact e
    ·rw[←NT.sh_len,es];have:∀a b:ST,(a.app b).len=a.len+b.len:=by
      intro a b;induction a with
      |nil=>simp[ST.app,ST.len]
      |cons _ _ _ _ _ _ nx _ ih=>simp only[ST.app,ST.len,ih];omega
     rw[this,NT.sh_len];omega
   have l0:ab h4 hh.next 0=some (.int .u8 (k:Int)):=q4.1;have vge:∀y∈vb vo,h1.next≤y:=by
    rcases G with⟨rfl,_⟩|⟨b,n,rfl,_,_,hb,o⟩
    ·simp[vb]
    ·simp only[vb,List.mem_singleton];rintro y rfl;exact hb
   have F0:Fr [] h h4:=F.then F04;have F10:Fr [] h1 h4:=F1.then F04;have att_h:=a.fr F0;by_cases k1:k=1
   ·have ek:jP x k tgn ky sl' tx (cG x sub)=.cons 1 tgn ky (sl'.map (att x)) [] (cG x sub) .nil:=by subst k1;rfl
    have l2:ab h4 hh.next 2=some (.str ky):=q4.2.2.1;have l5:ab h4 hh.next 5=some vp:=q4.2.2.2.2.2.1;have l6:=q4.2.2.2.2.2.2;simp only[evs,↓reduceIte,Nat.reduceEqDiff,eff,g5,g2,l0,eq_true (show(k:Int)=1 by omega),x4,l6,l2,l5];refine aa (Mi.1 x h4 vp F04.wf att_h hm (psub.fr F0) tsub tl (ps.fr F0)) ?_;rintro u h5 ⟨s5,es5,F5,uE,s5l,st5⟩;have st0:=st5 [] h5 (by simp) (Fr.refl F5.wf);have x5:au h5 h.next 0 4=some x.cells:=by rw[(F5.get ox).ld];rfl
    have r5:=(F5.get o4).at6;have m2:ab h5 hh.next 2=some (.str ky):=r5.2.2.1;have m6:=r5.2.2.2.2.2.2;simp only[evs,eff];refine aa (oR F5.wf (att_h.fr F5) (Recs.fr pr (F0.then F5)) pl t3 (Sl.one ps) st0.2 uE) ?_;rintro _ h6 ⟨va,vc,ba,rfl,hba,ta,scA,vc1,F6⟩;simp only[evs,↓reduceIte,Nat.reduceAdd,Nat.reduceLT,eff];have hn5:=F5.next;refine i5 (k:=1) (sub:=s5) (at':=sl'.map (att x)) F6.wf (G.fr ((F04.then F5).then F6)) (by have:=F6.next;omega) (by have:=F6.next;omega) (I.fr F.wf ((F04.then F5).then F6)) ?_ (by omega) ?_
    ·intro X h' hX f;have hX':∀y∈X,y<h4.next:=fun y hy=>by
      rcases hX y hy with q|q
      ·omega
      ·have:=vlt y q;omega
     obtain⟨z1,z2⟩:=st5 X h' hX' (Fr.trans F6 f F5.wf (by simp) (fun y hy=>.inl hy));refine⟨by omega,?_,by simpa using pl,scA _ z2,by omega,z1,trivial⟩;have:=(ta.fr f (fun m=>by have:=hX' _ m;omega)).sl;show Sl h' 2 va (sl'.map (att x)).length _;rw[List.length_map];exact this
    intro v' h' G' I' F' V';simp(disch:=omega) only[evs,↓reduceIte,Nat.reduceEqDiff,Nat.reduceAdd,DF,eff,Nat.reduceSub,ai,g12,g2,x4,l6,l2,l5,x5,m6,m2];refine(aj _ _ _).2 ?_;exact fin (Fr.new w ((F0.then F5).then F6) F' (fun y hy=>by have:=vge y hy;omega)) (Fr.new F_h1.wf ((F10.then F5).then F6) F' vge) (by simp[T.get_set]) (by simp[T.get_set,g11]) (by simp[T.get_set,g10]) (by simp[T.get_set]) (by simp[T.get_set,g2]) I' G' (by rw[ek,←es5];exact NT.app_sh _ _)
    done
   by_cases k2:k=2
   ·have ek:jP x k tgn ky sl' tx (cG x sub)=fi tx:=by subst k2;rfl
    simp only[evs,↓reduceIte,Nat.reduceEqDiff,g5,l0,show¬(k:Int)=1 by omega,eq_true (show(k:Int)=2 by omega),q4.2.2.2.2.1];refine aa (j6 F04.wf) ?_;rintro _ h5 ⟨rfl,F5⟩;simp only[evs,↓reduceIte,Nat.reduceAdd,Nat.reduceLT];refine i5 (k:=2) F5.wf (G.fr (F04.then F5)) (by have:=F5.next;omega) (by have:=F5.next;omega) (I.fr F.wf (F04.then F5)) (vn _) (by omega) ?_;intro v' h' G' I' F' V';simp(disch:=omega) only[evs,↓reduceIte,Nat.reduceEqDiff,ai,g12];refine(aj _ _ _).2 ?_;exact fin (Fr.new w (F0.then F5) F' (fun y hy=>by have:=vge y hy;omega)) (Fr.new F_h1.wf (F10.then F5) F' vge) (by simp[T.get_set]) (by simp[T.get_set,g11]) (by simp[T.get_set,g10]) (by simp[T.get_set]) (by simp[T.get_set,g2]) I' G' (by rw[ek];exact NT.app_sh _ _)
    done
   by_cases k3:k=3
   ·have ek:jP x k tgn ky sl' tx (cG x sub)=fi x.text:=by subst k3;rfl
    simp only[evs,↓reduceIte,Nat.reduceEqDiff,g5,g2,l0,show¬(k:Int)=1 by omega,show¬(k:Int)=2 by omega,eq_true (show(k:Int)=3 by omega),show ab h4 h.next 2=some (.str x.text)from ox.ld1 2];refine aa (j6 F04.wf) ?_;rintro _ h5 ⟨rfl,F5⟩;simp only[evs,↓reduceIte,Nat.reduceAdd,Nat.reduceLT];refine i5 (k:=2) F5.wf (G.fr (F04.then F5)) (by have:=F5.next;omega) (by have:=F5.next;omega) (I.fr F.wf (F04.then F5)) (vn _) (by omega) ?_;intro v' h' G' I' F' V';simp(disch:=omega) only[evs,↓reduceIte,Nat.reduceEqDiff,ai,g12];refine(aj _ _ _).2 ?_;exact fin (Fr.new w (F0.then F5) F' (fun y hy=>by have:=vge y hy;omega)) (Fr.new F_h1.wf (F10.then F5) F' vge) (by simp[T.get_set]) (by simp[T.get_set,g11]) (by simp[T.get_set,g10]) (by simp[T.get_set]) (by simp[T.get_set,g2]) I' G' (by rw[ek];exact NT.app_sh _ _)
    done
   by_cases k4:k=4
   ·have ek:jP x k tgn ky sl' tx (cG x sub)=fi (dec x.key):=by subst k4;rfl
    simp only[evs,↓reduceIte,Nat.reduceEqDiff,g5,g2,l0,show¬(k:Int)=1 by omega,show¬(k:Int)=2 by omega,show¬(k:Int)=3 by omega,eq_true (show(k:Int)=4 by omega),show ab h4 h.next 0=some (.int .u64 (x.key:Int))from ox.ld1 0];refine aa (jY F04.wf a.k) ?_;rintro _ h4' ⟨rfl,F4'⟩;simp only[evs];refine aa (j6 F4'.wf) ?_;rintro _ h5 ⟨rfl,F5'⟩;have F5:=F4'.then F5';simp only[evs,↓reduceIte,Nat.reduceAdd,Nat.reduceLT];refine i5 (k:=2) F5.wf (G.fr (F04.then F5)) (by have:=F5.next;omega) (by have:=F5.next;omega) (I.fr F.wf (F04.then F5)) (vn _) (by omega) ?_;intro v' h' G' I' F' V';simp(disch:=omega) only[evs,↓reduceIte,Nat.reduceEqDiff,ai,g12];refine(aj _ _ _).2 ?_;exact fin (Fr.new w (F0.then F5) F' (fun y hy=>by have:=vge y hy;omega)) (Fr.new F_h1.wf (F10.then F5) F' vge) (by simp[T.get_set]) (by simp[T.get_set,g11]) (by simp[T.get_set,g10]) (by simp[T.get_set]) (by simp[T.get_set,g2]) I' G' (by rw[ek];exact NT.app_sh _ _)
    done
   by_cases k5:k=5
   ·have ek:jP x k tgn ky sl' tx (cG x sub)=im tgn (sl'.map (att x)) x.marks:=by subst k5;rfl
    have l3:ab h4 h.next 3=some x.vm:=ox.ld1 3;simp only[evs,↓reduceIte,Nat.reduceEqDiff,g2,l0,show¬(k:Int)=1 by omega,show¬(k:Int)=2 by omega,show¬(k:Int)=3 by omega,show¬(k:Int)=4 by omega,eq_true (show(k:Int)=5 by omega),l3,a.m.len];refine aE (fun n env' hh'=>Fr [] h hh'∧Fr [] h1 hh'∧Own hh' hh.next [.int .u8 (k:Int),.str tgn,.str ky,vs,.str tx,vp]∧h4.next≤hh'.next∧∃(j:Nat)(s':NT)(v2:V),env'.get 65=some (.int .i64 j)∧env'.get 64=some (.int .i64 x.marks.length)∧env'.get 63=some x.vm∧env'.get 7=some (.ptr hh.next 0)∧
     env'.get 12=some (.int .i64 i)∧env'.get 11=some (.int .i64 t.len)∧env'.get 10=some v∧env'.get 5=some v2∧env'.get 2=some (.ptr h.next 0)∧j≤x.marks.length∧hh.next∉vb v2∧Inv v2 h.next hh' s'∧Gs hh' h1.next 6 v2 s'.cells∧
     s'.sh.app (im tgn (sl'.map (att x)) (x.marks.drop j))=s.sh.app (im tgn (sl'.map (att x)) x.marks)∧s'.len≤8*i+j∧n=x.marks.length-j) x.marks.length (by omega) ?_ ?_
    ·exact⟨F0,F10,o4,Nat.le_refl _,0,s,vo,(by simp[T.get_set]),(by simp[T.get_set]),(by simp[T.get_set]),(by simp[T.get_set]),(by simp[T.get_set,g12]),(by simp[T.get_set,g11]),(by simp[T.get_set,g10]),(by simp[T.get_set,g5]),(by simp[T.get_set,g2]),by omega,fun m=>by(have:=vlt _ m;omega),I.fr F.wf F04,G.fr F04,rfl,by omega,rfl⟩
    ·rintro n' env' hh' ⟨F0j,F1j,oj,hnj,j,s',v2,g65,g64,g63,g7,g12,g11,g10,g5,g2,hj,hnv,I2,G2,ej,sl2,rfl⟩;have oxj:=F1j.get o_h1;by_cases hjl:j<x.marks.length
     ·have hjl':(j:Int)<x.marks.length:=by omega
      obtain⟨b3,o3',mk,r1,r2,_,r4⟩:=(a.m.fr F0j).ix gI .i64 (j:Int) (by omega) hjl';have r2':ab hh' b3 o3'=some (.str mk):=r2 0 (by omega);rw[Int.toNat_natCast]at r4;rw[aK r4]at ej;have v2ge:∀y∈vb v2,h1.next≤y:=by
       rcases G2 with⟨rfl,_⟩|⟨b,n,rfl,_,_,hb,o⟩
       ·simp[vb]
       ·simp only[vb,List.mem_singleton];rintro y rfl;exact hb
      have v2lt:∀y∈vb v2,y<hh'.next:=by
       rcases G2 with⟨rfl,_⟩|⟨b,n,rfl,_,_,_,o⟩
       ·simp[vb]
       ·have:=o.lt F0j.wf;simp only[vb,List.mem_singleton];rintro y rfl;exact this
      have ja:au hh' h.next 0 4=some x.cells:=by rw[oxj.ld];rfl
      have jp:=oj.at6.2.2.2.2.2.2;simp only[evs,↓reduceIte,Nat.reduceEqDiff,eff,g65,g64,g63,g7,g5,g2,hjl',r1,r2',ja,jp];refine aa (j6 F0j.wf) ?_;rintro _ h5 ⟨rfl,F5⟩;obtain⟨h6,e_h6⟩:∃h6,h6=halloc h5 [.int .u8 2,.str [],.str [],.nils,.str mk,.nils]:=⟨_,rfl⟩;have F_h6:Fr [] h5 h6:=e_h6▸Fr.halloc F5.wf _;have o_h6:Own h6 h5.next [.int .u8 2,.str [],.str [],.nils,.str mk,.nils]:=e_h6▸Own.new F5.wf _;have n6:h6.next=h5.next+1:=by rw[e_h6];rfl
      have ja5:au h5 h.next 0 4=some x.cells:=by rw[(F5.get oxj).ld];rfl
      have jp5:=(F5.get oj).at6.2.2.2.2.2.2;have ja6:au h6 h.next 0 4=some x.cells:=by rw[(F_h6.get (F5.get oxj)).ld];rfl
      have jp6:=(F_h6.get (F5.get oj)).at6.2.2.2.2.2.2;simp only[evs,↓reduceIte,Nat.reduceAdd,Nat.reduceLT,eff,←e_h6];have F06:=(F0j.then F5).then F_h6;have kid:Sl h6 6 (.slice h5.next 0 1 1) 1 (NT.cons 2 [] [] [] mk .nils .nils .nil .nil).cells:=Sl.lit o_h6 rfl;refine aa (oR F_h6.wf (a.fr F06) (Recs.fr pr F06) pl t3 (Sl.one ps) kid (by simp)) ?_;rintro _ h7 ⟨va,vc,ba,rfl,hba,ta,scA,vc1,F7⟩;simp only[evs,↓reduceIte,Nat.reduceAdd,Nat.reduceLT,eff];have hn5:=F5.next;have hn7:=F7.next;have Fj7:=(F5.then F_h6).then F7;refine i5 (k:=1) (sub:=.cons 2 [] [] [] mk .nils .nils .nil .nil) (at':=sl'.map (att x)) F7.wf (G2.fr Fj7) (by omega) (by omega) (I2.fr F0j.wf Fj7) ?_ (by omega) ?_
      ·intro X h' hX f;have hX':∀y∈X,y<hh'.next:=fun y hy=>by
        rcases hX y hy with q|q
        ·omega
        ·exact v2lt y q
       have f2:Fr X h6 h':=Fr.trans F7 f F_h6.wf (by simp) (fun y hy=>.inl hy);have o':=f2.own _ _ (fun m=>by have:=hX' _ m;omega) o_h6;refine⟨by omega,?_,by simpa using pl,scA _ (Sl.lit o' rfl),by simp[NT.len],jb 2 (by omega) [] mk,trivial⟩;have:=(ta.fr f (fun m=>by have:=hX' _ m;omega)).sl;show Sl h' 2 va (sl'.map (att x)).length _;rw[List.length_map];exact this
      intro v' h' G' I' F' V';simp(disch:=omega) only[evs,↓reduceIte,Nat.reduceEqDiff,Nat.reduceAdd,DF,eff,Nat.reduceSub,ai,g65,g7,g2,ja,jp,ja5,jp5,ja6,jp6];refine(aj _ _ _).2 ⟨x.marks.length-(j+1),by omega,Fr.new w (F0j.then Fj7) F' (fun y hy=>by have:=v2ge y hy;omega),Fr.new F_h1.wf (F1j.then Fj7) F' v2ge,F'.own _ _ hnv (Fj7.get oj),by have:=F'.next;omega,j+1,_,v',(by simp[T.get_set]),(by simp[T.get_set,g64]),(by simp[T.get_set,g63]),(by simp[T.get_set,g7]),(by simp[T.get_set,g12]),(by simp[T.get_set,g11]),(by simp[T.get_set,g10]),(by simp[T.get_set]),(by simp[T.get_set,g2]),by omega,fun m=>by(have:=V' _ m;omega),I',G',?_,?_,rfl⟩
      ·rw[NT.app_sh,ST.app_assoc];exact ej
      ·rw[NT.app_len];simp only[NT.len];omega
     ·simp(disch:=omega) only[evs,↓reduceIte,Nat.reduceEqDiff,ai,g65,g64,g12,show¬(j:Int)<x.marks.length by omega];rw[List.drop_of_length_le (by omega)]at ej;simp only[im,ST.app_nil]at ej;refine(aj _ _ _).2 ?_;exact fin F0j F1j (by simp[T.get_set]) (by simp[T.get_set,g11]) (by simp[T.get_set,g10]) (by simp[T.get_set,g5]) (by simp[T.get_set,g2]) I2 G2 (by rw[ek];exact ej)
      done
   have ek:jP x k tgn ky sl' tx (cG x sub)=.nil:=by unfold jP;simp[k1,k2,k3,k4,k5]
   simp(disch:=omega) only[evs,↓reduceIte,Nat.reduceEqDiff,ai,g12,l0,show¬(k:Int)=1 by omega,show¬(k:Int)=2 by omega,show¬(k:Int)=3 by omega,show¬(k:Int)=4 by omega,show¬(k:Int)=5 by omega];refine(aj _ _ _).2 ?_;exact fin F0 F10 (by simp[T.get_set]) (by simp[T.get_set,g11]) (by simp[T.get_set,g10]) (by simp[T.get_set,g5]) (by simp[T.get_set,g2]) (I.fr F.wf F04) (G.fr F04) (by rw[ek,ST.app_nil])
   done
  ·simp only[evs,↓reduceIte,Nat.reduceEqDiff,g12,g11,g5,show¬(i:Int)<t.len by omega];rw[PT.at_end _ _ (by omega)]at e;simp only[cG,ST.app_nil]at e;refine⟨s,e,F,Gs.nE G,by omega,fun X h2 hX f2=>⟨I X h2 (fun y hy=>.inl (hX y hy)) f2,(Gs.frX G f2 (fun y hy=>by have:=hX y hy;omega)).sl s.cells_len (by omega)⟩⟩
theorem mks:∀t:PT,MKs t
 |.nil=>trivial
 |.cons _ _ _ _ _ _ _ sub nx=>⟨wO (mks sub),mks nx⟩
theorem rM:∀(p:Option Str)(l:List Slo),dK p l=true→∀s∈l,s.2.1≤3
 |_,[],_,s,m=>by simp at m
 |p,a::l,e,s,m=>by
  rw[ir,Bool.and_eq_true]at e;rcases List.mem_cons.1 m with rfl|m
  ·have:=e.1;simp only[fF,Bool.and_eq_true,decide_eq_true_eq]at this;exact this.2.1
  ·exact rM _ l e.2 s m
theorem nR{k:Nat}{tg ky tx:Str}{sl:List Slo}{n:Nat}(h:cY k tg ky sl tx n=true):(∀s∈sl,s.2.1≤3)∧n≤16:=by
 unfold cY at h;by_cases k1:k=1
 ·rw[if_pos k1]at h;simp only[Bool.and_eq_true,decide_eq_true_eq,bP]at h;exact⟨rM _ _ h.2.2.2.1.2,h.2.1⟩
 rw[if_neg k1]at h;by_cases k5:k=5
 ·rw[if_pos k5]at h;simp only[Bool.and_eq_true,decide_eq_true_eq,bP]at h;exact⟨rM _ _ h.2.1.2,by omega⟩
 rw[if_neg k5]at h;by_cases k2:k=2
 ·rw[if_pos k2]at h;simp only[Bool.and_eq_true,decide_eq_true_eq]at h;obtain⟨_,_,_,h4,h5⟩:=h;have:sl=[]:=List.length_eq_zero_iff.1 h4;subst this;exact⟨by simp,by omega⟩
 rw[if_neg k2]at h;by_cases k34:k=3∨k=4
 ·rw[if_pos k34]at h;simp only[Bool.and_eq_true,decide_eq_true_eq]at h;obtain⟨_,_,_,h4,h5⟩:=h;have:sl=[]:=List.length_eq_zero_iff.1 h4;subst this;exact⟨by simp,by omega⟩
 ·rw[if_neg k34]at h;cases h
theorem rG:∀(t:PT)(l c:Nat),(t.walk l c).2=true→TG t
 |.nil,_,_,_=>trivial
 |.cons k tg ky sl tx _ _ sub nx,l,c,h=>by
  simp only[PT.walk]at h;by_cases q:(PT.node k tg ky sl tx sub sub.walk l c).2=true
  ·rw[if_pos q]at h;have g:=rG nx _ _ h;unfold PT.node at q;by_cases x:6<l∨64<c+1∨cY k tg ky sl tx sub.len=false
   ·rw[if_pos x]at q;cases q
   ·rw[if_neg x]at q;have pb:cY k tg ky sl tx sub.len=true:=by
     cases e:cY k tg ky sl tx sub.len
     ·exact absurd (.inr (.inr e)) x
     ·rfl
    exact⟨(nR pb).1,(nR pb).2,rG sub _ _ q,g⟩
  ·rw[if_neg q]at h;exact absurd h q
theorem Bu{k:Nat}{tg ky tx:Str}{sl:List Slo}{sub:PT}(va vc:V)(h:PT.count k tg ky sl tx sub≠0):k=1∧TG (.cons k tg ky sl tx va vc sub .nil):=by
 unfold PT.count at h;split at h
 ·rename_i q;refine⟨q.1,rG (.cons k tg ky sl tx va vc sub .nil) 1 0 ?_⟩;simp only[PT.walk];rw[if_pos q.2]
 ·exact absurd rfl h
theorem NT.sh_one{s:NT}{k:Nat}{tg ky tx:Str}{a:List (Str×Str)}{sub:ST}(e:s.sh=.cons k tg ky a tx sub .nil):∃va vc s',s=.cons k tg ky a tx va vc s' .nil∧s'.sh=sub:=by
 cases s with
 |nil=>cases e
 |cons k' tg' ky' a' tx' va vc s' nx=>
  simp only[NT.sh]at e;cases nx with
  |nil=>cases e;exact⟨va,vc,s',rfl,rfl⟩
  |cons _ _ _ _ _ _ _ _ _=>cases e
def fL(k:Nat)(tg ky:Str)(sl:List Slo)(tx:Str)(sub:PT)(x:Itm)(most:Int):Int:=
 if most<1∨64<most then 1
 else if PT.count k tg ky sl tx sub=0 then 14
 else if gL x=false then 6
 else if ST.count 1 tg ky (sl.map (att x)) [] (cG x sub)=0∨most<(ST.count 1 tg ky (sl.map (att x)) [] (cG x sub):Nat)then 14
 else 0
abbrev Z6:List V:=[.int .u8 0,.str [],.str [],.nils,.str [],.nils]
theorem yu{h:Heap}{k:Nat}{tg ky tx:Str}{sl:List Slo}{vs vp:V}{sub:PT}{x:Itm}{most:Int}(w:WF h)(n:PH h (.cons k tg ky sl tx vs vp sub .nil))(a:ItmH h x):
 ao go 141 [.agg [.int .u8 (k:Int),.str tg,.str ky,vs,.str tx,vp],.agg x.cells,.int .i64 most] h fun u h'=>∃cs,u=.tup [.agg cs,.int .i64 (fL k tg ky sl tx sub x most)]∧Fr [] h h'∧
  (fL k tg ky sl tx sub x most≠0→cs=Z6)∧(fL k tg ky sl tx sub x most=0→∃(s:NT)(va vc:V),cs=[.int .u8 1,.str tg,.str ky,va,.str [],vc]∧NH h' (.cons 1 tg ky (sl.map (att x)) [] va vc s .nil)∧s.sh=cG x sub):=by
 obtain⟨h1,e_h1⟩:∃h1,h1=halloc h [.int .u8 (k:Int),.str tg,.str ky,vs,.str tx,vp]:=⟨_,rfl⟩;have F_h1:Fr [] h h1:=e_h1▸Fr.halloc w _;have o_h1:Own h1 h.next [.int .u8 (k:Int),.str tg,.str ky,vs,.str tx,vp]:=e_h1▸Own.new w _;obtain⟨h2,e_h2⟩:∃h2,h2=halloc h1 x.cells:=⟨_,rfl⟩;have F_h2:Fr [] h1 h2:=e_h2▸Fr.halloc F_h1.wf _;have o_h2:Own h2 h1.next x.cells:=e_h2▸Own.new F_h1.wf _;obtain⟨h3,e_h3⟩:∃h3,h3=halloc h2 [.int .u8 0,.str [],.str [],.nils,.str [],.nils]:=⟨_,rfl⟩;have F_h3:Fr [] h2 h3:=e_h3▸Fr.halloc F_h2.wf _;have o_h3:Own h3 h2.next [.int .u8 0,.str [],.str [],.nils,.str [],.nils]:=e_h3▸Own.new F_h2.wf _;have n1:h1.next=h.next+1:=by rw[e_h1];rfl
 have n2:h2.next=h1.next+1:=by rw[e_h2];rfl
 have F03:=(F_h1.then F_h2).then F_h3;have op:=F_h3.get (F_h2.get o_h1);have ox:=F_h3.get o_h2;have p6:=op.at6.2.2.2.2.2.2;have x4:au h3 h1.next 0 4=some x.cells:=by rw[ox.ld];rfl
 have bad:∀{h4 h5:Heap}{e:Int}{c0:List V},fL k tg ky sl tx sub x most=e→e≠0→Fr [] h h4→Own h4 h2.next c0→Fr [h2.next] h4 h5→∃cs,V.tup [.agg Z6,.int .i64 e]=.tup [.agg cs,.int .i64 (fL k tg ky sl tx sub x most)]∧Fr [] h h5∧
  (fL k tg ky sl tx sub x most≠0→cs=Z6)∧(fL k tg ky sl tx sub x most=0→∃(s:NT)(va vc:V),cs=[.int .u8 1,.str tg,.str ky,va,.str [],vc]∧NH h5 (.cons 1 tg ky (sl.map (att x)) [] va vc s .nil)∧s.sh=cG x sub):=by
  intro h4 h5 e c0 q ne f _ f2;subst q;exact⟨Z6,rfl,f.fresh f2 w (by omega),fun _=>rfl,fun q=>absurd q ne⟩
 by_cases m1:most<1
 ·refine ag g141 rfl ?_;simp only[fn141,evs,↓reduceIte,Nat.reduceEqDiff,Nat.reduceAdd,←e_h1,←e_h2,←e_h3,m1];refine ah (c':=Z6) F_h3.wf o_h3 rfl rfl rfl ?_;rintro h4 o4 F4 n4;simp only[evs,↓reduceIte,Nat.reduceEqDiff,o4.at6.2.2.2.2.2.2];exact bad (if_pos (.inl m1)) (by omega) F03 o_h3 F4
 by_cases m2:(64:Int)<most
 ·refine ag g141 rfl ?_;simp only[fn141,evs,↓reduceIte,Nat.reduceEqDiff,Nat.reduceAdd,←e_h1,←e_h2,←e_h3,m1,m2];refine ah (c':=Z6) F_h3.wf o_h3 rfl rfl rfl ?_;rintro h4 o4 F4 n4;simp only[evs,↓reduceIte,Nat.reduceEqDiff,o4.at6.2.2.2.2.2.2];exact bad (if_pos (.inr m2)) (by omega) F03 o_h3 F4
 have r1:fL k tg ky sl tx sub x most=if PT.count k tg ky sl tx sub=0 then 14 else if gL x=false then 6 else if ST.count 1 tg ky (sl.map (att x)) [] (cG x sub)=0∨most<(ST.count 1 tg ky (sl.map (att x)) [] (cG x sub):Nat)then 14 else 0:=if_neg (by omega);refine ag g141 rfl ?_;simp only[fn141,evs,↓reduceIte,Nat.reduceEqDiff,Nat.reduceAdd,←e_h1,←e_h2,←e_h3,m1,m2,p6];refine aa (pV F_h3.wf (n.fr F03)) ?_;rintro _ h4 ⟨rfl,F4⟩;have F04:=F03.then F4;have oz4:=F4.get o_h3;have x4':au h4 h1.next 0 4=some x.cells:=by rw[(F4.get ox).ld];rfl
 have p6':=(F4.get op).at6.2.2.2.2.2.2;by_cases c0:PT.count k tg ky sl tx sub=0
 ·rw[if_pos c0];simp only[evs,↓reduceIte,Nat.reduceEqDiff];refine ah (c':=Z6) F4.wf oz4 rfl rfl rfl ?_;rintro h5 o5 F5 n5;simp only[evs,↓reduceIte,Nat.reduceEqDiff,o5.at6.2.2.2.2.2.2];exact bad (r1.trans (if_pos c0)) (by omega) F04 oz4 F5
 rw[if_neg c0];rw[if_neg c0]at r1;simp only[evs,↓reduceIte,Nat.reduceEqDiff,x4'];refine aa (sN F4.wf (a.fr F04)) ?_;rintro _ h5 ⟨rfl,F5⟩;have F05:=F04.then F5;have oz5:=F5.get oz4;have x5:au h5 h1.next 0 4=some x.cells:=by rw[(F5.get (F4.get ox)).ld];rfl
 have p5:=(F5.get (F4.get op)).at6.2.2.2.2.2.2;cases c1:gL x
 ·rw[c1]at r1;simp only[evs,↓reduceIte,Nat.reduceEqDiff];refine ah (c':=Z6) F5.wf oz5 rfl rfl rfl ?_;rintro h6 o6 F6 n6;simp only[evs,↓reduceIte,Nat.reduceEqDiff,o6.at6.2.2.2.2.2.2];exact bad r1 (by omega) F05 oz5 F6
 rw[c1,if_neg (by simp)]at r1;obtain⟨k1,tgd⟩:=Bu vs vp c0;have hm:x.marks.length≤8:=by
  simp only[gL,okM,Bool.and_eq_true,decide_eq_true_eq]at c1;exact c1.2.2.1
 have em:cG x (.cons k tg ky sl tx vs vp sub .nil)=.cons 1 tg ky (sl.map (att x)) [] (cG x sub) .nil:=by subst k1;rfl
 have bld:aP (.build [.int .u64 0,.int .u8 0,.str [],.nils] [(0,4)]) [.agg x.cells]=some (.agg x.cells):=rfl;have n5:=n.fr F05;obtain⟨h6,e_h6⟩:∃h6,h6=halloc h5 [.int .u8 (k:Int),.str tg,.str ky,vs,.str tx,vp]:=⟨_,rfl⟩;have F_h6:Fr [] h5 h6:=e_h6▸Fr.halloc F5.wf _;have o_h6:Own h6 h5.next [.int .u8 (k:Int),.str tg,.str ky,vs,.str tx,vp]:=e_h6▸Own.new F5.wf _;have n6:h6.next=h5.next+1:=by rw[e_h6];rfl
 simp only[evs,↓reduceIte,Nat.reduceEqDiff,Nat.reduceAdd,Nat.reduceLT,x5,p5,bld,←e_h6];have F06:=F05.then F_h6;refine aa (wO (mks _) x h6 _ F_h6.wf (a.fr F06) hm (n.fr F06) tgd (by simp[PT.len]) (Sl.lit o_h6 rfl)) ?_;rintro u h7 ⟨s,es,F7,uE,_,st⟩;rw[em]at es;obtain⟨va,vc,s',rfl,es'⟩:=NT.sh_one es;have st0:=st [] h7 (by simp) (Fr.refl F7.wf);have F07:=F06.then F7;obtain⟨b,o,i1,i2⟩:=st0.2.ix6 (i:=0) (by simp[NT.len]) (x0:=.int .u8 ((1:Nat):Int)) (x1:=.str tg) (x2:=.str ky) (x3:=va) (x4:=.str []) (x5:=vc) (r:=[]) rfl;have i1':aP (.ixs 6) [u,.int .i64 0]=some (.ptr b o):=i1;have on:=NH.ones st0.1;have oz7:=F7.get (F_h6.get oz5);obtain⟨h8,e_h8⟩:∃h8,h8=halloc h7 [.int .u8 0,.str [],.str [],.nils,.str [],.nils]:=⟨_,rfl⟩;have F_h8:Fr [] h7 h8:=e_h8▸Fr.halloc F7.wf _;have o_h8:Own h8 h7.next [.int .u8 0,.str [],.str [],.nils,.str [],.nils]:=e_h8▸Own.new F7.wf _;simp only[evs,↓reduceIte,i1',i2.2.2.2.2.2.2,←e_h8];refine ah (c':=[.int .u8 ((1:Nat):Int),.str tg,.str ky,va,.str [],vc]) F_h8.wf o_h8 rfl (by exact on) rfl ?_;rintro h9 o9 F9 n9;have F79:Fr [] h7 h9:=F_h8.fresh F9 F7.wf (Nat.le_refl _);have N9:=NH.fr F79 st0.1;simp only[evs,↓reduceIte,o9.at6.2.2.2.2.2.2];refine aa (lJ F9.wf N9) ?_;rintro _ h10 ⟨rfl,F10⟩;have oz10:=F10.get (F79.get oz7);have F010:=(F07.then F79).then F10;have ec:ST.count 1 tg ky (sl.map (att x)) [] (cG x sub)=NT.count 1 tg ky (sl.map (att x)) [] s':=by rw[←es',NT.sh_count]
 rw[ec]at r1;by_cases z:NT.count 1 tg ky (sl.map (att x)) [] s'=0
 ·simp only[evs,↓reduceIte,Nat.reduceEqDiff,show((NT.count 1 tg ky (sl.map (att x)) [] s':Nat):Int)=0 by omega];refine ah (c':=Z6) F10.wf oz10 rfl rfl rfl ?_;rintro h11 o11 F11 n11;simp only[evs,↓reduceIte,Nat.reduceEqDiff,o11.at6.2.2.2.2.2.2];exact bad (r1.trans (if_pos (.inl z))) (by omega) F010 oz10 F11
 by_cases z2:most<((NT.count 1 tg ky (sl.map (att x)) [] s':Nat):Int)
 ·simp only[evs,↓reduceIte,Nat.reduceEqDiff,eq_false (show¬((NT.count 1 tg ky (sl.map (att x)) [] s':Nat):Int)=0 by omega),z2];refine ah (c':=Z6) F10.wf oz10 rfl rfl rfl ?_;rintro h11 o11 F11 n11;simp only[evs,↓reduceIte,Nat.reduceEqDiff,o11.at6.2.2.2.2.2.2];exact bad (r1.trans (if_pos (.inr z2))) (by omega) F010 oz10 F11
 ·have r2:=r1.trans (if_neg (by omega));have l10:=(F10.get o9).at6.2.2.2.2.2.2;simp only[evs,↓reduceIte,Nat.reduceEqDiff,eq_false (show¬((NT.count 1 tg ky (sl.map (att x)) [] s':Nat):Int)=0 by omega),z2,l10];refine ah (c':=[.int .u8 ((1:Nat):Int),.str tg,.str ky,va,.str [],vc]) F10.wf oz10 rfl (by exact on) rfl ?_;rintro h11 o11 F11 n11;simp only[evs,↓reduceIte,Nat.reduceEqDiff,o11.at6.2.2.2.2.2.2];rw[r2];refine⟨_,rfl,F010.fresh F11 w (by omega),fun q=>absurd rfl q,fun _=>⟨s',va,vc,rfl,?_,es'⟩⟩;have h7n:=F7.next;exact(st [h2.next] h11 (by simp;have:=F5.next;have:=F4.next;have:=F_h3.next;have:=(show h3.next=h2.next+1 by rw[e_h3];rfl);omega) (Fr.trans (F79.then F10) F11 F7.wf (by simp) (fun y hy=>.inl hy))).1
def Gn(e:Nat)(h:Heap)(B:Nat)(v:V)(n:Nat)(cs:List V):Prop:=cs.length=n*e∧((n=0∧(v=.nils∨∃b,B≤b∧v=.slice b 0 0 0∧Own h b []))∨∃b,B≤b∧v=.sliceU b 0 n e∧Own h b cs)
theorem Gn.sl{e:Nat}{h:Heap}{B n:Nat}{v:V}{cs:List V}(g:Gn e h B v n cs):Sl h e v n cs:=by
 obtain⟨hl,⟨rfl,rfl|⟨b,_,rfl,o⟩⟩|⟨b,_,rfl,o⟩⟩:=g
 ·exact⟨hl,rfl⟩
 ·have:cs=[]:=List.length_eq_zero_iff.1 (by omega);subst this;exact⟨hl,rfl,Nat.le_refl _,[],o,by simp,by simp⟩
 ·exact⟨hl,rfl,rfl,cs,o,by omega,by rw[List.drop_zero,List.take_of_length_le (by omega)]⟩
theorem Gn.fr{e:Nat}{h h':Heap}{B n:Nat}{v:V}{cs:List V}{X:List Nat}(g:Gn e h B v n cs)(f:Fr X h h')(hx:∀x∈X,x<B):Gn e h' B v n cs:=by
 obtain⟨hl,⟨rfl,rfl|⟨b,hb,rfl,o⟩⟩|⟨b,hb,rfl,o⟩⟩:=g
 ·exact⟨hl,.inl ⟨rfl,.inl rfl⟩⟩
 ·exact⟨hl,.inl ⟨rfl,.inr ⟨b,hb,rfl,f.own _ _ (fun m=>by have:=hx _ m;omega) o⟩⟩⟩
 ·exact⟨hl,.inr ⟨b,hb,rfl,f.own _ _ (fun m=>by have:=hx _ m;omega) o⟩⟩
theorem Gn.one{e:Nat}{h:Heap}{B n:Nat}{v:V}{cs:List V}(g:Gn e h B v n cs):v.one=true:=g.sl.one
theorem Gn.nE{e:Nat}{h:Heap}{B n:Nat}{v:V}{cs:List V}(g:Gn e h B v n cs):v≠.sliceE:=by
 obtain⟨_,⟨_,rfl|⟨b,_,rfl,_⟩⟩|⟨b,_,rfl,_⟩⟩:=g<;>simp
def nZ:V→Bool
 |.sliceZ _ _=>false
 |_=>true
theorem _root_.Go.Ev.ASl.src{h:Heap}{e:Nat}{v:V}{n:Nat}{cs:List V}(a:ASl h e v n cs)(z:nZ v=true):srcLen v=some n∧srcCells h e v n=some cs∧(v≠.nils→aP (.nil 1 false) [v,.nils]=some (.bool false)):=by
 obtain⟨hl,a⟩:=a;cases v with
 |slice b o len cap=>
  obtain⟨rfl,_,c,hc,h2,q⟩:=a;exact⟨rfl,by simp only[Ev.srcCells,hc.ld,bq,bC _ _ (show len*e≤(c.drop o).length by simp;omega),q],fun _=>rfl⟩
 |sliceU b o len e'=>
  obtain⟨rfl,rfl,c,hc,h2,q⟩:=a;exact⟨rfl,by simp only[Ev.srcCells,hc.ld,bq,bC _ _ (show len*e'≤(c.drop o).length by simp;omega),q],fun _=>rfl⟩
 |nils=>have a:n=0:=a;subst a;simp at hl;subst hl;exact⟨rfl,rfl,fun q=>absurd rfl q⟩
 |sliceE=>have a:n=0:=a;subst a;simp at hl;subst hl;exact⟨rfl,rfl,fun _=>rfl⟩
 |sliceZ _ _=>cases z
 |_=>exact a.elim
theorem gV{h:Heap}{e bytes n:Nat}{x:V}{xs:List V}(w:WF h)(a:ASl h e x n xs)(z:nZ x=true)(he:0<e)(hsz:(2*n+1024) *bytes≤281474976710656){K:V→Heap→Prop}
 (k:∀v' h',Gn e h' h.next v' n xs→Fr [] h h'→K v' h'):OQ (jv (halloc h []) e bytes (.slice h.next 0 0 0) x) K:=by
 have F1:=Fr.halloc w ([]:List V);have o1:=Own.new w ([]:List V);obtain⟨s1,s2,_⟩:=(a.fr F1).src z;have hl:=a.1;unfold jv;rw[s1];simp only[];by_cases c:n=0
 ·subst c;rw[gW rfl,cond_true];exact(cC _ _ _).2 (k _ _ ⟨hl,.inl ⟨rfl,.inr ⟨h.next,Nat.le_refl _,rfl,o1⟩⟩⟩ F1)
 ·rw[ew c,cond_false,s2];simp only[];rw[wi (by omega),cond_false,Nat.zero_mul,o1.ld];have:cQ 0 (eO ([]:List V) 0)=some []:=rfl;rw[this];simp only[py,Nat.zero_add,List.nil_append];rw[(Nat.ble_eq ..).mpr hsz,cond_true];refine(cC _ _ _).2 (k _ _ ⟨hl,.inr ⟨(halloc h []).next,F1.next,rfl,Own.new F1.wf xs⟩⟩ (F1.then (Fr.halloc F1.wf xs)))
theorem ze{h:Heap}{n:Nat}{x:V}{xs:List V}(w:WF h)(a:ASl h 1 x n xs)(z:nZ x=true)(hn:n≤100000):ao go 140 [x] h fun u h'=>Gn 1 h' h.next u n xs∧Fr [] h h':=by
 by_cases c:x=.nils
 ·subst c;have:n=0:=a.2;subst this;have q:aP (.nil 1 false) [.nils,.nils]=some (.bool true):=rfl;refine ag g140 rfl ?_;simp only[fn140,evs,↓reduceIte,Nat.reduceEqDiff,q];exact⟨⟨a.1,.inl ⟨rfl,.inl rfl⟩⟩,Fr.refl w⟩
 ·refine ag g140 rfl ?_;simp only[fn140,evs,↓reduceIte,Nat.reduceEqDiff,(a.src z).2.2 c];refine gV (bytes:=16) w a z (by omega) (by omega) ?_;intro v' h' g f;simp only[evs,↓reduceIte];exact⟨g,f⟩
theorem uO{h:Heap}{n:Nat}{x:V}{xs:List V}(w:WF h)(a:ASl h 3 x n xs)(z:nZ x=true)(hn:n≤100000):ao go 92 [x] h fun u h'=>Gn 3 h' h.next u n xs∧Fr [] h h':=by
 by_cases c:x=.nils
 ·subst c;have:n=0:=a.2;subst this;have q:aP (.nil 1 false) [.nils,.nils]=some (.bool true):=rfl;refine ag g92 rfl ?_;simp only[fn92,evs,↓reduceIte,Nat.reduceEqDiff,q];exact⟨⟨a.1,.inl ⟨rfl,.inl rfl⟩⟩,Fr.refl w⟩
 ·refine ag g92 rfl ?_;simp only[fn92,evs,↓reduceIte,Nat.reduceEqDiff,(a.src z).2.2 c];refine gV (bytes:=40) w a z (by omega) (by omega) ?_;intro v' h' g f;simp only[evs,↓reduceIte];exact⟨g,f⟩
theorem sE{h:Heap}{n:Nat}{x:V}{xs:List V}(w:WF h)(a:ASl h 6 x n xs)(z:nZ x=true)(hn:n≤100000):ao go 93 [x] h fun u h'=>Gn 6 h' h.next u n xs∧Fr [] h h':=by
 by_cases c:x=.nils
 ·subst c;have:n=0:=a.2;subst this;have q:aP (.nil 1 false) [.nils,.nils]=some (.bool true):=rfl;refine ag g93 rfl ?_;simp only[fn93,evs,↓reduceIte,Nat.reduceEqDiff,q];exact⟨⟨a.1,.inl ⟨rfl,.inl rfl⟩⟩,Fr.refl w⟩
 ·refine ag g93 rfl ?_;simp only[fn93,evs,↓reduceIte,Nat.reduceEqDiff,(a.src z).2.2 c];refine gV (bytes:=104) w a z (by omega) (by omega) ?_;intro v' h' g f;simp only[evs,↓reduceIte];exact⟨g,f⟩
theorem sF{h:Heap}{n:Nat}{x:V}{xs:List V}(w:WF h)(a:ASl h 9 x n xs)(z:nZ x=true)(hn:n≤100000):ao go 40 [x] h fun u h'=>Gn 9 h' h.next u n xs∧Fr [] h h':=by
 by_cases c:x=.nils
 ·subst c;have:n=0:=a.2;subst this;have q:aP (.nil 1 false) [.nils,.nils]=some (.bool true):=rfl;refine ag g40 rfl ?_;simp only[fn40,evs,↓reduceIte,Nat.reduceEqDiff,q];exact⟨⟨a.1,.inl ⟨rfl,.inl rfl⟩⟩,Fr.refl w⟩
 ·refine ag g40 rfl ?_;simp only[fn40,evs,↓reduceIte,Nat.reduceEqDiff,(a.src z).2.2 c];refine gV (bytes:=128) w a z (by omega) (by omega) ?_;intro v' h' g f;simp only[evs,↓reduceIte];exact⟨g,f⟩
theorem Bw{h:Heap}{v:V}{n:Nat}{cs:List V}(a:Sl h 1 v n cs)(hv:v≠.sliceE):ao go 139 [v] h fun u h'=>(∀h2,Sl h2 1 v n cs→Sl h2 1 u n cs)∧u≠.sliceE∧h=h':=by
 obtain⟨u,e,s,ne⟩:=kL (by omega) a hv;refine ag g139 rfl ?_;simp only[fn139,evs,↓reduceIte,Nat.reduceEqDiff,a.len,e];refine⟨fun h2 a2=>?_,ne⟩;obtain⟨u2,e2,s2,_⟩:=kL (by omega) a2 hv;rw[e]at e2;cases e2;exact s2
def Itm.own(x:Itm)(v:V):Itm:=⟨x.key,x.type,x.text,x.marks,v⟩
theorem qK{h:Heap}{x:Itm}(w:WF h)(a:ItmH h x)(z:nZ x.vm=true):ao go 71 [.agg x.cells] h fun u h'=>∃v,u=.agg (x.own v).cells∧Fr [] h h'∧v≠.sliceE∧v.one=true∧
 ∀(X:List Nat)(h2:Heap),(∀y∈X,y<h.next)→Fr X h' h2→Recs sS 1 h2 v x.marks:=by
 obtain⟨h1,e_h1⟩:∃h1,h1=halloc h x.cells:=⟨_,rfl⟩;have F_h1:Fr [] h h1:=e_h1▸Fr.halloc w _;have o_h1:Own h1 h.next x.cells:=e_h1▸Own.new w _;obtain⟨h2,e_h2⟩:∃h2,h2=halloc h1 [.int .u64 0,.int .u8 0,.str [],.nils]:=⟨_,rfl⟩;have F_h2:Fr [] h1 h2:=e_h2▸Fr.halloc F_h1.wf _;have o_h2:Own h2 h1.next [.int .u64 0,.int .u8 0,.str [],.nils]:=e_h2▸Own.new F_h1.wf _;have n1:h1.next=h.next+1:=by rw[e_h1];rfl
 have F02:=F_h1.then F_h2;have ob:=F_h2.get o_h1;have l3:ab h2 h.next 3=some x.vm:=ob.ld1 3;refine ag g71 rfl ?_;simp only[fn71,evs,↓reduceIte,Nat.reduceEqDiff,←e_h1,←e_h2,l3];refine aa (ze F_h2.wf (a.m.fr F02) z (by have:=a.n;omega)) ?_;rintro v1 h3 ⟨g,F3⟩;simp only[evs];refine aa (Bw g.sl g.nE) ?_;rintro v2 _ ⟨cl,hnE,rfl⟩;have s2:=cl h3 g.sl;simp only[evs,↓reduceIte,Nat.reduceEqDiff];refine ah (c':=(x.own v2).cells) F3.wf (F3.get ob) (by simp[aB s2.one]) (by rw[aB s2.one];simp only[aD,aJ,s2.one];rfl) (by rw[aB s2.one];rfl) ?_;rintro h4 o4 F4 n4;have l4:au h4 h.next 0 4=some (x.own v2).cells:=by rw[o4.ld];rfl
 have oz4:=F4.own _ _ (by simp;omega) (F3.get o_h2);simp only[evs,↓reduceIte,Nat.reduceEqDiff,l4];refine ah (c':=(x.own v2).cells) F4.wf oz4 rfl (by show aq [.int .u64 (x.key:Int),.int .u8 (x.type:Int),.str x.text,v2]=true;simp only[aD,aJ,s2.one];rfl) rfl ?_;rintro h5 o5 F5 n5;have l5:au h5 h1.next 0 4=some (x.own v2).cells:=by rw[o5.ld];rfl
 simp only[evs,↓reduceIte,l5];have F04:Fr [] h h4:=(F02.then F3).fresh F4 w (Nat.le_refl _);refine⟨v2,rfl,F04.fresh F5 w (by omega),hnE,s2.one,fun X h6 hX f=>cl h6 ?_⟩;have n2:h2.next=h1.next+1:=by rw[e_h2];rfl
 have f3:Fr ([h.next,h1.next]++X) h3 h6:=Fr.trans (Fr.trans (T:=[h.next,h1.next]) F4 F5 F3.wf (by simp) (by simp)) f F3.wf (fun y hy=>.inl (by simp at hy⊢;omega)) (fun y hy=>.inl (by simp[hy]));exact(g.fr f3 (by
  intro y hy;simp at hy;rcases hy with rfl|rfl|hy
  ·omega
  ·omega
  ·have:=hX y hy;omega)).sl
structure Knd where
 k:Nat
 tg:Str
 ky:Str
 sl:List Slo
 tx:Str
 vs:V
 vp:V
 sub:PT
 base:Int
 sticky:Bool
 pool:Int
def Knd.part(q:Knd):List V:=[.int .u8 (q.k:Int),.str q.tg,.str q.ky,q.vs,.str q.tx,q.vp]
def Knd.cells(q:Knd):List V:=q.part++[.int .i64 q.base,.bool q.sticky,.int .i64 q.pool]
theorem e8(q:Knd):q.cells.length=9:=rfl
def KndH(h:Heap)(q:Knd):Prop:=PH h (.cons q.k q.tg q.ky q.sl q.tx q.vs q.vp q.sub .nil)
theorem KndH.fr{h h':Heap}{q:Knd}(a:KndH h q)(f:Fr [] h h'):KndH h' q:=PH.fr f a
theorem KndH.ones{h:Heap}{q:Knd}(a:KndH h q):aq q.part=true:=PH.ones a
theorem KndH.ones9{h:Heap}{q:Knd}(a:KndH h q):aq q.cells=true:=by
 show aq (q.part++_)=true;rw[aL,a.ones];rfl
def okB(b:Int):Bool:=decide (1≤b)&&decide (b≤2305843009213693952)
def okK(q:Knd):Bool:=okB q.base&&decide (PT.count q.k q.tg q.ky q.sl q.tx q.sub≠0)
theorem yR{h:Heap}(n:Int):ao go 88 [.int .i64 n] h fun u h'=>u=.bool (okB n)∧h=h':=by
 by_cases c:1≤n
 ·refine ag g88 rfl ?_;simp only[fn88,evs,↓reduceIte,Nat.reduceEqDiff,c];simp[okB,c]
 ·refine ag g88 rfl ?_;simp only[fn88,evs,↓reduceIte,Nat.reduceEqDiff,c];simp[okB,c]
theorem DM{h:Heap}{q:Knd}(w:WF h)(a:KndH h q):ao go 87 [.agg q.cells] h fun u h'=>u=.bool (!okK q)∧Fr [] h h':=by
 obtain⟨h1,e_h1⟩:∃h1,h1=halloc h q.cells:=⟨_,rfl⟩;have F_h1:Fr [] h h1:=e_h1▸Fr.halloc w _;have o_h1:Own h1 h.next q.cells:=e_h1▸Own.new w _;have l6:ab h1 h.next 6=some (.int .i64 q.base):=o_h1.ld1 6;have l0:au h1 h.next 0 6=some q.part:=by rw[o_h1.ld];rfl
 refine ag g87 rfl ?_;simp only[fn87,evs,↓reduceIte,Nat.reduceEqDiff,←e_h1,l6];refine aa (yR _) ?_;rintro _ _ ⟨rfl,rfl⟩;cases c:okB q.base
 ·simp only[evs,↓reduceIte];exact⟨by simp[okK,c],F_h1⟩
 ·simp only[evs,↓reduceIte,Nat.reduceEqDiff,l0];refine aa (pV (va:=q.vs) (vc:=q.vp) F_h1.wf (a.fr F_h1)) ?_;rintro _ h2 ⟨rfl,F2⟩;by_cases z:PT.count q.k q.tg q.ky q.sl q.tx q.sub=0
  ·rw[if_pos z];simp only[evs,↓reduceIte];exact⟨by simp[okK,z],F_h1.then F2⟩
  ·rw[if_neg z];simp only[evs,↓reduceIte];exact⟨by simp[okK,c,z],F_h1.then F2⟩
theorem vR{h:Heap}{v:V}{L:List Knd}(w:WF h)(a:Recs Knd.cells 9 h v L)(hL:∀q∈L,KndH h q)(hn:L.length≤4096):
 ao go 164 [v,.func (.func 87) [] []] h fun u h'=>∃r:Int,u=.int .i64 r∧(decide (0≤r)= !L.all okK)∧Fr [] h h':=by
 refine ag g164 rfl ?_;simp only[fn164,evs,↓reduceIte,Nat.reduceEqDiff,Nat.reduceAdd,Int.reduceNeg,Recs.len a];refine aE (fun k env hh=>Fr [] h hh∧∃(i:Nat),env.get 8=some (.int .i64 i)∧env.get 7=some (.int .i64 L.length)∧env.get 0=some v∧env.get 1=some (.func (.func 87) [] [])∧
  i≤L.length∧(L.drop i).all okK=L.all okK∧k=L.length-i) L.length (by omega) ?_ ?_
 ·exact⟨Fr.refl w,0,(by simp[T.get_set]),(by simp[T.get_set]),(by simp[T.get_set]),(by simp[T.get_set]),by omega,rfl,rfl⟩
 ·rintro k env hh ⟨F,i,g8,g7,g0,g1,hi,e,rfl⟩;by_cases hlt:i<L.length
  ·have hlt':(i:Int)<L.length:=by omega
   obtain⟨b,o,s,e1,_,e3,e5⟩:=(Recs.fr a F).ix e8 .i64 i (by omega) hlt';rw[Int.toNat_natCast]at e5;rw[aK e5,List.all_cons]at e;have hs:=hL s (List.mem_of_getElem? e5);simp only[evs,↓reduceIte,Nat.reduceEqDiff,Nat.reduceLT,Int.reduceNeg,g8,g7,g0,g1,hlt',e1,e3];refine aa (DM F.wf (hs.fr F)) ?_;rintro _ h1 ⟨rfl,F1⟩;cases c:okK s
   ·simp only[evs,↓reduceIte,Nat.reduceEqDiff,Int.reduceNeg];rw[c]at e;exact⟨i,rfl,by rw[←e];simp,F.then F1⟩
   ·simp(disch:=omega) only[evs,↓reduceIte,Nat.reduceEqDiff,Int.reduceNeg,ai,g8];rw[c]at e;refine(aj _ _ _).2 ⟨L.length-(i+1),by omega,F.then F1,i+1,(by simp[T.get_set]),(by simp[T.get_set,g7]),(by simp[T.get_set,g0]),(by simp[T.get_set,g1]),by omega,by simpa using e,rfl⟩
    done
  ·simp only[evs,↓reduceIte,Int.reduceNeg,g8,g7,show¬(i:Int)<L.length by omega];rw[List.drop_of_length_le (by omega)]at e;exact⟨-1,rfl,by rw[←e];rfl,F⟩
def okR(L:List Knd)(cap:Int):Bool:=decide (1≤L.length)&&(decide (L.length≤8)&&(decide (1≤cap)&&(decide (cap≤64)&&L.all okK)))
theorem zV{h:Heap}{v:V}{L:List Knd}{cap:Int}(w:WF h)(a:Recs Knd.cells 9 h v L)(hL:∀q∈L,KndH h q)(hn:L.length≤4096):
 ao go 38 [.agg [v,.int .i64 cap]] h fun u h'=>u=.int .i64 (if okR L cap then 0 else 7)∧Fr [] h h':=by
 obtain⟨h1,e_h1⟩:∃h1,h1=halloc h [v,.int .i64 cap]:=⟨_,rfl⟩;have F_h1:Fr [] h h1:=e_h1▸Fr.halloc w _;have o_h1:Own h1 h.next [v,.int .i64 cap]:=e_h1▸Own.new w _;have l0:ab h1 h.next 0=some v:=o_h1.ld1 0;have l1:ab h1 h.next 1=some (.int .i64 cap):=o_h1.ld1 1;have len:=Recs.len a;by_cases c0:L.length<1
 ·refine ag g38 rfl ?_;simp only[fn38,evs,↓reduceIte,Nat.reduceEqDiff,←e_h1,l0,len,show(L.length:Int)<1 by omega];exact⟨by simp[okR];omega,F_h1⟩
 by_cases c1:8<L.length
 ·refine ag g38 rfl ?_;simp only[fn38,evs,↓reduceIte,Nat.reduceEqDiff,←e_h1,l0,len,show¬(L.length:Int)<1 by omega,show(8:Int)<L.length by omega];exact⟨by simp[okR];omega,F_h1⟩
 by_cases c2:cap<1
 ·refine ag g38 rfl ?_;simp only[fn38,evs,↓reduceIte,Nat.reduceEqDiff,←e_h1,l0,l1,len,show¬(L.length:Int)<1 by omega,show¬(8:Int)<L.length by omega,c2];exact⟨by simp[okR];omega,F_h1⟩
 by_cases c3:64<cap
 ·refine ag g38 rfl ?_;simp only[fn38,evs,↓reduceIte,Nat.reduceEqDiff,←e_h1,l0,l1,len,show¬(L.length:Int)<1 by omega,show¬(8:Int)<L.length by omega,c2,c3];exact⟨by simp[okR];omega,F_h1⟩
 refine ag g38 rfl ?_;simp only[fn38,evs,↓reduceIte,Nat.reduceEqDiff,←e_h1,l0,l1,len,show¬(L.length:Int)<1 by omega,show¬(8:Int)<L.length by omega,c2,c3];refine aa (?_:ao go 90 _ _ (fun u h'=>u=.bool (!L.all okK)∧Fr [] h1 h')) ?_
 ·refine ag g90 rfl ?_;simp only[fn90,evs,↓reduceIte,Nat.reduceEqDiff,Nat.reduceAdd];refine aa (vR F_h1.wf (Recs.fr a F_h1) (fun q m=>(hL q m).fr F_h1) hn) ?_;rintro _ h2 ⟨r,rfl,e,F2⟩;simp only[evs,↓reduceIte];exact⟨by rw[e],F2⟩
 ·rintro _ h2 ⟨rfl,F2⟩;have e:okR L cap=L.all okK:=by simp[okR,show 1≤L.length by omega,show L.length≤8 by omega,show 1≤cap by omega,show cap≤64 by omega]
  rw[e];cases c4:L.all okK
  ·simp only[evs,↓reduceIte];exact F_h1.then F2
  ·simp only[evs,↓reduceIte];exact F_h1.then F2
end Go.Ev.Lay
