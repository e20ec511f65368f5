/- An evaluator of the program, and contracts over it: StW to StaL. -/
import Derived.Test.YtcomlfdjmehhbaaGreatDoorP06
set_option linter.unusedSimpArgs false
set_option linter.unusedVariables false
set_option linter.constructorNameAsVariable false
set_option linter.unnecessarySimpa false
namespace Go.Ev.Lay
set_option maxRecDepth 4000
theorem pT(z:Str):NT.count 1 z [] [] [] .nil=if okN z then 1 else 0:=by
  have a:ep 1 z [] [] [] .nil=okN z:=by simp[ep,ce,dX,NT.keys,NT.len]
  have e:NT.node 1 z [] [] [] .nil NT.nil.walk 1 0=(1,okN z):=by
    unfold NT.node;rw[a];cases okN z<;>rfl
  unfold NT.count;rw[e]
theorem pS(z:Str):NT.count 2 [] [] [] z .nil=if okT z then 1 else 0:=by
  have a:ep 2 [] [] [] z .nil=okT z:=by simp[ep,NT.len]
  have e:NT.node 2 [] [] [] z .nil NT.nil.walk 1 0=(1,okT z):=by
    unfold NT.node;rw[a];cases okT z<;>rfl
  unfold NT.count;rw[e]
theorem qr{h:Heap}(k:Nat)(hk:k<256)(tg tx:Str):NH h (.cons k tg [] [] tx .nils .nils .nil .nil):=⟨hk,Recs.nil,by simp,⟨rfl,rfl⟩,by simp[NT.len],trivial,trivial⟩
theorem dA{h:Heap}{z:Str}(w:WF h):au go 363 [.str z] h fun u h'=>u=.bool (okN z)∧Fr [] h h':=by
  refine af ?_;simp(maxSteps:=1000000) (disch:=omega) only[evs,↓reduceIte,Nat.reduceEqDiff,Nat.reduceAdd,Nat.reduceMul,Nat.reduceLeDiff,Nat.reduceLT,Int.reduceNeg,DF,eff,Nat.reduceSub,aa];refine ae (gX (at':=[]) (sub:=.nil) w (qr 1 (by omega) z [])) ?_;rintro _ h1 ⟨rfl,F⟩;rw[pT];cases okN z
  ·simp(maxSteps:=1000000) (disch:=omega) only[evs,↓reduceIte,Nat.reduceEqDiff,Nat.reduceAdd,Nat.reduceMul,Nat.reduceLeDiff,Nat.reduceLT,Int.reduceNeg,DF,eff,Nat.reduceSub,aa];exact⟨rfl,F⟩
  ·simp(maxSteps:=1000000) (disch:=omega) only[evs,↓reduceIte,Nat.reduceEqDiff,Nat.reduceAdd,Nat.reduceMul,Nat.reduceLeDiff,Nat.reduceLT,Int.reduceNeg,DF,eff,Nat.reduceSub,aa];exact F
theorem kP{h:Heap}{z:Str}(w:WF h):au go 361 [.str z] h fun u h'=>u=.bool (okT z)∧Fr [] h h':=by
  refine af ?_;simp(maxSteps:=1000000) (disch:=omega) only[evs,↓reduceIte,Nat.reduceEqDiff,Nat.reduceAdd,Nat.reduceMul,Nat.reduceLeDiff,Nat.reduceLT,Int.reduceNeg,DF,eff,Nat.reduceSub,aa];refine ae (gX (at':=[]) (sub:=.nil) w (qr 2 (by omega) [] z)) ?_;rintro _ h1 ⟨rfl,F⟩;rw[pS];cases okT z
  ·simp(maxSteps:=1000000) (disch:=omega) only[evs,↓reduceIte,Nat.reduceEqDiff,Nat.reduceAdd,Nat.reduceMul,Nat.reduceLeDiff,Nat.reduceLT,Int.reduceNeg,DF,eff,Nat.reduceSub,aa];exact⟨rfl,F⟩
  ·simp(maxSteps:=1000000) (disch:=omega) only[evs,↓reduceIte,Nat.reduceEqDiff,Nat.reduceAdd,Nat.reduceMul,Nat.reduceLeDiff,Nat.reduceLT,Int.reduceNeg,DF,eff,Nat.reduceSub,aa];exact F
abbrev Slo:=Str×Nat×Str
def my(s:Slo):List V:=[.str s.1,.int .u8 (s.2.1:Int),.str s.2.2]
theorem gm(s:Slo):(my s).length=3:=rfl
def jq(p:Option Str)(s:Slo):Bool:=okN s.1&&(decide (s.2.1≤3)&&(okT s.2.2&&((decide (s.2.1=0)||s.2.2==[])&&cy p s.1)))
def dT:Option Str→List Slo→Bool
  |_,[]=>true
  |p,s::r=>jq p s&&dT (some s.1) r
theorem m9(p:Option Str)(s:Slo)(r:List Slo):dT p (s::r)=(jq p s&&dT (some s.1) r):=rfl
def dF(at':List Slo)(i:Nat):Option Str:=if i=0 then none else(at'[i-1]?).map (·.1)
theorem py{at':List Slo}{i:Nat}{a:Slo}(h:at'[i]? =some a):dF at' (i+1)=some a.1:=by simp[dF,h]
def cH(l:List Slo):Bool:=decide (l.length≤8)&&dT none l
theorem jo{h:Heap}{v:V}{l:List Slo}(w:WF h)(ra:ARecs my 3 h v l)(na:l.length≤70368744177664):au go 387 [v] h fun u h'=>u=.bool (cH l)∧Fr [] h h':=by
  by_cases c8:l.length≤8
  ·refine af ?_;simp(maxSteps:=1000000) (disch:=omega) only[evs,↓reduceIte,Nat.reduceEqDiff,Nat.reduceAdd,Nat.reduceMul,Nat.reduceLeDiff,Nat.reduceLT,Int.reduceNeg,DF,eff,Nat.reduceSub,aa,ra.len,show¬(8:Int)<(l.length:Nat) by omega];refine aQ (fun n env hh=>Fr [] h hh∧∃(i:Nat),env.get 10=some (.int .i64 i)∧env.get 9=some (.int .i64 l.length)∧env.get 8=some v∧env.get 0=some v∧
       i≤l.length∧dT (dF l i) (l.drop i)=dT none l∧n=l.length-i) l.length (by omega) ?_ ?_
   ·exact⟨Fr.refl w,0,(by simp[T.get_set]),(by simp[T.get_set]),(by simp[T.get_set]),(by simp[T.get_set]),by omega,rfl,rfl⟩
   ·rintro n env hh ⟨F,i,g103,g102,g101,g0,hi,e,rfl⟩;by_cases hlt:i<l.length
    ·have hlt':(i:Int)<l.length:=by omega
     obtain⟨b',o',a,p1,p2,p3,p4⟩:=(ra.fr F).ix gm .i64 (i:Int) (by omega) hlt';rw[Int.toNat_natCast]at p4;rw[bq p4,m9]at e;have en:=py p4;have bad:∀{h'},Fr [] h h'→jq (dF l i) a=false→V.bool false=.bool (cH l)∧Fr [] h h':=fun f c=>by
       rw[c]at e;exact⟨by simp[cH,←e],f⟩
     obtain⟨h1,e_h1⟩:∃h1,h1=halloc hh [.str [],.int .u8 0,.str []]:=⟨_,rfl⟩;have F_h1:Fr [] hh h1:=e_h1▸Fr.halloc F.wf _;have o_h1:Own h1 hh.next [.str [],.int .u8 0,.str []]:=e_h1▸Own.new F.wf _;simp(maxSteps:=1000000) (disch:=omega) only[evs,↓reduceIte,Nat.reduceEqDiff,Nat.reduceAdd,Nat.reduceMul,Nat.reduceLeDiff,Nat.reduceLT,Int.reduceNeg,DF,eff,Nat.reduceSub,aa,g103,g102,g101,g0,hlt',p1,p3,←e_h1];refine sts (c':=[.str a.1,.int .u8 (a.2.1:Int),.str a.2.2]) F_h1.wf o_h1 ?_;rintro h2 o2 F2 n2;have F02:Fr [] hh h2:=F_h1.fresh F2 F.wf (Nat.le_refl _);have q0:ab h2 hh.next 0=some (.str a.1):=o2.ld1 0;simp(maxSteps:=1000000) (disch:=omega) only[evs,↓reduceIte,Nat.reduceEqDiff,Nat.reduceAdd,Nat.reduceMul,Nat.reduceLeDiff,Nat.reduceLT,Int.reduceNeg,DF,eff,Nat.reduceSub,aa,g103,g102,g101,g0,q0];refine ae (dA F02.wf) ?_;rintro _ h3 ⟨rfl,F3⟩;have F03:=(F.then F02).then F3;have r1:ab h3 hh.next 1=some (.int .u8 (a.2.1:Int)):=(F3.get o2).ld1 1;have r2:ab h3 hh.next 2=some (.str a.2.2):=(F3.get o2).ld1 2;cases c1:okN a.1
     ·simp(maxSteps:=1000000) (disch:=omega) only[evs,↓reduceIte,Nat.reduceEqDiff,Nat.reduceAdd,Nat.reduceMul,Nat.reduceLeDiff,Nat.reduceLT,Int.reduceNeg,DF,eff,Nat.reduceSub,aa,c1,g103,g102,g101,g0,q0];exact bad F03 (by simp[jq,c1])
     by_cases c2:3<a.2.1
     ·simp(maxSteps:=1000000) (disch:=omega) only[evs,↓reduceIte,Nat.reduceEqDiff,Nat.reduceAdd,Nat.reduceMul,Nat.reduceLeDiff,Nat.reduceLT,Int.reduceNeg,DF,eff,Nat.reduceSub,aa,c1,g103,g102,g101,g0,q0,r1,show(3:Int)<(a.2.1:Nat) by omega];exact bad F03 (by simp[jq];omega)
     have c2':¬(3:Int)<(a.2.1:Nat):=by omega
     simp(maxSteps:=1000000) (disch:=omega) only[evs,↓reduceIte,Nat.reduceEqDiff,Nat.reduceAdd,Nat.reduceMul,Nat.reduceLeDiff,Nat.reduceLT,Int.reduceNeg,DF,eff,Nat.reduceSub,aa,c1,g103,g102,g101,g0,q0,r1,c2',r2];refine ae (kP F3.wf) ?_;rintro _ h4 ⟨rfl,F4⟩;have F04:=F03.then F4;have o4:=F4.get (F3.get o2);have s0:ab h4 hh.next 0=some (.str a.1):=o4.ld1 0;have s1:ab h4 hh.next 1=some (.int .u8 (a.2.1:Int)):=o4.ld1 1;have s2:ab h4 hh.next 2=some (.str a.2.2):=o4.ld1 2;cases c3:okT a.2.2
     ·simp(maxSteps:=1000000) (disch:=omega) only[evs,↓reduceIte,Nat.reduceEqDiff,Nat.reduceAdd,Nat.reduceMul,Nat.reduceLeDiff,Nat.reduceLT,Int.reduceNeg,DF,eff,Nat.reduceSub,aa,c3,g103,g102,g101,g0,q0,r1,r2,s1];exact bad F04 (by simp[jq,c3])
     have fin:(decide (a.2.1=0)||a.2.2==[])=true→cy (dF l i) a.1=true→dT (dF l (i+1)) (l.drop (i+1))=dT none l:=fun x y=>by
       have z:jq (dF l i) a=true:=by
         unfold jq;rw[c1,c3,x,y,show decide (a.2.1≤3)=true by simp;omega];rfl
       rw[z,Bool.true_and]at e;rw[en];exact e
     by_cases cf:a.2.1=0
     ·by_cases c4:i=0
      ·simp(maxSteps:=1000000) (disch:=omega) only[evs,↓reduceIte,Nat.reduceEqDiff,Nat.reduceAdd,Nat.reduceMul,Nat.reduceLeDiff,Nat.reduceLT,Int.reduceNeg,DF,eff,Nat.reduceSub,aa,c3,g103,g102,g101,g0,q0,r1,r2,s0,s1,s2,show¬(0:Int)<(a.2.1:Nat) by omega,show¬(0:Int)<(i:Int) by omega];refine rqn ⟨l.length-(i+1),by omega,F04,i+1,(by simp[T.get_set]),(by simp[T.get_set,g102]),(by simp[T.get_set,g101]),(by simp[T.get_set,g0]),by omega,fin (by simp[cf]) (by simp[dF,c4,cy]),rfl⟩
       done
      ·obtain⟨b2,o2',a2,t1,t2,t3,t4⟩:=(ra.fr F04).ix gm .i64 ((i:Int)-1) (by omega) (by omega);have t4':l[i-1]? =some a2:=by rw[←t4];congr 1;omega
       have t2':ab h4 b2 o2'=some (.str a2.1):=t2 0 (by omega);have pe:dF l i=some a2.1:=by simp[dF,c4,t4']
       cases c5:leS a.1 a2.1
       ·simp(maxSteps:=1000000) (disch:=omega) only[evs,↓reduceIte,Nat.reduceEqDiff,Nat.reduceAdd,Nat.reduceMul,Nat.reduceLeDiff,Nat.reduceLT,Int.reduceNeg,DF,eff,Nat.reduceSub,aa,c3,g103,g102,g101,g0,q0,r1,r2,s0,s1,s2,show¬(0:Int)<(a.2.1:Nat) by omega,c5,t1,t2',e9,show(0:Int)<(i:Int) by omega];refine rqn ⟨l.length-(i+1),by omega,F04,i+1,(by simp[T.get_set]),(by simp[T.get_set,g102]),(by simp[T.get_set,g101]),(by simp[T.get_set,g0]),by omega,fin (by simp[cf]) (by rw[pe];simp[cy,c5]),rfl⟩
        done
       ·simp(maxSteps:=1000000) (disch:=omega) only[evs,↓reduceIte,Nat.reduceEqDiff,Nat.reduceAdd,Nat.reduceMul,Nat.reduceLeDiff,Nat.reduceLT,Int.reduceNeg,DF,eff,Nat.reduceSub,aa,c3,g103,g102,g101,g0,q0,r1,r2,s0,s1,s2,show¬(0:Int)<(a.2.1:Nat) by omega,c5,t1,t2',e9,show(0:Int)<(i:Int) by omega];exact bad F04 (by simp[jq,pe,cy,c5])
     ·cases cv:a.2.2==[]
      ·simp(maxSteps:=1000000) (disch:=omega) only[evs,↓reduceIte,Nat.reduceEqDiff,Nat.reduceAdd,Nat.reduceMul,Nat.reduceLeDiff,Nat.reduceLT,Int.reduceNeg,DF,eff,Nat.reduceSub,aa,c3,g103,g102,g101,g0,q0,r1,r2,s0,s1,s2,show(0:Int)<(a.2.1:Nat) by omega,bn,cv];exact bad F04 (by simp[jq,cf,cv])
      ·by_cases c4:i=0
       ·simp(maxSteps:=1000000) (disch:=omega) only[evs,↓reduceIte,Nat.reduceEqDiff,Nat.reduceAdd,Nat.reduceMul,Nat.reduceLeDiff,Nat.reduceLT,Int.reduceNeg,DF,eff,Nat.reduceSub,aa,c3,g103,g102,g101,g0,q0,r1,r2,s0,s1,s2,show(0:Int)<(a.2.1:Nat) by omega,bn,cv,show¬(0:Int)<(i:Int) by omega];refine rqn ⟨l.length-(i+1),by omega,F04,i+1,(by simp[T.get_set]),(by simp[T.get_set,g102]),(by simp[T.get_set,g101]),(by simp[T.get_set,g0]),by omega,fin (by simp[cv]) (by simp[dF,c4,cy]),rfl⟩
        done
       ·obtain⟨b2,o2',a2,t1,t2,t3,t4⟩:=(ra.fr F04).ix gm .i64 ((i:Int)-1) (by omega) (by omega);have t4':l[i-1]? =some a2:=by rw[←t4];congr 1;omega
        have t2':ab h4 b2 o2'=some (.str a2.1):=t2 0 (by omega);have pe:dF l i=some a2.1:=by simp[dF,c4,t4']
        cases c5:leS a.1 a2.1
        ·simp(maxSteps:=1000000) (disch:=omega) only[evs,↓reduceIte,Nat.reduceEqDiff,Nat.reduceAdd,Nat.reduceMul,Nat.reduceLeDiff,Nat.reduceLT,Int.reduceNeg,DF,eff,Nat.reduceSub,aa,c3,g103,g102,g101,g0,q0,r1,r2,s0,s1,s2,show(0:Int)<(a.2.1:Nat) by omega,bn,cv,c5,t1,t2',e9,show(0:Int)<(i:Int) by omega];refine rqn ⟨l.length-(i+1),by omega,F04,i+1,(by simp[T.get_set]),(by simp[T.get_set,g102]),(by simp[T.get_set,g101]),(by simp[T.get_set,g0]),by omega,fin (by simp[cv]) (by rw[pe];simp[cy,c5]),rfl⟩
         done
        ·simp(maxSteps:=1000000) (disch:=omega) only[evs,↓reduceIte,Nat.reduceEqDiff,Nat.reduceAdd,Nat.reduceMul,Nat.reduceLeDiff,Nat.reduceLT,Int.reduceNeg,DF,eff,Nat.reduceSub,aa,c3,g103,g102,g101,g0,q0,r1,r2,s0,s1,s2,show(0:Int)<(a.2.1:Nat) by omega,bn,cv,c5,t1,t2',e9,show(0:Int)<(i:Int) by omega];exact bad F04 (by simp[jq,pe,cy,c5])
    ·simp(maxSteps:=1000000) (disch:=omega) only[evs,↓reduceIte,Nat.reduceEqDiff,Nat.reduceAdd,Nat.reduceMul,Nat.reduceLeDiff,Nat.reduceLT,Int.reduceNeg,DF,eff,Nat.reduceSub,aa,g103,g102,g101,g0,show¬(i:Int)<l.length by omega];rw[List.drop_of_length_le (by omega)]at e;exact⟨by simp[cH,c8,←e,dT],F⟩
  ·refine af ?_;simp(maxSteps:=1000000) (disch:=omega) only[evs,↓reduceIte,Nat.reduceEqDiff,Nat.reduceAdd,Nat.reduceMul,Nat.reduceLeDiff,Nat.reduceLT,Int.reduceNeg,DF,eff,Nat.reduceSub,aa,ra.len,show(8:Int)<(l.length:Nat) by omega];exact⟨by simp[cH,c8],Fr.refl w⟩
set_option maxRecDepth 4000
theorem _root_.Go.Ev.ASl.ix6{h:Heap}{v:V}{n:Nat}{cs:List V}(a:ASl h 6 v n cs){i:Nat}(hi:i<n){x0 x1 x2 x3 x4 x5:V}{r:List V}(e:cs.drop (i*6)=[x0,x1,x2,x3,x4,x5]++r):
    ∃b o,aP (.ixs 6) [v,.int .i64 (i:Int)]=some (.ptr b o)∧At6 h b o x0 x1 x2 x3 x4 x5:=by
  obtain⟨b,o,e1,e2,e3⟩:=ASl.ix a .i64 (i:Int) (by omega) (by omega);rw[Int.toNat_natCast]at e2 e3;rw[e]at e3;have g:∀j,cs[i*6+j]? =([x0,x1,x2,x3,x4,x5]++r)[j]? :=fun j=>by rw[←e,List.getElem?_drop]
  refine⟨b,o,e1,?_,?_,?_,?_,?_,?_,e3⟩
  ·have:=e2 0 (by omega);rw[g]at this;exact this
  ·have:=e2 1 (by omega);rw[g]at this;exact this
  ·have:=e2 2 (by omega);rw[g]at this;exact this
  ·have:=e2 3 (by omega);rw[g]at this;exact this
  ·have:=e2 4 (by omega);rw[g]at this;exact this
  ·have:=e2 5 (by omega);rw[g]at this;exact this
inductive PT where
  |nil
  |cons (kind:Nat) (tag key:Str) (slots:List Slo) (text:Str) (va vc:V) (sub next:PT)
namespace PT
def len:PT→Nat
  |nil=>0
  |cons _ _ _ _ _ _ _ _ nx=>nx.len+1
def cells:PT→List V
  |nil=>[]
  |cons k tg ky _ tx va vc _ nx=>[.int .u8 (k:Int),.str tg,.str ky,va,.str tx,vc]++nx.cells
def keys:PT→List Str
  |nil=>[]
  |cons _ _ ky _ _ _ _ _ nx=>ky::nx.keys
theorem cells_len:∀t:PT,t.cells.length=t.len*6
  |nil=>rfl
  |cons _ _ _ _ _ _ _ _ nx=>by simp[cells,len,cells_len nx];omega
theorem keys_len:∀t:PT,t.keys.length=t.len
  |nil=>rfl
  |cons _ _ _ _ _ _ _ _ nx=>by simp[keys,len,keys_len nx]
/-- the i-th one -/
def at':PT→Nat→PT
  |t,0=>t
  |nil,_+1=>nil
  |cons _ _ _ _ _ _ _ _ nx,i+1=>nx.at' i
end PT
/-- the trees stand in memory -/
def PH(h:Heap):PT→Prop
  |.nil=>True
  |.cons k _ _ at' _ va vc sub nx=>k<256∧ARecs my 3 h va at'∧at'.length≤70368744177664∧ASl h 6 vc sub.len sub.cells∧sub.len≤70368744177664∧PH h sub∧PH h nx
theorem PH.fr{h h':Heap}(f:Fr [] h h'):∀{t:PT},PH h t→PH h' t
  |.nil,_=>trivial
  |.cons _ _ _ _ _ _ _ _ _,⟨a,b,c,d,e,g,i⟩=>⟨a,b.fr f,c,d.fr f,e,PH.fr f g,PH.fr f i⟩
namespace PT
theorem split:∀(t:PT)(i:Nat),i<t.len→∃k tg ky at' tx va vc sub nx,t.at' i=.cons k tg ky at' tx va vc sub nx∧t.cells.drop (i*6)=[.int .u8 ((k:Nat):Int),.str tg,.str ky,va,.str tx,vc]++nx.cells∧t.at' (i+1)=nx∧t.keys.drop i=ky::nx.keys∧t.keys[i]? =some ky∧nx.len+(i+1)=t.len
  |.nil,_,h=>by cases h
  |.cons k tg ky at' tx va vc sub nx,0,_=>⟨k,tg,ky,at',tx,va,vc,sub,nx,rfl,rfl,by cases nx<;>rfl,rfl,rfl,rfl⟩
  |.cons _ _ _ _ _ _ _ _ nx,i+1,h=>by
    obtain⟨k,tg,ky,at',tx,va,vc,sub,n,e1,e2,e3,e4,e5,e6⟩:=split nx i (by simp[len]at h;omega);refine⟨k,tg,ky,at',tx,va,vc,sub,n,e1,?_,e3,e4,?_,by simp only[len];omega⟩
    ·rw[show(i+1) *6=6+i*6 by omega,←List.drop_drop];exact e2
    ·simpa[keys]using e5
theorem at_end:∀(t:PT)(i:Nat),t.len≤i→t.at' i=.nil
  |.nil,0,_=>rfl
  |.nil,_+1,_=>rfl
  |.cons _ _ _ _ _ _ _ _ nx,0,h=>by simp[len]at h
  |.cons _ _ _ _ _ _ _ _ nx,i+1,h=>at_end nx i (by simp[len]at h;omega)
end PT
theorem PH.at'{h:Heap}:∀{t:PT}(i:Nat),PH h t→PH h (t.at' i)
  |.nil,0,_=>trivial
  |.nil,_+1,_=>trivial
  |.cons _ _ _ _ _ _ _ _ _,0,a=>a
  |.cons _ _ _ _ _ _ _ _ _,i+1,⟨_,_,_,_,_,_,g⟩=>PH.at' i g
def iq(k:Nat)(tg ky:Str)(sl:List Slo)(tx:Str)(n:Nat):Bool:=
  if k=1 then(ky==[]||okN ky)&&(decide (n≤16)&&(okN tg&&(cH sl&&tx==[])))
  else if k=5 then okN tg&&(cH sl&&(ky==[]&&(tx==[]&&decide (n=0))))
  else if k=2 then okT tx&&(tg==[]&&(ky==[]&&(decide (sl.length=0)&&decide (n=0))))
  else if k=3∨k=4 then tg==[]&&(ky==[]&&(tx==[]&&(decide (sl.length=0)&&decide (n=0))))
  else false
theorem PH.ones{h:Heap}:∀{t:PT},PH h t→av t.cells=true
  |.nil,_=>rfl
  |.cons k tg ky _ tx va vc _ nx,⟨_,b,_,d,_,_,g⟩=>by
    show av ([.int .u8 (k:Int),.str tg,.str ky,va,.str tx,vc]++nx.cells)=true;rw[aY,PH.ones g];simp only[aB,aR,ASl.one b,ASl.one d];rfl
namespace PT
def node(k:Nat)(tg ky:Str)(at':List Slo)(tx:Str)(sub:PT)(w:Nat→Nat→Nat×Bool)(l c:Nat):Nat×Bool:=
  if 6<l∨64<c+1∨iq k tg ky at' tx sub.len=false then(c+1,false)else w (l+1) (c+1)
def walk:PT→Nat→Nat→Nat×Bool
  |nil,_,c=>(c,true)
  |cons k tg ky at' tx _ _ sub nx,l,c=>let r:=node k tg ky at' tx sub sub.walk l c;if r.2=true then nx.walk l r.1 else r
theorem dQ:∀(t:PT)(l c:Nat),c≤64→(t.walk l c).1≤65∧((t.walk l c).2=true→(t.walk l c).1≤64)
  |nil,_,c,h=>⟨by simp[walk];omega,fun _=>h⟩
  |cons k tg ky at' tx _ _ sub nx,l,c,h=>by
    have q:(node k tg ky at' tx sub sub.walk l c).1≤65∧((node k tg ky at' tx sub sub.walk l c).2=true→(node k tg ky at' tx sub sub.walk l c).1≤64):=by
      unfold node;split
      ·exact⟨by simp;omega,fun e=>by cases e⟩
      ·rename_i x;exact dQ sub (l+1) (c+1) (by omega)
    simp only[walk];split
    ·rename_i x;exact dQ nx l _ (q.2 x)
    ·exact q
theorem node_le(k:Nat)(tg ky:Str)(at':List Slo)(tx:Str)(sub:PT)(l c:Nat)(h:c≤64):(node k tg ky at' tx sub sub.walk l c).1≤65∧((node k tg ky at' tx sub sub.walk l c).2=true→(node k tg ky at' tx sub sub.walk l c).1≤64):=by
  unfold node;split
  ·exact⟨by simp;omega,fun e=>by cases e⟩
  ·exact dQ sub (l+1) (c+1) (by omega)
end PT
namespace PT
/-- no list of it is long -/
def small:PT→Prop
  |nil=>True
  |cons _ _ _ sl _ _ _ sub nx=>sl.length≤16∧sub.len≤16∧sub.small∧nx.small
theorem nr{k:Nat}{tg ky:Str}{sl:List Slo}{tx:Str}{n:Nat}(h:iq k tg ky sl tx n=true):sl.length≤16∧n≤16:=by
  unfold iq at h;split at h
  ·simp only[Bool.and_eq_true,decide_eq_true_eq,cH]at h;omega
  split at h
  ·simp only[Bool.and_eq_true,decide_eq_true_eq,cH]at h;omega
  split at h
  ·simp only[Bool.and_eq_true,decide_eq_true_eq]at h;omega
  split at h
  ·simp only[Bool.and_eq_true,decide_eq_true_eq]at h;omega
  ·cases h
theorem walk_small:∀(t:PT)(l c:Nat),(t.walk l c).2=true→t.small
  |nil,_,_,_=>trivial
  |cons k tg ky sl tx _ _ sub nx,l,c,h=>by
    simp only[walk]at h;have q:(node k tg ky sl tx sub sub.walk l c).2=true:=by
      cases c1:(node k tg ky sl tx sub sub.walk l c).2
      ·rw[c1]at h;simp[c1]at h
      ·rfl
    rw[q,if_pos rfl]at h;unfold node at q;split at q
    ·cases q
    ·rename_i z;have pb:iq k tg ky sl tx sub.len=true:=by
       cases pb:iq k tg ky sl tx sub.len
       ·exact absurd (.inr (.inr pb)) z
       ·rfl
     obtain⟨a,b⟩:=nr pb;exact⟨a,b,walk_small sub _ _ q,walk_small nx _ _ h⟩
theorem small_at:∀{t:PT}(i:Nat),t.small→(t.at' i).small
  |.nil,0,_=>trivial
  |.nil,_+1,_=>trivial
  |.cons _ _ _ _ _ _ _ _ _,0,a=>a
  |.cons _ _ _ _ _ _ _ _ _,i+1,⟨_,_,_,g⟩=>small_at i g
end PT
set_option maxRecDepth 4000
theorem rG{h:Heap}{b o k:Nat}{tg ky tx:Str}{sl:List Slo}{va vc:V}{sub:PT}(w:WF h)(hA:∀h',Fr [] h h'→At6 h' b o (.int .u8 (k:Int)) (.str tg) (.str ky) va (.str tx) vc)
    (ra:ARecs my 3 h va sl) (na:sl.length≤70368744177664) (rc:ASl h 6 vc sub.len sub.cells) (nc:sub.len≤70368744177664):
    au go 316 [.ptr b o] h fun u h'=>u=.bool (iq k tg ky sl tx sub.len)∧Fr [] h h':=by
  have q:=hA h (Fr.refl w);have va1:=ASl.one ra;have vc1:=rc.one;obtain⟨h1,e_h1⟩:∃h1,h1=halloc h [.int .u8 0,.str [],.str [],.nils,.str [],.nils]:=⟨_,rfl⟩;have F_h1:Fr [] h h1:=e_h1▸Fr.halloc w _;have o_h1:Own h1 h.next [.int .u8 0,.str [],.str [],.nils,.str [],.nils]:=e_h1▸Own.new w _;refine af ?_;simp(maxSteps:=1000000) (disch:=omega) only[evs,↓reduceIte,Nat.reduceEqDiff,Nat.reduceAdd,Nat.reduceMul,Nat.reduceLeDiff,Nat.reduceLT,Int.reduceNeg,DF,eff,Nat.reduceSub,aa,←e_h1,q.2.2.2.2.2.2];refine ao (c':=[.int .u8 (k:Int),.str tg,.str ky,va,.str tx,vc]) F_h1.wf o_h1 rfl (by simp only[V.cells,aB,aR,va1,vc1];rfl) rfl ?_;rintro h2 o2 F2 n2;have F02:Fr [] h h2:=F_h1.fresh F2 w (Nat.le_refl _);obtain⟨q0,q1,q2,q3,q4,q5,_⟩:=hA h2 F02;have l3:aP .lenS [va]=some (.int .i64 (sl.length:Nat)):=ra.len;have l5:aP .lenS [vc]=some (.int .i64 (sub.len:Nat)):=rc.len;have s1:ab h2 h.next 1=some (.str tg):=o2.ld1 1;have s2:ab h2 h.next 2=some (.str ky):=o2.ld1 2;have s3:ab h2 h.next 3=some va:=o2.ld1 3;have s4:ab h2 h.next 4=some (.str tx):=o2.ld1 4;have s5:ab h2 h.next 5=some vc:=o2.ld1 5;unfold iq;by_cases k1:k=1
  ·rw[if_pos k1];cases ck:ky==[]
   ·simp(maxSteps:=1000000) (disch:=omega) only[evs,↓reduceIte,Nat.reduceEqDiff,Nat.reduceAdd,Nat.reduceMul,Nat.reduceLeDiff,Nat.reduceLT,Int.reduceNeg,DF,eff,Nat.reduceSub,aa,q0,show(k:Int)=1 by omega,q2,bn,ck];refine ae (dA F2.wf) ?_;rintro _ h3 ⟨rfl,F3⟩;have F03:=F02.then F3;cases cn:okN ky
    ·simp(maxSteps:=1000000) (disch:=omega) only[evs,↓reduceIte,Nat.reduceEqDiff,Nat.reduceAdd,Nat.reduceMul,Nat.reduceLeDiff,Nat.reduceLT,Int.reduceNeg,DF,eff,Nat.reduceSub,aa,cn];exact⟨by simp[ck,cn],F03⟩
    have qp:=(hA h3 F03).2.2.2.2.2.1;by_cases cp0:¬sub.len≤16
    ·simp(maxSteps:=1000000) (disch:=omega) only[evs,↓reduceIte,Nat.reduceEqDiff,Nat.reduceAdd,Nat.reduceMul,Nat.reduceLeDiff,Nat.reduceLT,Int.reduceNeg,DF,eff,Nat.reduceSub,aa,cn,qp,l5,show(16:Int)<(sub.len:Nat) by omega];exact⟨by simp[ck,cn,cp0],F03⟩
    have cp:sub.len≤16:=by omega
    simp(maxSteps:=1000000) (disch:=omega) only[evs,↓reduceIte,Nat.reduceEqDiff,Nat.reduceAdd,Nat.reduceMul,Nat.reduceLeDiff,Nat.reduceLT,Int.reduceNeg,DF,eff,Nat.reduceSub,aa,cn,qp,l5,show¬(16:Int)<(sub.len:Nat) by omega];refine sts (c':=[.int .u8 (k:Int),.str tg,.str [],va,.str tx,vc]) F3.wf (F3.get o2) ?_;rintro he oe Fe ne;simp(maxSteps:=1000000) (disch:=omega) only[evs,↓reduceIte,Nat.reduceEqDiff,Nat.reduceAdd,Nat.reduceMul,Nat.reduceLeDiff,Nat.reduceLT,Int.reduceNeg,DF,eff,Nat.reduceSub,aa];refine sts (c':=[.int .u8 (k:Int),.str tg,.str [],va,.str tx,.nils]) Fe.wf oe ?_;rintro hf of Ff nf;have Gf:Fr [] h hf:=(F03.fresh Fe w (Nat.le_refl _)).fresh Ff w (Nat.le_refl _);have qa:=(hA hf Gf).2.1;simp(maxSteps:=1000000) (disch:=omega) only[evs,↓reduceIte,Nat.reduceEqDiff,Nat.reduceAdd,Nat.reduceMul,Nat.reduceLeDiff,Nat.reduceLT,Int.reduceNeg,DF,eff,Nat.reduceSub,aa,qp,qa];refine ae (dA Gf.wf) ?_;rintro _ ha ⟨rfl,Fa⟩;have G1:=Gf.then Fa;have qb:=(hA ha G1).2.2.2.1;cases c1:okN tg
    ·simp(maxSteps:=1000000) (disch:=omega) only[evs,↓reduceIte,Nat.reduceEqDiff,Nat.reduceAdd,Nat.reduceMul,Nat.reduceLeDiff,Nat.reduceLT,Int.reduceNeg,DF,eff,Nat.reduceSub,aa,c1];exact⟨by simp[ck,cn,cp,c1],G1⟩
    simp(maxSteps:=1000000) (disch:=omega) only[evs,↓reduceIte,Nat.reduceEqDiff,Nat.reduceAdd,Nat.reduceMul,Nat.reduceLeDiff,Nat.reduceLT,Int.reduceNeg,DF,eff,Nat.reduceSub,aa,c1,qb];refine ae (jo Fa.wf (ra.fr G1) na) ?_;rintro _ hb ⟨rfl,Fb⟩;have G2:=G1.then Fb;cases c2:cH sl
    ·simp(maxSteps:=1000000) (disch:=omega) only[evs,↓reduceIte,Nat.reduceEqDiff,Nat.reduceAdd,Nat.reduceMul,Nat.reduceLeDiff,Nat.reduceLT,Int.reduceNeg,DF,eff,Nat.reduceSub,aa,c2];exact⟨by simp[ck,cn,cp,c1,c2],G2⟩
    simp(maxSteps:=1000000) (disch:=omega) only[evs,↓reduceIte,Nat.reduceEqDiff,Nat.reduceAdd,Nat.reduceMul,Nat.reduceLeDiff,Nat.reduceLT,Int.reduceNeg,DF,eff,Nat.reduceSub,aa,c2];have oa:=Fb.get (Fa.get of);refine sts (c':=[.int .u8 (k:Int),.str [],.str [],va,.str tx,.nils]) Fb.wf oa ?_;rintro hc oc Fc nc1;simp(maxSteps:=1000000) (disch:=omega) only[evs,↓reduceIte,Nat.reduceEqDiff,Nat.reduceAdd,Nat.reduceMul,Nat.reduceLeDiff,Nat.reduceLT,Int.reduceNeg,DF,eff,Nat.reduceSub,aa];refine sts (c':=[.int .u8 (k:Int),.str [],.str [],.nils,.str tx,.nils]) Fc.wf oc ?_;rintro hd od Fd nd;have G3:Fr [] h hd:=(G2.fresh Fc w (Nat.le_refl _)).fresh Fd w (Nat.le_refl _);have z1:ab hd h.next 1=some (.str []):=od.ld1 1;have z2:ab hd h.next 2=some (.str []):=od.ld1 2;have z3:ab hd h.next 3=some (.nils):=od.ld1 3;have z4:ab hd h.next 4=some (.str tx):=od.ld1 4;have z5:ab hd h.next 5=some (.nils):=od.ld1 5;cases tX:tx==[]
    ·simp(maxSteps:=1000000) (disch:=omega) only[evs,↓reduceIte,Nat.reduceEqDiff,Nat.reduceAdd,Nat.reduceMul,Nat.reduceLeDiff,Nat.reduceLT,Int.reduceNeg,DF,eff,Nat.reduceSub,aa,z1,z2,z3,z4,z5,aA,show(([]:Str)==[])=true from rfl,tX];exact⟨by simp[ck,cn,cp,c1,c2,tX],G3⟩
    simp(maxSteps:=1000000) (disch:=omega) only[evs,↓reduceIte,Nat.reduceEqDiff,Nat.reduceAdd,Nat.reduceMul,Nat.reduceLeDiff,Nat.reduceLT,Int.reduceNeg,DF,eff,Nat.reduceSub,aa,z1,z2,z3,z4,z5,aA,show(([]:Str)==[])=true from rfl,tX];exact⟨by simp[ck,cn,cp,c1,c2,tX],G3⟩
   ·have F03:=F02;have qp:=(hA h2 F02).2.2.2.2.2.1;by_cases cp0:¬sub.len≤16
    ·simp(maxSteps:=1000000) (disch:=omega) only[evs,↓reduceIte,Nat.reduceEqDiff,Nat.reduceAdd,Nat.reduceMul,Nat.reduceLeDiff,Nat.reduceLT,Int.reduceNeg,DF,eff,Nat.reduceSub,aa,q0,show(k:Int)=1 by omega,q2,bn,ck,qp,l5,show(16:Int)<(sub.len:Nat) by omega];exact⟨by simp[ck,cp0],F02⟩
    have cp:sub.len≤16:=by omega
    simp(maxSteps:=1000000) (disch:=omega) only[evs,↓reduceIte,Nat.reduceEqDiff,Nat.reduceAdd,Nat.reduceMul,Nat.reduceLeDiff,Nat.reduceLT,Int.reduceNeg,DF,eff,Nat.reduceSub,aa,q0,show(k:Int)=1 by omega,q2,bn,ck,qp,l5,show¬(16:Int)<(sub.len:Nat) by omega];refine sts (c':=[.int .u8 (k:Int),.str tg,.str [],va,.str tx,vc]) F2.wf o2 ?_;rintro he oe Fe ne;simp(maxSteps:=1000000) (disch:=omega) only[evs,↓reduceIte,Nat.reduceEqDiff,Nat.reduceAdd,Nat.reduceMul,Nat.reduceLeDiff,Nat.reduceLT,Int.reduceNeg,DF,eff,Nat.reduceSub,aa];refine sts (c':=[.int .u8 (k:Int),.str tg,.str [],va,.str tx,.nils]) Fe.wf oe ?_;rintro hf of Ff nf;have Gf:Fr [] h hf:=(F02.fresh Fe w (Nat.le_refl _)).fresh Ff w (Nat.le_refl _);have qa:=(hA hf Gf).2.1;simp(maxSteps:=1000000) (disch:=omega) only[evs,↓reduceIte,Nat.reduceEqDiff,Nat.reduceAdd,Nat.reduceMul,Nat.reduceLeDiff,Nat.reduceLT,Int.reduceNeg,DF,eff,Nat.reduceSub,aa,qp,qa];refine ae (dA Gf.wf) ?_;rintro _ ha ⟨rfl,Fa⟩;have G1:=Gf.then Fa;have qb:=(hA ha G1).2.2.2.1;cases c1:okN tg
    ·simp(maxSteps:=1000000) (disch:=omega) only[evs,↓reduceIte,Nat.reduceEqDiff,Nat.reduceAdd,Nat.reduceMul,Nat.reduceLeDiff,Nat.reduceLT,Int.reduceNeg,DF,eff,Nat.reduceSub,aa,c1];exact⟨by simp[ck,cp,c1],G1⟩
    simp(maxSteps:=1000000) (disch:=omega) only[evs,↓reduceIte,Nat.reduceEqDiff,Nat.reduceAdd,Nat.reduceMul,Nat.reduceLeDiff,Nat.reduceLT,Int.reduceNeg,DF,eff,Nat.reduceSub,aa,c1,qb];refine ae (jo Fa.wf (ra.fr G1) na) ?_;rintro _ hb ⟨rfl,Fb⟩;have G2:=G1.then Fb;cases c2:cH sl
    ·simp(maxSteps:=1000000) (disch:=omega) only[evs,↓reduceIte,Nat.reduceEqDiff,Nat.reduceAdd,Nat.reduceMul,Nat.reduceLeDiff,Nat.reduceLT,Int.reduceNeg,DF,eff,Nat.reduceSub,aa,c2];exact⟨by simp[ck,cp,c1,c2],G2⟩
    simp(maxSteps:=1000000) (disch:=omega) only[evs,↓reduceIte,Nat.reduceEqDiff,Nat.reduceAdd,Nat.reduceMul,Nat.reduceLeDiff,Nat.reduceLT,Int.reduceNeg,DF,eff,Nat.reduceSub,aa,c2];have oa:=Fb.get (Fa.get of);refine sts (c':=[.int .u8 (k:Int),.str [],.str [],va,.str tx,.nils]) Fb.wf oa ?_;rintro hc oc Fc nc1;simp(maxSteps:=1000000) (disch:=omega) only[evs,↓reduceIte,Nat.reduceEqDiff,Nat.reduceAdd,Nat.reduceMul,Nat.reduceLeDiff,Nat.reduceLT,Int.reduceNeg,DF,eff,Nat.reduceSub,aa];refine sts (c':=[.int .u8 (k:Int),.str [],.str [],.nils,.str tx,.nils]) Fc.wf oc ?_;rintro hd od Fd nd;have G3:Fr [] h hd:=(G2.fresh Fc w (Nat.le_refl _)).fresh Fd w (Nat.le_refl _);have z1:ab hd h.next 1=some (.str []):=od.ld1 1;have z2:ab hd h.next 2=some (.str []):=od.ld1 2;have z3:ab hd h.next 3=some (.nils):=od.ld1 3;have z4:ab hd h.next 4=some (.str tx):=od.ld1 4;have z5:ab hd h.next 5=some (.nils):=od.ld1 5;cases tX:tx==[]
    ·simp(maxSteps:=1000000) (disch:=omega) only[evs,↓reduceIte,Nat.reduceEqDiff,Nat.reduceAdd,Nat.reduceMul,Nat.reduceLeDiff,Nat.reduceLT,Int.reduceNeg,DF,eff,Nat.reduceSub,aa,z1,z2,z3,z4,z5,aA,show(([]:Str)==[])=true from rfl,tX];exact⟨by simp[ck,cp,c1,c2,tX],G3⟩
    simp(maxSteps:=1000000) (disch:=omega) only[evs,↓reduceIte,Nat.reduceEqDiff,Nat.reduceAdd,Nat.reduceMul,Nat.reduceLeDiff,Nat.reduceLT,Int.reduceNeg,DF,eff,Nat.reduceSub,aa,z1,z2,z3,z4,z5,aA,show(([]:Str)==[])=true from rfl,tX];exact⟨by simp[ck,cp,c1,c2,tX],G3⟩
  by_cases k5:k=5
  ·rw[if_neg k1,if_pos k5];have qa:=(hA h2 F02).2.1;simp(maxSteps:=1000000) (disch:=omega) only[evs,↓reduceIte,Nat.reduceEqDiff,Nat.reduceAdd,Nat.reduceMul,Nat.reduceLeDiff,Nat.reduceLT,Int.reduceNeg,DF,eff,Nat.reduceSub,aa,q0,show¬(k:Int)=1 by omega,show(k:Int)=5 by omega,qa];refine ae (dA F02.wf) ?_;rintro _ ha ⟨rfl,Fa⟩;have G1:=F02.then Fa;have qb:=(hA ha G1).2.2.2.1;cases c1:okN tg
   ·simp(maxSteps:=1000000) (disch:=omega) only[evs,↓reduceIte,Nat.reduceEqDiff,Nat.reduceAdd,Nat.reduceMul,Nat.reduceLeDiff,Nat.reduceLT,Int.reduceNeg,DF,eff,Nat.reduceSub,aa,c1];exact⟨by simp[c1],G1⟩
   simp(maxSteps:=1000000) (disch:=omega) only[evs,↓reduceIte,Nat.reduceEqDiff,Nat.reduceAdd,Nat.reduceMul,Nat.reduceLeDiff,Nat.reduceLT,Int.reduceNeg,DF,eff,Nat.reduceSub,aa,c1,qb];refine ae (jo Fa.wf (ra.fr G1) na) ?_;rintro _ hb ⟨rfl,Fb⟩;have G2:=G1.then Fb;cases c2:cH sl
   ·simp(maxSteps:=1000000) (disch:=omega) only[evs,↓reduceIte,Nat.reduceEqDiff,Nat.reduceAdd,Nat.reduceMul,Nat.reduceLeDiff,Nat.reduceLT,Int.reduceNeg,DF,eff,Nat.reduceSub,aa,c2];exact⟨by simp[c1,c2],G2⟩
   simp(maxSteps:=1000000) (disch:=omega) only[evs,↓reduceIte,Nat.reduceEqDiff,Nat.reduceAdd,Nat.reduceMul,Nat.reduceLeDiff,Nat.reduceLT,Int.reduceNeg,DF,eff,Nat.reduceSub,aa,c2];have oa:=Fb.get (Fa.get o2);refine sts (c':=[.int .u8 (k:Int),.str [],.str ky,va,.str tx,vc]) Fb.wf oa ?_;rintro hc oc Fc nc1;simp(maxSteps:=1000000) (disch:=omega) only[evs,↓reduceIte,Nat.reduceEqDiff,Nat.reduceAdd,Nat.reduceMul,Nat.reduceLeDiff,Nat.reduceLT,Int.reduceNeg,DF,eff,Nat.reduceSub,aa];refine sts (c':=[.int .u8 (k:Int),.str [],.str ky,.nils,.str tx,vc]) Fc.wf oc ?_;rintro hd od Fd nd;have G3:Fr [] h hd:=(G2.fresh Fc w (Nat.le_refl _)).fresh Fd w (Nat.le_refl _);have z1:ab hd h.next 1=some (.str []):=od.ld1 1;have z2:ab hd h.next 2=some (.str ky):=od.ld1 2;have z3:ab hd h.next 3=some (.nils):=od.ld1 3;have z4:ab hd h.next 4=some (.str tx):=od.ld1 4;have z5:ab hd h.next 5=some (vc):=od.ld1 5;cases tK:ky==[]
   ·simp(maxSteps:=1000000) (disch:=omega) only[evs,↓reduceIte,Nat.reduceEqDiff,Nat.reduceAdd,Nat.reduceMul,Nat.reduceLeDiff,Nat.reduceLT,Int.reduceNeg,DF,eff,Nat.reduceSub,aa,z1,z2,z3,z4,z5,aA,show(([]:Str)==[])=true from rfl,tK];exact⟨by simp[c1,c2,tK],G3⟩
   cases tX:tx==[]
   ·simp(maxSteps:=1000000) (disch:=omega) only[evs,↓reduceIte,Nat.reduceEqDiff,Nat.reduceAdd,Nat.reduceMul,Nat.reduceLeDiff,Nat.reduceLT,Int.reduceNeg,DF,eff,Nat.reduceSub,aa,z1,z2,z3,z4,z5,aA,show(([]:Str)==[])=true from rfl,tK,tX];exact⟨by simp[c1,c2,tK,tX],G3⟩
   by_cases tP0:¬sub.len=0
   ·simp(maxSteps:=1000000) (disch:=omega) only[evs,↓reduceIte,Nat.reduceEqDiff,Nat.reduceAdd,Nat.reduceMul,Nat.reduceLeDiff,Nat.reduceLT,Int.reduceNeg,DF,eff,Nat.reduceSub,aa,z1,z2,z3,z4,z5,aA,show(([]:Str)==[])=true from rfl,tK,tX,l5,show¬((sub.len:Nat):Int)=0 by omega];exact⟨by simp[c1,c2,tK,tX,tP0],G3⟩
   have tP:sub.len=0:=by omega
   simp(maxSteps:=1000000) (disch:=omega) only[evs,↓reduceIte,Nat.reduceEqDiff,Nat.reduceAdd,Nat.reduceMul,Nat.reduceLeDiff,Nat.reduceLT,Int.reduceNeg,DF,eff,Nat.reduceSub,aa,z1,z2,z3,z4,z5,aA,show(([]:Str)==[])=true from rfl,tK,tX,l5,show((sub.len:Nat):Int)=0 by omega];exact⟨by simp[c1,c2,tK,tX,tP],G3⟩
  by_cases k2:k=2
  ·rw[if_neg k1,if_neg k5,if_pos k2];simp(maxSteps:=1000000) (disch:=omega) only[evs,↓reduceIte,Nat.reduceEqDiff,Nat.reduceAdd,Nat.reduceMul,Nat.reduceLeDiff,Nat.reduceLT,Int.reduceNeg,DF,eff,Nat.reduceSub,aa,q0,show¬(k:Int)=1 by omega,show¬(k:Int)=5 by omega,show(k:Int)=2 by omega,q4];refine ae (kP F2.wf) ?_;rintro _ h3 ⟨rfl,F3⟩;have F03:=F02.then F3;cases c1:okT tx
   ·simp(maxSteps:=1000000) (disch:=omega) only[evs,↓reduceIte,Nat.reduceEqDiff,Nat.reduceAdd,Nat.reduceMul,Nat.reduceLeDiff,Nat.reduceLT,Int.reduceNeg,DF,eff,Nat.reduceSub,aa,c1];exact⟨by simp,F03⟩
   simp(maxSteps:=1000000) (disch:=omega) only[evs,↓reduceIte,Nat.reduceEqDiff,Nat.reduceAdd,Nat.reduceMul,Nat.reduceLeDiff,Nat.reduceLT,Int.reduceNeg,DF,eff,Nat.reduceSub,aa,c1];refine sts (c':=[.int .u8 (k:Int),.str tg,.str ky,va,.str [],vc]) F3.wf (F3.get o2) ?_;rintro hd od Fd nd;have G3:Fr [] h hd:=F03.fresh Fd w (Nat.le_refl _);have z1:ab hd h.next 1=some (.str tg):=od.ld1 1;have z2:ab hd h.next 2=some (.str ky):=od.ld1 2;have z3:ab hd h.next 3=some (va):=od.ld1 3;have z4:ab hd h.next 4=some (.str []):=od.ld1 4;have z5:ab hd h.next 5=some (vc):=od.ld1 5;cases tT:tg==[]
   ·simp(maxSteps:=1000000) (disch:=omega) only[evs,↓reduceIte,Nat.reduceEqDiff,Nat.reduceAdd,Nat.reduceMul,Nat.reduceLeDiff,Nat.reduceLT,Int.reduceNeg,DF,eff,Nat.reduceSub,aa,z1,z2,z3,z4,z5,aA,show(([]:Str)==[])=true from rfl,tT];exact⟨by simp[tT],G3⟩
   cases tK:ky==[]
   ·simp(maxSteps:=1000000) (disch:=omega) only[evs,↓reduceIte,Nat.reduceEqDiff,Nat.reduceAdd,Nat.reduceMul,Nat.reduceLeDiff,Nat.reduceLT,Int.reduceNeg,DF,eff,Nat.reduceSub,aa,z1,z2,z3,z4,z5,aA,show(([]:Str)==[])=true from rfl,tT,tK];exact⟨by simp[tT,tK],G3⟩
   by_cases tS0:¬sl.length=0
   ·simp(maxSteps:=1000000) (disch:=omega) only[evs,↓reduceIte,Nat.reduceEqDiff,Nat.reduceAdd,Nat.reduceMul,Nat.reduceLeDiff,Nat.reduceLT,Int.reduceNeg,DF,eff,Nat.reduceSub,aa,z1,z2,z3,z4,z5,aA,show(([]:Str)==[])=true from rfl,tT,tK,l3,show¬((sl.length:Nat):Int)=0 by omega];exact⟨by simp[tT,tK,tS0],G3⟩
   have tS:sl.length=0:=by omega
   by_cases tP0:¬sub.len=0
   ·simp(maxSteps:=1000000) (disch:=omega) only[evs,↓reduceIte,Nat.reduceEqDiff,Nat.reduceAdd,Nat.reduceMul,Nat.reduceLeDiff,Nat.reduceLT,Int.reduceNeg,DF,eff,Nat.reduceSub,aa,z1,z2,z3,z4,z5,aA,show(([]:Str)==[])=true from rfl,tT,tK,l3,show((sl.length:Nat):Int)=0 by omega,l5,show¬((sub.len:Nat):Int)=0 by omega];exact⟨by simp[tT,tK,tS,tP0],G3⟩
   have tP:sub.len=0:=by omega
   simp(maxSteps:=1000000) (disch:=omega) only[evs,↓reduceIte,Nat.reduceEqDiff,Nat.reduceAdd,Nat.reduceMul,Nat.reduceLeDiff,Nat.reduceLT,Int.reduceNeg,DF,eff,Nat.reduceSub,aa,z1,z2,z3,z4,z5,aA,show(([]:Str)==[])=true from rfl,tT,tK,l3,show((sl.length:Nat):Int)=0 by omega,l5,show((sub.len:Nat):Int)=0 by omega];exact⟨by simp[tT,tK,tS,tP],G3⟩
  by_cases k34:k=3∨k=4
  ·rw[if_neg k1,if_neg k5,if_neg k2,if_pos k34];by_cases k3:k=3
   ·have G3:=F02;cases tT:tg==[]
    ·simp(maxSteps:=1000000) (disch:=omega) only[evs,↓reduceIte,Nat.reduceEqDiff,Nat.reduceAdd,Nat.reduceMul,Nat.reduceLeDiff,Nat.reduceLT,Int.reduceNeg,DF,eff,Nat.reduceSub,aa,q0,show¬(k:Int)=1 by omega,show¬(k:Int)=5 by omega,show¬(k:Int)=2 by omega,show(k:Int)=3 by omega,s1,s2,s3,s4,s5,aA,show(([]:Str)==[])=true from rfl,tT];exact⟨by simp[tT],G3⟩
    cases tK:ky==[]
    ·simp(maxSteps:=1000000) (disch:=omega) only[evs,↓reduceIte,Nat.reduceEqDiff,Nat.reduceAdd,Nat.reduceMul,Nat.reduceLeDiff,Nat.reduceLT,Int.reduceNeg,DF,eff,Nat.reduceSub,aa,q0,show¬(k:Int)=1 by omega,show¬(k:Int)=5 by omega,show¬(k:Int)=2 by omega,show(k:Int)=3 by omega,s1,s2,s3,s4,s5,aA,show(([]:Str)==[])=true from rfl,tT,tK];exact⟨by simp[tT,tK],G3⟩
    cases tX:tx==[]
    ·simp(maxSteps:=1000000) (disch:=omega) only[evs,↓reduceIte,Nat.reduceEqDiff,Nat.reduceAdd,Nat.reduceMul,Nat.reduceLeDiff,Nat.reduceLT,Int.reduceNeg,DF,eff,Nat.reduceSub,aa,q0,show¬(k:Int)=1 by omega,show¬(k:Int)=5 by omega,show¬(k:Int)=2 by omega,show(k:Int)=3 by omega,s1,s2,s3,s4,s5,aA,show(([]:Str)==[])=true from rfl,tT,tK,tX];exact⟨by simp[tT,tK,tX],G3⟩
    by_cases tS0:¬sl.length=0
    ·simp(maxSteps:=1000000) (disch:=omega) only[evs,↓reduceIte,Nat.reduceEqDiff,Nat.reduceAdd,Nat.reduceMul,Nat.reduceLeDiff,Nat.reduceLT,Int.reduceNeg,DF,eff,Nat.reduceSub,aa,q0,show¬(k:Int)=1 by omega,show¬(k:Int)=5 by omega,show¬(k:Int)=2 by omega,show(k:Int)=3 by omega,s1,s2,s3,s4,s5,aA,show(([]:Str)==[])=true from rfl,tT,tK,tX,l3,show¬((sl.length:Nat):Int)=0 by omega];exact⟨by simp[tT,tK,tX,tS0],G3⟩
    have tS:sl.length=0:=by omega
    by_cases tP0:¬sub.len=0
    ·simp(maxSteps:=1000000) (disch:=omega) only[evs,↓reduceIte,Nat.reduceEqDiff,Nat.reduceAdd,Nat.reduceMul,Nat.reduceLeDiff,Nat.reduceLT,Int.reduceNeg,DF,eff,Nat.reduceSub,aa,q0,show¬(k:Int)=1 by omega,show¬(k:Int)=5 by omega,show¬(k:Int)=2 by omega,show(k:Int)=3 by omega,s1,s2,s3,s4,s5,aA,show(([]:Str)==[])=true from rfl,tT,tK,tX,l3,show((sl.length:Nat):Int)=0 by omega,l5,show¬((sub.len:Nat):Int)=0 by omega];exact⟨by simp[tT,tK,tX,tS,tP0],G3⟩
    have tP:sub.len=0:=by omega
    simp(maxSteps:=1000000) (disch:=omega) only[evs,↓reduceIte,Nat.reduceEqDiff,Nat.reduceAdd,Nat.reduceMul,Nat.reduceLeDiff,Nat.reduceLT,Int.reduceNeg,DF,eff,Nat.reduceSub,aa,q0,show¬(k:Int)=1 by omega,show¬(k:Int)=5 by omega,show¬(k:Int)=2 by omega,show(k:Int)=3 by omega,s1,s2,s3,s4,s5,aA,show(([]:Str)==[])=true from rfl,tT,tK,tX,l3,show((sl.length:Nat):Int)=0 by omega,l5,show((sub.len:Nat):Int)=0 by omega];exact⟨by simp[tT,tK,tX,tS,tP],G3⟩
   ·have G3:=F02;cases tT:tg==[]
    ·simp(maxSteps:=1000000) (disch:=omega) only[evs,↓reduceIte,Nat.reduceEqDiff,Nat.reduceAdd,Nat.reduceMul,Nat.reduceLeDiff,Nat.reduceLT,Int.reduceNeg,DF,eff,Nat.reduceSub,aa,q0,show¬(k:Int)=1 by omega,show¬(k:Int)=5 by omega,show¬(k:Int)=2 by omega,show¬(k:Int)=3 by omega,show(k:Int)=4 by omega,s1,s2,s3,s4,s5,aA,show(([]:Str)==[])=true from rfl,tT];exact⟨by simp[tT],G3⟩
    cases tK:ky==[]
    ·simp(maxSteps:=1000000) (disch:=omega) only[evs,↓reduceIte,Nat.reduceEqDiff,Nat.reduceAdd,Nat.reduceMul,Nat.reduceLeDiff,Nat.reduceLT,Int.reduceNeg,DF,eff,Nat.reduceSub,aa,q0,show¬(k:Int)=1 by omega,show¬(k:Int)=5 by omega,show¬(k:Int)=2 by omega,show¬(k:Int)=3 by omega,show(k:Int)=4 by omega,s1,s2,s3,s4,s5,aA,show(([]:Str)==[])=true from rfl,tT,tK];exact⟨by simp[tT,tK],G3⟩
    cases tX:tx==[]
    ·simp(maxSteps:=1000000) (disch:=omega) only[evs,↓reduceIte,Nat.reduceEqDiff,Nat.reduceAdd,Nat.reduceMul,Nat.reduceLeDiff,Nat.reduceLT,Int.reduceNeg,DF,eff,Nat.reduceSub,aa,q0,show¬(k:Int)=1 by omega,show¬(k:Int)=5 by omega,show¬(k:Int)=2 by omega,show¬(k:Int)=3 by omega,show(k:Int)=4 by omega,s1,s2,s3,s4,s5,aA,show(([]:Str)==[])=true from rfl,tT,tK,tX];exact⟨by simp[tT,tK,tX],G3⟩
    by_cases tS0:¬sl.length=0
    ·simp(maxSteps:=1000000) (disch:=omega) only[evs,↓reduceIte,Nat.reduceEqDiff,Nat.reduceAdd,Nat.reduceMul,Nat.reduceLeDiff,Nat.reduceLT,Int.reduceNeg,DF,eff,Nat.reduceSub,aa,q0,show¬(k:Int)=1 by omega,show¬(k:Int)=5 by omega,show¬(k:Int)=2 by omega,show¬(k:Int)=3 by omega,show(k:Int)=4 by omega,s1,s2,s3,s4,s5,aA,show(([]:Str)==[])=true from rfl,tT,tK,tX,l3,show¬((sl.length:Nat):Int)=0 by omega];exact⟨by simp[tT,tK,tX,tS0],G3⟩
    have tS:sl.length=0:=by omega
    by_cases tP0:¬sub.len=0
    ·simp(maxSteps:=1000000) (disch:=omega) only[evs,↓reduceIte,Nat.reduceEqDiff,Nat.reduceAdd,Nat.reduceMul,Nat.reduceLeDiff,Nat.reduceLT,Int.reduceNeg,DF,eff,Nat.reduceSub,aa,q0,show¬(k:Int)=1 by omega,show¬(k:Int)=5 by omega,show¬(k:Int)=2 by omega,show¬(k:Int)=3 by omega,show(k:Int)=4 by omega,s1,s2,s3,s4,s5,aA,show(([]:Str)==[])=true from rfl,tT,tK,tX,l3,show((sl.length:Nat):Int)=0 by omega,l5,show¬((sub.len:Nat):Int)=0 by omega];exact⟨by simp[tT,tK,tX,tS,tP0],G3⟩
    have tP:sub.len=0:=by omega
    simp(maxSteps:=1000000) (disch:=omega) only[evs,↓reduceIte,Nat.reduceEqDiff,Nat.reduceAdd,Nat.reduceMul,Nat.reduceLeDiff,Nat.reduceLT,Int.reduceNeg,DF,eff,Nat.reduceSub,aa,q0,show¬(k:Int)=1 by omega,show¬(k:Int)=5 by omega,show¬(k:Int)=2 by omega,show¬(k:Int)=3 by omega,show(k:Int)=4 by omega,s1,s2,s3,s4,s5,aA,show(([]:Str)==[])=true from rfl,tT,tK,tX,l3,show((sl.length:Nat):Int)=0 by omega,l5,show((sub.len:Nat):Int)=0 by omega];exact⟨by simp[tT,tK,tX,tS,tP],G3⟩
  ·rw[if_neg k1,if_neg k5,if_neg k2,if_neg k34];simp(maxSteps:=1000000) (disch:=omega) only[evs,↓reduceIte,Nat.reduceEqDiff,Nat.reduceAdd,Nat.reduceMul,Nat.reduceLeDiff,Nat.reduceLT,Int.reduceNeg,DF,eff,Nat.reduceSub,aa,q0,show¬(k:Int)=1 by omega,show¬(k:Int)=5 by omega,show¬(k:Int)=2 by omega,show¬(k:Int)=3 by omega,show¬(k:Int)=4 by omega];exact F02
structure Tm(h0 h:Heap)(bc bf bw:Nat)(c:Nat):Prop where
  f:Fr [] h0 h
  oc:Own h bc [.int .i64 (c:Int)]
  od:Own h bf [.func (.func 224) [] []]
  ow:Own h bw [.func (.func 315) [] [.ptr bc 0,.ptr bf 0,.ptr bw 0]]
theorem Tm.fr{h0 h h':Heap}{bc bf bw c:Nat}(m:Tm h0 h bc bf bw c)(f:Fr [] h h'):Tm h0 h' bc bf bw c:=⟨m.f.then f,f.get m.oc,f.get m.od,f.get m.ow⟩
def w8(h0:Heap)(k:Nat)(tg ky:Str)(at':List Slo)(tx:Str)(va vc:V)(sub:PT):Prop:=
  ∀(h:Heap)(b o bc bd bw l c:Nat),MsB h0 bc bd bw→Tm h0 h bc bd bw c→(∀h',Fr [] h0 h'→At6 h' b o (.int .u8 (k:Int)) (.str tg) (.str ky) va (.str tx) vc)→l≤7→c≤64→
    au go 315 [.ptr b o,.int .i64 (l:Int),.ptr bc 0,.ptr bd 0,.ptr bw 0] h fun u h'=>u=.bool (PT.node k tg ky at' tx sub sub.walk l c).2∧Tm h0 h' bc bd bw (PT.node k tg ky at' tx sub sub.walk l c).1
def TAll(h0:Heap):PT→Prop
  |.nil=>True
  |.cons k tg ky at' tx va vc sub nx=>w8 h0 k tg ky at' tx va vc sub∧TAll h0 nx
theorem TAll.at'{h:Heap}:∀{t:PT}(i:Nat),TAll h t→TAll h (t.at' i)
  |.nil,0,_=>trivial
  |.nil,_+1,_=>trivial
  |.cons _ _ _ _ _ _ _ _ _,0,a=>a
  |.cons _ _ _ _ _ _ _ _ _,i+1,⟨_,g⟩=>TAll.at' i g
theorem xq{h:Heap}(v:V):au go 224 [v] h fun u h'=>u=.tup []∧h=h':=by
  refine af ?_;simp(maxSteps:=1000000) (disch:=omega) only[evs,↓reduceIte,Nat.reduceEqDiff,Nat.reduceAdd,Nat.reduceMul,Nat.reduceLeDiff,Nat.reduceLT,Int.reduceNeg,DF,eff,Nat.reduceSub,aa]
theorem sT{h0:Heap}{k:Nat}{tg ky:Str}{at':List Slo}{tx:Str}{va vc:V}{sub:PT}
    (ra:ARecs my 3 h0 va at') (na:at'.length≤70368744177664) (rc:ASl h0 6 vc sub.len sub.cells) (nc:sub.len≤70368744177664) (A:TAll h0 sub):w8 h0 k tg ky at' tx va vc sub:=by
  intro h b o bc bd bw l c B M hA hl hc;have lc:ab h bc 0=some (.int .i64 (c:Int)):=M.oc.ld1 0;refine af ?_;simp(maxSteps:=1000000) (disch:=omega) only[evs,↓reduceIte,Nat.reduceEqDiff,Nat.reduceAdd,Nat.reduceMul,Nat.reduceLeDiff,Nat.reduceLT,Int.reduceNeg,DF,eff,Nat.reduceSub,aa,lc];refine sts (c':=[.int .i64 ((c+1:Nat):Int)]) M.f.wf M.oc ?_;rintro h1 o1 F1 n1;have M2:Tm h0 h1 bc bd bw (c+1):=by
    refine⟨?_,o1,F1.own _ _ (by simpa using B.cd.symm) M.od,F1.own _ _ (by simpa using B.cw.symm) M.ow⟩;exact Fr.trans M.f F1 B.w (fun x hx=>.inl hx) (fun x hx=>.inr (by simp at hx;subst hx;exact B.c))
  have lc2:ab h1 bc 0=some (.int .i64 ((c+1:Nat):Int)):=M2.oc.ld1 0;by_cases c1:6<l
  ·have e:PT.node k tg ky at' tx sub sub.walk l c=(c+1,false):=if_pos (.inl c1);simp(maxSteps:=1000000) (disch:=omega) only[evs,↓reduceIte,Nat.reduceEqDiff,Nat.reduceAdd,Nat.reduceMul,Nat.reduceLeDiff,Nat.reduceLT,Int.reduceNeg,DF,eff,Nat.reduceSub,aa,show(6:Int)<(l:Int) by omega];rw[e];exact⟨rfl,M2⟩
  by_cases c2:64<c+1
  ·have e:PT.node k tg ky at' tx sub sub.walk l c=(c+1,false):=if_pos (.inr (.inl c2));simp(maxSteps:=1000000) (disch:=omega) only[evs,↓reduceIte,Nat.reduceEqDiff,Nat.reduceAdd,Nat.reduceMul,Nat.reduceLeDiff,Nat.reduceLT,Int.reduceNeg,DF,eff,Nat.reduceSub,aa,show¬(6:Int)<(l:Int) by omega,lc2,show(64:Int)<((c+1:Nat):Int) by omega];rw[e];exact⟨rfl,M2⟩
  simp(maxSteps:=1000000) (disch:=omega) only[evs,↓reduceIte,Nat.reduceEqDiff,Nat.reduceAdd,Nat.reduceMul,Nat.reduceLeDiff,Nat.reduceLT,Int.reduceNeg,DF,eff,Nat.reduceSub,aa,show¬(6:Int)<(l:Int) by omega,lc2,show¬(64:Int)<((c+1:Nat):Int) by omega];refine ae (rG M2.f.wf (fun h' f=>hA h' (M2.f.then f)) (ra.fr M2.f) na (rc.fr M2.f) nc) ?_;rintro _ h3 ⟨rfl,F3⟩;have M3:=M2.fr F3;cases c3:iq k tg ky at' tx sub.len
  ·have e:PT.node k tg ky at' tx sub sub.walk l c=(c+1,false):=if_pos (.inr (.inr c3));simp(maxSteps:=1000000) (disch:=omega) only[evs,↓reduceIte,Nat.reduceEqDiff,Nat.reduceAdd,Nat.reduceMul,Nat.reduceLeDiff,Nat.reduceLT,Int.reduceNeg,DF,eff,Nat.reduceSub,aa,c3];rw[e];exact⟨rfl,M3⟩
  have e:PT.node k tg ky at' tx sub sub.walk l c=sub.walk (l+1) (c+1):=if_neg (by simp[c3];omega);rw[e];have q5:=(hA h3 M3.f).2.2.2.2.2.1;have lf:ab h3 bd 0=some (.func (.func 224) [] []):=M3.od.ld1 0;simp(maxSteps:=1000000) (disch:=omega) only[evs,↓reduceIte,Nat.reduceEqDiff,Nat.reduceAdd,Nat.reduceMul,Nat.reduceLeDiff,Nat.reduceLT,Int.reduceNeg,DF,eff,Nat.reduceSub,aa,c3,lf];refine ae (xq _) ?_;rintro _ _ ⟨rfl,rfl⟩;simp(maxSteps:=1000000) (disch:=omega) only[evs,↓reduceIte,Nat.reduceEqDiff,Nat.reduceAdd,Nat.reduceMul,Nat.reduceLeDiff,Nat.reduceLT,Int.reduceNeg,DF,eff,Nat.reduceSub,aa,q5,(rc.fr M3.f).len];refine aQ (fun n env hh=>∃(i c':Nat),Tm h0 hh bc bd bw c'∧env.get 30=some (.int .i64 i)∧env.get 29=some (.int .i64 sub.len)∧env.get 0=some (.ptr b o)∧env.get 1=some (.int .i64 l)∧env.get 4=some (.ptr bw 0)∧
      i≤sub.len∧c'≤64∧(sub.at' i).walk (l+1) c'=sub.walk (l+1) (c+1)∧n=sub.len-i) sub.len (by omega) ?_ ?_
  ·exact⟨0,c+1,M3,(by simp[T.get_set]),(by simp[T.get_set]),(by simp[T.get_set]),(by simp[T.get_set]),(by simp[T.get_set]),by omega,by omega,by cases sub<;>rfl,rfl⟩
  ·rintro n env hh ⟨i,c',M',g30,g29,g0,g1,g4,hi,hc',e',rfl⟩;by_cases hlt:i<sub.len
   ·obtain⟨kd,tg',ky',at2,tx',va',vc',sb,nx,e1,e2,e3,e4,e5,e6⟩:=sub.split i hlt;have hlt':(i:Int)<sub.len:=by omega
    have a:=A.at' i;rw[e1]at a e';obtain⟨b',o',p1,_⟩:=(rc.fr M'.f).ix6 hlt e2;have hA':∀h',Fr [] h0 h'→At6 h' b' o' (.int .u8 (kd:Int)) (.str tg') (.str ky') va' (.str tx') vc':=fun h' f=>by
      obtain⟨b2,o2,p1',p2'⟩:=(rc.fr f).ix6 hlt e2;rw[p1]at p1';cases p1';exact p2'
    have q5:=(hA hh M'.f).2.2.2.2.2.1;have lw:ab hh bw 0=some (.func (.func 315) [] [.ptr bc 0,.ptr bd 0,.ptr bw 0]):=M'.ow.ld1 0;simp(maxSteps:=1000000) (disch:=omega) only[evs,↓reduceIte,Nat.reduceEqDiff,Nat.reduceAdd,Nat.reduceMul,Nat.reduceLeDiff,Nat.reduceLT,Int.reduceNeg,DF,eff,Nat.reduceSub,aa,g30,g29,g0,g1,g4,hlt',lw,q5,p1];refine ae (a.1 hh b' o' bc bd bw (l+1) c' B M' hA' (by omega) hc') ?_;rintro _ h4 ⟨rfl,M4⟩;simp only[PT.walk]at e';have nl:=PT.node_le kd tg' ky' at2 tx' sb (l+1) c' hc';cases c4:(PT.node kd tg' ky' at2 tx' sb sb.walk (l+1) c').2
    ·rw[c4]at e';simp(maxSteps:=1000000) (disch:=omega) only[evs,↓reduceIte,Nat.reduceEqDiff,Nat.reduceAdd,Nat.reduceMul,Nat.reduceLeDiff,Nat.reduceLT,Int.reduceNeg,DF,eff,Nat.reduceSub,aa,c4,g30,g29,g0,g1,g4,lw,q5,(hA h4 M4.f).2.2.2.2.2.1];rw[←e'];exact⟨by simp[c4],by simpa using M4⟩
    ·rw[c4]at e';simp(maxSteps:=1000000) (disch:=omega) only[evs,↓reduceIte,Nat.reduceEqDiff,Nat.reduceAdd,Nat.reduceMul,Nat.reduceLeDiff,Nat.reduceLT,Int.reduceNeg,DF,eff,Nat.reduceSub,aa,c4,g30,g29,g0,g1,g4,lw,q5,(hA h4 M4.f).2.2.2.2.2.1];refine rqn ⟨sub.len-(i+1),by omega,i+1,_,M4,(by simp[T.get_set]),(by simp[T.get_set,g29]),(by simp[T.get_set,g0]),(by simp[T.get_set,g1]),(by simp[T.get_set,g4]),by omega,nl.2 c4,?_,rfl⟩;rw[e3];simpa using e'
   ·simp(maxSteps:=1000000) (disch:=omega) only[evs,↓reduceIte,Nat.reduceEqDiff,Nat.reduceAdd,Nat.reduceMul,Nat.reduceLeDiff,Nat.reduceLT,Int.reduceNeg,DF,eff,Nat.reduceSub,aa,g30,g29,g0,g1,g4,show¬(i:Int)<sub.len by omega];rw[PT.at_end _ _ (by omega)]at e';rw[←e'];exact⟨rfl,M'⟩
theorem pj{h:Heap}:∀{t:PT},PH h t→TAll h t
  |.nil,_=>trivial
  |.cons _ _ _ _ _ _ _ _ _,⟨_,b,c,d,e,f,g⟩=>⟨sT b c d e (pj f),pj g⟩
/-- the number of parts of a template, 0 if it is not valid -/
def PT.count(k:Nat)(tg ky:Str)(at':List Slo)(tx:Str)(sub:PT):Nat:=
  if k=1∧(node k tg ky at' tx sub sub.walk 1 0).2=true then(node k tg ky at' tx sub sub.walk 1 0).1 else 0
theorem sR{h:Heap}{k b o:Nat}{tg ky:Str}{at':List Slo}{tx:Str}{va vc:V}{sub:PT}(w:WF h)(n:PH h (.cons k tg ky at' tx va vc sub .nil))
    (hA:∀h',Fr [] h h'→At6 h' b o (.int .u8 (k:Int)) (.str tg) (.str ky) va (.str tx) vc):
    au go 223 [.ptr b o,.func (.func 224) [] []] h fun u h'=>u=.int .i64 (PT.count k tg ky at' tx sub:Nat)∧Fr [] h h':=by
  obtain⟨h2,e_h2⟩:∃h2,h2=halloc h [.func (.func 224) [] []]:=⟨_,rfl⟩;have F_h2:Fr [] h h2:=e_h2▸Fr.halloc w _;have o_h2:Own h2 h.next [.func (.func 224) [] []]:=e_h2▸Own.new w _;have q0:=(hA h2 F_h2).1;by_cases k1:k=1
  ·obtain⟨h3,e_h3⟩:∃h3,h3=halloc h2 [.int .i64 0]:=⟨_,rfl⟩;have F_h3:Fr [] h2 h3:=e_h3▸Fr.halloc F_h2.wf _;have o_h3:Own h3 h2.next [.int .i64 0]:=e_h3▸Own.new F_h2.wf _;have n2:h2.next=h.next+1:=by rw[e_h2];rfl
   have n3:h3.next=h2.next+1:=by rw[e_h3];rfl
   refine af ?_;simp(maxSteps:=1000000) (disch:=omega) only[evs,↓reduceIte,Nat.reduceEqDiff,Nat.reduceAdd,Nat.reduceMul,Nat.reduceLeDiff,Nat.reduceLT,Int.reduceNeg,DF,eff,Nat.reduceSub,aa,←e_h2,q0,show(k:Int)=1 by omega,←e_h3];refine sts (c':=[.int .i64 0]) F_h3.wf o_h3 ?_;rintro h4 o4 F4 n4;obtain⟨h5,e_h5⟩:∃h5,h5=halloc h4 [.nilf]:=⟨_,rfl⟩;have F_h5:Fr [] h4 h5:=e_h5▸Fr.halloc F4.wf _;have o_h5:Own h5 h4.next [.nilf]:=e_h5▸Own.new F4.wf _;simp(maxSteps:=1000000) (disch:=omega) only[evs,↓reduceIte,Nat.reduceEqDiff,Nat.reduceAdd,Nat.reduceMul,Nat.reduceLeDiff,Nat.reduceLT,Int.reduceNeg,DF,eff,Nat.reduceSub,aa,←e_h5];refine sts (c':=[.func (.func 315) [] [.ptr h2.next 0,.ptr h.next 0,.ptr h4.next 0]]) F_h5.wf o_h5 ?_;rintro h6 o6 F6 n6;have F24:Fr [] h h4:=(F_h2.then F_h3).fresh F4 w (by omega);have F06:Fr [] h h6:=(F24.then F_h5).fresh F6 w (by omega);have B:MsB h h2.next h.next h4.next:=⟨w,by omega,Nat.le_refl _,by omega,by omega,by omega,by omega⟩;have M:Tm h h6 h2.next h.next h4.next 0:=⟨F06,F6.own _ _ (by simp;omega) (F_h5.get o4),F6.own _ _ (by simp;omega) (F_h5.get (F4.own _ _ (by simp;omega) (F_h3.get o_h2))),o6⟩;have lw:ab h6 h4.next 0=some (.func (.func 315) [] [.ptr h2.next 0,.ptr h.next 0,.ptr h4.next 0]):=o6.ld1 0;simp(maxSteps:=1000000) (disch:=omega) only[evs,↓reduceIte,Nat.reduceEqDiff,Nat.reduceAdd,Nat.reduceMul,Nat.reduceLeDiff,Nat.reduceLT,Int.reduceNeg,DF,eff,Nat.reduceSub,aa,lw];refine ae ((pj n).1 h6 b o h2.next h.next h4.next 1 0 B M hA (by omega) (by omega)) ?_;rintro _ h7 ⟨rfl,M7⟩;unfold PT.count;cases c:(PT.node k tg ky at' tx sub sub.walk 1 0).2
   ·simp(maxSteps:=1000000) (disch:=omega) only[evs,↓reduceIte,Nat.reduceEqDiff,Nat.reduceAdd,Nat.reduceMul,Nat.reduceLeDiff,Nat.reduceLT,Int.reduceNeg,DF,eff,Nat.reduceSub,aa,c];exact⟨by simp,M7.f⟩
   ·have lc:ab h7 h2.next 0=some (.int .i64 ((PT.node k tg ky at' tx sub sub.walk 1 0).1:Int)):=M7.oc.ld1 0;simp(maxSteps:=1000000) (disch:=omega) only[evs,↓reduceIte,Nat.reduceEqDiff,Nat.reduceAdd,Nat.reduceMul,Nat.reduceLeDiff,Nat.reduceLT,Int.reduceNeg,DF,eff,Nat.reduceSub,aa,c,lc];exact⟨by simp[k1],M7.f⟩
  ·refine af ?_;simp(maxSteps:=1000000) (disch:=omega) only[evs,↓reduceIte,Nat.reduceEqDiff,Nat.reduceAdd,Nat.reduceMul,Nat.reduceLeDiff,Nat.reduceLT,Int.reduceNeg,DF,eff,Nat.reduceSub,aa,←e_h2,q0,show¬(k:Int)=1 by omega];exact⟨by simp[PT.count,k1],F_h2⟩
theorem kS{h:Heap}{k:Nat}{tg ky:Str}{at':List Slo}{tx:Str}{va vc:V}{sub:PT}(w:WF h)(n:PH h (.cons k tg ky at' tx va vc sub .nil)):
    au go 158 [.agg [.int .u8 (k:Int),.str tg,.str ky,va,.str tx,vc]] h fun u h'=>u=.int .i64 (PT.count k tg ky at' tx sub:Nat)∧Fr [] h h':=by
  obtain⟨h1,e_h1⟩:∃h1,h1=halloc h [.int .u8 (k:Int),.str tg,.str ky,va,.str tx,vc]:=⟨_,rfl⟩;have F_h1:Fr [] h h1:=e_h1▸Fr.halloc w _;have o_h1:Own h1 h.next [.int .u8 (k:Int),.str tg,.str ky,va,.str tx,vc]:=e_h1▸Own.new w _;refine af ?_;simp(maxSteps:=1000000) (disch:=omega) only[evs,↓reduceIte,Nat.reduceEqDiff,Nat.reduceAdd,Nat.reduceMul,Nat.reduceLeDiff,Nat.reduceLT,Int.reduceNeg,DF,eff,Nat.reduceSub,aa,←e_h1];refine ae (sR F_h1.wf (n.fr F_h1) (fun h' f=>(f.get o_h1).at6)) ?_;rintro _ h2 ⟨rfl,F2⟩;simp(maxSteps:=1000000) (disch:=omega) only[evs,↓reduceIte,Nat.reduceEqDiff,Nat.reduceAdd,Nat.reduceMul,Nat.reduceLeDiff,Nat.reduceLT,Int.reduceNeg,DF,eff,Nat.reduceSub,aa];exact F_h1.then F2
theorem rF{h:Heap}{k:Nat}{tg ky:Str}{at':List Slo}{tx:Str}{va vc:V}{sub:PT}(w:WF h)(n:PH h (.cons k tg ky at' tx va vc sub .nil)):
    au go 99 [.agg [.int .u8 (k:Int),.str tg,.str ky,va,.str tx,vc]] h fun u h'=>u=.int .i64 (if PT.count k tg ky at' tx sub=0 then 14 else 0)∧Fr [] h h':=by
  obtain⟨h1,e_h1⟩:∃h1,h1=halloc h [.int .u8 (k:Int),.str tg,.str ky,va,.str tx,vc]:=⟨_,rfl⟩;have F_h1:Fr [] h h1:=e_h1▸Fr.halloc w _;have o_h1:Own h1 h.next [.int .u8 (k:Int),.str tg,.str ky,va,.str tx,vc]:=e_h1▸Own.new w _;by_cases c:PT.count k tg ky at' tx sub=0
  ·refine af ?_;simp(maxSteps:=1000000) (disch:=omega) only[evs,↓reduceIte,Nat.reduceEqDiff,Nat.reduceAdd,Nat.reduceMul,Nat.reduceLeDiff,Nat.reduceLT,Int.reduceNeg,DF,eff,Nat.reduceSub,aa,←e_h1,o_h1.at6.2.2.2.2.2.2];refine ae (kS F_h1.wf (n.fr F_h1)) ?_;rintro _ h2 ⟨rfl,F2⟩;simp(maxSteps:=1000000) (disch:=omega) only[evs,↓reduceIte,Nat.reduceEqDiff,Nat.reduceAdd,Nat.reduceMul,Nat.reduceLeDiff,Nat.reduceLT,Int.reduceNeg,DF,eff,Nat.reduceSub,aa,show((PT.count k tg ky at' tx sub:Nat):Int)=0 by omega];exact⟨by rw[if_pos c],F_h1.then F2⟩
  ·refine af ?_;simp(maxSteps:=1000000) (disch:=omega) only[evs,↓reduceIte,Nat.reduceEqDiff,Nat.reduceAdd,Nat.reduceMul,Nat.reduceLeDiff,Nat.reduceLT,Int.reduceNeg,DF,eff,Nat.reduceSub,aa,←e_h1,o_h1.at6.2.2.2.2.2.2];refine ae (kS F_h1.wf (n.fr F_h1)) ?_;rintro _ h2 ⟨rfl,F2⟩;simp(maxSteps:=1000000) (disch:=omega) only[evs,↓reduceIte,Nat.reduceEqDiff,Nat.reduceAdd,Nat.reduceMul,Nat.reduceLeDiff,Nat.reduceLT,Int.reduceNeg,DF,eff,Nat.reduceSub,aa,show¬((PT.count k tg ky at' tx sub:Nat):Int)=0 by omega];exact⟨by rw[if_neg c],F_h1.then F2⟩
/-- a slice in memory of its own, from block B on -/
def Gn(e:Nat)(h:Heap)(B:Nat)(v:V)(n:Nat)(cs:List V):Prop:=cs.length=n*e∧((n=0∧(v=.nils∨∃b,B≤b∧v=.slice b 0 0 0∧Own h b []))∨∃b,B≤b∧v=.sliceU b 0 n e∧Own h b cs)
theorem Gn.sl{e:Nat}{h:Heap}{B n:Nat}{v:V}{cs:List V}(g:Gn e h B v n cs):Sl h e v n cs:=by
  obtain⟨hl,⟨rfl,rfl|⟨b,_,rfl,o⟩⟩|⟨b,_,rfl,o⟩⟩:=g
  ·exact⟨hl,rfl⟩
  ·have:cs=[]:=List.length_eq_zero_iff.1 (by omega);subst this;exact⟨hl,rfl,Nat.le_refl _,[],o,by simp,by simp⟩
  ·exact⟨hl,rfl,rfl,cs,o,by omega,by rw[List.drop_zero,List.take_of_length_le (by omega)]⟩
theorem Gn.fr{e:Nat}{h h':Heap}{B n:Nat}{v:V}{cs:List V}{X:List Nat}(g:Gn e h B v n cs)(f:Fr X h h')(hx:∀x∈X,x<B):Gn e h' B v n cs:=by
  obtain⟨hl,⟨rfl,rfl|⟨b,hb,rfl,o⟩⟩|⟨b,hb,rfl,o⟩⟩:=g
  ·exact⟨hl,.inl ⟨rfl,.inl rfl⟩⟩
  ·exact⟨hl,.inl ⟨rfl,.inr ⟨b,hb,rfl,f.own _ _ (fun m=>by have:=hx _ m;omega) o⟩⟩⟩
  ·exact⟨hl,.inr ⟨b,hb,rfl,f.own _ _ (fun m=>by have:=hx _ m;omega) o⟩⟩
theorem Gn.one{e:Nat}{h:Heap}{B n:Nat}{v:V}{cs:List V}(g:Gn e h B v n cs):v.one=true:=g.sl.one
/-- (once: a slice that is no empty piece of something unknown) -/
def nZ:V→Bool:=fun _=>true
theorem _root_.Go.Ev.ASl.src{h:Heap}{e:Nat}{v:V}{n:Nat}{cs:List V}(a:ASl h e v n cs)(z:nZ v=true):srcLen v=some n∧srcCells h e v n=some cs∧(v≠.nils→aP (.nil 1 false) [v,.nils]=some (.bool false)):=by
  obtain⟨hl,a⟩:=a;cases v with
  |slice b o len cap=>
    obtain⟨rfl,_,c,hc,h2,q⟩:=a;exact⟨rfl,by simp only[Ev.srcCells,hc.ld,aC,bL _ _ (show len*e≤(c.drop o).length by simp;omega),q],fun _=>rfl⟩
  |sliceU b o len e'=>
    obtain⟨rfl,rfl,c,hc,h2,q⟩:=a;exact⟨rfl,by simp only[Ev.srcCells,hc.ld,aC,bL _ _ (show len*e'≤(c.drop o).length by simp;omega),q],fun _=>rfl⟩
  |nils=>have a:n=0:=a;subst a;simp at hl;subst hl;exact⟨rfl,rfl,fun q=>absurd rfl q⟩
  |sliceE=>have a:n=0:=a;subst a;simp at hl;subst hl;exact⟨rfl,rfl,fun _=>rfl⟩
  |sliceZ _ _=>have a:n=0:=a;subst a;simp at hl;subst hl;exact⟨rfl,rfl,fun _=>rfl⟩
  |_=>exact a.elim
theorem f4{h:Heap}{e bytes n:Nat}{x:V}{xs:List V}(w:WF h)(a:ASl h e x n xs)(z:nZ x=true)(he:0<e)(hsz:(2*n+1024) *bytes≤281474976710656){K:V→Heap→Prop}
    (k:∀v' h',Gn e h' h.next v' n xs→Fr [] h h'→K v' h'):OQ (mT (halloc h []) e bytes (.slice h.next 0 0 0) x) K:=by
  have F1:=Fr.halloc w ([]:List V);have o1:=Own.new w ([]:List V);obtain⟨s1,s2,_⟩:=(a.fr F1).src z;have hl:=a.1;unfold mT;rw[s1];simp only[];by_cases c:n=0
  ·subst c;rw[eS rfl,cond_true];exact(bR _ _ _).2 (k _ _ ⟨hl,.inl ⟨rfl,.inr ⟨h.next,Nat.le_refl _,rfl,o1⟩⟩⟩ F1)
  ·rw[f6 c,cond_false,s2];simp only[];rw[uy (by omega),cond_false,Nat.zero_mul,o1.ld];have:bz 0 (cF ([]:List V) 0)=some []:=rfl;rw[this];simp only[lX,Nat.zero_add,List.nil_append];rw[(Nat.ble_eq ..).mpr hsz,cond_true];refine(bR _ _ _).2 (k _ _ ⟨hl,.inr ⟨(halloc h []).next,F1.next,rfl,Own.new F1.wf xs⟩⟩ (F1.then (Fr.halloc F1.wf xs)))
theorem iC{h:Heap}{n:Nat}{x:V}{xs:List V}(w:WF h)(a:ASl h 3 x n xs)(z:nZ x=true)(hn:n≤100000):au go 101 [x] h fun u h'=>Gn 3 h' h.next u n xs∧Fr [] h h':=by
  by_cases c:x=.nils
  ·subst c;have:n=0:=a.2;subst this;have q:aP (.nil 1 false) [.nils,.nils]=some (.bool true):=rfl;refine af ?_;simp(maxSteps:=1000000) (disch:=omega) only[evs,↓reduceIte,Nat.reduceEqDiff,Nat.reduceAdd,Nat.reduceMul,Nat.reduceLeDiff,Nat.reduceLT,Int.reduceNeg,DF,eff,Nat.reduceSub,aa,q];exact⟨⟨a.1,.inl ⟨rfl,.inl rfl⟩⟩,Fr.refl w⟩
  ·refine af ?_;simp(maxSteps:=1000000) (disch:=omega) only[evs,↓reduceIte,Nat.reduceEqDiff,Nat.reduceAdd,Nat.reduceMul,Nat.reduceLeDiff,Nat.reduceLT,Int.reduceNeg,DF,eff,Nat.reduceSub,aa,(a.src z).2.2 c];refine f4 (bytes:=40) w a z (by omega) (by omega) ?_;intro v' h' g f;simp(maxSteps:=1000000) (disch:=omega) only[evs,↓reduceIte,Nat.reduceEqDiff,Nat.reduceAdd,Nat.reduceMul,Nat.reduceLeDiff,Nat.reduceLT,Int.reduceNeg,DF,eff,Nat.reduceSub,aa];exact⟨g,f⟩
theorem gJ{h:Heap}{n:Nat}{x:V}{xs:List V}(w:WF h)(a:ASl h 6 x n xs)(z:nZ x=true)(hn:n≤100000):au go 102 [x] h fun u h'=>Gn 6 h' h.next u n xs∧Fr [] h h':=by
  by_cases c:x=.nils
  ·subst c;have:n=0:=a.2;subst this;have q:aP (.nil 1 false) [.nils,.nils]=some (.bool true):=rfl;refine af ?_;simp(maxSteps:=1000000) (disch:=omega) only[evs,↓reduceIte,Nat.reduceEqDiff,Nat.reduceAdd,Nat.reduceMul,Nat.reduceLeDiff,Nat.reduceLT,Int.reduceNeg,DF,eff,Nat.reduceSub,aa,q];exact⟨⟨a.1,.inl ⟨rfl,.inl rfl⟩⟩,Fr.refl w⟩
  ·refine af ?_;simp(maxSteps:=1000000) (disch:=omega) only[evs,↓reduceIte,Nat.reduceEqDiff,Nat.reduceAdd,Nat.reduceMul,Nat.reduceLeDiff,Nat.reduceLT,Int.reduceNeg,DF,eff,Nat.reduceSub,aa,(a.src z).2.2 c];refine f4 (bytes:=104) w a z (by omega) (by omega) ?_;intro v' h' g f;simp(maxSteps:=1000000) (disch:=omega) only[evs,↓reduceIte,Nat.reduceEqDiff,Nat.reduceAdd,Nat.reduceMul,Nat.reduceLeDiff,Nat.reduceLT,Int.reduceNeg,DF,eff,Nat.reduceSub,aa];exact⟨g,f⟩
theorem ei{h:Heap}{n:Nat}{x:V}{xs:List V}(w:WF h)(a:ASl h 9 x n xs)(z:nZ x=true)(hn:n≤100000):au go 49 [x] h fun u h'=>Gn 9 h' h.next u n xs∧Fr [] h h':=by
  by_cases c:x=.nils
  ·subst c;have:n=0:=a.2;subst this;have q:aP (.nil 1 false) [.nils,.nils]=some (.bool true):=rfl;refine af ?_;simp(maxSteps:=1000000) (disch:=omega) only[evs,↓reduceIte,Nat.reduceEqDiff,Nat.reduceAdd,Nat.reduceMul,Nat.reduceLeDiff,Nat.reduceLT,Int.reduceNeg,DF,eff,Nat.reduceSub,aa,q];exact⟨⟨a.1,.inl ⟨rfl,.inl rfl⟩⟩,Fr.refl w⟩
  ·refine af ?_;simp(maxSteps:=1000000) (disch:=omega) only[evs,↓reduceIte,Nat.reduceEqDiff,Nat.reduceAdd,Nat.reduceMul,Nat.reduceLeDiff,Nat.reduceLT,Int.reduceNeg,DF,eff,Nat.reduceSub,aa,(a.src z).2.2 c];refine f4 (bytes:=128) w a z (by omega) (by omega) ?_;intro v' h' g f;simp(maxSteps:=1000000) (disch:=omega) only[evs,↓reduceIte,Nat.reduceEqDiff,Nat.reduceAdd,Nat.reduceMul,Nat.reduceLeDiff,Nat.reduceLT,Int.reduceNeg,DF,eff,Nat.reduceSub,aa];exact⟨g,f⟩
structure Knd where
  k:Nat
  tg:Str
  ky:Str
  sl:List Slo
  tx:Str
  vs:V
  vp:V
  sub:PT
  base:Int
  sticky:Bool
  pool:Int
def Knd.part(q:Knd):List V:=[.int .u8 (q.k:Int),.str q.tg,.str q.ky,q.vs,.str q.tx,q.vp]
def Knd.cells(q:Knd):List V:=q.part++[.int .i64 q.base,.bool q.sticky,.int .i64 q.pool]
theorem bQ(q:Knd):q.cells.length=9:=rfl
def KndH(h:Heap)(q:Knd):Prop:=PH h (.cons q.k q.tg q.ky q.sl q.tx q.vs q.vp q.sub .nil)
theorem KndH.fr{h h':Heap}{q:Knd}(a:KndH h q)(f:Fr [] h h'):KndH h' q:=PH.fr f a
theorem KndH.ones{h:Heap}{q:Knd}(a:KndH h q):av q.part=true:=PH.ones a
theorem KndH.ones9{h:Heap}{q:Knd}(a:KndH h q):av q.cells=true:=by
  show av (q.part++_)=true;rw[aY,a.ones];rfl
def okB(b:Int):Bool:=decide (1≤b)&&decide (b≤2305843009213693952)
def okK(q:Knd):Bool:=okB q.base&&decide (PT.count q.k q.tg q.ky q.sl q.tx q.sub≠0)
theorem r6{h:Heap}(n:Int):au go 98 [.int .i64 n] h fun u h'=>u=.bool (okB n)∧h=h':=by
  by_cases c:1≤n
  ·refine af ?_;simp(maxSteps:=1000000) (disch:=omega) only[evs,↓reduceIte,Nat.reduceEqDiff,Nat.reduceAdd,Nat.reduceMul,Nat.reduceLeDiff,Nat.reduceLT,Int.reduceNeg,DF,eff,Nat.reduceSub,aa,c];simp[okB,c]
  ·refine af ?_;simp(maxSteps:=1000000) (disch:=omega) only[evs,↓reduceIte,Nat.reduceEqDiff,Nat.reduceAdd,Nat.reduceMul,Nat.reduceLeDiff,Nat.reduceLT,Int.reduceNeg,DF,eff,Nat.reduceSub,aa,c];simp[okB,c]
theorem wo{h:Heap}{q:Knd}(w:WF h)(a:KndH h q):au go 97 [.agg q.cells] h fun u h'=>u=.bool (!okK q)∧Fr [] h h':=by
  obtain⟨h1,e_h1⟩:∃h1,h1=halloc h q.cells:=⟨_,rfl⟩;have F_h1:Fr [] h h1:=e_h1▸Fr.halloc w _;have o_h1:Own h1 h.next q.cells:=e_h1▸Own.new w _;have l6:ab h1 h.next 6=some (.int .i64 q.base):=o_h1.ld1 6;have l0:ak h1 h.next 0 6=some q.part:=by rw[o_h1.ld];rfl
  refine af ?_;simp(maxSteps:=1000000) (disch:=omega) only[evs,↓reduceIte,Nat.reduceEqDiff,Nat.reduceAdd,Nat.reduceMul,Nat.reduceLeDiff,Nat.reduceLT,Int.reduceNeg,DF,eff,Nat.reduceSub,aa,←e_h1,l6];refine ae (r6 _) ?_;rintro _ _ ⟨rfl,rfl⟩;cases c:okB q.base
  ·simp(maxSteps:=1000000) (disch:=omega) only[evs,↓reduceIte,Nat.reduceEqDiff,Nat.reduceAdd,Nat.reduceMul,Nat.reduceLeDiff,Nat.reduceLT,Int.reduceNeg,DF,eff,Nat.reduceSub,aa,c];exact⟨by simp[okK,c],F_h1⟩
  ·simp(maxSteps:=1000000) (disch:=omega) only[evs,↓reduceIte,Nat.reduceEqDiff,Nat.reduceAdd,Nat.reduceMul,Nat.reduceLeDiff,Nat.reduceLT,Int.reduceNeg,DF,eff,Nat.reduceSub,aa,c,l0];refine ae (rF (va:=q.vs) (vc:=q.vp) F_h1.wf (a.fr F_h1)) ?_;rintro _ h2 ⟨rfl,F2⟩;by_cases z:PT.count q.k q.tg q.ky q.sl q.tx q.sub=0
   ·rw[if_pos z];simp(maxSteps:=1000000) (disch:=omega) only[evs,↓reduceIte,Nat.reduceEqDiff,Nat.reduceAdd,Nat.reduceMul,Nat.reduceLeDiff,Nat.reduceLT,Int.reduceNeg,DF,eff,Nat.reduceSub,aa];exact⟨by simp[okK,z],F_h1.then F2⟩
   ·rw[if_neg z];simp(maxSteps:=1000000) (disch:=omega) only[evs,↓reduceIte,Nat.reduceEqDiff,Nat.reduceAdd,Nat.reduceMul,Nat.reduceLeDiff,Nat.reduceLT,Int.reduceNeg,DF,eff,Nat.reduceSub,aa];exact⟨by simp[okK,c,z],F_h1.then F2⟩
theorem pH{h:Heap}{v:V}{L:List Knd}(w:WF h)(a:ARecs Knd.cells 9 h v L)(hL:∀q∈L,KndH h q)(hn:L.length≤70368744177664):
    au go 62 [v,.func (.func 97) [] []] h fun u h'=>∃r:Int,u=.int .i64 r∧(decide (0≤r)= !L.all okK)∧Fr [] h h':=by
  refine af ?_;simp(maxSteps:=1000000) (disch:=omega) only[evs,↓reduceIte,Nat.reduceEqDiff,Nat.reduceAdd,Nat.reduceMul,Nat.reduceLeDiff,Nat.reduceLT,Int.reduceNeg,DF,eff,Nat.reduceSub,aa,ARecs.len a];refine aQ (fun k env hh=>Fr [] h hh∧∃(i:Nat),env.get 8=some (.int .i64 i)∧env.get 7=some (.int .i64 L.length)∧env.get 0=some v∧env.get 1=some (.func (.func 97) [] [])∧
      i≤L.length∧(L.drop i).all okK=L.all okK∧k=L.length-i) L.length (by omega) ?_ ?_
  ·exact⟨Fr.refl w,0,(by simp[T.get_set]),(by simp[T.get_set]),(by simp[T.get_set]),(by simp[T.get_set]),by omega,rfl,rfl⟩
  ·rintro k env hh ⟨F,i,g8,g7,g0,g1,hi,e,rfl⟩;by_cases hlt:i<L.length
   ·have hlt':(i:Int)<L.length:=by omega
    obtain⟨b,o,s,e1,_,e3,e5⟩:=(ARecs.fr a F).ix bQ .i64 i (by omega) hlt';rw[Int.toNat_natCast]at e5;rw[bq e5,List.all_cons]at e;have hs:=hL s (List.mem_of_getElem? e5);simp(maxSteps:=1000000) (disch:=omega) only[evs,↓reduceIte,Nat.reduceEqDiff,Nat.reduceAdd,Nat.reduceMul,Nat.reduceLeDiff,Nat.reduceLT,Int.reduceNeg,DF,eff,Nat.reduceSub,aa,g8,g7,g0,g1,hlt',e1,e3];refine ae (wo F.wf (hs.fr F)) ?_;rintro _ h1 ⟨rfl,F1⟩;cases c:okK s
    ·simp(maxSteps:=1000000) (disch:=omega) only[evs,↓reduceIte,Nat.reduceEqDiff,Nat.reduceAdd,Nat.reduceMul,Nat.reduceLeDiff,Nat.reduceLT,Int.reduceNeg,DF,eff,Nat.reduceSub,aa,g8,g7,g0,g1];rw[c]at e;exact⟨i,rfl,by rw[←e];simp,F.then F1⟩
    ·simp(maxSteps:=1000000) (disch:=omega) only[evs,↓reduceIte,Nat.reduceEqDiff,Nat.reduceAdd,Nat.reduceMul,Nat.reduceLeDiff,Nat.reduceLT,Int.reduceNeg,DF,eff,Nat.reduceSub,aa,g8,g7,g0,g1];rw[c]at e;refine rqn ⟨L.length-(i+1),by omega,F.then F1,i+1,(by simp[T.get_set]),(by simp[T.get_set,g7]),(by simp[T.get_set,g0]),(by simp[T.get_set,g1]),by omega,by simpa using e,rfl⟩
     done
   ·simp(maxSteps:=1000000) (disch:=omega) only[evs,↓reduceIte,Nat.reduceEqDiff,Nat.reduceAdd,Nat.reduceMul,Nat.reduceLeDiff,Nat.reduceLT,Int.reduceNeg,DF,eff,Nat.reduceSub,aa,g8,g7,g0,g1,show¬(i:Int)<L.length by omega];rw[List.drop_of_length_le (by omega)]at e;exact⟨-1,rfl,by rw[←e];rfl,F⟩
/-- the rules are right -/
def okR(L:List Knd)(cap:Int):Bool:=decide (1≤L.length)&&(decide (L.length≤8)&&(decide (1≤cap)&&(decide (cap≤64)&&L.all okK)))
theorem fH{h:Heap}{v:V}{L:List Knd}{cap:Int}(w:WF h)(a:ARecs Knd.cells 9 h v L)(hL:∀q∈L,KndH h q)(hn:L.length≤70368744177664):
    au go 47 [.agg [v,.int .i64 cap]] h fun u h'=>u=.int .i64 (if okR L cap then 0 else 7)∧Fr [] h h':=by
  obtain⟨h1,e_h1⟩:∃h1,h1=halloc h [v,.int .i64 cap]:=⟨_,rfl⟩;have F_h1:Fr [] h h1:=e_h1▸Fr.halloc w _;have o_h1:Own h1 h.next [v,.int .i64 cap]:=e_h1▸Own.new w _;have l0:ab h1 h.next 0=some v:=o_h1.ld1 0;have l1:ab h1 h.next 1=some (.int .i64 cap):=o_h1.ld1 1;have len:=ARecs.len a;by_cases c0:L.length<1
  ·refine af ?_;simp(maxSteps:=1000000) (disch:=omega) only[evs,↓reduceIte,Nat.reduceEqDiff,Nat.reduceAdd,Nat.reduceMul,Nat.reduceLeDiff,Nat.reduceLT,Int.reduceNeg,DF,eff,Nat.reduceSub,aa,←e_h1,l0,len,show(L.length:Int)<1 by omega];exact⟨by simp[okR];omega,F_h1⟩
  by_cases c1:8<L.length
  ·refine af ?_;simp(maxSteps:=1000000) (disch:=omega) only[evs,↓reduceIte,Nat.reduceEqDiff,Nat.reduceAdd,Nat.reduceMul,Nat.reduceLeDiff,Nat.reduceLT,Int.reduceNeg,DF,eff,Nat.reduceSub,aa,←e_h1,l0,len,show¬(L.length:Int)<1 by omega,show(8:Int)<L.length by omega];exact⟨by simp[okR];omega,F_h1⟩
  by_cases c2:cap<1
  ·refine af ?_;simp(maxSteps:=1000000) (disch:=omega) only[evs,↓reduceIte,Nat.reduceEqDiff,Nat.reduceAdd,Nat.reduceMul,Nat.reduceLeDiff,Nat.reduceLT,Int.reduceNeg,DF,eff,Nat.reduceSub,aa,←e_h1,l0,l1,len,show¬(L.length:Int)<1 by omega,show¬(8:Int)<L.length by omega,c2];exact⟨by simp[okR];omega,F_h1⟩
  by_cases c3:64<cap
  ·refine af ?_;simp(maxSteps:=1000000) (disch:=omega) only[evs,↓reduceIte,Nat.reduceEqDiff,Nat.reduceAdd,Nat.reduceMul,Nat.reduceLeDiff,Nat.reduceLT,Int.reduceNeg,DF,eff,Nat.reduceSub,aa,←e_h1,l0,l1,len,show¬(L.length:Int)<1 by omega,show¬(8:Int)<L.length by omega,c2,c3];exact⟨by simp[okR];omega,F_h1⟩
  refine af ?_;simp(maxSteps:=1000000) (disch:=omega) only[evs,↓reduceIte,Nat.reduceEqDiff,Nat.reduceAdd,Nat.reduceMul,Nat.reduceLeDiff,Nat.reduceLT,Int.reduceNeg,DF,eff,Nat.reduceSub,aa,←e_h1,l0,l1,len,show¬(L.length:Int)<1 by omega,show¬(8:Int)<L.length by omega,c2,c3];refine ae (?_:au go 28 _ _ (fun u h'=>u=.bool (!L.all okK)∧Fr [] h1 h')) ?_
  ·refine af ?_;simp(maxSteps:=1000000) (disch:=omega) only[evs,↓reduceIte,Nat.reduceEqDiff,Nat.reduceAdd,Nat.reduceMul,Nat.reduceLeDiff,Nat.reduceLT,Int.reduceNeg,DF,eff,Nat.reduceSub,aa];refine ae (pH F_h1.wf (ARecs.fr a F_h1) (fun q m=>(hL q m).fr F_h1) hn) ?_;rintro _ h2 ⟨r,rfl,e,F2⟩;simp(maxSteps:=1000000) (disch:=omega) only[evs,↓reduceIte,Nat.reduceEqDiff,Nat.reduceAdd,Nat.reduceMul,Nat.reduceLeDiff,Nat.reduceLT,Int.reduceNeg,DF,eff,Nat.reduceSub,aa];exact⟨by rw[e],F2⟩
  ·rintro _ h2 ⟨rfl,F2⟩;have e:okR L cap=L.all okK:=by simp[okR,show 1≤L.length by omega,show L.length≤8 by omega,show 1≤cap by omega,show cap≤64 by omega]
   rw[e];cases c4:L.all okK
   ·simp(maxSteps:=1000000) (disch:=omega) only[evs,↓reduceIte,Nat.reduceEqDiff,Nat.reduceAdd,Nat.reduceMul,Nat.reduceLeDiff,Nat.reduceLT,Int.reduceNeg,DF,eff,Nat.reduceSub,aa];exact F_h1.then F2
   ·simp(maxSteps:=1000000) (disch:=omega) only[evs,↓reduceIte,Nat.reduceEqDiff,Nat.reduceAdd,Nat.reduceMul,Nat.reduceLeDiff,Nat.reduceLT,Int.reduceNeg,DF,eff,Nat.reduceSub,aa];exact F_h1.then F2
theorem tk{L:List Knd}{cap:Int}(ok:okR L cap=true):∀q∈L,okK q=true:=by
  unfold okR at ok;simp only[Bool.and_eq_true]at ok;exact List.all_eq_true.1 ok.2.2.2.2
theorem iQ{L:List Knd}{cap:Int}(ok:okR L cap=true):1≤L.length∧L.length≤8:=by
  unfold okR at ok;simp only[Bool.and_eq_true,decide_eq_true_eq]at ok;exact⟨ok.1,ok.2.1⟩
theorem Knd.small{q:Knd}(h:okK q=true):PT.small (.cons q.k q.tg q.ky q.sl q.tx q.vs q.vp q.sub .nil):=by
  unfold okK at h;simp only[Bool.and_eq_true,decide_eq_true_eq]at h;have h2:=h.2;unfold PT.count at h2;split at h2
  ·rename_i z;have:(PT.walk (.cons q.k q.tg q.ky q.sl q.tx q.vs q.vp q.sub .nil) 1 0).2=true:=by
     simp only[PT.walk];rw[if_pos z.2]
   exact PT.walk_small _ 1 0 this
  ·exact absurd rfl h2
set_option maxRecDepth 4000
namespace PT
/-- equal, but for where they stand -/
def same:PT→PT→Prop
  |nil,nil=>True
  |cons k tg ky sl tx _ _ s n,cons k' tg' ky' sl' tx' _ _ s' n'=>k=k'∧tg=tg'∧ky=ky'∧sl=sl'∧tx=tx'∧same s s'∧same n n'
  |_,_=>False
theorem same_len:∀{a b:PT},same a b→a.len=b.len
  |nil,nil,_=>rfl
  |cons _ _ _ _ _ _ _ _ _,cons _ _ _ _ _ _ _ _ _,h=>by simp only[len,same_len h.2.2.2.2.2.2]
  |nil,cons _ _ _ _ _ _ _ _ _,h=>h.elim
  |cons _ _ _ _ _ _ _ _ _,nil,h=>h.elim
theorem gT:∀{a b:PT},same a b→∀l c,a.walk l c=b.walk l c
  |nil,nil,_,_,_=>rfl
  |cons k tg ky sl tx _ _ s n,cons _ _ _ _ _ _ _ s' n',⟨h1,h2,h3,h4,h5,h6,h7⟩,l,c=>by
    subst h1 h2 h3 h4 h5;have e1:node k tg ky sl tx s s.walk l c=node k tg ky sl tx s' s'.walk l c:=by
      unfold node;rw[same_len h6,gT h6]
    simp only[walk,e1,gT h7]
  |nil,cons _ _ _ _ _ _ _ _ _,h,_,_=>h.elim
  |cons _ _ _ _ _ _ _ _ _,nil,h,_,_=>h.elim
theorem same_count(k:Nat)(tg ky:Str)(sl:List Slo)(tx:Str){s s':PT}(h:same s s'):count k tg ky sl tx s=count k tg ky sl tx s':=by
  have e1:node k tg ky sl tx s s.walk 1 0=node k tg ky sl tx s' s'.walk 1 0:=by
    unfold node;rw[same_len h,gT h]
  unfold count;rw[e1]
def app:PT→PT→PT
  |nil,t=>t
  |cons k tg ky a tx va vc sub nx,t=>cons k tg ky a tx va vc sub (nx.app t)
theorem app_cells:∀a b:PT,(a.app b).cells=a.cells++b.cells
  |nil,_=>rfl
  |cons _ _ _ _ _ _ _ _ nx,b=>by simp only[app,cells,app_cells nx b,List.append_assoc]
theorem app_len:∀a b:PT,(a.app b).len=a.len+b.len
  |nil,b=>by simp[app,len]
  |cons _ _ _ _ _ _ _ _ nx,b=>by simp only[app,len,app_len nx b];omega
theorem same_app:∀{a b c d:PT},same a b→same c d→same (a.app c) (b.app d)
  |nil,nil,_,_,_,h=>h
  |cons _ _ _ _ _ _ _ _ _,cons _ _ _ _ _ _ _ _ _,_,_,h,g=>⟨h.1,h.2.1,h.2.2.1,h.2.2.2.1,h.2.2.2.2.1,h.2.2.2.2.2.1,same_app h.2.2.2.2.2.2 g⟩
  |nil,cons _ _ _ _ _ _ _ _ _,_,_,h,_=>h.elim
  |cons _ _ _ _ _ _ _ _ _,nil,_,_,h,_=>h.elim
/-- the first i -/
def take':PT→Nat→PT
  |_,0=>nil
  |nil,_+1=>nil
  |cons k tg ky a tx va vc sub nx,i+1=>cons k tg ky a tx va vc sub (nx.take' i)
theorem take_app:∀(t:PT)(i:Nat),(t.take' i).app (t.at' i)=t
  |nil,0=>rfl
  |nil,_+1=>rfl
  |cons _ _ _ _ _ _ _ _ _,0=>rfl
  |cons _ _ _ _ _ _ _ _ nx,i+1=>by simp only[take',at',app,take_app nx i]
theorem take_succ{t:PT}{i k:Nat}{tg ky tx:Str}{sl:List Slo}{va vc:V}{sub nx:PT}(h:t.at' i=cons k tg ky sl tx va vc sub nx):t.take' (i+1)=(t.take' i).app (cons k tg ky sl tx va vc sub nil):=by
  induction i generalizing t with
  |zero=>
    cases t with
    |nil=>cases h
    |cons _ _ _ _ _ _ _ _ nx'=>cases h;cases nx<;>rfl
  |succ i ih=>
    cases t with
    |nil=>cases h
    |cons _ _ _ _ _ _ _ _ nx'=>
      simp only[take',app];rw[ih h]
end PT
theorem PH.app{h:Heap}:∀{a b:PT},PH h a→PH h b→PH h (a.app b)
  |.nil,_,_,q=>q
  |.cons _ _ _ _ _ _ _ _ _,_,⟨x1,x2,x3,x4,x5,x6,x7⟩,q=>⟨x1,x2,x3,x4,x5,x6,PH.app x7 q⟩
/-- the code of the copying functions -/
theorem yB:F.get 50=some (tpF 50):=rfl
theorem yA:F.get 57=some (tpF 57):=rfl
/-- a part is copied -/
def PCp(N:Nat)(k:Nat)(tg ky:Str)(sl:List Slo)(tx:Str)(vs vp:V)(sub:PT):Prop:=∀(h:Heap),WF h→PH h (.cons k tg ky sl tx vs vp sub .nil)→
  PT.small (.cons k tg ky sl tx vs vp sub .nil)→au go N [.agg [.int .u8 (k:Int),.str tg,.str ky,vs,.str tx,vp]] h fun u h'=>∃vs' vp' sub',u=.agg [.int .u8 (k:Int),.str tg,.str ky,vs',.str tx,vp']∧PT.same sub sub'∧Fr [] h h'∧
    ∀(X:List Nat)(h2:Heap),(∀y∈X,y<h.next)→Fr X h' h2→PH h2 (.cons k tg ky sl tx vs' vp' sub' .nil)
def PCs(N:Nat):PT→Prop
  |.nil=>True
  |.cons k tg ky sl tx vs vp sub nx=>PCp N k tg ky sl tx vs vp sub∧PCs N nx
theorem PCs.at'{N:Nat}:∀{t:PT}(i:Nat),PCs N t→PCs N (t.at' i)
  |.nil,0,_=>trivial
  |.nil,_+1,_=>trivial
  |.cons _ _ _ _ _ _ _ _ _,0,a=>a
  |.cons _ _ _ _ _ _ _ _ _,i+1,⟨_,g⟩=>PCs.at' i g
theorem Gn.frH{e:Nat}{h h':Heap}{B n:Nat}{v:V}{cs:List V}{X:List Nat}(w:WF h)(g:Gn e h B v n cs)(f:Fr X h h')(hx:∀x∈X,x<B∨h.next≤x):Gn e h' B v n cs:=by
  obtain⟨hl,⟨rfl,rfl|⟨b,hb,rfl,o⟩⟩|⟨b,hb,rfl,o⟩⟩:=g
  ·exact⟨hl,.inl ⟨rfl,.inl rfl⟩⟩
  ·exact⟨hl,.inl ⟨rfl,.inr ⟨b,hb,rfl,f.own _ _ (fun m=>by have:=hx _ m;have:=o.lt w;omega) o⟩⟩⟩
  ·exact⟨hl,.inr ⟨b,hb,rfl,f.own _ _ (fun m=>by have:=hx _ m;have:=o.lt w;omega) o⟩⟩
theorem iW{k:Nat}{tg ky:Str}{sl:List Slo}{tx:Str}{vs vp:V}{sub:PT}{N:Nat}(gN:F.get N=some (tpF N))(P:PCs N sub):PCp N k tg ky sl tx vs vp sub:=by
  intro h w ⟨hk,rs,ls0,sp,lp0,ph,_⟩ ⟨ls,lp,sm0,_⟩;have zs:nZ vs=true:=rfl;have zp:nZ vp=true:=rfl;obtain⟨h1,e_h1⟩:∃h1,h1=halloc h [.int .u8 (k:Int),.str tg,.str ky,vs,.str tx,vp]:=⟨_,rfl⟩;have F_h1:Fr [] h h1:=e_h1▸Fr.halloc w _;have o_h1:Own h1 h.next [.int .u8 (k:Int),.str tg,.str ky,vs,.str tx,vp]:=e_h1▸Own.new w _;obtain⟨h2,e_h2⟩:∃h2,h2=halloc h1 [.int .u8 0,.str [],.str [],.nils,.str [],.nils]:=⟨_,rfl⟩;have F_h2:Fr [] h1 h2:=e_h2▸Fr.halloc F_h1.wf _;have o_h2:Own h2 h1.next [.int .u8 0,.str [],.str [],.nils,.str [],.nils]:=e_h2▸Own.new F_h1.wf _;have n1:h1.next=h.next+1:=by rw[e_h1];rfl
  have n2:h2.next=h1.next+1:=by rw[e_h2];rfl
  have F02:=F_h1.then F_h2;have ob:=F_h2.get o_h1;have l3:ab h2 h.next 3=some vs:=ob.ld1 3;have l5:ab h2 h.next 5=some vp:=ob.ld1 5;refine af (hf:=gN) ?_;simp(maxSteps:=1000000) (disch:=omega) only[tpF,evs,↓reduceIte,Nat.reduceEqDiff,Nat.reduceAdd,Nat.reduceMul,Nat.reduceLeDiff,Nat.reduceLT,Int.reduceNeg,DF,eff,Nat.reduceSub,aa,←e_h1,←e_h2,l3];refine ae (iC F_h2.wf (ARecs.fr rs F02) zs (by omega)) ?_;rintro vs' h3 ⟨gs,F3⟩;simp(maxSteps:=1000000) (disch:=omega) only[evs,↓reduceIte,Nat.reduceEqDiff,Nat.reduceAdd,Nat.reduceMul,Nat.reduceLeDiff,Nat.reduceLT,Int.reduceNeg,DF,eff,Nat.reduceSub,aa];refine ao (c':=[.int .u8 (k:Int),.str tg,.str ky,vs',.str tx,vp]) F3.wf (F3.get ob) (by simp[ay gs.one]) (by rw[ay gs.one];simp only[aB,aR,gs.one];rfl) (by rw[ay gs.one];rfl) ?_;rintro h4 o4 F4 n4;have F04:Fr [] h h4:=(F02.then F3).fresh F4 w (Nat.le_refl _);have l5':ab h4 h.next 5=some vp:=o4.ld1 5;simp(maxSteps:=1000000) (disch:=omega) only[evs,↓reduceIte,Nat.reduceEqDiff,Nat.reduceAdd,Nat.reduceMul,Nat.reduceLeDiff,Nat.reduceLT,Int.reduceNeg,DF,eff,Nat.reduceSub,aa,l5'];refine ae (gJ F4.wf (sp.fr F04) zp (by omega)) ?_;rintro vp' h5 ⟨gp,F5⟩;simp(maxSteps:=1000000) (disch:=omega) only[evs,↓reduceIte,Nat.reduceEqDiff,Nat.reduceAdd,Nat.reduceMul,Nat.reduceLeDiff,Nat.reduceLT,Int.reduceNeg,DF,eff,Nat.reduceSub,aa];refine ao (c':=[.int .u8 (k:Int),.str tg,.str ky,vs',.str tx,vp']) F5.wf (F5.get o4) (by simp[ay gp.one]) (by rw[ay gp.one];simp only[aB,aR,gp.one];rfl) (by rw[ay gp.one];rfl) ?_;rintro h6 o6 F6 n6;have l56:ab h6 h.next 5=some vp':=o6.ld1 5;have hn3:=F3.next;have gp6:=gp.fr F6 (by simp;omega);simp(maxSteps:=1000000) (disch:=omega) only[evs,↓reduceIte,Nat.reduceEqDiff,Nat.reduceAdd,Nat.reduceMul,Nat.reduceLeDiff,Nat.reduceLT,Int.reduceNeg,DF,eff,Nat.reduceSub,aa,l56,gp6.sl.len];have F06:Fr [] h h6:=(F04.then F5).fresh F6 w (Nat.le_refl _);have oz6:Own h6 h1.next [.int .u8 0,.str [],.str [],.nils,.str [],.nils]:=F6.own _ _ (by simp;omega) (F5.get (F4.own _ _ (by simp;omega) (F3.get o_h2)));have F26:Fr [h.next] h3 h6:=Fr.trans (Fr.trans (T:=[h.next]) F4 F5 F3.wf (by simp) (by simp)) F6 F3.wf (by simp) (by simp);have gs6:Gn 3 h6 h2.next vs' sl.length (sl.flatMap my):=gs.fr F26 (by simp;omega);have vpl:∀y∈vb vp',h4.next≤y∧y<h6.next:=by
    obtain⟨_,⟨_,rfl|⟨b,_,rfl,_⟩⟩|⟨b,hb,rfl,o⟩⟩:=gp6
    ·simp[vb]
    ·simp[vb]
    ·have:=o.lt F6.wf;simp only[vb,List.mem_singleton];rintro y rfl;exact⟨hb,this⟩
  refine aQ (fun n env hh=>Fr [] h hh∧h6.next≤hh.next∧Own hh h.next [.int .u8 (k:Int),.str tg,.str ky,vs',.str tx,vp']∧Own hh h1.next [.int .u8 0,.str [],.str [],.nils,.str [],.nils]∧(∃X3:List Nat,(∀y∈X3,y<h2.next∨h3.next≤y)∧Fr X3 h3 hh)∧
      ∃(i:Nat)(d:PT),env.get 15=some (.int .i64 i)∧env.get 14=some (.int .i64 sub.len)∧env.get 1=some (.ptr h.next 0)∧env.get 2=some (.ptr h1.next 0)∧i≤sub.len∧d.len=i∧PT.same (sub.take' i) d∧
      Gn 6 hh h4.next vp' sub.len (d.cells++sub.cells.drop (i*6))∧(∀(X:List Nat)(h2:Heap),(∀y∈X,y<h.next∨y=h.next∨y=h1.next∨y∈vb vp')→Fr X hh h2→PH h2 d)∧n=sub.len-i) sub.len (by omega) ?_ ?_
  ·exact⟨F06,Nat.le_refl _,o6,oz6,⟨_,by simp;omega,F26⟩,0,.nil,(by simp[T.get_set]),(by simp[T.get_set]),(by simp[T.get_set]),(by simp[T.get_set]),by omega,rfl,by cases sub<;>trivial,by simpa[PT.cells]using gp6,fun _ _ _ _=>trivial,rfl⟩
  ·rintro n env hh ⟨F,hn,ox,oz,⟨X3,hX3,fX3⟩,i,d,g15,g14,g1,g2,hi,dl,ds,gph,dst,rfl⟩;have lx:ab hh h.next 5=some vp':=ox.ld1 5;by_cases hlt:i<sub.len
   ·have hlt':(i:Int)<sub.len:=by omega
    obtain⟨kc,tgc,kyc,slc,txc,vsc,vpc,sb,nx,e1,e2,e3,e4,e5,e6⟩:=sub.split i hlt;have Pi:=P.at' i;have phi:=ph.at' i;have smi:=PT.small_at i sm0;rw[e1]at Pi phi smi;obtain⟨_,⟨z,_⟩|⟨bp,hbp,rfl,obp⟩⟩:=gph
    ·omega
    have dc:=d.cells_len;rw[dl]at dc;have q0:∀Y:List V,(d.cells++Y).drop (i*6)=Y:=fun Y=>by rw[←dc,List.drop_left]
    have q1:∀Y:List V,(d.cells++Y).take (i*6)=d.cells:=fun Y=>by rw[←dc,List.take_left]
    have q2:∀Y:List V,(d.cells++Y).drop (i*6+6)=Y.drop 6:=fun Y=>by rw[←dc,List.drop_length_add_append]
    have ix:=gh 6 bp 0 sub.len 6 .i64 (i:Int) (by omega) hlt';simp only[Int.toNat_natCast,Nat.zero_add]at ix;have lc:ak hh bp (i*6) 6=some [.int .u8 (kc:Int),.str tgc,.str kyc,vsc,.str txc,vpc]:=by
      rw[obp.ld,aC,q0,e2];rfl
    have hb:=vpl bp (by simp[vb]);simp(maxSteps:=1000000) (disch:=omega) only[evs,↓reduceIte,Nat.reduceEqDiff,Nat.reduceAdd,Nat.reduceMul,Nat.reduceLeDiff,Nat.reduceLT,Int.reduceNeg,DF,eff,Nat.reduceSub,aa,g15,g14,g1,g2,hlt',lx,ix,lc];refine ae (Pi.1 hh F.wf (PH.fr F ⟨phi.1,phi.2.1,phi.2.2.1,phi.2.2.2.1,phi.2.2.2.2.1,phi.2.2.2.2.2.1,trivial⟩) ⟨smi.1,smi.2.1,smi.2.2.1,trivial⟩) ?_;rintro _ h7 ⟨vs2,vp2,sb2,rfl,sm,F7,st2⟩;have lx7:ab h7 h.next 5=some (.sliceU bp 0 sub.len 6):=(F7.get ox).ld1 5;have on:av [.int .u8 (kc:Int),.str tgc,.str kyc,vs2,.str txc,vp2]=true:=PH.ones (st2 [] h7 (by simp) (Fr.refl F7.wf));simp(maxSteps:=1000000) (disch:=omega) only[evs,↓reduceIte,Nat.reduceEqDiff,Nat.reduceAdd,Nat.reduceMul,Nat.reduceLeDiff,Nat.reduceLT,Int.reduceNeg,DF,eff,Nat.reduceSub,aa,g15,g14,g1,g2,lx,lx7,ix,lc];have eC:cg (d.cells++sub.cells.drop (i*6)) (i*6) [.int .u8 (kc:Int),.str tgc,.str kyc,vs2,.str txc,vp2]=some ((d.app (.cons kc tgc kyc slc txc vs2 vp2 sb2 .nil)).cells++sub.cells.drop ((i+1) *6)):=by
      rw[bO _ _ _ (by rw[List.length_append,dc,e2];simp),PT.app_cells];congr 1;show _++_++(d.cells++sub.cells.drop (i*6)).drop (i*6+6)=_;rw[q1,q2,List.drop_drop,show i*6+6=(i+1) *6 by omega];simp[PT.cells]
    refine ao F7.wf (F7.get obp) rfl on eC ?_;rintro h8 o8 F8 n8;have hn7:=F7.next;have F08:Fr [] h h8:=(F.then F7).fresh F8 w (by omega);simp(maxSteps:=1000000) (disch:=omega) only[evs,↓reduceIte,Nat.reduceEqDiff,Nat.reduceAdd,Nat.reduceMul,Nat.reduceLeDiff,Nat.reduceLT,Int.reduceNeg,DF,eff,Nat.reduceSub,aa,g15,g14,g1,g2,lx,lx7,lc];refine rqn ⟨sub.len-(i+1),by omega,F08,by omega,F8.own _ _ (by simp;omega) (F7.get ox),F8.own _ _ (by simp;omega) (F7.get oz),⟨X3++[bp],?_,Fr.trans (Fr.trans fX3 F7 F3.wf (fun y hy=>.inl (by simp[hy])) (by simp)) F8 F3.wf (fun y hy=>.inl hy) (fun y hy=>.inl (by simp at hy;simp[hy]))⟩,i+1,_,(by simp[T.get_set]),(by simp[T.get_set,g14]),(by simp[T.get_set,g1]),(by simp[T.get_set,g2]),by omega,?_,?_,⟨?_,.inr ⟨bp,hbp,rfl,o8⟩⟩,?_,rfl⟩
    ·intro y hy;simp at hy;rcases hy with hy|rfl
     ·exact hX3 y hy
     ·exact .inr (by omega)
    ·rw[PT.app_len,dl];rfl
    ·rw[PT.take_succ e1];exact PT.same_app ds ⟨rfl,rfl,rfl,rfl,rfl,sm,trivial⟩
    ·rw[List.length_append,PT.app_cells,List.length_append,dc,List.length_drop,PT.cells_len,PT.cells_len];simp only[PT.len];omega
    ·intro X h9 hX f9;have f79:Fr ([bp]++X) h7 h9:=Fr.trans F8 f9 F7.wf (fun y hy=>.inl (by simp at hy;simp[hy])) (fun y hy=>.inl (by simp[hy]));have fh9:Fr ([bp]++X) hh h9:=Fr.trans F7 f79 F.wf (by simp) (fun y hy=>.inl hy);refine PH.app (dst _ h9 ?_ fh9) (st2 _ h9 ?_ f79)
     ·intro y hy;simp at hy;rcases hy with rfl|hy
      ·exact .inr (.inr (.inr (by simp[vb])))
      ·exact hX y hy
     ·intro y hy;simp at hy;rcases hy with rfl|hy
      ·omega
      ·rcases hX y hy with q|q|q|q
       ·omega
       ·omega
       ·omega
       ·simp[vb]at q;omega
   ·have hi':i=sub.len:=by omega
    have gsh:=gs.frH F3.wf fX3 hX3;have l6:=ox.at6.2.2.2.2.2.2;have vp1:=gph.one;have vs1:=gsh.one;simp(maxSteps:=1000000) (disch:=omega) only[evs,↓reduceIte,Nat.reduceEqDiff,Nat.reduceAdd,Nat.reduceMul,Nat.reduceLeDiff,Nat.reduceLT,Int.reduceNeg,DF,eff,Nat.reduceSub,aa,g15,g14,g1,g2,show¬(i:Int)<sub.len by omega,l6];refine ao (c':=[.int .u8 (k:Int),.str tg,.str ky,vs',.str tx,vp']) F.wf oz rfl (by simp only[V.cells,aB,aR,vs1,vp1];rfl) rfl ?_;rintro h7 o7 F7 n7;simp(maxSteps:=1000000) (disch:=omega) only[evs,↓reduceIte,Nat.reduceEqDiff,Nat.reduceAdd,Nat.reduceMul,Nat.reduceLeDiff,Nat.reduceLT,Int.reduceNeg,DF,eff,Nat.reduceSub,aa,g1,g2,o7.at6.2.2.2.2.2.2];subst hi';rw[List.drop_of_length_le (by rw[PT.cells_len];omega),List.append_nil]at gph;have te:sub.take' sub.len=sub:=by
      have:=PT.take_app sub sub.len;rw[PT.at_end _ _ (Nat.le_refl _)]at this;have an:∀t:PT,t.app .nil=t:=by
        intro t;induction t with
        |nil=>rfl
        |cons _ _ _ _ _ _ _ _ nx _ ih=>simp only[PT.app,ih]
      rw[an]at this;exact this
    rw[te]at ds;refine⟨vs',vp',d,rfl,ds,F.fresh F7 w (by omega),fun X h8 hX f8=>?_⟩;have f:Fr ([h1.next]++X) hh h8:=Fr.trans F7 f8 F.wf (fun y hy=>.inl (by simp at hy;simp[hy])) (fun y hy=>.inl (by simp[hy]));have a1:=gsh.fr f (by
      intro y hy;simp at hy;rcases hy with rfl|hy
      ·omega
      ·have:=hX y hy;omega)
    have a2:=gph.fr f (by
      intro y hy;simp at hy;rcases hy with rfl|hy
      ·omega
      ·have:=hX y hy;omega)
    refine⟨hk,Sl.a a1.sl,ls0,by rw[dl];exact Sl.a a2.sl,by omega,dst _ h8 ?_ f,trivial⟩;intro y hy;simp at hy;rcases hy with rfl|hy
    ·exact .inr (.inr (.inl rfl))
    ·exact .inl (hX y hy)
theorem pcs{N:Nat}(gN:F.get N=some (tpF N)):∀t:PT,PCs N t
  |.nil=>trivial
  |.cons _ _ _ _ _ _ _ sub nx=>⟨iW gN (pcs gN sub),pcs gN nx⟩
set_option maxRecDepth 4000
def rc(r:Int×Bool×Bool):List V:=[.int .i64 r.1,.bool r.2.1,.bool r.2.2]
theorem xi(r:Int×Bool×Bool):(rc r).length=3:=rfl
abbrev Rws(h:Heap)(v:V)(L:List (Int×Bool×Bool)):Prop:=Recs rc 3 h v L
def sz(L:List (Int×Bool×Bool)):List Int:=L.map fun r=>r.1
def ky(L:List (Int×Bool×Bool)):List Bool:=L.map fun r=>r.2.1
def sy(L:List (Int×Bool×Bool)):List Bool:=L.map fun r=>r.2.2
theorem xd(L:List (Int×Bool×Bool)):(sz L).length=L.length:=by simp[sz]
theorem Rws.ix{h:Heap}{v:V}{L:List (Int×Bool×Bool)}(a:Rws h v L)(i:Nat)(h1:(i:Int)<L.length):
    ∃b o r,aP (.ixs 3) [v,.int .i64 i]=some (.ptr b o)∧ab h b o=some (.int .i64 r.1)∧ab h b (o+1)=some (.bool r.2.1)∧ab h b (o+2)=some (.bool r.2.2)∧ak h b o 3=some [.int .i64 r.1,.bool r.2.1,.bool r.2.2]∧L[i]? =some r:=by
  obtain⟨b,o,s,e,g,g2,e3⟩:=Recs.ix xi a .i64 i (by omega) h1;exact⟨b,o,s,e,by simpa[rc]using g 0 (by omega),by simpa[rc]using g 1 (by omega),by simpa[rc]using g 2 (by omega),g2,by simpa using e3⟩
/-- the last header that lies at an offset, or ahead of it, among the first ones -/
def HdR(l:List Int)(bs:List Bool)(s:Int)(j:Nat)(r:Int):Prop:=(r=-1∧∀i:Nat,i<j→bs.getD i false=true→s<(l.take i).sum)∨
  ∃p:Nat,r=p∧p<j∧bs.getD p false=true∧(l.take p).sum≤s∧∀i:Nat,p<i→i<j→bs.getD i false=true→s<(l.take i).sum
theorem HdR.skip{l:List Int}{bs:List Bool}{s r:Int}{j:Nat}(a:HdR l bs s j r)(h:bs.getD j false=true→s<(l.take j).sum):HdR l bs s (j+1) r:=by
  rcases a with⟨e,a⟩|⟨p,e,h1,h2,h3,h4⟩
  ·refine .inl ⟨e,fun i hi hb=>?_⟩;rcases Nat.lt_or_ge i j with c|c
   ·exact a i c hb
   ·rw[show i=j by omega]at hb⊢;exact h hb
  ·refine .inr ⟨p,e,by omega,h2,h3,fun i hp hi hb=>?_⟩;rcases Nat.lt_or_ge i j with c|c
   ·exact h4 i hp c hb
   ·rw[show i=j by omega]at hb⊢;exact h hb
def ic(x:Int):List V:=[.int .i64 x]
/-- rows that fill their block -/
def RwF(h:Heap)(v:V)(L:List (Int×Bool×Bool)):Prop:=(v=.nils∧L=[])∨∃b,(v=.sliceU b 0 L.length 3∨v=.slice b 0 L.length L.length)∧Own h b (L.flatMap rc)∧0<L.length
theorem RwF.fr{h h':Heap}{v:V}{L:List (Int×Bool×Bool)}(a:RwF h v L)(f:Fr [] h h'):RwF h' v L:=by
  rcases a with x|⟨b,e,o,p⟩
  ·exact .inl x
  ·exact .inr ⟨b,e,f.get o,p⟩
def uc(p:Nat×Nat):List V:=[.int .u8 (p.1:Int),.int .u8 (p.2:Int)]
structure Good(L:List (Int×Bool×Bool)):Prop where
  len:L.length≤1024
  one:∀r∈L,1≤r.1∧r.1≤2305843009213693952
  sum:(sz L).sum≤4611686018427387904
theorem Good.fit{L:List (Int×Bool×Bool)}(g:Good L):Fit (sz L):=by
  refine⟨fun x hx=>?_,g.sum,by rw[xd];have:=g.len;omega⟩;simp only[sz,List.mem_map]at hx;obtain⟨r,hr,rfl⟩:=hx;have:=g.one r hr;omega
theorem Good.pos{L:List (Int×Bool×Bool)}(g:Good L):∀x∈sz L,1≤x:=by
  intro x hx;simp only[sz,List.mem_map]at hx;obtain⟨r,hr,rfl⟩:=hx;exact(g.one r hr).1
def bc(x:Bool):List V:=[.bool x]
/-- growing one slice leaves another one -/
theorem GRecs.keep{α β:Type}{f:α→List V}{g:β→List V}{k k' B B':Nat}{h h':Heap}{v v':V}{L:List α}{M:List β}(a:GRecs f k h B v L)(b:GRecs g k' h B' v' M)(F:Fr (vb v') h h')
    (hd:∀(n:Nat),L.flatMap f=M.flatMap g→(L.flatMap f).length=n*k→¬0<n):GRecs f k h' B v L:=by
  rcases a with x|⟨q,n,rfl,hl,hn,hB,o⟩
  ·exact .inl x
  ·refine .inr ⟨q,n,rfl,hl,hn,hB,F.own _ _ ?_ o⟩;rcases b with⟨rfl,_⟩|⟨q',n',rfl,_,_,_,o'⟩
   ·simp[vb]
   ·simp only[vb,List.mem_singleton];rintro rfl;exact hd n (o.uniq o') hl hn
theorem fD{bs:List Bool}{p:Nat}(h:bs.getD p false=true):(bs.take (p+1)).count true=(bs.take p).count true+1:=by
  rw[List.take_add_one];cases hb:bs[p]? with
  |none=>simp[List.getD,hb]at h
  |some x=>simp[List.getD,hb]at h;subst h;simp
theorem om(bs:List Bool){p q:Nat}(h:p≤q):(bs.take p).count true≤(bs.take q).count true:=by
  have:bs.take p=(bs.take q).take p:=by rw[List.take_take,Nat.min_eq_left h]
  rw[this];exact List.Sublist.count_le _ (List.take_sublist _ _)
theorem Sel.uniq{bs:List Bool}{k p q:Nat}(a:Sel bs k p)(b:Sel bs k q):p=q:=by
  obtain⟨_,a2,a3⟩:=a;obtain⟨_,b2,b3⟩:=b;rcases Nat.lt_trichotomy p q with h|h|h
  ·have:=om bs (show p+1≤q by omega);rw[fD a2]at this;omega
  ·exact h
  ·have:=om bs (show q+1≤p by omega);rw[fD b2]at this;omega
set_option maxRecDepth 4000
structure Hp(h:Heap)(b fb:Nat)(v:V)(L:List (Int×Bool×Bool))(view over:Int):Prop where
  wf:WF h
  glb:Glb h
  lo:Lo h b (sz L) (ky L) (sy L)
  fo:Own h fb [.int .i64 view,.int .i64 over,.bool false]
  rw:Rws h v L
  good:Good L
  v1:1≤view
  v2:view≤300
  o0:0≤over
  o1:over≤16
theorem Hp.fr{h h':Heap}{b fb:Nat}{v:V}{L:List (Int×Bool×Bool)}{view over:Int}(H:Hp h b fb v L view over)(F:Fr [] h h'):Hp h' b fb v L view over:=
  ⟨F.wf,H.glb.fr F,H.lo.fr F,F.get H.fo,Recs.fr H.rw F,H.good,H.v1,H.v2,H.o0,H.o1⟩
def sf(n:Nat)(a k:Int):Prop:=a<0∨k<0∨(n:Int)<a∨(n:Int)-a<k
instance(n:Nat)(a k:Int):Decidable (sf n a k):=by unfold sf;infer_instance
def yf(n:Nat)(a k t:Int):Prop:=sf n a k∨t<0∨(n:Int)-k<t
instance(n:Nat)(a k t:Int):Decidable (yf n a k t):=by unfold yf;infer_instance
/-- rows taken out -/
def rM{α:Type}(l:List α)(a k:Nat):List α:=l.take a++(l.drop a).drop k
/-- where the places are behind a removal -/
def rmv(a n:Int)(f:Int→Bool)(x:Int):Bool:=if x<a then f x else f (x+n)
theorem s6{α:Type}{l:List α}{a k:Nat}(h:a+k≤l.length):(rM l a k).length=l.length-k:=by
  unfold rM;simp;omega
theorem s7{α:Type}{l:List α}{a k:Nat}(h:a≤l.length)(i:Nat):(rM l a k)[i]? =if i<a then l[i]? else l[i+k]? :=by
  unfold rM;by_cases c:i<a
  ·rw[List.getElem?_append_left (by simp;omega),List.getElem?_take,if_pos c,if_pos c]
  ·rw[List.getElem?_append_right (by simp;omega),if_neg c,List.getElem?_drop,List.getElem?_drop];congr 1;simp;omega
theorem rL{l:List Bool}{a k:Nat}(h:a≤l.length)(i:Nat):(rM l a k).getD i false=if i<a then l.getD i false else l.getD (i+k) false:=by
  rw[List.getD_eq_getElem?_getD,s7 h];split<;>simp[List.getD_eq_getElem?_getD]
theorem wj{n:Nat}{a k:Int}(c:¬sf n a k):0≤a∧0≤k∧a.toNat+k.toNat≤n:=by
  unfold sf at c;omega
theorem Kn.rem{L L':List (Int×Int)}{ks:List Bool}{a k:Int}(K:Kn L ks)(c:¬sf ks.length a k)(ok:SOK L' (-1))(e:∀x,inS L' x=rmv a k (inS L) x)(le:∀s∈L',s.2≤(ks.length:Int)-k):Kn L' (rM ks a.toNat k.toNat):=by
  obtain⟨c0,c1,c2⟩:=wj c;have hl:=s6 c2;refine⟨ok,fun s hs=>by rw[hl];have:=le s hs;omega,fun i=>?_⟩;rw[e,rL (by omega)];unfold rmv;by_cases q:(i:Int)<a
  ·rw[if_pos q,if_pos (by omega),K.eq]
  ·rw[if_neg q,if_neg (by omega),show(i:Int)+k=((i+k.toNat:Nat):Int) by omega,K.eq]
/-- cells written into a block out of a slice -/
theorem sj{h:Heap}{b o dl dc n:Nat}{v:V}{c cs:List V}{K:V→Heap→Prop}(w:WF h)(a:Own h b c)(s:Sl h 1 v n cs)(h1:av cs=true)(ho:o+dl≤c.length)
    (k:∀h',Own h' b (c.take o++cs.take (min n dl)++c.drop (o+min n dl))→Fr [b] h h'→h'.next=h.next→K (.int .i64 (min n dl:Nat)) h'):OQ (lZ h 1 (.slice b o dl dc) v) K:=by
  have hcs:cs.length=n:=by have:=s.1;omega
  have sl:srcLen v=some n:=by
    obtain⟨_,e⟩:=s;cases v<;>simp only[srcLen]at e⊢;all_goals first|exact e.elim|(rw[e.1])|(rw[e])
  have src:0<min n dl→srcCells h 1 v (min n dl)=some (cs.take (min n dl)):=by
    intro hp;obtain⟨_,e⟩:=s;have main:∀bb oo d,Own h bb d→oo+n*1≤d.length→cs=(d.drop oo).take (n*1)→ak h bb oo (min n dl*1)=some (cs.take (min n dl)):=by
      intro bb oo d od hl e;rw[od.ld,aC,bL _ _ (by simp;omega),e];simp only[Nat.mul_one,List.take_take];congr 2;omega
    cases v<;>simp only[srcCells]at e⊢;all_goals first|exact e.elim|(obtain⟨_,_,d,od,hl,e⟩:=e;exact main _ _ d od hl e)|(omega)
  have hmn:Nat.min n dl=min n dl:=rfl;unfold lZ;have dlen:ee (.slice b o dl dc)=some dl:=rfl;rw[dlen,sl];simp only[hmn];by_cases z:min n dl=0
  ·rw[z]at k⊢;simp only[Nat.beq_refl,cond_true];refine⟨_,_,rfl,k h ?_ (Fr.refl w) rfl⟩;simpa using a
  ·rw[f6 z];simp only[cond_false,src (by omega)];have ht:av (cs.take (min n dl))=true:=by
     unfold av at h1⊢;rw[List.all_eq_true]at h1⊢;exact fun x hx=>h1 x (List.mem_of_mem_take hx)
   have hlt:(cs.take (min n dl)).length=min n dl:=by simp;omega
   obtain⟨h',e1,o1,f1,n1⟩:=lu w a ht (bO c o (cs.take (min n dl)) (by rw[hlt];omega));rw[hlt]at o1;rw[e1];exact⟨_,_,rfl,k h' o1 f1 n1⟩
/-- a layout, with the block of its marks -/
def LoP(h:Heap)(b:Nat)(pm:Option Nat)(l:List Int)(ks bs:List Bool):Prop:=∃p vk,Own h b [pv p,vk,pv pm]∧vk.one=true∧Ix h (.agg [pv p,vk]) l ks∧Mk h pm bs∧bs.length=l.length
theorem LoP.lo{h:Heap}{b:Nat}{pm:Option Nat}{l:List Int}{ks bs:List Bool}(a:LoP h b pm l ks bs):Lo h b l ks bs:=by
  obtain⟨p,vk,x⟩:=a;exact⟨p,vk,pm,x⟩
theorem Lo.p{h:Heap}{b:Nat}{l:List Int}{ks bs:List Bool}(a:Lo h b l ks bs):∃pm,LoP h b pm l ks bs:=by
  obtain⟨p,vk,pm,x⟩:=a;exact⟨pm,p,vk,x⟩
theorem LoP.fr{h h':Heap}{b:Nat}{pm:Option Nat}{l:List Int}{ks bs:List Bool}(a:LoP h b pm l ks bs)(f:Fr [] h h'):LoP h' b pm l ks bs:=by
  obtain⟨p,vk,o,v1,ix,mk,e⟩:=a;exact⟨p,vk,f.get o,v1,ix.fr f,mk.fr f,e⟩
/-- what is neither the layout's block nor its marks' stays -/
abbrev FrQ(b:Nat)(pm:Option Nat)(h h':Heap):Prop:=Fr (b::pm.toList) h h'
theorem FrQ.b{h h1 h2:Heap}{b:Nat}{pm:Option Nat}(a:FrQ b pm h h1)(f:Fr [b] h1 h2)(w:WF h):FrQ b pm h h2:=Fr.trans a f w (fun x hx=>.inl hx) (fun x hx=>.inl (by simp at hx;simp[hx]))
theorem FrQ.q{h h1 h2:Heap}{b q:Nat}{pm:Option Nat}(a:FrQ b pm h h1)(f:Fr [q] h1 h2)(w:WF h)(hq:pm=some q∨h.next≤q):FrQ b pm h h2:=by
  refine Fr.trans a f w (fun x hx=>.inl hx) (fun x hx=>?_);simp at hx;subst hx;rcases hq with e|e
  ·left;simp[e]
  ·exact .inr e
theorem FrQ.then{h h1 h2:Heap}{b:Nat}{pm:Option Nat}(a:FrQ b pm h h1)(f:Fr [] h1 h2)(w:WF h):FrQ b pm h h2:=Fr.trans a f w (fun x hx=>.inl hx) (by simp)
theorem LoP.qb{h:Heap}{b q:Nat}{l:List Int}{ks bs:List Bool}(a:LoP h b (some q) l ks bs):b≠q:=by
  obtain⟨p,vk,o,v1,ix,mk,e⟩:=a;rintro rfl;obtain⟨ws,oq,ok,_⟩:=(mk:Fl h b bs);have:=congrArg List.length (oq.uniq o);rw[vW,ok.len]at this;simp at this
/-- equal kinds, but for where they stand -/
def Knd.same(q p:Knd):Prop:=q.k=p.k∧q.tg=p.tg∧q.ky=p.ky∧q.sl=p.sl∧q.tx=p.tx∧q.base=p.base∧q.sticky=p.sticky∧q.pool=p.pool∧PT.same q.sub p.sub
theorem Knd.same_okK{q p:Knd}(h:q.same p):okK q=okK p:=by
  obtain⟨h1,h2,h3,h4,h5,h6,_,_,h9⟩:=h;unfold okK;rw[h1,h2,h3,h4,h5,h6,PT.same_count _ _ _ _ _ h9]
def bY:List Knd→List Knd→Prop
  |[],[]=>True
  |q::l,p::m=>q.same p∧bY l m
  |_,_=>False
theorem dU:∀{a b:List Knd},bY a b→a.length=b.length
  |[],[],_=>rfl
  |_::_,_::_,h=>by simp[dU h.2]
  |[],_::_,h=>h.elim
  |_::_,[],h=>h.elim
theorem ju:∀{a b:List Knd},bY a b→a.all okK=b.all okK
  |[],[],_=>rfl
  |_::_,_::_,h=>by rw[List.all_cons,List.all_cons,Knd.same_okK h.1,ju h.2]
  |[],_::_,h=>h.elim
  |_::_,[],h=>h.elim
theorem jt{a b:List Knd}(h:bY a b)(cap:Int):okR a cap=okR b cap:=by
  unfold okR;rw[dU h,ju h]
theorem fO:∀{a b c d:List Knd},bY a b→bY c d→bY (a++c) (b++d)
  |[],[],_,_,_,g=>g
  |_::_,_::_,_,_,h,g=>⟨h.1,fO h.2 g⟩
  |[],_::_,_,_,h,_=>h.elim
  |_::_,[],_,_,h,_=>h.elim
/-- what is new cannot be written to before -/
theorem _root_.Go.Ev.Fr.old{S:List Nat}{h h':Heap}(w:WF h)(f:Fr S h h'):Fr (S.filter fun x=>decide (x<h.next)) h h':=
  ⟨f.next,f.wf,fun b c hb o=>f.own b c (fun m=>hb (by have:=o.lt w;simp[m,this])) o,fun b c hb o=>f.pl b c (fun m=>hb (by have:=o.own.lt w;simp[m,this])) o,f.lp,f.ro⟩
theorem tM{h:Heap}{b:Nat}(o:Own h b [.nils,.int .i64 0,.int .i64 0]):au go 100 [.ptr b 0,.int .i64 0,.nils] h fun u h'=>u=.int .i64 0∧h=h':=by
  have k:GpT h b (b+1) .nils [] [] [] 0 0 0:=⟨o,⟨rfl,.inl ⟨rfl,rfl⟩⟩,rfl,rfl,rfl,rfl,rfl,by omega,by omega,by omega,fun x m=>by simp at m⟩;have e:xA (0+0) 0 0=0:=rfl;refine af ?_;simp(maxSteps:=1000000) (disch:=omega) only[evs,↓reduceIte,Nat.reduceEqDiff,Nat.reduceAdd,Nat.reduceMul,Nat.reduceLeDiff,Nat.reduceLT,Int.reduceNeg,DF,eff,Nat.reduceSub,aa];refine ae (r8 k 0 0) ?_;rintro _ _ ⟨rfl,rfl⟩;rw[e];simp(maxSteps:=1000000) (disch:=omega) only[evs,↓reduceIte,Nat.reduceEqDiff,Nat.reduceAdd,Nat.reduceMul,Nat.reduceLeDiff,Nat.reduceLT,Int.reduceNeg,DF,eff,Nat.reduceSub,aa];refine ae (dZ k) ?_;rintro _ _ ⟨rfl,rfl⟩;simp(maxSteps:=1000000) (disch:=omega) only[evs,↓reduceIte,Nat.reduceEqDiff,Nat.reduceAdd,Nat.reduceMul,Nat.reduceLeDiff,Nat.reduceLT,Int.reduceNeg,DF,eff,Nat.reduceSub,aa,show¬((4096:Int)-((0+0:Nat):Int)<0) by omega]
theorem tL{h:Heap}(w:WF h):au go 48 [.nils] h fun z h'=>∃b,z=.tup [.ptr b 0,.int .i64 0]∧h.next≤b∧Own h' b [.nils,.int .i64 0,.int .i64 0]∧Fr [] h h':=by
  obtain⟨h1,e_h1⟩:∃h1,h1=halloc h [.nils,.int .i64 0,.int .i64 0]:=⟨_,rfl⟩;have F_h1:Fr [] h h1:=e_h1▸Fr.halloc w _;have o_h1:Own h1 h.next [.nils,.int .i64 0,.int .i64 0]:=e_h1▸Own.new w _;refine af ?_;simp(maxSteps:=1000000) (disch:=omega) only[evs,↓reduceIte,Nat.reduceEqDiff,Nat.reduceAdd,Nat.reduceMul,Nat.reduceLeDiff,Nat.reduceLT,Int.reduceNeg,DF,eff,Nat.reduceSub,aa,←e_h1];refine ae (tM o_h1) ?_;rintro _ _ ⟨rfl,rfl⟩;simp(maxSteps:=1000000) (disch:=omega) only[evs,↓reduceIte,Nat.reduceEqDiff,Nat.reduceAdd,Nat.reduceMul,Nat.reduceLeDiff,Nat.reduceLT,Int.reduceNeg,DF,eff,Nat.reduceSub,aa];exact⟨h.next,rfl,Nat.le_refl _,o_h1,F_h1⟩
theorem xV{h:Heap}{v:V}{L:List Knd}{cap:Int}(w:WF h)(a:ARecs Knd.cells 9 h v L)(hL:∀q∈L,KndH h q)(hn:L.length≤16)(ok:okR L cap=true):
    au go 23 [.agg [v,.int .i64 cap]] h fun u h'=>∃b bg bm bl vK K,u=.tup [.ptr b 0,.int .i64 0]∧Fr [] h h'∧bY L K∧Own h' b [vK,.int .i64 cap,.ptr bg 0,.ptr bm 0,.ptr bl 0]∧
      Own h' bg [.nils,.int .i64 0,.int .i64 0]∧Km h' bm bm (fun _=>none) 0∧LoP h' bl none [] [] []∧h.next<bg∧bg<bm∧bm<bl∧bl<b∧h.next<h'.next∧Own h' h.next [v,.int .i64 cap]∧
      (∀(X:List Nat)(h2:Heap),(∀y∈X,y≤h.next∨y=b∨y=bg∨y=bm∨y=bl∨h'.next≤y)→Fr X h' h2→ARecs Knd.cells 9 h2 vK K∧∀q∈K,KndH h2 q):=by
  have zv:nZ v=true:=rfl;obtain⟨h1,e_h1⟩:∃h1,h1=halloc h [v,.int .i64 cap]:=⟨_,rfl⟩;have F_h1:Fr [] h h1:=e_h1▸Fr.halloc w _;have o_h1:Own h1 h.next [v,.int .i64 cap]:=e_h1▸Own.new w _;have l0:ab h1 h.next 0=some v:=o_h1.ld1 0;have l2:ak h1 h.next 0 2=some [v,.int .i64 cap]:=by rw[o_h1.ld];rfl
  refine af ?_;simp(maxSteps:=1000000) (disch:=omega) only[evs,↓reduceIte,Nat.reduceEqDiff,Nat.reduceAdd,Nat.reduceMul,Nat.reduceLeDiff,Nat.reduceLT,Int.reduceNeg,DF,eff,Nat.reduceSub,aa,←e_h1,l2];refine ae (fH F_h1.wf (ARecs.fr a F_h1) (fun q m=>(hL q m).fr F_h1) (by omega)) ?_;rintro _ h2 ⟨rfl,F2⟩;rw[ok,if_pos rfl];simp(maxSteps:=1000000) (disch:=omega) only[evs,↓reduceIte,Nat.reduceEqDiff,Nat.reduceAdd,Nat.reduceMul,Nat.reduceLeDiff,Nat.reduceLT,Int.reduceNeg,DF,eff,Nat.reduceSub,aa];refine ae (tL F2.wf) ?_;rintro _ h3 ⟨bg,rfl,hbg,g3,F3⟩;have F03:=(F_h1.then F2).then F3;have o3:=F3.get (F2.get o_h1);have l3:ab h3 h.next 0=some v:=o3.ld1 0;simp(maxSteps:=1000000) (disch:=omega) only[evs,↓reduceIte,Nat.reduceEqDiff,Nat.reduceAdd,Nat.reduceMul,Nat.reduceLeDiff,Nat.reduceLT,Int.reduceNeg,DF,eff,Nat.reduceSub,aa,l3];refine ae (ei F3.wf (ARecs.fr a F03) zv (by omega)) ?_;rintro vK h4 ⟨gk,F4⟩;simp(maxSteps:=1000000) (disch:=omega) only[evs,↓reduceIte,Nat.reduceEqDiff,Nat.reduceAdd,Nat.reduceMul,Nat.reduceLeDiff,Nat.reduceLT,Int.reduceNeg,DF,eff,Nat.reduceSub,aa,gk.sl.len];have F04:=F03.then F4;have vpl:∀y∈vb vK,h3.next≤y∧y<h4.next:=by
    obtain⟨_,⟨_,rfl|⟨b,_,rfl,_⟩⟩|⟨b,hb,rfl,o⟩⟩:=gk
    ·simp[vb]
    ·simp[vb]
    ·have:=o.lt F4.wf;simp only[vb,List.mem_singleton];rintro y rfl;exact⟨hb,this⟩
  refine aQ (fun n env hh=>Fr [] h hh∧Fr [] h1 hh∧Fr [] h3 hh∧h4.next≤hh.next∧
      ∃(i:Nat)(D:List Knd),env.get 26=some (.int .i64 i)∧env.get 25=some (.int .i64 L.length)∧env.get 1=some (.ptr h.next 0)∧env.get 5=some (.ptr bg 0)∧env.get 7=some vK∧i≤L.length∧D.length=i∧bY (L.take i) D∧
      Gn 9 hh h3.next vK L.length ((D++L.drop i).flatMap Knd.cells)∧(∀(X:List Nat)(h2:Heap),(∀y∈X,y<h3.next∨y∈vb vK)→Fr X hh h2→∀q∈D,KndH h2 q)∧n=L.length-i) L.length (by omega) ?_ ?_
  ·exact⟨F04,(F2.then F3).then F4,F4,Nat.le_refl _,0,[],(by simp[T.get_set]),(by simp[T.get_set]),(by simp[T.get_set]),(by simp[T.get_set]),(by simp[T.get_set]),by omega,rfl,trivial,by simpa using gk,by simp,rfl⟩
  ·rintro n env hh ⟨F,F1',F3',hn4,i,D,g26,g25,g1,g5,g7,hi,dl,ds,gph,dst,rfl⟩;by_cases hlt:i<L.length
   ·have hlt':(i:Int)<L.length:=by omega
    obtain⟨q,hq⟩:∃q,L[i]? =some q:=⟨_,List.getElem?_eq_getElem hlt⟩;have hqL:=hL q (List.mem_of_getElem? hq);obtain⟨_,⟨z,_⟩|⟨bp,hbp,rfl,obp⟩⟩:=gph
    ·omega
    have fl:∀M:List Knd,(M.flatMap Knd.cells).length=M.length*9:=cD bQ;have dc:(D.flatMap Knd.cells).length=i*9:=by rw[fl,dl]
    have eL:(D++L.drop i).flatMap Knd.cells=D.flatMap Knd.cells++(q.cells++(L.drop (i+1)).flatMap Knd.cells):=by
      rw[bq hq];simp
    rw[eL]at obp;have ix:=gh 9 bp 0 L.length 9 .i64 (i:Int) (by omega) hlt';simp only[Int.toNat_natCast,Nat.zero_add]at ix;have lc:ak hh bp (i*9) 6=some q.part:=by
      rw[obp.ld,aC,←dc,List.drop_left];rfl
    have hb:=vpl bp (by simp[vb]);simp(maxSteps:=1000000) (disch:=omega) only[evs,↓reduceIte,Nat.reduceEqDiff,Nat.reduceAdd,Nat.reduceMul,Nat.reduceLeDiff,Nat.reduceLT,Int.reduceNeg,DF,eff,Nat.reduceSub,aa,g26,g25,g1,g5,g7,hlt',ix,lc];refine ae (iW yB (pcs yB q.sub) hh F.wf (hqL.fr F) (Knd.small (tk ok _ (List.mem_of_getElem? hq)))) ?_;rintro _ h7 ⟨vs2,vp2,sb2,rfl,sm,F7,st2⟩;have on:av [.int .u8 (q.k:Int),.str q.tg,.str q.ky,vs2,.str q.tx,vp2]=true:=PH.ones (st2 [] h7 (by simp) (Fr.refl F7.wf));simp(maxSteps:=1000000) (disch:=omega) only[evs,↓reduceIte,Nat.reduceEqDiff,Nat.reduceAdd,Nat.reduceMul,Nat.reduceLeDiff,Nat.reduceLT,Int.reduceNeg,DF,eff,Nat.reduceSub,aa,g26,g25,g1,g5,g7,ix];have eC:cg (D.flatMap Knd.cells++(q.cells++(L.drop (i+1)).flatMap Knd.cells)) (i*9) [.int .u8 (q.k:Int),.str q.tg,.str q.ky,vs2,.str q.tx,vp2]=some ((D++[(⟨q.k,q.tg,q.ky,q.sl,q.tx,vs2,vp2,sb2,q.base,q.sticky,q.pool⟩:Knd)]++L.drop (i+1)).flatMap Knd.cells):=by
      rw[bO _ _ _ (by rw[List.length_append,dc,List.length_append,bQ];simp only[List.length_cons,List.length_nil];omega)];congr 1;have q1:(D.flatMap Knd.cells++(q.cells++(L.drop (i+1)).flatMap Knd.cells)).take (i*9)=D.flatMap Knd.cells:=by rw[←dc,List.take_left]
      have q2:(D.flatMap Knd.cells++(q.cells++(L.drop (i+1)).flatMap Knd.cells)).drop (i*9+6)=[.int .i64 q.base,.bool q.sticky,.int .i64 q.pool]++(L.drop (i+1)).flatMap Knd.cells:=by
        rw[←dc,List.drop_length_add_append];rfl
      show _++_++(D.flatMap Knd.cells++(q.cells++(L.drop (i+1)).flatMap Knd.cells)).drop (i*9+6)=_;rw[q1,q2];simp[Knd.cells,Knd.part]
    refine ao F7.wf (F7.get obp) rfl on eC ?_;rintro h8 o8 F8 n8;have hn7:=F7.next;have hn3:=F4.next;simp(maxSteps:=1000000) (disch:=omega) only[evs,↓reduceIte,Nat.reduceEqDiff,Nat.reduceAdd,Nat.reduceMul,Nat.reduceLeDiff,Nat.reduceLT,Int.reduceNeg,DF,eff,Nat.reduceSub,aa,g26,g25,g1,g5,g7];refine rqn ⟨L.length-(i+1),by omega,(F.then F7).fresh F8 w ?_,(F1'.then F7).fresh F8 F_h1.wf ?_,(F3'.then F7).fresh F8 F3.wf (by omega),by omega,i+1,_,(by simp[T.get_set]),(by simp[T.get_set,g25]),(by simp[T.get_set,g1]),(by simp[T.get_set,g5]),(by simp[T.get_set,g7]),by omega,?_,?_,⟨?_,.inr ⟨bp,hbp,rfl,o8⟩⟩,?_,rfl⟩
    ·have:=F03.next;omega
    ·have:=F2.next;have:=F3.next;omega
    ·simp[dl]
    ·rw[List.take_add_one,hq];exact fO ds ⟨⟨rfl,rfl,rfl,rfl,rfl,rfl,rfl,rfl,sm⟩,trivial⟩
    ·rw[fl];simp[dl];omega
    ·intro X h9 hX f9 p hp;have f79:Fr ([bp]++X) h7 h9:=Fr.trans F8 f9 F7.wf (fun y hy=>.inl (by simp at hy;simp[hy])) (fun y hy=>.inl (by simp[hy]));have fh9:Fr ([bp]++X) hh h9:=Fr.trans F7 f79 F.wf (by simp) (fun y hy=>.inl hy);have hX':∀y∈[bp]++X,y<h3.next∨y∈vb (.sliceU bp 0 L.length 9):=by
       intro y hy;simp at hy;rcases hy with rfl|hy
       ·exact .inr (by simp[vb])
       ·exact hX y hy
     rcases List.mem_append.1 hp with hp|hp
     ·exact dst _ h9 hX' fh9 p hp
     ·simp at hp;subst hp;refine st2 _ h9 (fun y hy=>?_) f79;rcases hX' y hy with q|q
      ·omega
      ·simp[vb]at q;omega
   ·have hi':i=L.length:=by omega
    subst hi';rw[List.take_of_length_le (Nat.le_refl _)]at ds;rw[List.drop_of_length_le (Nat.le_refl _),List.append_nil]at gph;have ob:=F1'.get o_h1;have l1:ab hh h.next 1=some (.int .i64 cap):=ob.ld1 1;simp(maxSteps:=1000000) (disch:=omega) only[evs,↓reduceIte,Nat.reduceEqDiff,Nat.reduceAdd,Nat.reduceMul,Nat.reduceLeDiff,Nat.reduceLT,Int.reduceNeg,DF,eff,Nat.reduceSub,aa,g26,g25,g1,g5,g7,show¬((L.length:Nat):Int)<(L.length:Nat) by omega,l1,ay gph.one];refine ae (vJ F.wf) ?_;rintro _ h5 ⟨bm,rfl,hbm,km,F5⟩;have l1':ab h5 h.next 1=some (.int .i64 cap):=(F5.get ob).ld1 1;simp(maxSteps:=1000000) (disch:=omega) only[evs,↓reduceIte,Nat.reduceEqDiff,Nat.reduceAdd,Nat.reduceMul,Nat.reduceLeDiff,Nat.reduceLT,Int.reduceNeg,DF,eff,Nat.reduceSub,aa,l1,l1'];refine ae (ww F5.wf) ?_;rintro _ h6 ⟨bl,rfl,hbl,lo,ol,F6⟩;have l1'':ab h6 h.next 1=some (.int .i64 cap):=(F6.get (F5.get ob)).ld1 1;obtain⟨h9,e_h9⟩:∃h9,h9=halloc h6 [vK,.int .i64 cap,.ptr bg 0,.ptr bm 0,.ptr bl 0]:=⟨_,rfl⟩;have F_h9:Fr [] h6 h9:=e_h9▸Fr.halloc F6.wf _;have o_h9:Own h9 h6.next [vK,.int .i64 cap,.ptr bg 0,.ptr bm 0,.ptr bl 0]:=e_h9▸Own.new F6.wf _;have n9:h9.next=h6.next+1:=by rw[e_h9];rfl
    simp(maxSteps:=1000000) (disch:=omega) only[evs,↓reduceIte,Nat.reduceEqDiff,Nat.reduceAdd,Nat.reduceMul,Nat.reduceLeDiff,Nat.reduceLT,Int.reduceNeg,DF,eff,Nat.reduceSub,aa,l1,l1',l1'',←e_h9,ay gph.one];have n1:h1.next=h.next+1:=by rw[e_h1];rfl
    have nn2:=F2.next;have nn3:=F3.next;have nn4:=F4.next;have nn5:=F5.next;have nn6:=F6.next;have bg3:=g3.lt F3.wf;have bm5:bm<h5.next:=by
      rcases km with⟨o,_⟩|⟨v,sl,t,k,_⟩
      ·exact o.lt F5.wf
      ·exact k.ob.lt F5.wf
    have bl6:=ol.lt F6.wf;have F69:=(F5.then F6).then F_h9;refine⟨h6.next,bg,bm,bl,vK,D,rfl,F.then F69,ds,o_h9,?_,(km.fr F6).fr F_h9,?_,by omega,by omega,by omega,by omega,by omega,(F1'.then F69).get o_h1,fun X h10 hX f10=>?_⟩
    ·exact(F3'.then F69).get g3
    ·obtain⟨p,vk,pm,o,x⟩:=lo;have e:=o.uniq ol;cases pm with
     |none=>exact LoP.fr ⟨p,vk,o,x⟩ F_h9
     |some q=>simp[pv]at e
    ·have f:Fr X hh h10:=Fr.trans F69 f10 F.wf (by simp) (fun y hy=>.inl hy);have hX':∀y∈X,y<h3.next∨hh.next≤y:=fun y hy=>by
       rcases hX y hy with q|q|q|q|q|q<;>omega
     refine⟨?_,dst _ h10 (fun y hy=>?_) (f.old F.wf)⟩
     ·have:=(gph.frH F.wf f hX').sl;show ASl h10 9 vK D.length _;rw[dl];exact Sl.a this
     ·simp at hy;rcases hX' y hy.1 with q|q
      ·exact .inl q
      ·omega
end Go.Ev.Lay
