/- An evaluator of the program, and contracts over it: StV to StbF. -/
import Derived.Test.YteojfkejdhhhpaaGreatDoorP06
set_option linter.unusedSimpArgs false
set_option linter.unusedVariables false
set_option linter.constructorNameAsVariable false
set_option linter.unnecessarySimpa false
set_option maxRecDepth 4000
namespace Go.Ev.Lay
variable{h h' h1 h2:Heap}{k i c n B n0 e N a S bg bm bl:Nat}{tg tx z:Str}{va vc v vK:V}{loc cs:List V}{env:T V}{L:List (List UInt8)}{cap:Int}{l:List Int}{pm:Option Nat}{bs st:List Bool}{m:Nat->Option Nat}{late:List Nat}{s:IStep}
theorem NJ:∀{t:NT},NH h t->AllE h t
 |.nil,_=>trivial
 |.cons _ _ _ _ _ _ _ _ _,⟨_,b,c,d,e,f,g⟩=>⟨KY b c d e f (NJ f),NJ g⟩
def NT.count(k:Nat)(tg ky:Str)(at':List (Str×Str))(tx:Str)(sub:NT):Nat:=
 if(node k tg ky at' tx sub sub.walk 1 0).2=true then(node k tg ky at' tx sub sub.walk 1 0).1 else 0
theorem Bo{ky:Str}{at':List (Str×Str)}{sub:NT}(w:WF h)(n:NH h (.cons k tg ky at' tx va vc sub .nil)):
 ay go 348 [.agg [ZY (k:Int),.str tg,.str ky,va,.str tx,vc]] h fun u h'=>∃d:Nat,u=.tup [ZZ (NT.count k tg ky at' tx sub:Nat),ZZ (d:Int)]/\Fr [] h h':=by
 obtain⟨h1,J,F_h1,D⟩:=av w [ZY (k:Int),.str tg,.str ky,va,.str tx,vc];obtain⟨h2,I,ab,ah⟩:=av F_h1.wf [ZZ 0];obtain⟨h3,ad,U,ax⟩:=av ab.wf [ZZ 0];obtain⟨h4,ao,Z,aj⟩:=av U.wf [.nilf];have n1:=hnx J
 have n2:=hnx I
 have n3:=hnx ad
 refine aa ?_;simp only[evs,seval,<-J,<-I,<-ad,<-ao];refine stu Z.wf aj ?_;rintro h5 o5 F5 n5;have ak:=Ru F_h1.wf (ab.then (U.then Z)) F5 oO;have ob:=ak.get D;have B:MsB h1 h1.next h2.next h3.next:=⟨F_h1.wf,pi _,oM,oM,oM,oM,oM⟩;have M:Ms h1 h5 h1.next h2.next h3.next 0 0:=⟨ak,F5.own _ _ oO (Z.get (U.get ah)),F5.own _ _ oO (Z.get ax),o5,oM⟩;have lw:=o5.l1 0;have A:=(NJ (n.fr F_h1)).1;simp only[evs,seval,lw];refine ae (A h5 h.next 0 h1.next h2.next h3.next 1 0 0 B M (fun h' f=>(f.get D).at6) oM oM) ?_;rintro _ h6 ⟨rfl,d,M6⟩;unfold NT.count;cases c:(NT.node k tg ky at' tx sub sub.walk 1 0).2
 ·simp only[evs,seval];refine stu M6.f.wf M6.oc ?_;rintro h7 o7 F7 n7;have R:=F7.own _ _ oO M6.od;simp only[evs,seval];refine stu F7.wf R ?_;rintro h8 o8 F8 n8;have a7:=(F8.own _ _ oO o7).l1 0;have a8:=o8.l1 0;simp only[evs,seval,a7,a8];refine⟨0,iS,?_⟩;exact yaj
 ·have lc:=M6.oc.l1 0;have ld:=M6.od.l1 0;simp only[evs,seval,eff,lc,ld];refine stu M6.f.wf M6.oc ?_;rintro h7 o7 F7 n7;have R:=F7.own _ _ oO M6.od;have aA:=R.l1 0;simp only[evs,seval,eff];refine stu F7.wf R ?_;rintro h8 o8 F8 n8;have a7:=(F8.own _ _ oO o7).l1 0;have a8:=o8.l1 0;simp only[evs,seval,DF,lc,ld,aA,a7,a8];refine⟨d,iS,?_⟩;exact yaj
theorem vG{ky:Str}{at':List (Str×Str)}{sub:NT}(w:WF h)(n:NH h (.cons k tg ky at' tx va vc sub .nil)):
 ay go 339 [.agg [ZY (k:Int),.str tg,.str ky,va,.str tx,vc]] h fun u h'=>u=ZZ (NT.count k tg ky at' tx sub:Nat)/\Fr [] h h':=by
 obtain⟨J,Z,F_h1,U⟩:=av w [ZY (k:Int),.str tg,.str ky,va,.str tx,vc];refine aa ?_;simp[evs,<-Z,U.at6.2.2.2.2.2.2];refine ae (Bo F_h1.wf (n.fr F_h1)) ?_;rintro _ R ⟨d,rfl,F2⟩;exact ybw
theorem vH{ky:Str}{at':List (Str×Str)}{sub:NT}(w:WF h)(n:NH h (.cons k tg ky at' tx va vc sub .nil)):
 ay go 343 [.agg [ZY (k:Int),.str tg,.str ky,va,.str tx,vc]] h fun u h'=>u=ZZ (if NT.count k tg ky at' tx sub=0 then 14 else 0)/\Fr [] h h':=by
 obtain⟨D,U,Z,R⟩:=av w [ZY (k:Int),.str tg,.str ky,va,.str tx,vc];by_cases c:NT.count k tg ky at' tx sub=0
 ·refine aa ?_;simp only[evs,seval,<-U,R.at6.2.2.2.2.2.2];refine aN (vG Z.wf (n.fr Z)) fun I J=>?_;simp only[evs,seval,(oM:((NT.count k tg ky at' tx sub:Nat):Int)=0)];exact⟨by rw[if_pos c],Z.then J⟩
 ·refine aa ?_;simp only[evs,seval,<-U,R.at6.2.2.2.2.2.2];refine aN (vG Z.wf (n.fr Z)) fun I J=>?_;simp only[evs,seval,(oM:¬((NT.count k tg ky at' tx sub:Nat):Int)=0)];exact⟨by rw[if_neg c],Z.then J⟩
theorem BP(z:Str):NT.count 1 z [] [] [] .nil=if okN z then 1 else 0:=by
 have a:jH 1 z [] [] [] .nil=okN z:=by simp[jH,dO,fZ,NT.keys,NT.len]
 have e:NT.node 1 z [] [] [] .nil NT.nil.walk 1 0=(1,okN z):=by
  unfold NT.node;rw[a];cases okN z<;>rfl
 unfold NT.count;rw[e]
theorem BO(z:Str):NT.count 2 [] [] [] z .nil=if okT z then 1 else 0:=by
 have a:jH 2 [] [] [] z .nil=okT z:=by simp[jH,NT.len]
 have e:NT.node 2 [] [] [] z .nil NT.nil.walk 1 0=(1,okT z):=by
  unfold NT.node;rw[a];cases okT z<;>rfl
 unfold NT.count;rw[e]
theorem qN(k:Nat)(hk:k<256)(tg tx:Str):NH h (.cons k tg [] [] tx .nils .nils .nil .nil):=⟨hk,SH,iS,⟨rfl,rfl⟩,by simp[NT.len],trivial,trivial⟩
theorem kJ(w:WF h):ay go 334 [.str z] h fun u h'=>u=.bool (okN z)/\Fr [] h h':=by
 refine aa ?_;simp only[evs,↓reduceIte,Nat.reduceEqDiff];refine aN (vH (at':=[]) w (qN 1 oM z [])) fun Z F=>?_;rw[BP];cases okN z
 ·simp only[evs,↓reduceIte];exact⟨rfl,F⟩
 ·simp only[evs,↓reduceIte];exact F
theorem uP(w:WF h):ay go 336 [.str z] h fun u h'=>u=.bool (okT z)/\Fr [] h h':=by
 refine aa ?_;simp only[evs,↓reduceIte,Nat.reduceEqDiff];refine aN (vH (at':=[]) w (qN 2 oM [] z)) fun Z F=>?_;rw[BO];cases okT z
 ·simp only[evs,↓reduceIte];exact⟨rfl,F⟩
 ·simp only[evs,↓reduceIte];exact F
abbrev Slo:=Str×Nat×Str
def fE(s:Slo):List V:=[.str s.1,ZY (s.2.1:Int),.str s.2.2]
theorem bV(s:Slo):(fE s).length=3:=rfl
def fU(p:Option Str)(s:Slo):Bool:=okN s.1&&(decide (s.2.1<=3)&&(okT s.2.2&&((decide (s.2.1=0)||s.2.2==[])&&cJ p s.1)))
def dd:Option Str->List Slo->Bool
 |_,[]=>true
 |p,s::r=>fU p s&&dd (some s.1) r
theorem jS(p:Option Str)(s:Slo)(r:List Slo):dd p (s::r)=(fU p s&&dd (some s.1) r):=rfl
def dA(at':List Slo)(i:Nat):Option Str:=if i=0 then none else(at'[i-1]?).map (·.1)
theorem sr{at':List Slo}{a:Slo}(h:at'[i]? =some a):dA at' (i+1)=some a.1:=by simp[dA,h]
def bU(l:List Slo):Bool:=decide (l.length<=8)&&dd none l
theorem zb{l:List Slo}(w:WF h)(ra:Recs fE 3 h v l)(na:l.length<=4096):ay go 335 [v] h fun u h'=>u=.bool (bU l)/\Fr [] h h':=by
 by_cases c8:l.length<=8
 ·refine aa ?_;simp only[evs,seval,ra.len,(oM:¬(8:Int)<(l.length:Nat))];refine aw (fun n env hh=>Fr [] h hh/\∃(i:Nat),env.get 10=some (ZZ i)/\env.get 9=some (ZZ l.length)/\env.get 8=some v/\env.get 0=some v/\
   i<=l.length/\dd (dA l i) (l.drop i)=dd none l/\n=l.length-i) l.length oM ?_ ?_
  ·exact yR
  ·rintro n env hh ⟨F,i,Z,ab,aA,g0,hi,e,rfl⟩;by_cases aF:i<l.length
   ·have D:(i:Int)<l.length:=oM
    obtain⟨b',o',a,p1,p2,p3,p4⟩:=(ra.fr F).ix bV .i64 (i:Int) oM D;rw[so]at p4;rw[aX p4,jS]at e;have en:=sr p4;have bad{h'}(f:Fr [] h h')(c:fU (dA l i) a=false):V.bool false=.bool (bU l)/\Fr [] h h':=by
     rw[c]at e;exact⟨by simp[bU,<-e],f⟩
    obtain⟨h1,ak,I,ao⟩:=av F.wf [.str [],ZY 0,.str []];simp only[evs,seval,Z,ab,aA,D,p1,p3,<-ak];refine stu I.wf ao ?_;rintro h2 o2 F2 n2;have ax:=I.fresh F2 F.wf (pi _);have U:=o2.l1 0;simp only[evs,seval,eff,U];refine aN (kJ ax.wf) fun h3 F3=>?_;have aj:=(F.then ax).then F3;have r1:=(F3.get o2).l1 1;have r2:=(F3.get o2).l1 2;cases c1:okN a.1
    ·simp only[evs,seval,DF,eff,U];exact bad aj (by simp[fU,c1])
    by_cases c2:3<a.2.1
    ·simp only[evs,seval,DF,eff,U,r1,(oM:(3:Int)<(a.2.1:Nat))];exact bad aj (by simp[fU];omega)
    have aE:¬(3:Int)<(a.2.1:Nat):=oM
    simp only[evs,seval,eff,r1,aE,r2];refine aN (uP F3.wf) fun h4 F4=>?_;have F04:=aj.then F4;have o4:=F4.get (F3.get o2);have s0:=o4.l1 0;have s1:=o4.l1 1;have s2:=o4.l1 2;cases c3:okT a.2.2
    ·simp only[evs,seval,DF,eff,U,r1,r2];exact bad F04 (by simp[fU,c3])
    have fin:(decide (a.2.1=0)||a.2.2==[])=true->cJ (dA l i) a.1=true->dd (dA l (i+1)) (l.drop (i+1))=dd none l:=fun x y=>by
     exact yal
    by_cases cf:a.2.1=0
    ·by_cases c4:i=0
     ·simp(disch:=omega) only[evs,seval,DF,eff,fwrap_i64,Z,U,r1,r2,s1,(oM:¬(0:Int)<(a.2.1:Nat)),(oM:¬(0:Int)<(i:Int))];exact yaN
     ·obtain⟨b2,ah,J,t1,t2,t3,t4⟩:=(ra.fr F04).ix bV .i64 ((i:Int)-1) oM oM;have ad:l[i-1]? =some J:=by rw[<-t4];congr 1;omega
      have R:ai h4 b2 ah=some (.str J.1):=t2 0 oM;have pe:dA l i=some J.1:=by simp[dA,c4,ad]
      cases c5:leS a.1 J.1
      ·simp(disch:=omega) only[evs,seval,DF,eff,fwrap_i64,Z,g0,U,r1,r2,s0,s1,(oM:¬(0:Int)<(a.2.1:Nat)),c5,t1,R,kW,(oM:(0:Int)<(i:Int))];exact yaI
      ·simp(disch:=omega) only[evs,seval,DF,eff,fwrap_i64,g0,U,r1,r2,s0,s1,(oM:¬(0:Int)<(a.2.1:Nat)),c5,t1,R,kW,(oM:(0:Int)<(i:Int))];exact bad F04 (by simp[fU,pe,cJ,c5])
    ·cases cv:a.2.2==[]
     ·simp only[evs,seval,DF,eff,U,r1,r2,s1,s2,(oM:(0:Int)<(a.2.1:Nat)),ba,cv];exact bad F04 (by simp[fU,cf,cv])
     ·by_cases c4:i=0
      ·simp(disch:=omega) only[evs,seval,DF,eff,fwrap_i64,Z,U,r1,r2,s1,s2,(oM:(0:Int)<(a.2.1:Nat)),ba,cv,(oM:¬(0:Int)<(i:Int))];exact yaN
      ·obtain⟨b2,ah,J,t1,t2,t3,t4⟩:=(ra.fr F04).ix bV .i64 ((i:Int)-1) oM oM;have ad:l[i-1]? =some J:=by rw[<-t4];congr 1;omega
       have R:ai h4 b2 ah=some (.str J.1):=t2 0 oM;have pe:dA l i=some J.1:=by simp[dA,c4,ad]
       cases c5:leS a.1 J.1
       ·simp(disch:=omega) only[evs,seval,DF,eff,fwrap_i64,Z,g0,U,r1,r2,s0,s1,s2,(oM:(0:Int)<(a.2.1:Nat)),ba,cv,c5,t1,R,kW,(oM:(0:Int)<(i:Int))];exact yaI
       ·simp(disch:=omega) only[evs,seval,DF,eff,fwrap_i64,g0,U,r1,r2,s0,s1,s2,(oM:(0:Int)<(a.2.1:Nat)),ba,cv,c5,t1,R,kW,(oM:(0:Int)<(i:Int))];exact bad F04 (by simp[fU,pe,cJ,c5])
   ·simp only[evs,seval,Z,ab,(oM:¬(i:Int)<l.length)];rw[QF oM]at e;exact⟨by simp[bU,c8,<-e,dd],F⟩
 ·exact yaD
inductive PT where
 |nil
 |cons (kind:Nat) (tag key:Str) (slots:List Slo) (text:Str) (va vc:V) (sub next:PT)
namespace PT
def len:PT->Nat
 |nil=>0
 |cons _ _ _ _ _ _ _ _ nx=>nx.len+1
def cells:PT->List V
 |nil=>[]
 |cons k tg ky _ tx va vc _ nx=>[ ZY (k:Int),.str tg,.str ky,va,.str tx,vc]++nx.cells
def keys:PT->List Str
 |nil=>[]
 |cons _ _ ky _ _ _ _ _ nx=>ky::nx.keys
theorem cells_len:∀t:PT,t.cells.length=t.len*6
 |nil=>rfl
 |cons _ _ _ _ _ _ _ _ nx=>by simp[cells,len,cells_len nx];omega
theorem keys_len:∀t:PT,t.keys.length=t.len
 |nil=>rfl
 |cons _ _ _ _ _ _ _ _ nx=>by simp[keys,len,keys_len nx]
def at':PT->Nat->PT
 |t,0=>t
 |nil,_+1=>nil
 |cons _ _ _ _ _ _ _ _ nx,i+1=>nx.at' i
end PT
def PH(h:Heap):PT->Prop
 |.nil=>True
 |.cons k _ _ at' _ va vc sub nx=>k<256/\Recs fE 3 h va at'/\at'.length<=4096/\Sl h 6 vc sub.len sub.cells/\sub.len<=4096/\PH h sub/\PH h nx
theorem PH.fr(f:Fr [] h h'):∀{t:PT},PH h t->PH h' t
 |.nil,_=>trivial
 |.cons _ _ _ _ _ _ _ _ _,⟨a,b,c,d,e,g,i⟩=>⟨a,b.fr f,c,d.fr f,e,PH.fr f g,PH.fr f i⟩
namespace PT
theorem split:∀(t:PT)(i:Nat),i<t.len→∃k tg ky at' tx va vc sub nx,t.at' i=.cons k tg ky at' tx va vc sub nx∧t.cells.drop (i*6)=[.int .u8 ((k:Nat):Int),.str tg,.str ky,va,.str tx,vc]++nx.cells∧t.at' (i+1)=nx∧t.keys.drop i=ky::nx.keys∧t.keys[i]? =some ky∧nx.len+(i+1)=t.len
 |.nil,_,h=>by cases h
 |.cons k tg ky at' tx va vc sub nx,0,_=>⟨k,tg,ky,at',tx,va,vc,sub,nx,rfl,rfl,by cases nx<;>rfl,rfl,rfl,rfl⟩
 |.cons _ _ _ _ _ _ _ _ nx,i+1,h=>by
  obtain⟨k,tg,ky,at',tx,va,vc,sub,n,e1,e2,e3,e4,e5,e6⟩:=split nx i (by simp[len]at h;omega);refine⟨k,tg,ky,at',tx,va,vc,sub,n,e1,?_,e3,e4,?_,by simp only[len];omega⟩
  ·rw[(oM:(i+1) *6=6+i*6),←List.drop_drop];exact e2
  ·simpa[keys]using e5
theorem at_end:∀(t:PT)(i:Nat),t.len<=i->t.at' i=.nil
 |.nil,0,_=>rfl
 |.nil,_+1,_=>rfl
 |.cons _ _ _ _ _ _ _ _ nx,0,h=>by simp[len]at h
 |.cons _ _ _ _ _ _ _ _ nx,i+1,h=>at_end nx i (by simp[len]at h;omega)
end PT
theorem PH.at':∀{t:PT}(i:Nat),PH h t->PH h (t.at' i)
 |.nil,0,_=>trivial
 |.nil,_+1,_=>trivial
 |.cons _ _ _ _ _ _ _ _ _,0,a=>a
 |.cons _ _ _ _ _ _ _ _ _,i+1,⟨_,_,_,_,_,_,g⟩=>PH.at' i g
def cB(k:Nat)(tg ky:Str)(sl:List Slo)(tx:Str)(n:Nat):Bool:=
 if k=1 then(ky==[]||okN ky)&&(decide (n<=16)&&(okN tg&&(bU sl&&tx==[])))
 else if k=5 then okN tg&&(bU sl&&(ky==[]&&(tx==[]&&decide (n=0))))
 else if k=2 then okT tx&&(tg==[]&&(ky==[]&&(decide (sl.length=0)&&decide (n=0))))
 else if k=3\/k=4 then tg==[]&&(ky==[]&&(tx==[]&&(decide (sl.length=0)&&decide (n=0))))
 else false
theorem PH.ones:∀{t:PT},PH h t->az t.cells=true
 |.nil,_=>rfl
 |.cons k tg ky _ tx va vc _ nx,⟨_,b,_,d,_,_,g⟩=>by
  show az ([ZY (k:Int),.str tg,.str ky,va,.str tx,vc]++nx.cells)=true;rw[bQ,PH.ones g];simp only[af,ag,RI b,RI d];rfl
namespace PT
def node(k:Nat)(tg ky:Str)(at':List Slo)(tx:Str)(sub:PT)(w:Nat->Nat->Nat×Bool)(l c:Nat):Nat×Bool:=
 if 6<l\/64<c+1\/cB k tg ky at' tx sub.len=false then(c+1,false)else w (l+1) (c+1)
def walk:PT->Nat->Nat->Nat×Bool
 |nil,_,c=>(c,true)
 |cons k tg ky at' tx _ _ sub nx,l,c=>let r:=node k tg ky at' tx sub sub.walk l c;if r.2=true then nx.walk l r.1 else r
theorem jt:∀(t:PT)(l c:Nat),c<=64->(t.walk l c).1<=65/\((t.walk l c).2=true->(t.walk l c).1<=64)
 |nil,_,c,h=>⟨by simp[walk];omega,fun _=>h⟩
 |cons k tg ky at' tx _ _ sub nx,l,c,h=>by
  exact ys
theorem node_le(k:Nat)(tg ky:Str)(at':List Slo)(tx:Str)(sub:PT)(l c:Nat)(h:c<=64):(node k tg ky at' tx sub sub.walk l c).1<=65/\((node k tg ky at' tx sub sub.walk l c).2=true->(node k tg ky at' tx sub sub.walk l c).1<=64):=by
 unfold node;split
 ·grind
 ·exact jt sub (l+1) (c+1) oM
end PT
theorem Eg{b o:Nat}{ky:Str}{sl:List Slo}{sub:PT}(w:WF h)(J:∀h',Fr [] h h'->At6 h' b o (ZY (k:Int)) (.str tg) (.str ky) va (.str tx) vc)
 (ra:Recs fE 3 h va sl) (na:sl.length<=4096) (rc:Sl h 6 vc sub.len sub.cells) (nc:sub.len<=4096):
 ay go 326 [.ptr b o] h fun u h'=>u=.bool (cB k tg ky sl tx sub.len)/\Fr [] h h':=by
 have q:=J h (Qw w);have ak:=RI ra;have aj:=rc.one;obtain⟨h1,ab,R,ah⟩:=av w [ZY 0,.str [],.str [],.nils,.str [],.nils];refine aa ?_;simp only[evs,seval,<-ab,q.2.2.2.2.2.2];refine ac R.wf ah rfl (by simp only[V.cells,af,ag,ak,aj];rfl) rfl ?_;rintro h2 o2 F2 n2;have Z:Fr [] h h2:=R.fresh F2 w (pi _);obtain⟨q0,q1,q2,q3,q4,q5,_⟩:=J h2 Z;have l3:aP .lenS [va]=some (ZZ (sl.length:Nat)):=ra.len;have l5:aP .lenS [vc]=some (ZZ (sub.len:Nat)):=rc.len;have s1:=o2.l1 1;have s2:=o2.l1 2;have s3:=o2.l1 3;have s4:=o2.l1 4;have s5:=o2.l1 5;unfold cB;by_cases k1:k=1
 ·rw[if_pos k1];cases ck:ky==[]
  case' false=>
   simp only[evs,seval,q0,(oM:(k:Int)=1),q2,ba,ck];refine aN (kJ F2.wf) fun h2 F3=>?_;have Z:=Z.then F3;have o2:=F3.get o2;cases cn:okN ky
   ·simp only[evs,seval];exact⟨by simp[],Z⟩
  case' true=>
   simp only[evs,seval,q0,(oM:(k:Int)=1),q2,ba,ck]
  all_goals
   have qp:=(J _ Z).2.2.2.2.2.1;by_cases ax:¬sub.len<=16
   ·simp only[evs,seval,qp,l5,(oM:(16:Int)<(sub.len:Nat))];exact⟨by simp[ax],Z⟩
   have cp:sub.len<=16:=oM
   simp only[evs,seval,qp,l5,(oM:¬(16:Int)<(sub.len:Nat))];refine stu Z.wf o2 ?_;rintro he oe Fe ne;simp only[evs,seval];refine stu Fe.wf oe ?_;rintro hf of Ff nf;have Gf:Fr [] h hf:=(Z.fresh Fe w (pi _)).fresh Ff w (pi _);have qa:=(J hf Gf).2.1;simp only[evs,seval,qa];refine aN (kJ Gf.wf) fun ha Fa=>?_;have U:=Gf.then Fa;have qb:=(J ha U).2.2.2.1;cases c1:okN tg
   ·simp only[evs,seval];exact⟨by simp[cp],U⟩
   simp only[evs,seval,qb];refine aN (zb Fa.wf (ra.fr U) na) fun hb D=>?_;have G2:=U.then D;cases c2:bU sl
   ·simp only[evs,seval];exact⟨by simp[cp],G2⟩
   simp only[evs,seval];have oa:=D.get (Fa.get of);refine stu D.wf oa ?_;rintro hc oc Fc ao;simp only[evs,seval];refine stu Fc.wf oc ?_;rintro hd od Fd nd;have G3:Fr [] h hd:=(G2.fresh Fc w (pi _)).fresh Fd w (pi _);have z1:=od.l1 1;have z2:=od.l1 2;have z3:=od.l1 3;have z4:=od.l1 4;have z5:=od.l1 5;cases tX:tx==[]
   ·simp only[evs,seval,z1,z2,z4,aQ,(iR:(([]:Str)==[])=true),tX];exact⟨by simp[cp],G3⟩
   simp only[evs,seval,z1,z2,z3,z4,z5,aQ,(iR:(([]:Str)==[])=true),tX];exact⟨by simp[cp],G3⟩
 by_cases k5:k=5
 ·rw[if_neg k1,if_pos k5];have qa:=(J h2 Z).2.1;simp only[evs,seval,q0,(oM:(k:Int)=5),qa];refine aN (kJ Z.wf) fun ha Fa=>?_;have U:=Z.then Fa;have qb:=(J ha U).2.2.2.1;cases c1:okN tg
  ·simp only[evs,seval];exact⟨by simp[],U⟩
  simp only[evs,seval,qb];refine aN (zb Fa.wf (ra.fr U) na) fun hb D=>?_;have G2:=U.then D;cases c2:bU sl
  ·simp only[evs,seval];exact⟨by simp[],G2⟩
  simp only[evs,seval];have oa:=D.get (Fa.get o2);refine stu D.wf oa ?_;rintro hc oc Fc ao;simp only[evs,seval];refine stu Fc.wf oc ?_;rintro hd od Fd nd;have G3:Fr [] h hd:=(G2.fresh Fc w (pi _)).fresh Fd w (pi _);have z1:=od.l1 1;have z2:=od.l1 2;have z3:=od.l1 3;have z4:=od.l1 4;have z5:=od.l1 5;cases tK:ky==[]<;>cases tX:tx==[]<;>by_cases tP:sub.len=0<;>simp[evs,z1,z2,z3,z4,z5,aQ,tK,tX,l5,tP,G3]
 by_cases k2:k=2
 ·rw[if_neg k1,if_neg k5,if_pos k2];simp only[evs,seval,q0,(oM:(k:Int)=2),q4];refine aN (uP F2.wf) fun h3 F3=>?_;have ad:=Z.then F3;cases c1:okT tx
  ·simp only[evs,seval];exact⟨iS,ad⟩
  simp only[evs,seval];refine stu F3.wf (F3.get o2) ?_;rintro hd od Fd nd;have G3:Fr [] h hd:=ad.fresh Fd w (pi _);have z1:=od.l1 1;have z2:=od.l1 2;have z3:=od.l1 3;have z4:=od.l1 4;have z5:=od.l1 5;cases tT:tg==[]<;>cases tK:ky==[]<;>by_cases tS:sl.length=0<;>by_cases tP:sub.len=0<;>simp[evs,z1,z2,z3,z4,z5,aQ,tT,tK,l3,l5,tS,tP,G3]
 by_cases I:k=3\/k=4
 ·rw[if_neg k1,if_neg k5,if_neg k2,if_pos I];rcases I with rfl|rfl<;>cases tT:tg==[]<;>cases tK:ky==[]<;>cases tX:tx==[]<;>by_cases tS:sl.length=0<;>by_cases tP:sub.len=0<;>simp[evs,q0,s1,s2,s3,s4,s5,aQ,tT,tK,tX,l3,l5,tS,tP,Z]
 ·rw[if_neg k1,if_neg k5,if_neg k2,if_neg I];simp only[evs,seval,q0,(oM:¬(k:Int)=1),(oM:¬(k:Int)=5),(oM:¬(k:Int)=2),(oM:¬(k:Int)=3),(oM:¬(k:Int)=4)];exact Z
structure Tm(h0 h:Heap)(bc bf bw:Nat)(c:Nat):Prop where
 f:Fr [] h0 h
 oc:Own h bc [ZZ (c:Int)]
 od:Own h bf [.func (.func 297) [] []]
 ow:Own h bw [.func (.func 325) [] [.ptr bc 0,.ptr bf 0,.ptr bw 0]]
theorem Tm.fr{h0:Heap}{bc bf bw:Nat}(m:Tm h0 h bc bf bw c)(f:Fr [] h h'):Tm h0 h' bc bf bw c:=⟨m.f.then f,f.get m.oc,f.get m.od,f.get m.ow⟩
def MF(h0:Heap)(k:Nat)(tg ky:Str)(at':List Slo)(tx:Str)(va vc:V)(sub:PT):Prop:=
 ∀(h:Heap)(b o bc bd bw l c:Nat),MsB h0 bc bd bw->Tm h0 h bc bd bw c->(∀h',Fr [] h0 h'->At6 h' b o (ZY (k:Int)) (.str tg) (.str ky) va (.str tx) vc)->l<=7->c<=64->
  ay go 325 [.ptr b o,ZZ (l:Int),.ptr bc 0,.ptr bd 0,.ptr bw 0] h fun u h'=>u=.bool (PT.node k tg ky at' tx sub sub.walk l c).2/\Tm h0 h' bc bd bw (PT.node k tg ky at' tx sub sub.walk l c).1
def TAll(h0:Heap):PT->Prop
 |.nil=>True
 |.cons k tg ky at' tx va vc sub nx=>MF h0 k tg ky at' tx va vc sub/\TAll h0 nx
theorem TAll.at':∀{t:PT}(i:Nat),TAll h t->TAll h (t.at' i)
 |.nil,0,_=>trivial
 |.nil,_+1,_=>trivial
 |.cons _ _ _ _ _ _ _ _ _,0,a=>a
 |.cons _ _ _ _ _ _ _ _ _,i+1,⟨_,g⟩=>TAll.at' i g
theorem Nc(v:V):ay go 297 [v] h fun u h'=>u=.tup []/\h=h':=by
 refine aa ?_;simp only[evs]
theorem GF{h0:Heap}{ky:Str}{at':List Slo}{sub:PT}
 (ra:Recs fE 3 h0 va at') (na:at'.length<=4096) (rc:Sl h0 6 vc sub.len sub.cells) (nc:sub.len<=4096) (A:TAll h0 sub):MF h0 k tg ky at' tx va vc sub:=by
 intro h b o bc bd bw l c B M hA hl hc;have lc:=M.oc.l1 0;refine aa ?_;simp(disch:=omega) only[evs,seval,fwrap_i64,lc];refine stu M.f.wf M.oc ?_;rintro h1 o1 F1 n1;have Z:Tm h0 h1 bc bd bw (c+1):=by
  refine⟨?_,o1,F1.own _ _ (eV B.cd.symm) M.od,F1.own _ _ (eV B.cw.symm) M.ow⟩;exact Qx M.f F1 B.w (fun x hx=>.inl hx) (fun x hx=>.inr (by simp at hx;subst hx;exact B.c))
 have ak:=Z.oc.l1 0;by_cases c1:6<l
 ·have e:PT.node k tg ky at' tx sub sub.walk l c=(c+1,false):=if_pos (.inl c1);simp only[evs,seval,(oM:(6:Int)<(l:Int))];rw[e];exact⟨rfl,Z⟩
 by_cases c2:64<c+1
 ·have e:PT.node k tg ky at' tx sub sub.walk l c=(c+1,false):=if_pos (.inr (.inl c2));simp only[evs,seval,(oM:¬(6:Int)<(l:Int)),ak,(oM:(64:Int)<((c+1:Nat):Int))];rw[e];exact⟨rfl,Z⟩
 simp only[evs,seval,(oM:¬(6:Int)<(l:Int)),ak,(oM:¬(64:Int)<((c+1:Nat):Int))];refine aN (Eg Z.f.wf (fun h' f=>hA h' (Z.f.then f)) (ra.fr Z.f) na (rc.fr Z.f) nc) fun h3 F3=>?_;have M3:=Z.fr F3;cases c3:cB k tg ky at' tx sub.len
 ·have e:PT.node k tg ky at' tx sub sub.walk l c=(c+1,false):=if_pos (.inr (.inr c3));simp only[evs,seval];rw[e];exact⟨rfl,M3⟩
 have e:PT.node k tg ky at' tx sub sub.walk l c=sub.walk (l+1) (c+1):=if_neg (by simp[c3];omega);rw[e];have q5:=(hA h3 M3.f).2.2.2.2.2.1;have lf:=M3.od.l1 0;simp only[evs,seval,lf];refine dm (Nc _) ?_;simp only[evs,seval,q5,(rc.fr M3.f).len];refine aw (fun n env hh=>∃(i c':Nat),Tm h0 hh bc bd bw c'/\env.get 30=some (ZZ i)/\env.get 29=some (ZZ sub.len)/\env.get 0=some (.ptr b o)/\env.get 1=some (ZZ l)/\env.get 4=some (.ptr bw 0)/\
  i<=sub.len/\c'<=64/\(sub.at' i).walk (l+1) c'=sub.walk (l+1) (c+1)/\n=sub.len-i) sub.len oM ?_ ?_
 ·exact⟨0,c+1,M3,iS,iS,iS,iS,iS,oM,oM,by cases sub<;>rfl,rfl⟩
 ·rintro n env hh ⟨i,c',M',J,ah,g0,g1,g4,hi,aj,U,rfl⟩;by_cases hlt:i<sub.len
  ·obtain⟨kd,R,I,ab,D,ax,aA,sb,nx,e1,e2,e3,e4,e5,e6⟩:=sub.split i hlt;have ad:(i:Int)<sub.len:=oM
   have a:=A.at' i;rw[e1]at a U;obtain⟨b',o',p1,_⟩:=(rc.fr M'.f).ix6 hlt e2;have ao:∀h',Fr [] h0 h'->At6 h' b' o' (ZY (kd:Int)) (.str R) (.str I) ax (.str D) aA:=fun h' f=>by
    exact yaZ
   have q5:=(hA hh M'.f).2.2.2.2.2.1;have lw:=M'.ow.l1 0;simp(disch:=omega) only[evs,seval,eff,fwrap_i64,J,ah,g0,g1,g4,ad,lw,q5,p1];refine ae (a.1 hh b' o' bc bd bw (l+1) c' B M' ao oM aj) ?_;rintro _ h4 ⟨rfl,M4⟩;simp only[PT.walk]at U;have nl:=PT.node_le kd R I ab D sb (l+1) c' aj;cases c4:(PT.node kd R I ab D sb sb.walk (l+1) c').2
   ·rw[c4]at U;simp only[evs,seval,DF,eff,g4,lw,q5];rw[<-U];exact⟨by simp[c4],by simpa using M4⟩
   ·rw[c4]at U;simp(disch:=omega) only[evs,seval,DF,eff,fwrap_i64,J,g4,lw,q5];refine rqn ⟨sub.len-(i+1),oM,i+1,_,M4,iS,iX,iX,iX,iX,oM,nl.2 c4,?_,rfl⟩;rw[e3];simpa using U
  ·simp only[evs,seval,J,ah,(oM:¬(i:Int)<sub.len)];rw[PT.at_end _ _ oM]at U;rw[<-U];exact⟨rfl,M'⟩
theorem tall:∀{t:PT},PH h t->TAll h t
 |.nil,_=>trivial
 |.cons _ _ _ _ _ _ _ _ _,⟨_,b,c,d,e,f,g⟩=>⟨GF b c d e (tall f),tall g⟩
def PT.count(k:Nat)(tg ky:Str)(at':List Slo)(tx:Str)(sub:PT):Nat:=
 if k=1/\(node k tg ky at' tx sub sub.walk 1 0).2=true then(node k tg ky at' tx sub sub.walk 1 0).1 else 0
theorem Gz{b o:Nat}{ky:Str}{at':List Slo}{sub:PT}(w:WF h)(n:PH h (.cons k tg ky at' tx va vc sub .nil))
 (hA:∀h',Fr [] h h'->At6 h' b o (ZY (k:Int)) (.str tg) (.str ky) va (.str tx) vc):
 ay go 296 [.ptr b o,.func (.func 297) [] []] h fun u h'=>u=ZZ (PT.count k tg ky at' tx sub:Nat)/\Fr [] h h':=by
 obtain⟨h2,R,Z,ab⟩:=av w [.func (.func 297) [] []];have q0:=(hA h2 Z).1;by_cases k1:k=1
 ·obtain⟨h3,I,J,ah⟩:=av Z.wf [ZZ 0];have n2:=hnx R
  have n3:=hnx I
  refine aa ?_;simp only[evs,seval,<-R,q0,(oM:(k:Int)=1),<-I];refine stu J.wf ah ?_;rintro h4 o4 F4 n4;obtain⟨h5,ad,U,D⟩:=av F4.wf [.nilf];simp only[evs,seval,<-ad];refine stu U.wf D ?_;rintro h6 o6 F6 n6;have aj:=(Z.then J).fresh F4 w oM;have ak:=(aj.then U).fresh F6 w oM;have B:MsB h h2.next h.next h4.next:=⟨w,oM,pi _,oM,oM,oM,oM⟩;have M:Tm h h6 h2.next h.next h4.next 0:=⟨ak,F6.own _ _ oO (U.get o4),F6.own _ _ oO (U.get (F4.own _ _ oO (J.get ab))),o6⟩;have lw:=o6.l1 0;simp only[evs,seval,lw];refine ae ((tall n).1 h6 b o h2.next h.next h4.next 1 0 B M hA oM oM) ?_;rintro _ h7 ⟨rfl,M7⟩;unfold PT.count;cases c:(PT.node k tg ky at' tx sub sub.walk 1 0).2
  ·simp only[evs,seval];exact⟨iS,M7.f⟩
  ·have lc:=M7.oc.l1 0;simp only[evs,seval,lc];exact⟨by simp[k1],M7.f⟩
 ·refine aa ?_;simp only[evs,seval,<-R,q0,(oM:¬(k:Int)=1)];exact⟨by simp[PT.count,k1],Z⟩
theorem uT{ky:Str}{at':List Slo}{sub:PT}(w:WF h)(n:PH h (.cons k tg ky at' tx va vc sub .nil)):
 ay go 233 [.agg [ZY (k:Int),.str tg,.str ky,va,.str tx,vc]] h fun u h'=>u=ZZ (PT.count k tg ky at' tx sub:Nat)/\Fr [] h h':=by
 obtain⟨R,Z,F_h1,U⟩:=av w [ZY (k:Int),.str tg,.str ky,va,.str tx,vc];refine aa ?_;simp[evs,<-Z];refine aN (Gz F_h1.wf (n.fr F_h1) (fun h' f=>(f.get U).at6)) fun h2 F2=>?_;exact ybw
theorem Ee{ky:Str}{at':List Slo}{sub:PT}(w:WF h)(n:PH h (.cons k tg ky at' tx va vc sub .nil)):
 ay go 172 [.agg [ZY (k:Int),.str tg,.str ky,va,.str tx,vc]] h fun u h'=>u=ZZ (if PT.count k tg ky at' tx sub=0 then 14 else 0)/\Fr [] h h':=by
 obtain⟨D,U,Z,R⟩:=av w [ZY (k:Int),.str tg,.str ky,va,.str tx,vc];by_cases c:PT.count k tg ky at' tx sub=0
 ·refine aa ?_;simp only[evs,seval,<-U,R.at6.2.2.2.2.2.2];refine aN (uT Z.wf (n.fr Z)) fun I J=>?_;simp only[evs,seval,(oM:((PT.count k tg ky at' tx sub:Nat):Int)=0)];exact⟨by rw[if_pos c],Z.then J⟩
 ·refine aa ?_;simp only[evs,seval,<-U,R.at6.2.2.2.2.2.2];refine aN (uT Z.wf (n.fr Z)) fun I J=>?_;simp only[evs,seval,(oM:¬((PT.count k tg ky at' tx sub:Nat):Int)=0)];exact⟨by rw[if_neg c],Z.then J⟩
def gP(x:Itm):Bool:=decide (x.key≠0)&&(okT x.text&&okM x.marks)
theorem kN{x:Itm}(h:okI x n=true):gP x=true:=by
 simp only[okI,gP,be]at h|-;exact⟨h.1,h.2.2⟩
def dec(n:Nat):Str:=if h:n<10 then[UInt8.ofNat (48+n)]else dec (n/10)++[UInt8.ofNat (48+n%10)]
termination_by n
decreasing_by omega
theorem kD(h:n<10):dec n=[UInt8.ofNat (48+n)]:=by rw[dec,dif_pos h]
theorem pH(h:¬n<10):dec n=dec (n/10)++[UInt8.ofNat (48+n%10)]:=by rw[dec,dif_neg h]
def c8(b:UInt8):V:=ZY (b.toNat:Int)
theorem tV:∀z:Str,bytesOf (z.map c8)=some z
 |[]=>rfl
 |b::z=>by
  show(match bytesOf (z.map c8)with|some s=>some (UInt8.ofNat ((b.toNat:Int)).toNat::s)|none=>none)=_
  rw[tV z,so,UInt8.ofNat_toNat]
theorem xD{call:aD}(x:Opd)(K:V->Heap->Prop):OQ (aM call loc env h (.b2s x)) K↔∃d,evO loc env x=some d/\VQ (nV h d) K h:=by
 simp only[aM,OQ,VQ];cases evO loc env x with
 |none=>simp
 |some d=>
  simp only[];cases e:nV h d with
  |none=>simp[e]
  |some v=>
   simp only[];exact⟨fun⟨_,_,q,k⟩=>by cases q;exact⟨d,rfl,_,e,k⟩,fun⟨_,q,_,Z,k⟩=>by cases q;rw[e]at Z;cases Z;exact⟨_,_,rfl,k⟩⟩
theorem nI(d:V)(K:V->Heap->Prop):(∃e,some d=some e/\VQ (nV h e) K h)↔VQ (nV h d) K h:=⟨fun⟨_,e,k⟩=>by cases e;exact k,fun k=>⟨d,rfl,k⟩⟩
def FT(x:Itm)(s:Slo):Str:=if s.2.1=0 then s.2.2 else if s.2.1=1 then x.text else if s.2.1=2 then dec x.key else dec x.marks.length
def att(x:Itm)(s:Slo):Str×Str:=(s.1,FT x s)
theorem _root_.Go.Ev.Gs.append1{esz bytes:Nat}{x:V}{Z:List V}(w:WF h)(a:Gs h B esz v cs)(s:Sl h esz x n Z)(he:0<esz)(hn:n≠0)(ho:az Z=true)(hB:B<=h.next)
 (U:(2*(cs.length+n)+1024) *bytes<=281474976710656) {K:V->Heap->Prop} (k:∀v' h',Gs h' B esz v' (cs++Z)->vb v'=[h.next]->Fr (vb v) h h'->K v' h'):OQ (dK h esz bytes v x) K:=by
 unfold dK;rw[s.srcLen];simp only[]
 ·rw[dJ hn,cond_false,s.srcCells];simp only[];rcases a with⟨rfl,rfl⟩|⟨b,m,rfl,hm,ad,hb,o⟩
  ·simp only[kF];have:Nat.ble ((2*n+1024) *bytes) 281474976710656=true:=by
    rw[RW];simpa using U
   rw[this,cond_true];refine(cD _ _ _).2 (k _ _ (.inr ⟨h.next,n,rfl,by simpa using s.1,oM,hB,by simpa using Ro w Z⟩) rfl (QW w Z))
  ·have J:(2*(m+n)+1024) *bytes<=(2*(cs.length+n)+1024) *bytes:=by
    exact yaT
   have h1:(Nat.beq esz esz&&Nat.ble ((2*(m+n)+1024) *bytes) 281474976710656)=true:=by
    simp only[Rk,RU,RW];omega
   simp only[h1,cond_true,o.cells];have ab:(m+n) *esz=m*esz+n*esz:=Sw _ _ _;have R:0<n*esz:=Uj oM he;rw[jG (oM:¬0+(m+n) *esz<=cs.length),cond_false];have D:(Nat.ble (0+m*esz) cs.length&&az Z)=true:=by simp only[ho,Tu,RW];omega
   simp only[D,cond_true,cg,aU cs (m*esz) oM];obtain⟨h',e,I,f⟩:=iK (pos:=0+m*esz) w o;rw[e];simp only[QG];refine(cD _ _ _).2 (k _ _ (.inr ⟨h.next,m+n,rfl,by simp[s.1];omega,oM,hB,?_⟩) rfl f);rwa[Qs oM]at I
inductive ST where
 |nil
 |cons (kind:Nat) (tag key:Str) (attrs:List (Str×Str)) (text:Str) (sub next:ST)
namespace ST
def app:ST->ST->ST
 |nil,t=>t
 |cons k tg ky a tx sub nx,t=>cons k tg ky a tx sub (nx.app t)
theorem app_nil:∀t:ST,t.app nil=t
 |nil=>rfl
 |cons _ _ _ _ _ _ nx=>by simp only[app,app_nil nx]
theorem app_assoc:∀a b c:ST,(a.app b).app c=a.app (b.app c)
 |nil,_,_=>rfl
 |cons _ _ _ _ _ _ nx,b,c=>by simp only[app,app_assoc nx b c]
def len:ST->Nat
 |nil=>0
 |cons _ _ _ _ _ _ nx=>nx.len+1
def keys:ST->List Str
 |nil=>[]
 |cons _ _ ky _ _ _ nx=>ky::nx.keys
def alone(k:Nat)(tg ky:Str)(at':List (Str×Str))(tx:Str)(sub:ST):Bool:=
 if k=2 then okT tx&&(tg==[]&&(ky==[]&&(decide (at'.length=0)&&decide (sub.len=0))))
 else decide (k=1)&&(okN tg&&((ky==[]||okN ky)&&(tx==[]&&(decide (at'.length<=8)&&(decide (sub.len<=16)&&(dO none at'&&fZ [] sub.keys))))))
def node(k:Nat)(tg ky:Str)(at':List (Str×Str))(tx:Str)(sub:ST)(w:Nat->Nat->Nat×Bool)(l c:Nat):Nat×Bool:=
 if 6<l\/64<c+1\/alone k tg ky at' tx sub=false then(c+1,false)else w (l+1) (c+1)
def walk:ST->Nat->Nat->Nat×Bool
 |nil,_,c=>(c,true)
 |cons k tg ky at' tx sub nx,l,c=>let r:=node k tg ky at' tx sub sub.walk l c;if r.2=true then nx.walk l r.1 else r
def count(k:Nat)(tg ky:Str)(at':List (Str×Str))(tx:Str)(sub:ST):Nat:=
 if(node k tg ky at' tx sub sub.walk 1 0).2=true then(node k tg ky at' tx sub sub.walk 1 0).1 else 0
end ST
namespace NT
def sh:NT->ST
 |nil=>.nil
 |cons k tg ky a tx _ _ sub nx=>.cons k tg ky a tx sub.sh nx.sh
def app:NT->NT->NT
 |nil,t=>t
 |cons k tg ky a tx va vc sub nx,t=>cons k tg ky a tx va vc sub (nx.app t)
theorem app_sh:∀a b:NT,(a.app b).sh=a.sh.app b.sh
 |nil,_=>rfl
 |cons _ _ _ _ _ _ _ _ nx,b=>by simp only[app,sh,ST.app,app_sh nx b]
theorem app_len:∀a b:NT,(a.app b).len=a.len+b.len
 |nil,b=>by simp[app,len]
 |cons _ _ _ _ _ _ _ _ nx,b=>by simp only[app,len,app_len nx b];omega
theorem app_cells:∀a b:NT,(a.app b).cells=a.cells++b.cells
 |nil,_=>rfl
 |cons _ _ _ _ _ _ _ _ nx,b=>by simp only[app,cells,app_cells nx b,QE]
theorem sh_len:∀t:NT,t.sh.len=t.len
 |nil=>rfl
 |cons _ _ _ _ _ _ _ _ nx=>by simp only[sh,len,ST.len,sh_len nx]
theorem sh_keys:∀t:NT,t.sh.keys=t.keys
 |nil=>rfl
 |cons _ _ _ _ _ _ _ _ nx=>by simp only[sh,keys,ST.keys,sh_keys nx]
end NT
theorem NH.app:∀{a b:NT},NH h a->NH h b->NH h (a.app b)
 |.nil,_,_,q=>q
 |.cons _ _ _ _ _ _ _ _ _,_,⟨x1,x2,x3,x4,x5,x6,x7⟩,q=>⟨x1,x2,x3,x4,x5,x6,NH.app x7 q⟩
def qY(z:Str):ST:=.cons 2 [] [] [] z .nil .nil
def wt(tg:Str)(a:List (Str×Str)):List Str->ST
 |[]=>.nil
 |m::ms=>.cons 1 tg m a [] (qY m) (wt tg a ms)
def HA(x:Itm)(k:Nat)(tg ky:Str)(sl:List Slo)(tx:Str)(sub:ST):ST:=
 if k=1 then .cons 1 tg ky (sl.map (att x)) [] sub .nil
 else if k=2 then qY tx
 else if k=3 then qY x.text
 else if k=4 then qY (dec x.key)
 else if k=5 then wt tg (sl.map (att x)) x.marks
 else .nil
def gH(x:Itm):PT->ST
 |.nil=>.nil
 |.cons k tg ky sl tx _ _ sub nx=>(HA x k tg ky sl tx (gH x sub)).app (gH x nx)
def TG:PT->Prop
 |.nil=>True
 |.cons _ _ _ sl _ _ _ sub nx=>(∀s∈sl,s.2.1<=3)/\sub.len<=16/\TG sub/\TG nx
theorem TG.at':∀{t:PT}(i:Nat),TG t->TG (t.at' i)
 |.nil,0,_=>trivial
 |.nil,_+1,_=>trivial
 |.cons _ _ _ _ _ _ _ _ _,0,a=>a
 |.cons _ _ _ _ _ _ _ _ _,i+1,⟨_,_,_,g⟩=>TG.at' i g
def Inv(v:V)(n0:Nat)(h:Heap)(s:NT):Prop:=∀(X:List Nat)(h':Heap),(∀x∈X,x<n0\/x∈vb v)->Fr X h h'->NH h' s
theorem Inv.fr{s:NT}(I:Inv v n0 h s)(w:WF h)(f:Fr [] h h'):Inv v n0 h' s:=fun X h2 hx f2=>
 I X h2 hx (Qx f f2 w iS (fun x hx=>.inl hx))
theorem Inv.nh{s:NT}(I:Inv v n0 h s)(w:WF h):NH h s:=I [] h iS (Qw w)
theorem J0{h:Heap}{n0 B k:Nat}{vo:V}{s sub:NT}{tg ky tx:Str}{at':List (Str×Str)}{va vc:V}{K:V→Heap→Prop}(w:WF h)(g:Gs h B 6 vo s.cells)(hB:B≤h.next)(h0:n0≤h.next)(I:Inv vo n0 h s)
 (N:∀(X:List Nat)(h':Heap),(∀x∈X,x<n0∨x∈vb vo)→Fr X h h'→NH h' (.cons k tg ky at' tx va vc sub .nil)) (hl:s.len≤1000)
 (hk:∀v' h',Gs h' B 6 v' (s.app (.cons k tg ky at' tx va vc sub .nil)).cells→Inv v' n0 h' (s.app (.cons k tg ky at' tx va vc sub .nil))→Fr (vb vo) h h'→(∀y∈vb v',h.next≤y)→K v' h'):
 OQ (dK (halloc h [.int .u8 (k:Int),.str tg,.str ky,va,.str tx,vc]) 6 104 vo (.slice h.next 0 1 1)) K:=by
 have n1:=N [] h iS (Fr.refl w);have on:=NH.ones n1;have F1:=Fr.halloc w [.int .u8 (k:Int),.str tg,.str ky,va,.str tx,vc];have o1:=Own.new w [.int .u8 (k:Int),.str tg,.str ky,va,.str tx,vc];have cl:=s.cells_len;have vlt:∀x∈vb vo,x<h.next:=by
  rcases g with⟨rfl,_⟩|⟨b,n,rfl,_,_,_,o⟩
  ·simp[vb]
  ·have:=o.lt w;simp only[vb,List.mem_singleton];rintro x rfl;exact this
 refine Gs.append1 F1.wf (g.fr F1) (Sl.lit o1 rfl) oM oM on (Nat.le_trans hB F1.next) (by rw[cl];omega) ?_;intro v' h' g' e' F';have F:=Fr.trans F1 F' w iS (fun x hx=>.inl hx);refine hk v' h' ?_ ?_ F (by rw[e'];simp only[List.mem_singleton];rintro y rfl;exact F1.next)
 ·rw[NT.app_cells];exact g'
 ·intro X h2 hX f2;have f3:Fr (vb vo++X.filter (fun x=>decide (x<n0))) h h2:=by
   refine Fr.trans F f2 w (fun x hx=>.inl iX) (fun x hx=>?_);rcases hX x hx with q|q
   ·grind
   ·rw[e']at q;simp at q;exact .inr (by subst q;exact F1.next)
  have hX':∀x∈vb vo++X.filter (fun x=>decide (x<n0)),x<n0∨x∈vb vo:=by grind
  exact NH.app (I _ h2 hX' f3) (N _ h2 hX' f3)
theorem Gs.nE(g:Gs h B e v cs):v≠.sliceE:=by
 rcases g with⟨rfl,_⟩|⟨b,n,rfl,_⟩<;>simp
theorem Gs.frX{X:List Nat}(g:Gs h B e v cs)(f:Fr X h h')(hx:∀x∈X,x<B):Gs h' B e v cs:=by
 rcases g with⟨rfl,rfl⟩|⟨b,n,rfl,R,U,Z,o⟩
 ·exact .inl ⟨rfl,rfl⟩
 ·exact .inr ⟨b,n,rfl,R,U,Z,f.own _ _ (fun m=>by have:=hx _ m;omega) o⟩
def CC(k:Nat)(tg ky:Str)(sl:List Slo)(tx:Str)(sub:PT)(x:Itm)(most:Int):Int:=
 if most<1\/64<most then 1
 else if PT.count k tg ky sl tx sub=0 then 14
 else if gP x=false then 6
 else if ST.count 1 tg ky (sl.map (att x)) [] (gH x sub)=0\/most<(ST.count 1 tg ky (sl.map (att x)) [] (gH x sub):Nat)then 14
 else 0
def Gn(e:Nat)(h:Heap)(B:Nat)(v:V)(n:Nat)(cs:List V):Prop:=cs.length=n*e/\((n=0/\(v=.nils\/∃b,B<=b/\v=.slice b 0 0 0/\Own h b []))\/∃b,B<=b/\v=.sliceU b 0 n e/\Own h b cs)
theorem Gn.sl(g:Gn e h B v n cs):Sl h e v n cs:=by
 obtain⟨Z,⟨rfl,rfl|⟨b,_,rfl,o⟩⟩|⟨b,_,rfl,o⟩⟩:=g
 ·exact⟨Z,rfl⟩
 ·have:cs=[]:=Rx.1 oM;subst this;exact⟨Z,rfl,pi _,[],o,iS,iS⟩
 ·exact⟨Z,rfl,rfl,cs,o,oM,by rw[TA,Qs oM]⟩
theorem Gn.fr{X:List Nat}(g:Gn e h B v n cs)(f:Fr X h h')(hx:∀x∈X,x<B):Gn e h' B v n cs:=by
 obtain⟨hl,⟨rfl,rfl|⟨b,Z,rfl,o⟩⟩|⟨b,Z,rfl,o⟩⟩:=g
 ·exact yV
 ·exact⟨hl,.inl ⟨rfl,.inr ⟨b,Z,rfl,f.own _ _ (fun m=>by have:=hx _ m;omega) o⟩⟩⟩
 ·exact⟨hl,.inr ⟨b,Z,rfl,f.own _ _ (fun m=>by have:=hx _ m;omega) o⟩⟩
theorem Gn.one(g:Gn e h B v n cs):v.one=true:=g.sl.one
theorem Gn.nE(g:Gn e h B v n cs):v≠.sliceE:=by
 obtain⟨_,⟨_,rfl|⟨b,_,rfl,_⟩⟩|⟨b,_,rfl,_⟩⟩:=g<;>simp
def nZ:V->Bool:=fun _=>true
theorem _root_.Go.Ev.ASl.src(a:ASl h e v n cs)(z:nZ v=true):srcLen v=some n/\srcCells h e v n=some cs/\(v≠.nils->aP (.nil 1 false) [v,.nils]=some (.bool false)):=by
 obtain⟨Z,a⟩:=a;cases v with
 |slice b o len cap=>
  obtain⟨rfl,_,c,U,R,q⟩:=a;exact⟨rfl,by simp only[Ev.srcCells,U.ld,bA,aU _ _ (oO:len*e<=(c.drop o).length),q],fun _=>rfl⟩
 |sliceU b o len e'=>
  obtain⟨rfl,rfl,c,U,R,q⟩:=a;exact⟨rfl,by simp only[Ev.srcCells,U.ld,bA,aU _ _ (oO:len*e'<=(c.drop o).length),q],fun _=>rfl⟩
 |nils=>have a:n=0:=a;subst a;simp at Z;subst Z;exact⟨rfl,rfl,fun q=>absurd rfl q⟩
 |sliceE=>have a:n=0:=a;subst a;simp at Z;subst Z;exact⟨rfl,rfl,fun _=>rfl⟩
 |sliceZ _ _=>have a:n=0:=a;subst a;simp at Z;subst Z;exact⟨rfl,rfl,fun _=>rfl⟩
 |_=>exact a.elim
theorem tD{bytes:Nat}{x:V}{U:List V}(w:WF h)(a:ASl h e x n U)(z:nZ x=true)(he:0<e)(R:(2*n+1024) *bytes<=281474976710656){K:V->Heap->Prop}
 (k:∀v' h',Gn e h' h.next v' n U->Fr [] h h'->K v' h'):OQ (dK (halloc h []) e bytes (.slice h.next 0 0 0) x) K:=by
 have Z:=QW w ([]:List V);have o1:=Ro w ([]:List V);obtain⟨D,I,_⟩:=(a.fr Z).src z;have J:=a.1;unfold dK;rw[D];simp only[];by_cases c:n=0
 ·subst c;rw[iw rfl,cond_true];exact(cD _ _ _).2 (k _ _ ⟨J,.inl ⟨rfl,.inr ⟨h.next,pi _,rfl,o1⟩⟩⟩ Z)
 ·rw[dJ c,cond_false,I];simp only[];rw[jG oM,cond_false,SN,o1.ld];have:dL 0 (fQ ([]:List V) 0)=some []:=rfl;rw[this];simp only[kF,Rc,Ri];rw[(RW ..).mpr R,cond_true];refine(cD _ _ _).2 (k _ _ ⟨J,.inr ⟨(halloc h []).next,Z.next,rfl,Ro Z.wf U⟩⟩ (Z.then (QW Z.wf U)))
def cnF(e b:Nat)(z:List V):IFn:=⟨1,.seq (.ops [⟨none,.p .mv [.c .nils],some 2⟩]) (.seq (.seq (.ops [⟨none,.p (.nil 1 false) [.v 0,.c .nils],some 4⟩]) (.cond (.v 4) (.seq (.ops [⟨none,.p .mv [.c .nils],some 2⟩]) .ret) .skip)) (.seq (.ops [zn (.bs z [] 0 []),zn (.ap e b (.l 0) (.v 0)),⟨none,.p .mv [.l 0],some 2⟩]) .ret)),[.t 2]⟩
theorem qr{f b:Nat}{z:List V}(hf:F.get f=some (cnF e b z)){h:Heap}{n:Nat}{x:V}{Z:List V}(J:0<e)(R:b<=128)(w:WF h)(a:ASl h e x n Z)(U:nZ x=true)(I:n<=100000):ay go f [x] h fun u h'=>Gn e h' h.next u n Z/\Fr [] h h':=by
 by_cases c:x=.nils
 ·subst c;have:n=0:=a.2;subst this;have q:aP (.nil 1 false) [.nils,.nils]=some (.bool true):=rfl;refine aa (hf:=hf) ?_;simp[evs,q];exact⟨⟨a.1,.inl ⟨rfl,.inl rfl⟩⟩,Qw w⟩
 ·refine aa (hf:=hf) ?_;simp[evs,(a.src U).2.2 c];refine tD (bytes:=b) w a U oM (QY (Nat.mul_le_mul (oM:2*n+1024<=201024) R) oM) ?_;intro D h' g f;simp[evs];exact⟨g,f⟩
def Itm.own(x:Itm)(v:V):Itm:=⟨x.key,x.type,x.text,x.marks,v⟩
def CpO(N:Nat)(h:Heap)(v:V)(L:List (List UInt8)):Prop:=(L=[]/\(v=.nils\/∃b,v=.slice b 0 0 0/\N<=b/\Own h b []))\/∃b,v=.slice b 0 L.length L.length/\N<=b/\Own h b (L.flatMap sS)
theorem CpO.fr{X:List Nat}(a:CpO N h v L)(f:Fr X h h')(l:∀y∈X,y<N):CpO N h' v L:=by
 rcases a with⟨e,rfl|⟨b,rfl,Z,o⟩⟩|⟨b,e,Z,o⟩
 ·exact .inl ⟨e,.inl rfl⟩
 ·exact .inl ⟨e,.inr ⟨b,rfl,Z,f.own _ _ (fun m=>by have:=l b m;omega) o⟩⟩
 ·exact .inr ⟨b,e,Z,f.own _ _ (fun m=>by have:=l b m;omega) o⟩
theorem CpO.rs(a:CpO N h v L):Recs sS 1 h v L:=by
 have Z:=au cC L;rcases a with⟨rfl,rfl|⟨b,rfl,_,o⟩⟩|⟨b,rfl,_,o⟩
 ·exact SH
 ·exact RM o rfl
 ·exact RM o Z
theorem CpO.one(a:CpO N h v L):v.one=true:=RI a.rs
theorem CpO.nE(a:CpO N h v L):v≠.sliceE:=by
 rcases a with⟨_,rfl|⟨b,rfl,_,o⟩⟩|⟨b,rfl,_,o⟩<;>simp
structure Knd where
 k:Nat
 tg:Str
 ky:Str
 sl:List Slo
 tx:Str
 vs:V
 vp:V
 sub:PT
 base:Int
 sticky:Bool
 pool:Int
def Knd.part(q:Knd):List V:=[ZY (q.k:Int),.str q.tg,.str q.ky,q.vs,.str q.tx,q.vp]
def Knd.cells(q:Knd):List V:=q.part++[ZZ q.base,.bool q.sticky,ZZ q.pool]
theorem aW(q:Knd):q.cells.length=9:=rfl
def KndH(h:Heap)(q:Knd):Prop:=PH h (.cons q.k q.tg q.ky q.sl q.tx q.vs q.vp q.sub .nil)
theorem KndH.fr{q:Knd}(a:KndH h q)(f:Fr [] h h'):KndH h' q:=PH.fr f a
theorem KndH.ones{q:Knd}(a:KndH h q):az q.part=true:=PH.ones a
def okB(b:Int):Bool:=decide (1<=b)&&decide (b<=2305843009213693952)
def okK(q:Knd):Bool:=okB q.base&&decide (PT.count q.k q.tg q.ky q.sl q.tx q.sub≠0)
theorem E6(n:Int):ay go 171 [ZZ n] h fun u h'=>u=.bool (okB n)/\h=h':=by
 by_cases c:1<=n
 ·refine aa ?_;simp[evs,c];simp[okB,c]
 ·refine aa ?_;simp[evs,c];simp[okB,c]
theorem Lm{q:Knd}(w:WF h)(a:KndH h q):ay go 170 [.agg q.cells] h fun u h'=>u=.bool (!okK q)/\Fr [] h h':=by
 obtain⟨I,R,Z,U⟩:=av w q.cells;have l6:=U.l1 6;have D:aH I h.next 0 6=some q.part:=by rw[U.ld];rfl
 refine aa ?_;simp[evs,<-R,l6];refine dm (E6 _) ?_;cases c:okB q.base
 ·simp[evs];exact⟨by simp[okK,c],Z⟩
 ·simp[evs,D];refine aN (Ee (va:=q.vs) (vc:=q.vp) Z.wf (a.fr Z)) fun h2 J=>?_;by_cases z:PT.count q.k q.tg q.ky q.sl q.tx q.sub=0
  ·rw[if_pos z];simp[evs];exact⟨by simp[okK,z],Z.then J⟩
  ·rw[if_neg z];simp[evs];exact⟨by simp[okK,c,z],Z.then J⟩
theorem Bz{h:Heap}{v:V}{L:List Knd}(w:WF h)(a:Recs Knd.cells 9 h v L)(hL:∀q∈L,KndH h q)(hn:L.length≤4096):
 ay go 110 [v,.func (.func 170) [] []] h fun u h'=>∃r:Int,u=.int .i64 r∧(decide (0≤r)= !L.all okK)∧Fr [] h h':=by
 refine aa ?_;simp only[evs,seval,Recs.len a];refine aw (fun k env hh=>Fr [] h hh∧∃(i:Nat),env.get 8=some (.int .i64 i)∧env.get 7=some (.int .i64 L.length)∧env.get 0=some v∧env.get 1=some (.func (.func 170) [] [])∧
  i≤L.length∧(L.drop i).all okK=L.all okK∧k=L.length-i) L.length oM ?_ ?_
 ·exact⟨Fr.refl w,0,iS,iS,iS,iS,oM,rfl,rfl⟩
 ·rintro k env hh ⟨F,i,g8,g7,g0,g1,hi,e,rfl⟩;by_cases hlt:i<L.length
  ·have hlt':(i:Int)<L.length:=oM
   obtain⟨b,o,s,e1,_,e3,e5⟩:=(Recs.fr a F).ix aW .i64 i oM hlt';rw[Int.toNat_natCast]at e5;rw[aX e5,List.all_cons]at e;have hs:=hL s (List.mem_of_getElem? e5);simp only[evs,seval,g8,g7,g0,g1,hlt',e1,e3];refine aN (Lm F.wf (hs.fr F)) fun h1 F1=>?_;cases c:okK s
   ·simp only[evs,seval];rw[c]at e;exact⟨i,rfl,by rw[←e];simp,F.then F1⟩
   ·simp(disch:=omega) only[evs,seval,fwrap_i64,g8];rw[c]at e;refine rqn ⟨L.length-(i+1),oM,F.then F1,i+1,iS,iX,iX,iX,oM,by simpa using e,rfl⟩
    done
  ·simp only[evs,seval,g8,g7,(oM:¬(i:Int)<L.length)];rw[List.drop_of_length_le oM]at e;exact⟨-1,rfl,by rw[←e];rfl,F⟩
def okR(L:List Knd)(cap:Int):Bool:=decide (1<=L.length)&&(decide (L.length<=8)&&(decide (1<=cap)&&(decide (cap<=64)&&L.all okK)))
theorem Gi{L:List Knd}(w:WF h)(a:Recs Knd.cells 9 h v L)(D:∀q∈L,KndH h q)(I:L.length<=4096):
 ay go 108 [.agg [v,ZZ cap]] h fun u h'=>u=ZZ (if okR L cap then 0 else 7)/\Fr [] h h':=by
 obtain⟨J,Z,F_h1,U⟩:=av w [v,ZZ cap];have R:=U.l1 0;have l1:=U.l1 1;have len:=Recs.len a;by_cases c0:L.length<1
 ·refine aa ?_;simp[evs,<-Z,R,len,(oM:(L.length:Int)<1)];exact yaR
 by_cases c1:8<L.length
 ·refine aa ?_;simp[evs,<-Z,R,len,(oM:¬(L.length:Int)<1),(oM:(8:Int)<L.length)];exact yaR
 by_cases c2:cap<1
 ·refine aa ?_;simp[evs,<-Z,R,l1,len,(oM:¬(L.length:Int)<1),(oM:¬(8:Int)<L.length),c2];exact yaR
 by_cases c3:64<cap
 ·refine aa ?_;simp[evs,<-Z,R,l1,len,(oM:¬(L.length:Int)<1),(oM:¬(8:Int)<L.length),c2,c3];exact yaR
 refine aa ?_;simp[evs,<-Z,R,l1,len,(oM:¬(L.length:Int)<1),(oM:¬(8:Int)<L.length),c2,c3];refine ae (?_:ay go 52 _ _ (fun u h'=>u=.bool (!L.all okK)/\Fr [] J h')) ?_
 ·refine aa ?_;simp[evs];refine ae (Bz F_h1.wf (QI a F_h1) (fun q m=>(D q m).fr F_h1) I) ?_;exact yak
 ·rintro _ h2 ⟨rfl,F2⟩;have e:okR L cap=L.all okK:=by simp[okR,(oM:1<=L.length),(oM:L.length<=8),(oM:1<=cap),(oM:cap<=64)]
  rw[e];cases c4:L.all okK
  ·exact ybw
  ·exact ybw
namespace PT
def same:PT->PT->Prop
 |nil,nil=>True
 |cons k tg ky sl tx _ _ s n,cons k' tg' ky' sl' tx' _ _ s' n'=>k=k'/\tg=tg'/\ky=ky'/\sl=sl'/\tx=tx'/\same s s'/\same n n'
 |_,_=>False
theorem rS:∀{a b:PT},same a b->a.len=b.len
 |nil,nil,_=>rfl
 |cons _ _ _ _ _ _ _ _ _,cons _ _ _ _ _ _ _ _ _,h=>by simp only[len,rS h.2.2.2.2.2.2]
 |nil,cons _ _ _ _ _ _ _ _ _,h=>h.elim
 |cons _ _ _ _ _ _ _ _ _,nil,h=>h.elim
theorem oZ:∀{a b:PT},same a b→∀l c,a.walk l c=b.walk l c
 |nil,nil,_,_,_=>rfl
 |cons k tg ky sl tx _ _ s n,cons _ _ _ _ _ _ _ s' n',⟨h1,h2,h3,h4,h5,h6,h7⟩,l,c=>by
  subst h1 h2 h3 h4 h5;have e1:node k tg ky sl tx s s.walk l c=node k tg ky sl tx s' s'.walk l c:=by
   unfold node;rw[rS h6,oZ h6]
  simp only[walk,e1,oZ h7]
 |nil,cons _ _ _ _ _ _ _ _ _,h,_,_=>h.elim
 |cons _ _ _ _ _ _ _ _ _,nil,h,_,_=>h.elim
theorem same_count(k:Nat)(tg ky:Str)(sl:List Slo)(tx:Str){s Z:PT}(h:same s Z):count k tg ky sl tx s=count k tg ky sl tx Z:=by
 have U:node k tg ky sl tx s s.walk 1 0=node k tg ky sl tx Z Z.walk 1 0:=by
  unfold node;rw[rS h,oZ h]
 unfold count;rw[U]
def app:PT->PT->PT
 |nil,t=>t
 |cons k tg ky a tx va vc sub nx,t=>cons k tg ky a tx va vc sub (nx.app t)
theorem app_cells:∀a b:PT,(a.app b).cells=a.cells++b.cells
 |nil,_=>rfl
 |cons _ _ _ _ _ _ _ _ nx,b=>by simp only[app,cells,app_cells nx b,QE]
theorem app_len:∀a b:PT,(a.app b).len=a.len+b.len
 |nil,b=>by simp[app,len]
 |cons _ _ _ _ _ _ _ _ nx,b=>by simp only[app,len,app_len nx b];omega
end PT
theorem PH.app:∀{a b:PT},PH h a->PH h b->PH h (a.app b)
 |.nil,_,_,q=>q
 |.cons _ _ _ _ _ _ _ _ _,_,⟨x1,x2,x3,x4,x5,x6,x7⟩,q=>⟨x1,x2,x3,x4,x5,x6,PH.app x7 q⟩
def Fw(n:Nat)(a k:Int):Prop:=a<0\/k<0\/(n:Int)<a\/(n:Int)-a<k
instance(n:Nat)(a k:Int):Decidable (Fw n a k):=by unfold Fw;infer_instance
def Oy(n:Nat)(a k t:Int):Prop:=Fw n a k\/t<0\/(n:Int)-k<t
instance(n:Nat)(a k t:Int):Decidable (Oy n a k t):=by unfold Oy;infer_instance
def Er{α:Type}(l:List α)(a k:Nat):List α:=l.take a++(l.drop a).drop k
def rmv(a n:Int)(f:Int->Bool)(x:Int):Bool:=if x<a then f x else f (x+n)
theorem Hg{α:Type}{l:List α}(h:a+k<=l.length):(Er l a k).length=l.length-k:=by
 unfold Er;simp;omega
theorem Hh{α:Type}{l:List α}(h:a<=l.length)(i:Nat):(Er l a k)[i]? =if i<a then l[i]? else l[i+k]? :=by
 unfold Er;by_cases c:i<a
 ·grind
 ·grind
theorem Eq{l:List Bool}(h:a<=l.length)(i:Nat):(Er l a k).getD i false=if i<a then l.getD i false else l.getD (i+k) false:=by
 rw[Ty,Hh h];split<;>simp[Ty]
theorem K2{a k:Int}(c:¬Fw n a k):0<=a/\0<=k/\a.toNat+k.toNat<=n:=by
 unfold Fw at c;omega
theorem Kn.rem{L Z:List (Int×Int)}{ks:List Bool}{a k:Int}(K:Kn L ks)(c:¬Fw ks.length a k)(ok:SOK Z (-1))(e:∀x,inS Z x=rmv a k (inS L) x)(le:∀s∈Z,s.2<=(ks.length:Int)-k):Kn Z (Er ks a.toNat k.toNat):=by
 obtain⟨c0,c1,c2⟩:=K2 c;have U:=Hg c2;refine⟨ok,fun s R=>by rw[U];have:=le s R;omega,fun i=>?_⟩;rw[e,Eq oM];unfold rmv;by_cases q:(i:Int)<a
 ·rw[if_pos q,if_pos oM,K.eq]
 ·rw[if_neg q,if_neg oM,(oM:(i:Int)+k=((i+k.toNat:Nat):Int)),K.eq]
def LoP(h:Heap)(b:Nat)(pm:Option Nat)(l:List Int)(ks bs:List Bool):Prop:=∃p vk,Own h b [pv p,vk,pv pm]/\vk.one=true/\Ix h (.agg [pv p,vk]) l ks/\Mk h pm bs/\bs.length=l.length
theorem LoP.lo{b:Nat}{ks:List Bool}(a:LoP h b pm l ks bs):Lo h b l ks bs:=by
 obtain⟨p,Z,x⟩:=a;exact⟨p,Z,pm,x⟩
theorem Lo.p{b:Nat}{ks:List Bool}(a:Lo h b l ks bs):∃pm,LoP h b pm l ks bs:=by
 obtain⟨p,Z,pm,x⟩:=a;exact⟨pm,p,Z,x⟩
theorem LoP.fr{b:Nat}{ks:List Bool}(a:LoP h b pm l ks bs)(f:Fr [] h h'):LoP h' b pm l ks bs:=by
 obtain⟨p,U,o,Z,ix,mk,e⟩:=a;exact⟨p,U,f.get o,Z,ix.fr f,mk.fr f,e⟩
abbrev FrQ(b:Nat)(pm:Option Nat)(h h':Heap):Prop:=Fr (b::pm.toList) h h'
theorem FrQ.b{b:Nat}(a:FrQ b pm h h1)(f:Fr [b] h1 h2)(w:WF h):FrQ b pm h h2:=Qx a f w (fun x hx=>.inl hx) (fun x hx=>.inl (by simp at hx;simp[hx]))
theorem FrQ.q{b q:Nat}(a:FrQ b pm h h1)(f:Fr [q] h1 h2)(w:WF h)(Z:pm=some q\/h.next<=q):FrQ b pm h h2:=by
 refine Qx a f w (fun x hx=>.inl hx) (fun x hx=>?_);simp at hx;subst hx;rcases Z with e|e
 ·left;simp[e]
 ·exact .inr e
theorem FrQ.then{b:Nat}(a:FrQ b pm h h1)(f:Fr [] h1 h2)(w:WF h):FrQ b pm h h2:=Qx a f w (fun x hx=>.inl hx) iS
theorem LoP.qb{b q:Nat}{ks:List Bool}(a:LoP h b (some q) l ks bs):b≠q:=by
 obtain⟨p,R,o,U,ix,mk,e⟩:=a;rintro rfl;obtain⟨J,Z,ok,_⟩:=(mk:Fl h b bs);have:=congrArg List.length (Z.uniq o);rw[KO,ok.len]at this;simp at this
def Knd.same(q p:Knd):Prop:=q.k=p.k/\q.tg=p.tg/\q.ky=p.ky/\q.sl=p.sl/\q.tx=p.tx/\q.base=p.base/\q.sticky=p.sticky/\q.pool=p.pool/\PT.same q.sub p.sub
theorem Knd.same_okK{q p:Knd}(h:q.same p):okK q=okK p:=by
 obtain⟨R,U,Z,J,h5,I,_,_,D⟩:=h;unfold okK;rw[R,U,Z,J,h5,I,PT.same_count _ _ _ _ _ D]
def fW:List Knd->List Knd->Prop
 |[],[]=>True
 |q::l,p::m=>q.same p/\fW l m
 |_,_=>False
theorem rU:∀{a b:List Knd},fW a b->a.length=b.length
 |[],[],_=>rfl
 |_::_,_::_,h=>by simp[rU h.2]
 |[],_::_,h=>h.elim
 |_::_,[],h=>h.elim
theorem rY:∀{a b:List Knd},fW a b->a.all okK=b.all okK
 |[],[],_=>rfl
 |_::_,_::_,h=>by rw[Su,Su,Knd.same_okK h.1,rY h.2]
 |[],_::_,h=>h.elim
 |_::_,[],h=>h.elim
theorem AS{a b:List Knd}(h:fW a b)(cap:Int):okR a cap=okR b cap:=by
 unfold okR;rw[rU h,rY h]
theorem _root_.Go.Ev.Fr.old{S:List Nat}(w:WF h)(f:Fr S h h'):Fr (S.filter fun x=>decide (x<h.next)) h h':=
 ⟨f.next,f.wf,fun b c hb o=>f.own b c (fun m=>hb (by have:=o.lt w;simp[m,this])) o,fun b c hb o=>f.pl b c (fun m=>hb (by have:=o.own.lt w;simp[m,this])) o,f.lp,f.ro,f.ty⟩
def Seen(h:Heap)(b:Nat)(ks:List Nat):Prop:=∃es c,h.bl.get b=some (.mp es c)/\es.map (·.1)=ks.map (fun k:Nat=>ZX (k:Int))/\∀e∈es,e.2.1=.bool true
theorem Seen.lt{b:Nat}{ks:List Nat}(s:Seen h b ks)(w:WF h):b<h.next:=by
 obtain⟨Z,c,e,_⟩:=s;rcases Rn b h.next with q|q
 ·exact q
 ·rw[(w b q).1]at e;cases e
theorem Seen.fr{b:Nat}{ks:List Nat}(s:Seen h b ks)(f:Fr [] h h'):Seen h' b ks:=by
 obtain⟨Z,c,e,x⟩:=s;exact⟨Z,c,f.lp _ _ rfl e,x⟩
def RulesAt(h:Heap)(b:Nat)(Ks:List Knd)(cap:Int):Prop:=∃vK c2 c3 c4,Own h b [vK,ZZ cap,c2,c3,c4]/\Recs Knd.cells 9 h vK Ks/\∀q∈Ks,KndH h q
theorem RulesAt.fr{b:Nat}{Ks:List Knd}(r:RulesAt h b Ks cap)(f:Fr [] h h'):RulesAt h' b Ks cap:=by
 obtain⟨vK,c2,c3,c4,o,r,k⟩:=r;exact⟨vK,c2,c3,c4,f.get o,QI r f,fun q m=>(k q m).fr f⟩
def jK(Ks:List Knd)(cap:Int)(x:Itm):Int:=match Ks[x.type]? with
 |some q=>CC q.k q.tg q.ky q.sl q.tx q.sub x cap
 |none=>0
def TreeS(N:Nat)(h':Heap)(Ks:List Knd)(x:Itm)(cs:List V):Prop:=∃q s va vc,Ks[x.type]? =some q/\cs=[ZY 1,.str q.tg,.str q.ky,va,.str [],vc]/\(∀(X:List Nat)(h2:Heap),(∀y∈X,y<N)->Fr X h' h2->NH h2 (.cons 1 q.tg q.ky (q.sl.map (att x)) [] va vc s .nil))/\
 s.sh=gH x q.sub/\ST.count 1 q.tg q.ky (q.sl.map (att x)) [] (gH x q.sub)≠0
open Go.Ev.St
theorem b8(x:Itm):x.cells.length=4:=rfl
def Good(h:Heap)(B:Nat):Prop:=∃c,Own h B c/\c.length≠6/\∀L:List (Int×Int),0<L.length->c≠L.flatMap sp
theorem Good.fr{S:List Nat}(g:Good h B)(f:Fr S h h')(hB:B∉S):Good h' B:=by
 obtain⟨c,o,x⟩:=g;exact⟨c,f.own _ _ hB o,x⟩
theorem Km.good{b:Nat}(k:Km h b S m c){key x:Nat}(hm:m key=some x):Good h S:=by
 rcases k with⟨_,_,z⟩|⟨v,sl,t,k,_⟩
 ·grind
 ·have n8:=k.n8;have Z:=qi sl;refine⟨_,k.tb.2,oM,?_⟩;intro L p e;cases sl with
  |nil=>simp at n8
  |cons s r=>
   cases L with
   |nil=>simp at p
   |cons q L=>
    rw[QT,QT]at e;simp[sc,sp]at e
abbrev pQ:=(Nat->Option Nat)×Nat
def di(Ks:List Knd)(x:Itm):Int:=match Ks[x.type]? with
 |some q=>q.base
 |none=>0
theorem dh{call:aD}{l:List IStep}(U:late.contains i=false)(Z:eff s.op=false)(e:aM call loc env h s.op=some (v,h')):
 lay call env late (s::l) i loc h=(lay call env late l (i+1) (v::loc) h).map fun r=>((s,none)::r.1,r.2):=by
 simp only[lay,U,cond_false,v8,Z,e];cases lay call env late l (i+1) (v::loc) h<;>rfl
theorem CT{call:aD}{l:List IStep}(U:late.contains i=false)(Z:eff s.op=true):
 lay call env late (s::l) i loc h=(lay call env late l (i+1) (.tup []::loc) h).map fun r=>((s,none)::r.1,r.2):=by
 simp only[lay,U,cond_false,v8,Z,cond_true];cases lay call env late l (i+1) (V.tup []::loc) h<;>rfl
theorem HV{call:aD}{l:List IStep}{c:List V}{k:Option (Nat×Nat)}(Z:late.contains i=true)(e:jM loc env s.op=some (c,k)):
 lay call env late (s::l) i loc h=(lay call env late l (i+1) (eZ h.next k::loc) (halloc h c)).map fun r=>((s,some (eZ h.next k,c))::r.1,r.2):=by
 simp only[lay,Z,cond_true,e];cases lay call env late l (i+1) (eZ h.next k::loc) (halloc h c)<;>rfl
def Oth(h:Heap)(S:List Nat):Prop:=∀b∈S,∀c,Own h b c->c.length≠6/\∀L:List (Int×Int),0<L.length->c≠L.flatMap sp
theorem At.frS{S:List Nat}(f:Fr S h h')(o:Oth h S):∀{t:Tr}{p:Option Nat},At h t p->At h' t p
 |.nil,_,a=>a
 |.node l s r,_,⟨q,pl,pr,e,oq,al,ar⟩=>⟨q,pl,pr,e,f.own _ _ (fun m=>(o q m _ oq).1 rfl) oq,At.frS f o al,At.frS f o ar⟩
theorem LoP.frS{b:Nat}{ks:List Bool}{S:List Nat}(a:LoP h b pm l ks bs)(f:Fr S h h')(o:Oth h S)(D:b∉S)(hp:∀q,pm=some q->q∉S):LoP h' b pm l ks bs:=by
 obtain⟨p,vk,ow,v1,⟨J,U,L,e1,⟨t,p2,I,at',tl,ft⟩,sL,x⟩,mk,e⟩:=a;refine⟨p,vk,f.own _ _ D ow,v1,⟨J,U,L,e1,⟨t,p2,I,At.frS f o at',tl,ft⟩,?_,x⟩,?_,e⟩
 ·rcases sL with z|⟨q,e3,Z,R⟩
  ·exact .inl z
  ·exact .inr ⟨q,e3,f.own _ _ (fun m=>(o q m _ Z).2 L R rfl) Z,R⟩
 ·cases pm with
  |none=>exact mk
  |some q=>
   obtain⟨ws,Z,y⟩:=mk;exact⟨ws,f.own _ _ (hp q rfl) Z,y⟩
theorem Bj{c:List V}(n:NoI c):∀L:List (Int×Int),0<L.length->c≠L.flatMap sp:=by
 intro L p e;cases L with
 |nil=>simp at p
 |cons s L=>exact n (ZZ s.1) (by rw[e];simp[sp]) _ rfl
open Go.Ev.St
theorem Km.frS{b:Nat}{X:List Nat}(k:Km h b S m c)(f:Fr X h h')(Z:b∉X)(hS:S∉X):Km h' b S m c:=by
 rcases k with⟨o,x⟩|⟨v,sl,t,k,x⟩
 ·exact .inl ⟨f.own _ _ Z o,x⟩
 ·exact .inr ⟨v,sl,t,{k with ob:=f.own _ _ Z k.ob,tb:=⟨k.tb.1,f.own _ _ hS k.tb.2⟩},x⟩
theorem Km.lt{b:Nat}(k:Km h b S m c)(w:WF h):b<h.next:=by
 rcases k with⟨o,x⟩|⟨v,sl,t,k,x⟩
 ·exact o.lt w
 ·exact k.ob.lt w
theorem jW{c:List V}(h:c.length=2*n+1):∀L:List (Int×Int),0<L.length->c≠L.flatMap sp:=by
 rintro L _ rfl;have:=au AQ L;omega
theorem Oth.app{A B:List Nat}(a:Oth h A)(b:Oth h B):Oth h (A++B):=fun x m=>(Qp.1 m).elim (a x) (b x)
theorem Oth.own{b:Nat}{c:List V}(o:Own h b c)(U:c.length≠6)(R:∀L:List (Int×Int),0<L.length->c≠L.flatMap sp):Oth h [b]:=by
 intro x m c' Z;simp at m;subst m;rw[Z.uniq o];exact⟨U,R⟩
theorem Gp.oth{b:Nat}{l:List V}(w:WF h)(g:Gp h b B n l)(hB:B<h.next->Own h B []\/∀c,Own h B c->c.length%4=0/\NoI c):Oth h [b,B]:=by
 obtain⟨v,c1,G,c2,a,U,m,k,_⟩:=g;intro x mx c o;simp at mx;rcases mx with rfl|rfl
 ·rw[o.uniq k.ob];exact⟨iS,jW (n:=1) rfl⟩
 ·rcases hB (o.lt w)with e|e
  ·rw[o.uniq e];exact⟨iS,fun L p q=>by cases L with|nil=>simp at p|cons s L=>simp[sp]at q⟩
  ·obtain⟨R,Z⟩:=e c o;exact⟨oM,Bj Z⟩
theorem Good.oth(g:Good h B):Oth h [B]:=by
 obtain⟨c,o,a,b⟩:=g;exact Oth.own o a b
theorem Gp.good{b:Nat}{l:List V}(g:Gp h b B n l)(h0:0<n):Good h B:=by
 obtain⟨v,c1,G,c2,a,Z,m,k,_,rfl⟩:=g;obtain⟨U,⟨_,z⟩|⟨_,o⟩⟩:=k.tb
 ·omega
 ·exact⟨_,o,oM,Bj k.n6⟩
theorem Gp.ob{b:Nat}{l:List V}(g:Gp h b B n l):Good h b/\B≠b:=by
 obtain⟨v,c1,G,c2,a,Z,m,k,_,rfl⟩:=g;exact⟨⟨_,k.ob,iS,jW (n:=1) rfl⟩,k.ne⟩
structure Dis(b bg B bm S bl:Nat)(pm:Option Nat):Prop where
 b1:b≠bg
 b2:b≠B
 b3:b≠bm
 b4:b≠S
 b5:b≠bl
 g1:bg≠bm
 g2:bg≠S
 g3:bg≠bl
 t1:B≠bm
 t2:B≠S
 t3:B≠bl
 m1:bm≠bl
 m2:S≠bl
 p:∀q,pm=some q->q≠b/\q≠bg/\q≠B/\q≠bm/\q≠S/\q≠bl
def Wr(b bg B bm S bl:Nat)(pm:Option Nat):List Nat:=[b,bg,B,bm,S,bl]++pm.toList
abbrev NL:=Nat×Option Nat
def Lx(n:NL)(z:Nat):Prop:=z<n.1\/n.2=some z
theorem Lx.lt{z:Nat}(h:Lx (n,none) z):z<n:=h.elim id fun e=>by cases e
structure Sto(n0:NL)(h:Heap)(b:Nat)(Ks:List Knd)(cap:Int)(X:List Itm)(l:List Int)(kn st:List Bool)(vK:V)(bg B bm S bl:Nat)(pm:Option Nat)(mc:pQ):Prop where
 ob:Own h b [vK,ZZ cap,.ptr bg 0,.ptr bm 0,.ptr bl 0]
 g:Gp h bg B X.length (X.flatMap Itm.cells)
 gB:Good h B
 k:Km h bm S mc.1 mc.2
 gS:Good h S
 lo:LoP h bl pm l kn st
 len:l.length=X.length
 rd:∀(Z:List Nat)(h':Heap),(∀z∈Z,z∈Wr b bg B bm S bl pm\/h.next<=z\/Lx n0 z)->Fr Z h h'->Recs Knd.cells 9 h' vK Ks/\(∀q∈Ks,KndH h' q)/\∀x∈X,ItmH h' x
 d:Dis b bg B bm S bl pm
 Sl':S<h.next
 pl:∀q,pm=some q->q<h.next
 bl':bl<h.next
 n0l:∀z,Lx n0 z->z<h.next
theorem Km.bmgood{b:Nat}(k:Km h b S m c):Good h b:=by
 rcases k with⟨o,x⟩|⟨v,sl,t,k,x⟩
 ·exact⟨_,o,iS,jW (n:=1) rfl⟩
 ·exact⟨_,k.ob,iS,jW (n:=1) rfl⟩
theorem Good.lt{b:Nat}(g:Good h b)(w:WF h):b<h.next:=by
 obtain⟨c,o,_⟩:=g;exact o.lt w
theorem LoP.pmlt{b:Nat}{ks:List Bool}(a:LoP h b pm l ks bs)(w:WF h):(∀q,pm=some q->q<h.next)/\b<h.next:=by
 obtain⟨p,U,o,_,_,mk,_⟩:=a;refine⟨?_,o.lt w⟩;rintro q rfl;obtain⟨R,Z,_⟩:=mk;exact Z.lt w
def Cps:List Itm->List Itm->Prop
 |[],[]=>True
 |x::l,y::m=>(∃v,y=x.own v/\nZ v=true)/\Cps l m
 |_,_=>False
theorem Cps.len:∀{a b:List Itm},Cps a b->a.length=b.length
 |[],[],_=>rfl
 |_::_,_::_,h=>by simp[Cps.len h.2]
 |[],_::_,h=>h.elim
 |_::_,[],h=>h.elim
theorem Cps.app:∀{a b c d:List Itm},Cps a b->Cps c d->Cps (a++c) (b++d)
 |[],[],_,_,_,g=>g
 |_::_,_::_,_,_,h,g=>⟨h.1,Cps.app h.2 g⟩
 |[],_::_,_,_,h,_=>h.elim
 |_::_,[],_,_,h,_=>h.elim
theorem Cps.mem:∀{a b:List Itm}{y:Itm},Cps a b→y∈b→∃x∈a,∃v,y=x.own v
 |x::a,z::b,y,h,m=>by
  rcases List.mem_cons.1 m with rfl|m
  ·obtain⟨⟨v,e,_⟩,_⟩:=h;exact⟨x,iS,v,e⟩
  ·obtain⟨x',hx,e⟩:=Cps.mem h.2 m;exact⟨x',by simp[hx],e⟩
 |[],[],_,_,m=>by simp at m
 |[],_::_,_,h,_=>h.elim
 |_::_,[],_,h,_=>h.elim
theorem Sl.nz(a:Sl h e v n cs):nZ v=true:=by
 cases v<;>first|rfl|exact a.2.elim
theorem Cps.nz:∀{a b:List Itm},Cps a b→∀y∈b,nZ y.vm=true
 |x::a,z::b,h,y,m=>by
  rcases List.mem_cons.1 m with rfl|m
  ·obtain⟨⟨v,rfl,z⟩,_⟩:=h;exact z
  ·exact Cps.nz h.2 y m
 |[],[],_,_,m=>by simp at m
 |[],_::_,h,_,_=>h.elim
theorem Sto.move{J:NL}{b U:Nat}{Ks:List Knd}{X:List Itm}{kn:List Bool}{R:pQ}{c0:List V}(w:WF h)(s:Sto (n0,none) h U Ks cap X l kn st vK bg B bm S bl pm R)
 (ge:∀y∈Wr U bg B bm S bl pm,n0<=y) (o0:Own h b c0) (h5:c0.length=5) (hb:b<n0) (hm:∀z,Lx J z->z<n0) (f:Fr [b] h h') (ob:Own h' b [vK,ZZ cap,.ptr bg 0,.ptr bm 0,.ptr bl 0]):
 Sto J h' b Ks cap X l kn st vK bg B bm S bl pm R:=by
 have g:∀y∈Wr U bg B bm S bl pm,y≠b:=fun y m=>by have:=ge y m;omega
 simp only[Wr,Qp,Qy,Rz,or_false]at g;have g1:=g bg iS;have g2:=g B iS;have g3:=g bm iS;have g4:=g S iS;have D:=g bl iS;have I:∀q,pm=some q->q≠b:=fun q e=>g q iX;have d:=s.d;have fn:=f.next;have n0l:=s.n0l;refine⟨ob,s.g.fr f (eV g1) (eV g2),s.gB.fr f (eV g2),s.k.frS f (eV g3) (eV g4),s.gS.fr f (eV g4),?_,s.len,?_,?_,by have:=s.Sl';omega,fun q e=>by have:=s.pl q e;omega,by have:=s.bl';omega,fun z q=>by have:=hm z q;have:=n0l z (.inl this);omega⟩
 ·exact s.lo.frS f (Oth.own o0 oM (jW (n:=2) h5)) (eV D) (fun q e=>by simpa using I q e)
 ·intro Z h2 hZ f2;refine s.rd ([b]++Z) h2 (fun z m=>?_) (Qx f f2 w (fun x m=>.inl (Qp.2 (.inl m))) (fun x m=>.inl (Qp.2 (.inr m))));rcases Qp.1 m with m|m
  ·simp at m;subst m;exact .inr (.inr (.inl hb))
  ·rcases hZ z m with q|q|q
   ·simp only[Wr,Qp,Qy,Rz,or_false]at q|-;rcases q with(q|q|q|q|q|q)|q
    ·exact .inr (.inr (.inl oM))
    all_goals exact .inl iX
   ·omega
   ·exact .inr (.inr (.inl (hm z q)))
 ·exact⟨g1.symm,g2.symm,g3.symm,g4.symm,D.symm,d.g1,d.g2,d.g3,d.t1,d.t2,d.t3,d.m1,d.m2,fun q e=>⟨I q e,(d.p q e).2⟩⟩
theorem Sto.fr{n0:NL}{b:Nat}{Ks:List Knd}{X:List Itm}{kn:List Bool}{U:pQ}(w:WF h)(s:Sto n0 h b Ks cap X l kn st vK bg B bm S bl pm U)(f:Fr [] h h'):
 Sto n0 h' b Ks cap X l kn st vK bg B bm S bl pm U:=by
 have fn:=f.next;refine⟨f.get s.ob,s.g.fr f iS iS,s.gB.fr f iS,s.k.fr f,s.gS.fr f iS,s.lo.fr f,s.len,?_,s.d,by have:=s.Sl';omega,fun q e=>by have:=s.pl q e;omega,by have:=s.bl';omega,by exact fun z q=>by have:=s.n0l z q;omega⟩;intro Z R J f2;refine s.rd Z R (fun z m=>?_) (Qx f f2 w (fun x m=>by simp at m) (fun x m=>.inl m));rcases J z m with q|q|q
 ·exact .inl q
 ·omega
 ·exact .inr (.inr q)
theorem Sto.lay{n0:NL}{b:Nat}{Ks:List Knd}{X:List Itm}{D:List Int}{kn I J:List Bool}{U:Option Nat}{mc:pQ}(w:WF h)(s:Sto n0 h b Ks cap X l kn st vK bg B bm S bl pm mc)(f:Fr (bl::pm.toList) h h')
 (a:LoP h' bl U D I J) (hl:D.length=X.length) (hp:U=pm\/∀q,U=some q->h.next<=q):Sto n0 h' b Ks cap X D I J vK bg B bm S bl U mc:=by
 have d:=s.d;have fn:=f.next;have n0l:=s.n0l;have nb:∀y,y≠bl->(∀q,pm=some q->q≠y)->y∉bl::pm.toList:=by grind
 have lb:=s.ob.lt w;have lg:=s.g.ob.1.lt w;have lB:=s.gB.lt w;have lm:=s.k.lt w;have lS:=s.Sl';have ll:=s.bl';have pl:=a.pmlt f.wf;have R:=d.p;have xb:=nb b d.b5 fun q e=>(R q e).1;have xg:=nb bg d.g3 fun q e=>(R q e).2.1;have xB:=nb B d.t3 fun q e=>(R q e).2.2.1;have xm:=nb bm d.m1 fun q e=>(R q e).2.2.2.1;have xS:=nb S d.m2 fun q e=>(R q e).2.2.2.2.1;refine⟨f.own _ _ xb s.ob,s.g.fr f xg xB,s.gB.fr f xB,s.k.frS f xm xS,s.gS.fr f xS,a,hl,?_,?_,oM,pl.1,oM,fun z q=>by have:=n0l z q;omega⟩
 ·intro Z h2 hZ f2;refine s.rd ((bl::pm.toList)++Z) h2 (fun z m=>?_) (Qx f f2 w (fun x m=>.inl (Qp.2 (.inl m))) (fun x m=>.inl (Qp.2 (.inr m))));rcases Qp.1 m with m|m
  ·refine .inl ?_;rcases Qy.1 m with rfl|m
   ·simp[Wr]
   ·exact Qp.2 (.inr m)
  ·rcases hZ z m with q|q|q
   ·rcases Qp.1 q with q|q
    ·exact .inl (Qp.2 (.inl q))
    ·grind
   ·omega
   ·exact .inr (.inr q)
 ·refine⟨d.b1,d.b2,d.b3,d.b4,d.b5,d.g1,d.g2,d.g3,d.t1,d.t2,d.t3,d.m1,d.m2,fun q e=>?_⟩;rcases hp with rfl|hp
  ·exact R q e
  ·grind
theorem LoP.ne{b:Nat}{ks:List Bool}(a:LoP h b pm l ks bs):∀q,pm=some q->q≠b:=by
 obtain⟨p,R,o,U,ix,mk,e⟩:=a;rintro q rfl;obtain⟨J,Z,x⟩:=mk;refine Own.ne Z o fun e=>?_;unfold flc at e;cases p<;>simp[pv]at e
theorem LoP.oth{b:Nat}{ks:List Bool}(a:LoP h b pm l ks bs):Oth h (b::pm.toList):=by
 obtain⟨p,I,o,J,ix,mk,e⟩:=a;refine Oth.app (A:=[b]) (Oth.own o iS (jW (n:=1) rfl)) ?_;cases pm with
 |none=>exact fun x m=>by simp at m
 |some q=>
  obtain⟨Z,R,x,_⟩:=mk;have U:=x.len;refine Oth.own R (by simp[flc];omega) ?_;intro L D e;match Z,U,L with
  |w1::w2::Z,_,(x1,x2)::(y1,y2)::L=>simp[flc,sp,uw]at e
  |w1::w2::Z,_,[(x1,x2)]=>simp[flc,sp,uw]at e
def htC(x:Nat×Int):List V:=[ZX (x.1:Int),ZZ x.2]
def xU:List V:=[.str [],.bool false,.bool false,.bool false,.bool false,.nilf,.str [105,110,115,101,114,116],.bool true,.bool false,.bool false,.bool true,.func (.func 175) [] [],.str [114,101,109,111,118,101],.bool true,.bool true,.bool false,.bool false,.func (.func 177) [] [],
 .str [109,111,118,101],.bool true,.bool true,.bool true,.bool false,.func (.func 179) [] [],.str [99,104,97,110,103,101],.bool true,.bool false,.bool false,.bool true,.func (.func 181) [] [],.str [114,101,115,101,116],.bool false,.bool false,.bool false,.bool true,.func (.func 183) [] []]
theorem zH(w:WF h):ay go 113 [] h fun u h'=>u=.agg xU/\Fr [] h h':=by
 obtain⟨h1,U,Z,R⟩:=av w [.str [],.bool false,.bool false,.bool false,.bool false,.nilf,.str [],.bool false,.bool false,.bool false,.bool false,.nilf,.str [],.bool false,.bool false,.bool false,.bool false,.nilf,.str [],.bool false,.bool false,.bool false,.bool false,.nilf,.str [],.bool false,.bool false,.bool false,.bool false,.nilf,.str [],.bool false,.bool false,.bool false,.bool false,.nilf];refine aa ?_;simp[evs,<-U];refine stu Z.wf R ?_;rintro I o2 D n2;have l2:aH I h.next 0 36=some xU:=by rw[o2.ld];rfl
 have J:=Z.fresh D w (pi _);simp[evs,l2];exact J
def FI(k:Nat)(a c t:Int)(n:Nat):Int:=
 if k<1\/5<k then 1 else if(k=5/\a≠0)\/(¬(k=2\/k=3)/\c≠0)\/(k≠3/\t≠0)\/((k=2\/k=3)/\0<n)then 5 else 0
theorem OD{call:aD}{l:List IStep}(U:late.contains i=false)(Z:eff s.op=false)(e:aM call loc env h s.op=none):
 lay call env late (s::l) i loc h=(lay call env late l (i+1) (.tup []::loc) h).map fun r=>((s,none)::r.1,r.2):=by
 simp only[lay,U,cond_false,v8,Z,e];cases lay call env late l (i+1) (V.tup []::loc) h<;>rfl
abbrev pf:List V:=[.str [],.bool false,.bool false,.bool false,.bool false,.nilf]
theorem PO{b1:Nat}(g1:env.get 1=some (.ptr b1 0))(R:ai h b1 0=some (ZY (k:Int))):
 lay go env [4] [zc 113 [],zA 0 1,zL,zp (.ixarr 6 6 true) [.l 2,.l 0],zn (.al pf),zn (.st 6 (.l 0) (.l 1))] 0 [] h=
  some ([(zc 113 [],none),(zA 0 1,none),(zL,none),(zp (.ixarr 6 6 true) [.l 2,.l 0],none),(zn (.al pf),some (.ptr h.next 0,pf)),(zn (.st 6 (.l 0) (.l 1)),none)],halloc h pf):=by
 have U:∀(loc:List V)(h:Heap)(k:Nat),aM go loc env h (.p (.faddr k) [.v 1])=some (.ptr b1 k,h):=fun loc h k=>by
  simp only[aM,iv,eN,jN,g1,cZ,nW,Rc]
 have Z:∀(loc:List V)(h:Heap)(k:Nat)(v:V),ai h b1 k=some v->aM go (.ptr b1 k::loc) env h (.ld 1 false (.l 0))=some (v,h):=fun loc h k v e=>by
  simp only[aM,qj,fM,gW,e]
 rw[CT rfl rfl,dh rfl rfl (U _ _ _),dh rfl rfl (Z _ _ _ _ R),OD rfl rfl rfl,HV (c:=pf) rfl rfl,CT rfl rfl];rfl
theorem OE(loc:List V)(env:T V)(n:Nat):cL loc env (.al pf) (.ptr n 0) pf=true:=by
 simp[cL,jM,mE,vEq,eZ,lid]
theorem ED{a c t:Int}(w:WF h)(hk:k<256)(sl:ASl h 4 v n cs):
 ay go 111 [.agg [ZY (k:Int),ZZ a,ZZ c,ZZ t,v]] h fun u h'=>u=ZZ (FI k a c t n)/\Fr [] h h':=by
 have v1:v.one=true:=ASl.one sl;obtain⟨h1,U,Z,R⟩:=av w [ZY (k:Int),ZZ a,ZZ c,ZZ t,v];have D:=R.l1 0;by_cases c1:k<1
 ·have I:(k:Int)<1:=oM
  refine aa ?_;simp only[evs,↓reduceIte,Nat.reduceEqDiff,<-U,D,eq_true I];rw[FI,if_pos (.inl c1)];exact⟨rfl,Z⟩
 have I:¬(k:Int)<1:=oM
 by_cases c2:5<k
 ·have ab:(5:Int)<k:=oM
  refine aa ?_;simp only[evs,↓reduceIte,Nat.reduceEqDiff,<-U,D,eq_false I,eq_true ab];rw[FI,if_pos (.inr c2)];exact⟨rfl,Z⟩
 have ab:¬(5:Int)<k:=oM
 refine aa ?_;simp only[evs,↓reduceIte,Nat.reduceEqDiff,<-U,D,eq_false I,eq_false ab];refine(Ck _ _ _ _ _ _).2 ?_;rw[PO (b1:=h.next) iS D,jq];obtain⟨h3,ah,J,ak⟩:=av Z.wf pf;simp only[evs,eff,<-ah];refine aN (zH J.wf) fun h4 F4=>?_;have D:=((J.then F4).get R).l1 0;have ob:=F4.get ak;have ao:=(J.get R).l1 0;have nq:h1.next≠h.next:=by rw[U];simp[halloc]
 have ax:∃s p1 p2 p3 p4 f,aP (PK.ixarr 6 6 true) [.agg xU,ZY (k:Int)]=some (.agg [.str s,.bool p1,.bool p2,.bool p3,.bool p4,.func (.func f) [] []])/\p1=decide (k≠5)/\p2=decide (k=2\/k=3)/\p3=decide (k=3)/\p4=decide (k=1\/k=4\/k=5):=by
  obtain rfl|rfl|rfl|rfl|rfl:k=1\/k=2\/k=3\/k=4\/k=5:=oM<;>exact⟨_,_,_,_,_,_,rfl,rfl,rfl,rfl,rfl⟩
 obtain⟨s,p1,p2,p3,p4,f,ax,e1,e2,e3,e4⟩:=ax;simp only[evs,↓reduceIte,Nat.reduceEqDiff,eff,D,cR,OE,ax];refine stu F4.wf ob ?_;rintro h5 o5 F5 n5;have aj:Fr [] h1 h5:=(J.then F4).fresh F5 Z.wf (pi _);have ad:=Z.then aj;have om:=aj.get R;have m1:=om.ld1 1;have m2:=om.ld1 2;have m3:=om.ld1 3;have m4:=om.ld1 4;have r1:=o5.ld1 1;have r2:=o5.ld1 2;have r3:=o5.ld1 3;have r4:=o5.ld1 4;have sn:=(sl.fr ad).len;obtain rfl|rfl|rfl|rfl|rfl:k=1\/k=2\/k=3\/k=4\/k=5:=oM
 all_goals
  subst e1 e2 e3 e4;by_cases ha:a=0<;>by_cases hc:c=0<;>by_cases ht:t=0<;>by_cases hn:0<n<;>simp[evs,DF,D,ao,m1,m2,m3,m4,r1,r2,r3,r4,sn,ha,hc,ht,hn,FI,ad]
theorem nU(Z:i<z.length)(p:Int->Bool):eU p (z.drop i)=(p ((z[i]).toNat:Int)||eU p (z.drop (i+1))):=by
 unfold eU;rw[Ry Z,TE]
theorem qW(Z:z.length<=i)(p:Int->Bool):eU p (z.drop i)=false:=by
 rw[QF Z];rfl
def jV(b:Bool):Int:=if b then 1 else 0
theorem kH:ay go 120 [.str z] h fun u h'=>u=ZZ (jV (okT z))/\h=h':=by
 by_cases c1:(64:Int)<(z.length:Nat)
 ·refine aa ?_;simp[evs,aG,eq_true c1];have:okT z=false:=by unfold okT;rw[decide_eq_false oM];rfl
  rw[this];rfl
 refine aa ?_;simp[evs,aG,eq_false c1];refine aw (fun k env Z=>Z=h/\∃(i:Nat),env.get 3=some (ZZ i)/\env.get 0=some (.str z)/\i<=z.length/\eU gZ (z.drop i)=eU gZ z/\k=z.length-i) z.length oM ?_ ?_
 ·exact yaW
 ·rintro k env Z ⟨rfl,i,g3,g0,U,e,rfl⟩;by_cases hlt:i<z.length
  ·have hlt':(i:Int)<z.length:=oM
   rw[nU hlt]at e;by_cases c2:((z[i]).toNat:Int)<32
   ·simp[evs,g3,g0,aG,hlt',bZ hlt,eq_true c2];have:okT z=false:=by unfold okT;rw[<-e];simp[gZ,c2]
    rw[this];rfl
   by_cases c3:(126:Int)<((z[i]).toNat:Int)
   ·simp[evs,g3,g0,aG,hlt',bZ hlt,eq_false c2,eq_true c3];have:okT z=false:=by unfold okT;rw[<-e];simp[gZ,c3]
    rw[this];rfl
   exact yv
  ·simp[evs,g3,g0,aG,(oM:¬(i:Int)<z.length)];rw[qW oM]at e;have:okT z=true:=by unfold okT;rw[<-e,decide_eq_true oM];rfl
   rw[this];rfl
theorem jR:ay go 320 [.str z] h fun u h'=>u=.bool (okT z)/\h=h':=by
 by_cases c1:(64:Int)<(z.length:Nat)
 ·refine aa ?_;simp[evs,aG,eq_true c1];have:okT z=false:=by unfold okT;rw[decide_eq_false oM];rfl
  rw[this]
 refine aa ?_;simp[evs,aG,eq_false c1];refine aw (fun k env Z=>Z=h/\∃(i:Nat),env.get 3=some (ZZ i)/\env.get 0=some (.str z)/\i<=z.length/\eU gZ (z.drop i)=eU gZ z/\k=z.length-i) z.length oM ?_ ?_
 ·exact yaW
 ·rintro k env Z ⟨rfl,i,g3,g0,U,e,rfl⟩;by_cases hlt:i<z.length
  ·have hlt':(i:Int)<z.length:=oM
   rw[nU hlt]at e;by_cases c2:((z[i]).toNat:Int)<32
   ·simp[evs,g3,g0,aG,hlt',bZ hlt,eq_true c2];have:okT z=false:=by unfold okT;rw[<-e];simp[gZ,c2]
    rw[this]
   by_cases c3:(126:Int)<((z[i]).toNat:Int)
   ·simp[evs,g3,g0,aG,hlt',bZ hlt,eq_false c2,eq_true c3];have:okT z=false:=by unfold okT;rw[<-e];simp[gZ,c3]
    rw[this]
   exact yv
  ·simp[evs,g3,g0,aG,(oM:¬(i:Int)<z.length)];rw[qW oM]at e;have:okT z=true:=by unfold okT;rw[<-e,decide_eq_true oM];rfl
   rw[this]
theorem HJ:ay go 121 [.str z] h fun u h'=>u=ZZ (jV (okN z))/\h=h':=by
 by_cases c0:(z.length:Int)<1
 ·refine aa ?_;simp[evs,aG,eq_true c0];have:okN z=false:=by unfold okN;rw[decide_eq_false oM];rfl
  rw[this];rfl
 by_cases c1:(16:Int)<(z.length:Nat)
 ·refine aa ?_;simp[evs,aG,eq_false c0,eq_true c1];have:okN z=false:=by unfold okN;rw[decide_eq_false (oM:¬z.length<=16)];simp
  rw[this];rfl
 refine aa ?_;simp[evs,aG,eq_false c0,eq_false c1];refine aw (fun k env R=>R=h/\∃(i:Nat),env.get 3=some (ZZ i)/\env.get 0=some (.str z)/\i<=z.length/\eU dv (z.drop i)=eU dv z/\k=z.length-i) z.length oM ?_ ?_
 ·exact yaW
 ·rintro k env R ⟨rfl,i,g3,g0,J,e,rfl⟩;by_cases U:i<z.length
  ·have Z:(i:Int)<z.length:=oM
   rw[nU U]at e;have bad:dv ((z[i]).toNat:Int)=true->okN z=false:=fun q=>by unfold okN;rw[<-e,q];simp
   have good:dv ((z[i]).toNat:Int)=false->eU dv (z.drop (i+1))=eU dv z:=fun q=>by rw[<-e,q];rfl
   by_cases c1:(97:Int)<=((z[i]).toNat:Int)
   ·by_cases c2:((z[i]).toNat:Int)<=122
    ·simp(disch:=omega)[evs,fwrap_i64,g3,g0,aG,Z,bZ U,eq_true c1,eq_true c2];exact ya0
    ·by_cases c3:(48:Int)<=((z[i]).toNat:Int)
     ·have c4:¬((z[i]).toNat:Int)<=57:=oM
      simp[evs,g3,g0,aG,Z,bZ U,eq_true c1,eq_false c2,eq_true c3,eq_false c4];rw[bad (by simp[dv];omega)];rfl
     ·omega
   ·by_cases c3:(48:Int)<=((z[i]).toNat:Int)
    ·by_cases c4:((z[i]).toNat:Int)<=57
     ·simp(disch:=omega)[evs,fwrap_i64,g3,g0,aG,Z,bZ U,eq_false c1,eq_true c3,eq_true c4];exact ya0
     ·simp[evs,g3,g0,aG,Z,bZ U,eq_false c1,eq_true c3,eq_false c4];rw[bad (by simp[dv];omega)];rfl
    ·simp[evs,g3,g0,aG,Z,bZ U,eq_false c1,eq_false c3];rw[bad (by simp[dv];omega)];rfl
  ·simp[evs,g3,g0,aG,(oM:¬(i:Int)<z.length)];rw[qW oM]at e;have:okN z=true:=by unfold okN;rw[<-e,decide_eq_true oM,decide_eq_true (oM:z.length<=16)];rfl
   rw[this];rfl
theorem eY:ay go 321 [.str z] h fun u h'=>u=.bool (okN z)/\h=h':=by
 refine aa ?_;simp only[evs];refine aw (fun k env R=>R=h/\∃(i:Nat),env.get 3=some (ZZ i)/\env.get 0=some (.str z)/\i<=z.length/\i<=17/\eU dv (z.drop i)=eU dv z/\k=17-i) 17 oM ?_ ?_
 ·exact⟨rfl,0,iS,iS,oM,oM,rfl,rfl⟩
 ·rintro k env R ⟨rfl,i,g3,g0,D,I,e,rfl⟩;by_cases U:i<z.length
  ·have Z:(i:Int)<z.length:=oM
   by_cases c17:(i:Int)<17
   ·rw[nU U]at e;have bad:dv ((z[i]).toNat:Int)=true->okN z=false:=fun q=>by unfold okN;rw[<-e,q];simp
    have good:dv ((z[i]).toNat:Int)=false->eU dv (z.drop (i+1))=eU dv z:=fun q=>by rw[<-e,q];rfl
    by_cases c1:((z[i]).toNat:Int)<97
    ·by_cases c3:((z[i]).toNat:Int)<48
     ·simp[evs,g3,g0,aG,Z,bZ U,eq_true c1,eq_true c3,eq_true c17];rw[bad (by simp[dv];omega)]
     ·by_cases c4:(57:Int)<((z[i]).toNat:Int)
      ·simp[evs,g3,g0,aG,Z,bZ U,eq_true c1,eq_false c3,eq_true c4,eq_true c17];rw[bad (by simp[dv];omega)]
      ·simp(disch:=omega)[evs,fwrap_i64,g3,g0,aG,Z,bZ U,eq_true c1,eq_false c3,eq_false c4,eq_true c17];exact ya6
    ·by_cases c2:(122:Int)<((z[i]).toNat:Int)
     ·have c3:¬((z[i]).toNat:Int)<48:=oM
      have c4:(57:Int)<((z[i]).toNat:Int):=oM
      simp[evs,g3,g0,aG,Z,bZ U,eq_false c1,eq_true c2,eq_false c3,eq_true c4,eq_true c17];rw[bad (by simp[dv];omega)]
     ·simp(disch:=omega)[evs,fwrap_i64,g3,g0,aG,Z,bZ U,eq_false c1,eq_false c2,eq_true c17];exact ya6
   ·simp[evs,g3,g0,aG,Z,eq_false c17,(oM:(1:Int)<=(z.length:Nat)),(oM:¬((z.length:Nat):Int)<=16)];have:okN z=false:=by unfold okN;rw[decide_eq_false (oM:¬z.length<=16)];simp
    rw[this]
  ·rw[qW oM]at e;by_cases c0:(1:Int)<=(z.length:Nat)
   ·have J:okN z=decide (((z.length:Nat):Int)<=16):=by
     unfold okN;rw[<-e,decide_eq_true oM];have:decide (z.length<=16)=decide (((z.length:Nat):Int)<=16):=by rw[decide_eq_decide];omega
     rw[this];simp
    by_cases c1:((z.length:Nat):Int)<=16
    ·simp[evs,g3,g0,aG,(oM:¬(i:Int)<z.length),eq_true c0,eq_true c1];rw[J,decide_eq_true c1]
    ·simp[evs,g3,g0,aG,(oM:¬(i:Int)<z.length),eq_true c0,eq_false c1];rw[J,decide_eq_false c1]
   ·simp[evs,g3,g0,aG,(oM:¬(i:Int)<z.length),eq_false c0];have:okN z=false:=by unfold okN;rw[decide_eq_false oM];rfl
    rw[this]
theorem kC:∀d,d<10->aP (.slstr true true) [.str [48,49,50,51,52,53,54,55,56,57],ZX (d:Nat),ZX ((d:Nat)+1)]=some (.str [UInt8.ofNat (48+d)]):=by
 intro d Z;match d,Z with
 |0,_=>rfl
 |1,_=>rfl
 |2,_=>rfl
 |3,_=>rfl
 |4,_=>rfl
 |5,_=>rfl
 |6,_=>rfl
 |7,_=>rfl
 |8,_=>rfl
 |9,_=>rfl
theorem aI(a b:Str)(h:a.length+b.length<9223372036854775808):aP (.sb .add) [.str a,.str b]=some (.str (a++b)):=by
 simp only[aP,oR,(QJ ..).mpr h,cond_true]
theorem mY:∀(k n:Nat),n<10^(k+1)→(dec n).length≤k+1
 |k,n,h=>by
  by_cases c:n<10
  ·rw[kD c];simp
  ·match k,h with
   |0,h=>omega
   |k+1,h=>
    rw[pH c,List.length_append];have:=mY k (n/10) (by rw[Nat.pow_succ]at h;omega);simp only[List.length_cons,List.length_nil];omega
theorem aT(h:n<18446744073709551616):(dec n).length<=20:=mY 19 n oM
theorem mZ{h:Heap}:∀(k n:Nat),n<k→n<18446744073709551616→ay go 322 [.int .u64 (n:Int)] h fun u h'=>u=.str (dec n)∧h=h'
 |0,_,hk,_=>by omega
 |k+1,n,hk,hn=>by
  by_cases c:n<10
  ·have c':(n:Int)<10:=oM
   have f1:aB .u64 ((n:Int)+1)=(n:Int)+1:=fwrap_u64 _ oM oM;refine aa ?_;simp only[evs,seval,eq_true c',f1,kC n c];rw[kD c]
  ·have c':¬(n:Int)<10:=oM
   have r1:aP (.ib .rem) [.int .u64 (n:Int),.int .u64 10]=some (.int .u64 ((n%10:Nat):Int)):=by rw[iA _ _ _ dI];rfl
   have r2:aP (.ib .quo) [.int .u64 (n:Int),.int .u64 10]=some (.int .u64 ((n/10:Nat):Int)):=by
    rw[iB _ _ _ dI,(iR:((n:Int)).tdiv 10=((n/10:Nat):Int)),fwrap_u64 _ oM oM]
   refine aa ?_;simp only[evs,seval,eq_false c',r2];refine dm (mZ k (n/10) oM oM) ?_;simp only[evs,seval,r1];refine dm (mZ k (n%10) oM oM) ?_;have q1:=aT (n:=n/10) oM;have q2:=aT (n:=n%10) oM;simp only[evs,seval,aI _ _ (oM:(dec (n/10)).length+(dec (n%10)).length<9223372036854775808)];rw[pH c,kD (Nat.mod_lt n dI)]
theorem qw{x:Itm}(w:WF h)(a:ItmH h x):ay go 288 [.agg x.cells] h fun u h'=>u=ZZ (if gP x then 0 else 6)/\Fr [] h h':=by
 obtain⟨h1,R,Z,U⟩:=av w x.cells;have l0:=U.l1 0;have l2:=U.l1 2;have I:=U.l1 3;have am:=a.m.fr Z;by_cases c0:(x.key:Int)=0
 ·refine aa ?_;simp only[evs,seval,<-R,l0,eq_true c0];exact⟨by simp[gP,(oM:x.key=0)],Z⟩
 refine aa ?_;simp only[evs,seval,<-R,l0,eq_false c0,l2];refine ae jR ?_;rintro _ _ ⟨rfl,rfl⟩;cases c2:okT x.text
 ·simp only[evs,seval];exact⟨by simp[gP,c2],Z⟩
 by_cases c3:(8:Int)<(x.marks.length:Nat)
 ·simp only[evs,seval,I,am.len,eq_true c3];exact⟨by simp[gP,okM,(oM:¬x.marks.length<=8)],Z⟩
 simp only[evs,seval,I,am.len,eq_false c3];refine aw (fun k env hh=>hh=h1/\∃(i:Nat),env.get 3=some (ZZ i)/\env.get 1=some (.ptr h.next 0)/\i<=x.marks.length/\(x.marks.drop i).all okN=x.marks.all okN/\k=x.marks.length-i) x.marks.length oM ?_ ?_
 ·exact yaW
 ·rintro k env hh ⟨rfl,i,g3,g1,hi,e,rfl⟩;by_cases ab:i<x.marks.length
  ·have J:(i:Int)<x.marks.length:=oM
   obtain⟨b,o,s,e1,e2,_,e5⟩:=am.ix cC .i64 i oM J;have e4:ai hh b o=some (.str s):=e2 0 oM;rw[so]at e5;rw[aX e5,Su]at e;simp only[evs,seval,g3,g1,I,am.len,J,e1,e4];refine ae eY ?_;rintro _ _ ⟨rfl,rfl⟩;cases c:okN s
   ·simp only[evs,seval];rw[c]at e;have D:x.marks.all okN=false:=by rw[<-e];rfl
    exact⟨by simp[gP,okM,D],Z⟩
   ·simp(disch:=omega) only[evs,seval,fwrap_i64,g3];rw[c]at e;refine rqn ⟨x.marks.length-(i+1),oM,rfl,i+1,iS,iX,oM,by simpa using e,rfl⟩
  ·simp only[evs,seval,g3,g1,I,am.len,(oM:¬(i:Int)<x.marks.length)];rw[QF oM]at e;have D:x.marks.all okN=true:=by rw[<-e];rfl
   exact⟨by simp[gP,okM,D,c2,(oM:x.key≠0),(oM:x.marks.length<=8)],Z⟩
theorem In{X:List Itm}{key:Nat}(a:Recs Itm.cells 4 h v X)(hn:X.length<=4096):
 ay go 318 [v,ZX (key:Int)] h fun u h'=>h=h'/\∃r:Int,u=ZZ r/\(0<=r↔∃x∈X,x.key=key):=by
 refine aa ?_;simp only[evs,seval];refine aw (fun k env J=>J=h/\∃(i:Nat),env.get 5=some (ZZ i)/\env.get 0=some v/\env.get 1=some (ZX (key:Int))/\i<=X.length/\(∀x∈X.take i,x.key≠key)/\k=X.length-i) X.length oM ?_ ?_
 ·exact⟨rfl,0,iS,iS,iS,oM,iS,rfl⟩
 ·rintro k env J ⟨rfl,i,U,g0,g1,hi,e,rfl⟩;by_cases ab:i<X.length
  ·have Z:(i:Int)<X.length:=oM
   obtain⟨b,o,x,I,e2,_,R⟩:=Rg (k:=4) (fun _=>rfl) a .i64 i oM Z;have D:ai J b o=some (ZX (x.key:Int)):=e2 0 oM;rw[so]at R;by_cases c:x.key=key
   ·simp only[evs,seval,U,g0,g1,a.len,Z,I,D,c];exact⟨(i:Int),rfl,fun _=>⟨x,Of R,c⟩,fun _=>by omega⟩
   ·have c':¬(x.key:Int)=(key:Int):=oM
    simp(disch:=omega) only[evs,seval,fwrap_i64,U,g0,g1,a.len,Z,I,D,eq_false c'];refine rqn ⟨X.length-(i+1),oM,rfl,i+1,iS,iX,iX,oM,?_,rfl⟩;rw[QS,R];intro y m;rcases Qp.1 m with m|m
    ·exact e y m
    ·grind
  ·simp only[evs,seval,U,g0,a.len,(oM:¬(i:Int)<X.length)];rw[Qs oM]at e;exact⟨-1,rfl,fun q=>by omega,fun⟨x,m,q⟩=>absurd q (e x m)⟩
/-- paternoster/paternosterref14.Render -/
theorem g114x : F.get 58 = some fn114x := rfl
open Go.Ev.St
theorem HB(a b:Bool):jV a*jV b=jV (a&&b):=by cases a<;>cases b<;>rfl
theorem ig{x:Itm}{b0:Bool}{bb:Nat}{R:V->Heap->Prop}(w:WF h)(o:Own h bb x.cells)(a:ItmH h x)(g2:env.get 2=some (.ptr bb 0))(g5:env.get 5=some (ZZ (jV b0)))
 (k:∀h',h=h'->R (ZZ (if(b0&&x.marks.all okN)then 0 else 6)) h'):
 W go ckR env h (jo [.t 4] R):=by
 have l3:=o.l1 3;have am:=a.m;have an:=a.n;simp only[evs,ckR];refine aw (fun k env U=>U=h/\∃(i:Nat)(c:Bool),env.get 6=some (ZZ i)/\env.get 2=some (.ptr bb 0)/\env.get 5=some (ZZ (jV c))/\i<=x.marks.length/\(c&&(x.marks.drop i).all okN)=(b0&&x.marks.all okN)/\k=x.marks.length-i) x.marks.length oM ?_ ?_
 ·exact⟨rfl,0,b0,iS,iX,iX,oM,rfl,rfl⟩
 ·rintro k' env U ⟨rfl,i,c,g6,g2,g5,hi,e,rfl⟩;by_cases D:i<x.marks.length
  ·have Z:(i:Int)<x.marks.length:=oM
   obtain⟨b,o,s,I,e2,_,J⟩:=am.ix cC .i64 i oM Z;have e4:ai U b o=some (.str s):=e2 0 oM;rw[so]at J;rw[aX J,Su]at e;simp only[evs,seval,g6,g2,g5,l3,am.len,Z,I,e4];refine ae HJ ?_;rintro _ _ ⟨rfl,rfl⟩;have m1:aB .i64 (jV c*jV (okN s))=jV (c&&okN s):=by
    rw[HB,fwrap_i64 _ (by unfold jV;split<;>omega) (by unfold jV;split<;>omega)]
   simp(disch:=omega) only[evs,seval,fwrap_i64,g6,m1];refine rqn ⟨x.marks.length-(i+1),oM,rfl,i+1,c&&okN s,iS,iX,iS,oM,by rw[<-e,Bool.and_assoc],rfl⟩
  ·rw[QF oM]at e;have e':c=(b0&&x.marks.all okN):=by rw[<-e];simp
   cases c
   ·exact yaE
   ·exact yaE
theorem pK{x:Itm}{types:Nat}(w:WF h)(a:ItmH h x)(ht:types<256):ay go 58 [.agg x.cells,ZZ (types:Int)] h fun u h'=>u=ZZ (if okI x types then 0 else 6)/\Fr [] h h':=by
 obtain⟨h1,R,U,Z⟩:=av w x.cells;have I:=Z.l1 0;have l1:=Z.l1 1;have l2:=Z.l1 2;have D:=Z.l1 3;have J:=a.fr U;have at':=a.t;have bad:okI x types=false->∀h',h1=h'->(ZZ (if(false&&x.marks.all okN)then 0 else 6)=ZZ (if okI x types then 0 else 6)/\Fr [] h h'):=by grind
 have cv:aB .i64 (x.type:Int)=(x.type:Int):=fwrap_i64 _ oM oM;by_cases c0:(x.key:Int)=0
 ·refine aa ?_ g114x rfl;simp only[evs,seval,<-R,l2];refine ae kH ?_;rintro _ _ ⟨rfl,rfl⟩;simp only[evs,seval,I,eq_true c0];exact ig (b0:=false) U.wf Z J iS (by simp[jV]) (bad (by simp[okI,(oM:x.key=0)]))
 by_cases c1:(types:Int)<=(x.type:Int)
 ·refine aa ?_ g114x rfl;simp only[evs,seval,<-R,l2];refine ae kH ?_;rintro _ _ ⟨rfl,rfl⟩;simp only[evs,seval,I,l1,eq_false c0,cv,eq_true c1];exact ig (b0:=false) U.wf Z J iS (by simp[jV]) (bad (by simp[okI,(oM:¬x.type<types)]))
 by_cases c2:(8:Int)<(x.marks.length:Nat)
 ·refine aa ?_ g114x rfl;simp only[evs,seval,<-R,l2];refine ae kH ?_;rintro _ _ ⟨rfl,rfl⟩;simp only[evs,seval,I,l1,D,J.m.len,eq_false c0,cv,eq_false c1,eq_true c2];exact ig (b0:=false) U.wf Z J iS (by simp[jV]) (bad (by simp[okI,okM,(oM:¬x.marks.length<=8)]))
 refine aa ?_ g114x rfl;simp only[evs,seval,<-R,l2];refine ae kH ?_;rintro _ _ ⟨rfl,rfl⟩;simp only[evs,seval,I,l1,D,J.m.len,eq_false c0,cv,eq_false c1,eq_false c2];refine ig (b0:=okT x.text) U.wf Z J iS iS ?_;rintro _ rfl;have:(okT x.text&&x.marks.all okN)=okI x types:=by
  simp[okI,okM,(oM:x.key≠0),(oM:x.type<types),(oM:x.marks.length<=8)]
 rw[this];exact⟨rfl,U⟩
theorem zE:∀(a b:Str),(!Op.bytesLess b a)=leS a b
 |[],[]=>by simp[leS,Op.bytesLess]
 |[],y::b=>by simp[leS,Op.bytesLess]
 |x::a,[]=>by simp[leS,Op.bytesLess]
 |x::a,y::b=>by
  have ih:=zE a b;simp only[leS,Op.bytesLess]at ih⊢;have d1:decide (x<y)=decide (x.toNat<y.toNat):=rfl;have d2:decide (y<x)=decide (y.toNat<x.toNat):=rfl;rw[d1,d2];have e0:(x::a==y::b)=(x==y&&a==b):=rfl;rw[e0];rcases Nat.lt_trichotomy x.toNat y.toNat with q|q|q
  ·grind
  ·grind
  ·grind
theorem kX(a b:Str):aP (.sb .geq) [.str a,.str b]=some (.bool (leS b a)):=by
 rw[<-zE];rfl
theorem oU{l:List Slo}(w:WF h)(ra:Recs fE 3 h v l)(na:l.length<=4096):ay go 349 [v] h fun u h'=>u=.bool (bU l)/\Fr [] h h':=by
 by_cases c8:l.length<=8
 ·refine aa ?_;simp only[evs,seval,ra.len,(oM:¬(8:Int)<(l.length:Nat))];refine aw (fun n env hh=>Fr [] h hh/\∃(i:Nat),env.get 3=some (ZZ i)/\env.get 0=some v/\
   i<=l.length/\dd (dA l i) (l.drop i)=dd none l/\n=l.length-i) l.length oM ?_ ?_
  ·exact⟨Qw w,0,iS,iS,oM,rfl,rfl⟩
  ·rintro n env hh ⟨F,i,g3,g0,hi,e,rfl⟩;by_cases aE:i<l.length
   ·have ah:(i:Int)<l.length:=oM
    obtain⟨b',o',a,p1,p2,p3,p4⟩:=(ra.fr F).ix bV .i64 (i:Int) oM ah;rw[so]at p4;rw[aX p4,jS]at e;have en:=sr p4;have bad{h'}(f:Fr [] h h')(c:fU (dA l i) a=false):V.bool false=.bool (bU l)/\Fr [] h h':=by
     rw[c]at e;exact⟨by simp[bU,<-e],f⟩
    have rl:=(ra.fr F).len;obtain⟨h1,ao,ad,ax⟩:=av F.wf [.str [],ZY 0,.str []];simp only[evs,seval,g3,g0,rl,ah,p1,p3,<-ao];refine stu ad.wf ax ?_;rintro h2 o2 F2 n2;have aA:=ad.fresh F2 F.wf (pi _);have Z:=F.then aA;have U:=o2.l1 0;have J:=o2.l1 1;have D:=o2.l1 2;simp only[evs,seval,eff,U];refine ae eY ?_;rintro _ _ ⟨rfl,rfl⟩;cases c1:okN a.1
    ·simp only[evs,seval,DF,eff,U];exact bad Z (by simp[fU,c1])
    by_cases c2:(3:Int)<(a.2.1:Nat)
    ·simp only[evs,seval,DF,eff,U,J,eq_true c2];exact bad Z (by simp[fU];omega)
    simp only[evs,seval,eff,J,eq_false c2,D];refine ae jR ?_;rintro _ _ ⟨rfl,rfl⟩;cases c3:okT a.2.2
    ·simp only[evs,seval,DF,eff,U,J,D];exact bad Z (by simp[fU,c3])
    have fin:(decide (a.2.1=0)||a.2.2==[])=true->cJ (dA l i) a.1=true->dd (dA l (i+1)) (l.drop (i+1))=dd none l:=fun x y=>by
     exact yal
    have step:(decide (a.2.1=0)||a.2.2==[])=false->fU (dA l i) a=false:=fun x=>by unfold fU;rw[x];simp
    have ab:(decide ((a.2.1:Int)=0)=true\/(a.2.2==[])=true)->(decide (a.2.1=0)||a.2.2==[])=true:=by grind
    by_cases cf:(a.2.1:Int)=0
    ·by_cases c4:i=0
     ·simp(disch:=omega) only[evs,seval,DF,eff,fwrap_i64,g3,U,J,D,eq_true cf,(oM:¬(0:Int)<(i:Int))];refine rqn ⟨l.length-(i+1),oM,Z,i+1,iS,iX,oM,fin (ab (.inl (decide_eq_true cf))) (by simp[dA,c4,cJ]),rfl⟩
     ·obtain⟨b2,ak,I,t1,t2,t3,t4⟩:=(ra.fr Z).ix bV .i64 ((i:Int)-1) oM oM;have aj:l[i-1]? =some I:=by rw[<-t4];congr 1;omega
      have R:ai h2 b2 ak=some (.str I.1):=t2 0 oM;have pe:dA l i=some I.1:=by simp[dA,c4,aj]
      cases c5:leS a.1 I.1
      ·simp(disch:=omega) only[evs,seval,DF,eff,fwrap_i64,g3,g0,U,J,D,eq_true cf,c5,t1,R,kX,(oM:(0:Int)<(i:Int))];refine rqn ⟨l.length-(i+1),oM,Z,i+1,iS,iX,oM,fin (ab (.inl (decide_eq_true cf))) (by rw[pe];simp[cJ,c5]),rfl⟩
      ·simp(disch:=omega) only[evs,seval,DF,eff,fwrap_i64,g3,g0,U,J,D,eq_true cf,c5,t1,R,kX,(oM:(0:Int)<(i:Int))];exact bad Z (by simp[fU,pe,cJ,c5])
    ·have aF:¬a.2.1=0:=oM
     cases cv:a.2.2==[]
     ·simp only[evs,seval,DF,eff,U,J,D,eq_false cf,ba,cv];exact bad Z (step iX)
     ·by_cases c4:i=0
      ·simp(disch:=omega) only[evs,seval,DF,eff,fwrap_i64,g3,U,J,D,eq_false cf,ba,cv,(oM:¬(0:Int)<(i:Int))];refine rqn ⟨l.length-(i+1),oM,Z,i+1,iS,iX,oM,fin (ab (.inr cv)) (by simp[dA,c4,cJ]),rfl⟩
      ·obtain⟨b2,ak,I,t1,t2,t3,t4⟩:=(ra.fr Z).ix bV .i64 ((i:Int)-1) oM oM;have aj:l[i-1]? =some I:=by rw[<-t4];congr 1;omega
       have R:ai h2 b2 ak=some (.str I.1):=t2 0 oM;have pe:dA l i=some I.1:=by simp[dA,c4,aj]
       cases c5:leS a.1 I.1
       ·simp(disch:=omega) only[evs,seval,DF,eff,fwrap_i64,g3,g0,U,J,D,eq_false cf,ba,cv,c5,t1,R,kX,(oM:(0:Int)<(i:Int))];refine rqn ⟨l.length-(i+1),oM,Z,i+1,iS,iX,oM,fin (ab (.inr cv)) (by rw[pe];simp[cJ,c5]),rfl⟩
       ·simp(disch:=omega) only[evs,seval,DF,eff,fwrap_i64,g3,g0,U,J,D,eq_false cf,ba,cv,c5,t1,R,kX,(oM:(0:Int)<(i:Int))];exact bad Z (by simp[fU,pe,cJ,c5])
   ·simp only[evs,seval,g3,g0,(ra.fr F).len,(oM:¬(i:Int)<l.length)];rw[QF oM]at e;exact⟨by simp[bU,c8,<-e,dd],F⟩
 ·exact yaD
theorem HS(n m:Nat):decide ((n:Int)<=(m:Int))=decide (n<=m):=by rw[decide_eq_decide];omega
theorem yi(a b:Nat):decide ((a:Int)+(b:Int)=0)=decide (a+b=0):=by rw[decide_eq_decide];omega
theorem J4{ky:Str}{sl:List Slo}{sub:PT}(w:WF h)(n:PH h (.cons k tg ky sl tx va vc sub .nil)):
 ay go 342 [.agg [ZY (k:Int),.str tg,.str ky,va,.str tx,vc]] h fun u h'=>u=.bool (cB k tg ky sl tx sub.len)/\Fr [] h h':=by
 obtain⟨n1,ra,na,rc,nc,n6,_⟩:=n;obtain⟨h1,U,F_h1,o_h1⟩:=av w [ZY (k:Int),.str tg,.str ky,va,.str tx,vc];have J:=o_h1.l1 0;have l1:=o_h1.l1 1;have l2:=o_h1.l1 2;have I:=o_h1.l1 3;have l4:=o_h1.l1 4;have l5:=o_h1.l1 5;have la:=(ra.fr F_h1).len;have lc:=(rc.fr F_h1).len;by_cases k1:k=1
 ·have R:(k:Int)=1:=oM
  have Z:cB k tg ky sl tx sub.len=(okN tg&&((ky==[]||okN ky)&&(bU sl&&(tx==[]&&decide (sub.len<=16))))):=by
   unfold cB;rw[if_pos k1];cases okN tg<;>cases(ky==[]||okN ky)<;>cases bU sl<;>cases(tx==[])<;>cases decide (sub.len<=16)<;>rfl
  rw[Z];refine aa ?_;simp only[evs,seval,<-U,J,l1,eq_true R];refine ae eY ?_;rintro _ _ ⟨rfl,rfl⟩;cases c1:okN tg
  ·exact yay
  cases c2:ky==[]
  ·simp only[evs,seval,l2,aQ,c2];refine ae eY ?_;rintro _ _ ⟨rfl,rfl⟩;cases c3:okN ky
   ·exact yay
   simp only[evs,seval,I];exact yk
  ·simp only[evs,seval,l2,I,aQ,c2];exact yk
 have R:¬(k:Int)=1:=oM
 by_cases k2:k=2
 ·have D:(k:Int)=2:=oM
  have Z:cB k tg ky sl tx sub.len=(okT tx&&(tg==[]&&(ky==[]&&decide (sl.length+sub.len=0)))):=by
   unfold cB;rw[if_neg k1,if_neg oM,if_pos k2];have:decide (sl.length+sub.len=0)=(decide (sl.length=0)&&decide (sub.len=0)):=by rw[<-Bool.decide_and,decide_eq_decide];omega
   rw[this]
  rw[Z];refine aa ?_;simp only[evs,seval,<-U,J,eq_false R,eq_true D,l4];refine ae jR ?_;rintro _ _ ⟨rfl,rfl⟩;cases c1:okT tx
  ·exact yay
  cases c2:tg==[]
  ·simp only[evs,seval,l1,aQ,c2];exact⟨rfl,F_h1⟩
  cases c3:ky==[]
  ·simp only[evs,seval,l1,l2,aQ,c2,c3];exact⟨rfl,F_h1⟩
  simp(disch:=omega) only[evs,seval,fwrap_i64,l1,l2,I,l5,aQ,c2,c3,la,lc];exact⟨by rw[yi];rfl,F_h1⟩
 have D:¬(k:Int)=2:=oM
 by_cases ab:k=3\/k=4
 ·have Z:cB k tg ky sl tx sub.len=(tx==[]&&(tg==[]&&(ky==[]&&decide (sl.length+sub.len=0)))):=by
   unfold cB;rw[if_neg k1,if_neg oM,if_neg k2,if_pos ab];have:decide (sl.length+sub.len=0)=(decide (sl.length=0)&&decide (sub.len=0)):=by rw[<-Bool.decide_and,decide_eq_decide];omega
   rw[this];cases(tg==[])<;>cases(ky==[])<;>cases(tx==[])<;>rfl
  rw[Z];by_cases q:(k:Int)=3
  ·cases c1:tx==[]<;>cases c2:tg==[]<;>cases c3:ky==[];all_goals
    refine aa ?_;simp(disch:=omega) only[evs,seval,fwrap_i64,<-U,J,l1,l2,I,l4,l5,eq_false R,eq_false D,eq_true q,aQ,c1,c2,c3,la,lc];exact⟨by first|rfl|(rw[yi];rfl),F_h1⟩
  ·have q':(k:Int)=4:=oM
   cases c1:tx==[]<;>cases c2:tg==[]<;>cases c3:ky==[];all_goals
    refine aa ?_;simp(disch:=omega) only[evs,seval,fwrap_i64,<-U,J,l1,l2,I,l4,l5,eq_false R,eq_false D,eq_false q,eq_true q',aQ,c1,c2,c3,la,lc];exact⟨by first|rfl|(rw[yi];rfl),F_h1⟩
 have q3:¬(k:Int)=3:=oM
 have q4:¬(k:Int)=4:=oM
 by_cases k5:k=5
 ·have q5:(k:Int)=5:=oM
  have Z:cB k tg ky sl tx sub.len=(okN tg&&(bU sl&&(ky==[]&&(tx==[]&&decide (sub.len=0))))):=by
   unfold cB;rw[if_neg k1,if_pos k5]
  rw[Z];refine aa ?_;simp only[evs,seval,<-U,J,l1,eq_false R,eq_false D,eq_false q3,eq_false q4,eq_true q5];refine ae eY ?_;rintro _ _ ⟨rfl,rfl⟩;cases c1:okN tg
  ·exact yay
  simp only[evs,seval,I];refine aN (oU F_h1.wf (ra.fr F_h1) na) fun h2 F2=>?_;have m2:=(F2.get o_h1).l1 2;have m4:=(F2.get o_h1).l1 4;have m5:=(F2.get o_h1).l1 5;have lc2:=(rc.fr (F_h1.then F2)).len;cases c4:bU sl
  ·simp only[evs,seval];exact⟨rfl,F_h1.then F2⟩
  cases c3:ky==[]
  ·simp only[evs,seval,m2,aQ,c3];exact⟨rfl,F_h1.then F2⟩
  cases c5:tx==[]
  ·simp only[evs,seval,m2,m4,aQ,c3,c5];exact⟨rfl,F_h1.then F2⟩
  simp only[evs,seval,m2,m4,m5,aQ,c3,c5,lc2];exact⟨iS,F_h1.then F2⟩
 ·have q5:¬(k:Int)=5:=oM
  have Z:cB k tg ky sl tx sub.len=false:=by
   unfold cB;rw[if_neg k1,if_neg k5,if_neg k2,if_neg ab]
  rw[Z];refine aa ?_;simp only[evs,seval,<-U,J,eq_false R,eq_false D,eq_false q3,eq_false q4,eq_false q5];exact F_h1
def PT.rs:PT->Nat->Nat->Nat
 |.nil,_,c=>c
 |.cons k tg ky sl tx _ _ sub nx,lv,c=>if 64<c then c else nx.rs lv (c+(if lv=0\/cB k tg ky sl tx sub.len=false then 1000 else sub.rs (lv-1) 1))
def PT.rn(k:Nat)(tg ky:Str)(sl:List Slo)(tx:Str)(sub:PT)(lv:Nat):Nat:=if lv=0\/cB k tg ky sl tx sub.len=false then 1000 else sub.rs (lv-1) 1
theorem PT.rs_le:∀(t:PT)(lv c:Nat),t.rs lv c≤max c (1064+64*lv)
 |.nil,lv,c=>by simp only[PT.rs];omega
 |.cons k tg ky sl tx _ _ sub nx,lv,c=>by
  simp only[PT.rs];split
  ·omega
  ·have h1:=PT.rs_le sub (lv-1) 1;have h2:=PT.rs_le nx lv (c+(if lv=0∨cB k tg ky sl tx sub.len=false then 1000 else sub.rs (lv-1) 1));split at h2<;>rename_i q
   ·rw[if_pos q];omega
   ·rw[if_neg q];omega
theorem PT.rn_le(k:Nat)(tg ky:Str)(sl:List Slo)(tx:Str)(sub:PT)(lv:Nat):PT.rn k tg ky sl tx sub lv<=1064+64*lv:=by
 unfold PT.rn;split
 ·omega
 ·have:=PT.rs_le sub (lv-1) 1;omega
theorem PT.rs_stop:∀(t:PT)(lv c:Nat),64<c->t.rs lv c=c
 |.nil,_,_,_=>rfl
 |.cons _ _ _ _ _ _ _ _ _,_,_,h=>by simp only[PT.rs,if_pos h]
def CR(k:Nat)(tg ky:Str)(sl:List Slo)(tx:Str)(va vc:V)(sub:PT):Prop:=∀(lv:Nat)(h:Heap),lv<=6->WF h->PH h (.cons k tg ky sl tx va vc sub .nil)->
 ay go 333 [.agg [ZY (k:Int),.str tg,.str ky,va,.str tx,vc],ZZ (lv:Int)] h fun u h'=>u=ZZ (PT.rn k tg ky sl tx sub lv:Nat)/\Fr [] h h'
def CRs:PT->Prop
 |.nil=>True
 |.cons k tg ky sl tx va vc sub nx=>CR k tg ky sl tx va vc sub/\CRs nx
theorem CRs.at':∀{t:PT}(i:Nat),CRs t->CRs (t.at' i)
 |.nil,0,_=>trivial
 |.nil,_+1,_=>trivial
 |.cons _ _ _ _ _ _ _ _ _,0,a=>a
 |.cons _ _ _ _ _ _ _ _ _,i+1,⟨_,b⟩=>CRs.at' i b
theorem FD{ky:Str}{sl:List Slo}{sub:PT}(M:CRs sub):CR k tg ky sl tx va vc sub:=by
 intro lv h aE w n;have n0:=n;obtain⟨n1,ra,na,rc,nc,n6,_⟩:=n;obtain⟨h1,J,Z,D⟩:=av w [ZY (k:Int),.str tg,.str ky,va,.str tx,vc];by_cases c1:(lv:Int)<1
 ·refine aa ?_;simp only[evs,seval,<-J,eq_true c1];exact⟨by rw[PT.rn,if_pos (.inl oM)];rfl,Z⟩
 have l6:=D.la 6
 refine aa ?_;simp only[evs,seval,<-J,eq_false c1,l6];refine aN (J4 Z.wf (n0.fr Z)) fun h2 F2=>?_;have ao:=Z.then F2;cases c2:cB k tg ky sl tx sub.len
 ·simp only[evs,seval];exact⟨by rw[PT.rn,if_pos (.inr c2)];rfl,ao⟩
 have o2:=F2.get D;simp only[evs,seval];refine aw (fun n env hh=>Fr [] h2 hh/\∃(i c:Nat),env.get 6=some (ZZ (i:Int))/\env.get 5=some (ZZ (c:Int))/\env.get 2=some (.ptr h.next 0)/\env.get 1=some (ZZ (lv:Int))/\i<=sub.len/\c<=2000/\(sub.at' i).rs (lv-1) c=sub.rs (lv-1) 1/\n=sub.len-i) sub.len oM ?_ ?_
 ·exact⟨Qw F2.wf,0,1,iS,iS,iS,iS,oM,oM,by cases sub<;>rfl,rfl⟩
 ·rintro n' env hh ⟨F,i,c,g6,g5,g2,g1,hi,hc,e,rfl⟩;have F0:=ao.then F;have l5:=(F.get o2).l1 5;have R:=rc.fr F0;by_cases aj:i<sub.len
  ·have U:(i:Int)<sub.len:=oM
   by_cases c3:(c:Int)<=64
   ·obtain⟨kd,ab,ah,ad,ak,aA,aF,I,nx,e1,e2,e3,e4,e5,_⟩:=sub.split i aj;obtain⟨bi,oi,p1,p2⟩:=Sl.ix6 R aj e2;have ph:=PH.at' i (n6.fr F0);rw[e1]at ph e;obtain⟨z1,z2,z3,z4,z5,z6,z7⟩:=ph;have cr:=CRs.at' i M;rw[e1]at cr;obtain⟨q0,q1,q2,q3,q4,q5,q6⟩:=p2;simp(disch:=omega) only[evs,seval,fwrap_i64,g6,g5,g2,g1,l5,R.len,U,eq_true c3,p1,q6];have ax:(lv:Int)-1=((lv-1:Nat):Int):=oM
    rw[ax];refine aN (cr.1 (lv-1) hh oM F.wf ⟨z1,z2,z3,z4,z5,z6,trivial⟩) fun h3 F3=>?_;have le:=PT.rn_le kd ab ah ad ak I (lv-1);simp only[PT.rs,if_neg (oM:¬64<c)]at e;simp(disch:=omega) only[evs,seval,fwrap_i64,g6];refine rqn ⟨sub.len-(i+1),oM,F.then F3,i+1,c+PT.rn kd ab ah ad ak I (lv-1),iS,iS,iX,iX,oM,oM,by rw[e3];exact e,rfl⟩
   ·rw[PT.rs_stop _ _ _ oM]at e;simp only[evs,seval,g6,g5,g2,l5,R.len,U,eq_false c3];exact⟨by rw[PT.rn,if_neg (by rw[c2];simp;omega),<-e],F0⟩
  ·rw[PT.at_end _ _ oM]at e;have U:¬(i:Int)<sub.len:=oM
   simp only[evs,seval,g6,g5,g2,l5,R.len,eq_false U];have e':c=sub.rs (lv-1) 1:=e;exact⟨by rw[PT.rn,if_neg (by rw[c2];simp;omega),<-e'],F0⟩
theorem crs:∀t:PT,CRs t
 |.nil=>trivial
 |.cons _ _ _ _ _ _ _ sub nx=>⟨FD (crs sub),crs nx⟩
end Go.Ev.Lay
namespace Go.Ev
abbrev RB:=@Go.Ev.Gs.append1
abbrev TN:=@Go.Ev.Lay.PT.app_len
abbrev Uc:=@Go.Ev.Lay.PH.ones
abbrev Uh:=@Go.Ev.Lay.PT.at_end
end Go.Ev
