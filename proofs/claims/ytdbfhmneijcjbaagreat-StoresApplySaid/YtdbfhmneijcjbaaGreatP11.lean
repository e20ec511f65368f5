/- An evaluator of the program, and contracts over it: StbD to StbP. -/
import Derived.Test.YtdbfhmneijcjbaaGreatP10
set_option linter.unusedSimpArgs false
set_option linter.unusedVariables false
set_option linter.constructorNameAsVariable false
set_option linter.unnecessarySimpa false
namespace Go.Ev.Lay
variable{tg ky tx:Str}{sl:List Slo}{va vc vK v5 k0 c0 t0:V}{cs:List V}{h' h1:Heap}{n0:NL}{bg bm bl nb B0 pb ib:Nat}{Ks:List Knd}{cap:Int}{kn st:List Bool}{pm:Option Nat}{env:T V}{R:V->Heap->Prop}
open Go.Ev.St
set_option maxRecDepth 4000
theorem yA:∀(a b:Str),(!Op.bytesLess b a)=leS a b
 |[],[]=>by simp[leS,Op.bytesLess]
 |[],y::b=>by simp[leS,Op.bytesLess]
 |x::a,[]=>by simp[leS,Op.bytesLess]
 |x::a,y::b=>by have ih:=yA a b;simp only[leS,Op.bytesLess]at ih⊢;have d1:decide (x<y)=decide (x.toNat<y.toNat):=rfl;have d2:decide (y<x)=decide (y.toNat<x.toNat):=rfl;rw[d1,d2];have e0:(x::a==y::b)=(x==y&&a==b):=rfl;rw[e0];obtain q|q|q:=Nat.lt_trichotomy x.toNat y.toNat;grind;grind;grind
theorem lQ(a b:Str):aP (.sb .geq) [.str a,.str b]=some (.bool (leS b a)):=by rw[<-yA];rfl
theorem pC{h:Heap}{v:V}{l:List Slo}(w:WF h)(ra:Recs tR 3 h v l)(na:l.length≤4096):ao go 297 [v] h fun u h'=>u=.bool (cH l)∧Fr [] h h':=by
 by_cases c8:l.length≤8;refine ag ?_;simp only[evs,seval,ra.len,(oM:¬(8:Int)<(l.length:Nat))];refine aC (fun n env hh=>Fr [] h hh∧∃(i:Nat),env.get 3=some (.int .i64 i)∧env.get 0=some v∧
  i≤l.length∧eO (dC l i) (l.drop i)=eO none l∧n=l.length-i) l.length oM ?_ ?_
 exact⟨Fr.refl w,0,iS,iS,oM,rfl,rfl⟩;rintro n env hh ⟨F,i,g3,g0,hi,e,rfl⟩;by_cases hlt:i<l.length;have hlt':(i:Int)<l.length:=oM;let⟨b',o',a,p1,p2,p3,p4⟩:=(ra.fr F).ix fT .i64 (i:Int) oM hlt';rw[Int.toNat_natCast]at p4;rw[aK p4,jV]at e;have en:=rQ p4;have bad:∀{h'},Fr [] h h'→ip (dC l i) a=false→V.bool false=.bool (cH l)∧Fr [] h h':=fun f c=>by rw[c]at e;exact⟨by simp[cH,←e],f⟩
 have rl:=(ra.fr F).len;let⟨h1,e_h1,F_h1,o_h1⟩:=aq F.wf [.str [],.int .u8 0,.str []];simp only[evs,seval,g3,g0,rl,hlt',p1,p3,←e_h1];refine stu F_h1.wf o_h1 ?_;rintro h2 o2 F2 n2;have F02:Fr [] hh h2:=F_h1.fresh F2 F.wf (Nat.le_refl _);have Fa:=F.then F02;have q0:ab h2 hh.next 0=some (.str a.1):=o2.ld1 0;have q1:ab h2 hh.next 1=some (.int .u8 (a.2.1:Int)):=o2.ld1 1;have q2:ab h2 hh.next 2=some (.str a.2.2):=o2.ld1 2;simp only[evs,seval,eff,q0];refine aa eZ ?_;rintro _ _ ⟨rfl,rfl⟩;cases c1:okN a.1;simp only[evs,seval,DF,eff,q0];exact bad Fa (by simp[ip,c1]);by_cases c2:(3:Int)<(a.2.1:Nat);simp only[evs,seval,DF,eff,q0,q1,eq_true c2];exact bad Fa (by simp[ip];omega);simp only[evs,seval,eff,q1,eq_false c2,q2];refine aa jU ?_;rintro _ _ ⟨rfl,rfl⟩;cases c3:okT a.2.2;simp only[evs,seval,DF,eff,q0,q1,q2];exact bad Fa (by simp[ip,c3]);have fin:(decide (a.2.1=0)||a.2.2==[])=true→cM (dC l i) a.1=true→eO (dC l (i+1)) (l.drop (i+1))=eO none l:=fun x y=>by
  have z:ip (dC l i) a=true:=by unfold ip;rw[c1,c3,x,y,(oO:decide (a.2.1≤3)=true)];rfl
  rw[z,Bool.true_and]at e;rw[en];exact e
 have step:(decide (a.2.1=0)||a.2.2==[])=false→ip (dC l i) a=false:=fun x=>by unfold ip;rw[x];simp
 have go1:(decide ((a.2.1:Int)=0)=true∨(a.2.2==[])=true)→(decide (a.2.1=0)||a.2.2==[])=true:=by grind
 by_cases cf:(a.2.1:Int)=0;by_cases c4:i=0;simp(disch:=omega) only[evs,seval,DF,eff,ah,g3,q0,q1,q2,eq_true cf,(oM:¬(0:Int)<(i:Int))];refine rqn ⟨l.length-(i+1),oM,Fa,i+1,iS,iX,oM,fin (go1 (.inl (decide_eq_true cf))) (by simp[dC,c4,cM]),rfl⟩;let⟨b2,o2',a2,t1,t2,t3,t4⟩:=(ra.fr Fa).ix fT .i64 ((i:Int)-1) oM oM;have t4':l[i-1]? =some a2:=by rw[←t4];congr 1;omega
 have t2':ab h2 b2 o2'=some (.str a2.1):=t2 0 oM;have pe:dC l i=some a2.1:=by simp[dC,c4,t4']
 cases c5:leS a.1 a2.1;simp(disch:=omega) only[evs,seval,DF,eff,ah,g3,g0,q0,q1,q2,eq_true cf,c5,t1,t2',lQ,(oM:(0:Int)<(i:Int))];refine rqn ⟨l.length-(i+1),oM,Fa,i+1,iS,iX,oM,fin (go1 (.inl (decide_eq_true cf))) (by rw[pe];simp[cM,c5]),rfl⟩;simp(disch:=omega) only[evs,seval,DF,eff,ah,g3,g0,q0,q1,q2,eq_true cf,c5,t1,t2',lQ,(oM:(0:Int)<(i:Int))];exact bad Fa (by simp[ip,pe,cM,c5]);have cf':¬a.2.1=0:=oM;cases cv:a.2.2==[];simp only[evs,seval,DF,eff,q0,q1,q2,eq_false cf,aY,cv];exact bad Fa (step iX);by_cases c4:i=0;simp(disch:=omega) only[evs,seval,DF,eff,ah,g3,q0,q1,q2,eq_false cf,aY,cv,(oM:¬(0:Int)<(i:Int))];refine rqn ⟨l.length-(i+1),oM,Fa,i+1,iS,iX,oM,fin (go1 (.inr cv)) (by simp[dC,c4,cM]),rfl⟩;let⟨b2,o2',a2,t1,t2,t3,t4⟩:=(ra.fr Fa).ix fT .i64 ((i:Int)-1) oM oM;have t4':l[i-1]? =some a2:=by rw[←t4];congr 1;omega
 have t2':ab h2 b2 o2'=some (.str a2.1):=t2 0 oM;have pe:dC l i=some a2.1:=by simp[dC,c4,t4']
 cases c5:leS a.1 a2.1;simp(disch:=omega) only[evs,seval,DF,eff,ah,g3,g0,q0,q1,q2,eq_false cf,aY,cv,c5,t1,t2',lQ,(oM:(0:Int)<(i:Int))];refine rqn ⟨l.length-(i+1),oM,Fa,i+1,iS,iX,oM,fin (go1 (.inr cv)) (by rw[pe];simp[cM,c5]),rfl⟩;simp(disch:=omega) only[evs,seval,DF,eff,ah,g3,g0,q0,q1,q2,eq_false cf,aY,cv,c5,t1,t2',lQ,(oM:(0:Int)<(i:Int))];exact bad Fa (by simp[ip,pe,cM,c5]);simp only[evs,seval,g3,g0,(ra.fr F).len,(oM:¬(i:Int)<l.length)];rw[List.drop_of_length_le oM]at e;exact⟨by simp[cH,c8,←e,eO],F⟩;refine ag ?_;simp only[evs,seval,ra.len,(oM:(8:Int)<(l.length:Nat))];exact⟨by simp[cH,c8],Fr.refl w⟩
theorem ET(n m:Nat):decide ((n:Int)<=(m:Int))=decide (n<=m):=by rw[decide_eq_decide];omega
theorem xj(a b:Nat):decide ((a:Int)+(b:Int)=0)=decide (a+b=0):=by rw[decide_eq_decide];omega
theorem H4{h:Heap}{k:Nat}{tg ky tx:Str}{sl:List Slo}{va vc:V}{sub:PT}(w:WF h)(n:PH h (.cons k tg ky sl tx va vc sub .nil)):
 ao go 292 [.agg [.int .u8 (k:Int),.str tg,.str ky,va,.str tx,vc]] h fun u h'=>u=.bool (dV k tg ky sl tx sub.len)∧Fr [] h h':=by
 let⟨n1,ra,na,rc,nc,n6,_⟩:=n;let⟨h1,e_h1,F_h1,o_h1⟩:=aq w [.int .u8 (k:Int),.str tg,.str ky,va,.str tx,vc];have l0:ab h1 h.next 0=some (.int .u8 (k:Int)):=o_h1.ld1 0;have l1:ab h1 h.next 1=some (.str tg):=o_h1.ld1 1;have l2:ab h1 h.next 2=some (.str ky):=o_h1.ld1 2;have l3:ab h1 h.next 3=some va:=o_h1.ld1 3;have l4:ab h1 h.next 4=some (.str tx):=o_h1.ld1 4;have l5:ab h1 h.next 5=some vc:=o_h1.ld1 5;have la:=(ra.fr F_h1).len;have lc:=(rc.fr F_h1).len;by_cases k1:k=1
 ·have q1:(k:Int)=1:=oM
  have spec:dV k tg ky sl tx sub.len=(okN tg&&((ky==[]||okN ky)&&(cH sl&&(tx==[]&&decide (sub.len≤16))))):=by
   unfold dV;rw[if_pos k1];cases okN tg<;>cases(ky==[]||okN ky)<;>cases cH sl<;>cases(tx==[])<;>cases decide (sub.len≤16)<;>rfl
  rw[spec];refine ag ?_;simp only[evs,seval,←e_h1,l0,l1,eq_true q1];refine aa eZ ?_;rintro _ _ ⟨rfl,rfl⟩;cases c1:okN tg
  ·simp only[evs,seval];exact⟨rfl,F_h1⟩
  cases c2:ky==[]
  ·simp only[evs,seval,l2,aN,c2];apply aa eZ;rintro _ _ ⟨rfl,rfl⟩;cases c3:okN ky
   ·simp only[evs,seval];exact⟨rfl,F_h1⟩
   simp only[evs,seval,l3];refine aa (pC F_h1.wf (ra.fr F_h1) na) ?_;rintro _ h2 ⟨rfl,F2⟩;have m4:ab h2 h.next 4=some (.str tx):=(F2.get o_h1).ld1 4;have m5:ab h2 h.next 5=some vc:=(F2.get o_h1).ld1 5;have lc2:=(rc.fr (F_h1.then F2)).len;cases c4:cH sl
   ·simp only[evs,seval];exact⟨rfl,F_h1.then F2⟩
   cases c5:tx==[]
   ·simp only[evs,seval,m4,aN,c5];exact⟨rfl,F_h1.then F2⟩
   simp only[evs,seval,m4,m5,aN,c5,lc2];exact⟨by simp[(iR:((16:Nat):Int)=16),←ET],F_h1.then F2⟩
  ·simp only[evs,seval,l2,l3,aN,c2];refine aa (pC F_h1.wf (ra.fr F_h1) na) ?_;rintro _ h2 ⟨rfl,F2⟩;have m4:ab h2 h.next 4=some (.str tx):=(F2.get o_h1).ld1 4;have m5:ab h2 h.next 5=some vc:=(F2.get o_h1).ld1 5;have lc2:=(rc.fr (F_h1.then F2)).len;cases c4:cH sl
   ·simp only[evs,seval];exact⟨rfl,F_h1.then F2⟩
   cases c5:tx==[]
   ·simp only[evs,seval,m4,aN,c5];exact⟨rfl,F_h1.then F2⟩
   simp only[evs,seval,m4,m5,aN,c5,lc2];exact⟨by simp[(iR:((16:Nat):Int)=16),←ET],F_h1.then F2⟩
 have q1:¬(k:Int)=1:=oM
 by_cases k2:k=2
 ·have q2:(k:Int)=2:=oM
  have spec:dV k tg ky sl tx sub.len=(okT tx&&(tg==[]&&(ky==[]&&decide (sl.length+sub.len=0)))):=by
   unfold dV;rw[if_neg k1,if_neg oM,if_pos k2];have:decide (sl.length+sub.len=0)=(decide (sl.length=0)&&decide (sub.len=0)):=by rw[←Bool.decide_and,decide_eq_decide];omega
   rw[this]
  rw[spec];refine ag ?_;simp only[evs,seval,←e_h1,l0,eq_false q1,eq_true q2,l4];refine aa jU ?_;rintro _ _ ⟨rfl,rfl⟩;cases c1:okT tx
  ·simp only[evs,seval];exact⟨rfl,F_h1⟩
  cases c2:tg==[]
  ·simp only[evs,seval,l1,aN,c2];exact⟨rfl,F_h1⟩
  cases c3:ky==[]
  ·simp only[evs,seval,l1,l2,aN,c2,c3];exact⟨rfl,F_h1⟩
  simp(disch:=omega) only[evs,seval,ah,l1,l2,l3,l5,aN,c2,c3,la,lc];exact⟨by rw[xj];rfl,F_h1⟩
 have q2:¬(k:Int)=2:=oM
 by_cases k34:k=3∨k=4
 ·have spec:dV k tg ky sl tx sub.len=(tx==[]&&(tg==[]&&(ky==[]&&decide (sl.length+sub.len=0)))):=by
   unfold dV;rw[if_neg k1,if_neg oM,if_neg k2,if_pos k34];have:decide (sl.length+sub.len=0)=(decide (sl.length=0)&&decide (sub.len=0)):=by rw[←Bool.decide_and,decide_eq_decide];omega
   rw[this];cases(tg==[])<;>cases(ky==[])<;>cases(tx==[])<;>rfl
  rw[spec];by_cases q:(k:Int)=3
  ·cases c1:tx==[]<;>cases c2:tg==[]<;>cases c3:ky==[];all_goals
    refine ag ?_;simp(disch:=omega) only[evs,seval,ah,←e_h1,l0,l1,l2,l3,l4,l5,eq_false q1,eq_false q2,eq_true q,aN,c1,c2,c3,la,lc];exact⟨by first|rfl|(rw[xj];rfl),F_h1⟩
  ·have q':(k:Int)=4:=oM
   cases c1:tx==[]<;>cases c2:tg==[]<;>cases c3:ky==[];all_goals
    refine ag ?_;simp(disch:=omega) only[evs,seval,ah,←e_h1,l0,l1,l2,l3,l4,l5,eq_false q1,eq_false q2,eq_false q,eq_true q',aN,c1,c2,c3,la,lc];exact⟨by first|rfl|(rw[xj];rfl),F_h1⟩
 have q3:¬(k:Int)=3:=oM
 have q4:¬(k:Int)=4:=oM
 by_cases k5:k=5
 ·have q5:(k:Int)=5:=oM
  have spec:dV k tg ky sl tx sub.len=(okN tg&&(cH sl&&(ky==[]&&(tx==[]&&decide (sub.len=0))))):=by
   unfold dV;rw[if_neg k1,if_pos k5]
  rw[spec];refine ag ?_;simp only[evs,seval,←e_h1,l0,l1,eq_false q1,eq_false q2,eq_false q3,eq_false q4,eq_true q5];refine aa eZ ?_;rintro _ _ ⟨rfl,rfl⟩;cases c1:okN tg
  ·simp only[evs,seval];exact⟨rfl,F_h1⟩
  simp only[evs,seval,l3];apply aa (pC F_h1.wf (ra.fr F_h1) na);rintro _ h2 ⟨rfl,F2⟩;have m2:ab h2 h.next 2=some (.str ky):=(F2.get o_h1).ld1 2;have m4:ab h2 h.next 4=some (.str tx):=(F2.get o_h1).ld1 4;have m5:ab h2 h.next 5=some vc:=(F2.get o_h1).ld1 5;have lc2:=(rc.fr (F_h1.then F2)).len;cases c4:cH sl
  ·simp only[evs,seval];exact⟨rfl,F_h1.then F2⟩
  cases c3:ky==[]
  ·simp only[evs,seval,m2,aN,c3];exact⟨rfl,F_h1.then F2⟩
  cases c5:tx==[]
  ·simp only[evs,seval,m2,m4,aN,c3,c5];exact⟨rfl,F_h1.then F2⟩
  simp only[evs,seval,m2,m4,m5,aN,c3,c5,lc2];exact⟨iS,F_h1.then F2⟩
 ·have q5:¬(k:Int)=5:=oM
  have spec:dV k tg ky sl tx sub.len=false:=by
   unfold dV;rw[if_neg k1,if_neg k5,if_neg k2,if_neg k34]
  rw[spec];refine ag ?_;simp only[evs,seval,←e_h1,l0,eq_false q1,eq_false q2,eq_false q3,eq_false q4,eq_false q5];exact F_h1
def PT.rs:PT->Nat->Nat->Nat
 |.nil,_,c=>c
 |.cons k tg ky sl tx _ _ sub nx,lv,c=>if 64<c then c else nx.rs lv (c+(if lv=0\/dV k tg ky sl tx sub.len=false then 1000 else sub.rs (lv-1) 1))
def PT.rn(k:Nat)(tg ky:Str)(sl:List Slo)(tx:Str)(sub:PT)(lv:Nat):Nat:=if lv=0\/dV k tg ky sl tx sub.len=false then 1000 else sub.rs (lv-1) 1
theorem PT.rs_le:∀(t:PT)(lv c:Nat),t.rs lv c≤max c (1064+64*lv)
 |.nil,lv,c=>by simp only[PT.rs];omega
 |.cons k tg ky sl tx _ _ sub nx,lv,c=>by
  simp only[PT.rs];split;omega;have h1:=PT.rs_le sub (lv-1) 1;have h2:=PT.rs_le nx lv (c+(if lv=0∨dV k tg ky sl tx sub.len=false then 1000 else sub.rs (lv-1) 1));split at h2<;>rename_i q
  rw[if_pos q];omega;rw[if_neg q];omega
theorem PT.rn_le(k:Nat)(tg ky:Str)(sl:List Slo)(tx:Str)(sub:PT)(lv:Nat):PT.rn k tg ky sl tx sub lv<=1064+64*lv:=by unfold PT.rn;split;omega;have:=PT.rs_le sub (lv-1) 1;omega
theorem PT.rs_stop:∀(t:PT)(lv c:Nat),64<c->t.rs lv c=c
 |.nil,_,_,_=>rfl
 |.cons _ _ _ _ _ _ _ _ _,_,_,h=>by simp only[PT.rs,if_pos h]
def CR(k:Nat)(tg ky:Str)(sl:List Slo)(tx:Str)(va vc:V)(sub:PT):Prop:=∀(lv:Nat)(h:Heap),lv<=6->WF h->PH h (.cons k tg ky sl tx va vc sub .nil)->
 ao go 272 [.agg [ZY (k:Int),.str tg,.str ky,va,.str tx,vc],ZZ (lv:Int)] h fun u h'=>u=ZZ (PT.rn k tg ky sl tx sub lv:Nat)/\Fr [] h h'
def CRs:PT->Prop
 |.nil=>True
 |.cons k tg ky sl tx va vc sub nx=>CR k tg ky sl tx va vc sub/\CRs nx
theorem CRs.at':∀{t:PT}(i:Nat),CRs t->CRs (t.at' i)
 |.nil,0,_=>trivial
 |.nil,_+1,_=>trivial
 |.cons _ _ _ _ _ _ _ _ _,0,a=>a
 |.cons _ _ _ _ _ _ _ _ _,i+1,⟨_,b⟩=>CRs.at' i b
theorem Di{k:Nat}{sub:PT}(M:CRs sub):CR k tg ky sl tx va vc sub:=by
 intro lv h ak w n;have n0:=n;let⟨n1,ra,na,rc,nc,n6,_⟩:=n;let⟨h1,e_h1,F_h1,o_h1⟩:=aq w [ZY (k:Int),.str tg,.str ky,va,.str tx,vc];by_cases c1:(lv:Int)<1;refine ag ?_;simp only[evs,seval,<-e_h1,eq_true c1];exact⟨by rw[PT.rn,if_pos (.inl oM)];rfl,F_h1⟩;have l6:aj h1 h.next 0 6=some [ZY (k:Int),.str tg,.str ky,va,.str tx,vc]:=by rw[o_h1.ld];rfl
 refine ag ?_;simp only[evs,seval,<-e_h1,eq_false c1,l6];apply aa (H4 F_h1.wf (n0.fr F_h1));rintro _ h2 ⟨rfl,F2⟩;have ac:=F_h1.then F2;cases c2:dV k tg ky sl tx sub.len;simp only[evs,seval];exact⟨by rw[PT.rn,if_pos (.inr c2)];rfl,ac⟩;have o2:=F2.get o_h1;simp only[evs,seval];refine aC (fun n env hh=>Fr [] h2 hh/\∃(i c:Nat),env.get 6=some (ZZ (i:Int))/\env.get 5=some (ZZ (c:Int))/\env.get 2=some (.ptr h.next 0)/\env.get 1=some (ZZ (lv:Int))/\i<=sub.len/\c<=2000/\(sub.at' i).rs (lv-1) c=sub.rs (lv-1) 1/\n=sub.len-i) sub.len oM ?_ ?_;exact⟨Sn F2.wf,0,1,iS,iS,iS,iS,oM,oM,by cases sub<;>rfl,rfl⟩;rintro n' env hh ⟨F,i,c,g6,g5,g2,g1,hi,hc,e,rfl⟩;have F0:=ac.then F;have l5:ab hh h.next 5=some vc:=(F.get o2).ld1 5;have K:=rc.fr F0;by_cases ae:i<sub.len;have Z:(i:Int)<sub.len:=oM;by_cases c3:(c:Int)<=64;let⟨kd,tg2,ky2,at2,tx2,va2,vc2,sub2,nx,e1,e2,e3,e4,e5,_⟩:=sub.split i ae;let⟨bi,oi,p1,p2⟩:=Sl.ix6 K ae e2;have ph:=PH.at' i (n6.fr F0);rw[e1]at ph e;let⟨z1,z2,z3,z4,z5,z6,z7⟩:=ph;have cr:=CRs.at' i M;rw[e1]at cr;let⟨q0,q1,q2,q3,q4,q5,q6⟩:=p2;simp(disch:=omega) only[evs,seval,ah,g6,g5,g2,g1,l5,K.len,Z,eq_true c3,p1,q6];have af:(lv:Int)-1=((lv-1:Nat):Int):=oM;rw[af];apply aa (cr.1 (lv-1) hh oM F.wf ⟨z1,z2,z3,z4,z5,z6,trivial⟩);rintro _ h3 ⟨rfl,F3⟩;have le:=PT.rn_le kd tg2 ky2 at2 tx2 sub2 (lv-1);simp only[PT.rs,if_neg (oM:¬64<c)]at e;simp(disch:=omega) only[evs,seval,ah,g6];refine rqn ⟨sub.len-(i+1),oM,F.then F3,i+1,c+PT.rn kd tg2 ky2 at2 tx2 sub2 (lv-1),iS,iS,iX,iX,oM,oM,by rw[e3];exact e,rfl⟩;rw[PT.rs_stop _ _ _ oM]at e;simp only[evs,seval,g6,g5,g2,l5,K.len,Z,eq_false c3];exact⟨by rw[PT.rn,if_neg (by rw[c2];simp;omega),<-e],F0⟩;rw[PT.at_end _ _ oM]at e;have Z:¬(i:Int)<sub.len:=oM;simp only[evs,seval,g6,g5,g2,l5,K.len,eq_false Z];have e':c=sub.rs (lv-1) 1:=e;exact⟨by rw[PT.rn,if_neg (by rw[c2];simp;omega),<-e'],F0⟩
theorem crs:∀t:PT,CRs t
 |.nil=>trivial
 |.cons _ _ _ _ _ _ _ sub nx=>⟨Di (crs sub),crs nx⟩
def PT.rC(k:Nat)(tg ky:Str)(sl:List Slo)(tx:Str)(sub:PT):Nat:=if k≠1\/64<PT.rn k tg ky sl tx sub 6 then 0 else PT.rn k tg ky sl tx sub 6
theorem DO{h:Heap}{k:Nat}{sub:PT}(w:WF h)(n:PH h (.cons k tg ky sl tx va vc sub .nil)):
 ao go 237 [.agg [ZY (k:Int),.str tg,.str ky,va,.str tx,vc]] h fun u h'=>u=ZZ (PT.rC k tg ky sl tx sub:Nat)/\Fr [] h h':=by
 let⟨h1,e_h1,F_h1,o_h1⟩:=aq w [ZY (k:Int),.str tg,.str ky,va,.str tx,vc];have l6:aj h1 h.next 0 6=some [ZY (k:Int),.str tg,.str ky,va,.str tx,vc]:=by rw[o_h1.ld];rfl
 refine ag ?_;simp only[evs,seval,<-e_h1,l6];refine aa ((crs (.cons k tg ky sl tx va vc sub .nil)).1 6 h1 oM F_h1.wf (n.fr F_h1)) ?_;rintro _ h2 ⟨rfl,Z⟩;have K:ab h2 h.next 0=some (ZY (k:Int)):=(Z.get o_h1).ld1 0;unfold PT.rC;by_cases c1:(k:Int)=1;by_cases c2:(64:Int)<(PT.rn k tg ky sl tx sub 6:Nat);simp only[evs,seval,K,eq_true c1,eq_true c2];exact⟨by rw[if_pos (.inr oM)];rfl,F_h1.then Z⟩;simp only[evs,seval,K,eq_true c1,eq_false c2];exact⟨by rw[if_neg oM],F_h1.then Z⟩;simp only[evs,seval,K,eq_false c1];exact⟨by rw[if_pos (.inl oM)];rfl,F_h1.then Z⟩
theorem wt{h:Heap}{k:Nat}{sub:PT}(w:WF h)(n:PH h (.cons k tg ky sl tx va vc sub .nil)):
 ao go 185 [.agg [ZY (k:Int),.str tg,.str ky,va,.str tx,vc]] h fun u h'=>u=ZZ (if PT.rC k tg ky sl tx sub=0 then 14 else 0)/\Fr [] h h':=by
 let⟨h1,e_h1,F_h1,o_h1⟩:=aq w [ZY (k:Int),.str tg,.str ky,va,.str tx,vc];have K:aj h1 h.next 0 6=some [ZY (k:Int),.str tg,.str ky,va,.str tx,vc]:=by rw[o_h1.ld];rfl
 refine ag ?_;simp only[evs,seval,<-e_h1,K];refine aa (DO F_h1.wf (n.fr F_h1)) ?_;rintro _ h2 ⟨rfl,Z⟩;by_cases c:(PT.rC k tg ky sl tx sub:Int)=0;simp only[evs,seval,eq_true c];exact⟨by rw[if_pos oM],F_h1.then Z⟩;simp only[evs,seval,eq_false c];exact⟨by rw[if_neg oM],F_h1.then Z⟩
theorem Mj{h:Heap}{B Z e:Nat}{v:V}(g:Gs h B e v cs)(hb:Z<=B):Gs h Z e v cs:=by obtain z|⟨b,n,K,z2,z3,z4,o⟩:=g;exact .inl z;exact .inr ⟨b,n,K,z2,z3,oM,o⟩
theorem vY{h:Heap}{x:Itm}{v:V}{l:List Slo}(w:WF h)(a:ItmH h x)(r:Recs tR 3 h v l)(nl:l.length<=4096)(h3:∀s∈l,s.2.1<=3):
 ao go 241 [v,.agg x.cells] h fun u h'=>Gs h' h.next 2 u ((l.map (att x)).flatMap fY)/\Fr [] h h':=by
 have kx:=a.k;have nx:=a.n;let⟨h1,e_h1,F_h1,o_h1⟩:=aq w x.cells;have x0:∀{h'},Fr [] h1 h'->ab h' h.next 0=some (ZX (x.key:Int)):=fun f=>(f.get o_h1).ld1 0;have x2:∀{h'},Fr [] h1 h'->ab h' h.next 2=some (.str x.text):=fun f=>(f.get o_h1).ld1 2;have x3:∀{h'},Fr [] h1 h'->ab h' h.next 3=some x.vm:=fun f=>(f.get o_h1).ld1 3;refine ag ?_;simp only[evs,seval,<-e_h1];refine aC (fun n env hh=>Fr [] h1 hh/\∃(i:Nat)(vo:V),env.get 6=some (ZZ (i:Int))/\env.get 5=some vo/\env.get 3=some (.ptr h.next 0)/\env.get 0=some v/\i<=l.length/\Gs hh h1.next 2 vo (((l.take i).map (att x)).flatMap fY)/\n=l.length-i) l.length oM ?_ ?_;exact⟨Sn F_h1.wf,0,.nils,iS,iS,iS,iS,oM,.inl ⟨rfl,iS⟩,rfl⟩;rintro n env hh ⟨F,i,vo,g6,g5,g3,g0,hi,G,rfl⟩;have F0:=F_h1.then F;have rh:=r.fr F0;by_cases ar:i<l.length;have Z:(i:Int)<l.length:=oM;let⟨b',o',s,p1,p2,p3,p4⟩:=rh.ix fT .i64 (i:Int) oM Z;rw[RX]at p4;have s3:=h3 s (RZ p4);have u0:ab hh b' o'=some (.str s.1):=p2 0 oM;have u1:ab hh b' (o'+1)=some (ZY (s.2.1:Int)):=p2 1 oM;have u2:ab hh b' (o'+2)=some (.str s.2.2):=p2 2 oM;have cv:bX .u64 (x.marks.length:Int)=(x.marks.length:Int):=dG _ oM oM;have ak:∀ae h9,Gs h9 h1.next 2 ae (((l.take i).map (att x)).flatMap fY++fY (att x s))->Gs h9 h1.next 2 ae (((l.take (i+1)).map (att x)).flatMap fY):=by intro ae h9 g;rw[Sr,p4];simpa using g
 have af:(((l.take i).map (att x)).flatMap fY).length=i*2:=by rw[aJ eK];simp;omega
 have lit:∀z,Own (halloc hh [.str s.1,.str z]) hh.next [.str s.1,.str z]:=fun z=>Ts F.wf _;have an:=F.next;have am:=a.m.fr F0;have ev:s.2.1=0\/s.2.1=1\/s.2.1=2\/s.2.1=3:=oM;have rest:∀(z:Str)(ac:Heap){K:V->Heap->Prop},Fr [] hh ac->zG x s=z->(∀v' h',Gs h' h1.next 2 v' (((l.take (i+1)).map (att x)).flatMap fY)->Fr [] h1 h'->K v' h')->OQ (jQ (halloc ac [.str s.1,.str z]) 2 32 vo (.slice ac.next 0 1 1)) K:=by intro z ac K f e k;have nn:=f.next;have F1:=SO f.wf [.str s.1,.str z];have G':=Gs.fr (Gs.fr G f) F1;refine Uw (n:=1) F1.wf G' (TH (Ts f.wf _) rfl) oM oM rfl (by have:=F1.next;omega) (by rw[af];omega) ?_;intro v' h' g _ f';refine k v' h' (ak v' h' (by unfold fY att;rw[e];exact g)) (TL F_h1.wf ((F.then f).then F1) f' (fun y hy=>?_));obtain⟨rfl,_⟩|⟨b,n,rfl,_,_,hb,o⟩:=G;simp[vb]at hy;simp[vb]at hy;omega
 obtain e|e|e|e:=ev;have e':(s.2.1:Int)=0:=oM;simp only[evs,seval,g6,g5,g0,rh.len,Z,p1,u0,u1,u2,(oM:¬(s.2.1:Int)=1),(oM:¬(s.2.1:Int)=2),(oM:¬(s.2.1:Int)=3)];refine rest _ _ (Sn F.wf) (by simp[zG,e]) fun v' h' g f=>?_;simp(disch:=omega) only[evs,seval,ah,g6];refine rqn ⟨l.length-(i+1),oM,f,i+1,v',iS,iS,iX,iX,oM,g,rfl⟩;simp only[evs,seval,g6,g5,g3,g0,rh.len,Z,p1,u0,u1,u2,(oM:(s.2.1:Int)=1),x2 F];refine rest _ _ (Sn F.wf) (by simp[zG,e]) fun v' h' g f=>?_;simp(disch:=omega) only[evs,seval,ah,g6];refine rqn ⟨l.length-(i+1),oM,f,i+1,v',iS,iS,iX,iX,oM,g,rfl⟩;have q1:¬(s.2.1:Int)=1:=oM;have q2:(s.2.1:Int)=2:=oM;simp only[evs,seval,g6,g3,g0,rh.len,Z,p1,u1,u2,eq_false q1,eq_true q2,x0 F];refine aa (nY (x.key+1) x.key oM kx) ?_;rintro _ _ ⟨rfl,rfl⟩;simp only[evs,seval,g6,g5,g0,p1,u0];refine rest _ _ (Sn F.wf) (by simp[zG,e]) fun v' h' g f=>?_;simp(disch:=omega) only[evs,seval,ah,g6];refine rqn ⟨l.length-(i+1),oM,f,i+1,v',iS,iS,iX,iX,oM,g,rfl⟩;have q1:¬(s.2.1:Int)=1:=oM;have q2:¬(s.2.1:Int)=2:=oM;have q3:(s.2.1:Int)=3:=oM;simp only[evs,seval,g6,g3,g0,rh.len,Z,p1,u1,u2,eq_false q1,eq_false q2,eq_true q3,x3 F,am.len,cv];refine aa (nY (x.marks.length+1) x.marks.length oM oM) ?_;rintro _ _ ⟨rfl,rfl⟩;simp only[evs,seval,g6,g5,g0,p1,u0];refine rest _ _ (Sn F.wf) (by simp[zG,e]) fun v' h' g f=>?_;simp(disch:=omega) only[evs,seval,ah,g6];refine rqn ⟨l.length-(i+1),oM,f,i+1,v',iS,iS,iX,iX,oM,g,rfl⟩;have Z:¬(i:Int)<l.length:=oM;rw[Sf oM]at G;simp only[evs,seval,g6,g5,g0,rh.len,eq_false Z];exact⟨Mj G (by have:=F_h1.next;omega),F0⟩
theorem LA{X:List Nat}{h:Heap}(f:Fr [] h h'):Fr X h h':=⟨f.next,f.wf,fun _ _ _ o=>f.get o,fun _ _ _ o=>f.pl _ _ iS o,f.lp,f.ro⟩
theorem Et{h:Heap}{n0 B:Nat}{Z u:V}{s s5:NT}{K:V->Heap->Prop}(w:WF h)(g:Gs h B 6 Z s.cells)(hB:B<=h.next)(h0:n0<=h.next)(I:Inv Z n0 h s)(sl:Sl h 6 u s5.len s5.cells)
 (N:∀(X:List Nat)(h':Heap),(∀x∈X,x<n0\/x∈vb Z)->Fr X h h'->NH h' s5) (hl:s.len<=1000) (ae:s5.len<=1000) (hz:s5.len=0->u=.nils)
 (hk:∀v' h',Gs h' B 6 v' (s.app s5).cells->Inv v' n0 h' (s.app s5)->Fr (vb Z) h h'->(∀y∈vb v',y∈vb Z\/h.next<=y)->K v' h'):
 OQ (jQ h 6 104 Z u) K:=by
 have on:=NH.ones (N [] h iS (Sn w));have cl:=s.cells_len;have af:=s5.cells_len;by_cases z:s5.len=0;have hu:=hz z;subst hu;have e5:s5=.nil:=by cases s5 with
  |nil=>rfl
  |cons _ _ _ _ _ _ _ _ _=>simp[NT.len]at z
 subst e5;have ea:s.app .nil=s:=by
  have:∀t:NT,t.app .nil=t:=by
   intro t;induction t with
   |nil=>rfl
   |cons _ _ _ _ _ _ _ _ _ _ ih=>simp only[NT.app,ih]
  exact this s
 rw[ea]at hk;have ez:jQ h 6 104 Z .nils=some (Z,h):=by unfold jQ;rw[sl.srcLen];simp only[];rw[kN z,cond_true];obtain⟨rfl,_⟩|⟨b,n,rfl,_⟩:=g<;>rfl
 rw[ez];refine(cL Z h K).2 (hk Z h g I (LA (Sn w)) fun y m=>.inl m);have ak:∀x∈vb Z,x<h.next:=by obtain⟨rfl,_⟩|⟨b,n,rfl,_,_,_,o⟩:=g;simp[vb];have:=o.lt w;simp only[vb,Su];rintro x rfl;exact this
 refine Uw (n:=s5.len) w g sl oM z on hB (by rw[cl];omega) ?_;intro v' h' g' e' F;refine hk v' h' ?_ ?_ F (by rw[e'];simp);rw[NT.app_cells];exact g';intro X h2 hX f2;have f3:Fr (vb Z++X.filter (fun x=>decide (x<n0))) h h2:=by refine Sj F f2 w (fun x hx=>.inl iX) (fun x hx=>?_);obtain q|q:=hX x hx;grind;grind
 have ac:∀x∈vb Z++X.filter (fun x=>decide (x<n0)),x<n0\/x∈vb Z:=by grind
 exact NH.app (I _ h2 ac f3) (N _ h2 ac f3)
def PG:PT->Prop
 |.nil=>True
 |.cons k _ _ sl _ _ _ sub nx=>1<=k/\k<=5/\(∀s∈sl,s.2.1<=3)/\sub.len<=16/\PG sub/\PG nx
theorem PG.at':∀{t:PT}(i:Nat),PG t->PG (t.at' i)
 |.nil,0,_=>trivial
 |.nil,_+1,_=>trivial
 |.cons _ _ _ _ _ _ _ _ _,0,a=>a
 |.cons _ _ _ _ _ _ _ _ _,i+1,⟨_,_,_,_,_,b⟩=>PG.at' i b
def MDp(h:Heap)(x:Itm)(k:Nat)(tg ky:Str)(sl:List Slo)(tx:Str)(sub:PT)(u:V)(h':Heap):Prop:=
 ∃s:NT,s.sh=mP x k tg ky sl tx (cE x sub)/\Fr [] h h'/\s.len<=8/\(s.len=0->u=.nils)/\∀(X:List Nat)(h2:Heap),(∀y∈X,y<h.next)->Fr X h' h2->NH h2 s/\Sl h2 6 u s.len s.cells
def MD(k:Nat)(tg ky:Str)(sl:List Slo)(tx:Str)(va vc:V)(sub:PT):Prop:=∀(x:Itm)(h:Heap),WF h->ItmH h x->x.marks.length<=8->PH h (.cons k tg ky sl tx va vc sub .nil)->PG (.cons k tg ky sl tx va vc sub .nil)->
 ao go 187 [.agg [ZY (k:Int),.str tg,.str ky,va,.str tx,vc],.agg x.cells] h (MDp h x k tg ky sl tx sub)
def MDs:PT->Prop
 |.nil=>True
 |.cons k tg ky sl tx va vc sub nx=>MD k tg ky sl tx va vc sub/\MDs nx
theorem MDs.at':∀{t:PT}(i:Nat),MDs t->MDs (t.at' i)
 |.nil,0,_=>trivial
 |.nil,_+1,_=>trivial
 |.cons _ _ _ _ _ _ _ _ _,0,a=>a
 |.cons _ _ _ _ _ _ _ _ _,i+1,⟨_,b⟩=>MDs.at' i b
theorem wL{h:Heap}{x:Itm}{k:Nat}{z:Str}{sub:PT}(f:Fr [] h h1)(e:mP x k tg ky sl tx (cE x sub)=gK z):
 MDp h x k tg ky sl tx sub (.slice h1.next 0 1 1) (halloc h1 [ZY 2,.str [],.str [],.nils,.str z,.nils]):=by
 have Z:=SO f.wf [ZY 2,.str [],.str [],.nils,.str z,.nils];have o1:=Ts f.wf [ZY 2,.str [],.str [],.nils,.str z,.nils];refine⟨.cons 2 [] [] [] z .nils .nils .nil .nil,by rw[e];rfl,f.then Z,Si rfl,fun q=>absurd q (by simp[NT.len]),fun X h2 hX f2=>⟨li 2 oM [] z,TH (f2.own _ _ (fun m=>by have:=hX _ m;have:=f.next;omega) o1) rfl⟩⟩
def chP(old:List Int)(r:Bool):Nat->List Int->List Int->List Bool->Int×List Int×List Bool
 |_,[],l,kn=>(0,l,kn)
 |i,s::m,l,kn=>if decide (old.getD i 0<s)=r then(if eU l i s=0 then chP old r (i+1) m (l.set i s) (kn.set i false)else(eU l i s,l,kn))else chP old r (i+1) m l kn
theorem Gs.ints{h:Heap}{B:Nat}{v:V}{M:List Int}(g:Gs h B 1 v (M.map fun x=>ZZ x))(Z:M.length<=4096):pp h v M:=by have:=g.sl (n:=M.length) iS oM;exact this
theorem Kt{n0:NL}{h:Heap}{b bg B bm S bl nb c a B0:Nat}{Ks:List Knd}{cap:Int}{X:List Itm}{l old M:List Int}{kn st ko so:List Bool}{vK v4 v5 v k0 c0 t0:V}{pm pmc:Option Nat}{mc:cC}{r:Bool}{env:T V}{Q:Ex→T V→Heap→Prop}{j:Int}{v103 v104:V}
 (w:WF h) (s:Sto n0 h b Ks cap X l kn st vK bg B bm S bl pm mc) (ac:LoP h c pmc old ko so) (on:Own h nb [k0,.int .i64 (a:Int),c0,t0,v]) (iv:Gs h B0 1 v4 (M.map fun x=>.int .i64 x))
 (lb:b<B0) (lbl:bl<B0) (lpm:∀q,pm=some q→q<B0) (gc:B0≤c) (gpc:∀q,pmc=some q→B0≤q) (gn:B0≤nb)
 (e0:env.get 0=some (.ptr b 0)) (e3:env.get 3=some (.ptr nb 0)) (e12:env.get 12=some v4) (e13:env.get 13=some v5) (e14:env.get 14=some (.ptr c 0)) (e16:env.get 16=some (.bool r)) (e105:env.get 105=some (.int .i64 j)) (e103:env.get 103=some v103) (e104:env.get 104=some v104)
 (ha:a+M.length≤X.length) (lo:old.length=X.length) (hx:X.length≤1024) (hM:∀m∈M,-9223372036854775808≤m∧m≤9223372036854775807)
 (k1:(chP old r a M l kn).1=0→∀env' h',env'.get 0=some (.ptr b 0)∧env'.get 3=some (.ptr nb 0)∧env'.get 12=some v4∧env'.get 13=some v5∧env'.get 14=some (.ptr c 0)∧env'.get 105=some (.int .i64 j)∧env'.get 103=some v103∧env'.get 104=some v104→
  Fr (bl::pm.toList) h h'→Sto n0 h' b Ks cap X (chP old r a M l kn).2.1 (chP old r a M l kn).2.2 st vK bg B bm S bl pm mc→LoP h' c pmc old ko so→Q .norm env' h')
 (k2:(chP old r a M l kn).1≠0→∀env' h',env'.get 4=some (.int .i64 (chP old r a M l kn).1)→Fr (b::bl::pm.toList) h h'→Own h' b [vK,.int .i64 cap,.ptr bg 0,.ptr bm 0,.ptr c 0]→LoP h' c pmc old ko so→Q .ret env' h'):
 W go chI env h Q:=by
 have iM:=Gs.ints iv oM;simp only[evs,seval,chI,e12,iM.len];refine aC (fun n env hh=>Fr (bl::pm.toList) h hh∧∃(i:Nat)(l2:List Int)(kn2:List Bool),LoP hh c pmc old ko so∧Sto n0 hh b Ks cap X l2 kn2 st vK bg B bm S bl pm mc∧
  env.get 111=some (.int .i64 i)∧env.get 110=some (.int .i64 M.length)∧env.get 109=some v4∧env.get 0=some (.ptr b 0)∧env.get 3=some (.ptr nb 0)∧env.get 12=some v4∧env.get 13=some v5∧env.get 14=some (.ptr c 0)∧env.get 16=some (.bool r)∧env.get 105=some (.int .i64 j)∧env.get 103=some v103∧env.get 104=some v104∧
  i≤M.length∧chP old r (a+i) (M.drop i) l2 kn2=chP old r a M l kn∧n=M.length-i) M.length oM ?_ ?_
 exact⟨Fr.refl w,0,l,kn,ac,s,iS,iS,iS,iX,iX,iX,iX,iX,iX,iX,iX,iX,oM,rfl,rfl⟩;rintro n env hh ⟨F,i,l2,kn2,ac2,ss,g111,g110,g109,g0,g3,g12,g13,g14,g16,g105,g103,g104,hi,em,rfl⟩;have nn:∀y,B0≤y→y∉bl::pm.toList:=by intro y hy m;obtain m|m:=List.mem_cons.1 m;omega;have:=lpm y (eV m);omega
 have on2:=F.own _ _ (nn _ gn) on;have n1:ab hh nb 1=some (.int .i64 (a:Int)):=on2.ld1 1;have iM2:=Gs.ints (M:=M) (Gs.frX iv F (fun y m=>by
  obtain m|m:=List.mem_cons.1 m;omega;exact lpm y (eV m))) oM
 by_cases hlt:i<M.length;have hlt':(i:Int)<M.length:=oM;let⟨bi,oi,x,p1,p3,p4⟩:=iM2.ix .i64 (i:Int) oM hlt';rw[Int.toNat_natCast]at p4;let⟨z0,z1⟩:=hM x (List.mem_of_getElem? p4);have hd:M.drop i=x::M.drop (i+1):=aK p4;rw[hd]at em;simp only[chP]at em;simp(disch:=omega) only[evs,seval,ah,g111,g110,g109,g3,g14,hlt',p1,p3,n1];apply aa (zV F.wf ac2.lo);rintro _ h5 ⟨rfl,F5⟩;have ss5:=ss.fr F.wf F5;have n15:ab h5 nb 1=some (.int .i64 (a:Int)):=(F5.get on2).ld1 1;have b4:ab h5 b 4=some (.ptr bl 0):=ss5.ob.ld1 4;have in1:0≤(a:Int)+i∧(a:Int)+i<old.length:=oM;have tn:((a:Int)+i).toNat=a+i:=oM;rw[if_pos in1,tn];by_cases c1:decide (old.getD (a+i) 0<x)=r;rw[if_pos c1]at em;simp(disch:=omega) only[evs,seval,eff,ah,g0,g3,g16,c1,n15,b4];apply aa (zW F5.wf ss5.lo z0 z1 oM oM);rintro _ h6 ⟨rfl,a6,F6⟩;have ea:(a:Int)+i=((a+i:Nat):Int):=oM;rw[tn,ea]at a6;rw[ea];have b46:ab h6 b 4=some (.ptr bl 0):=(F6.own b _ (fun m=>by have:=s.d;obtain m|m:=List.mem_cons.1 m;exact this.b5 m;exact(this.p b (eV m)).1 rfl) ss5.ob).ld1 4
 have ac6:LoP h6 c pmc old ko so:=(ac2.fr F5).frS F6 ss5.lo.oth (nn _ gc) (fun q e=>nn _ (gpc q e));have F06:Fr (bl::pm.toList) h h6:=Fr.trans (Fr.trans F F5 w (fun x m=>.inl m) (fun x m=>by simp at m)) F6 w (fun x m=>.inl m) (fun x m=>.inl m);by_cases c5:eU l2 ((a+i:Nat):Int) x=0;rw[if_pos c5]at a6 em;have s6:=ss5.lay F5.wf F6 a6 (eG ss.len) (.inl rfl);simp(disch:=omega) only[evs,seval,DF,eff,ah,g111,n15,b4,eq_true c5];refine rqn ⟨M.length-(i+1),oM,F06,i+1,_,_,ac6,s6,iS,(eG g110),(eG g109),(eG g0),(eG g3),(eG g12),(eG g13),(eG g14),(eG g16),(eG g105),(eG g103),(eG g104),oM,em,rfl⟩;rw[if_neg c5]at a6 em;rw[←em]at k2;simp only[evs,seval,DF,eff,g0,g14,n15,b4,eq_false c5];have s6:=ss5.lay F5.wf F6 a6 ss.len (.inl rfl);apply stu F6.wf s6.ob;rintro h7 o7 F7 n7;have bc:b<c:=oM;have ac7:LoP h7 c pmc old ko so:=ac6.frS F7 (Oth.own s6.ob iS (fJ (n:=2) rfl)) oO (fun q e=>by have:=gpc q e;simp;omega);have f7:Fr (b::bl::pm.toList) h h7:=Fr.trans F06 F7 w (fun x m=>.inl (List.mem_cons_of_mem _ m)) (fun x m=>.inl (by simp at m;simp[m]));simp only[evs,seval];exact k2 c5 _ _ iS f7 o7 ac7;rw[if_neg c1]at em;simp(disch:=omega) only[evs,seval,ah,g111,g16,eq_false c1];refine rqn ⟨M.length-(i+1),oM,Fr.trans F F5 w (fun x m=>.inl m) (fun x m=>by simp at m),i+1,_,_,ac2.fr F5,ss5,iS,iX,iX,iX,iX,iX,iX,iX,iX,iX,iX,iX,oM,em,rfl⟩;have:i=M.length:=oM;subst this;rw[List.drop_length]at em;have hlt':¬(M.length:Int)<M.length:=oM;simp only[evs,seval,g111,g110,eq_false hlt'];rw[←em]at k1;exact k1 rfl _ _ ⟨iX,iX,iX,iX,iX,iX,iX,iX⟩ F ss ac2
theorem uv{α:Type}{A D:List α}{a i:Nat}(Z:D.length=i)(h:a+i<A.length)(y:α):(A.take a++D++A.drop (a+i)).set (a+i) y=A.take a++(D++[y])++A.drop (a+(i+1)):=by
 have l1:(A.take a++D).length=a+i:=by simp;omega
 rw[List.set_append_right _ _ oM,l1,TN,Tu h];simp[TC]
theorem Sto.set{h:Heap}{b B S i:Nat}{X:List Itm}{l:List Int}{mc:cC}{y:Itm}(w:WF h)(s:Sto n0 h b Ks cap X l kn st vK bg B bm S bl pm mc)(f:Fr [B] h h')
 (g:Gp h' bg B X.length ((X.set i y).flatMap Itm.cells)) (gB:Good h' B)
 (hy:∀(Z:List Nat)(K:Heap),(∀z∈Z,z∈Wr b bg B bm S bl pm\/h'.next<=z\/Lx n0 z)->Fr Z h' K->ItmH K y):Sto n0 h' b Ks cap (X.set i y) l kn st vK bg B bm S bl pm mc:=by
 have d:=s.d;have fn:=f.next;have n0l:=s.n0l;refine⟨f.own _ _ (eV d.b2) s.ob,by simpa using g,gB,s.k.frS f (eV d.t1.symm) (eV d.t2.symm),s.gS.fr f (eV d.t2.symm),s.lo.frS f s.gB.oth (eV d.t3.symm) (fun q e=>by simpa using(d.p q e).2.2.1),by simp[s.len],?_,d,by have:=s.Sl';omega,fun q e=>by have:=s.pl q e;omega,by have:=s.bl';omega,fun z q=>by have:=n0l z q;omega⟩;intro Z K hZ f2;have fz:Fr ([B]++Z) h K:=Sj f f2 w (fun x m=>.inl (pi.2 (.inl m))) (fun x m=>.inl (pi.2 (.inr m)));let⟨r1,r2,r3⟩:=s.rd _ K (fun z m=>by
  obtain m|m:=pi.1 m;simp at m;subst m;exact .inl (by simp[Wr]);obtain q|q|q:=hZ z m;exact .inl q;exact .inr (.inl oM);exact .inr (.inr q)) fz
 refine⟨r1,r2,fun x m=>?_⟩;obtain m|rfl:=TR m;exact r3 x m;exact hy Z K hZ f2
theorem Ku{h:Heap}{b B S a:Nat}{X Y:List Itm}{l:List Int}{v:V}{mc:cC}
 (w:WF h) (s:Sto n0 h b Ks cap X l kn st vK bg B bm S bl pm mc) (on:Own h nb [k0,ZZ (a:Int),c0,t0,v]) (iv:Gs h B0 1 v5 (Y.map fun x=>.bool (bG Ks x)))
 (lw:∀y∈Wr b bg B bm S bl pm,y<B0) (gn:B0<=nb) (e0:env.get 0=some (.ptr b 0)) (e3:env.get 3=some (.ptr nb 0)) (bD:env.get 13=some v5)
 (sv:∀h',Fr (B::bl::pm.toList) h h'->ARecs Itm.cells 4 h' v Y/\∀y∈Y,ItmH h' y) (hY:∀y∈Y,nZ y.vm=true) (bf:∀z,Lx n0 z->z<B0) (bh:B0<=h.next)
 (ha:a+Y.length<=X.length) (hx:X.length<=1024)
 (k:∀h' Y',Cps Y Y'->Fr (B::bl::pm.toList) h h'->Sto n0 h' b Ks cap (X.take a++Y'++X.drop (a+Y.length)) l kn (st.take a++Y.map (bG Ks)++st.drop (a+Y.length)) vK bg B bm S bl pm mc->R (ZZ 0) h'):
 W go chC env h (iO [.t 4] R):=by
 have d:=s.d;have lst:st.length=X.length:=by let⟨_,_,_,_,_,_,e⟩:=s.lo;rw[e,s.len]
 have n4:ab h nb 4=some v:=on.ld1 4;let⟨sY,hYI⟩:=sv h (Sn w);have sw:∀z,z∈B::bl::pm.toList->z∈Wr b bg B bm S bl pm:=by intro z m;obtain rfl|m:=Sk.1 m;simp[Wr];obtain rfl|m:=Sk.1 m;simp[Wr];exact pi.2 (.inr m)
 have nn:∀y,B0<=y->y∉B::bl::pm.toList:=fun y hy m=>by have:=lw y (sw y m);omega
 simp only[evs,seval,chC,e3,n4,sY.len];refine aC (fun n env hh=>Fr (B::bl::pm.toList) h hh/\∃(i:Nat)(D:List Itm),Cps (Y.take i) D/\Sto n0 hh b Ks cap (X.take a++D++X.drop (a+i)) l kn (st.take a++(Y.take i).map (bG Ks)++st.drop (a+i)) vK bg B bm S bl pm mc/\
  env.get 152=some (ZZ i)/\env.get 151=some (ZZ Y.length)/\env.get 150=some v/\env.get 0=some (.ptr b 0)/\env.get 3=some (.ptr nb 0)/\env.get 13=some v5/\i<=Y.length/\n=Y.length-i) Y.length oM ?_ ?_
 exact⟨Sn w,0,[],trivial,by simpa using s,iS,iS,iS,iX,iX,iX,oM,rfl⟩;rintro n env hh ⟨F,i,D,cp,ss,af,ak,ar,g0,g3,a4,hi,rfl⟩;have bn:=F.own _ _ (nn _ gn) on;have dl:=cp.len;rw[UO,TM hi]at dl;have hn:=F.next;by_cases bB:i<Y.length;have K:(i:Int)<Y.length:=oM;let⟨sYh,hYh⟩:=sv hh F;let⟨bi,oi,y,p1,_,p3,p4⟩:=sYh.ix (f:=Itm.cells) (k:=4) (fun _=>rfl) .i64 (i:Int) oM K;rw[RX]at p4;have ym:=RZ p4;have ay:=hYh y ym;let⟨h3,e_h3,F_h3,o_h3⟩:=aq F.wf [ZX 0,ZY 0,.str [],.nils];simp only[evs,seval,af,ak,ar,K,p1,p3,<-e_h3];refine ai (c':=y.cells) F_h3.wf o_h3 rfl ay.one rfl ?_;rintro h4 o4 F4 bE;have ae:Fr [] hh h4:=F_h3.fresh F4 F.wf (RW _);have s4:=ss.fr F.wf ae;have b4:ab h4 b 4=some (.ptr bl 0):=s4.ob.ld1 4;have n1:ab h4 nb 1=some (ZZ (a:Int)):=(ae.get bn).ld1 1;have a1:Fr (B::bl::pm.toList) h h4:=Sj F ae w (fun x m=>.inl m) (fun x m=>by simp at m);have bv:Bools h4 v5 (Y.map (bG Ks)):=by have:=(VN iv a1 (fun y m=>lw y (sw y m))).sl (n:=(Y.map (bG Ks)).length) iS oM;unfold Bools Vals;rw[Te];exact this
 let⟨bi2,oi2,x2,q1,q3,q4⟩:=bv.ix .i64 (i:Int) oM (eV K);rw[RX,SY,p4]at q4;simp at q4;subst q4;simp(disch:=omega) only[evs,seval,eff,ah,g0,g3,a4,b4,n1,q1,q3];apply aa (DL ae.wf s4.lo oM oM);rintro _ h5 ⟨F5,a5⟩;have l4:=s4.len;have lX:(X.take a++D++X.drop (a+i)).length=X.length:=by simp;omega
 rw[if_pos oM]at a5;obtain⟨rfl,a5⟩:=a5;have tn:((a:Int)+i).toNat=a+i:=oM;have e1:(st.take a++(Y.take i).map (bG Ks)++st.drop (a+i)).set (a+i) (bG Ks y)=st.take a++(Y.take (i+1)).map (bG Ks)++st.drop (a+(i+1)):=by rw[uv oO oM,Sr,p4];simp
 rw[tn,e1]at a5;have s5:=s4.lay ae.wf F5 a5 l4 (.inl rfl);have an:Fr (B::bl::pm.toList) h h5:=Sj a1 F5 w (fun x m=>.inl m) (fun x m=>.inl (TE _ m));have a0:=an.own _ _ (nn _ gn) on;have aH:ab h5 nb 1=some (ZZ (a:Int)):=a0.ld1 1;have b2:ab h5 b 2=some (.ptr bg 0):=s5.ob.ld1 2;have o5:=F5.own _ _ (fun m=>by have:=lw hh.next (sw _ (TE _ m));omega) o4;have y4:aj h5 hh.next 0 4=some y.cells:=by rw[o5.ld];rfl
 have bt:ab h5 b 4=some (.ptr bl 0):=s5.ob.ld1 4;simp(disch:=omega) only[evs,seval,DF,eff,ah,g0,g3,b4,n1,q3,aH,b2,y4];have ac:=(sv h5 an).2 y ym;apply aa (vN F5.wf ac (hY y ym));rintro _ h6 ⟨vy,rfl,F6,nE,v1,ax⟩;have a2:=ax [] h6 iS (Sn F6.wf);have s6:=s5.fr F5.wf F6;let⟨v9,c1,G,c2,a9,g9,m9,k9,ec,en⟩:=s6.g;rw[lX]at en;have ea:(a:Int)+i=((a+i:Nat):Int):=oM;simp only[evs,eff,eY,ea];refine aa (Iu F6.wf k9 (i:=a+i) oM (by simp only[av,aB,v1];rfl) (Bk (x:=y) fun n=>Sl.noint a2 _ _)) ?_;rintro _ h7 ⟨rfl,F7,ba,a7,k7,a3⟩;have br:Fr [] h5 h6:=F6;have az:Gp h7 bg B X.length (((X.take a++D++X.drop (a+i)).set (a+i) (y.own vy)).flatMap Itm.cells):=by refine⟨v9,ba,G,a7,a9,g9,m9,k7,?_,oM⟩;rw[a3,<-ec,TX,if_pos oM,dd aZ,(oM:(a+i) *4+4=(a+i+1) *4),bJ aZ];simp[eY]
 have bo:=az.good oM;have bz:=F5.next;have bp:=ae.next;have bw:=F6.next;have bA:=F7.next;have bk:Fr [B] h5 h7:=Sj F6 F7 F5.wf iS (fun x m=>.inl m);have s7:Sto n0 h7 b Ks cap ((X.take a++D++X.drop (a+i)).set (a+i) (y.own vy)) l kn _ vK bg B bm S bl pm mc:=s6.set F6.wf F7 (by rw[lX];exact az) bo (by
  intro Z h2 hZ f;have f6:Fr ([B]++Z) h6 h2:=Sj F7 f F6.wf (fun x m=>.inl (pi.2 (.inl m))) (fun x m=>.inl (pi.2 (.inr m)));have r:=ax _ h2 (fun z m=>?_) (f6.old F6.wf);have bC:=ac.fr F6;exact⟨ac.k,ac.t,Sl.a r,ac.n,ac.l⟩;simp only[UE,decide_eq_true_eq]at m;let⟨m,m2⟩:=m;have hB:=lw B iX;obtain m|m:=pi.1 m;simp at m;omega;obtain q|q|q:=hZ z m;have:=lw z q;omega;omega;have:=bf z q;omega)
 rw[uv dl.symm oM]at s7;have bj:Fr (B::bl::pm.toList) h h7:=Sj an bk w (fun x m=>.inl m) (fun x m=>.inl (by simp at m;simp[m]));have a6:ab h6 b 2=some (.ptr bg 0):=s6.ob.ld1 2;have bc:ab h6 nb 1=some (ZZ (a:Int)):=(F6.get a0).ld1 1;simp(disch:=omega) only[evs,seval,DF,ah,af,aH,b2,y4,a6,bc];have a8:Cps (Y.take (i+1)) (D++[y.own vy]):=by rw[Sr,p4];exact Cps.app cp ⟨⟨vy,rfl,Sl.nz a2⟩,trivial⟩
 refine rqn ⟨Y.length-(i+1),oM,bj,i+1,_,a8,s7,iS,iX,iX,iX,iX,iX,oM,rfl⟩;have:i=Y.length:=oM;subst this;rw[Sf (RW _)]at cp ss;have K:¬(Y.length:Int)<Y.length:=oM;simp only[evs,seval,af,ak,eq_false K];exact k _ _ cp F ss
theorem Gs.ge{h:Heap}{B Z e:Nat}{v:V}(g:Gs h B e v cs)(hb:Z<=B):Gs h Z e v cs:=by obtain z|⟨b,n,K,z2,z3,z4,o⟩:=g;exact .inl z;exact .inr ⟨b,n,K,z2,z3,oM,o⟩
def chR(old:List Int)(a:Nat)(M:List Int):Nat->List Int->List Bool->Int×List Int×List Bool
 |0,l,kn=>(0,l,kn)
 |k+1,l,kn=>if(chP old (k==0) a M l kn).1=0 then chR old a M k (chP old (k==0) a M l kn).2.1 (chP old (k==0) a M l kn).2.2 else chP old (k==0) a M l kn
theorem E4(ok:okR Ks cap=true)(y:Itm):-9223372036854775808<=aF Ks y/\aF Ks y<=9223372036854775807:=by
 unfold aF;cases e:Ks[y.type]? with
 |none=>simp
 |some q=>simp only[okR,RU,decide_eq_true_eq,Tv]at ok;have:=ok.2.2.2.2 q (RZ e);simp only[okK,okB,RU,decide_eq_true_eq]at this;simp only;omega
theorem Kv{h:Heap}{b B S a:Nat}{X Y:List Itm}{l:List Int}{v:V}{mc:cC}
 (w:WF h) (s:Sto n0 h b Ks cap X l kn st vK bg B bm S bl pm mc) (on:Own h nb [k0,ZZ (a:Int),c0,t0,v])
 (lw:∀y∈Wr b bg B bm S bl pm,y<B0) (gn:B0<=nb) (e0:env.get 0=some (.ptr b 0)) (e3:env.get 3=some (.ptr nb 0))
 (sv:∀h',Fr (B::bl::pm.toList) h h'->ARecs Itm.cells 4 h' v Y/\∀y∈Y,ItmH h' y) (hY:∀y∈Y,nZ y.vm=true/\y.type<Ks.length) (a8:∀z,Lx n0 z->z<B0) (bh:B0<=h.next)
 (ha:a+Y.length<=X.length) (hx:X.length<=1024) (ok:okR Ks cap=true)
 (kE:(chR l a (Y.map (aF Ks)) 2 l kn).1≠0->∀h' c pmc,Fr (b::bl::pm.toList) h h'->Own h' b [vK,ZZ cap,.ptr bg 0,.ptr bm 0,.ptr c 0]->LoP h' c pmc l kn st->h.next<=c->(∀q,pmc=some q->h.next<=q/\q≠c)->R (ZZ (chR l a (Y.map (aF Ks)) 2 l kn).1) h')
 (k:(chR l a (Y.map (aF Ks)) 2 l kn).1=0->∀h' Y',Cps Y Y'->Fr (B::bl::pm.toList) h h'->Sto n0 h' b Ks cap (X.take a++Y'++X.drop (a+Y.length)) (chR l a (Y.map (aF Ks)) 2 l kn).2.1 (chR l a (Y.map (aF Ks)) 2 l kn).2.2 (st.take a++Y.map (bG Ks)++st.drop (a+Y.length)) vK bg B bm S bl pm mc->R (ZZ 0) h'):
 W go chB env h (iO [.t 4] R):=by
 have d:=s.d;have sw:∀z,z∈bl::pm.toList->z∈Wr b bg B bm S bl pm:=by intro z m;obtain rfl|m:=Sk.1 m;simp[Wr];exact pi.2 (.inr m)
 have nn:∀y,B0<=y->y∉bl::pm.toList:=fun y hy m=>by have:=lw y (sw y m);omega
 let⟨rk,kh,xh⟩:=s.rd [] h iS (Sn w);let⟨sY,hYI⟩:=sv h (Sn w);have n4:ab h nb 4=some v:=on.ld1 4;simp only[evs,chB,e0,e3,n4];apply aa (oR w ⟨vK,_,_,_,s.ob,rk,kh⟩ sY (fun y m=>⟨hYI y m,(hY y m).2⟩) oM);rintro _ h1 ⟨v4,v5,rfl,G4,G5,F1⟩;have s1:=s.fr w F1;have b4:ab h1 b 4=some (.ptr bl 0):=s1.ob.ld1 4;simp only[evs,↓reduceIte,Nat.reduceEqDiff,e0,b4];apply aa (lT F1.wf s1.lo);rintro _ h2 ⟨c,pmc,rfl,hc,hp,a2,F2⟩;have bj:=LoP.ne a2;have s2:=s1.fr F1.wf F2;have bc:=F1.then F2;simp only[evs,↓reduceIte];obtain⟨h3,K⟩:∃h3,h3=halloc h2 [.bool false,.bool true]:=⟨_,rfl⟩;have Z:Fr [] h2 h3:=K▸SO F2.wf _;have o3:Own h3 h2.next [.bool false,.bool true]:=K▸Ts F2.wf _;rw[<-K];have s3:=s2.fr F2.wf Z;have ay:=bc.then Z;have n1:=F1.next;have n2:=F2.next;have n3:=hnx K;have ba:Gs h3 B0 1 v4 ((Y.map (aF Ks)).map fun x=>ZZ x):=by rw[Te];exact Gs.ge (VN G4 (F2.then Z) iS) bh
 have a6:Gs h3 B0 1 v5 (Y.map fun x=>.bool (bG Ks x)):=Gs.ge (VN G5 (F2.then Z) iS) bh;have bk:=a2.fr Z;have a7:=ay.get on;have bw:b<B0:=lw b (by simp[Wr]);have bf:bl<B0:=lw bl iX;have pw:∀q,pm=some q->q<B0:=fun q e=>lw q (by simp[Wr,e]);have a5:∀q,pmc=some q->B0<=q:=fun q e=>by have:=hp q e;omega
 have bB:Bools h3 (.slice h2.next 0 2 2) [false,true]:=TH o3 rfl;refine aC (fun n env hh=>Fr (bl::pm.toList) h3 hh/\∃(j:Nat)(lj:List Int)(ak:List Bool),LoP hh c pmc l kn st/\Sto n0 hh b Ks cap X lj ak st vK bg B bm S bl pm mc/\
  env.get 105=some (ZZ (j:Int))/\env.get 104=some (ZZ (2:Nat))/\env.get 103=some (.slice h2.next 0 2 2)/\env.get 0=some (.ptr b 0)/\env.get 3=some (.ptr nb 0)/\env.get 12=some v4/\env.get 13=some v5/\env.get 14=some (.ptr c 0)/\
  j<=2/\chR l a (Y.map (aF Ks)) (2-j) lj ak=chR l a (Y.map (aF Ks)) 2 l kn/\n=2-j) 2 oM ?_ ?_
 exact⟨Sn Z.wf,0,l,kn,bk,s3,iS,iS,iS,iX,iX,iS,iS,iS,oM,rfl,rfl⟩;rintro n env hh ⟨F,j,lj,ak,a9,sj,af,ae,aH,g0,g3,bC,bp,bv,hj,em,rfl⟩;have bD:∀y,B0<=y->y∉bl::pm.toList:=nn;have ax:=F.own _ _ (nn _ gn) a7;have fb:∀y∈bl::pm.toList,y<B0:=fun y m=>lw y (sw y m);have a3:=VN ba F fb;have a1:=VN a6 F fb;have Fh:Fr (bl::pm.toList) h hh:=Sj ay F w (fun x m=>by simp at m) (fun x m=>.inl m);by_cases bz:j<2;have ac:(j:Int)<(2:Nat):=oM;have a4:Bools hh (.slice h2.next 0 2 2) [false,true]:=TH (F.own _ _ (nn _ oM) o3) rfl;let⟨bi,oi,x,p1,p3,p4⟩:=a4.ix .i64 (j:Int) oM oO;rw[RX]at p4;obtain⟨k',hk⟩:∃k',2-j=k'+1:=⟨1-j,oM⟩;have ex:x=(k'==0):=by grind
 rw[hk]at em;simp only[chR]at em;simp only[evs,↓reduceIte,Nat.reduceEqDiff,af,ae,aH,ac,p1,p3];refine Kt (B0:=B0) (v5:=v5) (M:=Y.map (aF Ks)) (a:=a) (r:=x) (j:=j) (v103:=.slice h2.next 0 2 2) (v104:=ZZ (2:Nat)) F.wf sj a9 ax a3 bw bf pw oM a5 gn iX iX iX iX iX iS iX iX iX oO s.len hx (fun m hm=>?_) ?_ ?_;simp at hm;obtain⟨y,_,rfl⟩:=hm;exact E4 ok y;intro c0 ar h' ⟨q0,q3,bA,br,bt,a0,bn,bo⟩ f' s' an;rw[ex]at c0 s';rw[if_pos c0]at em;simp(disch:=omega) only[evs,ah,a0];refine rqn ⟨2-(j+1),oM,Sj F f' Z.wf (fun x m=>.inl m) (fun x m=>.inl m),j+1,_,_,an,s',iS,iX,iX,iX,iX,iX,iX,iX,oM,by rw[(oM:2-(j+1)=k')];exact em,rfl⟩;intro c0 ar h' q4 f' o' an;rw[ex]at c0 q4;rw[if_neg c0]at em;rw[em]at c0 q4;simp only[evs,q4];exact kE c0 h' c pmc (Sj Fh f' w (fun x m=>.inl (TE _ m)) (fun x m=>.inl m)) o' an oM (fun q e=>⟨by have:=hp q e;omega,bj q e⟩);have:j=2:=oM;subst this;simp only[TN,chR]at em;have ac:¬((2:Nat):Int)<(2:Nat):=oM;simp only[evs,↓reduceIte,Nat.reduceSub,af,ae,eq_false ac];have e1:=congrArg Prod.fst em;have e2:=congrArg (fun z=>z.2.1) em;have az:=congrArg (fun z=>z.2.2) em;simp only at e1 e2 az;refine Ku (B0:=B0) F.wf sj ax a1 lw gn iX iX iX (fun h' f=>sv h' (Sj Fh f w (fun x m=>.inl (TE _ m)) (fun x m=>.inl m))) (fun y m=>(hY y m).1) a8 (by have:=F.next;omega) ha hx ?_;intro h' Y' cp f' s';rw[e2,az]at s';exact k e1.symm h' Y' cp (Sj Fh f' w (fun x m=>.inl (TE _ m)) (fun x m=>.inl m)) s'
theorem nN{call:aI}{env:T V}{k:Nat}:∀(B:List IStep)(i:Nat)(loc:List V)(h:Heap),k<i→lay call env [k] B i loc h=some (B.map fun s=>(s,none),h)
 |[],_,_,_,_=>rfl
 |s::B,i,loc,h,hi=>by
  have c0:(i==k)=false:=beq_false_of_ne oM;have c:List.contains [k] i=false:=by grind
  simp only[lay,c,cond_false,nN (call:=call) (env:=env) (k:=k) B (i+1) _ h oM,List.map_cons]
theorem wR{call:aI}{env:T V}{k:Nat}{R:List IStep}{h h':Heap}{r:List DS}:∀(A:List IStep)(i:Nat)(loc:List V),i+A.length=k→(∀loc,lay call env [k] R k loc h=some (r,h'))→lay call env [k] (A++R) i loc h=some ((A.map fun s=>(s,none))++r,h')
 |[],i,loc,hi,hr=>by
  have:i=k:=by simpa using hi
  subst this;simpa using hr loc
 |s::A,i,loc,hi,hr=>by
  simp only[List.length_cons]at hi;have c0:(i==k)=false:=beq_false_of_ne oM;have c:List.contains [k] i=false:=by grind
  simp only[List.cons_append,lay,c,cond_false,wR (call:=call) (env:=env) (k:=k) A (i+1) _ oM hr,List.map_cons]
theorem tJ{call:aI}{h:Heap}{k:Nat}{zero:List V}{Rr:List Nat}{Z:List (Nat×Nat×Nat)}{K:List (Nat×Nat)}{Q:Ex->T V->Heap->Prop}(A B:List IStep)(hk:A.length=k)
 (x:WD call env ((A.map fun s=>(s,none))++(⟨none,.al zero,none⟩,some (.ptr h.next 0,zero))::B.map fun s=>(s,none)) [] [halloc h zero] (halloc h zero) (DF call (A++⟨none,.al zero,none⟩::B) Z K env (Q .norm))):
 W call (.dops (A++⟨none,.al zero,none⟩::B) [k] Rr Z K) env h Q:=by
 refine(Dz _ _ _ _ _ _).2 ?_;have e:∀ac,lay call env [k] (⟨none,.al zero,none⟩::B) k ac h=some ((⟨none,.al zero,none⟩,some (.ptr h.next 0,zero))::B.map (fun s=>(s,none)),halloc h zero):=by
  intro ac;have c:List.contains [k] k=true:=by simp
  simp only[lay,c,cond_true,iZ,nN B (k+1) _ _ (Nat.lt_succ_self k),eF]
 rw[wR A 0 [] oM e,jn];exact x
theorem jD(Z:List V)(env:T V)(n:Nat)(zero:List V):cy Z env (.al zero) (.ptr n 0) zero=true:=by have e:iZ Z env (.al zero)=some (zero,none):=rfl;simp only[cy,e,lid,eF,ew,dZ,Ui]
def bP(Ks:List Knd)(cap:Int)(X:List Itm):Nat->List Itm->Int
 |_,[]=>0
 |i,y::r=>if okI y Ks.length=false then 6 else if(X[i]?.map Itm.key)≠some y.key then 9 else if bO Ks cap y≠0 then bO Ks cap y else bP Ks cap X (i+1) r
def pT(Ks:List Knd)(cap a:Int)(X Y:List Itm)(l:List Int)(kn:List Bool):Int:=
 if a<0\/(X.length:Int)<a\/(X.length:Int)-a<Y.length then 4 else if bP Ks cap X a.toNat Y≠0 then bP Ks cap X a.toNat Y else(chR l a.toNat (Y.map (aF Ks)) 2 l kn).1
theorem zC{X:List Itm}{j:Nat}{x:Itm}(e:X[j]? =some x):((X.flatMap Itm.cells).drop (j*4)).take 4=x.cells:=by rw[bJ aZ,aK e,SL,SK (by rw[aZ];omega),Sf (by rw[aZ];omega)]
theorem Do{h:Heap}{b B S:Nat}{a:Int}{X Y:List Itm}{l:List Int}{v:V}{mc:cC}(w:WF h)(s:Sto n0 h b Ks cap X l kn st vK bg B bm S bl pm mc)(ha:-9223372036854775808<=a/\a<9223372036854775808)
 (ok:okR Ks cap=true) (hx:X.length<=1024)
 (sv:∀(Z:List Nat)(h':Heap),(∀z∈Z,z∈Wr b bg B bm S bl pm\/h.next<=z)->Fr Z h h'->ARecs Itm.cells 4 h' v Y/\∀y∈Y,ItmH h' y) (hY:∀y∈Y,nZ y.vm=true) (hl:Y.length<=4096) (ones:au [k0,ZZ a,c0,t0,v]=true):
 ao go 49 [.ptr b 0,.agg [k0,ZZ a,c0,t0,v]] h fun u h'=>u=ZZ (pT Ks cap a X Y l kn)/\
  (pT Ks cap a X Y l kn≠0->Fr (b::bl::pm.toList) h h'/\∃bl' pm',(bl'=bl\/h.next<=bl')/\(pm'=pm\/∀q,pm'=some q->h.next<=q)/\Sto n0 h' b Ks cap X l kn st vK bg B bm S bl' pm' mc)/\
  (pT Ks cap a X Y l kn=0->0<=a/\a+Y.length<=X.length/\Fr (B::bl::pm.toList) h h'/\∃Y',Cps Y Y'/\
   Sto n0 h' b Ks cap (X.take a.toNat++Y'++X.drop (a.toNat+Y.length)) (chR l a.toNat (Y.map (aF Ks)) 2 l kn).2.1 (chR l a.toNat (Y.map (aF Ks)) 2 l kn).2.2 (st.take a.toNat++Y.map (bG Ks)++st.drop (a.toNat+Y.length)) vK bg B bm S bl pm mc):=by
 let⟨rk,kh,xh⟩:=s.rd [] h iS (Sn w);let⟨sY,hYI⟩:=sv [] h iS (Sn w);have hK:Ks.length<=8:=by simp only[okR,RU,decide_eq_true_eq]at ok;exact ok.2.1
 have same:∀{h'},Fr [] h h'->Fr (b::bl::pm.toList) h h'/\∃bl' pm',(bl'=bl\/h.next<=bl')/\(pm'=pm\/∀q,pm'=some q->h.next<=q)/\Sto n0 h' b Ks cap X l kn st vK bg B bm S bl' pm' mc:=
  fun f=>⟨⟨f.next,f.wf,fun _ _ _ o=>f.get o,fun _ _ _ o=>f.pl _ _ iS o,f.lp,f.ro⟩,bl,pm,.inl rfl,.inl rfl,s.fr w f⟩
 let⟨h1,e_h1,F_h1,o_h1⟩:=aq w [k0,ZZ a,c0,t0,v];have n1:=hnx e_h1;have s1:=s.fr w F_h1;have l1:ab h1 h.next 1=some (ZZ a):=o_h1.ld1 1;have l4:ab h1 h.next 4=some v:=o_h1.ld1 4;have ly:=(sY.fr F_h1).len;by_cases c1:a<0;refine ag ?_;simp only[evs,seval,DF,eff,<-e_h1,l1,eq_true c1];have e:pT Ks cap a X Y l kn=4:=by rw[pT,if_pos (.inl c1)]
 rw[e];exact⟨rfl,fun _=>same F_h1,fun e=>by cases e⟩;refine ag ?_;simp only[evs,seval,eff,<-e_h1,l1,eq_false c1];apply aa (jx s1);rintro _ _ ⟨rfl,rfl⟩;by_cases c2:(X.length:Int)<a;simp only[evs,seval,DF,eff,eq_true c2,l1];have e:pT Ks cap a X Y l kn=4:=by rw[pT,if_pos (.inr (.inl c2))]
 rw[e];exact⟨rfl,fun _=>same F_h1,fun e=>by cases e⟩;simp only[evs,seval,eff,eq_false c2,l4,ly];apply aa (jx s1);rintro _ _ ⟨rfl,rfl⟩;by_cases c3:(X.length:Int)-a<Y.length;simp(disch:=omega) only[evs,seval,DF,eff,ah,eq_true c3,l1,l4];have e:pT Ks cap a X Y l kn=4:=by rw[pT,if_pos (.inr (.inr c3))]
 rw[e];exact⟨rfl,fun _=>same F_h1,fun e=>by cases e⟩;obtain⟨p,rfl⟩:∃p:Nat,a=p:=⟨a.toNat,oM⟩;have e:pT Ks cap p X Y l kn=if bP Ks cap X p Y≠0 then bP Ks cap X p Y else(chR l p (Y.map (aF Ks)) 2 l kn).1:=by rw[pT,if_neg oM,RX]
 rw[e];simp(disch:=omega) only[evs,seval,DF,eff,ah,eq_false c3,l1,l4,ly];have bj:p+Y.length<=X.length:=oM;refine aC (fun n env hh=>Fr [] h1 hh/\∃(i:Nat),env.get 48=some (ZZ i)/\env.get 47=some (ZZ Y.length)/\env.get 46=some v/\env.get 0=some (.ptr b 0)/\env.get 3=some (.ptr h.next 0)/\
  i<=Y.length/\bP Ks cap X (p+i) (Y.drop i)=bP Ks cap X p Y/\(∀y∈Y.take i,y.type<Ks.length)/\n=Y.length-i) Y.length oM ?_ ?_
 exact⟨Sn F_h1.wf,0,iS,iS,iS,iS,iS,oM,rfl,iS,rfl⟩;rintro n env hh ⟨F,i,ax,a3,bc,g0,g3,hi,K,a0,rfl⟩;have Fh:=F_h1.then F;have sh:=s.fr w Fh;have a1:=F.get o_h1;by_cases bn:i<Y.length;have ac:(i:Int)<Y.length:=oM;let⟨bi,oi,y,p1,_,p3,p4⟩:=(sY.fr Fh).ix (f:=Itm.cells) (k:=4) (fun _=>rfl) .i64 (i:Int) oM ac;rw[RX]at p4;have ym:=RZ p4;have ay:=(hYI y ym).fr Fh;rw[aK p4]at K;simp only[bP]at K;let⟨h3,e_h3,F_h3,o_h3⟩:=aq F.wf [ZX 0,ZY 0,.str [],.nils];simp only[evs,seval,ax,a3,bc,ac,p1,p3,<-e_h3];refine ai (c':=y.cells) F_h3.wf o_h3 rfl ay.one rfl ?_;rintro h4 o4 F4 n4;have ak:Fr [] hh h4:=F_h3.fresh F4 F.wf (RW _);have s4:=sh.fr F.wf ak;have y4:aj h4 hh.next 0 4=some y.cells:=by rw[o4.ld];rfl
 have k0:ab h4 b 0=some vK:=s4.ob.ld1 0;have bf:=TK rk (Fh.then ak);simp only[evs,seval,eff,g0,y4,k0,(VV bf)];apply aa (oJ ak.wf (ay.fr ak) oM);rintro _ h5 ⟨rfl,F5⟩;have af:=ak.then F5;cases d1:okI y Ks.length;rw[d1,if_pos rfl]at K;simp only[evs,seval,DF,eff,y4,k0];have e6:bP Ks cap X p Y≠0:=by rw[<-K];decide
 rw[if_pos e6];exact⟨by rw[<-K],fun _=>same (Fh.then af),fun e=>absurd e e6⟩;rw[d1,if_neg iS]at K;have ht:y.type<Ks.length:=by simp only[okI,RU,decide_eq_true_eq]at d1;exact d1.2.1
 simp only[evs,seval,DF,eff,y4,k0];apply tJ [⟨none,.p .mv [.v 0],none⟩,⟨none,.p .nilck [.l 0],none⟩,⟨none,.p (.faddr 2) [.l 0],none⟩,⟨none,.ld 1 false (.l 0),none⟩,⟨none,.p (.faddr 1) [.v 3],none⟩,⟨none,.ld 1 false (.l 0),none⟩,⟨none,.p .mv [.v 5],none⟩,⟨none,.p (.ib .add) [.l 1,.l 0],none⟩,⟨none,.cf 70 [.l 4,.l 0],none⟩,⟨none,.p .mv [.l 0],none⟩,⟨none,.p (.ext 0) [.l 0],none⟩,⟨none,.p (.ext 1) [.l 1],none⟩] _ rfl;have F6:=SO af.wf [ZX 0,ZY 0,.str [],.nils];have o6:=Ts af.wf [ZX 0,ZY 0,.str [],.nils];have n6:(halloc h5 [ZX 0,ZY 0,.str [],.nils]).next=h5.next+1:=rfl;generalize halloc h5 [ZX 0,ZY 0,.str [],.nils]=h6 at F6 o6 n6|-;have aH:=af.then F6;have s6:=sh.fr F.wf aH;obtain⟨x,ex⟩:∃x,X[p+i]? =some x:=⟨_,Sm oM⟩;let⟨v9,c1',G,c2',a9,g9,m9,k9,ec,en⟩:=s6.g;have xk:=xh x (RZ ex);have b2:ab h6 b 2=some (.ptr bg 0):=s6.ob.ld1 2;have a2:=aH.get a1;have az:ab h6 h.next 1=some (ZZ (p:Int)):=a2.ld1 1;have ea:(p:Int)+i=((p+i:Nat):Int):=oM;rw[ex]at K;simp only[Sx,ne_eq,Sh]at K;simp(disch:=omega) only[evs,seval,eff,ah,g0,g3,b2,az,ea];apply aa (Aw F6.wf k9 (i:=p+i) oM);rintro _ h7 ⟨F7,rfl⟩;rw[<-ec,zC ex];have bk:ab h7 b 2=some (.ptr bg 0):=(F7.get s6.ob).ld1 2;have bp:ab h7 h.next 1=some (ZZ (p:Int)):=(F7.get a2).ld1 1;simp only[evs,eff,cK,jD];refine ai (c':=x.cells) F7.wf (F7.get o6) rfl xk.one rfl ?_;rintro h8 o8 F8 bo;have ae:Fr [] hh h8:=(aH.then F7).fresh F8 F.wf (by have:=af.next;omega);have a4:Fr [] h5 h8:=(F6.then F7).fresh F8 af.wf (RW _);have x0:ab h8 h5.next 0=some (ZX (x.key:Int)):=o8.ld1 0;have oy:=a4.get (F5.get o4);have y0:ab h8 hh.next 0=some (ZX (y.key:Int)):=oy.ld1 0;have a6:aj h8 hh.next 0 4=some y.cells:=by rw[oy.ld];rfl
 by_cases c4:x.key=y.key;rw[if_neg iX]at K;simp only[evs,seval,DF,eff,g0,b2,az,x0,y0,a6,c4];apply aa (rj ae.wf (RulesAt.fr ⟨vK,_,_,_,s.ob,rk,kh⟩ (Fh.then ae)) (ay.fr ae) ht);rintro _ h9 ⟨cs,rfl,F9,on,cl⟩;let⟨h10,e_h10,F_h10,o_h10⟩:=aq F9.wf [ZY 0,.str [],.str [],.nils,.str [],.nils];simp only[evs,<-e_h10];refine ai (c':=cs) F_h10.wf o_h10 cl on (by
  rw[bQ _ _ _ (by show 0+cs.length<=6;omega)];simp[V.cells];omega) ?_
 rintro a7 bt ba br;have bh:Fr [] h8 a7:=(F9.then F_h10).fresh ba ae.wf (by have:=F9.next;omega);have ar:=ae.then bh;by_cases c5:bO Ks cap y=0;rw[if_neg iX]at K;simp(disch:=omega) only[evs,seval,ah,ax,c5];refine rqn ⟨Y.length-(i+1),oM,F.then ar,i+1,iS,iX,iX,iX,iX,oM,K,?_,rfl⟩;rw[Sr,p4];intro z m;obtain m|m:=pi.1 m;exact a0 z m;grind;rw[if_pos c5]at K;simp only[evs,seval,c5];have e6:bP Ks cap X p Y≠0:=oM;rw[if_pos e6];exact⟨by rw[<-K],fun _=>same (Fh.then ar),fun e=>absurd e e6⟩;rw[if_pos c4]at K;have a5:¬(x.key:Int)=(y.key:Int):=oM;simp only[evs,seval,DF,eff,b2,az,x0,y0,eq_false a5];have e6:bP Ks cap X p Y≠0:=by rw[<-K];decide
 rw[if_pos e6];exact⟨by rw[<-K],fun _=>same (Fh.then ae),fun e=>absurd e e6⟩;have:i=Y.length:=oM;subst this;rw[Ua]at K;simp only[bP]at K;rw[Sf (RW _)]at a0;have ac:¬(Y.length:Int)<Y.length:=oM;simp only[evs,seval,ax,a3,eq_false ac];have e6:¬bP Ks cap X p Y≠0:=by rw[<-K];decide
 rw[if_neg e6];have hn:=Fh.next;have lw:∀y∈Wr b bg B bm S bl pm,y<h.next:=by intro y m;simp only[Wr,pi,Sk,SH,or_false]at m;obtain(rfl|rfl|rfl|rfl|rfl|rfl)|m:=m;exact s.ob.lt w;exact s.g.ob.1.lt w;exact s.gB.lt w;exact s.k.lt w;exact s.Sl';exact s.bl';exact s.pl y (eV m)
 have an:∀{Z:List Nat}{h'},Fr Z hh h'->Fr Z h h':=fun f=>Sj Fh f w (fun x m=>by simp at m) (fun x m=>.inl m);refine Kv (B0:=h.next) F.wf sh a1 lw (RW _) iX iX (fun h' f=>sv _ h' (fun z m=>.inl ?_) (an f)) (fun y m=>⟨hY y m,a0 y m⟩) s.n0l hn bj hx ok ?_ ?_;obtain rfl|m:=Sk.1 m;simp[Wr];obtain rfl|m:=Sk.1 m;simp[Wr];exact pi.2 (.inr m);intro c0 h' c a8 f o' a' hc hp;refine⟨rfl,fun _=>⟨an f,c,a8,.inr oM,.inr fun q e=>by have:=hp q e;omega,s.relay w (an f) o' a' s.len oM fun q e=>⟨by have:=hp q e;omega,(hp q e).2⟩⟩,fun e=>absurd e c0⟩;grind
theorem Inv.frX{v:V}{n0:Nat}{h:Heap}{s:NT}{X:List Nat}(I:Inv v n0 h s)(w:WF h)(f:Fr X h h')(hX:∀x∈X,x<n0):Inv v n0 h' s:=fun Y h2 hy f2=>
 I (X++Y) h2 (fun x m=>by
  obtain m|m:=pi.1 m;exact .inl (hX x m);exact hy x m) (Sj f f2 w (fun x m=>.inl (pi.2 (.inl m))) (fun x m=>.inl (pi.2 (.inr m))))
theorem Kb{h:Heap}{x:Itm}{sub:PT}(M:MDs sub)(f0:Fr [] h h1)(a:ItmH h x)(hm:x.marks.length<=8)(n:PH h (.cons 1 tg ky sl tx va vc sub .nil))(g:PG (.cons 1 tg ky sl tx va vc sub .nil))
 (op:Own h1 pb [ZY 1,.str tg,.str ky,va,.str tx,vc]) (oi:Own h1 ib x.cells) (e2:env.get 2=some (.ptr pb 0)) (e3:env.get 3=some (.ptr ib 0))
 (k:∀u h',MDp h x 1 tg ky sl tx sub u h'->R u h'):W go mdN env h1 (iO [.t 4] R):=by
 let⟨n1,ra,na,rc,nc,n6,_⟩:=n;let⟨_,_,g3,gl,gs,_⟩:=g;have w1:=f0.wf;have l6:=op.at6;let⟨q0,q1,q2,q3,q4,q5,q6⟩:=l6;have i4:aj h1 ib 0 4=some x.cells:=by rw[oi.ld];rfl
 simp only[evs,mdN];apply tJ [⟨none,.p (.faddr 1) [.v 2],none⟩,⟨none,.ld 1 false (.l 0),none⟩,⟨none,.p (.faddr 2) [.v 2],none⟩,⟨none,.ld 1 false (.l 0),none⟩,⟨none,.p (.faddr 3) [.v 2],none⟩,⟨none,.ld 1 false (.l 0),none⟩,⟨none,.ld 4 true (.v 3),none⟩,⟨none,.cf 241 [.l 1,.l 0],none⟩,⟨none,.p (.build [ZY 0,.str [],.str [],.nils,.str [],.nils] [(0,1),(1,1),(2,1),(3,1)]) [.c (ZY 1),.l 6,.l 4,.l 0],none⟩] _ rfl;have F2:=SO w1 [ZY 0,.str [],.str [],.nils,.str [],.nils];have o2:=Ts w1 [ZY 0,.str [],.str [],.nils,.str [],.nils];have n2:(halloc h1 [ZY 0,.str [],.str [],.nils,.str [],.nils]).next=h1.next+1:=rfl;generalize halloc h1 [ZY 0,.str [],.str [],.nils,.str [],.nils]=h2 at F2 o2 n2|-;let⟨r0,r1,r2,r3,r4,r5,r6⟩:=(F2.get op).at6;have a0:aj h2 ib 0 4=some x.cells:=by rw[(F2.get oi).ld];rfl
 simp only[evs,eff,e2,e3,r1,r2,r3,a0];apply aa (vY F2.wf (a.fr (f0.then F2)) (ra.fr (f0.then F2)) na g3);rintro vA h3 ⟨GA,F3⟩;let⟨t0,t1,t2,t3,t4,t5,t6⟩:=(F3.get (F2.get op)).at6;have ar:vA.one=true:=(VW (n:=sl.length) GA (by rw[aJ eK];simp) oM).one;simp only[evs,seval,eff,cK,jD,aw ar];refine ai (c':=[ZY 1,.str tg,.str ky,vA,.str [],.nils]) F3.wf (F3.get o2) rfl (by simp only[V.cells,av,aB,ar];rfl) iR ?_;rintro h4 o4 F4 n4;have bf:aj h3 ib 0 4=some x.cells:=by rw[(F3.get (F2.get oi)).ld];rfl
 have n3:=F3.next;simp only[evs,seval,DF,e3,r1,r2,r3,a0,t1,t2];have a8:Fr [] h1 h4:=(F2.then F3).fresh F4 w1 (RW _);have a2:Gs h4 h2.next 2 vA ((sl.map (att x)).flatMap fY):=VN GA F4 (fun y m=>by simp at m;omega);have bh:=f0.next;refine aC (fun n env Z=>Fr [] h1 Z/\∃(i:Nat)(s:NT)(K:V),env.get 8=some (ZZ (i:Int))/\env.get 7=some (.ptr h1.next 0)/\env.get 2=some (.ptr pb 0)/\env.get 3=some (.ptr ib 0)/\i<=sub.len/\h3.next<=Z.next/\
  Own Z h1.next [ZY 1,.str tg,.str ky,vA,.str [],K]/\(∀(X:List Nat)(h':Heap),(∀y∈X,y<h2.next\/h3.next<=y)->Fr X Z h'->Recs fY 2 h' vA (sl.map (att x)))/\Gs Z h3.next 6 K s.cells/\Inv K h3.next Z s/\
  s.sh.app (cE x (sub.at' i))=cE x sub/\s.len<=8*i/\n=sub.len-i) sub.len oM ?_ ?_
 refine⟨a8,0,.nil,.nils,iS,iS,iX,iX,oM,oM,o4,fun X h' hX f=>?_,.inl ⟨rfl,rfl⟩,fun _ _ _ _=>trivial,by cases sub<;>rfl,by simp[NT.len],rfl⟩;have a3:∀y∈vb vA,y<h3.next:=by obtain⟨rfl,_⟩|⟨b,n,rfl,_,_,_,o⟩:=GA;simp[vb];have:=o.lt F3.wf;simp only[vb,Su];rintro y rfl;exact this
 have:Gs h' h2.next 2 vA ((sl.map (att x)).flatMap fY):=by obtain z|⟨b,n,rfl,z2,z3,z4,o⟩:=a2;exact .inl z;exact .inr ⟨b,n,rfl,z2,z3,z4,f.own _ _ (fun m=>by have:=hX _ m;have:=a3 b (by simp[vb]);omega) o⟩
 exact VW (n:=(sl.map (att x)).length) this (by rw[aJ eK]) oM;rintro n' env Z ⟨F,i,s,K,g8,g7,g2,ax,hi,hn,on,SA,G,I,e,sn,rfl⟩;have F0:=f0.then F;let⟨u0,u1,u2,u3,u4,u5,u6⟩:=(F.get op).at6;have ak:=rc.fr F0;by_cases ay:i<sub.len;have ac:(i:Int)<sub.len:=oM;let⟨kd,tg2,ky2,at2,tx2,va2,vc2,sub2,nx,e1,e2',e3',e4',e5',_⟩:=sub.split i ay;let⟨bi,oi',p1,p2⟩:=Sl.ix6 ak ay e2';have ph:=PH.at' i (n6.fr F0);have pg:=gs.at' i;have md:=M.at' i;rw[e1]at ph e pg md;let⟨z1,z2,z3,z4,z5,z6,z7⟩:=ph;let⟨y1,y2,y3,y4,y5,y6⟩:=pg;let⟨v0,v1,v2,v3,v4,v5,v6⟩:=p2;have w5:ab Z h1.next 5=some K:=on.ld1 5;have a1:aj Z ib 0 4=some x.cells:=by rw[(F.get oi).ld];rfl
 simp only[evs,seval,eff,g8,g7,g2,ax,u5,ak.len,ac,p1,v6,w5,a1];apply aa (md.1 x Z F.wf (a.fr F0) hm ⟨z1,z2,z3,z4,z5,z6,trivial⟩ ⟨y1,y2,y3,y4,y5,trivial⟩);rintro uu h5 ⟨s5,a4,F5,l5,a7,aH⟩;have az:=F5.get on;have a6:ab h5 h1.next 5=some K:=az.ld1 5;have a9:=aH [] h5 iS (Sn F5.wf);have ae:∀y∈vb K,h3.next<=y/\y<Z.next:=by obtain⟨rfl,_⟩|⟨b,n,rfl,_,_,hb,o⟩:=G;simp[vb];have:=o.lt F.wf;simp only[vb,Su];rintro y rfl;exact⟨hb,this⟩
 have n5:=F5.next;simp only[evs,eff];refine Et (n0:=h3.next) F5.wf (VN G F5 iS) oM oM (I.fr F.wf F5) a9.2 (fun X h' hX f=>(aH X h' (fun y m=>by
  obtain q|q:=hX y m;omega;exact(ae y q).2) f).1) oM oM a7 ?_
 intro v' h6 G' I' F6 V';have bc:=F6.own _ _ (fun m=>by have:=ae _ m;omega) az;have af:v'.one=true:=(VW (n:=(s.app s5).len) G' (by rw[NT.cells_len]) oM).one;simp only[evs,seval,eff,g7];refine ai (c':=[ZY 1,.str tg,.str ky,vA,.str [],v']) F6.wf bc (by rw[aw af];rfl) (by rw[aw af];simp only[av,aB,af];rfl) (by rw[aw af];rfl) ?_;rintro h7 o7 F7 n7;have bg:=F6.next;have a5:Fr [] h1 h7:=TL w1 (TL w1 (F.then F5) F6 (fun y m=>by have:=ae y m;omega)) F7 (fun y m=>by simp at m;omega);have G7:=VN G' F7 (fun y m=>by simp at m;omega);have I7:Inv v' h3.next h7 (s.app s5):=I'.frX F6.wf F7 (fun y m=>by simp at m;omega);have ba:∀(X:List Nat)(h':Heap),Fr X h7 h'->Fr (vb K++[h1.next]++X) Z h':=fun X h' f=>
  Sj (Sj (T:=vb K++[h1.next]) (Sj (T:=vb K) F5 F6 F.wf iS (fun y m=>.inl m)) F7 F.wf (fun y m=>.inl (pi.2 (.inl m))) (fun y m=>.inl (pi.2 (.inr m)))) f F.wf (fun y m=>.inl (pi.2 (.inl m))) (fun y m=>.inl (pi.2 (.inr m)))
 simp(disch:=omega) only[evs,seval,DF,ah,g8,ax,u5,v6,w5,a1,a6];refine rqn ⟨sub.len-(i+1),oM,a5,i+1,s.app s5,v',iS,iX,iX,iX,oM,oM,o7,fun X h' hX f=>SA _ h' (fun y m=>?_) (ba X h' f),G7,I7,?_,?_,rfl⟩;obtain m|m:=pi.1 m;obtain m|m:=pi.1 m;exact .inr (ae y m).1;simp at m;omega;exact hX y m;rw[NT.app_sh,a4,ST.app_assoc,e3'];exact e;rw[NT.app_len];omega;have ac:¬(i:Int)<sub.len:=oM;have w6:aj Z h1.next 0 6=some [ZY 1,.str tg,.str ky,vA,.str [],K]:=by rw[on.ld];rfl
 rw[PT.at_end _ _ oM]at e;have e':s.sh=cE x sub:=by rw[<-e];show _=s.sh.app .nil;rw[ST.app_nil]
 simp only[evs,seval,g8,g7,g2,u5,ak.len,eq_false ac,w6];refine k _ _ ⟨.cons 1 tg ky (sl.map (att x)) [] vA K s .nil,by unfold mP;rw[if_pos rfl,<-e'];rfl,F0.then (SO F.wf _),Si rfl,fun q=>absurd q (by simp[NT.len]),fun X an hX f=>?_⟩;have F9:=SO F.wf [ZY 1,.str tg,.str ky,vA,.str [],K];have o9:=Ts F.wf [ZY 1,.str tg,.str ky,vA,.str [],K];have f9:Fr X Z an:=Sj F9 f F.wf iS (fun y m=>.inl m);refine⟨⟨oM,SA X an (fun y m=>.inl (by have:=hX y m;omega)) f9,by simpa using na,?_,oM,I X an (fun y m=>.inl (by have:=hX y m;omega)) f9,trivial⟩,TH (f.own _ _ (fun m=>by have:=hX _ m;have:=F0.next;omega) o9) rfl⟩;exact VW (n:=s.len) (VN G f9 (fun y m=>by have:=hX y m;omega)) s.cells_len oM
abbrev jK(z:Str):List V:=[ZY 2,.str [],.str [],.nils,.str z,.nils]
abbrev JJ:List IStep:=[⟨none,.p (.build [ZY 0,.str [],.str [],.nils,.str [],.nils] [(0,1),(1,1),(2,1),(3,1),(5,1)]) [.c (ZY 1),.l 16,.l 11,.l 7,.l 0],none⟩,⟨none,.bs [ZY 0,.str [],.str [],.nils,.str [],.nils] [(0,6)] 1 [.l 0],none⟩,⟨none,.ap 6 104 (.l 20) (.l 0),none⟩,⟨none,.p .mv [.l 0],none⟩]
abbrev JL:List IStep:=[⟨none,.p .mv [.v 5],none⟩,⟨none,.p (.faddr 1) [.v 2],none⟩,⟨none,.ld 1 false (.l 0),none⟩,⟨none,.p (.faddr 3) [.v 3],none⟩,⟨none,.ld 1 false (.l 0),none⟩,⟨none,.p .mv [.v 6],none⟩,⟨none,.p (.ixs 1) [.l 1,.l 0],none⟩,⟨none,.ld 1 false (.l 0),none⟩,⟨none,.p (.faddr 3) [.v 2],none⟩,⟨none,.ld 1 false (.l 0),none⟩,⟨none,.ld 4 true (.v 3),none⟩,⟨none,.cf 241 [.l 1,.l 0],none⟩,⟨none,.p (.faddr 3) [.v 3],none⟩,⟨none,.ld 1 false (.l 0),none⟩,⟨none,.p .mv [.v 6],none⟩,⟨none,.p (.ixs 1) [.l 1,.l 0],none⟩,⟨none,.ld 1 false (.l 0),none⟩,⟨none,.p (.build [ZY 0,.str [],.str [],.nils,.str [],.nils] [(0,1),(4,1)]) [.c (ZY 2),.l 0],none⟩]
abbrev JK:IStep:=⟨none,.bs [ZY 0,.str [],.str [],.nils,.str [],.nils] [(0,6)] 1 [.l 0],none⟩
theorem LH{h:Heap}{b3 o3:Nat}{i:Int}{vm:V}{mk:Str}(g5:env.get 5=some v5)(g2:env.get 2=some (.ptr pb 0))(g3:env.get 3=some (.ptr ib 0))(g6:env.get 6=some (ZZ i))
 (l1:ab h pb 1=some (.str tg)) (l3:ab h ib 3=some vm) (ix:aP (.ixs 1) [vm,ZZ i]=some (.ptr b3 o3)) (lm:ab h b3 o3=some (.str mk)) (lp:ab h pb 3=some va) (l4:aj h ib 0 4=some cs):
 lay go env [18] (JL++JK::JJ) 0 [] h=some ((JL.map fun s=>(s,none))++(JK,some (.slice h.next 0 1 1,jK mk))::(JJ.map fun s=>(s,none)),halloc h (jK mk)):=by
 have ae:∀(Z:List V)(x:Opd)(v:V),evO Z env x=some v->aO go Z env h (.p .mv [x])=some (v,h):=fun Z x v e=>by simp only[aO,gu,dE,e,cU,aP]
 have ac:∀(Z:List V)(x k b:Nat),env.get x=some (.ptr b 0)->aO go Z env h (.p (.faddr k) [.v x])=some (.ptr b k,h):=fun Z x k b e=>by simp only[aO,gu,dE,iB,e,cU,jm,Tj]
 have K:∀(Z:List V)(b o:Nat)(v:V),ab h b o=some v->aO go (.ptr b o::Z) env h (.ld 1 false (.l 0))=some (v,h):=fun Z b o v e=>by simp only[aO,ql,bR,fO,e]
 have af:∀(Z:List V),aO go (ZZ i::vm::Z) env h (.p (.ixs 1) [.l 1,.l 0])=some (.ptr b3 o3,h):=fun Z=>by simp only[aO,gu,dE,ql,bR,cQ,cU,ix]
 have ak:∀(Z:List V),aO go Z env h (.ld 4 true (.v 3))=some (.agg cs,h):=fun Z=>by simp only[aO,iB,g3,ni,l4];rfl
 have an:∀(Z:List V),aO go (.str mk::Z) env h (.p (.build [ZY 0,.str [],.str [],.nils,.str [],.nils] [(0,1),(4,1)]) [.c (ZY 2),.l 0])=some (.agg (jK mk),h):=fun Z=>rfl;simp only[TS,TO];rw[db rfl rfl (ae _ _ _ (by rw[iB];exact g5)),db rfl rfl (ac _ _ _ _ g2),db rfl rfl (K _ _ _ _ l1),db rfl rfl (ac _ _ _ _ g3),db rfl rfl (K _ _ _ _ l3),db rfl rfl (ae _ _ _ (by rw[iB];exact g6)),db rfl rfl (af _),db rfl rfl (K _ _ _ _ lm),
  db rfl rfl (ac _ _ _ _ g2),db rfl rfl (K _ _ _ _ lp),db rfl rfl (ak _),yC rfl rfl,db rfl rfl (ac _ _ _ _ g3),db rfl rfl (K _ _ _ _ l3),db rfl rfl (ae _ _ _ (by rw[iB];exact g6)),db rfl rfl (af _),db rfl rfl (K _ _ _ _ lm),db rfl rfl (an _)]
 rw[Bs (c:=jK mk) (k:=some (1,1)) rfl rfl,nN _ _ _ _ oM];rfl
theorem Lj(Z:List V)(env:T V)(n:Nat)(z:Str):cy (.agg (jK z)::Z) env (.bs [ZY 0,.str [],.str [],.nils,.str [],.nils] [(0,6)] 1 [.l 0]) (.slice n 0 1 1) (jK z)=true:=by have e:iZ (.agg (jK z)::Z) env (.bs [ZY 0,.str [],.str [],.nils,.str [],.nils] [(0,6)] 1 [.l 0])=some (jK z,some (1,1)):=rfl;simp only[cy,e,lid,eF,ew,dZ,Ui]
theorem Kc{h:Heap}{x:Itm}{sub:PT}{Q:Ex->T V->Heap->Prop}(f0:Fr [] h h1)(a:ItmH h x)(hm:x.marks.length<=8)(n:PH h (.cons 5 tg ky sl tx va vc sub .nil))(a1:∀s∈sl,s.2.1<=3)
 (op:Own h1 pb [ZY 5,.str tg,.str ky,va,.str tx,vc]) (oi:Own h1 ib x.cells) (e2:env.get 2=some (.ptr pb 0)) (e3:env.get 3=some (.ptr ib 0))
 (k:∀u h' env',env'.get 4=some u->MDp h x 5 tg ky sl tx sub u h'->Q .ret env' h'):W go mdE env h1 Q:=by
 let⟨n1,ra,na,rc,nc,n6,_⟩:=n;have w1:=f0.wf;have a0:mP x 5 tg ky sl tx (cE x sub)=jO tg (sl.map (att x)) x.marks:=rfl;simp only[evs,mdE];refine aC (fun n env hh=>Fr [] h1 hh/\∃(i:Nat)(s:NT)(vo:V),env.get 6=some (ZZ (i:Int))/\env.get 5=some vo/\env.get 2=some (.ptr pb 0)/\env.get 3=some (.ptr ib 0)/\i<=x.marks.length/\
  Gs hh h1.next 6 vo s.cells/\Inv vo h1.next hh s/\s.sh.app (jO tg (sl.map (att x)) (x.marks.drop i))=jO tg (sl.map (att x)) x.marks/\s.len=i/\n=x.marks.length-i) x.marks.length oM ?_ ?_
 exact⟨Sn w1,0,.nil,.nils,iS,iS,iX,iX,oM,.inl ⟨rfl,rfl⟩,fun _ _ _ _=>trivial,rfl,rfl,rfl⟩;rintro n' env hh ⟨F,i,s,vo,g6,g5,g2,g3,hi,G,I,e,sn,rfl⟩;have F0:=f0.then F;let⟨u0,u1,u2,u3,u4,u5,u6⟩:=(F.get op).at6;have i3:ab hh ib 3=some x.vm:=(F.get oi).ld1 3;have i4:aj hh ib 0 4=some x.cells:=by rw[(F.get oi).ld];rfl
 have am:=a.m.fr F0;by_cases a3:i<x.marks.length;have Z:(i:Int)<x.marks.length:=oM;let⟨b3,o3,mk,p1,p2,_,p4⟩:=am.ix fG .i64 (i:Int) oM Z;have p3:ab hh b3 o3=some (.str mk):=p2 0 oM;rw[RX]at p4;rw[aK p4]at e;simp only[evs,seval,g6,g3,i3,am.len,Z];refine(Dz _ _ _ _ _ _).2 ?_;refine⟨_,_,LH (v5:=vo) iX iX iX iX u1 i3 p1 p3 u3 i4,?_⟩;have K:=SO F.wf (jK mk);have o2:=Ts F.wf (jK mk);have n2:(halloc hh (jK mk)).next=hh.next+1:=rfl;generalize halloc hh (jK mk)=h2 at K o2 n2|-;let⟨r0,r1,r2,r3,r4,r5,r6⟩:=(K.get (F.get op)).at6;have i32:ab h2 ib 3=some x.vm:=(K.get (F.get oi)).ld1 3;have az:aj h2 ib 0 4=some x.cells:=by rw[(K.get (F.get oi)).ld];rfl
 have ax:ab h2 b3 o3=some (.str mk):=by let⟨b3',ak,mk',ac,p2',_,ae⟩:=(am.fr K).ix fG .i64 (i:Int) oM Z;rw[p1]at ac;cases ac;rw[RX,p4]at ae;cases ae;exact p2' 0 oM
 simp only[evs,seval,eff,g6,g5,g2,g3,r1,r3,i32,az,p1,ax];apply aa (vY K.wf (a.fr (F0.then K)) (ra.fr (F0.then K)) na a1);rintro vA h3 ⟨GA,F3⟩;have aH:vA.one=true:=(VW (n:=sl.length) GA (by rw[aJ eK];simp) oM).one;let⟨t0,t1,t2,t3,t4,t5,t6⟩:=(F3.get (K.get (F.get op))).at6;have ay:ab h3 ib 3=some x.vm:=(F3.get (K.get (F.get oi))).ld1 3;have ar:ab h3 b3 o3=some (.str mk):=by let⟨b3',ak,mk',ac,p2',_,ae⟩:=(am.fr (K.then F3)).ix fG .i64 (i:Int) oM Z;rw[p1]at ac;cases ac;rw[RX,p4]at ae;cases ae;exact p2' 0 oM
 simp only[evs,seval,eff,g6,g3,p1,ay,ar,cK,Lj,aw aH];have n3:=F3.next;have a2:=F.next;have an:∀y∈vb vo,h1.next<=y/\y<hh.next:=by obtain⟨rfl,_⟩|⟨b,n,rfl,_,_,hb,o⟩:=G;simp[vb];have:=o.lt F.wf;simp only[vb,Su];rintro y rfl;exact⟨hb,this⟩
 have af:=K.then F3;have ak:=F3.get o2;refine kZ (k:=1) (n0:=h1.next) (B:=h1.next) (s:=s) (at':=sl.map (att x)) (sub:=.cons 2 [] [] [] mk .nils .nils .nil .nil) F3.wf (VN G af iS) oM oM (I.fr F.wf af) (fun X h' hX f=>?_) oM ?_;have lt:∀y∈X,y<hh.next:=fun y m=>by obtain q|q:=hX y m;omega;exact(an y q).2
 refine⟨oM,?_,by simpa using na,TH (f.own _ _ (fun m=>by have:=lt _ m;omega) ak) rfl,by simp[NT.len],li 2 oM [] mk,trivial⟩;exact VW (n:=(sl.map (att x)).length) (VN GA f (fun y m=>by have:=lt y m;omega)) (by rw[aJ eK]) oM;intro v' h' G' I' F' V';have Fn:Fr [] h1 h':=TL w1 (F.then af) F' (fun y m=>(an y m).1);simp(disch:=omega) only[evs,seval,DF,eff,ah,g6,g3,r1,r3,i32,az,ax,t1,ay,ar];refine rqn ⟨x.marks.length-(i+1),oM,Fn,i+1,_,v',iS,iS,iX,iX,oM,G',I',?_,?_,rfl⟩;rw[NT.app_sh,ST.app_assoc];exact e;rw[NT.app_len,sn];rfl;have Z:¬(i:Int)<x.marks.length:=oM;rw[So oM]at e;have e':s.sh=jO tg (sl.map (att x)) x.marks:=by rw[<-e];show _=s.sh.app .nil;rw[ST.app_nil]
 simp only[evs,seval,g6,g5,g3,i3,am.len,eq_false Z];refine k vo _ _ iS ⟨s,by rw[a0,e'],F0,oM,fun q=>?_,fun X h2 hX f=>⟨I X h2 (fun y m=>.inl (by have:=hX y m;have:=f0.next;omega)) f,VW (n:=s.len) (VN G f (fun y m=>by have:=hX y m;have:=f0.next;omega)) s.cells_len oM⟩⟩;obtain⟨rfl,_⟩|⟨b,n,rfl,z,z2,_⟩:=G;rfl;have:=s.cells_len;omega
theorem ER{k:Nat}{sub:PT}(M:MDs sub):MD k tg ky sl tx va vc sub:=by intro x h w a hm n g;have n0:=n;have g0:=g;let⟨k1,k5,g3,_⟩:=g;let⟨h1,e_h1,F_h1,o_h1⟩:=aq w [ZY (k:Int),.str tg,.str ky,va,.str tx,vc];let⟨h2,e_h2,F_h2,o_h2⟩:=aq F_h1.wf x.cells;have Z:=F_h1.then F_h2;have op:=F_h2.get o_h1;have K:ab h2 h.next 0=some (ZY (k:Int)):=op.ld1 0;have l4:ab h2 h.next 4=some (.str tx):=op.ld1 4;have x0:ab h2 h1.next 0=some (ZX (x.key:Int)):=o_h2.ld1 0;have x2:ab h2 h1.next 2=some (.str x.text):=o_h2.ld1 2;have ks:k=1\/k=2\/k=3\/k=4\/k=5:=oM;refine ag ?_;obtain e|e|e|e|e:=ks;simp only[evs,seval,<-e_h1,<-e_h2,K,(oM:¬(k:Int)=2),(oM:¬(k:Int)=3),(oM:¬(k:Int)=4),(oM:¬(k:Int)=5)];subst e;exact Kb M Z a hm n0 g0 op o_h2 iS iS fun u h' r=>r;simp only[evs,seval,<-e_h1,<-e_h2,K,eq_true (oM:(k:Int)=2),l4];exact wL Z (by subst e;rfl);simp only[evs,seval,<-e_h1,<-e_h2,K,(oM:¬(k:Int)=2),eq_true (oM:(k:Int)=3),x2];exact wL Z (by subst e;rfl);simp only[evs,seval,<-e_h1,<-e_h2,K,(oM:¬(k:Int)=2),(oM:¬(k:Int)=3),eq_true (oM:(k:Int)=4),x0];apply aa (nY (x.key+1) x.key oM a.k);rintro _ _ ⟨rfl,rfl⟩;simp only[evs,seval];exact wL Z (by subst e;rfl);simp only[evs,seval,<-e_h1,<-e_h2,K,(oM:¬(k:Int)=2),(oM:¬(k:Int)=3),(oM:¬(k:Int)=4),eq_true (oM:(k:Int)=5)];subst e;refine Kc Z a hm n0 g3 op o_h2 iS iS fun u h' ac q r=>?_;simp only[evs,q];exact r
theorem Ka:∀t:PT,MDs t
 |.nil=>trivial
 |.cons _ _ _ _ _ _ _ sub nx=>⟨ER (Ka sub),Ka nx⟩
theorem JB{h:Heap}{sub:NT}(sl:Sl h 6 vc sub.len sub.cells){i:Nat}(Z:i<sub.len):∃b o ky,aP (.ixs 6) [vc,ZZ (i:Int)]=some (.ptr b o)/\ab h b (o+2)=some (.str ky)/\sub.keys[i]? =some ky/\sub.keys.drop i=ky::sub.keys.drop (i+1):=by let⟨kd,tg2,ky2,at2,tx2,va2,vc2,sub2,nx,e1,e2,e3,e4,e5,_⟩:=sub.split i Z;let⟨b,o,p1,p2⟩:=Sl.ix6 sl Z e2;exact⟨b,o,ky2,p1,p2.2.2.1,e5,aK e5⟩
def KX(l:List Str):Prop:=∀(i j:Nat)(q r:Str),j<i->l[i]? =some q->l[j]? =some r->q=[]\/r≠q
theorem KX.ok'{l:List Str}(h:KX l):∀(n i:Nat),i+n=l.length→gq (l.take i) (l.drop i)=true
 |0,i,e=>by rw[List.drop_of_length_le oM];rfl
 |n+1,i,e=>by
  have hi:i<l.length:=oM;have g:=List.getElem?_eq_getElem hi;rw[List.drop_eq_getElem_cons hi,qh,Bool.and_eq_true];refine⟨?_,?_⟩;by_cases z:l[i]=[];simp[z];rw[Bool.or_eq_true];right;simp only[Bool.not_eq_true',List.any_eq_false,beq_iff_eq];intro q m e';obtain⟨j,hj,rfl⟩:=List.getElem_of_mem m;have hj':j<i:=by simp at hj;omega
  have gj:l[j]? =some (l.take i)[j]:=by grind
  obtain w|w:=h i j _ _ hj' g gj;exact z w;exact w e';have:=KX.ok' h n (i+1) oM;rwa[List.take_add_one,g]at this
theorem KX.ok{l:List Str}(h:KX l):gq [] l=true:=by simpa using KX.ok' h l.length 0 oM
theorem J7{h:Heap}{sub:NT}(l5:ab h pb 5=some vc)(sl:Sl h 6 vc sub.len sub.cells)(nl:sub.len<=4096)(e1:env.get 1=some (.ptr pb 0))
 (k:∀b,(b=true↔KX sub.keys)->R (.bool b) h):W go noC env h (iO [.t 2] R):=by
 have kl:=sub.keys_len;simp only[evs,noC];refine aC (fun n env hh=>hh=h/\∃(i:Nat),env.get 5=some (ZZ (i:Int))/\env.get 1=some (.ptr pb 0)/\i<=sub.len/\(∀(i' j:Nat)(q r:Str),i'<i->j<i'->sub.keys[i']? =some q->sub.keys[j]? =some r->q=[]\/r≠q)/\n=sub.len-i) sub.len oM ?_ ?_;exact⟨rfl,0,iS,iX,oM,fun _ _ _ _ z=>by omega,rfl⟩;rintro n env hh ⟨rfl,i,g5,g1,hi,P,rfl⟩;by_cases ak:i<sub.len;have ac:(i:Int)<sub.len:=oM;let⟨b,o,ky,p1,p2,p3,p4⟩:=JB sl ak;simp only[evs,seval,g5,g1,l5,sl.len,ac];refine aC (fun n env h2=>h2=hh/\∃(j:Nat),env.get 6=some (ZZ (j:Int))/\env.get 5=some (ZZ (i:Int))/\env.get 1=some (.ptr pb 0)/\j<=i/\(∀(j':Nat)(r:Str),j'<j->sub.keys[j']? =some r->ky=[]\/r≠ky)/\n=i-j) i oM ?_ ?_;exact⟨rfl,0,iS,iX,iX,oM,fun _ _ z=>by omega,rfl⟩;rintro n' an h2 ⟨rfl,j,g6,g5,g1,hj,Q,rfl⟩;by_cases af:j<i;have Z:(j:Int)<i:=oM;let⟨b',o',ae,p1',p2',p3',p4'⟩:=JB sl (oM:j<sub.len);have step:(ky=[]\/ae≠ky)->∀(j':Nat)(r:Str),j'<j+1->sub.keys[j']? =some r->ky=[]\/r≠ky:=by grind
 cases c1:ky==[];cases c2:ky==ae;simp(disch:=omega) only[evs,seval,DF,eff,ah,g6,g5,g1,l5,p1,p2,p1',p2',Z,aY,aN,c1,c2];refine rqn ⟨i-(j+1),oM,rfl,j+1,iS,iX,iX,oM,step (.inr (by rintro rfl;simp at c2)),rfl⟩;simp only[evs,seval,DF,eff,g6,g5,g1,l5,p1,p2,p1',p2',Z,aY,aN,c1,c2];refine k false ⟨fun e=>(by cases e),fun K=>?_⟩;obtain z|z:=K i j ky ae af p3 p3';grind;grind;simp(disch:=omega) only[evs,seval,DF,eff,ah,g6,g5,g1,l5,p1,p2,Z,aY,c1];refine rqn ⟨i-(j+1),oM,rfl,j+1,iS,iX,iX,oM,step (.inl (eV c1)),rfl⟩;have:j=i:=oM;subst this;have Z:¬(j:Int)<j:=oM;simp(disch:=omega) only[evs,seval,ah,g6,g5,eq_false Z];refine rqn ⟨sub.len-(j+1),oM,rfl,j+1,iS,iX,oM,fun i' j' q r ax ar e e2=>?_,rfl⟩;obtain z|z:=TB i' j;grind;grind;have ac:¬(i:Int)<sub.len:=oM;simp only[evs,seval,g5,g1,l5,sl.len,eq_false ac];refine k true ⟨fun _ i' j q r hj e e2=>P i' j q r ?_ hj e e2,fun _=>rfl⟩;have:=(Ss.1 e).1;omega
def AX(l:List (Str×Str)):Prop:=∀(i:Nat)(a:Str×Str),l[i]? =some a->okN a.1=true/\okT a.2=true/\∀(j:Nat)(q:Str×Str),j<i->l[j]? =some q->leS a.1 q.1=false
theorem AX.ok'{l:List (Str×Str)}(h:AX l):∀(n i:Nat),i+n=l.length→dO (jL l i) (l.drop i)=true
 |0,i,e=>by rw[List.drop_of_length_le oM];cases jL l i<;>rfl
 |n+1,i,e=>by
  have hi:i<l.length:=oM;have g:=List.getElem?_eq_getElem hi;let⟨x1,x2,x3⟩:=h i _ g;rw[List.drop_eq_getElem_cons hi,oU,x1,x2];have y:=AX.ok' h n (i+1) oM;rw[rR g]at y;rw[y];have:cM (jL l i) (l[i]).1=true:=by by_cases z:i=0;subst z;rfl;have gj:=List.getElem?_eq_getElem (oM:i-1<l.length);have:=x3 (i-1) _ oM gj;simp[jL,z,gj,cM,this]
  rw[this];rfl
theorem AX.ok{l:List (Str×Str)}(h:AX l):dO none l=true:=by simpa[jL]using AX.ok' h l.length 0 oM
theorem J8{h:Heap}{va vc:V}{at':List (Str×Str)}{sub:NT}{env:T V}{pb:Nat}{R:V→Heap→Prop}(l3:ab h pb 3=some va)(ra:Recs fY 2 h va at')(na:at'.length≤4096)(l5:ab h pb 5=some vc)(sl:Sl h 6 vc sub.len sub.cells)(nl:sub.len≤4096)(e1:env.get 1=some (.ptr pb 0))
 (k:∀b,(b=true↔AX at'∧KX sub.keys)→R (.bool b) h):W go noA env h (iO [.t 2] R):=by
 simp only[evs,noA];refine aC (fun n env hh=>hh=h∧∃(i:Nat),env.get 3=some (.int .i64 (i:Int))∧env.get 1=some (.ptr pb 0)∧i≤at'.length∧(∀(i':Nat)(a:Str×Str),i'<i→at'[i']? =some a→okN a.1=true∧okT a.2=true∧∀(j:Nat)(q:Str×Str),j<i'→at'[j]? =some q→leS a.1 q.1=false)∧n=at'.length-i) at'.length oM ?_ ?_;exact⟨rfl,0,iS,iX,oM,fun _ _ z=>by omega,rfl⟩;rintro n env hh ⟨rfl,i,g3,g1,hi,P,rfl⟩;by_cases hlt:i<at'.length;have hlt':(i:Int)<at'.length:=oM;let⟨b,o,a,p1,p2,_,p4⟩:=ra.ix eK .i64 (i:Int) oM hlt';rw[Int.toNat_natCast]at p4;have q0:ab hh b o=some (.str a.1):=p2 0 oM;have q1:ab hh b (o+1)=some (.str a.2):=p2 1 oM;simp only[evs,seval,g3,g1,l3,ra.len,hlt',p1,q0];apply aa eZ;rintro _ _ ⟨rfl,rfl⟩;cases c1:okN a.1;simp only[evs,seval];exact k false ⟨fun e=>(by cases e),fun K=>by have:=(K.1 i a p4).1;rw[c1]at this;cases this⟩;simp only[evs,seval,g3,g1,l3,p1,q1];apply aa jU;rintro _ _ ⟨rfl,rfl⟩;cases c2:okT a.2;simp only[evs,seval];exact k false ⟨fun e=>(by cases e),fun K=>by have:=(K.1 i a p4).2.1;rw[c2]at this;cases this⟩;simp only[evs,seval];refine aC (fun n env h2=>h2=hh∧∃(j:Nat),env.get 4=some (.int .i64 (j:Int))∧env.get 3=some (.int .i64 (i:Int))∧env.get 1=some (.ptr pb 0)∧j≤i∧(∀(j':Nat)(q:Str×Str),j'<j→at'[j']? =some q→leS a.1 q.1=false)∧n=i-j) i oM ?_ ?_;exact⟨rfl,0,iS,iX,iX,oM,fun _ _ z=>by omega,rfl⟩;rintro n' env' h2 ⟨rfl,j,g4,g3,g1,hj,Q,rfl⟩;by_cases jlt:j<i;have jlt':(j:Int)<i:=oM;let⟨b',o',a2,p1',p2',_,p4'⟩:=ra.ix eK .i64 (j:Int) oM oM;rw[Int.toNat_natCast]at p4';have q0':ab h2 b' o'=some (.str a2.1):=p2' 0 oM;cases c3:leS a.1 a2.1;simp(disch:=omega) only[evs,seval,DF,eff,ah,g4,g3,g1,l3,p1,q0,p1',q0',jlt',lQ,c3];refine rqn ⟨i-(j+1),oM,rfl,j+1,iS,iX,iX,oM,?_,rfl⟩;intro j' q hj' e;obtain z|z:=Nat.lt_or_ge j' j;exact Q j' q z e;grind;simp only[evs,seval,DF,eff,g4,g3,g1,l3,p1,q0,p1',q0',jlt',lQ,c3];exact k false ⟨fun e=>(by cases e),fun K=>by have:=(K.1 i a p4).2.2 j a2 jlt p4';rw[c3]at this;cases this⟩;have:j=i:=oM;subst this;have jlt':¬(j:Int)<j:=oM;simp(disch:=omega) only[evs,seval,ah,g4,g3,eq_false jlt'];refine rqn ⟨at'.length-(j+1),oM,rfl,j+1,iS,iX,oM,fun i' b hi' e=>?_,rfl⟩;obtain z|z:=Nat.lt_or_ge i' j;exact P i' b z e;grind;have hlt':¬(i:Int)<at'.length:=oM;simp only[evs,seval,g3,g1,l3,ra.len,eq_false hlt'];refine J7 l5 sl nl iX fun b hb=>k b (hb.trans ⟨fun e=>⟨fun i' a e'=>P i' a ?_ e',e⟩,fun e=>e.2⟩);have:=(List.getElem?_eq_some_iff.1 e').1;omega
def OX(k:Nat)(tg ky:Str)(at':List (Str×Str))(tx:Str)(sub:NT):Prop:=
 (k=2/\okT tx=true/\(tg==[])=true/\(ky==[])=true/\at'.length=0/\sub.len=0)\/(k=1/\okN tg=true/\(ky==[]||okN ky)=true/\(tx==[])=true/\at'.length<=8/\sub.len<=16/\AX at'/\KX sub.keys)
theorem OX.ok{k:Nat}{at':List (Str×Str)}{sub:NT}(h:OX k tg ky at' tx sub):ST.alone k tg ky at' tx sub.sh=true:=by have z:=NT.sh_len sub;have zk:sub.sh.keys=sub.keys:=NT.sh_keys sub;unfold ST.alone;obtain⟨h1,h2,h3,K,Z,h6⟩|⟨h1,h2,h3,K,Z,h6,h7,h8⟩:=h;grind;rw[if_neg oM,h2,h3,K,h7.ok,zk,h8.ok,decide_eq_true h1,decide_eq_true Z,decide_eq_true (oM:sub.sh.len<=16)];rfl
theorem H5{h:Heap}{k:Nat}{at':List (Str×Str)}{sub:NT}(w:WF h)(n:NH h (.cons k tg ky at' tx va vc sub .nil)):
 ao go 273 [.agg [ZY (k:Int),.str tg,.str ky,va,.str tx,vc]] h fun u h'=>Fr [] h h'/\∃b,u=.bool b/\(b=true↔OX k tg ky at' tx sub):=by
 let⟨n1,ra,na,rc,nc,n6,_⟩:=n;let⟨Z,e_h1,F_h1,o_h1⟩:=aq w [ZY (k:Int),.str tg,.str ky,va,.str tx,vc];have l0:ab Z h.next 0=some (ZY (k:Int)):=o_h1.ld1 0;have l1:ab Z h.next 1=some (.str tg):=o_h1.ld1 1;have l2:ab Z h.next 2=some (.str ky):=o_h1.ld1 2;have l3:ab Z h.next 3=some va:=o_h1.ld1 3;have l4:ab Z h.next 4=some (.str tx):=o_h1.ld1 4;have l5:ab Z h.next 5=some vc:=o_h1.ld1 5;have ac:=ra.fr F_h1;have ae:=rc.fr F_h1;have no:∀{h'},Fr [] h h'->¬OX k tg ky at' tx sub->(Fr [] h h'/\∃b,V.bool false=.bool b/\(b=true↔OX k tg ky at' tx sub)):=fun f x=>⟨f,false,rfl,fun e=>(by cases e),fun e=>absurd e x⟩;by_cases k2:(k:Int)=2;refine ag ?_;simp only[evs,seval,<-e_h1,l0,eq_true k2,l4];refine aa jU ?_;rintro _ _ ⟨rfl,rfl⟩;cases c1:okT tx;simp only[evs,seval];exact no F_h1 (by rintro(⟨Z,K,h3,h4,h5,h6⟩|⟨Z,K,h3,h4,h5,h6,h7⟩)<;>first|omega|simp_all)
 cases c2:tg==[];simp only[evs,seval,l1,aN,c2];exact no F_h1 (by rintro(⟨Z,K,h3,h4,h5,h6⟩|⟨Z,K,h3,h4,h5,h6,h7⟩)<;>first|omega|simp_all)
 cases c3:ky==[];simp only[evs,seval,l1,l2,aN,c2,c3];exact no F_h1 (by rintro(⟨Z,K,h3,h4,h5,h6⟩|⟨Z,K,h3,h4,h5,h6,h7⟩)<;>first|omega|simp_all)
 by_cases c4:(at'.length:Int)=0;simp only[evs,seval,l1,l2,l3,l5,aN,c2,c3,ac.len,eq_true c4,ae.len];refine⟨F_h1,_,rfl,fun e=>?_,fun e=>?_⟩;have e0:=of_decide_eq_true e;exact .inl ⟨oM,c1,c2,c3,oM,oM⟩;obtain⟨Z,K,h3,h4,h5,h6⟩|⟨Z,_⟩:=e;grind;omega;simp only[evs,seval,l1,l2,l3,aN,c2,c3,ac.len,eq_false c4];exact no F_h1 (by rintro(⟨Z,K,h3,h4,h5,h6⟩|⟨Z,K,h3,h4,h5,h6,h7⟩)<;>first|omega|simp_all)
 by_cases k1:(k:Int)=1;refine ag ?_;simp only[evs,seval,<-e_h1,l0,eq_false k2,eq_true k1,l1];refine aa eZ ?_;rintro _ _ ⟨rfl,rfl⟩;cases c1:okN tg;simp only[evs,seval];exact no F_h1 (by rintro(⟨Z,K,h3,h4,h5,h6⟩|⟨Z,K,h3,h4,h5,h6,h7⟩)<;>first|omega|simp_all)
 have rest:∀{env:T V},env.get 1=some (.ptr h.next 0)->tx==[]->(ky==[]||okN ky)=true->at'.length<=8->sub.len<=16->W go noA env Z (iO [.t 2] fun u h'=>Fr [] h h'/\∃b,u=.bool b/\(b=true↔OX k tg ky at' tx sub)):=by intro env e1 c3 c2 c4 c5;refine J8 l3 ac na l5 ae nc e1 fun b hb=>⟨F_h1,b,rfl,fun e=>.inr ⟨oM,c1,c2,c3,c4,c5,hb.1 e⟩,fun e=>?_⟩;obtain⟨Z,_⟩|⟨Z,K,h3,h4,h5,h6,h7⟩:=e;omega;exact hb.2 h7
 cases c2:ky==[];simp only[evs,seval,l2,aY,c2];apply aa eZ;rintro _ _ ⟨rfl,rfl⟩;cases af:okN ky;simp only[evs,seval];exact no F_h1 (by rintro(⟨Z,K,h3,h4,h5,h6⟩|⟨Z,K,h3,h4,h5,h6,h7⟩)<;>first|omega|simp_all)
 cases c3:tx==[];simp only[evs,seval,l4,aY,c3];exact no F_h1 (by rintro(⟨Z,K,h3,h4,h5,h6⟩|⟨Z,K,h3,h4,h5,h6,h7⟩)<;>first|omega|simp_all)
 by_cases c4:(8:Int)<(at'.length:Nat);simp only[evs,seval,l3,l4,aY,c3,ac.len,eq_true c4];exact no F_h1 (by rintro(⟨Z,K,h3,h4,h5,h6⟩|⟨Z,K,h3,h4,h5,h6,h7⟩)<;>first|omega|simp_all)
 by_cases c5:(16:Int)<(sub.len:Nat);simp only[evs,seval,l3,l4,l5,aY,c3,ac.len,eq_false c4,ae.len,eq_true c5];exact no F_h1 (by rintro(⟨Z,K,h3,h4,h5,h6⟩|⟨Z,K,h3,h4,h5,h6,h7⟩)<;>first|omega|simp_all)
 simp only[evs,seval,l3,l4,l5,aY,c3,ac.len,eq_false c4,ae.len,eq_false c5];exact rest iS c3 (by rw[c2,af];rfl) oM oM;simp only[evs,seval,l2,l3,l4,aY,c2];cases c3:tx==[];simp only[evs,seval];exact no F_h1 (by rintro(⟨Z,K,h3,h4,h5,h6⟩|⟨Z,K,h3,h4,h5,h6,h7⟩)<;>first|omega|simp_all)
 by_cases c4:(8:Int)<(at'.length:Nat);simp only[evs,seval,ac.len,eq_true c4];exact no F_h1 (by rintro(⟨Z,K,h3,h4,h5,h6⟩|⟨Z,K,h3,h4,h5,h6,h7⟩)<;>first|omega|simp_all)
 by_cases c5:(16:Int)<(sub.len:Nat);simp only[evs,seval,l5,ac.len,eq_false c4,ae.len,eq_true c5];exact no F_h1 (by rintro(⟨Z,K,h3,h4,h5,h6⟩|⟨Z,K,h3,h4,h5,h6,h7⟩)<;>first|omega|simp_all)
 simp only[evs,seval,l5,ac.len,eq_false c4,ae.len,eq_false c5];exact rest iS c3 (by rw[c2];rfl) oM oM;refine ag ?_;simp only[evs,seval,<-e_h1,l0,eq_false k2,eq_false k1];exact no F_h1 (by rintro(⟨Z,K,h3,h4,h5,h6⟩|⟨Z,K,h3,h4,h5,h6,h7⟩)<;>first|omega|simp_all)
open Classical in
noncomputable def NT.rs:NT->Nat->Nat->Nat
 |.nil,_,c=>c
 |.cons k tg ky at' tx _ _ sub nx,lv,c=>if 64<c then c else nx.rs lv (c+(if lv=0\/¬OX k tg ky at' tx sub then 1000 else sub.rs (lv-1) 1))
open Classical in
noncomputable def NT.rn(k:Nat)(tg ky:Str)(at':List (Str×Str))(tx:Str)(sub:NT)(lv:Nat):Nat:=if lv=0\/¬OX k tg ky at' tx sub then 1000 else sub.rs (lv-1) 1
theorem NT.rs_cons(k:Nat)(tg ky:Str)(at':List (Str×Str))(tx:Str)(va vc:V)(sub nx:NT)(lv c:Nat):(NT.cons k tg ky at' tx va vc sub nx).rs lv c=if 64<c then c else nx.rs lv (c+NT.rn k tg ky at' tx sub lv):=rfl
theorem NT.rs_le:∀(t:NT)(lv c:Nat),t.rs lv c≤max c (1064+64*lv)
 |.nil,lv,c=>by simp only[NT.rs];omega
 |.cons k tg ky sl tx va vc sub nx,lv,c=>by
  rw[NT.rs_cons];split;omega;have h1:=NT.rs_le sub (lv-1) 1;have h2:=NT.rs_le nx lv (c+NT.rn k tg ky sl tx sub lv);have:NT.rn k tg ky sl tx sub lv≤max 1000 (1000+64*lv):=by unfold NT.rn;split;omega;omega
  omega
theorem NT.rs_ge:∀(t:NT)(lv c:Nat),c≤t.rs lv c
 |.nil,lv,c=>Nat.le_refl _
 |.cons k tg ky sl tx va vc sub nx,lv,c=>by rw[NT.rs_cons];split;omega;have h2:=NT.rs_ge nx lv (c+NT.rn k tg ky sl tx sub lv);omega
theorem NT.rn_le(k:Nat)(tg ky:Str)(sl:List (Str×Str))(tx:Str)(sub:NT)(lv:Nat):NT.rn k tg ky sl tx sub lv<=1064+64*lv/\1<=NT.rn k tg ky sl tx sub lv:=by unfold NT.rn;split;omega;have:=NT.rs_le sub (lv-1) 1;have:=NT.rs_ge sub (lv-1) 1;omega
theorem NT.rs_stop:∀(t:NT)(lv c:Nat),64<c->t.rs lv c=c
 |.nil,_,_,_=>rfl
 |.cons _ _ _ _ _ _ _ _ _,_,_,h=>by rw[NT.rs_cons,if_pos h]
theorem NT.rs_walk:∀(t:NT)(lv c c0:Nat),lv≤6→c0+t.rs lv c≤64→t.sh.walk (7-lv) (c0+c)=(c0+t.rs lv c,true)
 |.nil,_,_,_,_,_=>rfl
 |.cons k tg ky sl tx va vc sub nx,lv,c,c0,hl,h=>by
  have g:=NT.rs_ge (.cons k tg ky sl tx va vc sub nx) lv c;have c64:¬64<c:=oM;rw[NT.rs_cons,if_neg c64]at h⊢;have g2:=NT.rs_ge nx lv (c+NT.rn k tg ky sl tx sub lv);have g3:=(NT.rn_le k tg ky sl tx sub lv).2;have er:¬(lv=0∨¬OX k tg ky sl tx sub):=by
   intro q;have:NT.rn k tg ky sl tx sub lv=1000:=by unfold NT.rn;rw[if_pos q]
   omega
  have ev:NT.rn k tg ky sl tx sub lv=sub.rs (lv-1) 1:=by unfold NT.rn;rw[if_neg er]
  have ox:OX k tg ky sl tx sub:=Classical.byContradiction fun q=>er (.inr q);have l0:lv≠0:=fun e=>er (.inl e);have nd:ST.node k tg ky sl tx sub.sh sub.sh.walk (7-lv) (c0+c)=(c0+c+NT.rn k tg ky sl tx sub lv,true):=by unfold ST.node;rw[if_neg (by rw[ox.ok];simp;omega),(oM:7-lv+1=7-(lv-1)),NT.rs_walk sub (lv-1) 1 (c0+c) oM oM,ev]
  simp only[NT.sh,ST.walk,nd,if_true];rw[Nat.add_assoc,NT.rs_walk nx lv _ c0 hl h]
theorem NT.rn_node(k:Nat)(tg ky:Str)(sl:List (Str×Str))(tx:Str)(sub:NT)(h:NT.rn k tg ky sl tx sub 6<=64):ST.count k tg ky sl tx sub.sh=NT.rn k tg ky sl tx sub 6:=by have:=NT.rs_walk (.cons k tg ky sl tx .nils .nils sub .nil) 6 0 0 oM (by rw[NT.rs_cons,if_neg oM];simpa[NT.rs]using h);rw[NT.rs_cons,if_neg oM]at this;simp only[NT.sh,ST.walk,NT.rs,Tj]at this;unfold ST.count;split at this;grind;grind
def CN(k:Nat)(tg ky:Str)(at':List (Str×Str))(tx:Str)(va vc:V)(sub:NT):Prop:=∀(lv:Nat)(h:Heap),lv<=6->WF h->NH h (.cons k tg ky at' tx va vc sub .nil)->
 ao go 242 [.agg [ZY (k:Int),.str tg,.str ky,va,.str tx,vc],ZZ (lv:Int)] h fun u h'=>Fr [] h h'/\u=ZZ (NT.rn k tg ky at' tx sub lv:Nat)
def CNs:NT->Prop
 |.nil=>True
 |.cons k tg ky at' tx va vc sub nx=>CN k tg ky at' tx va vc sub/\CNs nx
theorem CNs.at':∀{t:NT}(i:Nat),CNs t->CNs (t.at' i)
 |.nil,0,_=>trivial
 |.nil,_+1,_=>trivial
 |.cons _ _ _ _ _ _ _ _ _,0,a=>a
 |.cons _ _ _ _ _ _ _ _ _,i+1,⟨_,b⟩=>CNs.at' i b
theorem NT.at_end':∀(t:NT)(i:Nat),t.len<=i->t.at' i=.nil
 |.nil,0,_=>rfl
 |.nil,_+1,_=>rfl
 |.cons _ _ _ _ _ _ _ _ nx,0,h=>by simp[NT.len]at h
 |.cons _ _ _ _ _ _ _ _ nx,i+1,h=>NT.at_end' nx i (by simp[NT.len]at h;omega)
theorem Dj{k:Nat}{tg ky tx:Str}{at':List (Str×Str)}{va vc:V}{sub:NT}(M:CNs sub):CN k tg ky at' tx va vc sub:=by
 intro lv h hlv w n;have n0:=n;let⟨n1,ra,na,rc,nc,n6,_⟩:=n;let⟨h1,e_h1,F_h1,o_h1⟩:=aq w [.int .u8 (k:Int),.str tg,.str ky,va,.str tx,vc];by_cases c1:(lv:Int)<1;refine ag ?_;simp only[evs,seval,←e_h1,eq_true c1];exact⟨F_h1,by rw[NT.rn,if_pos (.inl oM)];rfl⟩;have l6:aj h1 h.next 0 6=some [.int .u8 (k:Int),.str tg,.str ky,va,.str tx,vc]:=by rw[o_h1.ld];rfl
 refine ag ?_;simp only[evs,seval,←e_h1,eq_false c1,l6];refine aa (H5 F_h1.wf (n0.fr F_h1)) ?_;rintro _ h2 ⟨F2,b,rfl,hb⟩;have F02:=F_h1.then F2;cases c2:b;simp only[evs,seval];exact⟨F02,by rw[NT.rn,if_pos (.inr fun x=>by have:=hb.2 x;rw[c2]at this;cases this)];rfl⟩;have al:=hb.1 c2;have o2:=F2.get o_h1;simp only[evs,seval];refine aC (fun n env hh=>Fr [] h2 hh∧∃(i c:Nat),env.get 6=some (.int .i64 (i:Int))∧env.get 5=some (.int .i64 (c:Int))∧env.get 2=some (.ptr h.next 0)∧env.get 1=some (.int .i64 (lv:Int))∧i≤sub.len∧c≤2000∧
  (sub.at' i).rs (lv-1) c=sub.rs (lv-1) 1∧n=sub.len-i) sub.len oM ?_ ?_
 exact⟨Fr.refl F2.wf,0,1,iS,iS,iS,iS,oM,oM,by cases sub<;>rfl,rfl⟩;rintro n' env hh ⟨F,i,c,g6,g5,g2,g1,hi,hc,P,rfl⟩;have F0:=F02.then F;have l5:ab hh h.next 5=some vc:=(F.get o2).ld1 5;have rch:=rc.fr F0;have done:c=sub.rs (lv-1) 1→V.int .i64 (c:Int)=.int .i64 (NT.rn k tg ky at' tx sub lv:Nat):=fun e=>by rw[NT.rn,if_neg (by intro q;obtain q|q:=q;omega;exact q al),←e]
 by_cases hlt:i<sub.len;have hlt':(i:Int)<sub.len:=oM;by_cases c3:(c:Int)≤64;let⟨kd,tg2,ky2,at2,tx2,va2,vc2,sub2,nx,e1,e2,e3,e4,e5,_⟩:=sub.split i hlt;let⟨bi,oi,p1,p2⟩:=Sl.ix6 rch hlt e2;have ph:=NH.at' i (n6.fr F0);rw[e1]at ph;let⟨z1,z2,z3,z4,z5,z6,z7⟩:=ph;have cr:=CNs.at' i M;rw[e1]at cr;let⟨q0,q1,q2,q3,q4,q5,q6⟩:=p2;simp(disch:=omega) only[evs,seval,ah,g6,g5,g2,g1,l5,rch.len,hlt',eq_true c3,p1,q6];have lv1:(lv:Int)-1=((lv-1:Nat):Int):=oM;rw[lv1];apply aa (cr.1 (lv-1) hh oM F.wf ⟨z1,z2,z3,z4,z5,z6,trivial⟩);rintro _ h3 ⟨F3,rfl⟩;have le:=NT.rn_le kd tg2 ky2 at2 tx2 sub2 (lv-1);rw[e1,NT.rs_cons,if_neg oM]at P;simp(disch:=omega) only[evs,seval,ah,g6];refine rqn ⟨sub.len-(i+1),oM,F.then F3,i+1,c+NT.rn kd tg2 ky2 at2 tx2 sub2 (lv-1),iS,iS,iX,iX,oM,oM,by rw[e3];exact P,rfl⟩;simp only[evs,seval,g6,g5,g2,l5,rch.len,hlt',eq_false c3];rw[NT.rs_stop _ _ _ oM]at P;exact⟨F0,done P⟩;have hlt':¬(i:Int)<sub.len:=oM;simp only[evs,seval,g6,g5,g2,l5,rch.len,eq_false hlt'];rw[NT.at_end' _ _ oM]at P;exact⟨F0,done P⟩
theorem cns:∀t:NT,CNs t
 |.nil=>trivial
 |.cons _ _ _ _ _ _ _ sub nx=>⟨Dj (cns sub),cns nx⟩
open Classical in
noncomputable def NT.rC(k:Nat)(tg ky:Str)(at':List (Str×Str))(tx:Str)(sub:NT):Nat:=if 64<NT.rn k tg ky at' tx sub 6 then 0 else NT.rn k tg ky at' tx sub 6
theorem NT.rC_count{k:Nat}{at':List (Str×Str)}{sub:NT}(h:NT.rC k tg ky at' tx sub≠0):ST.count k tg ky at' tx sub.sh=NT.rC k tg ky at' tx sub:=by unfold NT.rC at h|-;split at h;exact absurd rfl h;rename_i q;rw[if_neg q];exact NT.rn_node _ _ _ _ _ _ oM
theorem wp{h:Heap}{k:Nat}{at':List (Str×Str)}{sub:NT}(w:WF h)(n:NH h (.cons k tg ky at' tx va vc sub .nil)):
 ao go 189 [.agg [ZY (k:Int),.str tg,.str ky,va,.str tx,vc]] h fun u h'=>Fr [] h h'/\u=ZZ (NT.rC k tg ky at' tx sub:Nat):=by
 let⟨K,e_h1,F_h1,o_h1⟩:=aq w [ZY (k:Int),.str tg,.str ky,va,.str tx,vc];have l6:aj K h.next 0 6=some [ZY (k:Int),.str tg,.str ky,va,.str tx,vc]:=by rw[o_h1.ld];rfl
 refine ag ?_;simp only[evs,seval,<-e_h1,l6];refine aa ((cns (.cons k tg ky at' tx va vc sub .nil)).1 6 K oM F_h1.wf (n.fr F_h1)) ?_;rintro _ h2 ⟨Z,rfl⟩;by_cases c2:(64:Int)<(NT.rn k tg ky at' tx sub 6:Nat);simp only[evs,seval,eq_true c2];exact⟨F_h1.then Z,by rw[NT.rC,if_pos oM];rfl⟩;simp only[evs,seval,eq_false c2];exact⟨F_h1.then Z,by rw[NT.rC,if_neg oM]⟩
theorem DP{h:Heap}{k:Nat}{at':List (Str×Str)}{sub:NT}(w:WF h)(n:NH h (.cons k tg ky at' tx va vc sub .nil)):
 ao go 188 [.agg [ZY (k:Int),.str tg,.str ky,va,.str tx,vc]] h fun u h'=>Fr [] h h'/\u=ZZ (if NT.rC k tg ky at' tx sub=0 then 14 else 0):=by
 let⟨h1,e_h1,F_h1,o_h1⟩:=aq w [ZY (k:Int),.str tg,.str ky,va,.str tx,vc];have K:aj h1 h.next 0 6=some [ZY (k:Int),.str tg,.str ky,va,.str tx,vc]:=by rw[o_h1.ld];rfl
 refine ag ?_;simp only[evs,seval,<-e_h1,K];refine aa (wp F_h1.wf (n.fr F_h1)) ?_;rintro _ h2 ⟨Z,rfl⟩;by_cases c2:(NT.rC k tg ky at' tx sub:Int)=0;simp only[evs,seval,eq_true c2];exact⟨F_h1.then Z,by rw[if_pos oM]⟩;simp only[evs,seval,eq_false c2];exact⟨F_h1.then Z,by rw[if_neg oM]⟩
theorem J4{s:NT}{at':List (Str×Str)}{m:ST}(e:s.sh=.cons 1 tg ky at' [] m .nil):∃va vc sub,s=.cons 1 tg ky at' [] va vc sub .nil/\sub.sh=m:=by
 match s,e with
 |.cons k tg2 ky2 a2 tx2 va vc sub nx,e=>
  simp only[NT.sh,ST.cons.injEq]at e;obtain⟨rfl,rfl,rfl,rfl,rfl,e6,Z⟩:=e;match nx,Z with
  |.nil,_=>exact⟨va,vc,sub,rfl,e6⟩
abbrev Z6':List V:=[ZY 0,.str [],.str [],.nils,.str [],.nils]
theorem Ag{h:Heap}{k:Nat}{sub:PT}{x:Itm}{K:Int}(w:WF h)(n:PH h (.cons k tg ky sl tx va vc sub .nil))(g:PG (.cons k tg ky sl tx va vc sub .nil))(a:ItmH h x):
 ao go 115 [.agg [ZY (k:Int),.str tg,.str ky,va,.str tx,vc],.agg x.cells,ZZ K] h fun u h'=>Fr [] h h'/\∃cs e,u=.tup [.agg cs,ZZ e]/\au cs=true/\cs.length=6/\0<=e/\
  (e=0->k=1/\1<=K/\K<=64/\iH x=true/\ST.count 1 tg ky (sl.map (att x)) [] (cE x sub)≠0/\(ST.count 1 tg ky (sl.map (att x)) [] (cE x sub):Int)<=K):=by
 let⟨h1,e_h1,F_h1,o_h1⟩:=aq w [ZY (k:Int),.str tg,.str ky,va,.str tx,vc];let⟨h2,e_h2,F_h2,o_h2⟩:=aq F_h1.wf x.cells;let⟨h3,e_h3,F_h3,o_h3⟩:=aq F_h2.wf [ZY 0,.str [],.str [],.nils,.str [],.nils];have Z:=(F_h1.then F_h2).then F_h3;have n1:=hnx e_h1;have n2:=hnx e_h2;have n3:=hnx e_h3;have op:=F_h3.get (F_h2.get o_h1);have oi:=F_h3.get o_h2;have p6:∀{h'},Fr [] h3 h'->aj h' h.next 0 6=some [ZY (k:Int),.str tg,.str ky,va,.str tx,vc]:=fun f=>by rw[(f.get op).ld];rfl
 have i4:∀{h'},Fr [] h3 h'->aj h' h1.next 0 4=some x.cells:=fun f=>by rw[(f.get oi).ld];rfl
 have z6:∀{h'},Own h' h2.next Z6'->aj h' h2.next 0 6=some Z6':=fun o=>by rw[o.ld];rfl
 by_cases c1:K<1;refine ag ?_;simp only[evs,seval,<-e_h1,<-e_h2,<-e_h3,eq_true c1];refine stu Z.wf o_h3 ?_;rintro h4 o4 F4 n4;simp only[evs,seval,z6 o4];exact⟨Z.fresh F4 w oM,_,1,rfl,rfl,rfl,oM,fun e=>by cases e⟩;by_cases c2:(64:Int)<K;refine ag ?_;simp only[evs,seval,<-e_h1,<-e_h2,<-e_h3,eq_false c1,eq_true c2];refine stu Z.wf o_h3 ?_;rintro h4 o4 F4 n4;simp only[evs,seval,z6 o4];exact⟨Z.fresh F4 w oM,_,1,rfl,rfl,rfl,oM,fun e=>by cases e⟩;refine ag ?_;simp only[evs,seval,<-e_h1,<-e_h2,<-e_h3,eq_false c1,eq_false c2,p6 (Sn Z.wf)];refine aa (wt Z.wf (n.fr Z)) ?_;rintro _ h4 ⟨rfl,F4⟩;by_cases c3:PT.rC k tg ky sl tx sub=0;rw[if_pos c3];simp only[evs,seval,p6 F4];apply aa (wt F4.wf (n.fr (Z.then F4)));rintro _ h5 ⟨rfl,F5⟩;rw[if_pos c3];simp only[evs,seval];apply stu F5.wf ((F4.then F5).get o_h3);rintro h6 o6 F6 n6;simp only[evs,seval,z6 o6];exact⟨((Z.then F4).then F5).fresh F6 w oM,_,14,rfl,rfl,rfl,oM,fun e=>by cases e⟩;rw[if_neg c3];have k1:k=1:=by unfold PT.rC at c3;split at c3;exact absurd rfl c3;omega
 simp only[evs,seval,i4 F4];apply aa (qr F4.wf (a.fr (Z.then F4)));rintro _ h5 ⟨rfl,F5⟩;have ac:=F4.then F5;cases c4:iH x;simp only[evs,seval,i4 ac];apply aa (qr F5.wf (a.fr (Z.then ac)));rintro _ h6 ⟨rfl,F6⟩;rw[c4];simp only[evs,seval];apply stu F6.wf ((ac.then F6).get o_h3);rintro h7 o7 F7 n7;simp only[evs,seval,z6 o7];exact⟨(Z.then (ac.then F6)).fresh F7 w oM,_,6,rfl,rfl,rfl,oM,fun e=>by cases e⟩;have hm:x.marks.length<=8:=by simp only[iH,okM,RU,decide_eq_true_eq]at c4;exact c4.2.2.1
 simp only[evs,seval,p6 ac,i4 ac];apply aa ((Ka (.cons k tg ky sl tx va vc sub .nil)).1 x h5 F5.wf (a.fr (Z.then ac)) hm (n.fr (Z.then ac)) g);rintro u h6 ⟨s,es,F6,a8,sz,st⟩;subst k1;obtain⟨vA,vC,ak,rfl,em⟩:=J4 es;have aH:=ac.then F6;let⟨nh0,sl0⟩:=st [] h6 iS (Sn F6.wf);let⟨bi,a2,p1,p2⟩:=Sl.ix6 sl0 (i:=0) (Ty Nat.zero_lt_one (Si rfl)) (r:=[]) rfl;let⟨q0,q1,q2,q3,q4,q5,q6⟩:=p2;have a4:aP (.ixs 6) [u,ZZ 0]=some (.ptr bi a2):=p1;have on:au [ZY ((1:Nat):Int),.str tg,.str ky,vA,.str [],vC]=true:=by have:=NH.ones nh0;simpa[NT.cells]using this
 have n6:=F6.next;have a7:=aH.next;let⟨h7,e_h7,F_h7,o_h7⟩:=aq F6.wf [ZY 0,.str [],.str [],.nils,.str [],.nils];simp only[evs,seval,a4,q6,<-e_h7];refine ai (c':=[ZY ((1:Nat):Int),.str tg,.str ky,vA,.str [],vC]) F_h7.wf o_h7 rfl on rfl ?_;rintro h8 o8 F8 n8;have ax:Fr [] h6 h8:=F_h7.fresh F8 F6.wf (RW _);have af:=aH.then ax;have c8:∀{h'},Fr [] h8 h'->aj h' h6.next 0 6=some [ZY ((1:Nat):Int),.str tg,.str ky,vA,.str [],vC]:=fun f=>by rw[(f.get o8).ld];rfl
 have ay:∀{h'},Fr [] h8 h'->NH h' (.cons 1 tg ky (sl.map (att x)) [] vA vC ak .nil):=fun f=>(st [] _ iS (ax.then f)).1;simp only[evs,seval,c8 (Sn F8.wf)];apply aa (DP F8.wf (ay (Sn F8.wf)));rintro _ h9 ⟨F9,rfl⟩;by_cases c5:NT.rC 1 tg ky (sl.map (att x)) [] ak=0;rw[if_pos c5];simp only[evs,seval,(dI:¬(14:Int)=0)];apply stu F9.wf ((af.then F9).get o_h3);rintro a1 a0 ae a6;simp only[evs,seval,z6 a0];exact⟨(Z.then (af.then F9)).fresh ae w oM,_,14,rfl,rfl,rfl,oM,fun e=>by cases e⟩;rw[if_neg c5];simp only[evs,seval,c8 F9];apply aa (wp F9.wf (ay F9));rintro _ a1 ⟨ae,rfl⟩;have cnt:=NT.rC_count c5;rw[em]at cnt;by_cases c6:K<(NT.rC 1 tg ky (sl.map (att x)) [] ak:Nat);simp only[evs,seval,eq_true c6];apply ai (c':=Z6') ae.wf (((af.then F9).then ae).get o_h3) rfl rfl rfl;rintro az ar an a3;simp only[evs,seval,z6 ar];exact⟨(Z.then ((af.then F9).then ae)).fresh an w oM,_,14,rfl,rfl,rfl,oM,fun e=>by cases e⟩;simp only[evs,seval,eq_false c6,c8 (F9.then ae)];refine ai (c':=[ZY ((1:Nat):Int),.str tg,.str ky,vA,.str [],vC]) ae.wf (((af.then F9).then ae).get o_h3) rfl on rfl ?_;rintro az ar an a3;have a5:aj az h2.next 0 6=some [ZY ((1:Nat):Int),.str tg,.str ky,vA,.str [],vC]:=by rw[ar.ld];rfl
 simp only[evs,seval,a5];exact⟨(Z.then ((af.then F9).then ae)).fresh an w oM,_,0,rfl,on,rfl,oM,fun _=>⟨oM,oM,by rw[cnt];exact c5,by rw[cnt];omega⟩⟩
theorem uX{h:Heap}{b o n m:Nat}(e:aj h b o (n+m)=some cs):aj h b o n=some (cs.take n):=by
 simp only[aj]at e|-;cases K:dN h b with
 |none=>rw[K]at e;cases e
 |some C=>
  rw[K]at e;simp only[bM]at e|-;have tk:∀(n:Nat)(l:List V),l.length<n->dA n l=none:=by
   intro n;induction n with
   |zero=>intro l Z;omega
   |succ n ih=>
    intro l Z;cases l with
    |nil=>rfl
    |cons a l=>rw[fF,ih l (eV Z)];rfl
  have Z:n+m<=(C.drop o).length:=by grind
  rw[bK _ _ Z]at e;rw[bK _ _ oM];have e':=TW e;rw[<-e',TQ,TM oM]
def GK(Ks:List Knd):Prop:=∀q∈Ks,okK q=true/\PG (.cons q.k q.tg q.ky q.sl q.tx q.vs q.vp q.sub .nil)/\1<=q.base/\q.base<=40
theorem E6{h:Heap}{x:Itm}(w:WF h)(rk:Recs Knd.cells 9 h vK Ks)(kh:∀q∈Ks,KndH h q)(gk:GK Ks)(hK:Ks.length<256)(a:ItmH h x):
 ao go 58 [.agg [vK,ZZ cap],.agg x.cells,ZZ 0] h fun u h'=>Fr [] h h'/\∃e:Int,u=ZZ e/\0<=e/\(e=0->okI x Ks.length=true/\bO Ks cap x=0):=by
 have v1:vK.one=true:=TI rk;let⟨h1,e_h1,F_h1,o_h1⟩:=aq w [vK,ZZ cap];let⟨h2,e_h2,F_h2,o_h2⟩:=aq F_h1.wf x.cells;have n1:=hnx e_h1;have K:=F_h1.then F_h2;have oc:=F_h2.get o_h1;have c0:∀{h'},Fr [] h2 h'->ab h' h.next 0=some vK:=fun f=>(f.get oc).ld1 0;have c1:∀{h'},Fr [] h2 h'->ab h' h.next 1=some (ZZ cap):=fun f=>(f.get oc).ld1 1;have i1:∀{h'},Fr [] h2 h'->ab h' h1.next 1=some (ZY (x.type:Int)):=fun f=>(f.get o_h2).ld1 1;have i4:∀{h'},Fr [] h2 h'->aj h' h1.next 0 4=some x.cells:=fun f=>by rw[(f.get o_h2).ld];rfl
 have r0:Fr [] h2 h2:=Sn K.wf;refine ag ?_;simp only[evs,seval,<-e_h1,<-e_h2,i4 r0,c0 r0,(TK rk K).len];refine aa (Dn K.wf (a.fr K) hK) ?_;rintro _ h3 ⟨rfl,F3⟩;cases d1:okI x Ks.length;simp only[evs,seval];exact⟨K.then F3,6,rfl,oM,fun e=>by cases e⟩;have ht:x.type<Ks.length:=by simp only[okI,RU,decide_eq_true_eq]at d1;exact d1.2.1
 simp only[evs,seval];apply tJ [⟨none,.p (.faddr 0) [.v 3],none⟩,⟨none,.ld 1 false (.l 0),none⟩,⟨none,.p (.faddr 1) [.v 4],none⟩,⟨none,.ld 1 false (.l 0),none⟩,⟨none,.p (.ixs 9) [.l 2,.l 0],none⟩,⟨none,.p (.faddr 0) [.l 0],none⟩,⟨none,.ld 6 true (.l 0),none⟩,⟨none,.ld 4 true (.v 4),none⟩,⟨none,.p (.faddr 1) [.v 3],none⟩,⟨none,.ld 1 false (.l 0),none⟩,⟨none,.cf 115 [.l 3,.l 2,.l 0],none⟩,⟨none,.p .mv [.l 0],none⟩,⟨none,.p (.ext 0) [.l 0],none⟩,⟨none,.p (.ext 1) [.l 1],none⟩] _ rfl;have F4:=SO F3.wf [ZY 0,.str [],.str [],.nils,.str [],.nils];have o4:=Ts F3.wf [ZY 0,.str [],.str [],.nils,.str [],.nils];have n4:(halloc h3 [ZY 0,.str [],.str [],.nils,.str [],.nils]).next=h3.next+1:=rfl;generalize halloc h3 [ZY 0,.str [],.str [],.nils,.str [],.nils]=h4 at F4 o4 n4|-;have Z:=F3.then F4;have ac:=K.then Z;let⟨bk,ok',q,p1,p2,p3,p4⟩:=Vi eM (TK rk ac) .u8 (x.type:Int) oM oM;rw[RX]at p4;have qm:=RZ p4;let⟨okq,pgq,_⟩:=gk q qm;have p6:aj h4 bk ok' 6=some q.part:=uX (m:=3) p3;simp only[evs,seval,eff,c0 Z,c1 Z,i1 Z,i4 Z,p1,p6];apply aa (Ag F4.wf ((kh q qm).fr ac) pgq (a.fr ac));rintro _ h5 ⟨F5,cs,e,rfl,on,cl,e0,he⟩;have an:=Z.then F5;let⟨bk',ok'',q',ae,p2',p3',af⟩:=Vi eM (TK rk (ac.then F5)) .u8 (x.type:Int) oM oM;rw[RX,p4]at af;cases af;rw[p1]at ae;cases ae;have ar:aj h5 bk ok' 6=some q.part:=uX (m:=3) p3';simp only[evs,eff,cK,jD];refine ai (c':=cs) F5.wf (F5.get o4) cl on (by
  rw[bQ _ _ _ (by show 0+cs.length<=6;omega)];simp[V.cells];omega) ?_
 rintro h6 o6 F6 n6;have n3:=F3.next;have ax:=K.next;have n5:=F5.next;simp only[evs,seval,DF,eff,c0 Z,c1 Z,i1 Z,i4 Z,p6];have ak:Fr [] h h6:=((K.then F3).then (F4.then F5)).fresh F6 w oM;by_cases d2:(0:Int)<e;grind;simp only[seval,eq_false d2];refine⟨ak,0,rfl,oM,fun _=>?_⟩;let⟨y1,y2,y3,y4,y5,y6⟩:=he oM;have er:bO Ks cap x=fu q.k q.tg q.ky q.sl q.tx q.sub x cap:=by simp[bO,p4]
 simp only[okK,RU,decide_eq_true_eq]at okq;rw[er];unfold fu;rw[if_neg oM,if_neg okq.2,y4,if_neg dI,if_neg (by intro z;obtain z|z:=z;exact y5 z;omega)]
def Itm.ent(x:Itm)(b:Int)(k:Bool):List V:=x.cells++[ZZ b,.bool k]
theorem Db{h:Heap}{x:Itm}(w:WF h)(rk:Recs Knd.cells 9 h vK Ks)(a:ItmH h x)(ht:x.type<Ks.length):
 ao go 59 [.agg [vK,ZZ cap],.agg x.cells] h fun u h'=>u=.agg (x.ent (aF Ks x) false)/\Fr [] h h':=by
 have v1:vK.one=true:=TI rk;let⟨h1,e_h1,F_h1,o_h1⟩:=aq w [vK,ZZ cap];let⟨h2,e_h2,F_h2,o_h2⟩:=aq F_h1.wf x.cells;let⟨K,e_h3,F_h3,o_h3⟩:=aq F_h2.wf [ZX 0,ZY 0,.str [],.nils,ZZ 0,.bool false];have n1:=hnx e_h1;have n2:=hnx e_h2;have ac:=F_h3;have Z:=F_h1.then (F_h2.then F_h3);have c0:ab K h.next 0=some vK:=(F_h3.get (F_h2.get o_h1)).ld1 0;have i1:ab K h1.next 1=some (ZY (x.type:Int)):=(F_h3.get o_h2).ld1 1;have i4:aj K h1.next 0 4=some x.cells:=by rw[(F_h3.get o_h2).ld];rfl
 let⟨bk,ok',q,p1,p2,p3,p4⟩:=Vi eM (TK rk Z) .u8 (x.type:Int) oM oM;rw[RX]at p4;have p6:ab K bk (ok'+6)=some (ZZ q.base):=p2 6 oM;have eb:aF Ks x=q.base:=by simp[aF,p4]
 have u1:bu [ZX 0,ZY 0,.str [],.nils,ZZ 0,.bool false] 0 x.cells=some (x.cells++[ZZ 0,.bool false]):=rfl;have u2:∀b:Int,bu (x.cells++[ZZ 0,.bool false]) 4 [ZZ b]=some (x.ent b false):=fun _=>rfl;refine ag ?_;simp only[evs,seval,eff,(iR:x.cells.length=4),u1,u2,<-e_h1,<-e_h2,<-e_h3,i4,c0,i1,p1,p6];refine ai (c':=x.ent q.base false) F_h3.wf o_h3 rfl (by show au (x.cells++[ZZ q.base,.bool false])=true;rw[aL,a.one];rfl) rfl ?_;rintro h4 o4 F4 n4;have ld:aj h4 h2.next 0 6=some (x.ent q.base false):=by rw[o4.ld];rfl
 simp only[evs,seval,DF,ld,i4,c0,i1,p6];exact⟨by rw[eb],Z.fresh F4 w oM⟩
end Go.Ev.Lay
