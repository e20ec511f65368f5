/- An evaluator of the program, and contracts over it: StbC to StbR. -/
import Derived.Test.YtknldhlnhobdhaaGreatDoorP10
set_option linter.unusedSimpArgs false
set_option linter.unusedVariables false
set_option linter.constructorNameAsVariable false
set_option linter.unnecessarySimpa false
set_option maxRecDepth 4000
noncomputable section
namespace Go.Ev.Lay
variable{env:T V}{R:V->a_->Prop}{tg tx:g_}{sl:List Q3}{va vc vK:V}{cs:List V}{h' h1:a_}{Ks:List p_}{cap:Int}{pb ib:Nat}
open Go.Ev.St
theorem Hy(a b:Bool):kQ a*kQ b=kQ (a&&b):=by cases a<;>cases b<;>rfl
theorem jt{h:a_}{x:m_}{b0:Bool}{bb:Nat}(w:WF h)(o:e_ h bb x.s)(a:u_ h x)(g2:env.c_ 2=some (.u bb 0))(K:env.c_ 5=some (ZZ (kQ b0)))
 (k:∀h',h=h'->R (ZZ (if(b0&&x.C.all G_)then 0 else 6)) h'):
 W go ckR env h (i9 [.t 4] R):=by
 have l3:ab h bb 3=some x.vm:=o.j 3;have am:=a.m;have an:=a.n;simp[b_,ckR];refine aA (fun k env hh=>hh=h/\∃(i:Nat)(c:Bool),env.c_ 6=some (ZZ i)/\env.c_ 2=some (.u bb 0)/\env.c_ 5=some (ZZ (kQ c))/\i<=x.C.length/\(c&&(x.C.drop i).all G_)=(b0&&x.C.all G_)/\k=x.C.length-i) x.C.length oM ?_ ?_;exact⟨rfl,0,b0,iS,iX,iX,oM,rfl,rfl⟩;rintro k' env hh ⟨rfl,i,c,g6,g2,K,hi,e,rfl⟩;by_cases ac:i<x.C.length;have Z:(i:Int)<x.C.length:=oM;let⟨b,o,s,e1,e2,_,e5⟩:=am.ix fW .i64 i oM Z;have e4:ab hh b o=some (.f s):=e2 0 oM;rw[pi]at e5;rw[aL e5,Yb]at e;simp only[b_,seval,g6,g2,K,l3,am.t_,Z,e1,e4];apply aa HB;rintro _ _ ⟨rfl,rfl⟩;have m1:bP .i64 (kQ c*kQ (G_ s))=kQ (c&&G_ s):=by rw[Hy,ag _ (by unfold kQ;split<;>omega) (by unfold kQ;split<;>omega)]
 simp(disch:=omega) only[b_,seval,ag,g6,m1];refine s_ ⟨x.C.length-(i+1),oM,rfl,i+1,c&&G_ s,iS,iX,iS,oM,by rw[<-e,Bool.and_assoc],rfl⟩;rw[Wo oM]at e;have e':c=(b0&&x.C.all G_):=by rw[<-e];simp
 cases c;simp[b_,g6,g2,K,l3,am.t_,(oM:¬(i:Int)<x.C.length),kQ];rw[<-e']at k;exact k _ rfl;simp[b_,g6,g2,K,l3,am.t_,(oM:¬(i:Int)<x.C.length),kQ];rw[<-e']at k;exact k _ rfl
theorem E5{h:a_}{x:m_}{Z:Nat}(w:WF h)(a:u_ h x)(ht:Z<256):ao go 80 [.B x.s,ZZ (Z:Int)] h fun u h'=>u=ZZ (if Q2 x Z then 0 else 6)/\Fr [] h h':=by
 let⟨h1,ae,ac,K⟩:=aq w x.s;have l0:ab h1 h.e 0=some (ZX (x.J:Int)):=K.j 0;have l1:ab h1 h.e 1=some (ZY (x.K:Int)):=K.j 1;have l2:ab h1 h.e 2=some (.f x.X):=K.j 2;have l3:ab h1 h.e 3=some x.vm:=K.j 3;have a1:=a.fr ac;have at':=a.t;have bad:Q2 x Z=false->∀h',h1=h'->(ZZ (if(false&&x.C.all G_)then 0 else 6)=ZZ (if Q2 x Z then 0 else 6)/\Fr [] h h'):=by grind
 have cv:bP .i64 (x.K:Int)=(x.K:Int):=ag _ oM oM;by_cases c0:(x.J:Int)=0;refine ah ?_;simp[b_,<-ae,l2];refine aa lV ?_;rintro _ _ ⟨rfl,rfl⟩;simp only[b_,seval,l0,eq_true c0];exact jt (b0:=false) ac.o K a1 iS (by simp[kQ]) (bad (by simp[Q2,(oM:x.J=0)]));by_cases c1:(Z:Int)<=(x.K:Int);refine ah ?_;simp[b_,<-ae,l2];refine aa lV ?_;rintro _ _ ⟨rfl,rfl⟩;simp only[b_,seval,l0,l1,eq_false c0,cv,eq_true c1];exact jt (b0:=false) ac.o K a1 iS (by simp[kQ]) (bad (by simp[Q2,(oM:¬x.K<Z)]));by_cases c2:(8:Int)<(x.C.length:Nat);refine ah ?_;simp[b_,<-ae,l2];refine aa lV ?_;rintro _ _ ⟨rfl,rfl⟩;simp only[b_,seval,l0,l1,l3,a1.m.t_,eq_false c0,cv,eq_false c1,eq_true c2];exact jt (b0:=false) ac.o K a1 iS (by simp[kQ]) (bad (by simp[Q2,x?,(oM:¬x.C.length<=8)]));refine ah ?_;simp[b_,<-ae,l2];refine aa lV ?_;rintro _ _ ⟨rfl,rfl⟩;simp only[b_,seval,l0,l1,l3,a1.m.t_,eq_false c0,cv,eq_false c1,eq_false c2];apply jt (b0:=P8 x.X) ac.o K a1 iS iS;rintro _ rfl;have:(P8 x.X&&x.C.all G_)=Q2 x Z:=by simp[Q2,x?,(oM:x.J≠0),(oM:x.K<Z),(oM:x.C.length<=8)]
 rw[this];exact⟨rfl,ac⟩
theorem zJ:∀(a b:g_),(!Op.bytesLess b a)=r? a b
 |[],[]=>by simp[r?,Op.bytesLess]
 |[],y::b=>by simp[r?,Op.bytesLess]
 |x::a,[]=>by simp[r?,Op.bytesLess]
 |x::a,y::b=>by have ih:=zJ a b;simp only[r?,Op.bytesLess]at ih⊢;have d1:decide (x<y)=decide (x.toNat<y.toNat):=rfl;have d2:decide (y<x)=decide (y.toNat<x.toNat):=rfl;rw[d1,d2];have e0:(x::a==y::b)=(x==y&&a==b):=rfl;rw[e0];obtain q|q|q:=Nat.lt_trichotomy x.toNat y.toNat;grind;grind;grind
theorem mQ(a b:g_):aP (.B .geq) [.f a,.f b]=some (.h (r? b a)):=by rw[<-zJ];rfl
theorem qi{h:a_}{v:V}{l:List Q3}(w:WF h)(ra:q_ sW 3 h v l)(na:l.length<=4096):ao go 308 [v] h fun u h'=>u=.h (cJ l)/\Fr [] h h':=by
 by_cases c8:l.length<=8;refine ah ?_;simp[b_,ra.t_,(oM:¬(8:Int)<(l.length:Nat))];refine aA (fun n env hh=>Fr [] h hh/\∃(i:Nat),env.c_ 3=some (ZZ i)/\env.c_ 0=some v/\
  i<=l.length/\eW (dH l i) (l.drop i)=eW none l/\n=l.length-i) l.length oM ?_ ?_
 exact⟨Wl w,0,iS,iS,oM,rfl,rfl⟩;rintro n env hh ⟨F,i,g3,g0,hi,e,rfl⟩;by_cases aH:i<l.length;have af:(i:Int)<l.length:=oM;let⟨b',o',a,p1,p2,p3,p4⟩:=(ra.fr F).ix gu .i64 (i:Int) oM af;rw[pi]at p4;rw[aL p4,kL]at e;have en:=tA p4;have bad:∀{h'},Fr [] h h'->iW (dH l i) a=false->V.h false=.h (cJ l)/\Fr [] h h':=fun f c=>by rw[c]at e;exact⟨by simp[cJ,<-e],f⟩
 have rl:=(ra.fr F).t_;let⟨h1,ax,ak,ay⟩:=aq F.o [.f [],ZY 0,.f []];simp[b_,g3,g0,rl,af,p1,p3,<-ax];refine B_ ak.o ay ?_;rintro h2 o2 F2 n2;have az:Fr [] hh h2:=ak.z F2 F.o (VZ _);have Z:=F.c az;have K:ab h2 hh.e 0=some (.f a.1):=o2.j 0;have q1:ab h2 hh.e 1=some (ZY (a.2.1:Int)):=o2.j 1;have q2:ab h2 hh.e 2=some (.f a.2.2):=o2.j 2;simp[b_,j_,K];refine aa fG ?_;rintro _ _ ⟨rfl,rfl⟩;cases c1:G_ a.1;simp only[b_,seval,DF,j_,K];exact bad Z (by simp[iW,c1]);by_cases c2:(3:Int)<(a.2.1:Nat);simp only[b_,seval,DF,j_,K,q1,eq_true c2];exact bad Z (by simp[iW];omega);simp[b_,j_,q1,eq_false c2,q2];refine aa kK ?_;rintro _ _ ⟨rfl,rfl⟩;cases c3:P8 a.2.2;simp only[b_,seval,DF,j_,K,q1,q2];exact bad Z (by simp[iW,c3]);have fin:(decide (a.2.1=0)||a.2.2==[])=true->cP (dH l i) a.1=true->eW (dH l (i+1)) (l.drop (i+1))=eW none l:=fun x y=>by
  have z:iW (dH l i) a=true:=by unfold iW;rw[c1,c3,x,y,(oO:decide (a.2.1<=3)=true)];rfl
  rw[z,Zz]at e;rw[en];exact e
 have step:(decide (a.2.1=0)||a.2.2==[])=false->iW (dH l i) a=false:=fun x=>by unfold iW;rw[x];simp
 have ae:(decide ((a.2.1:Int)=0)=true\/(a.2.2==[])=true)->(decide (a.2.1=0)||a.2.2==[])=true:=by grind
 by_cases cf:(a.2.1:Int)=0;by_cases c4:i=0;simp(disch:=omega) only[b_,seval,DF,j_,ag,g3,K,q1,q2,eq_true cf,(oM:¬(0:Int)<(i:Int))];refine s_ ⟨l.length-(i+1),oM,Z,i+1,iS,iX,oM,fin (ae (.inl (decide_eq_true cf))) (by simp[dH,c4,cP]),rfl⟩;let⟨b2,an,a2,t1,t2,t3,t4⟩:=(ra.fr Z).ix gu .i64 ((i:Int)-1) oM oM;have ar:l[i-1]? =some a2:=by rw[<-t4];congr 1;omega
 have ac:ab h2 b2 an=some (.f a2.1):=t2 0 oM;have pe:dH l i=some a2.1:=by simp[dH,c4,ar]
 cases c5:r? a.1 a2.1;simp(disch:=omega) only[b_,seval,DF,j_,ag,g3,g0,K,q1,q2,eq_true cf,c5,t1,ac,mQ,(oM:(0:Int)<(i:Int))];refine s_ ⟨l.length-(i+1),oM,Z,i+1,iS,iX,oM,fin (ae (.inl (decide_eq_true cf))) (by rw[pe];simp[cP,c5]),rfl⟩;simp(disch:=omega) only[b_,seval,DF,j_,ag,g3,g0,K,q1,q2,eq_true cf,c5,t1,ac,mQ,(oM:(0:Int)<(i:Int))];exact bad Z (by simp[iW,pe,cP,c5]);have aJ:¬a.2.1=0:=oM;cases cv:a.2.2==[];simp only[b_,seval,DF,j_,K,q1,q2,eq_false cf,bD,cv];exact bad Z (step iX);by_cases c4:i=0;simp(disch:=omega) only[b_,seval,DF,j_,ag,g3,K,q1,q2,eq_false cf,bD,cv,(oM:¬(0:Int)<(i:Int))];refine s_ ⟨l.length-(i+1),oM,Z,i+1,iS,iX,oM,fin (ae (.inr cv)) (by simp[dH,c4,cP]),rfl⟩;let⟨b2,an,a2,t1,t2,t3,t4⟩:=(ra.fr Z).ix gu .i64 ((i:Int)-1) oM oM;have ar:l[i-1]? =some a2:=by rw[<-t4];congr 1;omega
 have ac:ab h2 b2 an=some (.f a2.1):=t2 0 oM;have pe:dH l i=some a2.1:=by simp[dH,c4,ar]
 cases c5:r? a.1 a2.1;simp(disch:=omega) only[b_,seval,DF,j_,ag,g3,g0,K,q1,q2,eq_false cf,bD,cv,c5,t1,ac,mQ,(oM:(0:Int)<(i:Int))];refine s_ ⟨l.length-(i+1),oM,Z,i+1,iS,iX,oM,fin (ae (.inr cv)) (by rw[pe];simp[cP,c5]),rfl⟩;simp(disch:=omega) only[b_,seval,DF,j_,ag,g3,g0,K,q1,q2,eq_false cf,bD,cv,c5,t1,ac,mQ,(oM:(0:Int)<(i:Int))];exact bad Z (by simp[iW,pe,cP,c5]);simp only[b_,seval,g3,g0,(ra.fr F).t_,(oM:¬(i:Int)<l.length)];rw[Wo oM]at e;exact⟨by simp[cJ,c8,<-e,eW],F⟩;refine ah ?_;simp only[b_,seval,ra.t_,(oM:(8:Int)<(l.length:Nat))];exact⟨by simp[cJ,c8],Wl w⟩
theorem HK(n m:Nat):decide ((n:Int)<=(m:Int))=decide (n<=m):=by rw[decide_eq_decide];omega
theorem yj(a b:Nat):decide ((a:Int)+(b:Int)=0)=decide (a+b=0):=by rw[decide_eq_decide];omega
theorem J2{h:a_}{k:Nat}{ky:g_}{sub:PT}(w:WF h)(n:PH h (.o_ k tg ky sl tx va vc sub .w_)):
 ao go 287 [.B [ZY (k:Int),.f tg,.f ky,va,.f tx,vc]] h fun u h'=>u=.h (dX k tg ky sl tx sub.t_)/\Fr [] h h':=by
 let⟨n1,ra,na,rc,nc,n6,_⟩:=n;let⟨h1,ae,Z,K⟩:=aq w [ZY (k:Int),.f tg,.f ky,va,.f tx,vc];have l0:ab h1 h.e 0=some (ZY (k:Int)):=K.j 0;have l1:ab h1 h.e 1=some (.f tg):=K.j 1;have l2:ab h1 h.e 2=some (.f ky):=K.j 2;have l3:ab h1 h.e 3=some va:=K.j 3;have l4:ab h1 h.e 4=some (.f tx):=K.j 4;have l5:ab h1 h.e 5=some vc:=K.j 5;have la:=(ra.fr Z).t_;have lc:=(rc.fr Z).t_;by_cases k1:k=1
 ·have q1:(k:Int)=1:=oM
  have ac:dX k tg ky sl tx sub.t_=(G_ tg&&((ky==[]||G_ ky)&&(cJ sl&&(tx==[]&&decide (sub.t_<=16))))):=by
   unfold dX;rw[if_pos k1];cases G_ tg<;>cases(ky==[]||G_ ky)<;>cases cJ sl<;>cases(tx==[])<;>cases decide (sub.t_<=16)<;>rfl
  rw[ac];refine ah ?_;simp only[b_,seval,<-ae,l0,l1,eq_true q1];refine aa fG ?_;rintro _ _ ⟨rfl,rfl⟩;cases c1:G_ tg
  ·simp only[b_,seval];exact⟨rfl,Z⟩
  cases c2:ky==[]
  ·simp only[b_,seval,l2,aS,c2];apply aa fG;rintro _ _ ⟨rfl,rfl⟩;cases c3:G_ ky
   ·simp only[b_,seval];exact⟨rfl,Z⟩
   simp only[b_,seval,l3];refine aa (qi Z.o (ra.fr Z) na) ?_;rintro _ h2 ⟨rfl,F2⟩;have m4:ab h2 h.e 4=some (.f tx):=(F2.i K).j 4;have m5:ab h2 h.e 5=some vc:=(F2.i K).j 5;have af:=(rc.fr (Z.c F2)).t_;cases c4:cJ sl
   ·simp only[b_,seval];exact⟨rfl,Z.c F2⟩
   cases c5:tx==[]
   ·simp only[b_,seval,m4,aS,c5];exact⟨rfl,Z.c F2⟩
   simp only[b_,seval,m4,m5,aS,c5,af];exact⟨by simp[<-HK],Z.c F2⟩
  ·simp only[b_,seval,l2,l3,aS,c2];refine aa (qi Z.o (ra.fr Z) na) ?_;rintro _ h2 ⟨rfl,F2⟩;have m4:ab h2 h.e 4=some (.f tx):=(F2.i K).j 4;have m5:ab h2 h.e 5=some vc:=(F2.i K).j 5;have af:=(rc.fr (Z.c F2)).t_;cases c4:cJ sl
   ·simp only[b_,seval];exact⟨rfl,Z.c F2⟩
   cases c5:tx==[]
   ·simp only[b_,seval,m4,aS,c5];exact⟨rfl,Z.c F2⟩
   simp only[b_,seval,m4,m5,aS,c5,af];exact⟨by simp[<-HK],Z.c F2⟩
 have q1:¬(k:Int)=1:=oM
 by_cases k2:k=2
 ·have q2:(k:Int)=2:=oM
  have ac:dX k tg ky sl tx sub.t_=(P8 tx&&(tg==[]&&(ky==[]&&decide (sl.length+sub.t_=0)))):=by
   unfold dX;rw[if_neg k1,if_neg oM,if_pos k2];have:decide (sl.length+sub.t_=0)=(decide (sl.length=0)&&decide (sub.t_=0)):=by rw[<-Bool.decide_and,decide_eq_decide];omega
   rw[this]
  rw[ac];refine ah ?_;simp only[b_,seval,<-ae,l0,eq_false q1,eq_true q2,l4];refine aa kK ?_;rintro _ _ ⟨rfl,rfl⟩;cases c1:P8 tx
  ·simp only[b_,seval];exact⟨rfl,Z⟩
  cases c2:tg==[]
  ·simp only[b_,seval,l1,aS,c2];exact⟨rfl,Z⟩
  cases c3:ky==[]
  ·simp only[b_,seval,l1,l2,aS,c2,c3];exact⟨rfl,Z⟩
  simp(disch:=omega) only[b_,seval,ag,l1,l2,l3,l5,aS,c2,c3,la,lc];exact⟨by rw[yj];rfl,Z⟩
 have q2:¬(k:Int)=2:=oM
 by_cases ak:k=3\/k=4
 ·have ac:dX k tg ky sl tx sub.t_=(tx==[]&&(tg==[]&&(ky==[]&&decide (sl.length+sub.t_=0)))):=by
   unfold dX;rw[if_neg k1,if_neg oM,if_neg k2,if_pos ak];have:decide (sl.length+sub.t_=0)=(decide (sl.length=0)&&decide (sub.t_=0)):=by rw[<-Bool.decide_and,decide_eq_decide];omega
   rw[this];cases(tg==[])<;>cases(ky==[])<;>cases(tx==[])<;>rfl
  rw[ac];by_cases q:(k:Int)=3
  ·cases c1:tx==[]<;>cases c2:tg==[]<;>cases c3:ky==[];all_goals
    refine ah ?_;simp(disch:=omega) only[b_,seval,ag,<-ae,l0,l1,l2,l3,l4,l5,eq_false q1,eq_false q2,eq_true q,aS,c1,c2,c3,la,lc];exact⟨by first|rfl|(rw[yj];rfl),Z⟩
  ·have q':(k:Int)=4:=oM
   cases c1:tx==[]<;>cases c2:tg==[]<;>cases c3:ky==[];all_goals
    refine ah ?_;simp(disch:=omega) only[b_,seval,ag,<-ae,l0,l1,l2,l3,l4,l5,eq_false q1,eq_false q2,eq_false q,eq_true q',aS,c1,c2,c3,la,lc];exact⟨by first|rfl|(rw[yj];rfl),Z⟩
 have q3:¬(k:Int)=3:=oM
 have q4:¬(k:Int)=4:=oM
 by_cases k5:k=5
 ·have q5:(k:Int)=5:=oM
  have ac:dX k tg ky sl tx sub.t_=(G_ tg&&(cJ sl&&(ky==[]&&(tx==[]&&decide (sub.t_=0))))):=by
   unfold dX;rw[if_neg k1,if_pos k5]
  rw[ac];refine ah ?_;simp only[b_,seval,<-ae,l0,l1,eq_false q1,eq_false q2,eq_false q3,eq_false q4,eq_true q5];refine aa fG ?_;rintro _ _ ⟨rfl,rfl⟩;cases c1:G_ tg
  ·simp only[b_,seval];exact⟨rfl,Z⟩
  simp only[b_,seval,l3];apply aa (qi Z.o (ra.fr Z) na);rintro _ h2 ⟨rfl,F2⟩;have m2:ab h2 h.e 2=some (.f ky):=(F2.i K).j 2;have m4:ab h2 h.e 4=some (.f tx):=(F2.i K).j 4;have m5:ab h2 h.e 5=some vc:=(F2.i K).j 5;have af:=(rc.fr (Z.c F2)).t_;cases c4:cJ sl
  ·simp only[b_,seval];exact⟨rfl,Z.c F2⟩
  cases c3:ky==[]
  ·simp only[b_,seval,m2,aS,c3];exact⟨rfl,Z.c F2⟩
  cases c5:tx==[]
  ·simp only[b_,seval,m2,m4,aS,c3,c5];exact⟨rfl,Z.c F2⟩
  simp only[b_,seval,m2,m4,m5,aS,c3,c5,af];exact⟨iS,Z.c F2⟩
 ·have q5:¬(k:Int)=5:=oM
  have ac:dX k tg ky sl tx sub.t_=false:=by
   unfold dX;rw[if_neg k1,if_neg k5,if_neg k2,if_neg ak]
  rw[ac];refine ah ?_;simp[b_,<-ae,l0,eq_false q1,eq_false q2,eq_false q3,eq_false q4,eq_false q5];exact Z
def PT.rs:PT->Nat->Nat->Nat
 |.w_,_,c=>c
 |.o_ k tg ky sl tx _ _ sub nx,lv,c=>if 64<c then c else nx.rs lv (c+(if lv=0\/dX k tg ky sl tx sub.t_=false then 1000 else sub.rs (lv-1) 1))
def PT.rn(k:Nat)(tg ky:g_)(sl:List Q3)(tx:g_)(sub:PT)(lv:Nat):Nat:=if lv=0\/dX k tg ky sl tx sub.t_=false then 1000 else sub.rs (lv-1) 1
theorem PT.rs_le:∀(t:PT)(lv c:Nat),t.rs lv c≤max c (1064+64*lv)
 |.w_,lv,c=>by simp only[PT.rs];omega
 |.o_ k tg ky sl tx _ _ sub nx,lv,c=>by
  simp only[PT.rs];split;omega;have h1:=PT.rs_le sub (lv-1) 1;have h2:=PT.rs_le nx lv (c+(if lv=0∨dX k tg ky sl tx sub.t_=false then 1000 else sub.rs (lv-1) 1));split at h2<;>rename_i q
  rw[if_pos q];omega;rw[if_neg q];omega
theorem PT.rn_le(k:Nat)(tg ky:g_)(sl:List Q3)(tx:g_)(sub:PT)(lv:Nat):PT.rn k tg ky sl tx sub lv<=1064+64*lv:=by unfold PT.rn;split;omega;have:=PT.rs_le sub (lv-1) 1;omega
theorem PT.rs_stop:∀(t:PT)(lv c:Nat),64<c->t.rs lv c=c
 |.w_,_,_,_=>rfl
 |.o_ _ _ _ _ _ _ _ _ _,_,_,h=>by simp[PT.rs,if_pos h]
def CR(k:Nat)(tg ky:g_)(sl:List Q3)(tx:g_)(va vc:V)(sub:PT):Prop:=∀(lv:Nat)(h:a_),lv<=6->WF h->PH h (.o_ k tg ky sl tx va vc sub .w_)->
 ao go 254 [.B [ZY (k:Int),.f tg,.f ky,va,.f tx,vc],ZZ (lv:Int)] h fun u h'=>u=ZZ (PT.rn k tg ky sl tx sub lv:Nat)/\Fr [] h h'
def CRs:PT->Prop
 |.w_=>True
 |.o_ k tg ky sl tx va vc sub nx=>CR k tg ky sl tx va vc sub/\CRs nx
theorem CRs.Z5:∀{t:PT}(i:Nat),CRs t->CRs (t.Z5 i)
 |.w_,0,_=>trivial
 |.w_,_+1,_=>trivial
 |.o_ _ _ _ _ _ _ _ _ _,0,a=>a
 |.o_ _ _ _ _ _ _ _ _ _,i+1,⟨_,b⟩=>CRs.Z5 i b
theorem EW{k:Nat}{ky:g_}{sub:PT}(M:CRs sub):CR k tg ky sl tx va vc sub:=by
 intro lv h aT w n;have n0:=n;let⟨n1,ra,na,rc,nc,n6,_⟩:=n;let⟨h1,ae,K,ak⟩:=aq w [ZY (k:Int),.f tg,.f ky,va,.f tx,vc];by_cases c1:(lv:Int)<1;refine ah ?_;simp only[b_,seval,<-ae,eq_true c1];exact⟨by rw[PT.rn,if_pos (.inl oM)];rfl,K⟩;have l6:aj h1 h.e 0 6=some [ZY (k:Int),.f tg,.f ky,va,.f tx,vc]:=by rw[ak.N];rfl
 refine ah ?_;simp[b_,<-ae,eq_false c1,l6];apply aa (J2 K.o (n0.fr K));rintro _ h2 ⟨rfl,F2⟩;have az:=K.c F2;cases c2:dX k tg ky sl tx sub.t_;simp only[b_,seval];exact⟨by rw[PT.rn,if_pos (.inr c2)];rfl,az⟩;have o2:=F2.i ak;simp[b_];refine aA (fun n env hh=>Fr [] h2 hh/\∃(i c:Nat),env.c_ 6=some (ZZ (i:Int))/\env.c_ 5=some (ZZ (c:Int))/\env.c_ 2=some (.u h.e 0)/\env.c_ 1=some (ZZ (lv:Int))/\i<=sub.t_/\c<=2000/\(sub.Z5 i).rs (lv-1) c=sub.rs (lv-1) 1/\n=sub.t_-i) sub.t_ oM ?_ ?_;exact⟨Wl F2.o,0,1,iS,iS,iS,iS,oM,oM,by cases sub<;>rfl,rfl⟩;rintro n' env hh ⟨F,i,c,g6,g5,g2,g1,hi,hc,e,rfl⟩;have F0:=az.c F;have l5:ab hh h.e 5=some vc:=(F.i o2).j 5;have ac:=rc.fr F0;by_cases an:i<sub.t_;have Z:(i:Int)<sub.t_:=oM;by_cases c3:(c:Int)<=64;let⟨kd,ar,ay,ax,aH,aN,aR,af,nx,e1,e2,e3,e4,e5,_⟩:=sub.N? i an;let⟨bi,oi,p1,p2⟩:=Sl.ix6 ac an e2;have ph:=PH.Z5 i (n6.fr F0);rw[e1]at ph e;let⟨z1,z2,z3,z4,z5,z6,z7⟩:=ph;have cr:=CRs.Z5 i M;rw[e1]at cr;let⟨q0,q1,q2,q3,q4,q5,q6⟩:=p2;simp(disch:=omega) only[b_,seval,ag,g6,g5,g2,g1,l5,ac.t_,Z,eq_true c3,p1,q6];have aJ:(lv:Int)-1=((lv-1:Nat):Int):=oM;rw[aJ];apply aa (cr.1 (lv-1) hh oM F.o ⟨z1,z2,z3,z4,z5,z6,trivial⟩);rintro _ h3 ⟨rfl,F3⟩;have le:=PT.rn_le kd ar ay ax aH af (lv-1);simp[PT.rs,if_neg (oM:¬64<c)]at e;simp(disch:=omega) only[b_,seval,ag,g6];refine s_ ⟨sub.t_-(i+1),oM,F.c F3,i+1,c+PT.rn kd ar ay ax aH af (lv-1),iS,iS,iX,iX,oM,oM,by rw[e3];exact e,rfl⟩;rw[PT.rs_stop _ _ _ oM]at e;simp only[b_,seval,g6,g5,g2,l5,ac.t_,Z,eq_false c3];exact⟨by rw[PT.rn,if_neg (by rw[c2];simp;omega),<-e],F0⟩;rw[PT.t? _ _ oM]at e;have Z:¬(i:Int)<sub.t_:=oM;simp only[b_,seval,g6,g5,g2,l5,ac.t_,eq_false Z];have e':c=sub.rs (lv-1) 1:=e;exact⟨by rw[PT.rn,if_neg (by rw[c2];simp;omega),<-e'],F0⟩
theorem crs:∀t:PT,CRs t
 |.w_=>trivial
 |.o_ _ _ _ _ _ _ _ sub nx=>⟨EW (crs sub),crs nx⟩
def PT.rC(k:Nat)(tg ky:g_)(sl:List Q3)(tx:g_)(sub:PT):Nat:=if k≠1\/64<PT.rn k tg ky sl tx sub 6 then 0 else PT.rn k tg ky sl tx sub 6
theorem FV{h:a_}{k:Nat}{ky:g_}{sub:PT}(w:WF h)(n:PH h (.o_ k tg ky sl tx va vc sub .w_)):
 ao go 199 [.B [ZY (k:Int),.f tg,.f ky,va,.f tx,vc]] h fun u h'=>u=ZZ (PT.rC k tg ky sl tx sub:Nat)/\Fr [] h h':=by
 let⟨h1,ac,Z,K⟩:=aq w [ZY (k:Int),.f tg,.f ky,va,.f tx,vc];have l6:aj h1 h.e 0 6=some [ZY (k:Int),.f tg,.f ky,va,.f tx,vc]:=by rw[K.N];rfl
 refine ah ?_;simp[b_,<-ac,l6];refine aa ((crs (.o_ k tg ky sl tx va vc sub .w_)).1 6 h1 oM Z.o (n.fr Z)) ?_;rintro _ h2 ⟨rfl,F2⟩;have l0:ab h2 h.e 0=some (ZY (k:Int)):=(F2.i K).j 0;unfold PT.rC;by_cases c1:(k:Int)=1;by_cases c2:(64:Int)<(PT.rn k tg ky sl tx sub 6:Nat);simp only[b_,seval,l0,eq_true c1,eq_true c2];exact⟨by rw[if_pos (.inr oM)];rfl,Z.c F2⟩;simp only[b_,seval,l0,eq_true c1,eq_false c2];exact⟨by rw[if_neg oM],Z.c F2⟩;simp only[b_,seval,l0,eq_false c1];exact⟨by rw[if_pos (.inl oM)];rfl,Z.c F2⟩
theorem xu{h:a_}{k:Nat}{ky:g_}{sub:PT}(w:WF h)(n:PH h (.o_ k tg ky sl tx va vc sub .w_)):
 ao go 140 [.B [ZY (k:Int),.f tg,.f ky,va,.f tx,vc]] h fun u h'=>u=ZZ (if PT.rC k tg ky sl tx sub=0 then 14 else 0)/\Fr [] h h':=by
 let⟨h1,K,Z,ac⟩:=aq w [ZY (k:Int),.f tg,.f ky,va,.f tx,vc];have l6:aj h1 h.e 0 6=some [ZY (k:Int),.f tg,.f ky,va,.f tx,vc]:=by rw[ac.N];rfl
 refine ah ?_;simp[b_,<-K,l6];refine aa (FV Z.o (n.fr Z)) ?_;rintro _ h2 ⟨rfl,F2⟩;by_cases c:(PT.rC k tg ky sl tx sub:Int)=0;simp only[b_,seval,eq_true c];exact⟨by rw[if_pos oM],Z.c F2⟩;simp only[b_,seval,eq_false c];exact⟨by rw[if_neg oM],Z.c F2⟩
theorem Ps{h:a_}{B Z e:Nat}{v:V}(g:Gs h B e v cs)(hb:Z<=B):Gs h Z e v cs:=by obtain z|⟨b,n,z1,K,z3,z4,o⟩:=g;exact .inl z;exact .inr ⟨b,n,z1,K,z3,oM,o⟩
theorem wO{h:a_}{x:m_}{v:V}{l:List Q3}(w:WF h)(a:u_ h x)(r:q_ sW 3 h v l)(nl:l.length<=4096)(h3:∀s∈l,s.2.1<=3):
 ao go 203 [v,.B x.s] h fun u h'=>Gs h' h.e 2 u ((l.map (N_ x)).flatMap gG)/\Fr [] h h':=by
 have kx:=a.k;have nx:=a.n;let⟨h1,an,ac,ae⟩:=aq w x.s;have x0:∀{h'},Fr [] h1 h'->ab h' h.e 0=some (ZX (x.J:Int)):=fun f=>(f.i ae).j 0;have x2:∀{h'},Fr [] h1 h'->ab h' h.e 2=some (.f x.X):=fun f=>(f.i ae).j 2;have x3:∀{h'},Fr [] h1 h'->ab h' h.e 3=some x.vm:=fun f=>(f.i ae).j 3;refine ah ?_;simp[b_,<-an];refine aA (fun n env hh=>Fr [] h1 hh/\∃(i:Nat)(vo:V),env.c_ 6=some (ZZ (i:Int))/\env.c_ 5=some vo/\env.c_ 3=some (.u h.e 0)/\env.c_ 0=some v/\i<=l.length/\Gs hh h1.e 2 vo (((l.take i).map (N_ x)).flatMap gG)/\n=l.length-i) l.length oM ?_ ?_;exact⟨Wl ac.o,0,.r,iS,iS,iS,iS,oM,.inl ⟨rfl,iS⟩,rfl⟩;rintro n env hh ⟨F,i,vo,g6,g5,g3,g0,hi,G,rfl⟩;have F0:=ac.c F;have rh:=r.fr F0;by_cases ax:i<l.length;have Z:(i:Int)<l.length:=oM;let⟨b',o',s,p1,p2,p3,p4⟩:=rh.ix gu .i64 (i:Int) oM Z;rw[pi]at p4;have s3:=h3 s (Wc p4);have u0:ab hh b' o'=some (.f s.1):=p2 0 oM;have u1:ab hh b' (o'+1)=some (ZY (s.2.1:Int)):=p2 1 oM;have u2:ab hh b' (o'+2)=some (.f s.2.2):=p2 2 oM;have cv:bP .u64 (x.C.length:Int)=(x.C.length:Int):=bS _ oM oM;have fin:∀ak h9,Gs h9 h1.e 2 ak (((l.take i).map (N_ x)).flatMap gG++gG (N_ x s))->Gs h9 h1.e 2 ak (((l.take (i+1)).map (N_ x)).flatMap gG):=by intro ak h9 g;rw[Wn,p4];simpa using g
 have ar:(((l.take i).map (N_ x)).flatMap gG).length=i*2:=by rw[aC eQ];simp;omega
 have lit:∀z,e_ (h_ hh [.f s.1,.f z]) hh.e [.f s.1,.f z]:=fun z=>Xc F.o _;have ay:=F.e;have am:=a.m.fr F0;have ev:s.2.1=0\/s.2.1=1\/s.2.1=2\/s.2.1=3:=oM;have rest:∀(z:g_)(af:a_){K:V->a_->Prop},Fr [] hh af->AH x s=z->(∀v' h',Gs h' h1.e 2 v' (((l.take (i+1)).map (N_ x)).flatMap gG)->Fr [] h1 h'->K v' h')->OQ (jQ (h_ af [.f s.1,.f z]) 2 32 vo (.y af.e 0 1 1)) K:=by intro z af K f e k;have nn:=f.e;have F1:=WA f.o [.f s.1,.f z];have G':=Gs.fr (Gs.fr G f) F1;refine Ym (n:=1) F1.o G' (Xy (Xc f.o _) rfl) oM oM rfl (by have:=F1.e;omega) (by rw[ar];omega) ?_;intro v' h' g _ f';refine k v' h' (fin v' h' (by unfold gG N_;rw[e];exact g)) (XD ac.o ((F.c f).c F1) f' (fun y hy=>?_));obtain⟨rfl,_⟩|⟨b,n,rfl,_,_,hb,o⟩:=G;simp[vb]at hy;simp[vb]at hy;omega
 obtain e|e|e|e:=ev;have e':(s.2.1:Int)=0:=oM;simp only[b_,seval,g6,g5,g0,rh.t_,Z,p1,u0,u1,u2,(oM:¬(s.2.1:Int)=1),(oM:¬(s.2.1:Int)=2),(oM:¬(s.2.1:Int)=3)];refine rest _ _ (Wl F.o) (by simp[AH,e]) fun v' h' g f=>?_;simp(disch:=omega) only[b_,seval,ag,g6];refine s_ ⟨l.length-(i+1),oM,f,i+1,v',iS,iS,iX,iX,oM,g,rfl⟩;simp only[b_,seval,g6,g5,g3,g0,rh.t_,Z,p1,u0,u1,u2,(oM:(s.2.1:Int)=1),x2 F];refine rest _ _ (Wl F.o) (by simp[AH,e]) fun v' h' g f=>?_;simp(disch:=omega) only[b_,seval,ag,g6];refine s_ ⟨l.length-(i+1),oM,f,i+1,v',iS,iS,iX,iX,oM,g,rfl⟩;have q1:¬(s.2.1:Int)=1:=oM;have q2:(s.2.1:Int)=2:=oM;simp only[b_,seval,g6,g3,g0,rh.t_,Z,p1,u1,u2,eq_false q1,eq_true q2,x0 F];refine aa (pL (x.J+1) x.J oM kx) ?_;rintro _ _ ⟨rfl,rfl⟩;simp only[b_,seval,g6,g5,g0,p1,u0];refine rest _ _ (Wl F.o) (by simp[AH,e]) fun v' h' g f=>?_;simp(disch:=omega) only[b_,seval,ag,g6];refine s_ ⟨l.length-(i+1),oM,f,i+1,v',iS,iS,iX,iX,oM,g,rfl⟩;have q1:¬(s.2.1:Int)=1:=oM;have q2:¬(s.2.1:Int)=2:=oM;have q3:(s.2.1:Int)=3:=oM;simp only[b_,seval,g6,g3,g0,rh.t_,Z,p1,u1,u2,eq_false q1,eq_false q2,eq_true q3,x3 F,am.t_,cv];refine aa (pL (x.C.length+1) x.C.length oM oM) ?_;rintro _ _ ⟨rfl,rfl⟩;simp only[b_,seval,g6,g5,g0,p1,u0];refine rest _ _ (Wl F.o) (by simp[AH,e]) fun v' h' g f=>?_;simp(disch:=omega) only[b_,seval,ag,g6];refine s_ ⟨l.length-(i+1),oM,f,i+1,v',iS,iS,iX,iX,oM,g,rfl⟩;have Z:¬(i:Int)<l.length:=oM;rw[Wj oM]at G;simp[b_,g6,g5,g0,rh.t_,eq_false Z];exact⟨Ps G (by have:=ac.e;omega),F0⟩
theorem Oz{X:List Nat}{h:a_}(f:Fr [] h h'):Fr X h h':=⟨f.e,f.o,fun _ _ _ o=>f.i o,fun _ _ _ o=>f.pl _ _ iS o,f.lp,f.ro⟩
theorem Hm{h:a_}{n0 B:Nat}{Z u:V}{s s5:NT}{K:V->a_->Prop}(w:WF h)(g:Gs h B 6 Z s.J_)(hB:B<=h.e)(h0:n0<=h.e)(I:c? Z n0 h s)(sl:Sl h 6 u s5.y_ s5.J_)
 (N:∀(X:List Nat)(h':a_),(∀x∈X,x<n0\/x∈vb Z)->Fr X h h'->NH h' s5) (hl:s.y_<=1000) (af:s5.y_<=1000) (hz:s5.y_=0->u=.r)
 (hk:∀v' h',Gs h' B 6 v' (s.d? s5).J_->c? v' n0 h' (s.d? s5)->Fr (vb Z) h h'->(∀y∈vb v',y∈vb Z\/h.e<=y)->K v' h'):
 OQ (jQ h 6 104 Z u) K:=by
 have on:=NH.ones (N [] h iS (Wl w));have cl:=s.R6;have ae:=s5.R6;by_cases z:s5.y_=0;have hu:=hz z;subst hu;have e5:s5=.D_:=by cases s5 with
  |D_=>rfl
  |z_ _ _ _ _ _ _ _ _ _=>simp[NT.y_]at z
 subst e5;have ea:s.d? .D_=s:=by
  have:∀t:NT,t.d? .D_=t:=by
   intro t;induction t with
   |D_=>rfl
   |z_ _ _ _ _ _ _ _ _ _ _ ih=>simp[NT.d?,ih]
  exact this s
 rw[ea]at hk;have ez:jQ h 6 104 Z .r=some (Z,h):=by unfold jQ;rw[sl.srcLen];simp;rw[lF z,cond_true];obtain⟨rfl,_⟩|⟨b,n,rfl,_⟩:=g<;>rfl
 rw[ez];refine(cF Z h K).2 (hk Z h g I (Oz (Wl w)) fun y m=>.inl m);have ak:∀x∈vb Z,x<h.e:=by obtain⟨rfl,_⟩|⟨b,n,rfl,_,_,_,o⟩:=g;simp[vb];have:=o.lt w;simp only[vb,Wi];rintro x rfl;exact this
 refine Ym (n:=s5.y_) w g sl oM z on hB (by rw[cl];omega) ?_;intro v' h' g' e' F;refine hk v' h' ?_ ?_ F (by rw[e'];simp);rw[NT.D?];exact g';intro X h2 hX f2;have f3:Fr (vb Z++X.filter (fun x=>decide (x<n0))) h h2:=by refine Wp F f2 w (fun x hx=>.inl iX) (fun x hx=>?_);obtain q|q:=hX x hx;grind;grind
 have ac:∀x∈vb Z++X.filter (fun x=>decide (x<n0)),x<n0\/x∈vb Z:=by grind
 exact NH.X0 (I _ h2 ac f3) (N _ h2 ac f3)
def PG:PT->Prop
 |.w_=>True
 |.o_ k _ _ sl _ _ _ sub nx=>1<=k/\k<=5/\(∀s∈sl,s.2.1<=3)/\sub.t_<=16/\PG sub/\PG nx
theorem PG.Z5:∀{t:PT}(i:Nat),PG t->PG (t.Z5 i)
 |.w_,0,_=>trivial
 |.w_,_+1,_=>trivial
 |.o_ _ _ _ _ _ _ _ _ _,0,a=>a
 |.o_ _ _ _ _ _ _ _ _ _,i+1,⟨_,_,_,_,_,b⟩=>PG.Z5 i b
def MDp(h:a_)(x:m_)(k:Nat)(tg ky:g_)(sl:List Q3)(tx:g_)(sub:PT)(u:V)(h':a_):Prop:=
 ∃s:NT,s.sh=nV x k tg ky sl tx (bZ x sub)/\Fr [] h h'/\s.y_<=8/\(s.y_=0->u=.r)/\∀(X:List Nat)(h2:a_),(∀y∈X,y<h.e)->Fr X h' h2->NH h2 s/\Sl h2 6 u s.y_ s.J_
def MD(k:Nat)(tg ky:g_)(sl:List Q3)(tx:g_)(va vc:V)(sub:PT):Prop:=∀(x:m_)(h:a_),WF h->u_ h x->x.C.length<=8->PH h (.o_ k tg ky sl tx va vc sub .w_)->PG (.o_ k tg ky sl tx va vc sub .w_)->
 ao go 142 [.B [ZY (k:Int),.f tg,.f ky,va,.f tx,vc],.B x.s] h (MDp h x k tg ky sl tx sub)
def MDs:PT->Prop
 |.w_=>True
 |.o_ k tg ky sl tx va vc sub nx=>MD k tg ky sl tx va vc sub/\MDs nx
theorem MDs.Z5:∀{t:PT}(i:Nat),MDs t->MDs (t.Z5 i)
 |.w_,0,_=>trivial
 |.w_,_+1,_=>trivial
 |.o_ _ _ _ _ _ _ _ _ _,0,a=>a
 |.o_ _ _ _ _ _ _ _ _ _,i+1,⟨_,b⟩=>MDs.Z5 i b
theorem xO{h:a_}{x:m_}{k:Nat}{ky z:g_}{sub:PT}(f:Fr [] h h1)(e:nV x k tg ky sl tx (bZ x sub)=iy z):
 MDp h x k tg ky sl tx sub (.y h1.e 0 1 1) (h_ h1 [ZY 2,.f [],.f [],.r,.f z,.r]):=by
 have Z:=WA f.o [ZY 2,.f [],.f [],.r,.f z,.r];have o1:=Xc f.o [ZY 2,.f [],.f [],.r,.f z,.r];refine⟨.z_ 2 [] [] [] z .r .r .D_ .D_,by rw[e];rfl,f.c Z,Wh rfl,fun q=>absurd q (by simp[NT.y_]),fun X h2 hX f2=>⟨mB 2 oM [] z,Xy (f2.I _ _ (fun m=>by have:=hX _ m;have:=f.e;omega) o1) rfl⟩⟩
theorem Gs.ints{h:a_}{B:Nat}{v:V}{M:List Int}(g:Gs h B 1 v (M.map fun x=>ZZ x))(Z:M.length<=4096):lP h v M:=by have:=g.sl (n:=M.length) iS oM;exact this
theorem L_.set{n0:NL}{h:a_}{b bg B bm S bl i:Nat}{X:List m_}{l:List Int}{kn st:List Bool}{pm:Option Nat}{mc:dN}{y:m_}(w:WF h)(s:L_ n0 h b Ks cap X l kn st vK bg B bm S bl pm mc)(f:Fr [B] h h')
 (g:Gp h' bg B X.length ((X.set i y).flatMap m_.s)) (gB:O_ h' B)
 (hy:∀(Z:List Nat)(K:a_),(∀z∈Z,z∈Wr b bg B bm S bl pm\/h'.e<=z\/Lx n0 z)->Fr Z h' K->u_ K y):L_ n0 h' b Ks cap (X.set i y) l kn st vK bg B bm S bl pm mc:=by
 have d:=s.d;have fn:=f.e;have n0l:=s.n0l;refine⟨f.I _ _ (eV d.i) s.ob,by simpa using g,gB,s.k.frS f (eV d.d.symm) (eV d.a.symm),s.gS.fr f (eV d.a.symm),s.lo.frS f s.gB.oth (eV d.c.symm) (fun q e=>by simpa using(d.p q e).2.2.1),by simp[s.t_],?_,d,by have:=s.Sl';omega,fun q e=>by have:=s.pl q e;omega,by have:=s.bl';omega,fun z q=>by have:=n0l z q;omega⟩;intro Z K hZ f2;have fz:Fr ([B]++Z) h K:=Wp f f2 w (fun x m=>.inl (Wa.2 (.inl m))) (fun x m=>.inl (Wa.2 (.inr m)));let⟨r1,r2,r3⟩:=s.rd _ K (fun z m=>by
  obtain m|m:=Wa.1 m;simp at m;subst m;exact .inl (by simp[Wr]);obtain q|q|q:=hZ z m;exact .inl q;exact .inr (.inl oM);exact .inr (.inr q)) fz
 refine⟨r1,r2,fun x m=>?_⟩;obtain m|rfl:=WQ m;exact r3 x m;exact hy Z K hZ f2
theorem Gs.ge{h:a_}{B Z e:Nat}{v:V}(g:Gs h B e v cs)(hb:Z<=B):Gs h Z e v cs:=by obtain z|⟨b,n,z1,K,z3,z4,o⟩:=g;exact .inl z;exact .inr ⟨b,n,z1,K,z3,oM,o⟩
theorem pB{call:aI}{env:T V}{k:Nat}:∀(B:List n_)(i:Nat)(loc:List V)(h:a_),k<i→Q7 call env [k] B i loc h=some (B.map fun s=>(s,none),h)
 |[],_,_,_,_=>rfl
 |s::B,i,loc,h,hi=>by
  have c0:(i==k)=false:=beq_false_of_ne oM;have c:List.contains [k] i=false:=by grind
  simp only[Q7,c,cond_false,pB (call:=call) (env:=env) (k:=k) B (i+1) _ h oM,List.map_cons]
theorem xU{call:aI}{env:T V}{k:Nat}{R:List n_}{h h':a_}{r:List DS}:∀(A:List n_)(i:Nat)(loc:List V),i+A.length=k→(∀loc,Q7 call env [k] R k loc h=some (r,h'))→Q7 call env [k] (A++R) i loc h=some ((A.map fun s=>(s,none))++r,h')
 |[],i,loc,hi,hr=>by
  have:i=k:=by simpa using hi
  subst this;simpa using hr loc
 |s::A,i,loc,hi,hr=>by
  simp only[List.length_cons]at hi;have c0:(i==k)=false:=beq_false_of_ne oM;have c:List.contains [k] i=false:=by grind
  simp only[List.cons_append,Q7,c,cond_false,xU (call:=call) (env:=env) (k:=k) A (i+1) _ oM hr,List.map_cons]
theorem Dt{call:aI}{h:a_}{k:Nat}{zero:List V}{Rr:List Nat}{Z:List (Nat×Nat×Nat)}{K:List (Nat×Nat)}{Q:Ex->T V->a_->Prop}(A B:List n_)(hk:A.length=k)
 (x:WD call env ((A.map fun s=>(s,none))++(⟨none,.c zero,none⟩,some (.u h.e 0,zero))::B.map fun s=>(s,none)) [] [h_ h zero] (h_ h zero) (DF call (A++⟨none,.c zero,none⟩::B) Z K env (Q .a))):
 W call (.i (A++⟨none,.c zero,none⟩::B) [k] Rr Z K) env h Q:=by
 refine(Fv _ _ _ _ _ _).2 ?_;have e:∀ac,Q7 call env [k] (⟨none,.c zero,none⟩::B) k ac h=some ((⟨none,.c zero,none⟩,some (.u h.e 0,zero))::B.map (fun s=>(s,none)),h_ h zero):=by
  intro ac;have c:List.contains [k] k=true:=by simp
  simp[Q7,jI,pB B (k+1) _ _ (Nat.lt_succ_self k),eM]
 rw[xU A 0 [] oM e,jT];exact x
theorem rV(Z:List V)(env:T V)(n:Nat)(zero:List V):ce Z env (.c zero) (.u n 0) zero=true:=by have e:jI Z env (.c zero)=some (zero,none):=rfl;simp[ce,e,T2,eM,eK,d7]
def eP(Ks:List p_)(cap:Int)(X:List m_):Nat->List m_->Int
 |_,[]=>0
 |i,y::r=>if Q2 y Ks.length=false then 6 else if(X[i]?.map m_.J)≠some y.J then 9 else if cG Ks cap y≠0 then cG Ks cap y else eP Ks cap X (i+1) r
theorem c?.frX{v:V}{n0:Nat}{h:a_}{s:NT}{X:List Nat}(I:c? v n0 h s)(w:WF h)(f:Fr X h h')(hX:∀x∈X,x<n0):c? v n0 h' s:=fun Y h2 hy f2=>
 I (X++Y) h2 (fun x m=>by
  obtain m|m:=Wa.1 m;exact .inl (hX x m);exact hy x m) (Wp f f2 w (fun x m=>.inl (Wa.2 (.inl m))) (fun x m=>.inl (Wa.2 (.inr m))))
theorem MW{h:a_}{x:m_}{ky:g_}{sub:PT}(M:MDs sub)(f0:Fr [] h h1)(a:u_ h x)(hm:x.C.length<=8)(n:PH h (.o_ 1 tg ky sl tx va vc sub .w_))(g:PG (.o_ 1 tg ky sl tx va vc sub .w_))
 (op:e_ h1 pb [ZY 1,.f tg,.f ky,va,.f tx,vc]) (oi:e_ h1 ib x.s) (e2:env.c_ 2=some (.u pb 0)) (e3:env.c_ 3=some (.u ib 0))
 (k:∀u h',MDp h x 1 tg ky sl tx sub u h'->R u h'):W go mdN env h1 (i9 [.t 4] R):=by
 let⟨n1,ra,na,rc,nc,n6,_⟩:=n;let⟨_,_,g3,gl,gs,_⟩:=g;have w1:=f0.o;have l6:=op.at6;let⟨q0,q1,q2,q3,q4,q5,q6⟩:=l6;have i4:aj h1 ib 0 4=some x.s:=by rw[oi.N];rfl
 simp[b_,mdN];apply Dt [⟨none,.p (.b 1) [.v 2],none⟩,⟨none,.a 1 false (.l 0),none⟩,⟨none,.p (.b 2) [.v 2],none⟩,⟨none,.a 1 false (.l 0),none⟩,⟨none,.p (.b 3) [.v 2],none⟩,⟨none,.a 1 false (.l 0),none⟩,⟨none,.a 4 true (.v 3),none⟩,⟨none,.d 203 [.l 1,.l 0],none⟩,⟨none,.p (.a [ZY 0,.f [],.f [],.r,.f [],.r] [(0,1),(1,1),(2,1),(3,1)]) [.c (ZY 1),.l 6,.l 4,.l 0],none⟩] _ rfl;have F2:=WA w1 [ZY 0,.f [],.f [],.r,.f [],.r];have o2:=Xc w1 [ZY 0,.f [],.f [],.r,.f [],.r];have n2:(h_ h1 [ZY 0,.f [],.f [],.r,.f [],.r]).e=h1.e+1:=rfl;generalize h_ h1 [ZY 0,.f [],.f [],.r,.f [],.r]=h2 at F2 o2 n2|-;let⟨r0,r1,r2,r3,r4,r5,r6⟩:=(F2.i op).at6;have aJ:aj h2 ib 0 4=some x.s:=by rw[(F2.i oi).N];rfl
 simp[b_,j_,e2,e3,r1,r2,r3,aJ];apply aa (wO F2.o (a.fr (f0.c F2)) (ra.fr (f0.c F2)) na g3);rintro vA h3 ⟨GA,F3⟩;let⟨t0,t1,t2,t3,t4,t5,t6⟩:=(F3.i (F2.i op)).at6;have ay:vA.U=true:=(ZT (n:=sl.length) GA (by rw[aC eQ];simp) oM).U;simp[b_,j_,rV,aF ay];refine ai (c':=[ZY 1,.f tg,.f ky,vA,.f [],.r]) F3.o (F3.i o2) rfl (by simp only[V.s,au,aB,ay];rfl) iR ?_;rintro h4 o4 F4 n4;have bw:aj h3 ib 0 4=some x.s:=by rw[(F3.i (F2.i oi)).N];rfl
 have n3:=F3.e;simp[b_,DF,e3,r1,r2,r3,aJ,t1,t2];have a1:Fr [] h1 h4:=(F2.c F3).z F4 w1 (VZ _);have a8:Gs h4 h2.e 2 vA ((sl.map (N_ x)).flatMap gG):=ZV GA F4 (fun y m=>by simp at m;omega);have bh:=f0.e;refine aA (fun n env K=>Fr [] h1 K/\∃(i:Nat)(s:NT)(Z:V),env.c_ 8=some (ZZ (i:Int))/\env.c_ 7=some (.u h1.e 0)/\env.c_ 2=some (.u pb 0)/\env.c_ 3=some (.u ib 0)/\i<=sub.t_/\h3.e<=K.e/\
  e_ K h1.e [ZY 1,.f tg,.f ky,vA,.f [],Z]/\(∀(X:List Nat)(h':a_),(∀y∈X,y<h2.e\/h3.e<=y)->Fr X K h'->q_ gG 2 h' vA (sl.map (N_ x)))/\Gs K h3.e 6 Z s.J_/\c? Z h3.e K s/\
  s.sh.X0 (bZ x (sub.Z5 i))=bZ x sub/\s.y_<=8*i/\n=sub.t_-i) sub.t_ oM ?_ ?_
 refine⟨a1,0,.D_,.r,iS,iS,iX,iX,oM,oM,o4,fun X h' hX f=>?_,.inl ⟨rfl,rfl⟩,fun _ _ _ _=>trivial,by cases sub<;>rfl,by simp[NT.y_],rfl⟩;have aT:∀y∈vb vA,y<h3.e:=by obtain⟨rfl,_⟩|⟨b,n,rfl,_,_,_,o⟩:=GA;simp[vb];have:=o.lt F3.o;simp only[vb,Wi];rintro y rfl;exact this
 have:Gs h' h2.e 2 vA ((sl.map (N_ x)).flatMap gG):=by obtain z|⟨b,n,rfl,z2,z3,z4,o⟩:=a8;exact .inl z;exact .inr ⟨b,n,rfl,z2,z3,z4,f.I _ _ (fun m=>by have:=hX _ m;have:=aT b (by simp[vb]);omega) o⟩
 exact ZT (n:=(sl.map (N_ x)).length) this (by rw[aC eQ]) oM;rintro n' env K ⟨F,i,s,Z,g8,g7,g2,aH,hi,hn,on,SA,G,I,e,sn,rfl⟩;have F0:=f0.c F;let⟨u0,u1,u2,u3,u4,u5,u6⟩:=(F.i op).at6;have an:=rc.fr F0;by_cases az:i<sub.t_;have ac:(i:Int)<sub.t_:=oM;let⟨kd,bj,bm,bk,bu,bn,bg,ba,nx,e1,aR,a3,bf,bt,_⟩:=sub.N? i az;let⟨bi,bv,p1,p2⟩:=Sl.ix6 an az aR;have ph:=PH.Z5 i (n6.fr F0);have pg:=gs.Z5 i;have md:=M.Z5 i;rw[e1]at ph e pg md;let⟨z1,z2,z3,z4,z5,z6,z7⟩:=ph;let⟨y1,y2,y3,y4,y5,y6⟩:=pg;let⟨v0,v1,v2,v3,v4,v5,v6⟩:=p2;have w5:ab K h1.e 5=some Z:=on.j 5;have aN:aj K ib 0 4=some x.s:=by rw[(F.i oi).N];rfl
 simp only[b_,seval,j_,g8,g7,g2,aH,u5,an.t_,ac,p1,v6,w5,aN];apply aa (md.1 x K F.o (a.fr F0) hm ⟨z1,z2,z3,z4,z5,z6,trivial⟩ ⟨y1,y2,y3,y4,y5,trivial⟩);rintro uu h5 ⟨s5,a5,F5,l5,a9,ar⟩;have ax:=F5.i on;have a4:ab h5 h1.e 5=some Z:=ax.j 5;have a7:=ar [] h5 iS (Wl F5.o);have af:∀y∈vb Z,h3.e<=y/\y<K.e:=by obtain⟨rfl,_⟩|⟨b,n,rfl,_,_,hb,o⟩:=G;simp[vb];have:=o.lt F.o;simp only[vb,Wi];rintro y rfl;exact⟨hb,this⟩
 have n5:=F5.e;simp only[b_,j_];refine Hm (n0:=h3.e) F5.o (ZV G F5 iS) oM oM (I.fr F.o F5) a7.2 (fun X h' hX f=>(ar X h' (fun y m=>by
  obtain q|q:=hX y m;omega;exact(af y q).2) f).1) oM oM a9 ?_
 intro v' h6 G' I' F6 V';have a6:=F6.I _ _ (fun m=>by have:=af _ m;omega) ax;have ae:v'.U=true:=(ZT (n:=(s.d? s5).y_) G' (by rw[NT.R6]) oM).U;simp only[b_,seval,j_,g7];refine ai (c':=[ZY 1,.f tg,.f ky,vA,.f [],v']) F6.o a6 (by rw[aF ae];rfl) (by rw[aF ae];simp only[au,aB,ae];rfl) (by rw[aF ae];rfl) ?_;rintro h7 o7 F7 n7;have bz:=F6.e;have a2:Fr [] h1 h7:=XD w1 (XD w1 (F.c F5) F6 (fun y m=>by have:=af y m;omega)) F7 (fun y m=>by simp at m;omega);have G7:=ZV G' F7 (fun y m=>by simp at m;omega);have I7:c? v' h3.e h7 (s.d? s5):=I'.frX F6.o F7 (fun y m=>by simp at m;omega);have a0:∀(X:List Nat)(h':a_),Fr X h7 h'->Fr (vb Z++[h1.e]++X) K h':=fun X h' f=>
  Wp (Wp (T:=vb Z++[h1.e]) (Wp (T:=vb Z) F5 F6 F.o iS (fun y m=>.inl m)) F7 F.o (fun y m=>.inl (Wa.2 (.inl m))) (fun y m=>.inl (Wa.2 (.inr m)))) f F.o (fun y m=>.inl (Wa.2 (.inl m))) (fun y m=>.inl (Wa.2 (.inr m)))
 simp(disch:=omega) only[b_,seval,DF,ag,g8,aH,u5,v6,w5,aN,a4];refine s_ ⟨sub.t_-(i+1),oM,a2,i+1,s.d? s5,v',iS,iX,iX,iX,oM,oM,o7,fun X h' hX f=>SA _ h' (fun y m=>?_) (a0 X h' f),G7,I7,?_,?_,rfl⟩;obtain m|m:=Wa.1 m;obtain m|m:=Wa.1 m;exact .inr (af y m).1;simp at m;omega;exact hX y m;rw[NT.Y4,a5,ST.X1,a3];exact e;rw[NT.G?];omega;have ac:¬(i:Int)<sub.t_:=oM;have w6:aj K h1.e 0 6=some [ZY 1,.f tg,.f ky,vA,.f [],Z]:=by rw[on.N];rfl
 rw[PT.t? _ _ oM]at e;have e':s.sh=bZ x sub:=by rw[<-e];show _=s.sh.X0 .Y0;rw[ST.Z7]
 simp[b_,g8,g7,g2,u5,an.t_,eq_false ac,w6];refine k _ _ ⟨.z_ 1 tg ky (sl.map (N_ x)) [] vA Z s .D_,by unfold nV;rw[if_pos rfl,<-e'];rfl,F0.c (WA F.o _),Wh rfl,fun q=>absurd q (by simp[NT.y_]),fun X ak hX f=>?_⟩;have F9:=WA F.o [ZY 1,.f tg,.f ky,vA,.f [],Z];have o9:=Xc F.o [ZY 1,.f tg,.f ky,vA,.f [],Z];have f9:Fr X K ak:=Wp F9 f F.o iS (fun y m=>.inl m);refine⟨⟨oM,SA X ak (fun y m=>.inl (by have:=hX y m;omega)) f9,by simpa using na,?_,oM,I X ak (fun y m=>.inl (by have:=hX y m;omega)) f9,trivial⟩,Xy (f.I _ _ (fun m=>by have:=hX _ m;have:=F0.e;omega) o9) rfl⟩;exact ZT (n:=s.y_) (ZV G f9 (fun y m=>by have:=hX y m;omega)) s.R6 oM
abbrev kw(z:g_):List V:=[ZY 2,.f [],.f [],.r,.f z,.r]
abbrev L6:List n_:=[⟨none,.p (.a [ZY 0,.f [],.f [],.r,.f [],.r] [(0,1),(1,1),(2,1),(3,1),(5,1)]) [.c (ZY 1),.l 16,.l 11,.l 7,.l 0],none⟩,⟨none,.b [ZY 0,.f [],.f [],.r,.f [],.r] [(0,6)] 1 [.l 0],none⟩,⟨none,.i 6 104 (.l 20) (.l 0),none⟩,⟨none,.p .o [.l 0],none⟩]
abbrev L8:List n_:=[⟨none,.p .o [.v 5],none⟩,⟨none,.p (.b 1) [.v 2],none⟩,⟨none,.a 1 false (.l 0),none⟩,⟨none,.p (.b 3) [.v 3],none⟩,⟨none,.a 1 false (.l 0),none⟩,⟨none,.p .o [.v 6],none⟩,⟨none,.p (.c 1) [.l 1,.l 0],none⟩,⟨none,.a 1 false (.l 0),none⟩,⟨none,.p (.b 3) [.v 2],none⟩,⟨none,.a 1 false (.l 0),none⟩,⟨none,.a 4 true (.v 3),none⟩,⟨none,.d 203 [.l 1,.l 0],none⟩,⟨none,.p (.b 3) [.v 3],none⟩,⟨none,.a 1 false (.l 0),none⟩,⟨none,.p .o [.v 6],none⟩,⟨none,.p (.c 1) [.l 1,.l 0],none⟩,⟨none,.a 1 false (.l 0),none⟩,⟨none,.p (.a [ZY 0,.f [],.f [],.r,.f [],.r] [(0,1),(4,1)]) [.c (ZY 2),.l 0],none⟩]
abbrev L7:n_:=⟨none,.b [ZY 0,.f [],.f [],.r,.f [],.r] [(0,6)] 1 [.l 0],none⟩
theorem OF{h:a_}{b3 o3:Nat}{i:Int}{v5 vm:V}{mk:g_}(g5:env.c_ 5=some v5)(g2:env.c_ 2=some (.u pb 0))(g3:env.c_ 3=some (.u ib 0))(g6:env.c_ 6=some (ZZ i))
 (l1:ab h pb 1=some (.f tg)) (l3:ab h ib 3=some vm) (ix:aP (.c 1) [vm,ZZ i]=some (.u b3 o3)) (lm:ab h b3 o3=some (.f mk)) (lp:ab h pb 3=some va) (l4:aj h ib 0 4=some cs):
 Q7 go env [18] (L8++L7::L6) 0 [] h=some ((L8.map fun s=>(s,none))++(L7,some (.y h.e 0 1 1,kw mk))::(L6.map fun s=>(s,none)),h_ h (kw mk)):=by
 have ae:∀(Z:List V)(x:H_)(v:V),E_ Z env x=some v->aU go Z env h (.p .o [x])=some (v,h):=fun Z x v e=>by simp[aU,fP,cW,e,cC,aP]
 have ac:∀(Z:List V)(x k b:Nat),env.c_ x=some (.u b 0)->aU go Z env h (.p (.b k) [.v x])=some (.u b k,h):=fun Z x k b e=>by simp[aU,fP,cW,iI,e,cC,jR]
 have K:∀(Z:List V)(b o:Nat)(v:V),ab h b o=some v->aU go (.u b o::Z) env h (.a 1 false (.l 0))=some (v,h):=fun Z b o v e=>by simp[aU,nD,bO,fE,e]
 have af:∀(Z:List V),aU go (ZZ i::vm::Z) env h (.p (.c 1) [.l 1,.l 0])=some (.u b3 o3,h):=fun Z=>by simp[aU,fP,cW,nD,bO,cL,cC,ix]
 have ak:∀(Z:List V),aU go Z env h (.a 4 true (.v 3))=some (.B cs,h):=fun Z=>by simp only[aU,iI,g3,oT,l4];rfl
 have an:∀(Z:List V),aU go (.f mk::Z) env h (.p (.a [ZY 0,.f [],.f [],.r,.f [],.r] [(0,1),(4,1)]) [.c (ZY 2),.l 0])=some (.B (kw mk),h):=fun Z=>rfl;simp only[Xz,XO];rw[de rfl rfl (ae _ _ _ (by rw[iI];exact g5)),de rfl rfl (ac _ _ _ _ g2),de rfl rfl (K _ _ _ _ l1),de rfl rfl (ac _ _ _ _ g3),de rfl rfl (K _ _ _ _ l3),de rfl rfl (ae _ _ _ (by rw[iI];exact g6)),de rfl rfl (af _),de rfl rfl (K _ _ _ _ lm),
  de rfl rfl (ac _ _ _ _ g2),de rfl rfl (K _ _ _ _ lp),de rfl rfl (ak _),zP rfl rfl,de rfl rfl (ac _ _ _ _ g3),de rfl rfl (K _ _ _ _ l3),de rfl rfl (ae _ _ _ (by rw[iI];exact g6)),de rfl rfl (af _),de rfl rfl (K _ _ _ _ lm),de rfl rfl (an _)]
 rw[CP (c:=kw mk) (k:=some (1,1)) rfl rfl,pB _ _ _ _ oM];rfl
theorem Ob(Z:List V)(env:T V)(n:Nat)(z:g_):ce (.B (kw z)::Z) env (.b [ZY 0,.f [],.f [],.r,.f [],.r] [(0,6)] 1 [.l 0]) (.y n 0 1 1) (kw z)=true:=by have e:jI (.B (kw z)::Z) env (.b [ZY 0,.f [],.f [],.r,.f [],.r] [(0,6)] 1 [.l 0])=some (kw z,some (1,1)):=rfl;simp[ce,e,T2,eM,eK,d7]
theorem MX{h:a_}{x:m_}{ky:g_}{sub:PT}{Q:Ex->T V->a_->Prop}(f0:Fr [] h h1)(a:u_ h x)(hm:x.C.length<=8)(n:PH h (.o_ 5 tg ky sl tx va vc sub .w_))(aJ:∀s∈sl,s.2.1<=3)
 (op:e_ h1 pb [ZY 5,.f tg,.f ky,va,.f tx,vc]) (oi:e_ h1 ib x.s) (e2:env.c_ 2=some (.u pb 0)) (e3:env.c_ 3=some (.u ib 0))
 (k:∀u h' env',env'.c_ 4=some u->MDp h x 5 tg ky sl tx sub u h'->Q .d env' h'):W go mdE env h1 Q:=by
 let⟨n1,ra,na,rc,nc,n6,_⟩:=n;have w1:=f0.o;have fin:nV x 5 tg ky sl tx (bZ x sub)=kE tg (sl.map (N_ x)) x.C:=rfl;simp[b_,mdE];refine aA (fun n env hh=>Fr [] h1 hh/\∃(i:Nat)(s:NT)(vo:V),env.c_ 6=some (ZZ (i:Int))/\env.c_ 5=some vo/\env.c_ 2=some (.u pb 0)/\env.c_ 3=some (.u ib 0)/\i<=x.C.length/\
  Gs hh h1.e 6 vo s.J_/\c? vo h1.e hh s/\s.sh.X0 (kE tg (sl.map (N_ x)) (x.C.drop i))=kE tg (sl.map (N_ x)) x.C/\s.y_=i/\n=x.C.length-i) x.C.length oM ?_ ?_
 exact⟨Wl w1,0,.D_,.r,iS,iS,iX,iX,oM,.inl ⟨rfl,rfl⟩,fun _ _ _ _=>trivial,rfl,rfl,rfl⟩;rintro n' env hh ⟨F,i,s,vo,g6,g5,g2,g3,hi,G,I,e,sn,rfl⟩;have F0:=f0.c F;let⟨u0,u1,u2,u3,u4,u5,u6⟩:=(F.i op).at6;have i3:ab hh ib 3=some x.vm:=(F.i oi).j 3;have i4:aj hh ib 0 4=some x.s:=by rw[(F.i oi).N];rfl
 have am:=a.m.fr F0;by_cases aN:i<x.C.length;have Z:(i:Int)<x.C.length:=oM;let⟨b3,o3,mk,p1,p2,_,p4⟩:=am.ix fW .i64 (i:Int) oM Z;have p3:ab hh b3 o3=some (.f mk):=p2 0 oM;rw[pi]at p4;rw[aL p4]at e;simp only[b_,seval,g6,g3,i3,am.t_,Z];refine(Fv _ _ _ _ _ _).2 ?_;refine⟨_,_,OF (v5:=vo) iX iX iX iX u1 i3 p1 p3 u3 i4,?_⟩;have K:=WA F.o (kw mk);have o2:=Xc F.o (kw mk);have n2:(h_ hh (kw mk)).e=hh.e+1:=rfl;generalize h_ hh (kw mk)=h2 at K o2 n2|-;let⟨r0,r1,r2,r3,r4,r5,r6⟩:=(K.i (F.i op)).at6;have i32:ab h2 ib 3=some x.vm:=(K.i (F.i oi)).j 3;have ay:aj h2 ib 0 4=some x.s:=by rw[(K.i (F.i oi)).N];rfl
 have an:ab h2 b3 o3=some (.f mk):=by let⟨b3',af,mk',ae,p2',_,ac⟩:=(am.fr K).ix fW .i64 (i:Int) oM Z;rw[p1]at ae;cases ae;rw[pi,p4]at ac;cases ac;exact p2' 0 oM
 simp only[b_,seval,j_,g6,g5,g2,g3,r1,r3,i32,ay,p1,an];apply aa (wO K.o (a.fr (F0.c K)) (ra.fr (F0.c K)) na aJ);rintro vA h3 ⟨GA,F3⟩;have aH:vA.U=true:=(ZT (n:=sl.length) GA (by rw[aC eQ];simp) oM).U;let⟨t0,t1,t2,t3,t4,t5,t6⟩:=(F3.i (K.i (F.i op))).at6;have ar:ab h3 ib 3=some x.vm:=(F3.i (K.i (F.i oi))).j 3;have ax:ab h3 b3 o3=some (.f mk):=by let⟨b3',af,mk',ae,p2',_,ac⟩:=(am.fr (K.c F3)).ix fW .i64 (i:Int) oM Z;rw[p1]at ae;cases ae;rw[pi,p4]at ac;cases ac;exact p2' 0 oM
 simp only[b_,seval,j_,g6,g3,p1,ar,ax,Ob,aF aH];have n3:=F3.e;have aR:=F.e;have az:∀y∈vb vo,h1.e<=y/\y<hh.e:=by obtain⟨rfl,_⟩|⟨b,n,rfl,_,_,hb,o⟩:=G;simp[vb];have:=o.lt F.o;simp only[vb,Wi];rintro y rfl;exact⟨hb,this⟩
 have ak:=K.c F3;have af:=F3.i o2;refine mw (k:=1) (n0:=h1.e) (B:=h1.e) (s:=s) (at':=sl.map (N_ x)) (sub:=.z_ 2 [] [] [] mk .r .r .D_ .D_) F3.o (ZV G ak iS) oM oM (I.fr F.o ak) (fun X h' hX f=>?_) oM ?_;have lt:∀y∈X,y<hh.e:=fun y m=>by obtain q|q:=hX y m;omega;exact(az y q).2
 refine⟨oM,?_,by simpa using na,Xy (f.I _ _ (fun m=>by have:=lt _ m;omega) af) rfl,by simp[NT.y_],mB 2 oM [] mk,trivial⟩;exact ZT (n:=(sl.map (N_ x)).length) (ZV GA f (fun y m=>by have:=lt y m;omega)) (by rw[aC eQ]) oM;intro v' h' G' I' F' V';have Fn:Fr [] h1 h':=XD w1 (F.c ak) F' (fun y m=>(az y m).1);simp(disch:=omega) only[b_,seval,DF,j_,ag,g6,g3,r1,r3,i32,ay,an,t1,ar,ax];refine s_ ⟨x.C.length-(i+1),oM,Fn,i+1,_,v',iS,iS,iX,iX,oM,G',I',?_,?_,rfl⟩;rw[NT.Y4,ST.X1];exact e;rw[NT.G?,sn];rfl;have Z:¬(i:Int)<x.C.length:=oM;rw[Wo oM]at e;have e':s.sh=kE tg (sl.map (N_ x)) x.C:=by rw[<-e];show _=s.sh.X0 .Y0;rw[ST.Z7]
 simp[b_,g6,g5,g3,i3,am.t_,eq_false Z];refine k vo _ _ iS ⟨s,by rw[fin,e'],F0,oM,fun q=>?_,fun X h2 hX f=>⟨I X h2 (fun y m=>.inl (by have:=hX y m;have:=f0.e;omega)) f,ZT (n:=s.y_) (ZV G f (fun y m=>by have:=hX y m;have:=f0.e;omega)) s.R6 oM⟩⟩;obtain⟨rfl,_⟩|⟨b,n,rfl,z,z2,_⟩:=G;rfl;have:=s.R6;omega
theorem HG{k:Nat}{ky:g_}{sub:PT}(M:MDs sub):MD k tg ky sl tx va vc sub:=by intro x h w a hm n g;have n0:=n;have g0:=g;let⟨k1,k5,g3,_⟩:=g;let⟨h1,K,ak,an⟩:=aq w [ZY (k:Int),.f tg,.f ky,va,.f tx,vc];let⟨h2,Z,af,ac⟩:=aq ak.o x.s;have ae:=ak.c af;have op:=af.i an;have l0:ab h2 h.e 0=some (ZY (k:Int)):=op.j 0;have l4:ab h2 h.e 4=some (.f tx):=op.j 4;have x0:ab h2 h1.e 0=some (ZX (x.J:Int)):=ac.j 0;have x2:ab h2 h1.e 2=some (.f x.X):=ac.j 2;have ks:k=1\/k=2\/k=3\/k=4\/k=5:=oM;refine ah ?_;obtain e|e|e|e|e:=ks;simp[b_,<-K,<-Z,l0,(oM:¬(k:Int)=2),(oM:¬(k:Int)=3),(oM:¬(k:Int)=4),(oM:¬(k:Int)=5)];subst e;exact MW M ae a hm n0 g0 op ac iS iS fun u h' r=>r;simp[b_,<-K,<-Z,l0,eq_true (oM:(k:Int)=2),l4];exact xO ae (by subst e;rfl);simp[b_,<-K,<-Z,l0,(oM:¬(k:Int)=2),eq_true (oM:(k:Int)=3),x2];exact xO ae (by subst e;rfl);simp[b_,<-K,<-Z,l0,(oM:¬(k:Int)=2),(oM:¬(k:Int)=3),eq_true (oM:(k:Int)=4),x0];apply aa (pL (x.J+1) x.J oM a.k);rintro _ _ ⟨rfl,rfl⟩;simp[b_];exact xO ae (by subst e;rfl);simp[b_,<-K,<-Z,l0,(oM:¬(k:Int)=2),(oM:¬(k:Int)=3),(oM:¬(k:Int)=4),eq_true (oM:(k:Int)=5)];subst e;refine MX ae a hm n0 g3 op ac iS iS fun u h' ar q r=>?_;simp[b_,q];exact r
theorem MV:∀t:PT,MDs t
 |.w_=>trivial
 |.o_ _ _ _ _ _ _ _ sub nx=>⟨HG (MV sub),MV nx⟩
theorem LS{h:a_}{sub:NT}(sl:Sl h 6 vc sub.y_ sub.J_){i:Nat}(hi:i<sub.y_):∃b o ky,aP (.c 6) [vc,ZZ (i:Int)]=some (.u b o)/\ab h b (o+2)=some (.f ky)/\sub.P2[i]? =some ky/\sub.P2.drop i=ky::sub.P2.drop (i+1):=by let⟨kd,an,Z,ar,af,ae,ak,ac,nx,e1,e2,e3,e4,K,_⟩:=sub.M? i hi;let⟨b,o,p1,p2⟩:=Sl.ix6 sl hi e2;exact⟨b,o,Z,p1,p2.2.2.1,K,aL K⟩
def KX(l:List g_):Prop:=∀(i j:Nat)(q r:g_),j<i->l[i]? =some q->l[j]? =some r->q=[]\/r≠q
theorem KX.a{l:List g_}(h:KX l):∀(n i:Nat),i+n=l.length→gK (l.take i) (l.drop i)=true
 |0,i,e=>by rw[List.drop_of_length_le oM];rfl
 |n+1,i,e=>by
  have hi:i<l.length:=oM;have g:=List.getElem?_eq_getElem hi;rw[List.drop_eq_getElem_cons hi,qX,Bool.and_eq_true];refine⟨?_,?_⟩;by_cases z:l[i]=[];simp[z];rw[Bool.or_eq_true];right;simp only[Bool.not_eq_true',List.any_eq_false,beq_iff_eq];intro q m e';obtain⟨j,hj,rfl⟩:=List.getElem_of_mem m;have hj':j<i:=by simp at hj;omega
  have gj:l[j]? =some (l.take i)[j]:=by grind
  obtain w|w:=h i j _ _ hj' g gj;exact z w;exact w e';have:=KX.a h n (i+1) oM;rwa[List.take_add_one,g]at this
theorem KX.b{l:List g_}(h:KX l):gK [] l=true:=by simpa using KX.a h l.length 0 oM
theorem MP{h:a_}{sub:NT}(l5:ab h pb 5=some vc)(sl:Sl h 6 vc sub.y_ sub.J_)(nl:sub.y_<=4096)(e1:env.c_ 1=some (.u pb 0))
 (k:∀b,(b=true↔KX sub.P2)->R (.h b) h):W go noC env h (i9 [.t 2] R):=by
 have kl:=sub.L?;simp[b_,noC];refine aA (fun n env hh=>hh=h/\∃(i:Nat),env.c_ 5=some (ZZ (i:Int))/\env.c_ 1=some (.u pb 0)/\i<=sub.y_/\(∀(i' j:Nat)(q r:g_),i'<i->j<i'->sub.P2[i']? =some q->sub.P2[j]? =some r->q=[]\/r≠q)/\n=sub.y_-i) sub.y_ oM ?_ ?_;exact⟨rfl,0,iS,iX,oM,fun _ _ _ _ z=>by omega,rfl⟩;rintro n env hh ⟨rfl,i,g5,g1,hi,P,rfl⟩;by_cases an:i<sub.y_;have ac:(i:Int)<sub.y_:=oM;let⟨b,o,ky,p1,p2,p3,p4⟩:=LS sl an;simp only[b_,seval,g5,g1,l5,sl.t_,ac];refine aA (fun n env h2=>h2=hh/\∃(j:Nat),env.c_ 6=some (ZZ (j:Int))/\env.c_ 5=some (ZZ (i:Int))/\env.c_ 1=some (.u pb 0)/\j<=i/\(∀(j':Nat)(r:g_),j'<j->sub.P2[j']? =some r->ky=[]\/r≠ky)/\n=i-j) i oM ?_ ?_;exact⟨rfl,0,iS,iX,iX,oM,fun _ _ z=>by omega,rfl⟩;rintro n' ay h2 ⟨rfl,j,g6,g5,g1,hj,Q,rfl⟩;by_cases ar:j<i;have Z:(j:Int)<i:=oM;let⟨b',o',ae,ak,af,ax,az⟩:=LS sl (oM:j<sub.y_);have step:(ky=[]\/ae≠ky)->∀(j':Nat)(r:g_),j'<j+1->sub.P2[j']? =some r->ky=[]\/r≠ky:=by grind
 cases c1:ky==[];cases c2:ky==ae;simp(disch:=omega) only[b_,seval,DF,j_,ag,g6,g5,g1,l5,p1,p2,ak,af,Z,bD,aS,c1,c2];refine s_ ⟨i-(j+1),oM,rfl,j+1,iS,iX,iX,oM,step (.inr (by rintro rfl;simp at c2)),rfl⟩;simp[b_,DF,j_,g6,g5,g1,l5,p1,p2,ak,af,Z,bD,aS,c1,c2];refine k false ⟨fun e=>(by cases e),fun K=>?_⟩;obtain z|z:=K i j ky ae ar p3 ax;grind;grind;simp(disch:=omega) only[b_,seval,DF,j_,ag,g6,g5,g1,l5,p1,p2,Z,bD,c1];refine s_ ⟨i-(j+1),oM,rfl,j+1,iS,iX,iX,oM,step (.inl (eV c1)),rfl⟩;have:j=i:=oM;subst this;have Z:¬(j:Int)<j:=oM;simp(disch:=omega) only[b_,seval,ag,g6,g5,eq_false Z];refine s_ ⟨sub.y_-(j+1),oM,rfl,j+1,iS,iX,oM,fun i' j' q r aH aJ e e2=>?_,rfl⟩;obtain z|z:=WY i' j;grind;grind;have ac:¬(i:Int)<sub.y_:=oM;simp[b_,g5,g1,l5,sl.t_,eq_false ac];refine k true ⟨fun _ i' j q r hj e e2=>P i' j q r ?_ hj e e2,fun _=>rfl⟩;have:=(Wk.1 e).1;omega
def AX(l:List (g_×g_)):Prop:=∀(i:Nat)(a:g_×g_),l[i]? =some a->G_ a.1=true/\P8 a.2=true/\∀(j:Nat)(q:g_×g_),j<i->l[j]? =some q->r? a.1 q.1=false
theorem AX.a{l:List (g_×g_)}(h:AX l):∀(n i:Nat),i+n=l.length→dS (kB l i) (l.drop i)=true
 |0,i,e=>by rw[List.drop_of_length_le oM];cases kB l i<;>rfl
 |n+1,i,e=>by
  have hi:i<l.length:=oM;have g:=List.getElem?_eq_getElem hi;let⟨x1,x2,x3⟩:=h i _ g;rw[List.drop_eq_getElem_cons hi,pU,x1,x2];have y:=AX.a h n (i+1) oM;rw[tC g]at y;rw[y];have:cP (kB l i) (l[i]).1=true:=by by_cases z:i=0;subst z;rfl;have gj:=List.getElem?_eq_getElem (oM:i-1<l.length);have:=x3 (i-1) _ oM gj;simp[kB,z,gj,cP,this]
  rw[this];rfl
theorem AX.b{l:List (g_×g_)}(h:AX l):dS none l=true:=by simpa[kB]using AX.a h l.length 0 oM
theorem MQ{h:a_}{at':List (g_×g_)}{sub:NT}(l3:ab h pb 3=some va)(ra:q_ gG 2 h va at')(na:at'.length<=4096)(l5:ab h pb 5=some vc)(sl:Sl h 6 vc sub.y_ sub.J_)(nl:sub.y_<=4096)(e1:env.c_ 1=some (.u pb 0))
 (k:∀b,(b=true↔AX at'/\KX sub.P2)->R (.h b) h):W go noA env h (i9 [.t 2] R):=by
 simp[b_,noA];refine aA (fun n env hh=>hh=h/\∃(i:Nat),env.c_ 3=some (ZZ (i:Int))/\env.c_ 1=some (.u pb 0)/\i<=at'.length/\(∀(i':Nat)(a:g_×g_),i'<i->at'[i']? =some a->G_ a.1=true/\P8 a.2=true/\∀(j:Nat)(q:g_×g_),j<i'->at'[j]? =some q->r? a.1 q.1=false)/\n=at'.length-i) at'.length oM ?_ ?_;exact⟨rfl,0,iS,iX,oM,fun _ _ z=>by omega,rfl⟩;rintro n env hh ⟨rfl,i,g3,g1,hi,P,rfl⟩;by_cases ay:i<at'.length;have Z:(i:Int)<at'.length:=oM;let⟨b,o,a,p1,p2,_,p4⟩:=ra.ix eQ .i64 (i:Int) oM Z;rw[pi]at p4;have q0:ab hh b o=some (.f a.1):=p2 0 oM;have q1:ab hh b (o+1)=some (.f a.2):=p2 1 oM;simp only[b_,seval,g3,g1,l3,ra.t_,Z,p1,q0];apply aa fG;rintro _ _ ⟨rfl,rfl⟩;cases c1:G_ a.1;simp[b_];exact k false ⟨fun e=>(by cases e),fun K=>by have:=(K.1 i a p4).1;rw[c1]at this;cases this⟩;simp only[b_,seval,g3,g1,l3,p1,q1];apply aa kK;rintro _ _ ⟨rfl,rfl⟩;cases c2:P8 a.2;simp[b_];exact k false ⟨fun e=>(by cases e),fun K=>by have:=(K.1 i a p4).2.1;rw[c2]at this;cases this⟩;simp only[b_,seval];refine aA (fun n env h2=>h2=hh/\∃(j:Nat),env.c_ 4=some (ZZ (j:Int))/\env.c_ 3=some (ZZ (i:Int))/\env.c_ 1=some (.u pb 0)/\j<=i/\(∀(j':Nat)(q:g_×g_),j'<j->at'[j']? =some q->r? a.1 q.1=false)/\n=i-j) i oM ?_ ?_;exact⟨rfl,0,iS,iX,iX,oM,fun _ _ z=>by omega,rfl⟩;rintro n' ax h2 ⟨rfl,j,g4,g3,g1,hj,Q,rfl⟩;by_cases ar:j<i;have ac:(j:Int)<i:=oM;let⟨b',o',a2,ak,an,_,af⟩:=ra.ix eQ .i64 (j:Int) oM oM;rw[pi]at af;have ae:ab h2 b' o'=some (.f a2.1):=an 0 oM;cases c3:r? a.1 a2.1;simp(disch:=omega) only[b_,seval,DF,j_,ag,g4,g3,g1,l3,p1,q0,ak,ae,ac,mQ,c3];refine s_ ⟨i-(j+1),oM,rfl,j+1,iS,iX,iX,oM,?_,rfl⟩;intro j' q aH e;obtain z|z:=WY j' j;exact Q j' q z e;grind;simp[b_,DF,j_,g4,g3,g1,l3,p1,q0,ak,ae,ac,mQ,c3];exact k false ⟨fun e=>(by cases e),fun K=>by have:=(K.1 i a p4).2.2 j a2 ar af;rw[c3]at this;cases this⟩;have:j=i:=oM;subst this;have ac:¬(j:Int)<j:=oM;simp(disch:=omega) only[b_,seval,ag,g4,g3,eq_false ac];refine s_ ⟨at'.length-(j+1),oM,rfl,j+1,iS,iX,oM,fun i' b az e=>?_,rfl⟩;obtain z|z:=WY i' j;exact P i' b z e;grind;have Z:¬(i:Int)<at'.length:=oM;simp[b_,g3,g1,l3,ra.t_,eq_false Z];refine MP l5 sl nl iX fun b hb=>k b (hb.trans ⟨fun e=>⟨fun i' a e'=>P i' a ?_ e',e⟩,fun e=>e.2⟩);have:=(Wk.1 e').1;omega
def OX(k:Nat)(tg ky:g_)(at':List (g_×g_))(tx:g_)(sub:NT):Prop:=
 (k=2/\P8 tx=true/\(tg==[])=true/\(ky==[])=true/\at'.length=0/\sub.y_=0)\/(k=1/\G_ tg=true/\(ky==[]||G_ ky)=true/\(tx==[])=true/\at'.length<=8/\sub.y_<=16/\AX at'/\KX sub.P2)
theorem OX.b{k:Nat}{ky:g_}{at':List (g_×g_)}{sub:NT}(h:OX k tg ky at' tx sub):ST.alone k tg ky at' tx sub.sh=true:=by have z:=NT.e? sub;have zk:sub.sh.keys=sub.P2:=NT.p? sub;unfold ST.alone;obtain⟨h1,Z,h3,K,h5,h6⟩|⟨h1,Z,h3,K,h5,h6,h7,h8⟩:=h;grind;rw[if_neg oM,Z,h3,K,h7.b,zk,h8.b,decide_eq_true h1,decide_eq_true h5,decide_eq_true (oM:sub.sh.f?<=16)];rfl
theorem J3{h:a_}{k:Nat}{ky:g_}{at':List (g_×g_)}{sub:NT}(w:WF h)(n:NH h (.z_ k tg ky at' tx va vc sub .D_)):
 ao go 255 [.B [ZY (k:Int),.f tg,.f ky,va,.f tx,vc]] h fun u h'=>Fr [] h h'/\∃b,u=.h b/\(b=true↔OX k tg ky at' tx sub):=by
 let⟨n1,ra,na,rc,nc,n6,_⟩:=n;let⟨K,ak,Z,ac⟩:=aq w [ZY (k:Int),.f tg,.f ky,va,.f tx,vc];have l0:ab K h.e 0=some (ZY (k:Int)):=ac.j 0;have l1:ab K h.e 1=some (.f tg):=ac.j 1;have l2:ab K h.e 2=some (.f ky):=ac.j 2;have l3:ab K h.e 3=some va:=ac.j 3;have l4:ab K h.e 4=some (.f tx):=ac.j 4;have l5:ab K h.e 5=some vc:=ac.j 5;have ae:=ra.fr Z;have af:=rc.fr Z;have no:∀{h'},Fr [] h h'->¬OX k tg ky at' tx sub->(Fr [] h h'/\∃b,V.h false=.h b/\(b=true↔OX k tg ky at' tx sub)):=fun f x=>⟨f,false,rfl,fun e=>(by cases e),fun e=>absurd e x⟩;by_cases k2:(k:Int)=2;refine ah ?_;simp only[b_,seval,<-ak,l0,eq_true k2,l4];refine aa kK ?_;rintro _ _ ⟨rfl,rfl⟩;cases c1:P8 tx;simp only[b_,seval];exact no Z (by rintro(⟨K,h2,h3,h4,h5,h6⟩|⟨K,h2,h3,h4,h5,h6,h7⟩)<;>first|omega|simp_all)
 cases c2:tg==[];simp only[b_,seval,l1,aS,c2];exact no Z (by rintro(⟨K,h2,h3,h4,h5,h6⟩|⟨K,h2,h3,h4,h5,h6,h7⟩)<;>first|omega|simp_all)
 cases c3:ky==[];simp only[b_,seval,l1,l2,aS,c2,c3];exact no Z (by rintro(⟨K,h2,h3,h4,h5,h6⟩|⟨K,h2,h3,h4,h5,h6,h7⟩)<;>first|omega|simp_all)
 by_cases c4:(at'.length:Int)=0;simp only[b_,seval,l1,l2,l3,l5,aS,c2,c3,ae.t_,eq_true c4,af.t_];refine⟨Z,_,rfl,fun e=>?_,fun e=>?_⟩;have e0:=of_decide_eq_true e;exact .inl ⟨oM,c1,c2,c3,oM,oM⟩;obtain⟨K,h2,h3,h4,h5,h6⟩|⟨K,_⟩:=e;grind;omega;simp only[b_,seval,l1,l2,l3,aS,c2,c3,ae.t_,eq_false c4];exact no Z (by rintro(⟨K,h2,h3,h4,h5,h6⟩|⟨K,h2,h3,h4,h5,h6,h7⟩)<;>first|omega|simp_all)
 by_cases k1:(k:Int)=1;refine ah ?_;simp only[b_,seval,<-ak,l0,eq_false k2,eq_true k1,l1];refine aa fG ?_;rintro _ _ ⟨rfl,rfl⟩;cases c1:G_ tg;simp only[b_,seval];exact no Z (by rintro(⟨K,h2,h3,h4,h5,h6⟩|⟨K,h2,h3,h4,h5,h6,h7⟩)<;>first|omega|simp_all)
 have rest:∀{env:T V},env.c_ 1=some (.u h.e 0)->tx==[]->(ky==[]||G_ ky)=true->at'.length<=8->sub.y_<=16->W go noA env K (i9 [.t 2] fun u h'=>Fr [] h h'/\∃b,u=.h b/\(b=true↔OX k tg ky at' tx sub)):=by intro env e1 c3 c2 c4 c5;refine MQ l3 ae na l5 af nc e1 fun b hb=>⟨Z,b,rfl,fun e=>.inr ⟨oM,c1,c2,c3,c4,c5,hb.1 e⟩,fun e=>?_⟩;obtain⟨K,_⟩|⟨K,h2,h3,h4,h5,h6,h7⟩:=e;omega;exact hb.2 h7
 cases c2:ky==[];simp only[b_,seval,l2,bD,c2];apply aa fG;rintro _ _ ⟨rfl,rfl⟩;cases an:G_ ky;simp only[b_,seval];exact no Z (by rintro(⟨K,h2,h3,h4,h5,h6⟩|⟨K,h2,h3,h4,h5,h6,h7⟩)<;>first|omega|simp_all)
 cases c3:tx==[];simp only[b_,seval,l4,bD,c3];exact no Z (by rintro(⟨K,h2,h3,h4,h5,h6⟩|⟨K,h2,h3,h4,h5,h6,h7⟩)<;>first|omega|simp_all)
 by_cases c4:(8:Int)<(at'.length:Nat);simp only[b_,seval,l3,l4,bD,c3,ae.t_,eq_true c4];exact no Z (by rintro(⟨K,h2,h3,h4,h5,h6⟩|⟨K,h2,h3,h4,h5,h6,h7⟩)<;>first|omega|simp_all)
 by_cases c5:(16:Int)<(sub.y_:Nat);simp only[b_,seval,l3,l4,l5,bD,c3,ae.t_,eq_false c4,af.t_,eq_true c5];exact no Z (by rintro(⟨K,h2,h3,h4,h5,h6⟩|⟨K,h2,h3,h4,h5,h6,h7⟩)<;>first|omega|simp_all)
 simp only[b_,seval,l3,l4,l5,bD,c3,ae.t_,eq_false c4,af.t_,eq_false c5];exact rest iS c3 (by rw[c2,an];rfl) oM oM;simp only[b_,seval,l2,l3,l4,bD,c2];cases c3:tx==[];simp only[b_,seval];exact no Z (by rintro(⟨K,h2,h3,h4,h5,h6⟩|⟨K,h2,h3,h4,h5,h6,h7⟩)<;>first|omega|simp_all)
 by_cases c4:(8:Int)<(at'.length:Nat);simp only[b_,seval,ae.t_,eq_true c4];exact no Z (by rintro(⟨K,h2,h3,h4,h5,h6⟩|⟨K,h2,h3,h4,h5,h6,h7⟩)<;>first|omega|simp_all)
 by_cases c5:(16:Int)<(sub.y_:Nat);simp only[b_,seval,l5,ae.t_,eq_false c4,af.t_,eq_true c5];exact no Z (by rintro(⟨K,h2,h3,h4,h5,h6⟩|⟨K,h2,h3,h4,h5,h6,h7⟩)<;>first|omega|simp_all)
 simp only[b_,seval,l5,ae.t_,eq_false c4,af.t_,eq_false c5];exact rest iS c3 (by rw[c2];rfl) oM oM;refine ah ?_;simp only[b_,seval,<-ak,l0,eq_false k2,eq_false k1];exact no Z (by rintro(⟨K,h2,h3,h4,h5,h6⟩|⟨K,h2,h3,h4,h5,h6,h7⟩)<;>first|omega|simp_all)
open Classical in
def NT.rs:NT->Nat->Nat->Nat
 |.D_,_,c=>c
 |.z_ k tg ky at' tx _ _ sub nx,lv,c=>if 64<c then c else nx.rs lv (c+(if lv=0\/¬OX k tg ky at' tx sub then 1000 else sub.rs (lv-1) 1))
open Classical in
def NT.rn(k:Nat)(tg ky:g_)(at':List (g_×g_))(tx:g_)(sub:NT)(lv:Nat):Nat:=if lv=0\/¬OX k tg ky at' tx sub then 1000 else sub.rs (lv-1) 1
theorem NT.rs_cons(k:Nat)(tg ky:g_)(at':List (g_×g_))(tx:g_)(va vc:V)(sub nx:NT)(lv c:Nat):(NT.z_ k tg ky at' tx va vc sub nx).rs lv c=if 64<c then c else nx.rs lv (c+NT.rn k tg ky at' tx sub lv):=rfl
theorem NT.rs_le:∀(t:NT)(lv c:Nat),t.rs lv c≤max c (1064+64*lv)
 |.D_,lv,c=>by simp only[NT.rs];omega
 |.z_ k tg ky sl tx va vc sub nx,lv,c=>by
  rw[NT.rs_cons];split;omega;have h1:=NT.rs_le sub (lv-1) 1;have h2:=NT.rs_le nx lv (c+NT.rn k tg ky sl tx sub lv);have:NT.rn k tg ky sl tx sub lv≤max 1000 (1000+64*lv):=by unfold NT.rn;split;omega;omega
  omega
theorem NT.rs_ge:∀(t:NT)(lv c:Nat),c≤t.rs lv c
 |.D_,lv,c=>Nat.le_refl _
 |.z_ k tg ky sl tx va vc sub nx,lv,c=>by rw[NT.rs_cons];split;omega;have h2:=NT.rs_ge nx lv (c+NT.rn k tg ky sl tx sub lv);omega
theorem NT.rn_le(k:Nat)(tg ky:g_)(sl:List (g_×g_))(tx:g_)(sub:NT)(lv:Nat):NT.rn k tg ky sl tx sub lv<=1064+64*lv/\1<=NT.rn k tg ky sl tx sub lv:=by unfold NT.rn;split;omega;have:=NT.rs_le sub (lv-1) 1;have:=NT.rs_ge sub (lv-1) 1;omega
theorem NT.rs_stop:∀(t:NT)(lv c:Nat),64<c->t.rs lv c=c
 |.D_,_,_,_=>rfl
 |.z_ _ _ _ _ _ _ _ _ _,_,_,h=>by rw[NT.rs_cons,if_pos h]
theorem NT.rs_walk:∀(t:NT)(lv c c0:Nat),lv≤6→c0+t.rs lv c≤64→t.sh.Z8 (7-lv) (c0+c)=(c0+t.rs lv c,true)
 |.D_,_,_,_,_,_=>rfl
 |.z_ k tg ky sl tx va vc sub nx,lv,c,c0,hl,h=>by
  have g:=NT.rs_ge (.z_ k tg ky sl tx va vc sub nx) lv c;have c64:¬64<c:=oM;rw[NT.rs_cons,if_neg c64]at h⊢;have g2:=NT.rs_ge nx lv (c+NT.rn k tg ky sl tx sub lv);have g3:=(NT.rn_le k tg ky sl tx sub lv).2;have er:¬(lv=0∨¬OX k tg ky sl tx sub):=by
   intro q;have:NT.rn k tg ky sl tx sub lv=1000:=by unfold NT.rn;rw[if_pos q]
   omega
  have ev:NT.rn k tg ky sl tx sub lv=sub.rs (lv-1) 1:=by unfold NT.rn;rw[if_neg er]
  have ox:OX k tg ky sl tx sub:=Classical.byContradiction fun q=>er (.inr q);have l0:lv≠0:=fun e=>er (.inl e);have nd:ST.B? k tg ky sl tx sub.sh sub.sh.Z8 (7-lv) (c0+c)=(c0+c+NT.rn k tg ky sl tx sub lv,true):=by unfold ST.B?;rw[if_neg (by rw[ox.b];simp;omega),(oM:7-lv+1=7-(lv-1)),NT.rs_walk sub (lv-1) 1 (c0+c) oM oM,ev]
  simp only[NT.sh,ST.Z8,nd,if_true];rw[Nat.add_assoc,NT.rs_walk nx lv _ c0 hl h]
theorem NT.rn_node(k:Nat)(tg ky:g_)(sl:List (g_×g_))(tx:g_)(sub:NT)(h:NT.rn k tg ky sl tx sub 6<=64):ST.V2 k tg ky sl tx sub.sh=NT.rn k tg ky sl tx sub 6:=by have:=NT.rs_walk (.z_ k tg ky sl tx .r .r sub .D_) 6 0 0 oM (by rw[NT.rs_cons,if_neg oM];simpa[NT.rs]using h);rw[NT.rs_cons,if_neg oM]at this;simp only[NT.sh,ST.Z8,NT.rs,WG]at this;unfold ST.V2;split at this;grind;grind
def CN(k:Nat)(tg ky:g_)(at':List (g_×g_))(tx:g_)(va vc:V)(sub:NT):Prop:=∀(lv:Nat)(h:a_),lv<=6->WF h->NH h (.z_ k tg ky at' tx va vc sub .D_)->
 ao go 204 [.B [ZY (k:Int),.f tg,.f ky,va,.f tx,vc],ZZ (lv:Int)] h fun u h'=>Fr [] h h'/\u=ZZ (NT.rn k tg ky at' tx sub lv:Nat)
def CNs:NT->Prop
 |.D_=>True
 |.z_ k tg ky at' tx va vc sub nx=>CN k tg ky at' tx va vc sub/\CNs nx
theorem CNs.Z5:∀{t:NT}(i:Nat),CNs t->CNs (t.at' i)
 |.D_,0,_=>trivial
 |.D_,_+1,_=>trivial
 |.z_ _ _ _ _ _ _ _ _ _,0,a=>a
 |.z_ _ _ _ _ _ _ _ _ _,i+1,⟨_,b⟩=>CNs.Z5 i b
theorem NT.at_end':∀(t:NT)(i:Nat),t.y_<=i->t.at' i=.D_
 |.D_,0,_=>rfl
 |.D_,_+1,_=>rfl
 |.z_ _ _ _ _ _ _ _ _ nx,0,h=>by simp[NT.y_]at h
 |.z_ _ _ _ _ _ _ _ _ nx,i+1,h=>NT.at_end' nx i (by simp[NT.y_]at h;omega)
theorem EX{k:Nat}{ky:g_}{at':List (g_×g_)}{sub:NT}(M:CNs sub):CN k tg ky at' tx va vc sub:=by
 intro lv h aT w n;have n0:=n;let⟨n1,ra,na,rc,nc,n6,_⟩:=n;let⟨h1,ae,K,ak⟩:=aq w [ZY (k:Int),.f tg,.f ky,va,.f tx,vc];by_cases c1:(lv:Int)<1;refine ah ?_;simp only[b_,seval,<-ae,eq_true c1];exact⟨K,by rw[NT.rn,if_pos (.inl oM)];rfl⟩;have l6:aj h1 h.e 0 6=some [ZY (k:Int),.f tg,.f ky,va,.f tx,vc]:=by rw[ak.N];rfl
 refine ah ?_;simp[b_,<-ae,eq_false c1,l6];refine aa (J3 K.o (n0.fr K)) ?_;rintro _ h2 ⟨F2,b,rfl,hb⟩;have az:=K.c F2;cases c2:b;simp only[b_,seval];exact⟨az,by rw[NT.rn,if_pos (.inr fun x=>by have:=hb.2 x;rw[c2]at this;cases this)];rfl⟩;have al:=hb.1 c2;have o2:=F2.i ak;simp[b_];refine aA (fun n env hh=>Fr [] h2 hh/\∃(i c:Nat),env.c_ 6=some (ZZ (i:Int))/\env.c_ 5=some (ZZ (c:Int))/\env.c_ 2=some (.u h.e 0)/\env.c_ 1=some (ZZ (lv:Int))/\i<=sub.y_/\c<=2000/\
  (sub.at' i).rs (lv-1) c=sub.rs (lv-1) 1/\n=sub.y_-i) sub.y_ oM ?_ ?_
 exact⟨Wl F2.o,0,1,iS,iS,iS,iS,oM,oM,by cases sub<;>rfl,rfl⟩;rintro n' env hh ⟨F,i,c,g6,g5,g2,g1,hi,hc,P,rfl⟩;have F0:=az.c F;have l5:ab hh h.e 5=some vc:=(F.i o2).j 5;have ac:=rc.fr F0;have done:c=sub.rs (lv-1) 1-> ZZ (c:Int)=ZZ (NT.rn k tg ky at' tx sub lv:Nat):=fun e=>by rw[NT.rn,if_neg (by intro q;obtain q|q:=q;omega;exact q al),<-e]
 by_cases an:i<sub.y_;have Z:(i:Int)<sub.y_:=oM;by_cases c3:(c:Int)<=64;let⟨kd,ar,ay,ax,aH,aN,aR,af,nx,e1,e2,e3,e4,e5,_⟩:=sub.M? i an;let⟨bi,oi,p1,p2⟩:=Sl.ix6 ac an e2;have ph:=NH.Z5 i (n6.fr F0);rw[e1]at ph;let⟨z1,z2,z3,z4,z5,z6,z7⟩:=ph;have cr:=CNs.Z5 i M;rw[e1]at cr;let⟨q0,q1,q2,q3,q4,q5,q6⟩:=p2;simp(disch:=omega) only[b_,seval,ag,g6,g5,g2,g1,l5,ac.t_,Z,eq_true c3,p1,q6];have aJ:(lv:Int)-1=((lv-1:Nat):Int):=oM;rw[aJ];apply aa (cr.1 (lv-1) hh oM F.o ⟨z1,z2,z3,z4,z5,z6,trivial⟩);rintro _ h3 ⟨F3,rfl⟩;have le:=NT.rn_le kd ar ay ax aH af (lv-1);rw[e1,NT.rs_cons,if_neg oM]at P;simp(disch:=omega) only[b_,seval,ag,g6];refine s_ ⟨sub.y_-(i+1),oM,F.c F3,i+1,c+NT.rn kd ar ay ax aH af (lv-1),iS,iS,iX,iX,oM,oM,by rw[e3];exact P,rfl⟩;simp only[b_,seval,g6,g5,g2,l5,ac.t_,Z,eq_false c3];rw[NT.rs_stop _ _ _ oM]at P;exact⟨F0,done P⟩;have Z:¬(i:Int)<sub.y_:=oM;simp only[b_,seval,g6,g5,g2,l5,ac.t_,eq_false Z];rw[NT.at_end' _ _ oM]at P;exact⟨F0,done P⟩
theorem cns:∀t:NT,CNs t
 |.D_=>trivial
 |.z_ _ _ _ _ _ _ _ sub nx=>⟨EX (cns sub),cns nx⟩
open Classical in
def NT.rC(k:Nat)(tg ky:g_)(at':List (g_×g_))(tx:g_)(sub:NT):Nat:=if 64<NT.rn k tg ky at' tx sub 6 then 0 else NT.rn k tg ky at' tx sub 6
theorem NT.rC_count{k:Nat}{ky:g_}{at':List (g_×g_)}{sub:NT}(h:NT.rC k tg ky at' tx sub≠0):ST.V2 k tg ky at' tx sub.sh=NT.rC k tg ky at' tx sub:=by unfold NT.rC at h|-;split at h;exact absurd rfl h;rename_i q;rw[if_neg q];exact NT.rn_node _ _ _ _ _ _ oM
theorem xp{h:a_}{k:Nat}{ky:g_}{at':List (g_×g_)}{sub:NT}(w:WF h)(n:NH h (.z_ k tg ky at' tx va vc sub .D_)):
 ao go 144 [.B [ZY (k:Int),.f tg,.f ky,va,.f tx,vc]] h fun u h'=>Fr [] h h'/\u=ZZ (NT.rC k tg ky at' tx sub:Nat):=by
 let⟨h1,K,Z,ac⟩:=aq w [ZY (k:Int),.f tg,.f ky,va,.f tx,vc];have l6:aj h1 h.e 0 6=some [ZY (k:Int),.f tg,.f ky,va,.f tx,vc]:=by rw[ac.N];rfl
 refine ah ?_;simp[b_,<-K,l6];refine aa ((cns (.z_ k tg ky at' tx va vc sub .D_)).1 6 h1 oM Z.o (n.fr Z)) ?_;rintro _ h2 ⟨F2,rfl⟩;by_cases c2:(64:Int)<(NT.rn k tg ky at' tx sub 6:Nat);simp only[b_,seval,eq_true c2];exact⟨Z.c F2,by rw[NT.rC,if_pos oM];rfl⟩;simp only[b_,seval,eq_false c2];exact⟨Z.c F2,by rw[NT.rC,if_neg oM]⟩
theorem FW{h:a_}{k:Nat}{ky:g_}{at':List (g_×g_)}{sub:NT}(w:WF h)(n:NH h (.z_ k tg ky at' tx va vc sub .D_)):
 ao go 143 [.B [ZY (k:Int),.f tg,.f ky,va,.f tx,vc]] h fun u h'=>Fr [] h h'/\u=ZZ (if NT.rC k tg ky at' tx sub=0 then 14 else 0):=by
 let⟨h1,K,Z,ac⟩:=aq w [ZY (k:Int),.f tg,.f ky,va,.f tx,vc];have l6:aj h1 h.e 0 6=some [ZY (k:Int),.f tg,.f ky,va,.f tx,vc]:=by rw[ac.N];rfl
 refine ah ?_;simp[b_,<-K,l6];refine aa (xp Z.o (n.fr Z)) ?_;rintro _ h2 ⟨F2,rfl⟩;by_cases c2:(NT.rC k tg ky at' tx sub:Int)=0;simp only[b_,seval,eq_true c2];exact⟨Z.c F2,by rw[if_pos oM]⟩;simp only[b_,seval,eq_false c2];exact⟨Z.c F2,by rw[if_neg oM]⟩
theorem ML{s:NT}{ky:g_}{at':List (g_×g_)}{m:ST}(e:s.sh=.V7 1 tg ky at' [] m .Y0):∃va vc sub,s=.z_ 1 tg ky at' [] va vc sub .D_/\sub.sh=m:=by
 match s,e with
 |.z_ k tg2 ky2 a2 tx2 va vc sub nx,e=>
  simp[NT.sh]at e;obtain⟨rfl,rfl,rfl,rfl,rfl,e6,Z⟩:=e;match nx,Z with
  |.D_,_=>exact⟨va,vc,sub,rfl,e6⟩
theorem NT.rs_sh:∀(s t:NT),s.sh=t.sh→∀lv c,s.rs lv c=t.rs lv c
 |.D_,.D_,_,_,_=>rfl
 |.z_ k tg ky a tx _ _ sub nx,.z_ k2 tg2 ky2 a2 tx2 _ _ sub2 nx2,e,lv,c=>by
  simp only[NT.sh,ST.V7.injEq]at e;obtain⟨rfl,rfl,rfl,rfl,rfl,e6,e7⟩:=e;have l:sub.y_=sub2.y_:=by rw[←NT.e? sub,←NT.e? sub2,e6]
  have y:sub.P2=sub2.P2:=by rw[←NT.p? sub,←NT.p? sub2,e6]
  have o:OX k tg ky a tx sub↔OX k tg ky a tx sub2:=by unfold OX;rw[l,y]
  rw[NT.rs_cons,NT.rs_cons];have r:NT.rn k tg ky a tx sub lv=NT.rn k tg ky a tx sub2 lv:=by unfold NT.rn;rw[NT.rs_sh sub sub2 e6];rw[propext o]
  rw[r];split;rfl;exact NT.rs_sh nx nx2 e7 _ _
theorem NT.rC_sh{k:Nat}{ky:g_}{a:List (g_×g_)}{s t:NT}(e:s.sh=t.sh):NT.rC k tg ky a tx s=NT.rC k tg ky a tx t:=by
 have h:=NT.rs_sh (.z_ k tg ky a tx .r .r s .D_) (.z_ k tg ky a tx .r .r t .D_) (by simp[NT.sh,e]);have h:=h 6 0;rw[NT.rs_cons,NT.rs_cons]at h;have h:NT.rn k tg ky a tx s 6=NT.rn k tg ky a tx t 6:=by simpa[NT.rs]using h
 unfold NT.rC;rw[h]
def RE(k:Nat)(tg ky tx:g_)(sl:List Q3)(sub:PT)(x:m_)(most e:Int):Prop:=
 if most<1\/64<most then e=1 else if PT.rC k tg ky sl tx sub=0 then e=14 else if iG x=false then e=6 else
  ∃s:NT,s.sh=bZ x sub/\e=if NT.rC 1 tg ky (sl.map (N_ x)) [] s=0\/most<(NT.rC 1 tg ky (sl.map (N_ x)) [] s:Nat)then 14 else 0
theorem RE.det{k:Nat}{ky:g_}{sub:PT}{x:m_}{Z e K:Int}(a:RE k tg ky tx sl sub x Z e)(b:RE k tg ky tx sl sub x Z K):e=K:=by unfold RE at a b;split at a;grind;rename_i c;rw[if_neg c]at b;split at a;grind;rename_i c;rw[if_neg c]at b;split at a;grind;rename_i c;rw[if_neg c]at b;obtain⟨s,hs,rfl⟩:=a;obtain⟨t,ht,rfl⟩:=b;rw[NT.rC_sh (hs.trans ht.symm)]
abbrev Z6':List V:=[ZY 0,.f [],.f [],.r,.f [],.r]
theorem Bh{h:a_}{k:Nat}{ky:g_}{sub:PT}{x:m_}{K:Int}(w:WF h)(n:PH h (.o_ k tg ky sl tx va vc sub .w_))(g:PG (.o_ k tg ky sl tx va vc sub .w_))(a:u_ h x):
 ao go 81 [.B [ZY (k:Int),.f tg,.f ky,va,.f tx,vc],.B x.s,ZZ K] h fun u h'=>Fr [] h h'/\∃cs e,u=.D [.B cs,ZZ e]/\aw cs=true/\cs.length=6/\0<=e/\
  (e=0->k=1/\1<=K/\K<=64/\iG x=true/\ST.V2 1 tg ky (sl.map (N_ x)) [] (bZ x sub)≠0/\(ST.V2 1 tg ky (sl.map (N_ x)) [] (bZ x sub):Int)<=K)/\RE k tg ky tx sl sub x K e:=by
 let⟨h1,an,aN,a9⟩:=aq w [ZY (k:Int),.f tg,.f ky,va,.f tx,vc];let⟨h2,ar,aH,a8⟩:=aq aN.o x.s;let⟨h3,ax,aJ,ac⟩:=aq aH.o [ZY 0,.f [],.f [],.r,.f [],.r];have Z:=(aN.c aH).c aJ;have n1:=x_ an;have n2:=x_ ar;have n3:=x_ ax;have op:=aJ.i (aH.i a9);have oi:=aJ.i a8;have p6:∀{h'},Fr [] h3 h'->aj h' h.e 0 6=some [ZY (k:Int),.f tg,.f ky,va,.f tx,vc]:=fun f=>by rw[(f.i op).N];rfl
 have i4:∀{h'},Fr [] h3 h'->aj h' h1.e 0 4=some x.s:=fun f=>by rw[(f.i oi).N];rfl
 have z6:∀{h'},e_ h' h2.e Z6'->aj h' h2.e 0 6=some Z6':=fun o=>by rw[o.N];rfl
 by_cases c1:K<1;refine ah ?_;simp only[b_,seval,<-an,<-ar,<-ax,eq_true c1];refine B_ Z.o ac ?_;rintro h4 o4 F4 n4;simp only[b_,seval,z6 o4];exact⟨Z.z F4 w oM,_,1,rfl,rfl,rfl,oM,(fun e=>by cases e),by rw[RE,if_pos (.inl c1)]⟩;by_cases c2:(64:Int)<K;refine ah ?_;simp only[b_,seval,<-an,<-ar,<-ax,eq_false c1,eq_true c2];refine B_ Z.o ac ?_;rintro h4 o4 F4 n4;simp only[b_,seval,z6 o4];exact⟨Z.z F4 w oM,_,1,rfl,rfl,rfl,oM,(fun e=>by cases e),by rw[RE,if_pos (.inr c2)]⟩;have az:¬(K<1\/64<K):=oM;refine ah ?_;simp only[b_,seval,<-an,<-ar,<-ax,eq_false c1,eq_false c2,p6 (Wl Z.o)];refine aa (xu Z.o (n.fr Z)) ?_;rintro _ h4 ⟨rfl,F4⟩;by_cases c3:PT.rC k tg ky sl tx sub=0;rw[if_pos c3];simp only[b_,seval,p6 F4];apply aa (xu F4.o (n.fr (Z.c F4)));rintro _ h5 ⟨rfl,F5⟩;rw[if_pos c3];simp only[b_,seval];apply B_ F5.o ((F4.c F5).i ac);rintro h6 o6 F6 n6;simp only[b_,seval,z6 o6];exact⟨((Z.c F4).c F5).z F6 w oM,_,14,rfl,rfl,rfl,oM,(fun e=>by cases e),by rw[RE,if_neg az,if_pos c3]⟩;rw[if_neg c3];have k1:k=1:=by unfold PT.rC at c3;split at c3;exact absurd rfl c3;omega
 simp only[b_,seval,i4 F4];apply aa (rD F4.o (a.fr (Z.c F4)));rintro _ h5 ⟨rfl,F5⟩;have af:=F4.c F5;cases c4:iG x;simp only[b_,seval,i4 af];apply aa (rD F5.o (a.fr (Z.c af)));rintro _ h6 ⟨rfl,F6⟩;rw[c4];simp only[b_,seval];apply B_ F6.o ((af.c F6).i ac);rintro h7 o7 F7 n7;simp only[b_,seval,z6 o7];exact⟨(Z.c (af.c F6)).z F7 w oM,_,6,rfl,rfl,rfl,oM,(fun e=>by cases e),by rw[RE,if_neg az,if_neg c3,if_pos c4]⟩;have a0:¬iG x=false:=by rw[c4];decide
 have hm:x.C.length<=8:=by simp only[iG,x?,VY,decide_eq_true_eq]at c4;exact c4.2.2.1
 simp only[b_,seval,p6 af,i4 af];apply aa ((MV (.o_ k tg ky sl tx va vc sub .w_)).1 x h5 F5.o (a.fr (Z.c af)) hm (n.fr (Z.c af)) g);rintro u h6 ⟨s,es,F6,bv,sz,st⟩;subst k1;obtain⟨vA,vC,ae,rfl,em⟩:=ML es;have a5:=af.c F6;let⟨bj,ba⟩:=st [] h6 iS (Wl F6.o);let⟨bi,bk,p1,p2⟩:=Sl.ix6 ba (i:=0) (Xh Nat.zero_lt_one (Wh rfl)) (r:=[]) rfl;let⟨q0,q1,q2,q3,q4,q5,q6⟩:=p2;have bm:aP (.c 6) [u,ZZ 0]=some (.u bi bk):=p1;have on:aw [ZY ((1:Nat):Int),.f tg,.f ky,vA,.f [],vC]=true:=by have:=NH.ones bj;simpa[NT.J_]using this
 have n6:=F6.e;have bu:=a5.e;let⟨h7,a6,aR,a7⟩:=aq F6.o [ZY 0,.f [],.f [],.r,.f [],.r];simp only[b_,seval,bm,q6,<-a6];refine ai (c':=[ZY ((1:Nat):Int),.f tg,.f ky,vA,.f [],vC]) aR.o a7 rfl on rfl ?_;rintro h8 o8 F8 n8;have a4:Fr [] h6 h8:=aR.z F8 F6.o (VZ _);have ay:=a5.c a4;have c8:∀{h'},Fr [] h8 h'->aj h' h6.e 0 6=some [ZY ((1:Nat):Int),.f tg,.f ky,vA,.f [],vC]:=fun f=>by rw[(f.i o8).N];rfl
 have a2:∀{h'},Fr [] h8 h'->NH h' (.z_ 1 tg ky (sl.map (N_ x)) [] vA vC ae .D_):=fun f=>(st [] _ iS (a4.c f)).1;simp only[b_,seval,c8 (Wl F8.o)];apply aa (FW F8.o (a2 (Wl F8.o)));rintro _ h9 ⟨F9,rfl⟩;by_cases c5:NT.rC 1 tg ky (sl.map (N_ x)) [] ae=0;rw[if_pos c5];simp only[b_,seval];apply B_ F9.o ((ay.c F9).i ac);rintro bf bh ak bt;simp only[b_,seval,z6 bh];exact⟨(Z.c (ay.c F9)).z ak w oM,_,14,rfl,rfl,rfl,oM,(fun e=>by cases e),by rw[RE,if_neg az,if_neg c3,if_neg a0];exact⟨ae,em,by rw[if_pos (.inl c5)]⟩⟩;rw[if_neg c5];simp only[b_,seval,c8 F9];apply aa (xp F9.o (a2 F9));rintro _ bf ⟨ak,rfl⟩;have cnt:=NT.rC_count c5;rw[em]at cnt;by_cases c6:K<(NT.rC 1 tg ky (sl.map (N_ x)) [] ae:Nat);simp only[b_,seval,eq_true c6];apply ai (c':=Z6') ak.o (((ay.c F9).c ak).i ac) rfl rfl rfl;rintro a3 a1 aT bn;simp only[b_,seval,z6 a1];exact⟨(Z.c ((ay.c F9).c ak)).z aT w oM,_,14,rfl,rfl,rfl,oM,(fun e=>by cases e),by rw[RE,if_neg az,if_neg c3,if_neg a0];exact⟨ae,em,by rw[if_pos (.inr c6)]⟩⟩;simp only[b_,seval,eq_false c6,c8 (F9.c ak)];refine ai (c':=[ZY ((1:Nat):Int),.f tg,.f ky,vA,.f [],vC]) ak.o (((ay.c F9).c ak).i ac) rfl on rfl ?_;rintro a3 a1 aT bn;have bg:aj a3 h2.e 0 6=some [ZY ((1:Nat):Int),.f tg,.f ky,vA,.f [],vC]:=by rw[a1.N];rfl
 simp only[b_,seval,bg];exact⟨(Z.c ((ay.c F9).c ak)).z aT w oM,_,0,rfl,on,rfl,oM,fun _=>⟨oM,oM,by rw[cnt];exact c5,by rw[cnt];omega⟩,by rw[RE,if_neg az,if_neg c3,if_neg a0];exact⟨ae,em,by rw[if_neg (fun q=>q.elim c5 c6)]⟩⟩
theorem wq{h:a_}{b o n m:Nat}(e:aj h b o (n+m)=some cs):aj h b o n=some (cs.take n):=by
 simp[aj]at e|-;cases K:dR h b with
 |none=>rw[K]at e;cases e
 |some C=>
  rw[K]at e;simp[bQ]at e|-;have tk:∀(n:Nat)(l:List V),l.length<n->dG n l=none:=by
   intro n;induction n with
   |zero=>intro l Z;omega
   |succ n ih=>
    intro l Z;cases l with
    |nil=>rfl
    |cons a l=>rw[fU,ih l (eV Z)];rfl
  have Z:n+m<=(C.drop o).length:=by grind
  rw[bN _ _ Z]at e;rw[bN _ _ oM];have e':=Xl e;rw[<-e',Yu,XN oM]
def PZ:PT->Prop
 |.w_=>True
 |.o_ _ _ _ sl _ va vc sub nx=>(sl=[]->va=.r)/\(sub=.w_->vc=.r)/\PZ sub/\PZ nx
def GK(Ks:List p_):Prop:=∀q∈Ks,Z9 q=true/\(PG (.o_ q.k q.tg q.ky q.sl q.tx q.vs q.vp q.sub .w_)/\PZ (.o_ q.k q.tg q.ky q.sl q.tx q.vs q.vp q.sub .w_))/\1<=q.P/\q.P<=50
def IE(Ks:List p_)(cap:Int)(x:m_)(e:Int):Prop:=
 if Q2 x Ks.length=false then e=6 else∃q e1,Ks[x.K]? =some q/\RE q.k q.tg q.ky q.tx q.sl q.sub x cap e1/\e=if 0<e1 then 14 else 0
theorem IE.det{x:m_}{e K:Int}(a:IE Ks cap x e)(b:IE Ks cap x K):e=K:=by unfold IE at a b;split at a;grind;rename_i c;rw[if_neg c]at b;obtain⟨q,e1,hq,r,rfl⟩:=a;obtain⟨q',e2,Z,r',rfl⟩:=b;rw[hq]at Z;cases Z;rw[r.det r']
theorem HU{h:a_}{x:m_}(w:WF h)(rk:q_ p_.s 9 h vK Ks)(kh:∀q∈Ks,Q9 h q)(gk:GK Ks)(hK:Ks.length<256)(a:u_ h x):
 ao go 31 [.B [vK,ZZ cap],.B x.s,ZZ 0] h fun u h'=>Fr [] h h'/\∃e:Int,u=ZZ e/\0<=e/\(e=0->Q2 x Ks.length=true/\cG Ks cap x=0)/\IE Ks cap x e:=by
 have v1:vK.U=true:=Xs rk;let⟨h1,ae,ak,ax⟩:=aq w [vK,ZZ cap];let⟨h2,ay,af,an⟩:=aq ak.o x.s;have n1:=x_ ae;have K:=ak.c af;have oc:=af.i ax;have c0:∀{h'},Fr [] h2 h'->ab h' h.e 0=some vK:=fun f=>(f.i oc).j 0;have c1:∀{h'},Fr [] h2 h'->ab h' h.e 1=some (ZZ cap):=fun f=>(f.i oc).j 1;have i1:∀{h'},Fr [] h2 h'->ab h' h1.e 1=some (ZY (x.K:Int)):=fun f=>(f.i an).j 1;have i4:∀{h'},Fr [] h2 h'->aj h' h1.e 0 4=some x.s:=fun f=>by rw[(f.i an).N];rfl
 have r0:Fr [] h2 h2:=Wl K.o;refine ah ?_;simp[b_,<-ae,<-ay,i4 r0,c0 r0,(Xn rk K).t_];refine aa (E5 K.o (a.fr K) hK) ?_;rintro _ h3 ⟨rfl,F3⟩;cases d1:Q2 x Ks.length;simp only[b_,seval];exact⟨K.c F3,6,rfl,oM,(fun e=>by cases e),by rw[IE,if_pos d1]⟩;have ht:x.K<Ks.length:=by simp only[Q2,VY,decide_eq_true_eq]at d1;exact d1.2.1
 simp[b_];apply Dt [⟨none,.p (.b 0) [.v 3],none⟩,⟨none,.a 1 false (.l 0),none⟩,⟨none,.p (.b 1) [.v 4],none⟩,⟨none,.a 1 false (.l 0),none⟩,⟨none,.p (.c 9) [.l 2,.l 0],none⟩,⟨none,.p (.b 0) [.l 0],none⟩,⟨none,.a 6 true (.l 0),none⟩,⟨none,.a 4 true (.v 4),none⟩,⟨none,.p (.b 1) [.v 3],none⟩,⟨none,.a 1 false (.l 0),none⟩,⟨none,.d 81 [.l 3,.l 2,.l 0],none⟩,⟨none,.p .o [.l 0],none⟩,⟨none,.p (.v 0) [.l 0],none⟩,⟨none,.p (.v 1) [.l 1],none⟩] _ rfl;have F4:=WA F3.o [ZY 0,.f [],.f [],.r,.f [],.r];have o4:=Xc F3.o [ZY 0,.f [],.f [],.r,.f [],.r];have n4:(h_ h3 [ZY 0,.f [],.f [],.r,.f [],.r]).e=h3.e+1:=rfl;generalize h_ h3 [ZY 0,.f [],.f [],.r,.f [],.r]=h4 at F4 o4 n4|-;have Z:=F3.c F4;have ac:=K.c Z;let⟨bk,ok',q,p1,p2,p3,p4⟩:=YX cS (Xn rk ac) .u8 (x.K:Int) oM oM;rw[pi]at p4;have qm:=Wc p4;let⟨aJ,⟨aN,_⟩,_⟩:=gk q qm;have p6:aj h4 bk ok' 6=some q.part:=wq (m:=3) p3;simp[b_,j_,c0 Z,c1 Z,i1 Z,i4 Z,p1,p6];apply aa (Bh F4.o ((kh q qm).fr ac) aN (a.fr ac));rintro _ h5 ⟨F5,cs,e,rfl,on,cl,e0,he,aH⟩;have a4:=Z.c F5;let⟨a0,aT,q',az,a1,aR,ar⟩:=YX cS (Xn rk (ac.c F5)) .u8 (x.K:Int) oM oM;rw[pi,p4]at ar;cases ar;rw[p1]at az;cases az;have a2:aj h5 bk ok' 6=some q.part:=wq (m:=3) aR;simp[b_,j_,rV];refine ai (c':=cs) F5.o (F5.i o4) cl on (by
  rw[cD _ _ _ (by show 0+cs.length<=6;omega)];simp[V.s];omega) ?_
 rintro h6 o6 F6 n6;have n3:=F3.e;have a3:=K.e;have n5:=F5.e;simp only[b_,seval,DF,j_,c0 Z,c1 Z,i1 Z,i4 Z,p6];have Fin:Fr [] h h6:=((K.c F3).c (F4.c F5)).z F6 w oM;by_cases d2:(0:Int)<e;simp only[seval,eq_true d2];exact⟨Fin,14,rfl,oM,(fun e=>by cases e),by rw[IE,if_neg (by rw[d1];decide)];exact⟨q,e,p4,aH,by rw[if_pos d2]⟩⟩;simp only[seval,eq_false d2];refine⟨Fin,0,rfl,oM,fun _=>?_,by rw[IE,if_neg (by rw[d1];decide)];exact⟨q,e,p4,aH,by rw[if_neg d2]⟩⟩;let⟨y1,y2,y3,y4,y5,y6⟩:=he oM;have er:cG Ks cap x=fL q.k q.tg q.ky q.sl q.tx q.sub x cap:=by simp[cG,p4]
 simp only[Z9,VY,decide_eq_true_eq]at aJ;rw[er];unfold fL;rw[if_neg oM,if_neg aJ.2,y4,if_neg dI,if_neg (by intro z;obtain z|z:=z;exact y5 z;omega)]
def m_.ent(x:m_)(b:Int)(k:Bool):List V:=x.s++[ZZ b,.h k]
theorem EM{h:a_}{x:m_}(w:WF h)(rk:q_ p_.s 9 h vK Ks)(a:u_ h x)(ht:x.K<Ks.length):
 ao go 32 [.B [vK,ZZ cap],.B x.s] h fun u h'=>u=.B (x.ent (aQ Ks x) false)/\Fr [] h h':=by
 have v1:vK.U=true:=Xs rk;let⟨h1,ac,af,ay⟩:=aq w [vK,ZZ cap];let⟨h2,ae,K,ak⟩:=aq af.o x.s;let⟨h3,ar,Z,an⟩:=aq K.o [ZX 0,ZY 0,.f [],.r,ZZ 0,.h false];have n1:=x_ ac;have n2:=x_ ae;have az:=Z;have ax:=af.c (K.c Z);have c0:ab h3 h.e 0=some vK:=(Z.i (K.i ay)).j 0;have i1:ab h3 h1.e 1=some (ZY (x.K:Int)):=(Z.i ak).j 1;have i4:aj h3 h1.e 0 4=some x.s:=by rw[(Z.i ak).N];rfl
 let⟨bk,ok',q,p1,p2,p3,p4⟩:=YX cS (Xn rk ax) .u8 (x.K:Int) oM oM;rw[pi]at p4;have p6:ab h3 bk (ok'+6)=some (ZZ q.P):=p2 6 oM;have eb:aQ Ks x=q.P:=by simp[aQ,p4]
 have u1:bG [ZX 0,ZY 0,.f [],.r,ZZ 0,.h false] 0 x.s=some (x.s++[ZZ 0,.h false]):=rfl;have u2:∀b:Int,bG (x.s++[ZZ 0,.h false]) 4 [ZZ b]=some (x.ent b false):=fun _=>rfl;refine ah ?_;simp[b_,j_,(iR:x.s.length=4),u1,u2,<-ac,<-ae,<-ar,i4,c0,i1,p1,p6];refine ai (c':=x.ent q.P false) Z.o an rfl (by show aw (x.s++[ZZ q.P,.h false])=true;rw[aW,a.U];rfl) rfl ?_;rintro h4 o4 F4 n4;have ld:aj h4 h2.e 0 6=some (x.ent q.P false):=by rw[o4.N];rfl
 simp only[b_,seval,DF,ld,i4,c0,i1,p6];exact⟨by rw[eb],ax.z F4 w oM⟩
def e6:List V:=[ZY 0,.f [],.f [],.r,.f [],.r]
def CA:g_:=[114,111,119]
theorem uY(a n:Nat)(b:Int)(Z:b=n)(h:n≠0):aP (.e .rem) [ZY (a:Int),ZY b]=some (ZY ((a%n:Nat):Int)):=by subst Z;rw[jD _ _ _ oM];congr 2
theorem MB(a n:Nat)(b:Int)(Z:b=n)(h:n≠0)(K:a<256):aP (.e .quo) [ZY (a:Int),ZY b]=some (ZY ((a/n:Nat):Int)):=by subst Z;have:=Nat.div_le_self a n;rw[qL _ _ _ oM,show Int.tdiv (a:Int) n=((a/n:Nat):Int)from(Int.ofNat_tdiv a n).symm];generalize a/n=q at *;rw[Ib _ oM oM]
theorem EA{h:a_}{b:Nat}(w:WF h)(hb:b<256):
 ao go 29 [ZY (b:Int)] h fun u h'=>Fr [] h h'/\∃Ks,(∀Z h'',(∀z∈Z,z<h.e)->Fr Z h' h''->q_ p_.s 9 h'' u Ks/\∀q∈Ks,Q9 h'' q)/\GK Ks/\X5 Ks 12=true/\Ks.length=3:=by
 let⟨h1,aJ,a6,bu⟩:=aq w [.f [110],ZY 3,.f [],.f [116,101,120,116],ZY 1,.f []];let⟨h2,a1,ar,bh⟩:=aq a6.o [ZY 3,.f [],.f [],.r,.f [],.r];let⟨h3,aN,ak,bi⟩:=aq ar.o [ZY 0,.f [],.f [],.r,.f [],.r];have n1:=x_ aJ;have n2:=x_ a1;have n3:=x_ aN;refine ah ?_;simp[b_,<-aJ,<-a1,<-aN];refine B_ ak.o bi ?_;rintro h4 o4 F4 n4;let⟨h5,a2,a5,bk⟩:=aq F4.o [.f [105,100],ZY 2,.f []];let⟨h6,a3,an,bn⟩:=aq a5.o [ZY 2,.f [],.f [],.r,.f [35],.r,ZY 4,.f [],.f [],.r,.f [],.r];let⟨h7,aR,af,bt⟩:=aq an.o [ZY 0,.f [],.f [],.r,.f [],.r];simp[b_,<-a2,<-a3,<-aR];apply B_ af.o bt;rintro h8 o8 F8 n8;let⟨h9,aT,a4,bg⟩:=aq F8.o [ZY 3,.f [],.f [],.r,.f [],.r];let⟨ha,a7,az,bj⟩:=aq a4.o [.f [111,102],ZY 2,.f []];let⟨bm,ax,K,a9⟩:=aq az.o [ZY 1,.f [98],.f [98,50],.r,.f [],.y h8.e 0 1 1,ZY 5,.f [116,97,103],.f [],.y h9.e 0 1 1,.f [],.r];let⟨hc,a0,ac,bf⟩:=aq K.o [ZY 0,.f [],.f [],.r,.f [],.r];simp[b_,<-aT,<-a7,<-ax,<-a0];apply B_ ac.o bf;rintro hd od Fd nd;have bA:h4.e=h2.e+1:=oM;have n5:=x_ a2;have n6:=x_ a3;have n7:=x_ aR;have n9:=x_ aT;have na:=x_ a7;have nb:=x_ ax;have nc:=x_ a0;have a8:=a5.c (an.c af);have aH:=a4.c (az.c (K.c ac));have bv:=Fd.I _ _ oO (aH.i (F8.I _ _ oO (a8.i o4)));have bw:=Fd.I _ _ oO (aH.i o8);have p4:aj hd h2.e 0 6=some [ZY 1,.f CA,.f [],.y h.e 0 2 2,.f [],.y h1.e 0 1 1]:=by rw[bv.N];rfl
 have p8:aj hd h6.e 0 6=some [ZY 1,.f [104,101,97,100],.f [104],.y h4.e 0 1 1,.f [],.y h5.e 0 2 2]:=by rw[bw.N];rfl
 have pd:aj hd bm.e 0 6=some [ZY 1,.f CA,.f [],.r,.f [],.y ha.e 0 2 2]:=by rw[od.N];rfl
 let k0:p_:=⟨1,CA,[],[([110],3,[]),([116,101,120,116],1,[])],[],.y h.e 0 2 2,.y h1.e 0 1 1,.o_ 3 [] [] [] [] .r .r .w_ .w_,10+((b%7:Nat):Int),false,((b%4:Nat):Int)⟩;let k1:p_:=⟨1,[104,101,97,100],[104],[([105,100],2,[])],[],.y h4.e 0 1 1,.y h5.e 0 2 2,.o_ 2 [] [] [] [35] .r .r .w_ (.o_ 4 [] [] [] [] .r .r .w_ .w_),6+((b%3:Nat):Int),true,((b/4%3:Nat):Int)⟩;let k2:p_:=⟨1,CA,[],[],[],.r,.y ha.e 0 2 2,.o_ 1 [98] [98,50] [] [] .r (.y h8.e 0 1 1) (.o_ 3 [] [] [] [] .r .r .w_ .w_) (.o_ 5 [116,97,103] [] [([111,102],2,[])] [] (.y h9.e 0 1 1) .r .w_ .w_),20,decide (((b%16:Nat):Int)=15),((b/8%3:Nat):Int)⟩;have m7:b%7<7:=XC _ dI;have m4:b%4<4:=XC _ dI;have m3:b%3<3:=XC _ dI;have bC:b/4%3<3:=XC _ dI;have bz:b/8%3<3:=XC _ dI;obtain⟨he,ay⟩:∃he,he=h_ hd (k0.s++(k1.s++(k2.s++[]))):=⟨_,rfl⟩;have ae:Fr [] hd he:=ay▸WA Fd.o _;have ba:e_ he hd.e (k0.s++(k1.s++(k2.s++[]))):=ay▸Xc Fd.o _;have t8:∀{B:Nat}{cs:List V},e_ h8 B cs->B<bm.e->e_ he B cs:=fun o l=>ae.i (Fd.I _ _ oO (aH.i o));have t4:∀{B:Nat}{cs:List V},e_ h4 B cs->B<h6.e->e_ he B cs:=fun o l=>t8 (F8.I _ _ oO (a8.i o)) oM;have x1:=t4 (F4.I _ _ oO ((ar.c ak).i bu)) oM;have x2:=t4 (F4.I _ _ oO (ak.i bh)) oM;have x5:=t8 (F8.I _ _ oO ((an.c af).i bk)) oM;have x6:=t8 (F8.I _ _ oO (af.i bn)) oM;have x9:=ae.i (Fd.I _ _ oO ((az.c (K.c ac)).i bg));have xa:=ae.i (Fd.I _ _ oO ((K.c ac).i bj));have xb:=ae.i (Fd.I _ _ oO (ac.i a9));have bB:h.e<=h2.e:=oM;have FF:Fr [] h he:=((((((a6.c (ar.c ak)).z F4 w oM).c a8).z F8 w oM).c aH).z Fd w oM).c ae;have gk:GK [k0,k1,k2]:=by
  intro q m;simp at m;obtain rfl|rfl|rfl:=m;refine⟨?_,by simp[PG,PZ,PT.t_,k0],(oM:1<=10+((b%7:Nat):Int)),show 10+((b%7:Nat):Int)<=50 by omega⟩;have:I? (10+((b%7:Nat):Int))=true:=by simp only[I?,VY,decide_eq_true_eq];omega
  show(I? (10+((b%7:Nat):Int))&&_)=true;rw[this];rfl;refine⟨?_,by simp[PG,PZ,PT.t_,k1],(oM:1<=6+((b%3:Nat):Int)),show 6+((b%3:Nat):Int)<=50 by omega⟩;have:I? (6+((b%3:Nat):Int))=true:=by simp only[I?,VY,decide_eq_true_eq];omega
  show(I? (6+((b%3:Nat):Int))&&_)=true;rw[this];rfl;exact⟨rfl,by simp[PG,PZ,PT.t_,k2],(oM:(1:Int)<=20),show(20:Int)<=50 by omega⟩
 have fin:Fr [] h he/\∃Ks,(∀Z h'',(∀z∈Z,z<h.e)->Fr Z he h''->q_ p_.s 9 h'' (.y hd.e 0 3 3) Ks/\∀q∈Ks,Q9 h'' q)/\GK Ks/\X5 Ks 12=true/\Ks.length=3:=by refine⟨FF,[k0,k1,k2],?_,gk,?_,rfl⟩;intro Z H hZ f;have go:∀{B:Nat}{cs:List V},e_ he B cs->h.e<=B->e_ H B cs:=fun o l=>f.I _ _ (fun m=>by have:=hZ _ m;omega) o;have x1:=go x1 oM;have x2:=go x2 oM;have x5:=go x5 oM;have x6:=go x6 oM;have x9:=go x9 oM;have xa:=go xa oM;have xb:=go xb oM;refine⟨Xy (go ba oM) rfl,?_⟩;intro q m;simp at m;obtain rfl|rfl|rfl:=m;exact⟨Wh rfl,Xy x1 rfl,Wh rfl,Xy x2 rfl,Wh rfl,⟨Wh rfl,⟨rfl,rfl⟩,Wh rfl,⟨rfl,rfl⟩,Wh rfl,trivial,trivial⟩,trivial⟩;exact⟨Wh rfl,Xy x5 rfl,Wh rfl,Xy x6 rfl,Wh rfl,⟨Wh rfl,⟨rfl,rfl⟩,Wh rfl,⟨rfl,rfl⟩,Wh rfl,trivial,⟨Wh rfl,⟨rfl,rfl⟩,Wh rfl,⟨rfl,rfl⟩,Wh rfl,trivial,trivial⟩⟩,trivial⟩;exact⟨Wh rfl,⟨rfl,rfl⟩,Wh rfl,Xy xb rfl,Wh rfl,⟨Wh rfl,⟨rfl,rfl⟩,Wh rfl,Xy x9 rfl,Wh rfl,⟨Wh rfl,⟨rfl,rfl⟩,Wh rfl,⟨rfl,rfl⟩,Wh rfl,trivial,trivial⟩,⟨Wh rfl,Xy xa rfl,Wh rfl,⟨rfl,rfl⟩,Wh rfl,trivial,trivial⟩⟩,trivial⟩;have:[k0,k1,k2].all Z9=true:=Xw.2 fun q m=>(gk q m).1;unfold X5;rw[this];rfl
 simp(disch:=omega) only[b_,seval,ag,p4,p8,pd,uY b 7 7 rfl dI,uY b 4 4 rfl dI,uY b 3 3 rfl dI,MB b 4 4 rfl dI hb,uY (b/4) 3 3 rfl dI,uY b 16 16 rfl dI,MB b 8 8 rfl dI hb,uY (b/8) 3 3 rfl dI];rw[ay]at fin;exact fin
theorem Nx{call:aI}{h:a_}{k:Nat}{op:Q8}{o:Option (Nat×Nat)}{Rr:List Nat}{Z:List (Nat×Nat×Nat)}{K:List (Nat×Nat)}{Q:Ex->T V->a_->Prop}(A B:List n_)(hk:A.length=k)(lc:∀loc,jI loc env op=some (cs,o))
 (x:WD call env ((A.map fun s=>(s,none))++(⟨none,op,none⟩,some (eM h.e o,cs))::B.map fun s=>(s,none)) [] [h_ h cs] (h_ h cs) (DF call (A++⟨none,op,none⟩::B) Z K env (Q .a))):
 W call (.i (A++⟨none,op,none⟩::B) [k] Rr Z K) env h Q:=by
 refine(Fv _ _ _ _ _ _).2 ?_;have e:∀loc,Q7 call env [k] (⟨none,op,none⟩::B) k loc h=some ((⟨none,op,none⟩,some (eM h.e o,cs))::B.map (fun s=>(s,none)),h_ h cs):=by
  intro loc;have c:List.contains [k] k=true:=by simp
  simp[Q7,lc,pB B (k+1) _ _ (Nat.lt_succ_self k)]
 rw[xU A 0 [] oM e,jT];exact x
theorem HM{Z:List V}{op:Q8}{o:Option (Nat×Nat)}(n:Nat)(e:jI Z env op=some (cs,o)):ce Z env op (eM n o) cs=true:=by
 cases o with
 |none=>simp[ce,e,T2,eM,eK,d7]
 |some q=>let⟨q,r⟩:=q;simp[ce,e,T2,eM,eK,d7]
def Gg:List g_:=[[],[97],[114,111,119],[116,119,111,32,119,111,114,100,115],[32,32],[126,33,45,44],[97,32,108,111,110,103,101,114,32,116,101,120,116,32,111,102,32,116,104,105,115,32,107,105,110,100],[57]]
theorem Oc(loc:List V)(env:T V)(n:Nat):ce loc env (.b [(.f [])] [(0,1),(1,1),(2,1),(3,1),(4,1),(5,1),(6,1),(7,1)] 8 [.c (.f []),.c (.f [97]),.c (.f [114,111,119]),.c (.f [116,119,111,32,119,111,114,100,115]),.c (.f [32,32]),.c (.f [126,33,45,44]),.c (.f [97,32,108,111,110,103,101,114,32,116,101,120,116,32,111,102,32,116,104,105,115,32,107,105,110,100]),.c (.f [57])]) (.y n 0 8 8) (Gg.map V.f)=true:=HM (o:=some (8,8)) n rfl
theorem Bz(b n k:Nat):eM b (some (n,k))=.y b 0 n k:=rfl
abbrev N2:List n_:=[⟨none,.p (.l 4 1) [.v 1,.c (ZZ 0)],none⟩,⟨none,.a 1 false (.l 0),none⟩,⟨none,.p (.e .rem) [.l 0,.c (ZY 60)],none⟩,⟨none,.p (.q .u64) [.l 0],none⟩,⟨none,.p (.e .add) [.c (ZX 1),.l 0],none⟩,⟨none,.p (.l 4 1) [.v 1,.c (ZZ 1)],none⟩,⟨none,.a 1 false (.l 0),none⟩,⟨none,.p (.e .rem) [.l 0,.c (ZY 3)],none⟩]
abbrev N1:List n_:=[⟨none,.p (.l 4 1) [.v 1,.c (ZZ 2)],none⟩,⟨none,.a 1 false (.l 0),none⟩,⟨none,.p (.e .rem) [.l 0,.c (ZY 8)],none⟩,⟨none,.p (.c 1) [.l 3,.l 0],none⟩,⟨none,.a 1 false (.l 0),none⟩,⟨none,.p (.a [(ZX 0),(ZY 0),(.f []),.r] [(0,1),(1,1),(2,1)]) [.l 9,.l 6,.l 0],none⟩,⟨none,.c [(ZX 0),(ZY 0),(.f []),.r],none⟩,⟨none,.h 4 (.l 0) (.l 1),none⟩]
theorem Pg(x:Int)(a n:Nat)(b:Int)(Z:x=a)(K:b=n)(h:n≠0):aP (.e .rem) [ZZ x,ZZ b]=some (ZZ ((a%n:Nat):Int)):=by subst K;subst Z;rw[jD _ _ _ oM];congr 2
theorem Bs(l:List g_):(l.flatMap sS).length=l.length:=by
 induction l with
 |nil=>rfl
 |cons a l ih=>simp only[WH,Wq,ih,Wv];show 1+_=_;omega
theorem _root_.Go.Ev.Gs.keep{h:a_}{B e:Nat}{v:V}{Z:List Nat}(g:Gs h B e v cs)(f:Fr Z h h')(hZ:∀z∈Z,z<B):Gs h' B e v cs:=by obtain z|⟨b,n,z1,z2,K,z4,o⟩:=g;exact .inl z;exact .inr ⟨b,n,z1,z2,K,z4,f.I _ _ (fun m=>by have:=hZ _ m;omega) o⟩
theorem _root_.Go.Ev.Gs.vb{h:a_}{B e:Nat}{v:V}(g:Gs h B e v cs):∀z∈vb v,B<=z:=by obtain⟨rfl,_⟩|⟨b,n,rfl,_,_,z4,_⟩:=g;simp[Go.Ev.vb];intro z m;simp[Go.Ev.vb]at m;omega
theorem _root_.Go.Ev.Gs.le{h:a_}{B C e:Nat}{v:V}(g:Gs h B e v cs)(l:C<=B):Gs h C e v cs:=by obtain z|⟨b,n,K,z2,Z,z4,o⟩:=g;exact .inl z;exact .inr ⟨b,n,K,z2,Z,oM,o⟩
structure W1(N:Nat)(h:a_)(x:m_):Prop where
 k:x.J<18446744073709551616
 t:x.K<256
 g:Gs h N 1 x.vm (x.C.flatMap sS)
 n:x.C.length<=4096
 l:x.X.length<16777216
theorem W1.H{N:Nat}{h:a_}{x:m_}(a:W1 N h x):u_ h x:=⟨a.k,a.t,Sl.a (ZT (n:=x.C.length) a.g (by rw[Bs];exact(Xv _).symm) oM),a.n,a.l⟩
theorem W1.a{N:Nat}{h:a_}{x:m_}{Z:List Nat}(a:W1 N h x)(f:Fr Z h h')(d:∀z∈Z,z∉vb x.vm):W1 N h' x:=by refine⟨a.k,a.t,?_,a.n,a.l⟩;obtain z|⟨b,n,K,z2,z3,z4,o⟩:=a.g;exact .inl z;exact .inr ⟨b,n,K,z2,z3,z4,f.I _ _ (fun m=>d _ m (by rw[K];simp[vb])) o⟩
def mk3:List g_:=[[97],[98,50],[107,101,121]]
theorem J4{h:a_}{b0 b1 b2 b3:Nat}(w:WF h)(h0:b0<256)(co:b1<256)(cl:b2<256)(bT:b3<256):
 ao go 78 [.B [ZY (b0:Int),ZY (b1:Int),ZY (b2:Int),ZY (b3:Int)]] h fun u h'=>Fr [] h h'/\∃x:m_,u=.B x.s/\W1 h.e h' x:=by
 let⟨h1,aT,a8,ae⟩:=aq w [ZY (b0:Int),ZY (b1:Int),ZY (b2:Int),ZY (b3:Int)];let⟨h2,a6,Z,bk⟩:=aq a8.o [ZX 0,ZY 0,.f [],.r];have l0:ab h2 h.e 0=some (ZY (b0:Int)):=(Z.i ae).j 0;have l1:ab h2 h.e 1=some (ZY (b1:Int)):=(Z.i ae).j 1;have l2:ab h2 h.e 2=some (ZY (b2:Int)):=(Z.i ae).j 2;have l3:ab h2 h.e 3=some (ZY (b3:Int)):=(Z.i ae).j 3;refine ah ?_;simp[b_,<-aT,<-a6];have n1:=x_ aT;have n2:=x_ a6;refine Nx (op:=.b [(.f [])] [(0,1),(1,1),(2,1),(3,1),(4,1),(5,1),(6,1),(7,1)] 8 [.c (.f []),.c (.f [97]),.c (.f [114,111,119]),.c (.f [116,119,111,32,119,111,114,100,115]),.c (.f [32,32]),.c (.f [126,33,45,44]),.c (.f [97,32,108,111,110,103,101,114,32,116,101,120,116,32,111,102,32,116,104,105,115,32,107,105,110,100]),.c (.f [57])]) N2 N1 rfl (fun _=>rfl) (cs:=Gg.map V.f) (o:=some (8,8)) ?_;obtain⟨h3,ay⟩:∃h3,h3=h_ h2 (Gg.map V.f):=⟨_,rfl⟩;have K:Fr [] h2 h3:=ay▸WA Z.o _;have a5:e_ h3 h2.e (Gg.map V.f):=ay▸Xc Z.o _;have cn:=K;have m0:ab h3 h.e 0=some (ZY (b0:Int)):=(K.i (Z.i ae)).j 0;have m1:ab h3 h.e 1=some (ZY (b1:Int)):=(K.i (Z.i ae)).j 1;have m2:ab h3 h.e 2=some (ZY (b2:Int)):=(K.i (Z.i ae)).j 2;let⟨h4,a0,aH,bj⟩:=aq K.o [ZX 0,ZY 0,.f [],.r];have n3:=x_ ay;have xa:∀i:Nat,i<4->aP (.l 4 1) [.u h.e 0,ZZ (i:Int)]=some (.u h.e i):=fun i hi=>by rw[iU 1 h.e 0 4 _ _ oM oM];simp
 have x0:aP (.l 4 1) [.u h.e 0,ZZ 0]=some (.u h.e 0):=xa 0 oM;have x1:aP (.l 4 1) [.u h.e 0,ZZ 1]=some (.u h.e 1):=xa 1 oM;have x2:aP (.l 4 1) [.u h.e 0,ZZ 2]=some (.u h.e 2):=xa 2 oM;have x3:aP (.l 4 1) [.u h.e 0,ZZ 3]=some (.u h.e 3):=xa 3 oM;have cc:b2%8<8:=XC _ dI;let⟨bt,ot,x8,y8,_⟩:=Sl.ix (esz:=1) (v:=.y h2.e 0 8 8) (n:=8) (Xy a5 rfl) .u8 ((b2%8:Nat):Int) oM oM;obtain⟨tx,tb⟩:∃tx,Gg[b2%8]? =some tx/\tx.length<30:=by
  have:b2%8<8:=XC _ dI;match b2%8,this with
  |0,_|1,_|2,_|3,_|4,_|5,_|6,_|7,_=>exact⟨_,rfl,dI⟩
 have t0:ab h3 bt ot=some (.f tx):=by grind
 simp(disch:=omega) only[b_,seval,j_,m0,m1,m2,<-ay,N1,Oc,Bz,uY b0 60 60 rfl dI,uY b1 3 3 rfl dI,uY b2 8 8 rfl dI,t0,<-a0,x0,x1,x2,x8,bS];refine B_ aH.o bj ?_;rintro h5 o5 F5 n5;have F4:=aH;have k0:ab h4 h.e 0=some (ZY (b0:Int)):=(F4.i (K.i (Z.i ae))).j 0;have k1:ab h4 h.e 1=some (ZY (b1:Int)):=(F4.i (K.i (Z.i ae))).j 1;have k2:ab h4 h.e 2=some (ZY (b2:Int)):=(F4.i (K.i (Z.i ae))).j 2;have FF:Fr [] h h5:=(a8.c (Z.c (K.c aH))).z F5 w oM;have ob:=F5.I _ _ oO (F4.i (K.i (Z.i ae)));let⟨cb,cr,bi,ci,_⟩:=Sl.ix (esz:=1) (v:=.y h2.e 0 8 8) (n:=8) (Xy (F4.i a5) rfl) .u8 ((b2%8:Nat):Int) oM oM;rw[x8]at bi;cases bi;have t4:ab h4 bt ot=some (.f tx):=by grind
 have o2:=F5.I _ _ oO (F4.i (K.i bk));simp[b_,DF,m0,m1,m2,k0,k1,k2,t0,t4];have n4:=x_ a0;refine aA (fun n env hh=>Fr [] h hh/\∃(i:Nat)(vm:V)(ms:List g_),env.c_ 4=some (ZZ i)/\env.c_ 3=some (.u h3.e 0)/\env.c_ 1=some (.u h.e 0)/\env.c_ 2=some (.u h1.e 0)/\i<=3/\
  e_ hh h.e [ZY (b0:Int),ZY (b1:Int),ZY (b2:Int),ZY (b3:Int)]/\e_ hh h1.e [ZX 0,ZY 0,.f [],.r]/\e_ hh h3.e [ZX (1+((b0%60:Nat):Int)),ZY ((b1%3:Nat):Int),.f tx,vm]/\Gs hh h4.e 1 vm (ms.flatMap sS)/\h4.e<=hh.e/\ms.length<=i/\n=3-i) 3 oM ?_ ?_
 exact⟨FF,0,.r,[],iS,iS,iS,iS,oM,ob,o2,o5,.inl ⟨rfl,rfl⟩,oM,iS,rfl⟩;rintro n env hh ⟨F,i,vm,ms,g4,g3,g1,g2,hi,ob,o2,oi,G,nx,ml,rfl⟩;have p3:ab hh h.e 3=some (ZY (b3:Int)):=ob.j 3;have v3:ab hh h3.e 3=some vm:=oi.j 3;by_cases cg:i<3;have a9:(i:Int)<3:=oM;obtain⟨s,xs⟩:∃s,aP (.E false) [ZY (b3:Int),ZZ (i:Int)]=some (ZY s):=⟨_,B9 _ _ _ _ oM⟩;obtain⟨y,xy⟩:∃y,aP (.e .and) [ZY s,ZY 1]=some (ZY y):=⟨_,Cc _ _ _⟩;by_cases c:0<y;let⟨a1,an,ac,aN⟩:=aq F.o [.f [97],.f [98,50],.f [107,101,121]];have m3:(i+b3/8)%3<3:=XC _ dI;have xq:∀{H},Fr [] a1 H->∃bs os,aP (.c 1) [.y hh.e 0 3 3,ZZ (((i+b3/8)%3:Nat):Int)]=some (.u bs os)/\ab H bs os=(mk3.map V.f)[(i+b3/8)%3]? :=by intro H f;let⟨bs,os,xq,yq,_⟩:=Sl.ix (esz:=1) (v:=.y hh.e 0 3 3) (n:=3) (Xy (f.i aN) rfl) .i64 (((i+b3/8)%3:Nat):Int) oM oM;refine⟨bs,os,xq,?_⟩;have:=yq 0 oM;rw[pi,Xv,Yp,Yp]at this;exact this
 obtain⟨mk,em⟩:∃mk,(mk3.map V.f)[(i+b3/8)%3]? =some (.f mk):=by
  match(i+b3/8)%3,m3 with
  |0,_|1,_|2,_=>exact⟨_,rfl⟩
 rw[em]at xq;let⟨bs,os,bh,t1⟩:=xq (Wl ac.o);let⟨a2,a7,aJ,bv⟩:=aq ac.o [.f mk];let⟨_,_,bu,t2⟩:=xq aJ;rw[bh]at bu;cases bu;have bB:=x_ an;have cj:=x_ a7;have ax:=ac.c aJ;have bn:ab a1 h.e 3=some (ZY (b3:Int)):=(ac.i ob).j 3;have ch:ab a2 h.e 3=some (ZY (b3:Int)):=(ax.i ob).j 3;have bE:ab a1 h3.e 3=some vm:=(ac.i oi).j 3;have bw:ab a2 h3.e 3=some vm:=(ax.i oi).j 3;simp(disch:=omega) only[b_,seval,j_,g4,g3,g1,a9,x3,p3,xs,xy,eq_true c,v3,<-an,MB b3 8 8 rfl dI bT,ag,Pg ((i:Int)+((b3/8:Nat):Int)) (i+b3/8) 3 3 oM rfl dI,bh,t1,<-a7,bn];have aR:=Bs ms;refine Ym (bytes:=16) (n:=1) aJ.o (G.fr ax) (Xy bv rfl) oM oM rfl oM (by rw[aR];omega) ?_;intro af a3 G3 e3 F3;have ak:=G.vb;have bf:=F3.I _ _ (fun m=>by have:=ak _ m;omega) (ax.i oi);have cq:ab a3 h.e 3=some (ZY (b3:Int)):=(F3.I _ _ (fun m=>by have:=ak _ m;omega) (ax.i ob)).j 3;have bA:=F3.e;have c1:af.U=true:=by obtain⟨rfl,_⟩|⟨b,n,rfl,_⟩:=G3<;>rfl
 simp only[b_,seval,j_,g3];refine ai (c':=[ZX (1+((b0%60:Nat):Int)),ZY ((b1%3:Nat):Int),.f tx,af]) F3.o bf (by rw[aF c1];rfl) (by rw[aF c1];simp only[au,aB,c1];rfl) (by rw[aF c1];rfl) ?_;rintro a4 bg ar ca;simp(disch:=omega) only[b_,seval,DF,ag,g4,p3,bn,v3,bE,bw,t1];have FN:Fr [] h a4:=(XD w (F.c ax) F3 (fun y hy=>by have:=ak _ hy;omega)).z ar w oM;have eq:(ms++[mk]).flatMap sS=ms.flatMap sS++[.f mk]:=by simp
 refine s_ ⟨3-(i+1),oM,FN,i+1,af,ms++[mk],iS,iX,iX,iX,oM,ar.I _ _ oO (F3.I _ _ (fun m=>by have:=ak _ m;omega) (ax.i ob)),ar.I _ _ oO (F3.I _ _ (fun m=>by have:=ak _ m;omega) (ax.i o2)),bg,by rw[eq];exact G3.keep ar oO,oM,by simp;omega,rfl⟩;simp(disch:=omega) only[b_,seval,ag,g4,g1,a9,x3,p3,xs,xy,eq_false c];refine s_ ⟨3-(i+1),oM,F,i+1,vm,ms,iS,iX,iX,iX,oM,ob,o2,oi,G,nx,oM,rfl⟩;have bm:¬(i:Int)<3:=oM;by_cases c:(240:Int)<=b3;let⟨a1,an,ac,aN⟩:=aq F.o [.f [97],.f [97]];simp[b_,g4,g3,g1,eq_false bm,x3,p3,eq_true c,v3,<-an];have aR:=Bs ms;have bB:=x_ an;refine Ym (bytes:=16) (n:=2) ac.o (G.fr ac) (Xy aN rfl) oM oM rfl oM (by rw[aR];omega) ?_;intro af a3 G3 e3 F3;have ak:=G.vb;have bf:=F3.I _ _ (fun m=>by have:=ak _ m;omega) (ac.i oi);have bA:=F3.e;have c1:af.U=true:=by obtain⟨rfl,_⟩|⟨b,n,rfl,_⟩:=G3<;>rfl
 simp[b_,g3];refine ai (c':=[ZX (1+((b0%60:Nat):Int)),ZY ((b1%3:Nat):Int),.f tx,af]) F3.o bf (by rw[aF c1];rfl) (by rw[aF c1];simp only[au,aB,c1];rfl) (by rw[aF c1];rfl) ?_;rintro a4 bg ar ca;have FN:Fr [] h a4:=(XD w (F.c ac) F3 (fun y hy=>by have:=ak _ hy;omega)).z ar w oM;have eq:(ms++[[97],[97]]).flatMap sS=ms.flatMap sS++[.f [97],.f [97]]:=by simp
 have bz:=ar.I _ _ oO (F3.I _ _ (fun m=>by have:=ak _ m;omega) (ac.i o2));have G4:Gs a4 h4.e 1 af ((ms++[[97],[97]]).flatMap sS):=by rw[eq];exact G3.keep ar oO
 have ld:aj a4 h3.e 0 4=some [ZX (1+((b0%60:Nat):Int)),ZY ((b1%3:Nat):Int),.f tx,af]:=by rw[(bg).N];rfl
 simp only[b_,seval,g3,g2,ld];refine ai (o:=0) (v:=.B [ZX (1+((b0%60:Nat):Int)),ZY ((b1%3:Nat):Int),.f tx,af]) (c':=[ZX (1+((b0%60:Nat):Int)),ZY ((b1%3:Nat):Int),.f tx,af]) (FN).o (bz) rfl (by show aw [_,_,_,_]=true;simp only[au,aB,c1];rfl) rfl ?_;rintro z o5 az bC;have ba:aj z h1.e 0 4=some [ZX (1+((b0%60:Nat):Int)),ZY ((b1%3:Nat):Int),.f tx,af]:=by rw[o5.N];rfl
 simp only[b_,seval,g2,ba];refine⟨(FN).z az w oM,⟨1+b0%60,b1%3,tx,ms++[[97],[97]],af⟩,rfl,by show 1+b0%60<_;omega,by show b1%3<256;omega,?_,by show(ms++[[97],[97]]).length<=4096;simp;omega,by show tx.length<16777216;omega⟩;exact((G4).keep az oO).le oM;simp[b_,g4,g3,g1,eq_false bm,x3,p3,eq_false c];have c1:vm.U=true:=by obtain⟨rfl,_⟩|⟨b,n,rfl,_⟩:=G<;>rfl
 have ld:aj hh h3.e 0 4=some [ZX (1+((b0%60:Nat):Int)),ZY ((b1%3:Nat):Int),.f tx,vm]:=by rw[(oi).N];rfl
 simp only[b_,seval,ld,g2];refine ai (o:=0) (v:=.B [ZX (1+((b0%60:Nat):Int)),ZY ((b1%3:Nat):Int),.f tx,vm]) (c':=[ZX (1+((b0%60:Nat):Int)),ZY ((b1%3:Nat):Int),.f tx,vm]) (F).o (o2) rfl (by show aw [_,_,_,_]=true;simp only[au,aB,c1];rfl) rfl ?_;rintro z o5 az bC;have ba:aj z h1.e 0 4=some [ZX (1+((b0%60:Nat):Int)),ZY ((b1%3:Nat):Int),.f tx,vm]:=by rw[o5.N];rfl
 simp only[b_,seval,g2,ba];refine⟨(F).z az w oM,⟨1+b0%60,b1%3,tx,ms,vm⟩,rfl,by show 1+b0%60<_;omega,by show b1%3<256;omega,?_,by show(ms).length<=4096;omega,by show tx.length<16777216;omega⟩;exact((G).keep az oO).le oM
end Go.Ev.Lay
