/- An evaluator of the program, and contracts over it: StbD to StbO. -/
import Derived.Test.YtdbfhmneijcjbaaGreatP10
set_option linter.unusedSimpArgs false
set_option linter.unusedVariables false
set_option linter.constructorNameAsVariable false
set_option linter.unnecessarySimpa false
set_option maxRecDepth 4000
noncomputable section
namespace Go.Ev.Lay
variable{tg ky tx:i_}{sl:List Q5}{va vc vK v5 k0 c0 t0:V}{cs:List V}{X:List e_}{h' h1:b_}{n0:NL}{bg bm bl nb B0 pb ib:Nat}{Ks:List w_}{cap:Int}{kn st:List Bool}{pm:Option Nat}{env:T V}{R:V->b_->Prop}
open Go.Ev.St
theorem As:∀(a b:i_),(!Op.bytesLess b a)=Zs a b
 |[],[]=>by simp[Zs,Op.bytesLess]
 |[],y::b=>by simp[Zs,Op.bytesLess]
 |x::a,[]=>by simp[Zs,Op.bytesLess]
 |x::a,y::b=>by have ih:=As a b;simp only[Zs,Op.bytesLess]at ih|-;have d1:decide (x<y)=decide (x.toNat<y.toNat):=rfl;have d2:decide (y<x)=decide (y.toNat<x.toNat):=rfl;rw[d1,d2];have e0:(x::a==y::b)=(x==y&&a==b):=rfl;rw[e0];obtain q|q|q:=Yw x.toNat y.toNat;grind;grind;grind
theorem mZ(a b:i_):aP (.C .geq) [.f a,.f b]=some (.h (Zs b a)):=by rw[<-As];rfl
theorem qF{h:b_}{v:V}{l:List Q5}(w:WF h)(ra:o_ vL 3 h v l)(na:l.length<=4096):av go 297 [v] h fun u h'=>u=.h (cP l)/\Fr [] h h':=by
 by_cases c8:l.length<=8;refine ai ?_;simp[a_,ra.M,(oM:¬(8:Int)<(l.length:Nat))];refine aC (fun n env hh=>Fr [] h hh/\∃(i:Nat),env.c_ 3=some (ZZ i)/\env.c_ 0=some v/\
  i<=l.length/\fx (dM l i) (l.drop i)=fx none l/\n=l.length-i) l.length oM ?_ ?_
 exact⟨Vk w,0,iS,iS,oM,rfl,rfl⟩;rintro n env hh ⟨F,i,g3,g0,hi,e,rfl⟩;by_cases an:i<l.length;have ae:(i:Int)<l.length:=oM;let⟨b',o',a,p1,p2,p3,p4⟩:=(ra.fr F).ix gE .i64 (i:Int) oM ae;rw[pi]at p4;rw[aN p4,kO]at e;have en:=tZ p4;have bad:∀{h'},Fr [] h h'->iY (dM l i) a=false->V.h false=.h (cP l)/\Fr [] h h':=fun f c=>by rw[c]at e;exact⟨by simp[cP,<-e],f⟩
 have rl:=(ra.fr F).M;let⟨h1,aH,ar,ay⟩:=au F.r [.f [],ZY 0,.f []];simp[a_,g3,g0,rl,ae,p1,p3,<-aH];refine u_ ar.r ay ?_;rintro h2 o2 F2 n2;have aj:Fr [] hh h2:=ar.y F2 F.r (Ve _);have Z:=F.c aj;have K:ag h2 hh.i 0=some (.f a.1):=o2.o 0;have q1:ag h2 hh.i 1=some (ZY (a.2.1:Int)):=o2.o 1;have q2:ag h2 hh.i 2=some (.f a.2.2):=o2.o 2;simp[a_,g_,K];refine aa fH ?_;rintro _ _ ⟨rfl,rfl⟩;cases c1:F_ a.1;simp only[a_,seval,DF,g_,K];exact bad Z (by simp[iY,c1]);by_cases c2:(3:Int)<(a.2.1:Nat);simp only[a_,seval,DF,g_,K,q1,eq_true c2];exact bad Z (by simp[iY];omega);simp[a_,g_,q1,eq_false c2,q2];refine aa kM ?_;rintro _ _ ⟨rfl,rfl⟩;cases c3:Q0 a.2.2;simp only[a_,seval,DF,g_,K,q1,q2];exact bad Z (by simp[iY,c3]);have fin:(decide (a.2.1=0)||a.2.2==[])=true->cW (dM l i) a.1=true->fx (dM l (i+1)) (l.drop (i+1))=fx none l:=fun x y=>by
  have z:iY (dM l i) a=true:=by unfold iY;rw[c1,c3,x,y,(oO:decide (a.2.1<=3)=true)];rfl
  rw[z,YH]at e;rw[en];exact e
 have step:(decide (a.2.1=0)||a.2.2==[])=false->iY (dM l i) a=false:=fun x=>by unfold iY;rw[x];simp
 have ac:(decide ((a.2.1:Int)=0)=true\/(a.2.2==[])=true)->(decide (a.2.1=0)||a.2.2==[])=true:=by grind
 by_cases cf:(a.2.1:Int)=0;by_cases c4:i=0;simp(disch:=omega) only[a_,seval,DF,g_,ah,g3,K,q1,q2,eq_true cf,(oM:¬(0:Int)<(i:Int))];refine t_ ⟨l.length-(i+1),oM,Z,i+1,iS,iX,oM,fin (ac (.inl (decide_eq_true cf))) (by simp[dM,c4,cW]),rfl⟩;let⟨b2,ax,a2,t1,t2,t3,t4⟩:=(ra.fr Z).ix gE .i64 ((i:Int)-1) oM oM;have af:l[i-1]? =some a2:=by rw[<-t4];congr 1;omega
 have ab:ag h2 b2 ax=some (.f a2.1):=t2 0 oM;have pe:dM l i=some a2.1:=by simp[dM,c4,af]
 cases c5:Zs a.1 a2.1;simp(disch:=omega) only[a_,seval,DF,g_,ah,g3,g0,K,q1,q2,eq_true cf,c5,t1,ab,mZ,(oM:(0:Int)<(i:Int))];refine t_ ⟨l.length-(i+1),oM,Z,i+1,iS,iX,oM,fin (ac (.inl (decide_eq_true cf))) (by rw[pe];simp[cW,c5]),rfl⟩;simp(disch:=omega) only[a_,seval,DF,g_,ah,g3,g0,K,q1,q2,eq_true cf,c5,t1,ab,mZ,(oM:(0:Int)<(i:Int))];exact bad Z (by simp[iY,pe,cW,c5]);have ak:¬a.2.1=0:=oM;cases cv:a.2.2==[];simp only[a_,seval,DF,g_,K,q1,q2,eq_false cf,bG,cv];exact bad Z (step iX);by_cases c4:i=0;simp(disch:=omega) only[a_,seval,DF,g_,ah,g3,K,q1,q2,eq_false cf,bG,cv,(oM:¬(0:Int)<(i:Int))];refine t_ ⟨l.length-(i+1),oM,Z,i+1,iS,iX,oM,fin (ac (.inr cv)) (by simp[dM,c4,cW]),rfl⟩;let⟨b2,ax,a2,t1,t2,t3,t4⟩:=(ra.fr Z).ix gE .i64 ((i:Int)-1) oM oM;have af:l[i-1]? =some a2:=by rw[<-t4];congr 1;omega
 have ab:ag h2 b2 ax=some (.f a2.1):=t2 0 oM;have pe:dM l i=some a2.1:=by simp[dM,c4,af]
 cases c5:Zs a.1 a2.1;simp(disch:=omega) only[a_,seval,DF,g_,ah,g3,g0,K,q1,q2,eq_false cf,bG,cv,c5,t1,ab,mZ,(oM:(0:Int)<(i:Int))];refine t_ ⟨l.length-(i+1),oM,Z,i+1,iS,iX,oM,fin (ac (.inr cv)) (by rw[pe];simp[cW,c5]),rfl⟩;simp(disch:=omega) only[a_,seval,DF,g_,ah,g3,g0,K,q1,q2,eq_false cf,bG,cv,c5,t1,ab,mZ,(oM:(0:Int)<(i:Int))];exact bad Z (by simp[iY,pe,cW,c5]);simp only[a_,seval,g3,g0,(ra.fr F).M,(oM:¬(i:Int)<l.length)];rw[Vq oM]at e;exact⟨by simp[cP,c8,<-e,fx],F⟩;refine ai ?_;simp only[a_,seval,ra.M,(oM:(8:Int)<(l.length:Nat))];exact⟨by simp[cP,c8],Vk w⟩
theorem HE(n m:Nat):decide ((n:Int)<=(m:Int))=decide (n<=m):=by rw[decide_eq_decide];omega
theorem yX(a b:Nat):decide ((a:Int)+(b:Int)=0)=decide (a+b=0):=by rw[decide_eq_decide];omega
theorem JP{h:b_}{k:Nat}{sub:PT}(w:WF h)(n:PH h (.p_ k tg ky sl tx va vc sub .z_)):
 av go 292 [.B [ZY (k:Int),.f tg,.f ky,va,.f tx,vc]] h fun u h'=>u=.h (eF k tg ky sl tx sub.v_)/\Fr [] h h':=by
 let⟨n1,ra,na,rc,nc,n6,_⟩:=n;let⟨h1,aj,ae,af⟩:=au w [ZY (k:Int),.f tg,.f ky,va,.f tx,vc];have l0:ag h1 h.i 0=some (ZY (k:Int)):=af.o 0;have l1:ag h1 h.i 1=some (.f tg):=af.o 1;have l2:ag h1 h.i 2=some (.f ky):=af.o 2;have l3:ag h1 h.i 3=some va:=af.o 3;have l4:ag h1 h.i 4=some (.f tx):=af.o 4;have l5:ag h1 h.i 5=some vc:=af.o 5;have la:=(ra.fr ae).M;have lc:=(rc.fr ae).A_;by_cases k1:k=1
 ·have q1:(k:Int)=1:=oM
  have Z:eF k tg ky sl tx sub.v_=(F_ tg&&((ky==[]||F_ ky)&&(cP sl&&(tx==[]&&decide (sub.v_<=16))))):=by
   unfold eF;rw[if_pos k1];cases F_ tg<;>cases(ky==[]||F_ ky)<;>cases cP sl<;>cases(tx==[])<;>cases decide (sub.v_<=16)<;>rfl
  rw[Z];refine ai ?_;simp only[a_,seval,<-aj,l0,l1,eq_true q1];refine aa fH ?_;rintro _ _ ⟨rfl,rfl⟩;cases c1:F_ tg
  ·simp only[a_,seval];exact⟨rfl,ae⟩
  cases c2:ky==[]
  ·simp only[a_,seval,l2,aR,c2];apply aa fH;rintro _ _ ⟨rfl,rfl⟩;cases c3:F_ ky
   ·simp only[a_,seval];exact⟨rfl,ae⟩
   simp only[a_,seval,l3];refine aa (qF ae.r (ra.fr ae) na) ?_;rintro _ h2 ⟨rfl,K⟩;have m4:ag h2 h.i 4=some (.f tx):=(K.c_ af).o 4;have m5:ag h2 h.i 5=some vc:=(K.c_ af).o 5;have ab:=(rc.fr (ae.c K)).A_;cases c4:cP sl
   ·simp only[a_,seval];exact⟨rfl,ae.c K⟩
   cases c5:tx==[]
   ·simp only[a_,seval,m4,aR,c5];exact⟨rfl,ae.c K⟩
   simp only[a_,seval,m4,m5,aR,c5,ab];exact⟨by simp[<-HE],ae.c K⟩
  ·simp only[a_,seval,l2,l3,aR,c2];refine aa (qF ae.r (ra.fr ae) na) ?_;rintro _ h2 ⟨rfl,K⟩;have m4:ag h2 h.i 4=some (.f tx):=(K.c_ af).o 4;have m5:ag h2 h.i 5=some vc:=(K.c_ af).o 5;have ab:=(rc.fr (ae.c K)).A_;cases c4:cP sl
   ·simp only[a_,seval];exact⟨rfl,ae.c K⟩
   cases c5:tx==[]
   ·simp only[a_,seval,m4,aR,c5];exact⟨rfl,ae.c K⟩
   simp only[a_,seval,m4,m5,aR,c5,ab];exact⟨by simp[<-HE],ae.c K⟩
 have q1:¬(k:Int)=1:=oM
 by_cases k2:k=2
 ·have q2:(k:Int)=2:=oM
  have Z:eF k tg ky sl tx sub.v_=(Q0 tx&&(tg==[]&&(ky==[]&&decide (sl.length+sub.v_=0)))):=by
   unfold eF;rw[if_neg k1,if_neg oM,if_pos k2];have:decide (sl.length+sub.v_=0)=(decide (sl.length=0)&&decide (sub.v_=0)):=by rw[<-Bool.decide_and,decide_eq_decide];omega
   rw[this]
  rw[Z];refine ai ?_;simp only[a_,seval,<-aj,l0,eq_false q1,eq_true q2,l4];refine aa kM ?_;rintro _ _ ⟨rfl,rfl⟩;cases c1:Q0 tx
  ·simp only[a_,seval];exact⟨rfl,ae⟩
  cases c2:tg==[]
  ·simp only[a_,seval,l1,aR,c2];exact⟨rfl,ae⟩
  cases c3:ky==[]
  ·simp only[a_,seval,l1,l2,aR,c2,c3];exact⟨rfl,ae⟩
  simp(disch:=omega) only[a_,seval,ah,l1,l2,l3,l5,aR,c2,c3,la,lc];exact⟨by rw[yX];rfl,ae⟩
 have q2:¬(k:Int)=2:=oM
 by_cases ac:k=3\/k=4
 ·have Z:eF k tg ky sl tx sub.v_=(tx==[]&&(tg==[]&&(ky==[]&&decide (sl.length+sub.v_=0)))):=by
   unfold eF;rw[if_neg k1,if_neg oM,if_neg k2,if_pos ac];have:decide (sl.length+sub.v_=0)=(decide (sl.length=0)&&decide (sub.v_=0)):=by rw[<-Bool.decide_and,decide_eq_decide];omega
   rw[this];cases(tg==[])<;>cases(ky==[])<;>cases(tx==[])<;>rfl
  rw[Z];by_cases q:(k:Int)=3
  ·cases c1:tx==[]<;>cases c2:tg==[]<;>cases c3:ky==[];all_goals
    refine ai ?_;simp(disch:=omega) only[a_,seval,ah,<-aj,l0,l1,l2,l3,l4,l5,eq_false q1,eq_false q2,eq_true q,aR,c1,c2,c3,la,lc];exact⟨by first|rfl|(rw[yX];rfl),ae⟩
  ·have q':(k:Int)=4:=oM
   cases c1:tx==[]<;>cases c2:tg==[]<;>cases c3:ky==[];all_goals
    refine ai ?_;simp(disch:=omega) only[a_,seval,ah,<-aj,l0,l1,l2,l3,l4,l5,eq_false q1,eq_false q2,eq_false q,eq_true q',aR,c1,c2,c3,la,lc];exact⟨by first|rfl|(rw[yX];rfl),ae⟩
 have q3:¬(k:Int)=3:=oM
 have q4:¬(k:Int)=4:=oM
 by_cases k5:k=5
 ·have q5:(k:Int)=5:=oM
  have Z:eF k tg ky sl tx sub.v_=(F_ tg&&(cP sl&&(ky==[]&&(tx==[]&&decide (sub.v_=0))))):=by
   unfold eF;rw[if_neg k1,if_pos k5]
  rw[Z];refine ai ?_;simp only[a_,seval,<-aj,l0,l1,eq_false q1,eq_false q2,eq_false q3,eq_false q4,eq_true q5];refine aa fH ?_;rintro _ _ ⟨rfl,rfl⟩;cases c1:F_ tg
  ·simp only[a_,seval];exact⟨rfl,ae⟩
  simp only[a_,seval,l3];apply aa (qF ae.r (ra.fr ae) na);rintro _ h2 ⟨rfl,K⟩;have m2:ag h2 h.i 2=some (.f ky):=(K.c_ af).o 2;have m4:ag h2 h.i 4=some (.f tx):=(K.c_ af).o 4;have m5:ag h2 h.i 5=some vc:=(K.c_ af).o 5;have ab:=(rc.fr (ae.c K)).A_;cases c4:cP sl
  ·simp only[a_,seval];exact⟨rfl,ae.c K⟩
  cases c3:ky==[]
  ·simp only[a_,seval,m2,aR,c3];exact⟨rfl,ae.c K⟩
  cases c5:tx==[]
  ·simp only[a_,seval,m2,m4,aR,c3,c5];exact⟨rfl,ae.c K⟩
  simp only[a_,seval,m2,m4,m5,aR,c3,c5,ab];exact⟨iS,ae.c K⟩
 ·have q5:¬(k:Int)=5:=oM
  have Z:eF k tg ky sl tx sub.v_=false:=by
   unfold eF;rw[if_neg k1,if_neg k5,if_neg k2,if_neg ac]
  rw[Z];refine ai ?_;simp[a_,<-aj,l0,eq_false q1,eq_false q2,eq_false q3,eq_false q4,eq_false q5];exact ae
def PT.rs:PT->Nat->Nat->Nat
 |.z_,_,c=>c
 |.p_ k tg ky sl tx _ _ sub nx,lv,c=>if 64<c then c else nx.rs lv (c+(if lv=0\/eF k tg ky sl tx sub.v_=false then 1000 else sub.rs (lv-1) 1))
def PT.rn(k:Nat)(tg ky:i_)(sl:List Q5)(tx:i_)(sub:PT)(lv:Nat):Nat:=if lv=0\/eF k tg ky sl tx sub.v_=false then 1000 else sub.rs (lv-1) 1
theorem PT.bc:∀(t:PT)(lv c:Nat),t.rs lv c≤max c (1064+64*lv)
 |.z_,lv,c=>by simp only[PT.rs];omega
 |.p_ k tg ky sl tx _ _ sub nx,lv,c=>by
  simp only[PT.rs];split;omega;have h1:=PT.bc sub (lv-1) 1;have h2:=PT.bc nx lv (c+(if lv=0∨eF k tg ky sl tx sub.v_=false then 1000 else sub.rs (lv-1) 1));split at h2<;>rename_i q
  rw[if_pos q];omega;rw[if_neg q];omega
theorem PT.bs(k:Nat)(tg ky:i_)(sl:List Q5)(tx:i_)(sub:PT)(lv:Nat):PT.rn k tg ky sl tx sub lv<=1064+64*lv:=by unfold PT.rn;split;omega;have:=PT.bc sub (lv-1) 1;omega
theorem PT.bv:∀(t:PT)(lv c:Nat),64<c->t.rs lv c=c
 |.z_,_,_,_=>rfl
 |.p_ _ _ _ _ _ _ _ _ _,_,_,h=>by simp[PT.rs,if_pos h]
def CR(k:Nat)(tg ky:i_)(sl:List Q5)(tx:i_)(va vc:V)(sub:PT):Prop:=∀(lv:Nat)(h:b_),lv<=6->WF h->PH h (.p_ k tg ky sl tx va vc sub .z_)->
 av go 272 [.B [ZY (k:Int),.f tg,.f ky,va,.f tx,vc],ZZ (lv:Int)] h fun u h'=>u=ZZ (PT.rn k tg ky sl tx sub lv:Nat)/\Fr [] h h'
def w?:PT->Prop
 |.z_=>True
 |.p_ k tg ky sl tx va vc sub nx=>CR k tg ky sl tx va vc sub/\w? nx
theorem w?.Z8:∀{t:PT}(i:Nat),w? t->w? (t.Y2 i)
 |.z_,0,_=>trivial
 |.z_,_+1,_=>trivial
 |.p_ _ _ _ _ _ _ _ _ _,0,a=>a
 |.p_ _ _ _ _ _ _ _ _ _,i+1,⟨_,b⟩=>w?.Z8 i b
theorem Fj{k:Nat}{sub:PT}(M:w? sub):CR k tg ky sl tx va vc sub:=by
 intro lv h af w n;have n0:=n;let⟨n1,ra,na,rc,nc,n6,_⟩:=n;let⟨h1,ar,aj,ak⟩:=au w [ZY (k:Int),.f tg,.f ky,va,.f tx,vc];by_cases c1:(lv:Int)<1;refine ai ?_;simp only[a_,seval,<-ar,eq_true c1];exact⟨by rw[PT.rn,if_pos (.inl oM)];rfl,aj⟩;have l6:aq h1 h.i 0 6=some [ZY (k:Int),.f tg,.f ky,va,.f tx,vc]:=by rw[ak.J];rfl
 refine ai ?_;simp[a_,<-ar,eq_false c1,l6];apply aa (JP aj.r (n0.fr aj));rintro _ h2 ⟨rfl,F2⟩;have ab:=aj.c F2;cases c2:eF k tg ky sl tx sub.v_;simp only[a_,seval];exact⟨by rw[PT.rn,if_pos (.inr c2)];rfl,ab⟩;have o2:=F2.c_ ak;simp[a_];refine aC (fun n env hh=>Fr [] h2 hh/\∃(i c:Nat),env.c_ 6=some (ZZ (i:Int))/\env.c_ 5=some (ZZ (c:Int))/\env.c_ 2=some (.u h.i 0)/\env.c_ 1=some (ZZ (lv:Int))/\i<=sub.v_/\c<=2000/\(sub.Y2 i).rs (lv-1) c=sub.rs (lv-1) 1/\n=sub.v_-i) sub.v_ oM ?_ ?_;exact⟨Vk F2.r,0,1,iS,iS,iS,iS,oM,oM,by cases sub<;>rfl,rfl⟩;rintro n' env hh ⟨F,i,c,g6,g5,g2,g1,hi,hc,e,rfl⟩;have F0:=ab.c F;have l5:ag hh h.i 5=some vc:=(F.c_ o2).o 5;have K:=rc.fr F0;by_cases ac:i<sub.v_;have Z:(i:Int)<sub.v_:=oM;by_cases c3:(c:Int)<=64;let⟨kd,aH,ay,ax,a0,a2,a1,an,nx,e1,e2,e3,e4,e5,_⟩:=sub.ZO i ac;let⟨bi,oi,p1,p2⟩:=Sl.aC K ac e2;have ph:=PH.Z8 i (n6.fr F0);rw[e1]at ph e;let⟨z1,z2,z3,z4,z5,z6,z7⟩:=ph;have cr:=w?.Z8 i M;rw[e1]at cr;let⟨q0,q1,q2,q3,q4,q5,q6⟩:=p2;simp(disch:=omega) only[a_,seval,ah,g6,g5,g2,g1,l5,K.A_,Z,eq_true c3,p1,q6];have ae:(lv:Int)-1=((lv-1:Nat):Int):=oM;rw[ae];apply aa (cr.1 (lv-1) hh oM F.r ⟨z1,z2,z3,z4,z5,z6,trivial⟩);rintro _ h3 ⟨rfl,F3⟩;have le:=PT.bs kd aH ay ax a0 an (lv-1);simp[PT.rs,if_neg (oM:¬64<c)]at e;simp(disch:=omega) only[a_,seval,ah,g6];refine t_ ⟨sub.v_-(i+1),oM,F.c F3,i+1,c+PT.rn kd aH ay ax a0 an (lv-1),iS,iS,iX,iX,oM,oM,by rw[e3];exact e,rfl⟩;rw[PT.bv _ _ _ oM]at e;simp only[a_,seval,g6,g5,g2,l5,K.A_,Z,eq_false c3];exact⟨by rw[PT.rn,if_neg (by rw[c2];simp;omega),<-e],F0⟩;rw[PT.Zt _ _ oM]at e;have Z:¬(i:Int)<sub.v_:=oM;simp only[a_,seval,g6,g5,g2,l5,K.A_,eq_false Z];have e':c=sub.rs (lv-1) 1:=e;exact⟨by rw[PT.rn,if_neg (by rw[c2];simp;omega),<-e'],F0⟩
theorem crs:∀t:PT,w? t
 |.z_=>trivial
 |.p_ _ _ _ _ _ _ _ sub nx=>⟨Fj (crs sub),crs nx⟩
def PT.rC(k:Nat)(tg ky:i_)(sl:List Q5)(tx:i_)(sub:PT):Nat:=if k≠1\/64<PT.rn k tg ky sl tx sub 6 then 0 else PT.rn k tg ky sl tx sub 6
theorem Ge{h:b_}{k:Nat}{sub:PT}(w:WF h)(n:PH h (.p_ k tg ky sl tx va vc sub .z_)):
 av go 237 [.B [ZY (k:Int),.f tg,.f ky,va,.f tx,vc]] h fun u h'=>u=ZZ (PT.rC k tg ky sl tx sub:Nat)/\Fr [] h h':=by
 let⟨h1,ae,ab,ac⟩:=au w [ZY (k:Int),.f tg,.f ky,va,.f tx,vc];have l6:aq h1 h.i 0 6=some [ZY (k:Int),.f tg,.f ky,va,.f tx,vc]:=by rw[ac.J];rfl
 refine ai ?_;simp[a_,<-ae,l6];refine aa ((crs (.p_ k tg ky sl tx va vc sub .z_)).1 6 h1 oM ab.r (n.fr ab)) ?_;rintro _ h2 ⟨rfl,Z⟩;have K:ag h2 h.i 0=some (ZY (k:Int)):=(Z.c_ ac).o 0;unfold PT.rC;by_cases c1:(k:Int)=1;by_cases c2:(64:Int)<(PT.rn k tg ky sl tx sub 6:Nat);simp[a_,K,eq_true c1,eq_true c2];exact⟨by rw[if_pos (.inr oM)];rfl,ab.c Z⟩;simp[a_,K,eq_true c1,eq_false c2];exact⟨by rw[if_neg oM],ab.c Z⟩;simp[a_,K,eq_false c1];exact⟨by rw[if_pos (.inl oM)];rfl,ab.c Z⟩
theorem xY{h:b_}{k:Nat}{sub:PT}(w:WF h)(n:PH h (.p_ k tg ky sl tx va vc sub .z_)):
 av go 185 [.B [ZY (k:Int),.f tg,.f ky,va,.f tx,vc]] h fun u h'=>u=ZZ (if PT.rC k tg ky sl tx sub=0 then 14 else 0)/\Fr [] h h':=by
 let⟨h1,ae,ab,ac⟩:=au w [ZY (k:Int),.f tg,.f ky,va,.f tx,vc];have K:aq h1 h.i 0 6=some [ZY (k:Int),.f tg,.f ky,va,.f tx,vc]:=by rw[ac.J];rfl
 refine ai ?_;simp[a_,<-ae,K];refine aa (Ge ab.r (n.fr ab)) ?_;rintro _ h2 ⟨rfl,Z⟩;by_cases c:(PT.rC k tg ky sl tx sub:Int)=0;simp only[a_,seval,eq_true c];exact⟨by rw[if_pos oM],ab.c Z⟩;simp only[a_,seval,eq_false c];exact⟨by rw[if_neg oM],ab.c Z⟩
theorem OY{h:b_}{B Z e:Nat}{v:V}(g:Gs h B e v cs)(hb:Z<=B):Gs h Z e v cs:=by obtain z|⟨b,n,z1,z2,K,z4,o⟩:=g;exact .inl z;exact .inr ⟨b,n,z1,z2,K,oM,o⟩
theorem xH{h:b_}{x:e_}{v:V}{l:List Q5}(w:WF h)(a:q_ h x)(r:o_ vL 3 h v l)(nl:l.length<=4096)(h3:∀s∈l,s.2.1<=3):
 av go 241 [v,.B x.s] h fun u h'=>Gs h' h.i 2 u ((l.map (P1 x)).flatMap gK)/\Fr [] h h':=by
 have kx:=a.k;have nx:=a.n;let⟨h1,ar,ak,an⟩:=au w x.s;have x0:∀{h'},Fr [] h1 h'->ag h' h.i 0=some (ZX (x.A:Int)):=fun f=>(f.c_ an).o 0;have x2:∀{h'},Fr [] h1 h'->ag h' h.i 2=some (.f x.U):=fun f=>(f.c_ an).o 2;have x3:∀{h'},Fr [] h1 h'->ag h' h.i 3=some x.vm:=fun f=>(f.c_ an).o 3;refine ai ?_;simp[a_,<-ar];refine aC (fun n env hh=>Fr [] h1 hh/\∃(i:Nat)(vo:V),env.c_ 6=some (ZZ (i:Int))/\env.c_ 5=some vo/\env.c_ 3=some (.u h.i 0)/\env.c_ 0=some v/\i<=l.length/\Gs hh h1.i 2 vo (((l.take i).map (P1 x)).flatMap gK)/\n=l.length-i) l.length oM ?_ ?_;exact⟨Vk ak.r,0,.j,iS,iS,iS,iS,oM,.inl ⟨rfl,iS⟩,rfl⟩;rintro n env hh ⟨F,i,vo,g6,g5,g3,g0,hi,G,rfl⟩;have F0:=ak.c F;have rh:=r.fr F0;by_cases aj:i<l.length;have Z:(i:Int)<l.length:=oM;let⟨b',o',s,p1,p2,p3,p4⟩:=rh.ix gE .i64 (i:Int) oM Z;rw[pi]at p4;have s3:=h3 s (Vg p4);have u0:ag hh b' o'=some (.f s.1):=p2 0 oM;have u1:ag hh b' (o'+1)=some (ZY (s.2.1:Int)):=p2 1 oM;have u2:ag hh b' (o'+2)=some (.f s.2.2):=p2 2 oM;have cv:bF .u64 (x.E.length:Int)=(x.E.length:Int):=bY _ oM oM;have fin:∀ac h9,Gs h9 h1.i 2 ac (((l.take i).map (P1 x)).flatMap gK++gK (P1 x s))->Gs h9 h1.i 2 ac (((l.take (i+1)).map (P1 x)).flatMap gK):=by intro ac h9 g;rw[Vs,p4];simpa using g
 have ae:(((l.take i).map (P1 x)).flatMap gK).length=i*2:=by rw[aG fc];simp;omega
 have lit:∀z,f_ (k_ hh [.f s.1,.f z]) hh.i [.f s.1,.f z]:=fun z=>Wi F.r _;have af:=F.i;have am:=a.m.fr F0;have ev:s.2.1=0\/s.2.1=1\/s.2.1=2\/s.2.1=3:=oM;have rest:∀(z:i_)(ab:b_){K:V->b_->Prop},Fr [] hh ab->Bq x s=z->(∀v' h',Gs h' h1.i 2 v' (((l.take (i+1)).map (P1 x)).flatMap gK)->Fr [] h1 h'->K v' h')->OQ (jO (k_ ab [.f s.1,.f z]) 2 32 vo (.z ab.i 0 1 1)) K:=by intro z ab K f e k;have nn:=f.i;have F1:=VL f.r [.f s.1,.f z];have G':=Gs.fr (Gs.fr G f) F1;refine WY (n:=1) F1.r G' (Wy (Wi f.r _) rfl) oM oM rfl (by have:=F1.i;omega) (by rw[ae];omega) ?_;intro v' h' g _ f';refine k v' h' (fin v' h' (by unfold gK P1;rw[e];exact g)) (Ww ak.r ((F.c f).c F1) f' (fun y hy=>?_));obtain⟨rfl,_⟩|⟨b,n,rfl,_,_,hb,o⟩:=G;simp[vb]at hy;simp[vb]at hy;omega
 obtain e|e|e|e:=ev;have e':(s.2.1:Int)=0:=oM;simp only[a_,seval,g6,g5,g0,rh.M,Z,p1,u0,u1,u2,(oM:¬(s.2.1:Int)=1),(oM:¬(s.2.1:Int)=2),(oM:¬(s.2.1:Int)=3)];refine rest _ _ (Vk F.r) (by simp[Bq,e]) fun v' h' g f=>?_;simp(disch:=omega) only[a_,seval,ah,g6];refine t_ ⟨l.length-(i+1),oM,f,i+1,v',iS,iS,iX,iX,oM,g,rfl⟩;simp only[a_,seval,g6,g5,g3,g0,rh.M,Z,p1,u0,u1,u2,(oM:(s.2.1:Int)=1),x2 F];refine rest _ _ (Vk F.r) (by simp[Bq,e]) fun v' h' g f=>?_;simp(disch:=omega) only[a_,seval,ah,g6];refine t_ ⟨l.length-(i+1),oM,f,i+1,v',iS,iS,iX,iX,oM,g,rfl⟩;have q1:¬(s.2.1:Int)=1:=oM;have q2:(s.2.1:Int)=2:=oM;simp only[a_,seval,g6,g3,g0,rh.M,Z,p1,u1,u2,eq_false q1,eq_true q2,x0 F];refine aa (pZ (x.A+1) x.A oM kx) ?_;rintro _ _ ⟨rfl,rfl⟩;simp only[a_,seval,g6,g5,g0,p1,u0];refine rest _ _ (Vk F.r) (by simp[Bq,e]) fun v' h' g f=>?_;simp(disch:=omega) only[a_,seval,ah,g6];refine t_ ⟨l.length-(i+1),oM,f,i+1,v',iS,iS,iX,iX,oM,g,rfl⟩;have q1:¬(s.2.1:Int)=1:=oM;have q2:¬(s.2.1:Int)=2:=oM;have q3:(s.2.1:Int)=3:=oM;simp only[a_,seval,g6,g3,g0,rh.M,Z,p1,u1,u2,eq_false q1,eq_false q2,eq_true q3,x3 F,am.A_,cv];refine aa (pZ (x.E.length+1) x.E.length oM oM) ?_;rintro _ _ ⟨rfl,rfl⟩;simp only[a_,seval,g6,g5,g0,p1,u0];refine rest _ _ (Vk F.r) (by simp[Bq,e]) fun v' h' g f=>?_;simp(disch:=omega) only[a_,seval,ah,g6];refine t_ ⟨l.length-(i+1),oM,f,i+1,v',iS,iS,iX,iX,oM,g,rfl⟩;have Z:¬(i:Int)<l.length:=oM;rw[Vm oM]at G;simp[a_,g6,g5,g0,rh.M,eq_false Z];exact⟨OY G (by have:=ak.i;omega),F0⟩
theorem Oe{X:List Nat}{h:b_}(f:Fr [] h h'):Fr X h h':=⟨f.i,f.r,fun _ _ _ o=>f.c_ o,fun _ _ _ o=>f.pl _ _ iS o,f.lp,f.ro⟩
theorem Hd{h:b_}{n0 B:Nat}{Z u:V}{s s5:NT}{K:V->b_->Prop}(w:WF h)(g:Gs h B 6 Z s.I_)(hB:B<=h.i)(h0:n0<=h.i)(I:Zb Z n0 h s)(sl:Sl h 6 u s5.A_ s5.I_)
 (N:∀(X:List Nat)(h':b_),(∀x∈X,x<n0\/x∈vb Z)->Fr X h h'->NH h' s5) (hl:s.A_<=1000) (ac:s5.A_<=1000) (hz:s5.A_=0->u=.j)
 (hk:∀v' h',Gs h' B 6 v' (s.Zc s5).I_->Zb v' n0 h' (s.Zc s5)->Fr (vb Z) h h'->(∀y∈vb v',y∈vb Z\/h.i<=y)->K v' h'):
 OQ (jO h 6 104 Z u) K:=by
 have on:=NH.aF (N [] h iS (Vk w));have cl:=s.R7;have af:=s5.R7;by_cases z:s5.A_=0;have hu:=hz z;subst hu;have e5:s5=.D_:=by cases s5 with
  |D_=>rfl
  |y_ _ _ _ _ _ _ _ _ _=>simp[NT.A_]at z
 subst e5;have ea:s.Zc .D_=s:=by
  have:∀t:NT,t.Zc .D_=t:=by
   intro t;induction t with
   |D_=>rfl
   |y_ _ _ _ _ _ _ _ _ _ _ ih=>simp[NT.Zc,ih]
  exact this s
 rw[ea]at hk;have ez:jO h 6 104 Z .j=some (Z,h):=by unfold jO;rw[sl.aH];simp;rw[lV z,cond_true];obtain⟨rfl,_⟩|⟨b,n,rfl,_⟩:=g<;>rfl
 rw[ez];refine(cU Z h K).2 (hk Z h g I (Oe (Vk w)) fun y m=>.inl m);have ae:∀x∈vb Z,x<h.i:=by obtain⟨rfl,_⟩|⟨b,n,rfl,_,_,_,o⟩:=g;simp[vb];have:=o.lt w;simp only[vb,Vu];rintro x rfl;exact this
 refine WY (n:=s5.A_) w g sl oM z on hB (by rw[cl];omega) ?_;intro v' h' g' e' F;refine hk v' h' ?_ ?_ F (by rw[e'];simp);rw[NT.ZC];exact g';intro X h2 hX f2;have f3:Fr (vb Z++X.filter (fun x=>decide (x<n0))) h h2:=by refine Vn F f2 w (fun x hx=>.inl iX) (fun x hx=>?_);obtain q|q:=hX x hx;grind;grind
 have ab:∀x∈vb Z++X.filter (fun x=>decide (x<n0)),x<n0\/x∈vb Z:=by grind
 exact NH.W3 (I _ h2 ab f3) (N _ h2 ab f3)
def PG:PT->Prop
 |.z_=>True
 |.p_ k _ _ sl _ _ _ sub nx=>1<=k/\k<=5/\(∀s∈sl,s.2.1<=3)/\sub.v_<=16/\PG sub/\PG nx
theorem PG.Z8:∀{t:PT}(i:Nat),PG t->PG (t.Y2 i)
 |.z_,0,_=>trivial
 |.z_,_+1,_=>trivial
 |.p_ _ _ _ _ _ _ _ _ _,0,a=>a
 |.p_ _ _ _ _ _ _ _ _ _,i+1,⟨_,_,_,_,_,b⟩=>PG.Z8 i b
def MDp(h:b_)(x:e_)(k:Nat)(tg ky:i_)(sl:List Q5)(tx:i_)(sub:PT)(u:V)(h':b_):Prop:=
 ∃s:NT,s.sh=oJ x k tg ky sl tx (cH x sub)/\Fr [] h h'/\s.A_<=8/\(s.A_=0->u=.j)/\∀(X:List Nat)(h2:b_),(∀y∈X,y<h.i)->Fr X h' h2->NH h2 s/\Sl h2 6 u s.A_ s.I_
def MD(k:Nat)(tg ky:i_)(sl:List Q5)(tx:i_)(va vc:V)(sub:PT):Prop:=∀(x:e_)(h:b_),WF h->q_ h x->x.E.length<=8->PH h (.p_ k tg ky sl tx va vc sub .z_)->PG (.p_ k tg ky sl tx va vc sub .z_)->
 av go 187 [.B [ZY (k:Int),.f tg,.f ky,va,.f tx,vc],.B x.s] h (MDp h x k tg ky sl tx sub)
def x?:PT->Prop
 |.z_=>True
 |.p_ k tg ky sl tx va vc sub nx=>MD k tg ky sl tx va vc sub/\x? nx
theorem x?.Z8:∀{t:PT}(i:Nat),x? t->x? (t.Y2 i)
 |.z_,0,_=>trivial
 |.z_,_+1,_=>trivial
 |.p_ _ _ _ _ _ _ _ _ _,0,a=>a
 |.p_ _ _ _ _ _ _ _ _ _,i+1,⟨_,b⟩=>x?.Z8 i b
theorem yz{h:b_}{x:e_}{k:Nat}{z:i_}{sub:PT}(f:Fr [] h h1)(e:oJ x k tg ky sl tx (cH x sub)=ip z):
 MDp h x k tg ky sl tx sub (.z h1.i 0 1 1) (k_ h1 [ZY 2,.f [],.f [],.j,.f z,.j]):=by
 have Z:=VL f.r [ZY 2,.f [],.f [],.j,.f z,.j];have o1:=Wi f.r [ZY 2,.f [],.f [],.j,.f z,.j];refine⟨.y_ 2 [] [] [] z .j .j .D_ .D_,by rw[e];rfl,f.c Z,Vj rfl,fun q=>absurd q (by simp[NT.A_]),fun X h2 hX f2=>⟨mG 2 oM [] z,Wy (f2.D _ _ (fun m=>by have:=hX _ m;have:=f.i;omega) o1) rfl⟩⟩
def Zr(old:List Int)(r:Bool):Nat->List Int->List Int->List Bool->Int×List Int×List Bool
 |_,[],l,kn=>(0,l,kn)
 |i,s::m,l,kn=>if decide (old.getD i 0<s)=r then(if fF l i s=0 then Zr old r (i+1) m (l.set i s) (kn.set i false)else(fF l i s,l,kn))else Zr old r (i+1) m l kn
theorem Gs.bH{h:b_}{B:Nat}{v:V}{M:List Int}(g:Gs h B 1 v (M.map fun x=>ZZ x))(Z:M.length<=4096):qz h v M:=by have:=g.sl (n:=M.length) iS oM;exact this
theorem MZ{h:b_}{b B S c a:Nat}{l old M:List Int}{ko so:List Bool}{v4 v:V}{K:Option Nat}{mc:cJ}{r:Bool}{Q:Ex->T V->b_->Prop}{j:Int}{v103 v104:V}
 (w:WF h) (s:H_ n0 h b Ks cap X l kn st vK bg B bm S bl pm mc) (ac:P3 h c K old ko so) (on:f_ h nb [k0,ZZ (a:Int),c0,t0,v]) (iv:Gs h B0 1 v4 (M.map fun x=>ZZ x))
 (lb:b<B0) (bz:bl<B0) (a4:∀q,pm=some q->q<B0) (gc:B0<=c) (a3:∀q,K=some q->B0<=q) (gn:B0<=nb)
 (e0:env.c_ 0=some (.u b 0)) (e3:env.c_ 3=some (.u nb 0)) (bh:env.c_ 12=some v4) (bw:env.c_ 13=some v5) (bp:env.c_ 14=some (.u c 0)) (bt:env.c_ 16=some (.h r)) (bn:env.c_ 105=some (ZZ j)) (bo:env.c_ 103=some v103) (bk:env.c_ 104=some v104)
 (ha:a+M.length<=X.length) (lo:old.length=X.length) (hx:X.length<=1024) (hM:∀m∈M,-9223372036854775808<=m/\m<=9223372036854775807)
 (k1:(Zr old r a M l kn).1=0->∀env' h',env'.c_ 0=some (.u b 0)/\env'.c_ 3=some (.u nb 0)/\env'.c_ 12=some v4/\env'.c_ 13=some v5/\env'.c_ 14=some (.u c 0)/\env'.c_ 105=some (ZZ j)/\env'.c_ 103=some v103/\env'.c_ 104=some v104->
  Fr (bl::pm.toList) h h'->H_ n0 h' b Ks cap X (Zr old r a M l kn).2.1 (Zr old r a M l kn).2.2 st vK bg B bm S bl pm mc->P3 h' c K old ko so->Q .a env' h')
 (k2:(Zr old r a M l kn).1≠0->∀env' h',env'.c_ 4=some (ZZ (Zr old r a M l kn).1)->Fr (b::bl::pm.toList) h h'->f_ h' b [vK,ZZ cap,.u bg 0,.u bm 0,.u c 0]->P3 h' c K old ko so->Q .d env' h'):
 W go chI env h Q:=by
 have iM:=Gs.bH iv oM;simp[a_,chI,bh,iM.A_];refine aC (fun n env hh=>Fr (bl::pm.toList) h hh/\∃(i:Nat)(l2:List Int)(ar:List Bool),P3 hh c K old ko so/\H_ n0 hh b Ks cap X l2 ar st vK bg B bm S bl pm mc/\
  env.c_ 111=some (ZZ i)/\env.c_ 110=some (ZZ M.length)/\env.c_ 109=some v4/\env.c_ 0=some (.u b 0)/\env.c_ 3=some (.u nb 0)/\env.c_ 12=some v4/\env.c_ 13=some v5/\env.c_ 14=some (.u c 0)/\env.c_ 16=some (.h r)/\env.c_ 105=some (ZZ j)/\env.c_ 103=some v103/\env.c_ 104=some v104/\
  i<=M.length/\Zr old r (a+i) (M.drop i) l2 ar=Zr old r a M l kn/\n=M.length-i) M.length oM ?_ ?_
 exact⟨Vk w,0,l,kn,ac,s,iS,iS,iS,iX,iX,iX,iX,iX,iX,iX,iX,iX,oM,rfl,rfl⟩;rintro n env hh ⟨F,i,l2,ar,aj,ss,ab,af,ak,g0,g3,ba,a9,an,ax,a0,a5,aH,hi,em,rfl⟩;have nn:∀y,B0<=y->y∉bl::pm.toList:=by intro y hy m;obtain m|m:=Vo.1 m;omega;have:=a4 y (eV m);omega
 have a2:=F.D _ _ (nn _ gn) on;have n1:ag hh nb 1=some (ZZ (a:Int)):=a2.o 1;have bj:=Gs.bH (M:=M) (YR iv F (fun y m=>by
  obtain m|m:=Vo.1 m;omega;exact a4 y (eV m))) oM
 by_cases bv:i<M.length;have ae:(i:Int)<M.length:=oM;let⟨bi,oi,x,p1,p3,p4⟩:=bj.ix .i64 (i:Int) oM ae;rw[pi]at p4;let⟨z0,z1⟩:=hM x (Vg p4);have hd:M.drop i=x::M.drop (i+1):=aN p4;rw[hd]at em;simp only[Zr]at em;simp(disch:=omega) only[a_,seval,ah,ab,af,ak,g3,an,ae,p1,p3,n1];apply aa (Jl F.r aj.lo);rintro _ h5 ⟨rfl,F5⟩;have Z:=ss.fr F.r F5;have ay:ag h5 nb 1=some (ZZ (a:Int)):=(F5.c_ a2).o 1;have b4:ag h5 b 4=some (.u bl 0):=Z.ob.o 4;have a8:0<=(a:Int)+i/\(a:Int)+i<old.length:=oM;have tn:((a:Int)+i).toNat=a+i:=oM;rw[if_pos a8,tn];by_cases c1:decide (old.getD (a+i) 0<x)=r;rw[if_pos c1]at em;simp(disch:=omega) only[a_,seval,g_,ah,g0,g3,ax,c1,ay,b4];apply aa (BC F5.r Z.lo z0 z1 oM oM);rintro _ h6 ⟨rfl,a6,F6⟩;have ea:(a:Int)+i=((a+i:Nat):Int):=oM;rw[tn,ea]at a6;rw[ea];have br:ag h6 b 4=some (.u bl 0):=(F6.D b _ (fun m=>by have:=s.d;obtain m|m:=Vo.1 m;exact this.r m;exact(this.p b (eV m)).1 rfl) Z.ob).o 4
 have a7:P3 h6 c K old ko so:=(aj.fr F5).ap F6 Z.lo.an (nn _ gc) (fun q e=>nn _ (a3 q e));have a1:Fr (bl::pm.toList) h h6:=Vn (Vn F F5 w (fun x m=>.inl m) (fun x m=>by simp at m)) F6 w (fun x m=>.inl m) (fun x m=>.inl m);by_cases c5:fF l2 ((a+i:Nat):Int) x=0;rw[if_pos c5]at a6 em;have s6:=Z.aZ F5.r F6 a6 (eG ss.A_) (.inl rfl);simp(disch:=omega) only[a_,seval,DF,g_,ah,ab,ay,b4,eq_true c5];refine t_ ⟨M.length-(i+1),oM,a1,i+1,_,_,a7,s6,iS,(eG af),(eG ak),(eG g0),(eG g3),(eG ba),(eG a9),(eG an),(eG ax),(eG a0),(eG a5),(eG aH),oM,em,rfl⟩;rw[if_neg c5]at a6 em;rw[<-em]at k2;simp only[a_,seval,DF,g_,g0,an,ay,b4,eq_false c5];have s6:=Z.aZ F5.r F6 a6 ss.A_ (.inl rfl);apply u_ F6.r s6.ob;rintro h7 o7 F7 n7;have bc:b<c:=oM;have bf:P3 h7 c K old ko so:=a7.ap F7 (V5.D s6.ob iS (gM (n:=2) rfl)) oO (fun q e=>by have:=a3 q e;simp;omega);have f7:Fr (b::bl::pm.toList) h h7:=Vn a1 F7 w (fun x m=>.inl (WI _ m)) (fun x m=>.inl (by simp at m;simp[m]));simp only[a_,seval];exact k2 c5 _ _ iS f7 o7 bf;rw[if_neg c1]at em;simp(disch:=omega) only[a_,seval,ah,ab,ax,eq_false c1];refine t_ ⟨M.length-(i+1),oM,Vn F F5 w (fun x m=>.inl m) (fun x m=>by simp at m),i+1,_,_,aj.fr F5,Z,iS,iX,iX,iX,iX,iX,iX,iX,iX,iX,iX,iX,oM,em,rfl⟩;have:i=M.length:=oM;subst this;rw[WV]at em;have ae:¬(M.length:Int)<M.length:=oM;simp[a_,ab,af];rw[<-em]at k1;exact k1 rfl _ _ ⟨iX,iX,iX,iX,iX,iX,iX,iX⟩ F ss aj
theorem wt{α:Type}{A D:List α}{a i:Nat}(Z:D.length=i)(h:a+i<A.length)(y:α):(A.take a++D++A.drop (a+i)).set (a+i) y=A.take a++(D++[y])++A.drop (a+(i+1)):=by
 have l1:(A.take a++D).length=a+i:=by simp;omega
 rw[List.set_append_right _ _ oM,l1,WP,Wm h];simp[WJ]
theorem H_.B_{h:b_}{b B S i:Nat}{l:List Int}{mc:cJ}{y:e_}(w:WF h)(s:H_ n0 h b Ks cap X l kn st vK bg B bm S bl pm mc)(f:Fr [B] h h')
 (g:Gp h' bg B X.length ((X.set i y).flatMap e_.s)) (gB:P_ h' B)
 (hy:∀(Z:List Nat)(K:b_),(∀z∈Z,z∈Wr b bg B bm S bl pm\/h'.i<=z\/Lx n0 z)->Fr Z h' K->q_ K y):H_ n0 h' b Ks cap (X.set i y) l kn st vK bg B bm S bl pm mc:=by
 have d:=s.d;have fn:=f.i;have n0l:=s.ax;refine⟨f.D _ _ (eV d.n) s.ob,by simpa using g,gB,s.k.ap f (eV d.c.symm) (eV d.a.symm),s.gS.fr f (eV d.a.symm),s.lo.ap f s.gB.an (eV d.g.symm) (fun q e=>by simpa using(d.p q e).2.2.1),by simp[s.A_],?_,d,by have:=s.aB;omega,fun q e=>by have:=s.pl q e;omega,by have:=s.au;omega,fun z q=>by have:=n0l z q;omega⟩;intro Z K hZ f2;have fz:Fr ([B]++Z) h K:=Vn f f2 w (fun x m=>.inl (Vc.2 (.inl m))) (fun x m=>.inl (Vc.2 (.inr m)));let⟨r1,r2,r3⟩:=s.rd _ K (fun z m=>by
  obtain m|m:=Vc.1 m;simp at m;subst m;exact .inl (by simp[Wr]);obtain q|q|q:=hZ z m;exact .inl q;exact .inr (.inl oM);exact .inr (.inr q)) fz
 refine⟨r1,r2,fun x m=>?_⟩;obtain m|rfl:=WH m;exact r3 x m;exact hy Z K hZ f2
theorem M0{h:b_}{b B S a:Nat}{Y:List e_}{l:List Int}{v:V}{mc:cJ}
 (w:WF h) (s:H_ n0 h b Ks cap X l kn st vK bg B bm S bl pm mc) (on:f_ h nb [k0,ZZ (a:Int),c0,t0,v]) (iv:Gs h B0 1 v5 (Y.map fun x=>.h (bK Ks x)))
 (lw:∀y∈Wr b bg B bm S bl pm,y<B0) (gn:B0<=nb) (e0:env.c_ 0=some (.u b 0)) (e3:env.c_ 3=some (.u nb 0)) (bB:env.c_ 13=some v5)
 (sv:∀h',Fr (B::bl::pm.toList) h h'->C_ e_.s 4 h' v Y/\∀y∈Y,q_ h' y) (hY:∀y∈Y,nZ y.vm=true) (ba:∀z,Lx n0 z->z<B0) (bh:B0<=h.i)
 (ha:a+Y.length<=X.length) (hx:X.length<=1024)
 (k:∀h' Y',U8 Y Y'->Fr (B::bl::pm.toList) h h'->H_ n0 h' b Ks cap (X.take a++Y'++X.drop (a+Y.length)) l kn (st.take a++Y.map (bK Ks)++st.drop (a+Y.length)) vK bg B bm S bl pm mc->R (ZZ 0) h'):
 W go chC env h (jz [.t 4] R):=by
 have d:=s.d;have lst:st.length=X.length:=by let⟨_,_,_,_,_,_,e⟩:=s.lo;rw[e,s.A_]
 have n4:ag h nb 4=some v:=on.o 4;let⟨sY,b9⟩:=sv h (Vk w);have sw:∀z,z∈B::bl::pm.toList->z∈Wr b bg B bm S bl pm:=by intro z m;obtain rfl|m:=Vo.1 m;simp[Wr];obtain rfl|m:=Vo.1 m;simp[Wr];exact Vc.2 (.inr m)
 have nn:∀y,B0<=y->y∉B::bl::pm.toList:=fun y hy m=>by have:=lw y (sw y m);omega
 simp only[a_,seval,chC,e3,n4,sY.A_];refine aC (fun n env hh=>Fr (B::bl::pm.toList) h hh/\∃(i:Nat)(D:List e_),U8 (Y.take i) D/\H_ n0 hh b Ks cap (X.take a++D++X.drop (a+i)) l kn (st.take a++(Y.take i).map (bK Ks)++st.drop (a+i)) vK bg B bm S bl pm mc/\
  env.c_ 152=some (ZZ i)/\env.c_ 151=some (ZZ Y.length)/\env.c_ 150=some v/\env.c_ 0=some (.u b 0)/\env.c_ 3=some (.u nb 0)/\env.c_ 13=some v5/\i<=Y.length/\n=Y.length-i) Y.length oM ?_ ?_
 exact⟨Vk w,0,[],trivial,by simpa using s,iS,iS,iS,iX,iX,iX,oM,rfl⟩;rintro n env hh ⟨F,i,D,cp,ss,ae,af,a1,g0,g3,a7,hi,rfl⟩;have bk:=F.D _ _ (nn _ gn) on;have dl:=cp.A_;rw[Xg,WE hi]at dl;have hn:=F.i;by_cases bw:i<Y.length;have K:(i:Int)<Y.length:=oM;let⟨bW,b6⟩:=sv hh F;let⟨bi,oi,y,p1,_,p3,p4⟩:=bW.ix (f:=e_.s) (k:=4) (fun _=>rfl) .i64 (i:Int) oM K;rw[pi]at p4;have ym:=Vg p4;have ay:=b6 y ym;let⟨h3,bV,bE,bT⟩:=au F.r [ZX 0,ZY 0,.f [],.j];simp only[a_,seval,ae,af,a1,K,p1,p3,<-bV];refine ao (c':=y.s) bE.r bT rfl ay.O rfl ?_;rintro h4 o4 F4 bC;have ac:Fr [] hh h4:=bE.y F4 F.r (Ve _);have s4:=ss.fr F.r ac;have b4:ag h4 b 4=some (.u bl 0):=s4.ob.o 4;have n1:ag h4 nb 1=some (ZZ (a:Int)):=(ac.c_ bk).o 1;have an:Fr (B::bl::pm.toList) h h4:=Vn F ac w (fun x m=>.inl m) (fun x m=>by simp at m);have bv:J_ h4 v5 (Y.map (bK Ks)):=by have:=(YR iv an (fun y m=>lw y (sw y m))).sl (n:=(Y.map (bK Ks)).length) iS oM;unfold J_ Q3;rw[VW];exact this
 let⟨b7,ca,x2,q1,q3,q4⟩:=bv.ix .i64 (i:Int) oM (eV K);rw[pi,VY,p4]at q4;simp at q4;subst q4;simp(disch:=omega) only[a_,seval,g_,ah,g0,g3,a7,b4,n1,q1,q3];apply aa (FZ ac.r s4.lo oM oM);rintro _ h5 ⟨F5,a5⟩;have l4:=s4.A_;have lX:(X.take a++D++X.drop (a+i)).length=X.length:=by simp;omega
 rw[if_pos oM]at a5;obtain⟨rfl,a5⟩:=a5;have tn:((a:Int)+i).toNat=a+i:=oM;have e1:(st.take a++(Y.take i).map (bK Ks)++st.drop (a+i)).set (a+i) (bK Ks y)=st.take a++(Y.take (i+1)).map (bK Ks)++st.drop (a+(i+1)):=by rw[wt oO oM,Vs,p4];simp
 rw[tn,e1]at a5;have s5:=s4.aZ ac.r F5 a5 l4 (.inl rfl);have aj:Fr (B::bl::pm.toList) h h5:=Vn an F5 w (fun x m=>.inl m) (fun x m=>.inl (WI _ m));have ax:=aj.D _ _ (nn _ gn) on;have aH:ag h5 nb 1=some (ZZ (a:Int)):=ax.o 1;have b2:ag h5 b 2=some (.u bg 0):=s5.ob.o 2;have o5:=F5.D _ _ (fun m=>by have:=lw hh.i (sw _ (WI _ m));omega) o4;have y4:aq h5 hh.i 0 4=some y.s:=by rw[o5.J];rfl
 have br:ag h5 b 4=some (.u bl 0):=s5.ob.o 4;simp(disch:=omega) only[a_,seval,DF,g_,ah,g0,g3,b4,n1,q3,aH,b2,y4];have ab:=(sv h5 aj).2 y ym;apply aa (xv F5.r ab (hY y ym));rintro _ h6 ⟨vy,rfl,F6,nE,v1,ak⟩;have a0:=ak [] h6 iS (Vk F6.r);have s6:=s5.fr F5.r F6;let⟨v9,c1,G,c2,a9,g9,m9,k9,ec,en⟩:=s6.g;rw[lX]at en;have ea:(a:Int)+i=((a+i:Nat):Int):=oM;simp only[a_,g_,fW,ea];refine aa (Ko F6.r k9 (i:=a+i) oM (by simp only[aA,aD,v1];rfl) (C9 (x:=y) fun n=>Sl.aJ a0 _ _)) ?_;rintro _ h7 ⟨rfl,F7,a2,a6,k7,bj⟩;have bD:Fr [] h5 h6:=F6;have ar:Gp h7 bg B X.length (((X.take a++D++X.drop (a+i)).set (a+i) (y.D vy)).flatMap e_.s):=by refine⟨v9,a2,G,a6,a9,g9,m9,k7,?_,oM⟩;rw[bj,<-ec,WK,if_pos oM,cZ aT,(oM:(a+i) *4+4=(a+i+1) *4),bI aT];simp[fW]
 have bn:=ar.a oM;have bt:=F5.i;have bo:=ac.i;have bz:=F6.i;have bp:=F7.i;have a3:Fr [B] h5 h7:=Vn F6 F7 F5.r iS (fun x m=>.inl m);have s7:H_ n0 h7 b Ks cap ((X.take a++D++X.drop (a+i)).set (a+i) (y.D vy)) l kn _ vK bg B bm S bl pm mc:=s6.B_ F6.r F7 (by rw[lX];exact ar) bn (by
  intro Z h2 hZ f;have f6:Fr ([B]++Z) h6 h2:=Vn F7 f F6.r (fun x m=>.inl (Vc.2 (.inl m))) (fun x m=>.inl (Vc.2 (.inr m)));have r:=ak _ h2 (fun z m=>?_) (f6.bK F6.r);have bA:=ab.fr F6;exact⟨ab.k,ab.t,Sl.a r,ab.n,ab.l⟩;simp only[XE,decide_eq_true_eq]at m;let⟨m,m2⟩:=m;have hB:=lw B iX;obtain m|m:=Vc.1 m;simp at m;omega;obtain q|q|q:=hZ z m;have:=lw z q;omega;omega;have:=ba z q;omega)
 rw[wt dl.symm oM]at s7;have a4:Fr (B::bl::pm.toList) h h7:=Vn aj a3 w (fun x m=>.inl m) (fun x m=>.inl (by simp at m;simp[m]));have bf:ag h6 b 2=some (.u bg 0):=s6.ob.o 2;have a8:ag h6 nb 1=some (ZZ (a:Int)):=(F6.c_ ax).o 1;simp(disch:=omega) only[a_,seval,DF,ah,ae,aH,b2,y4,bf,a8];have bc:U8 (Y.take (i+1)) (D++[y.D vy]):=by rw[Vs,p4];exact U8.W3 cp ⟨⟨vy,rfl,Sl.nz a0⟩,trivial⟩
 refine t_ ⟨Y.length-(i+1),oM,a4,i+1,_,bc,s7,iS,iX,iX,iX,iX,iX,oM,rfl⟩;have:i=Y.length:=oM;subst this;rw[Vm (Ve _)]at cp ss;have K:¬(Y.length:Int)<Y.length:=oM;simp only[a_,seval,ae,af,eq_false K];exact k _ _ cp F ss
theorem Gs.ge{h:b_}{B Z e:Nat}{v:V}(g:Gs h B e v cs)(hb:Z<=B):Gs h Z e v cs:=by obtain z|⟨b,n,z1,z2,K,z4,o⟩:=g;exact .inl z;exact .inr ⟨b,n,z1,z2,K,oM,o⟩
def Zj(old:List Int)(a:Nat)(M:List Int):Nat->List Int->List Bool->Int×List Int×List Bool
 |0,l,kn=>(0,l,kn)
 |k+1,l,kn=>if(Zr old (k==0) a M l kn).1=0 then Zj old a M k (Zr old (k==0) a M l kn).2.1 (Zr old (k==0) a M l kn).2.2 else Zr old (k==0) a M l kn
theorem HL(ok:U3 Ks cap=true)(y:e_):-9223372036854775808<=aF Ks y/\aF Ks y<=9223372036854775807:=by
 unfold aF;cases e:Ks[y.N]? with
 |none=>simp
 |some q=>simp[U3]at ok;have:=ok.2.2.2.2 q (Vg e);simp only[Y0,ZE,Vd,decide_eq_true_eq]at this;simp;omega
theorem M1{h:b_}{b B S a:Nat}{Y:List e_}{l:List Int}{v:V}{mc:cJ}
 (w:WF h) (s:H_ n0 h b Ks cap X l kn st vK bg B bm S bl pm mc) (on:f_ h nb [k0,ZZ (a:Int),c0,t0,v])
 (lw:∀y∈Wr b bg B bm S bl pm,y<B0) (gn:B0<=nb) (e0:env.c_ 0=some (.u b 0)) (e3:env.c_ 3=some (.u nb 0))
 (sv:∀h',Fr (B::bl::pm.toList) h h'->C_ e_.s 4 h' v Y/\∀y∈Y,q_ h' y) (hY:∀y∈Y,nZ y.vm=true/\y.N<Ks.length) (a8:∀z,Lx n0 z->z<B0) (bh:B0<=h.i)
 (ha:a+Y.length<=X.length) (hx:X.length<=1024) (ok:U3 Ks cap=true)
 (kE:(Zj l a (Y.map (aF Ks)) 2 l kn).1≠0->∀h' c pmc,Fr (b::bl::pm.toList) h h'->f_ h' b [vK,ZZ cap,.u bg 0,.u bm 0,.u c 0]->P3 h' c pmc l kn st->h.i<=c->(∀q,pmc=some q->h.i<=q/\q≠c)->R (ZZ (Zj l a (Y.map (aF Ks)) 2 l kn).1) h')
 (k:(Zj l a (Y.map (aF Ks)) 2 l kn).1=0->∀h' Y',U8 Y Y'->Fr (B::bl::pm.toList) h h'->H_ n0 h' b Ks cap (X.take a++Y'++X.drop (a+Y.length)) (Zj l a (Y.map (aF Ks)) 2 l kn).2.1 (Zj l a (Y.map (aF Ks)) 2 l kn).2.2 (st.take a++Y.map (bK Ks)++st.drop (a+Y.length)) vK bg B bm S bl pm mc->R (ZZ 0) h'):
 W go chB env h (jz [.t 4] R):=by
 have d:=s.d;have sw:∀z,z∈bl::pm.toList->z∈Wr b bg B bm S bl pm:=by intro z m;obtain rfl|m:=Vo.1 m;simp[Wr];exact Vc.2 (.inr m)
 have nn:∀y,B0<=y->y∉bl::pm.toList:=fun y hy m=>by have:=lw y (sw y m);omega
 let⟨rk,kh,xh⟩:=s.rd [] h iS (Vk w);let⟨sY,bD⟩:=sv h (Vk w);have n4:ag h nb 4=some v:=on.o 4;simp[a_,chB,e0,e3,n4];apply aa (qk w ⟨vK,_,_,_,s.ob,rk,kh⟩ sY (fun y m=>⟨bD y m,(hY y m).2⟩) oM);rintro _ h1 ⟨v4,v5,rfl,G4,G5,F1⟩;have s1:=s.fr w F1;have b4:ag h1 b 4=some (.u bl 0):=s1.ob.o 4;simp[a_,e0,b4];apply aa (rH F1.r s1.lo);rintro _ h2 ⟨c,pmc,rfl,hc,hp,a2,F2⟩;have a7:=P3.ne a2;have s2:=s1.fr F1.r F2;have a9:=F1.c F2;simp only[a_,↓reduceIte];obtain⟨h3,K⟩:∃h3,h3=k_ h2 [.h false,.h true]:=⟨_,rfl⟩;have Z:Fr [] h2 h3:=K▸VL F2.r _;have o3:f_ h3 h2.i [.h false,.h true]:=K▸Wi F2.r _;rw[<-K];have s3:=s2.fr F2.r Z;have ar:=a9.c Z;have n1:=F1.i;have n2:=F2.i;have n3:=s_ K;have a4:Gs h3 B0 1 v4 ((Y.map (aF Ks)).map fun x=>ZZ x):=by rw[VW];exact Gs.ge (YR G4 (F2.c Z) iS) bh
 have a6:Gs h3 B0 1 v5 (Y.map fun x=>.h (bK Ks x)):=Gs.ge (YR G5 (F2.c Z) iS) bh;have a3:=a2.fr Z;have a5:=ar.c_ on;have bw:b<B0:=lw b (by simp[Wr]);have bc:bl<B0:=lw bl iX;have pw:∀q,pm=some q->q<B0:=fun q e=>lw q (by simp[Wr,e]);have ba:∀q,pmc=some q->B0<=q:=fun q e=>by have:=hp q e;omega
 have bv:J_ h3 (.z h2.i 0 2 2) [false,true]:=Wy o3 rfl;refine aC (fun n env hh=>Fr (bl::pm.toList) h3 hh/\∃(j:Nat)(lj:List Int)(af:List Bool),P3 hh c pmc l kn st/\H_ n0 hh b Ks cap X lj af st vK bg B bm S bl pm mc/\
  env.c_ 105=some (ZZ (j:Int))/\env.c_ 104=some (ZZ (2:Nat))/\env.c_ 103=some (.z h2.i 0 2 2)/\env.c_ 0=some (.u b 0)/\env.c_ 3=some (.u nb 0)/\env.c_ 12=some v4/\env.c_ 13=some v5/\env.c_ 14=some (.u c 0)/\
  j<=2/\Zj l a (Y.map (aF Ks)) (2-j) lj af=Zj l a (Y.map (aF Ks)) 2 l kn/\n=2-j) 2 oM ?_ ?_
 exact⟨Vk Z.r,0,l,kn,a3,s3,iS,iS,iS,iX,iX,iS,iS,iS,oM,rfl,rfl⟩;rintro n env hh ⟨F,j,lj,af,bj,sj,ae,ac,a1,g0,g3,bt,bp,bo,hj,em,rfl⟩;have bA:∀y,B0<=y->y∉bl::pm.toList:=nn;have ak:=F.D _ _ (nn _ gn) a5;have fb:∀y∈bl::pm.toList,y<B0:=fun y m=>lw y (sw y m);have ax:=YR a4 F fb;have a0:=YR a6 F fb;have Fh:Fr (bl::pm.toList) h hh:=Vn ar F w (fun x m=>by simp at m) (fun x m=>.inl m);by_cases br:j<2;have ab:(j:Int)<(2:Nat):=oM;have bf:J_ hh (.z h2.i 0 2 2) [false,true]:=Wy (F.D _ _ (nn _ oM) o3) rfl;let⟨bi,oi,x,p1,p3,p4⟩:=bf.ix .i64 (j:Int) oM oO;rw[pi]at p4;obtain⟨k',hk⟩:∃k',2-j=k'+1:=⟨1-j,oM⟩;have ex:x=(k'==0):=by grind
 rw[hk]at em;simp only[Zj]at em;simp only[a_,↓reduceIte,Nat.reduceEqDiff,ae,ac,a1,ab,p1,p3];refine MZ (B0:=B0) (v5:=v5) (M:=Y.map (aF Ks)) (a:=a) (r:=x) (j:=j) (v103:=.z h2.i 0 2 2) (v104:=ZZ (2:Nat)) F.r sj bj ak ax bw bc pw oM ba gn iX iX iX iX iX iS iX iX iX oO s.A_ hx (fun m hm=>?_) ?_ ?_;simp at hm;obtain⟨y,_,rfl⟩:=hm;exact HL ok y;intro c0 ay h' ⟨q0,q3,bz,bC,bB,aH,bn,bk⟩ f' s' aj;rw[ex]at c0 s';rw[if_pos c0]at em;simp(disch:=omega) only[a_,ah,aH];refine t_ ⟨2-(j+1),oM,Vn F f' Z.r (fun x m=>.inl m) (fun x m=>.inl m),j+1,_,_,aj,s',iS,iX,iX,iX,iX,iX,iX,iX,oM,by rw[(oM:2-(j+1)=k')];exact em,rfl⟩;intro c0 ay h' q4 f' o' aj;rw[ex]at c0 q4;rw[if_neg c0]at em;rw[em]at c0 q4;simp only[a_,q4];exact kE c0 h' c pmc (Vn Fh f' w (fun x m=>.inl (WI _ m)) (fun x m=>.inl m)) o' aj oM (fun q e=>⟨by have:=hp q e;omega,a7 q e⟩);have:j=2:=oM;subst this;simp only[WP,Zj]at em;have ab:¬((2:Nat):Int)<(2:Nat):=oM;simp[a_,ae,ac];have e1:=congrArg Prod.fst em;have e2:=congrArg (fun z=>z.2.1) em;have an:=congrArg (fun z=>z.2.2) em;simp only at e1 e2 an;refine M0 (B0:=B0) F.r sj ak a0 lw gn iX iX iX (fun h' f=>sv h' (Vn Fh f w (fun x m=>.inl (WI _ m)) (fun x m=>.inl m))) (fun y m=>(hY y m).1) a8 (by have:=F.i;omega) ha hx ?_;intro h' Y' cp f' s';rw[e2,an]at s';exact k e1.symm h' Y' cp (Vn Fh f' w (fun x m=>.inl (WI _ m)) (fun x m=>.inl m)) s'
theorem pO{call:aL}{env:T V}{k:Nat}:∀(B:List n_)(i:Nat)(loc:List V)(h:b_),k<i→Q8 call env [k] B i loc h=some (B.map fun s=>(s,none),h)
 |[],_,_,_,_=>rfl
 |s::B,i,loc,h,hi=>by
  have c0:(i==k)=false:=beq_false_of_ne oM;have c:List.contains [k] i=false:=by grind
  simp only[Q8,c,cond_false,pO (call:=call) (env:=env) (k:=k) B (i+1) _ h oM,List.map_cons]
theorem yE{call:aL}{env:T V}{k:Nat}{R:List n_}{h h':b_}{r:List DS}:∀(A:List n_)(i:Nat)(loc:List V),i+A.length=k→(∀loc,Q8 call env [k] R k loc h=some (r,h'))→Q8 call env [k] (A++R) i loc h=some ((A.map fun s=>(s,none))++r,h')
 |[],i,loc,hi,hr=>by
  have:i=k:=by simpa using hi
  subst this;simpa using hr loc
 |s::A,i,loc,hi,hr=>by
  simp only[List.length_cons]at hi;have c0:(i==k)=false:=beq_false_of_ne oM;have c:List.contains [k] i=false:=by grind
  simp only[List.cons_append,Q8,c,cond_false,yE (call:=call) (env:=env) (k:=k) A (i+1) _ oM hr,List.map_cons]
theorem xT{call:aL}{h:b_}{k:Nat}{zero:List V}{Rr:List Nat}{Z:List (Nat×Nat×Nat)}{K:List (Nat×Nat)}{Q:Ex->T V->b_->Prop}(A B:List n_)(hk:A.length=k)
 (x:WD call env ((A.map fun s=>(s,none))++(⟨none,.d zero,none⟩,some (.u h.i 0,zero))::B.map fun s=>(s,none)) [] [k_ h zero] (k_ h zero) (DF call (A++⟨none,.d zero,none⟩::B) Z K env (Q .a))):
 W call (.h (A++⟨none,.d zero,none⟩::B) [k] Rr Z K) env h Q:=by
 refine(FM _ _ _ _ _ _).2 ?_;have e:∀ab,Q8 call env [k] (⟨none,.d zero,none⟩::B) k ab h=some ((⟨none,.d zero,none⟩,some (.u h.i 0,zero))::B.map (fun s=>(s,none)),k_ h zero):=by
  intro ab;have c:List.contains [k] k=true:=by simp
  simp[Q8,jG,pO B (k+1) _ _ (YA k),eZ]
 rw[yE A 0 [] oM e,jQ];exact x
theorem mJ(Z:List V)(env:T V)(n:Nat)(zero:List V):cI Z env (.d zero) (.u n 0) zero=true:=by have e:jG Z env (.d zero)=some (zero,none):=rfl;simp[cI,e,S_,eZ,eW,eN]
def bU(Ks:List w_)(cap:Int)(X:List e_):Nat->List e_->Int
 |_,[]=>0
 |i,y::r=>if P0 y Ks.length=false then 6 else if(X[i]?.map e_.A)≠some y.A then 9 else if bP Ks cap y≠0 then bP Ks cap y else bU Ks cap X (i+1) r
def rg(Ks:List w_)(cap a:Int)(X Y:List e_)(l:List Int)(kn:List Bool):Int:=
 if a<0\/(X.length:Int)<a\/(X.length:Int)-a<Y.length then 4 else if bU Ks cap X a.toNat Y≠0 then bU Ks cap X a.toNat Y else(Zj l a.toNat (Y.map (aF Ks)) 2 l kn).1
theorem Bn{j:Nat}{x:e_}(e:X[j]? =some x):((X.flatMap e_.s).drop (j*4)).take 4=x.s:=by rw[bI aT,aN e,VM,VI (by rw[aT];omega),Vm (by rw[aT];omega)]
theorem Fw{h:b_}{b B S:Nat}{a:Int}{Y:List e_}{l:List Int}{v:V}{mc:cJ}(w:WF h)(s:H_ n0 h b Ks cap X l kn st vK bg B bm S bl pm mc)(ha:-9223372036854775808<=a/\a<9223372036854775808)
 (ok:U3 Ks cap=true) (hx:X.length<=1024)
 (sv:∀(Z:List Nat)(h':b_),(∀z∈Z,z∈Wr b bg B bm S bl pm\/h.i<=z)->Fr Z h h'->C_ e_.s 4 h' v Y/\∀y∈Y,q_ h' y) (hY:∀y∈Y,nZ y.vm=true) (hl:Y.length<=4096) (ones:aw [k0,ZZ a,c0,t0,v]=true):
 av go 49 [.u b 0,.B [k0,ZZ a,c0,t0,v]] h fun u h'=>u=ZZ (rg Ks cap a X Y l kn)/\
  (rg Ks cap a X Y l kn≠0->Fr (b::bl::pm.toList) h h'/\∃bl' pm',(bl'=bl\/h.i<=bl')/\(pm'=pm\/∀q,pm'=some q->h.i<=q)/\H_ n0 h' b Ks cap X l kn st vK bg B bm S bl' pm' mc)/\
  (rg Ks cap a X Y l kn=0->0<=a/\a+Y.length<=X.length/\Fr (B::bl::pm.toList) h h'/\∃Y',U8 Y Y'/\
   H_ n0 h' b Ks cap (X.take a.toNat++Y'++X.drop (a.toNat+Y.length)) (Zj l a.toNat (Y.map (aF Ks)) 2 l kn).2.1 (Zj l a.toNat (Y.map (aF Ks)) 2 l kn).2.2 (st.take a.toNat++Y.map (bK Ks)++st.drop (a.toNat+Y.length)) vK bg B bm S bl pm mc):=by
 let⟨rk,kh,xh⟩:=s.rd [] h iS (Vk w);let⟨sY,bT⟩:=sv [] h iS (Vk w);have hK:Ks.length<=8:=by simp only[U3,Vd,decide_eq_true_eq]at ok;exact ok.2.1
 have same:∀{h'},Fr [] h h'->Fr (b::bl::pm.toList) h h'/\∃bl' pm',(bl'=bl\/h.i<=bl')/\(pm'=pm\/∀q,pm'=some q->h.i<=q)/\H_ n0 h' b Ks cap X l kn st vK bg B bm S bl' pm' mc:=
  fun f=>⟨⟨f.i,f.r,fun _ _ _ o=>f.c_ o,fun _ _ _ o=>f.pl _ _ iS o,f.lp,f.ro⟩,bl,pm,.inl rfl,.inl rfl,s.fr w f⟩
 let⟨h1,bv,bt,bz⟩:=au w [k0,ZZ a,c0,t0,v];have n1:=s_ bv;have s1:=s.fr w bt;have l1:ag h1 h.i 1=some (ZZ a):=bz.o 1;have l4:ag h1 h.i 4=some v:=bz.o 4;have ly:=(sY.fr bt).A_;by_cases c1:a<0;refine ai ?_;simp only[a_,seval,DF,g_,<-bv,l1,eq_true c1];have e:rg Ks cap a X Y l kn=4:=by rw[rg,if_pos (.inl c1)]
 rw[e];exact⟨rfl,fun _=>same bt,fun e=>by cases e⟩;refine ai ?_;simp only[a_,seval,g_,<-bv,l1,eq_false c1];apply aa (mA s1);rintro _ _ ⟨rfl,rfl⟩;by_cases c2:(X.length:Int)<a;simp only[a_,seval,DF,g_,eq_true c2,l1];have e:rg Ks cap a X Y l kn=4:=by rw[rg,if_pos (.inr (.inl c2))]
 rw[e];exact⟨rfl,fun _=>same bt,fun e=>by cases e⟩;simp only[a_,seval,g_,eq_false c2,l4,ly];apply aa (mA s1);rintro _ _ ⟨rfl,rfl⟩;by_cases c3:(X.length:Int)-a<Y.length;simp(disch:=omega) only[a_,seval,DF,g_,ah,eq_true c3,l1,l4];have e:rg Ks cap a X Y l kn=4:=by rw[rg,if_pos (.inr (.inr c3))]
 rw[e];exact⟨rfl,fun _=>same bt,fun e=>by cases e⟩;obtain⟨p,rfl⟩:∃p:Nat,a=p:=⟨a.toNat,oM⟩;have e:rg Ks cap p X Y l kn=if bU Ks cap X p Y≠0 then bU Ks cap X p Y else(Zj l p (Y.map (aF Ks)) 2 l kn).1:=by rw[rg,if_neg oM,pi]
 rw[e];simp(disch:=omega) only[a_,seval,DF,g_,ah,eq_false c3,l1,l4,ly];have bc:p+Y.length<=X.length:=oM;refine aC (fun n env hh=>Fr [] h1 hh/\∃(i:Nat),env.c_ 48=some (ZZ i)/\env.c_ 47=some (ZZ Y.length)/\env.c_ 46=some v/\env.c_ 0=some (.u b 0)/\env.c_ 3=some (.u h.i 0)/\
  i<=Y.length/\bU Ks cap X (p+i) (Y.drop i)=bU Ks cap X p Y/\(∀y∈Y.take i,y.N<Ks.length)/\n=Y.length-i) Y.length oM ?_ ?_
 exact⟨Vk bt.r,0,iS,iS,iS,iS,iS,oM,rfl,iS,rfl⟩;rintro n env hh ⟨F,i,ar,a1,a6,g0,g3,hi,K,an,rfl⟩;have Fh:=bt.c F;have sh:=s.fr w Fh;have a0:=F.c_ bz;by_cases bk:i<Y.length;have ab:(i:Int)<Y.length:=oM;let⟨bi,oi,y,p1,_,p3,p4⟩:=(sY.fr Fh).ix (f:=e_.s) (k:=4) (fun _=>rfl) .i64 (i:Int) oM ab;rw[pi]at p4;have ym:=Vg p4;have ay:=(bT y ym).fr Fh;rw[aN p4]at K;simp only[bU]at K;let⟨h3,bE,bA,bD⟩:=au F.r [ZX 0,ZY 0,.f [],.j];simp only[a_,seval,ar,a1,a6,ab,p1,p3,<-bE];refine ao (c':=y.s) bA.r bD rfl ay.O rfl ?_;rintro h4 o4 F4 n4;have aj:Fr [] hh h4:=bA.y F4 F.r (Ve _);have s4:=sh.fr F.r aj;have y4:aq h4 hh.i 0 4=some y.s:=by rw[o4.J];rfl
 have k0:ag h4 b 0=some vK:=s4.ob.o 0;have ba:=VJ rk (Fh.c aj);simp only[a_,seval,g_,g0,y4,k0,(YY ba)];apply aa (qg aj.r (ay.fr aj) oM);rintro _ h5 ⟨rfl,F5⟩;have ac:=aj.c F5;cases d1:P0 y Ks.length;rw[d1,if_pos rfl]at K;simp only[a_,seval,DF,g_,y4,k0];have e6:bU Ks cap X p Y≠0:=by rw[<-K];decide
 rw[if_pos e6];exact⟨by rw[<-K],fun _=>same (Fh.c ac),fun e=>absurd e e6⟩;rw[d1,if_neg iS]at K;have ht:y.N<Ks.length:=by simp only[P0,Vd,decide_eq_true_eq]at d1;exact d1.2.1
 simp only[a_,seval,DF,g_,y4,k0];apply xT [⟨none,.p .o [.v 0],none⟩,⟨none,.p .e [.l 0],none⟩,⟨none,.p (.b 2) [.l 0],none⟩,⟨none,.a 1 false (.l 0),none⟩,⟨none,.p (.b 1) [.v 3],none⟩,⟨none,.a 1 false (.l 0),none⟩,⟨none,.p .o [.v 5],none⟩,⟨none,.p (.h .add) [.l 1,.l 0],none⟩,⟨none,.c 70 [.l 4,.l 0],none⟩,⟨none,.p .o [.l 0],none⟩,⟨none,.p (.v 0) [.l 0],none⟩,⟨none,.p (.v 1) [.l 1],none⟩] _ rfl;have F6:=VL ac.r [ZX 0,ZY 0,.f [],.j];have o6:=Wi ac.r [ZX 0,ZY 0,.f [],.j];have n6:(k_ h5 [ZX 0,ZY 0,.f [],.j]).i=h5.i+1:=rfl;generalize k_ h5 [ZX 0,ZY 0,.f [],.j]=h6 at F6 o6 n6|-;have ax:=ac.c F6;have s6:=sh.fr F.r ax;obtain⟨x,ex⟩:∃x,X[p+i]? =some x:=⟨_,Vp oM⟩;let⟨v9,bV,G,b6,a9,g9,m9,k9,ec,en⟩:=s6.g;have xk:=xh x (Vg ex);have b2:ag h6 b 2=some (.u bg 0):=s6.ob.o 2;have a2:=ax.c_ a0;have aH:ag h6 h.i 1=some (ZZ (p:Int)):=a2.o 1;have ea:(p:Int)+i=((p+i:Nat):Int):=oM;rw[ex]at K;simp only[Vx,ne_eq,Vl]at K;simp(disch:=omega) only[a_,seval,g_,ah,g0,g3,b2,aH,ea];apply aa (uJ F6.r k9 (i:=p+i) oM);rintro _ h7 ⟨F7,rfl⟩;rw[<-ec,Bn ex];have bo:ag h7 b 2=some (.u bg 0):=(F7.c_ s6.ob).o 2;have br:ag h7 h.i 1=some (ZZ (p:Int)):=(F7.c_ a2).o 1;simp only[a_,g_,de,mJ];refine ao (c':=x.s) F7.r (F7.c_ o6) rfl xk.O rfl ?_;rintro h8 o8 F8 bn;have ae:Fr [] hh h8:=(ax.c F7).y F8 F.r (by have:=ac.i;omega);have bh:Fr [] h5 h8:=(F6.c F7).y F8 ac.r (Ve _);have x0:ag h8 h5.i 0=some (ZX (x.A:Int)):=o8.o 0;have oy:=bh.c_ (F5.c_ o4);have y0:ag h8 hh.i 0=some (ZX (y.A:Int)):=oy.o 0;have a3:aq h8 hh.i 0 4=some y.s:=by rw[oy.J];rfl
 by_cases c4:x.A=y.A;rw[if_neg iX]at K;simp only[a_,seval,DF,g_,g0,b2,aH,x0,y0,a3,c4];apply aa (tF ae.r (T_.fr ⟨vK,_,_,_,s.ob,rk,kh⟩ (Fh.c ae)) (ay.fr ae) ht);rintro _ h9 ⟨cs,rfl,F9,on,cl⟩;let⟨bW,bC,bw,bB⟩:=au F9.r [ZY 0,.f [],.f [],.j,.f [],.j];simp only[a_,<-bC];refine ao (c':=cs) bw.r bB cl on (by
  rw[bN _ _ _ (by show 0+cs.length<=6;omega)];simp[V.s];omega) ?_
 rintro a5 bp bf bj;have a8:Fr [] h8 a5:=(F9.c bw).y bf ae.r (by have:=F9.i;omega);have ak:=ae.c a8;by_cases c5:bP Ks cap y=0;rw[if_neg iX]at K;simp(disch:=omega) only[a_,seval,ah,ar,c5];refine t_ ⟨Y.length-(i+1),oM,F.c ak,i+1,iS,iX,iX,iX,iX,oM,K,?_,rfl⟩;rw[Vs,p4];intro z m;obtain m|m:=Vc.1 m;exact an z m;grind;rw[if_pos c5]at K;simp only[a_,seval,c5];have e6:bU Ks cap X p Y≠0:=oM;rw[if_pos e6];exact⟨by rw[<-K],fun _=>same (Fh.c ak),fun e=>absurd e e6⟩;rw[if_pos c4]at K;have a4:¬(x.A:Int)=(y.A:Int):=oM;simp only[a_,seval,DF,g_,b2,aH,x0,y0,eq_false a4];have e6:bU Ks cap X p Y≠0:=by rw[<-K];decide
 rw[if_pos e6];exact⟨by rw[<-K],fun _=>same (Fh.c ae),fun e=>absurd e e6⟩;have:i=Y.length:=oM;subst this;rw[WV]at K;simp only[bU]at K;rw[Vm (Ve _)]at an;have ab:¬(Y.length:Int)<Y.length:=oM;simp only[a_,seval,ar,a1,eq_false ab];have e6:¬bU Ks cap X p Y≠0:=by rw[<-K];decide
 rw[if_neg e6];have hn:=Fh.i;have lw:∀y∈Wr b bg B bm S bl pm,y<h.i:=by intro y m;simp only[Wr,Vc,Vo,VD,or_false]at m;obtain(rfl|rfl|rfl|rfl|rfl|rfl)|m:=m;exact s.ob.lt w;exact s.g.c.1.lt w;exact s.gB.lt w;exact s.k.lt w;exact s.aB;exact s.au;exact s.pl y (eV m)
 have af:∀{Z:List Nat}{h'},Fr Z hh h'->Fr Z h h':=fun f=>Vn Fh f w (fun x m=>by simp at m) (fun x m=>.inl m);refine M1 (B0:=h.i) F.r sh a0 lw (Ve _) iX iX (fun h' f=>sv _ h' (fun z m=>.inl ?_) (af f)) (fun y m=>⟨hY y m,an y m⟩) s.ax hn bc hx ok ?_ ?_;obtain rfl|m:=Vo.1 m;simp[Wr];obtain rfl|m:=Vo.1 m;simp[Wr];exact Vc.2 (.inr m);intro c0 h' c a7 f o' a' hc hp;refine⟨rfl,fun _=>⟨af f,c,a7,.inr oM,.inr fun q e=>by have:=hp q e;omega,s.bf w (af f) o' a' s.A_ oM fun q e=>⟨by have:=hp q e;omega,(hp q e).2⟩⟩,fun e=>absurd e c0⟩;grind
theorem Zb.bU{v:V}{n0:Nat}{h:b_}{s:NT}{X:List Nat}(I:Zb v n0 h s)(w:WF h)(f:Fr X h h')(hX:∀x∈X,x<n0):Zb v n0 h' s:=fun Y h2 hy f2=>
 I (X++Y) h2 (fun x m=>by
  obtain m|m:=Vc.1 m;exact .inl (hX x m);exact hy x m) (Vn f f2 w (fun x m=>.inl (Vc.2 (.inl m))) (fun x m=>.inl (Vc.2 (.inr m))))
theorem ML{h:b_}{x:e_}{sub:PT}(M:x? sub)(f0:Fr [] h h1)(a:q_ h x)(hm:x.E.length<=8)(n:PH h (.p_ 1 tg ky sl tx va vc sub .z_))(g:PG (.p_ 1 tg ky sl tx va vc sub .z_))
 (op:f_ h1 pb [ZY 1,.f tg,.f ky,va,.f tx,vc]) (oi:f_ h1 ib x.s) (e2:env.c_ 2=some (.u pb 0)) (e3:env.c_ 3=some (.u ib 0))
 (k:∀u h',MDp h x 1 tg ky sl tx sub u h'->R u h'):W go mdN env h1 (jz [.t 4] R):=by
 let⟨n1,ra,na,rc,nc,n6,_⟩:=n;let⟨_,_,g3,gl,gs,_⟩:=g;have w1:=f0.r;have l6:=op.ac;let⟨q0,q1,q2,q3,q4,q5,q6⟩:=l6;have i4:aq h1 ib 0 4=some x.s:=by rw[oi.J];rfl
 simp[a_,mdN];apply xT [⟨none,.p (.b 1) [.v 2],none⟩,⟨none,.a 1 false (.l 0),none⟩,⟨none,.p (.b 2) [.v 2],none⟩,⟨none,.a 1 false (.l 0),none⟩,⟨none,.p (.b 3) [.v 2],none⟩,⟨none,.a 1 false (.l 0),none⟩,⟨none,.a 4 true (.v 3),none⟩,⟨none,.c 241 [.l 1,.l 0],none⟩,⟨none,.p (.a [ZY 0,.f [],.f [],.j,.f [],.j] [(0,1),(1,1),(2,1),(3,1)]) [.c (ZY 1),.l 6,.l 4,.l 0],none⟩] _ rfl;have F2:=VL w1 [ZY 0,.f [],.f [],.j,.f [],.j];have o2:=Wi w1 [ZY 0,.f [],.f [],.j,.f [],.j];have n2:(k_ h1 [ZY 0,.f [],.f [],.j,.f [],.j]).i=h1.i+1:=rfl;generalize k_ h1 [ZY 0,.f [],.f [],.j,.f [],.j]=h2 at F2 o2 n2|-;let⟨r0,r1,r2,r3,r4,r5,r6⟩:=(F2.c_ op).ac;have ak:aq h2 ib 0 4=some x.s:=by rw[(F2.c_ oi).J];rfl
 simp[a_,g_,e2,e3,r1,r2,r3,ak];apply aa (xH F2.r (a.fr (f0.c F2)) (ra.fr (f0.c F2)) na g3);rintro vA h3 ⟨GA,F3⟩;let⟨t0,t1,t2,t3,t4,t5,t6⟩:=(F3.c_ (F2.c_ op)).ac;have ax:vA.O=true:=(YT (n:=sl.length) GA (by rw[aG fc];simp) oM).O;simp[a_,g_,mJ,az ax];refine ao (c':=[ZY 1,.f tg,.f ky,vA,.f [],.j]) F3.r (F3.c_ o2) rfl (by simp only[V.s,aA,aD,ax];rfl) iR ?_;rintro h4 o4 F4 n4;have bf:aq h3 ib 0 4=some x.s:=by rw[(F3.c_ (F2.c_ oi)).J];rfl
 have n3:=F3.i;simp[a_,DF,e3,r1,r2,r3,ak,t1,t2];have a3:Fr [] h1 h4:=(F2.c F3).y F4 w1 (Ve _);have a1:Gs h4 h2.i 2 vA ((sl.map (P1 x)).flatMap gK):=YR GA F4 (fun y m=>by simp at m;omega);have bg:=f0.i;refine aC (fun n env Z=>Fr [] h1 Z/\∃(i:Nat)(s:NT)(K:V),env.c_ 8=some (ZZ (i:Int))/\env.c_ 7=some (.u h1.i 0)/\env.c_ 2=some (.u pb 0)/\env.c_ 3=some (.u ib 0)/\i<=sub.v_/\h3.i<=Z.i/\
  f_ Z h1.i [ZY 1,.f tg,.f ky,vA,.f [],K]/\(∀(X:List Nat)(h':b_),(∀y∈X,y<h2.i\/h3.i<=y)->Fr X Z h'->o_ gK 2 h' vA (sl.map (P1 x)))/\Gs Z h3.i 6 K s.I_/\Zb K h3.i Z s/\
  s.sh.W3 (cH x (sub.Y2 i))=cH x sub/\s.A_<=8*i/\n=sub.v_-i) sub.v_ oM ?_ ?_
 refine⟨a3,0,.D_,.j,iS,iS,iX,iX,oM,oM,o4,fun X h' hX f=>?_,.inl ⟨rfl,rfl⟩,fun _ _ _ _=>trivial,by cases sub<;>rfl,by simp[NT.A_],rfl⟩;have a7:∀y∈vb vA,y<h3.i:=by obtain⟨rfl,_⟩|⟨b,n,rfl,_,_,_,o⟩:=GA;simp[vb];have:=o.lt F3.r;simp only[vb,Vu];rintro y rfl;exact this
 have:Gs h' h2.i 2 vA ((sl.map (P1 x)).flatMap gK):=by obtain z|⟨b,n,rfl,z2,z3,z4,o⟩:=a1;exact .inl z;exact .inr ⟨b,n,rfl,z2,z3,z4,f.D _ _ (fun m=>by have:=hX _ m;have:=a7 b (by simp[vb]);omega) o⟩
 exact YT (n:=(sl.map (P1 x)).length) this (by rw[aG fc]) oM;rintro n' env Z ⟨F,i,s,K,g8,g7,g2,a0,hi,hn,on,SA,G,I,e,sn,rfl⟩;have F0:=f0.c F;let⟨u0,u1,u2,u3,u4,u5,u6⟩:=(F.c_ op).ac;have aj:=rc.fr F0;by_cases ar:i<sub.v_;have ab:(i:Int)<sub.v_:=oM;let⟨kd,br,bo,bm,bw,bn,bv,bk,nx,e1,bh,bj,bz,bp,_⟩:=sub.ZO i ar;let⟨bi,bt,p1,p2⟩:=Sl.aC aj ar bh;have ph:=PH.Z8 i (n6.fr F0);have pg:=gs.Z8 i;have md:=M.Z8 i;rw[e1]at ph e pg md;let⟨z1,z2,z3,z4,z5,z6,z7⟩:=ph;let⟨y1,y2,y3,y4,y5,y6⟩:=pg;let⟨v0,v1,v2,v3,v4,v5,v6⟩:=p2;have w5:ag Z h1.i 5=some K:=on.o 5;have an:aq Z ib 0 4=some x.s:=by rw[(F.c_ oi).J];rfl
 simp only[a_,seval,g_,g8,g7,g2,a0,u5,aj.A_,ab,p1,v6,w5,an];apply aa (md.1 x Z F.r (a.fr F0) hm ⟨z1,z2,z3,z4,z5,z6,trivial⟩ ⟨y1,y2,y3,y4,y5,trivial⟩);rintro uu h5 ⟨s5,a9,F5,l5,a6,ay⟩;have aH:=F5.c_ on;have a2:ag h5 h1.i 5=some K:=aH.o 5;have a8:=ay [] h5 iS (Vk F5.r);have ac:∀y∈vb K,h3.i<=y/\y<Z.i:=by obtain⟨rfl,_⟩|⟨b,n,rfl,_,_,hb,o⟩:=G;simp[vb];have:=o.lt F.r;simp only[vb,Vu];rintro y rfl;exact⟨hb,this⟩
 have n5:=F5.i;simp only[a_,g_];refine Hd (n0:=h3.i) F5.r (YR G F5 iS) oM oM (I.fr F.r F5) a8.2 (fun X h' hX f=>(ay X h' (fun y m=>by
  obtain q|q:=hX y m;omega;exact(ac y q).2) f).1) oM oM a6 ?_
 intro v' h6 G' I' F6 V';have a5:=F6.D _ _ (fun m=>by have:=ac _ m;omega) aH;have ae:v'.O=true:=(YT (n:=(s.Zc s5).A_) G' (by rw[NT.R7]) oM).O;simp only[a_,seval,g_,g7];refine ao (c':=[ZY 1,.f tg,.f ky,vA,.f [],v']) F6.r a5 (by rw[az ae];rfl) (by rw[az ae];simp only[aA,aD,ae];rfl) (by rw[az ae];rfl) ?_;rintro h7 o7 F7 n7;have bc:=F6.i;have ba:Fr [] h1 h7:=Ww w1 (Ww w1 (F.c F5) F6 (fun y m=>by have:=ac y m;omega)) F7 (fun y m=>by simp at m;omega);have G7:=YR G' F7 (fun y m=>by simp at m;omega);have I7:Zb v' h3.i h7 (s.Zc s5):=I'.bU F6.r F7 (fun y m=>by simp at m;omega);have a4:∀(X:List Nat)(h':b_),Fr X h7 h'->Fr (vb K++[h1.i]++X) Z h':=fun X h' f=>
  Vn (Vn (T:=vb K++[h1.i]) (Vn (T:=vb K) F5 F6 F.r iS (fun y m=>.inl m)) F7 F.r (fun y m=>.inl (Vc.2 (.inl m))) (fun y m=>.inl (Vc.2 (.inr m)))) f F.r (fun y m=>.inl (Vc.2 (.inl m))) (fun y m=>.inl (Vc.2 (.inr m)))
 simp(disch:=omega) only[a_,seval,DF,ah,g8,a0,u5,v6,w5,an,a2];refine t_ ⟨sub.v_-(i+1),oM,ba,i+1,s.Zc s5,v',iS,iX,iX,iX,oM,oM,o7,fun X h' hX f=>SA _ h' (fun y m=>?_) (a4 X h' f),G7,I7,?_,?_,rfl⟩;obtain m|m:=Vc.1 m;obtain m|m:=Vc.1 m;exact .inr (ac y m).1;simp at m;omega;exact hX y m;rw[NT.X2,a9,ST.W4,bj];exact e;rw[NT.ZH];omega;have ab:¬(i:Int)<sub.v_:=oM;have w6:aq Z h1.i 0 6=some [ZY 1,.f tg,.f ky,vA,.f [],K]:=by rw[on.J];rfl
 rw[PT.Zt _ _ oM]at e;have e':s.sh=cH x sub:=by rw[<-e];show _=s.sh.W3 .W8;rw[ST.Y3]
 simp[a_,g8,g7,g2,u5,aj.A_,eq_false ab,w6];refine k _ _ ⟨.y_ 1 tg ky (sl.map (P1 x)) [] vA K s .D_,by unfold oJ;rw[if_pos rfl,<-e'];rfl,F0.c (VL F.r _),Vj rfl,fun q=>absurd q (by simp[NT.A_]),fun X af hX f=>?_⟩;have F9:=VL F.r [ZY 1,.f tg,.f ky,vA,.f [],K];have o9:=Wi F.r [ZY 1,.f tg,.f ky,vA,.f [],K];have f9:Fr X Z af:=Vn F9 f F.r iS (fun y m=>.inl m);refine⟨⟨oM,SA X af (fun y m=>.inl (by have:=hX y m;omega)) f9,by simpa using na,?_,oM,I X af (fun y m=>.inl (by have:=hX y m;omega)) f9,trivial⟩,Wy (f.D _ _ (fun m=>by have:=hX _ m;have:=F0.i;omega) o9) rfl⟩;exact YT (n:=s.A_) (YR G f9 (fun y m=>by have:=hX y m;omega)) s.R7 oM
abbrev kA(z:i_):List V:=[ZY 2,.f [],.f [],.j,.f z,.j]
abbrev LY:List n_:=[⟨none,.p (.a [ZY 0,.f [],.f [],.j,.f [],.j] [(0,1),(1,1),(2,1),(3,1),(5,1)]) [.c (ZY 1),.l 16,.l 11,.l 7,.l 0],none⟩,⟨none,.b [ZY 0,.f [],.f [],.j,.f [],.j] [(0,6)] 1 [.l 0],none⟩,⟨none,.i 6 104 (.l 20) (.l 0),none⟩,⟨none,.p .o [.l 0],none⟩]
abbrev L0:List n_:=[⟨none,.p .o [.v 5],none⟩,⟨none,.p (.b 1) [.v 2],none⟩,⟨none,.a 1 false (.l 0),none⟩,⟨none,.p (.b 3) [.v 3],none⟩,⟨none,.a 1 false (.l 0),none⟩,⟨none,.p .o [.v 6],none⟩,⟨none,.p (.c 1) [.l 1,.l 0],none⟩,⟨none,.a 1 false (.l 0),none⟩,⟨none,.p (.b 3) [.v 2],none⟩,⟨none,.a 1 false (.l 0),none⟩,⟨none,.a 4 true (.v 3),none⟩,⟨none,.c 241 [.l 1,.l 0],none⟩,⟨none,.p (.b 3) [.v 3],none⟩,⟨none,.a 1 false (.l 0),none⟩,⟨none,.p .o [.v 6],none⟩,⟨none,.p (.c 1) [.l 1,.l 0],none⟩,⟨none,.a 1 false (.l 0),none⟩,⟨none,.p (.a [ZY 0,.f [],.f [],.j,.f [],.j] [(0,1),(4,1)]) [.c (ZY 2),.l 0],none⟩]
abbrev LZ:n_:=⟨none,.b [ZY 0,.f [],.f [],.j,.f [],.j] [(0,6)] 1 [.l 0],none⟩
theorem Ok{h:b_}{b3 o3:Nat}{i:Int}{vm:V}{mk:i_}(g5:env.c_ 5=some v5)(g2:env.c_ 2=some (.u pb 0))(g3:env.c_ 3=some (.u ib 0))(g6:env.c_ 6=some (ZZ i))
 (l1:ag h pb 1=some (.f tg)) (l3:ag h ib 3=some vm) (ix:aP (.c 1) [vm,ZZ i]=some (.u b3 o3)) (lm:ag h b3 o3=some (.f mk)) (lp:ag h pb 3=some va) (l4:aq h ib 0 4=some cs):
 Q8 go env [18] (L0++LZ::LY) 0 [] h=some ((L0.map fun s=>(s,none))++(LZ,some (.z h.i 0 1 1,kA mk))::(LY.map fun s=>(s,none)),k_ h (kA mk)):=by
 have ac:∀(Z:List V)(x:G_)(v:V),E_ Z env x=some v->aS go Z env h (.p .o [x])=some (v,h):=fun Z x v e=>by simp[aS,gR,dP,e,dg,aP]
 have ab:∀(Z:List V)(x k b:Nat),env.c_ x=some (.u b 0)->aS go Z env h (.p (.b k) [.v x])=some (.u b k,h):=fun Z x k b e=>by simp[aS,gR,dP,jn,e,dg,jP]
 have K:∀(Z:List V)(b o:Nat)(v:V),ag h b o=some v->aS go (.u b o::Z) env h (.a 1 false (.l 0))=some (v,h):=fun Z b o v e=>by simp[aS,rU,bX,gu,e]
 have ae:∀(Z:List V),aS go (ZZ i::vm::Z) env h (.p (.c 1) [.l 1,.l 0])=some (.u b3 o3,h):=fun Z=>by simp[aS,gR,dP,rU,bX,db,dg,ix]
 have af:∀(Z:List V),aS go Z env h (.a 4 true (.v 3))=some (.B cs,h):=fun Z=>by simp only[aS,jn,g3,pf,l4];rfl
 have aj:∀(Z:List V),aS go (.f mk::Z) env h (.p (.a [ZY 0,.f [],.f [],.j,.f [],.j] [(0,1),(4,1)]) [.c (ZY 2),.l 0])=some (.B (kA mk),h):=fun Z=>rfl;simp only[Wq,Wv];rw[du rfl rfl (ac _ _ _ (by rw[jn];exact g5)),du rfl rfl (ab _ _ _ _ g2),du rfl rfl (K _ _ _ _ l1),du rfl rfl (ab _ _ _ _ g3),du rfl rfl (K _ _ _ _ l3),du rfl rfl (ac _ _ _ (by rw[jn];exact g6)),du rfl rfl (ae _),du rfl rfl (K _ _ _ _ lm),
  du rfl rfl (ab _ _ _ _ g2),du rfl rfl (K _ _ _ _ lp),du rfl rfl (af _),Av rfl rfl,du rfl rfl (ab _ _ _ _ g3),du rfl rfl (K _ _ _ _ l3),du rfl rfl (ac _ _ _ (by rw[jn];exact g6)),du rfl rfl (ae _),du rfl rfl (K _ _ _ _ lm),du rfl rfl (aj _)]
 rw[De (c:=kA mk) (k:=some (1,1)) rfl rfl,pO _ _ _ _ oM];rfl
theorem NZ(Z:List V)(env:T V)(n:Nat)(z:i_):cI (.B (kA z)::Z) env (.b [ZY 0,.f [],.f [],.j,.f [],.j] [(0,6)] 1 [.l 0]) (.z n 0 1 1) (kA z)=true:=by have e:jG (.B (kA z)::Z) env (.b [ZY 0,.f [],.f [],.j,.f [],.j] [(0,6)] 1 [.l 0])=some (kA z,some (1,1)):=rfl;simp[cI,e,S_,eZ,eW,eN]
theorem MM{h:b_}{x:e_}{sub:PT}{Q:Ex->T V->b_->Prop}(f0:Fr [] h h1)(a:q_ h x)(hm:x.E.length<=8)(n:PH h (.p_ 5 tg ky sl tx va vc sub .z_))(ay:∀s∈sl,s.2.1<=3)
 (op:f_ h1 pb [ZY 5,.f tg,.f ky,va,.f tx,vc]) (oi:f_ h1 ib x.s) (e2:env.c_ 2=some (.u pb 0)) (e3:env.c_ 3=some (.u ib 0))
 (k:∀u h' env',env'.c_ 4=some u->MDp h x 5 tg ky sl tx sub u h'->Q .d env' h'):W go mdE env h1 Q:=by
 let⟨n1,ra,na,rc,nc,n6,_⟩:=n;have w1:=f0.r;have fin:oJ x 5 tg ky sl tx (cH x sub)=kG tg (sl.map (P1 x)) x.E:=rfl;simp[a_,mdE];refine aC (fun n env hh=>Fr [] h1 hh/\∃(i:Nat)(s:NT)(vo:V),env.c_ 6=some (ZZ (i:Int))/\env.c_ 5=some vo/\env.c_ 2=some (.u pb 0)/\env.c_ 3=some (.u ib 0)/\i<=x.E.length/\
  Gs hh h1.i 6 vo s.I_/\Zb vo h1.i hh s/\s.sh.W3 (kG tg (sl.map (P1 x)) (x.E.drop i))=kG tg (sl.map (P1 x)) x.E/\s.A_=i/\n=x.E.length-i) x.E.length oM ?_ ?_
 exact⟨Vk w1,0,.D_,.j,iS,iS,iX,iX,oM,.inl ⟨rfl,rfl⟩,fun _ _ _ _=>trivial,rfl,rfl,rfl⟩;rintro n' env hh ⟨F,i,s,vo,g6,g5,g2,g3,hi,G,I,e,sn,rfl⟩;have F0:=f0.c F;let⟨u0,u1,u2,u3,u4,u5,u6⟩:=(F.c_ op).ac;have i3:ag hh ib 3=some x.vm:=(F.c_ oi).o 3;have i4:aq hh ib 0 4=some x.s:=by rw[(F.c_ oi).J];rfl
 have am:=a.m.fr F0;by_cases a0:i<x.E.length;have Z:(i:Int)<x.E.length:=oM;let⟨b3,o3,mk,p1,p2,_,p4⟩:=am.ix iu .i64 (i:Int) oM Z;have p3:ag hh b3 o3=some (.f mk):=p2 0 oM;rw[pi]at p4;rw[aN p4]at e;simp only[a_,seval,g6,g3,i3,am.A_,Z];refine(FM _ _ _ _ _ _).2 ?_;refine⟨_,_,Ok (v5:=vo) iX iX iX iX u1 i3 p1 p3 u3 i4,?_⟩;have K:=VL F.r (kA mk);have o2:=Wi F.r (kA mk);have n2:(k_ hh (kA mk)).i=hh.i+1:=rfl;generalize k_ hh (kA mk)=h2 at K o2 n2|-;let⟨r0,r1,r2,r3,r4,r5,r6⟩:=(K.c_ (F.c_ op)).ac;have i32:ag h2 ib 3=some x.vm:=(K.c_ (F.c_ oi)).o 3;have aj:aq h2 ib 0 4=some x.s:=by rw[(K.c_ (F.c_ oi)).J];rfl
 have ak:ag h2 b3 o3=some (.f mk):=by let⟨b3',af,mk',ac,p2',_,ab⟩:=(am.fr K).ix iu .i64 (i:Int) oM Z;rw[p1]at ac;cases ac;rw[pi,p4]at ab;cases ab;exact p2' 0 oM
 simp only[a_,seval,g_,g6,g5,g2,g3,r1,r3,i32,aj,p1,ak];apply aa (xH K.r (a.fr (F0.c K)) (ra.fr (F0.c K)) na ay);rintro vA h3 ⟨GA,F3⟩;have aH:vA.O=true:=(YT (n:=sl.length) GA (by rw[aG fc];simp) oM).O;let⟨t0,t1,t2,t3,t4,t5,t6⟩:=(F3.c_ (K.c_ (F.c_ op))).ac;have ax:ag h3 ib 3=some x.vm:=(F3.c_ (K.c_ (F.c_ oi))).o 3;have ar:ag h3 b3 o3=some (.f mk):=by let⟨b3',af,mk',ac,p2',_,ab⟩:=(am.fr (K.c F3)).ix iu .i64 (i:Int) oM Z;rw[p1]at ac;cases ac;rw[pi,p4]at ab;cases ab;exact p2' 0 oM
 simp only[a_,seval,g_,g6,g3,p1,ax,ar,NZ,az aH];have n3:=F3.i;have a1:=F.i;have an:∀y∈vb vo,h1.i<=y/\y<hh.i:=by obtain⟨rfl,_⟩|⟨b,n,rfl,_,_,hb,o⟩:=G;simp[vb];have:=o.lt F.r;simp only[vb,Vu];rintro y rfl;exact⟨hb,this⟩
 have ae:=K.c F3;have af:=F3.c_ o2;refine mE (k:=1) (n0:=h1.i) (B:=h1.i) (s:=s) (at':=sl.map (P1 x)) (sub:=.y_ 2 [] [] [] mk .j .j .D_ .D_) F3.r (YR G ae iS) oM oM (I.fr F.r ae) (fun X h' hX f=>?_) oM ?_;have lt:∀y∈X,y<hh.i:=fun y m=>by obtain q|q:=hX y m;omega;exact(an y q).2
 refine⟨oM,?_,by simpa using na,Wy (f.D _ _ (fun m=>by have:=lt _ m;omega) af) rfl,by simp[NT.A_],mG 2 oM [] mk,trivial⟩;exact YT (n:=(sl.map (P1 x)).length) (YR GA f (fun y m=>by have:=lt y m;omega)) (by rw[aG fc]) oM;intro v' h' G' I' F' V';have Fn:Fr [] h1 h':=Ww w1 (F.c ae) F' (fun y m=>(an y m).1);simp(disch:=omega) only[a_,seval,DF,g_,ah,g6,g3,r1,r3,i32,aj,ak,t1,ax,ar];refine t_ ⟨x.E.length-(i+1),oM,Fn,i+1,_,v',iS,iS,iX,iX,oM,G',I',?_,?_,rfl⟩;rw[NT.X2,ST.W4];exact e;rw[NT.ZH,sn];rfl;have Z:¬(i:Int)<x.E.length:=oM;rw[Vq oM]at e;have e':s.sh=kG tg (sl.map (P1 x)) x.E:=by rw[<-e];show _=s.sh.W3 .W8;rw[ST.Y3]
 simp[a_,g6,g5,g3,i3,am.A_,eq_false Z];refine k vo _ _ iS ⟨s,by rw[fin,e'],F0,oM,fun q=>?_,fun X h2 hX f=>⟨I X h2 (fun y m=>.inl (by have:=hX y m;have:=f0.i;omega)) f,YT (n:=s.A_) (YR G f (fun y m=>by have:=hX y m;have:=f0.i;omega)) s.R7 oM⟩⟩;obtain⟨rfl,_⟩|⟨b,n,rfl,z,z2,_⟩:=G;rfl;have:=s.R7;omega
theorem HC{k:Nat}{sub:PT}(M:x? sub):MD k tg ky sl tx va vc sub:=by intro x h w a hm n g;have n0:=n;have g0:=g;let⟨k1,k5,g3,_⟩:=g;let⟨h1,ae,ak,an⟩:=au w [ZY (k:Int),.f tg,.f ky,va,.f tx,vc];let⟨h2,ac,aj,af⟩:=au ak.r x.s;have Z:=ak.c aj;have op:=aj.c_ an;have K:ag h2 h.i 0=some (ZY (k:Int)):=op.o 0;have l4:ag h2 h.i 4=some (.f tx):=op.o 4;have x0:ag h2 h1.i 0=some (ZX (x.A:Int)):=af.o 0;have x2:ag h2 h1.i 2=some (.f x.U):=af.o 2;have ks:k=1\/k=2\/k=3\/k=4\/k=5:=oM;refine ai ?_;obtain e|e|e|e|e:=ks;simp[a_,<-ae,<-ac,K,(oM:¬(k:Int)=2),(oM:¬(k:Int)=3),(oM:¬(k:Int)=4),(oM:¬(k:Int)=5)];subst e;exact ML M Z a hm n0 g0 op af iS iS fun u h' r=>r;simp[a_,<-ae,<-ac,K,eq_true (oM:(k:Int)=2),l4];exact yz Z (by subst e;rfl);simp[a_,<-ae,<-ac,K,(oM:¬(k:Int)=2),eq_true (oM:(k:Int)=3),x2];exact yz Z (by subst e;rfl);simp[a_,<-ae,<-ac,K,(oM:¬(k:Int)=2),(oM:¬(k:Int)=3),eq_true (oM:(k:Int)=4),x0];apply aa (pZ (x.A+1) x.A oM a.k);rintro _ _ ⟨rfl,rfl⟩;simp[a_];exact yz Z (by subst e;rfl);simp[a_,<-ae,<-ac,K,(oM:¬(k:Int)=2),(oM:¬(k:Int)=3),(oM:¬(k:Int)=4),eq_true (oM:(k:Int)=5)];subst e;refine MM Z a hm n0 g3 op af iS iS fun u h' ab q r=>?_;simp[a_,q];exact r
theorem MJ:∀t:PT,x? t
 |.z_=>trivial
 |.p_ _ _ _ _ _ _ _ sub nx=>⟨HC (MJ sub),MJ nx⟩
theorem LO{h:b_}{sub:NT}(sl:Sl h 6 vc sub.A_ sub.I_){i:Nat}(Z:i<sub.A_):∃b o ky,aP (.c 6) [vc,ZZ (i:Int)]=some (.u b o)/\ag h b (o+2)=some (.f ky)/\sub.P4[i]? =some ky/\sub.P4.drop i=ky::sub.P4.drop (i+1):=by let⟨kd,ac,K,af,ae,ak,aj,ab,nx,e1,e2,e3,e4,e5,_⟩:=sub.ZM i Z;let⟨b,o,p1,p2⟩:=Sl.aC sl Z e2;exact⟨b,o,K,p1,p2.2.2.1,e5,aN e5⟩
def KX(l:List i_):Prop:=∀(i j:Nat)(q r:i_),j<i->l[i]? =some q->l[j]? =some r->q=[]\/r≠q
theorem KX.a{l:List i_}(h:KX l):∀(n i:Nat),i+n=l.length->gQ (l.take i) (l.drop i)=true
 |0,i,e=>by rw[Vq oM];rfl
 |n+1,i,e=>by
  have hi:i<l.length:=oM;have g:=Vp hi;rw[Wm hi,rP,Vd];refine⟨?_,?_⟩;by_cases z:l[i]=[];simp[z];rw[WT];right;simp only[WM,Yv,beq_iff_eq];intro q m e';obtain⟨j,hj,rfl⟩:=List.getElem_of_mem m;have hj':j<i:=by simp at hj;omega
  have Z:l[j]? =some (l.take i)[j]:=by grind
  obtain w|w:=h i j _ _ hj' g Z;exact z w;exact w e';have:=KX.a h n (i+1) oM;rwa[Vs,g]at this
theorem KX.b{l:List i_}(h:KX l):gQ [] l=true:=by simpa using KX.a h l.length 0 oM
theorem MG{h:b_}{sub:NT}(l5:ag h pb 5=some vc)(sl:Sl h 6 vc sub.A_ sub.I_)(nl:sub.A_<=4096)(e1:env.c_ 1=some (.u pb 0))
 (k:∀b,(b=true↔KX sub.P4)->R (.h b) h):W go noC env h (jz [.t 2] R):=by
 have kl:=sub.ZL;simp[a_,noC];refine aC (fun n env hh=>hh=h/\∃(i:Nat),env.c_ 5=some (ZZ (i:Int))/\env.c_ 1=some (.u pb 0)/\i<=sub.A_/\(∀(i' j:Nat)(q r:i_),i'<i->j<i'->sub.P4[i']? =some q->sub.P4[j]? =some r->q=[]\/r≠q)/\n=sub.A_-i) sub.A_ oM ?_ ?_;exact⟨rfl,0,iS,iX,oM,fun _ _ _ _ z=>by omega,rfl⟩;rintro n env hh ⟨rfl,i,g5,g1,hi,P,rfl⟩;by_cases af:i<sub.A_;have ab:(i:Int)<sub.A_:=oM;let⟨b,o,ky,p1,p2,p3,p4⟩:=LO sl af;simp[a_,g5,g1,l5,sl.A_,ab];refine aC (fun n env h2=>h2=hh/\∃(j:Nat),env.c_ 6=some (ZZ (j:Int))/\env.c_ 5=some (ZZ (i:Int))/\env.c_ 1=some (.u pb 0)/\j<=i/\(∀(j':Nat)(r:i_),j'<j->sub.P4[j']? =some r->ky=[]\/r≠ky)/\n=i-j) i oM ?_ ?_;exact⟨rfl,0,iS,iX,iX,oM,fun _ _ z=>by omega,rfl⟩;rintro n' aj h2 ⟨rfl,j,g6,g5,g1,hj,Q,rfl⟩;by_cases ae:j<i;have Z:(j:Int)<i:=oM;let⟨b',o',ac,ax,ar,ay,aH⟩:=LO sl (oM:j<sub.A_);have step:(ky=[]\/ac≠ky)->∀(j':Nat)(r:i_),j'<j+1->sub.P4[j']? =some r->ky=[]\/r≠ky:=by grind
 cases c1:ky==[];cases c2:ky==ac;simp(disch:=omega)[a_,DF,g_,ah,g6,g5,g1,l5,p1,p2,ax,ar,Z,bG,aR,c1,c2];refine t_ ⟨i-(j+1),oM,rfl,j+1,iS,iX,iX,oM,step (.inr (by rintro rfl;simp at c2)),rfl⟩;simp[a_,DF,g_,g6,g5,g1,l5,p1,p2,ax,ar,Z,bG,aR,c1,c2];refine k false ⟨fun e=>(by cases e),fun K=>?_⟩;obtain z|z:=K i j ky ac ae p3 ay;grind;grind;simp(disch:=omega)[a_,DF,g_,ah,g6,g5,g1,l5,p1,p2,Z,bG,c1];refine t_ ⟨i-(j+1),oM,rfl,j+1,iS,iX,iX,oM,step (.inl (eV c1)),rfl⟩;have:j=i:=oM;subst this;have Z:¬(j:Int)<j:=oM;simp(disch:=omega)[a_,ah,g6,g5];refine t_ ⟨sub.A_-(j+1),oM,rfl,j+1,iS,iX,oM,fun i' j' q r ak an e e2=>?_,rfl⟩;obtain z|z:=Wt i' j;grind;grind;have ab:¬(i:Int)<sub.A_:=oM;simp[a_,g5,g1,l5,sl.A_,eq_false ab];refine k true ⟨fun _ i' j q r hj e e2=>P i' j q r ?_ hj e e2,fun _=>rfl⟩;have:=(Vt.1 e).1;omega
def AX(l:List (i_×i_)):Prop:=∀(i:Nat)(a:i_×i_),l[i]? =some a->F_ a.1=true/\Q0 a.2=true/\∀(j:Nat)(q:i_×i_),j<i->l[j]? =some q->Zs a.1 q.1=false
theorem AX.a{l:List (i_×i_)}(h:AX l):∀(n i:Nat),i+n=l.length->dX (kB l i) (l.drop i)=true
 |0,i,e=>by rw[Vq oM];cases kB l i<;>rfl
 |n+1,i,e=>by
  have hi:i<l.length:=oM;have g:=Vp hi;let⟨x1,x2,x3⟩:=h i _ g;rw[Wm hi,ql,x1,x2];have y:=AX.a h n (i+1) oM;rw[ue g]at y;rw[y];have:cW (kB l i) (l[i]).1=true:=by by_cases z:i=0;subst z;rfl;have Z:=Vp (oM:i-1<l.length);have:=x3 (i-1) _ oM Z;simp[kB,z,Z,cW,this]
  rw[this];rfl
theorem AX.b{l:List (i_×i_)}(h:AX l):dX none l=true:=by simpa[kB]using AX.a h l.length 0 oM
theorem MH{h:b_}{at':List (i_×i_)}{sub:NT}(l3:ag h pb 3=some va)(ra:o_ gK 2 h va at')(na:at'.length<=4096)(l5:ag h pb 5=some vc)(sl:Sl h 6 vc sub.A_ sub.I_)(nl:sub.A_<=4096)(e1:env.c_ 1=some (.u pb 0))
 (k:∀b,(b=true↔AX at'/\KX sub.P4)->R (.h b) h):W go noA env h (jz [.t 2] R):=by
 simp[a_,noA];refine aC (fun n env hh=>hh=h/\∃(i:Nat),env.c_ 3=some (ZZ (i:Int))/\env.c_ 1=some (.u pb 0)/\i<=at'.length/\(∀(i':Nat)(a:i_×i_),i'<i->at'[i']? =some a->F_ a.1=true/\Q0 a.2=true/\∀(j:Nat)(q:i_×i_),j<i'->at'[j]? =some q->Zs a.1 q.1=false)/\n=at'.length-i) at'.length oM ?_ ?_;exact⟨rfl,0,iS,iX,oM,fun _ _ z=>by omega,rfl⟩;rintro n env hh ⟨rfl,i,g3,g1,hi,P,rfl⟩;by_cases ak:i<at'.length;have ab:(i:Int)<at'.length:=oM;let⟨b,o,a,p1,p2,_,p4⟩:=ra.ix fc .i64 (i:Int) oM ab;rw[pi]at p4;have q0:ag hh b o=some (.f a.1):=p2 0 oM;have q1:ag hh b (o+1)=some (.f a.2):=p2 1 oM;simp only[a_,seval,g3,g1,l3,ra.M,ab,p1,q0];apply aa fH;rintro _ _ ⟨rfl,rfl⟩;cases c1:F_ a.1;simp[a_];exact k false ⟨fun e=>(by cases e),fun K=>by have:=(K.1 i a p4).1;rw[c1]at this;cases this⟩;simp only[a_,seval,g3,g1,l3,p1,q1];apply aa kM;rintro _ _ ⟨rfl,rfl⟩;cases c2:Q0 a.2;simp[a_];exact k false ⟨fun e=>(by cases e),fun K=>by have:=(K.1 i a p4).2.1;rw[c2]at this;cases this⟩;simp only[a_,seval];refine aC (fun n env h2=>h2=hh/\∃(j:Nat),env.c_ 4=some (ZZ (j:Int))/\env.c_ 3=some (ZZ (i:Int))/\env.c_ 1=some (.u pb 0)/\j<=i/\(∀(j':Nat)(q:i_×i_),j'<j->at'[j']? =some q->Zs a.1 q.1=false)/\n=i-j) i oM ?_ ?_;exact⟨rfl,0,iS,iX,iX,oM,fun _ _ z=>by omega,rfl⟩;rintro n' af h2 ⟨rfl,j,g4,g3,g1,hj,Q,rfl⟩;by_cases ae:j<i;have Z:(j:Int)<i:=oM;let⟨b',o',a2,ax,ay,_,ar⟩:=ra.ix fc .i64 (j:Int) oM oM;rw[pi]at ar;have ac:ag h2 b' o'=some (.f a2.1):=ay 0 oM;cases c3:Zs a.1 a2.1;simp(disch:=omega) only[a_,seval,DF,g_,ah,g4,g3,g1,l3,p1,q0,ax,ac,Z,mZ,c3];refine t_ ⟨i-(j+1),oM,rfl,j+1,iS,iX,iX,oM,?_,rfl⟩;intro j' q an e;obtain z|z:=Wt j' j;exact Q j' q z e;grind;simp[a_,DF,g_,g4,g3,g1,l3,p1,q0,ax,ac,Z,mZ,c3];exact k false ⟨fun e=>(by cases e),fun K=>by have:=(K.1 i a p4).2.2 j a2 ae ar;rw[c3]at this;cases this⟩;have:j=i:=oM;subst this;have Z:¬(j:Int)<j:=oM;simp(disch:=omega) only[a_,seval,ah,g4,g3,eq_false Z];refine t_ ⟨at'.length-(j+1),oM,rfl,j+1,iS,iX,oM,fun i' b aj e=>?_,rfl⟩;obtain z|z:=Wt i' j;exact P i' b z e;grind;have ab:¬(i:Int)<at'.length:=oM;simp[a_,g3,g1,l3,ra.M,eq_false ab];refine MG l5 sl nl iX fun b hb=>k b (hb.trans ⟨fun e=>⟨fun i' a e'=>P i' a ?_ e',e⟩,fun e=>e.2⟩);have:=(Vt.1 e').1;omega
def OX(k:Nat)(tg ky:i_)(at':List (i_×i_))(tx:i_)(sub:NT):Prop:=
 (k=2/\Q0 tx=true/\(tg==[])=true/\(ky==[])=true/\at'.length=0/\sub.A_=0)\/(k=1/\F_ tg=true/\(ky==[]||F_ ky)=true/\(tx==[])=true/\at'.length<=8/\sub.A_<=16/\AX at'/\KX sub.P4)
theorem OX.b{k:Nat}{at':List (i_×i_)}{sub:NT}(h:OX k tg ky at' tx sub):ST.Z_ k tg ky at' tx sub.sh=true:=by have z:=NT.Zd sub;have zk:sub.sh.A?=sub.P4:=NT.Zo sub;unfold ST.Z_;obtain⟨h1,h2,h3,K,Z,h6⟩|⟨h1,h2,h3,K,Z,h6,h7,h8⟩:=h;grind;rw[if_neg oM,h2,h3,K,h7.b,zk,h8.b,decide_eq_true h1,decide_eq_true Z,decide_eq_true (oM:sub.sh.Ze<=16)];rfl
theorem JQ{h:b_}{k:Nat}{at':List (i_×i_)}{sub:NT}(w:WF h)(n:NH h (.y_ k tg ky at' tx va vc sub .D_)):
 av go 273 [.B [ZY (k:Int),.f tg,.f ky,va,.f tx,vc]] h fun u h'=>Fr [] h h'/\∃b,u=.h b/\(b=true↔OX k tg ky at' tx sub):=by
 let⟨n1,ra,na,rc,nc,n6,_⟩:=n;let⟨Z,ak,af,aj⟩:=au w [ZY (k:Int),.f tg,.f ky,va,.f tx,vc];have l0:ag Z h.i 0=some (ZY (k:Int)):=aj.o 0;have l1:ag Z h.i 1=some (.f tg):=aj.o 1;have l2:ag Z h.i 2=some (.f ky):=aj.o 2;have l3:ag Z h.i 3=some va:=aj.o 3;have l4:ag Z h.i 4=some (.f tx):=aj.o 4;have l5:ag Z h.i 5=some vc:=aj.o 5;have ab:=ra.fr af;have ac:=rc.fr af;have no:∀{h'},Fr [] h h'->¬OX k tg ky at' tx sub->(Fr [] h h'/\∃b,V.h false=.h b/\(b=true↔OX k tg ky at' tx sub)):=fun f x=>⟨f,false,rfl,fun e=>(by cases e),fun e=>absurd e x⟩;by_cases k2:(k:Int)=2;refine ai ?_;simp only[a_,seval,<-ak,l0,eq_true k2,l4];refine aa kM ?_;rintro _ _ ⟨rfl,rfl⟩;cases c1:Q0 tx;simp only[a_,seval];exact no af (by rintro(⟨Z,h2,h3,h4,K,h6⟩|⟨Z,h2,h3,h4,K,h6,h7⟩)<;>first|omega|simp_all)
 cases c2:tg==[];simp only[a_,seval,l1,aR,c2];exact no af (by rintro(⟨Z,h2,h3,h4,K,h6⟩|⟨Z,h2,h3,h4,K,h6,h7⟩)<;>first|omega|simp_all)
 cases c3:ky==[];simp only[a_,seval,l1,l2,aR,c2,c3];exact no af (by rintro(⟨Z,h2,h3,h4,K,h6⟩|⟨Z,h2,h3,h4,K,h6,h7⟩)<;>first|omega|simp_all)
 by_cases c4:(at'.length:Int)=0;simp only[a_,seval,l1,l2,l3,l5,aR,c2,c3,ab.M,eq_true c4,ac.A_];refine⟨af,_,rfl,fun e=>?_,fun e=>?_⟩;have e0:=of_decide_eq_true e;exact .inl ⟨oM,c1,c2,c3,oM,oM⟩;obtain⟨Z,h2,h3,h4,K,h6⟩|⟨Z,_⟩:=e;grind;omega;simp only[a_,seval,l1,l2,l3,aR,c2,c3,ab.M,eq_false c4];exact no af (by rintro(⟨Z,h2,h3,h4,K,h6⟩|⟨Z,h2,h3,h4,K,h6,h7⟩)<;>first|omega|simp_all)
 by_cases k1:(k:Int)=1;refine ai ?_;simp only[a_,seval,<-ak,l0,eq_false k2,eq_true k1,l1];refine aa fH ?_;rintro _ _ ⟨rfl,rfl⟩;cases c1:F_ tg;simp only[a_,seval];exact no af (by rintro(⟨Z,h2,h3,h4,K,h6⟩|⟨Z,h2,h3,h4,K,h6,h7⟩)<;>first|omega|simp_all)
 have rest:∀{env:T V},env.c_ 1=some (.u h.i 0)->tx==[]->(ky==[]||F_ ky)=true->at'.length<=8->sub.A_<=16->W go noA env Z (jz [.t 2] fun u h'=>Fr [] h h'/\∃b,u=.h b/\(b=true↔OX k tg ky at' tx sub)):=by intro env e1 c3 c2 c4 c5;refine MH l3 ab na l5 ac nc e1 fun b hb=>⟨af,b,rfl,fun e=>.inr ⟨oM,c1,c2,c3,c4,c5,hb.1 e⟩,fun e=>?_⟩;obtain⟨Z,_⟩|⟨Z,h2,h3,h4,K,h6,h7⟩:=e;omega;exact hb.2 h7
 cases c2:ky==[];simp only[a_,seval,l2,bG,c2];apply aa fH;rintro _ _ ⟨rfl,rfl⟩;cases ae:F_ ky;simp only[a_,seval];exact no af (by rintro(⟨Z,h2,h3,h4,K,h6⟩|⟨Z,h2,h3,h4,K,h6,h7⟩)<;>first|omega|simp_all)
 cases c3:tx==[];simp only[a_,seval,l4,bG,c3];exact no af (by rintro(⟨Z,h2,h3,h4,K,h6⟩|⟨Z,h2,h3,h4,K,h6,h7⟩)<;>first|omega|simp_all)
 by_cases c4:(8:Int)<(at'.length:Nat);simp only[a_,seval,l3,l4,bG,c3,ab.M,eq_true c4];exact no af (by rintro(⟨Z,h2,h3,h4,K,h6⟩|⟨Z,h2,h3,h4,K,h6,h7⟩)<;>first|omega|simp_all)
 by_cases c5:(16:Int)<(sub.A_:Nat);simp only[a_,seval,l3,l4,l5,bG,c3,ab.M,eq_false c4,ac.A_,eq_true c5];exact no af (by rintro(⟨Z,h2,h3,h4,K,h6⟩|⟨Z,h2,h3,h4,K,h6,h7⟩)<;>first|omega|simp_all)
 simp only[a_,seval,l3,l4,l5,bG,c3,ab.M,eq_false c4,ac.A_,eq_false c5];exact rest iS c3 (by rw[c2,ae];rfl) oM oM;simp only[a_,seval,l2,l3,l4,bG,c2];cases c3:tx==[];simp only[a_,seval];exact no af (by rintro(⟨Z,h2,h3,h4,K,h6⟩|⟨Z,h2,h3,h4,K,h6,h7⟩)<;>first|omega|simp_all)
 by_cases c4:(8:Int)<(at'.length:Nat);simp only[a_,seval,ab.M,eq_true c4];exact no af (by rintro(⟨Z,h2,h3,h4,K,h6⟩|⟨Z,h2,h3,h4,K,h6,h7⟩)<;>first|omega|simp_all)
 by_cases c5:(16:Int)<(sub.A_:Nat);simp only[a_,seval,l5,ab.M,eq_false c4,ac.A_,eq_true c5];exact no af (by rintro(⟨Z,h2,h3,h4,K,h6⟩|⟨Z,h2,h3,h4,K,h6,h7⟩)<;>first|omega|simp_all)
 simp only[a_,seval,l5,ab.M,eq_false c4,ac.A_,eq_false c5];exact rest iS c3 (by rw[c2];rfl) oM oM;refine ai ?_;simp only[a_,seval,<-ak,l0,eq_false k2,eq_false k1];exact no af (by rintro(⟨Z,h2,h3,h4,K,h6⟩|⟨Z,h2,h3,h4,K,h6,h7⟩)<;>first|omega|simp_all)
open Classical in
def NT.rs:NT->Nat->Nat->Nat
 |.D_,_,c=>c
 |.y_ k tg ky at' tx _ _ sub nx,lv,c=>if 64<c then c else nx.rs lv (c+(if lv=0\/¬OX k tg ky at' tx sub then 1000 else sub.rs (lv-1) 1))
open Classical in
def NT.rn(k:Nat)(tg ky:i_)(at':List (i_×i_))(tx:i_)(sub:NT)(lv:Nat):Nat:=if lv=0\/¬OX k tg ky at' tx sub then 1000 else sub.rs (lv-1) 1
theorem NT.ab(k:Nat)(tg ky:i_)(at':List (i_×i_))(tx:i_)(va vc:V)(sub nx:NT)(lv c:Nat):(NT.y_ k tg ky at' tx va vc sub nx).rs lv c=if 64<c then c else nx.rs lv (c+NT.rn k tg ky at' tx sub lv):=rfl
theorem NT.bc:∀(t:NT)(lv c:Nat),t.rs lv c≤max c (1064+64*lv)
 |.D_,lv,c=>by simp only[NT.rs];omega
 |.y_ k tg ky sl tx va vc sub nx,lv,c=>by
  rw[NT.ab];split;omega;have h1:=NT.bc sub (lv-1) 1;have h2:=NT.bc nx lv (c+NT.rn k tg ky sl tx sub lv);have:NT.rn k tg ky sl tx sub lv≤max 1000 (1000+64*lv):=by unfold NT.rn;split;omega;omega
  omega
theorem NT.aS:∀(t:NT)(lv c:Nat),c<=t.rs lv c
 |.D_,lv,c=>Ve _
 |.y_ k tg ky sl tx va vc sub nx,lv,c=>by rw[NT.ab];split;omega;have h2:=NT.aS nx lv (c+NT.rn k tg ky sl tx sub lv);omega
theorem NT.bs(k:Nat)(tg ky:i_)(sl:List (i_×i_))(tx:i_)(sub:NT)(lv:Nat):NT.rn k tg ky sl tx sub lv<=1064+64*lv/\1<=NT.rn k tg ky sl tx sub lv:=by unfold NT.rn;split;omega;have:=NT.bc sub (lv-1) 1;have:=NT.aS sub (lv-1) 1;omega
theorem NT.bv:∀(t:NT)(lv c:Nat),64<c->t.rs lv c=c
 |.D_,_,_,_=>rfl
 |.y_ _ _ _ _ _ _ _ _ _,_,_,h=>by rw[NT.ab,if_pos h]
theorem NT.aK:∀(t:NT)(lv c Z:Nat),lv<=6->Z+t.rs lv c<=64->t.sh.Y4 (7-lv) (Z+c)=(Z+t.rs lv c,true)
 |.D_,_,_,_,_,_=>rfl
 |.y_ k tg ky sl tx va vc sub nx,lv,c,Z,hl,h=>by
  have g:=NT.aS (.y_ k tg ky sl tx va vc sub nx) lv c;have c64:¬64<c:=oM;rw[NT.ab,if_neg c64]at h|-;have g2:=NT.aS nx lv (c+NT.rn k tg ky sl tx sub lv);have g3:=(NT.bs k tg ky sl tx sub lv).2;have er:¬(lv=0\/¬OX k tg ky sl tx sub):=by
   intro q;have:NT.rn k tg ky sl tx sub lv=1000:=by unfold NT.rn;rw[if_pos q]
   omega
  have ev:NT.rn k tg ky sl tx sub lv=sub.rs (lv-1) 1:=by unfold NT.rn;rw[if_neg er]
  have K:OX k tg ky sl tx sub:=Classical.byContradiction fun q=>er (.inr q);have l0:lv≠0:=fun e=>er (.inl e);have nd:ST.ZB k tg ky sl tx sub.sh sub.sh.Y4 (7-lv) (Z+c)=(Z+c+NT.rn k tg ky sl tx sub lv,true):=by unfold ST.ZB;rw[if_neg (by rw[K.b];simp;omega),(oM:7-lv+1=7-(lv-1)),NT.aK sub (lv-1) 1 (Z+c) oM oM,ev]
  simp only[NT.sh,ST.Y4,nd,if_true];rw[WJ,NT.aK nx lv _ Z hl h]
theorem NT.bu(k:Nat)(tg ky:i_)(sl:List (i_×i_))(tx:i_)(sub:NT)(h:NT.rn k tg ky sl tx sub 6<=64):ST.U_ k tg ky sl tx sub.sh=NT.rn k tg ky sl tx sub 6:=by have:=NT.aK (.y_ k tg ky sl tx .j .j sub .D_) 6 0 0 oM (by rw[NT.ab,if_neg oM];simpa[NT.rs]using h);rw[NT.ab,if_neg oM]at this;simp only[NT.sh,ST.Y4,NT.rs,VR]at this;unfold ST.U_;split at this;grind;grind
def CN(k:Nat)(tg ky:i_)(at':List (i_×i_))(tx:i_)(va vc:V)(sub:NT):Prop:=∀(lv:Nat)(h:b_),lv<=6->WF h->NH h (.y_ k tg ky at' tx va vc sub .D_)->
 av go 242 [.B [ZY (k:Int),.f tg,.f ky,va,.f tx,vc],ZZ (lv:Int)] h fun u h'=>Fr [] h h'/\u=ZZ (NT.rn k tg ky at' tx sub lv:Nat)
def v?:NT->Prop
 |.D_=>True
 |.y_ k tg ky at' tx va vc sub nx=>CN k tg ky at' tx va vc sub/\v? nx
theorem v?.Z8:∀{t:NT}(i:Nat),v? t->v? (t.Z8 i)
 |.D_,0,_=>trivial
 |.D_,_+1,_=>trivial
 |.y_ _ _ _ _ _ _ _ _ _,0,a=>a
 |.y_ _ _ _ _ _ _ _ _ _,i+1,⟨_,b⟩=>v?.Z8 i b
theorem NT.aY:∀(t:NT)(i:Nat),t.A_<=i->t.Z8 i=.D_
 |.D_,0,_=>rfl
 |.D_,_+1,_=>rfl
 |.y_ _ _ _ _ _ _ _ _ nx,0,h=>by simp[NT.A_]at h
 |.y_ _ _ _ _ _ _ _ _ nx,i+1,h=>NT.aY nx i (by simp[NT.A_]at h;omega)
theorem Fk{k:Nat}{at':List (i_×i_)}{sub:NT}(M:v? sub):CN k tg ky at' tx va vc sub:=by
 intro lv h af w n;have n0:=n;let⟨n1,ra,na,rc,nc,n6,_⟩:=n;let⟨h1,ar,aj,ak⟩:=au w [ZY (k:Int),.f tg,.f ky,va,.f tx,vc];by_cases c1:(lv:Int)<1;refine ai ?_;simp only[a_,seval,<-ar,eq_true c1];exact⟨aj,by rw[NT.rn,if_pos (.inl oM)];rfl⟩;have l6:aq h1 h.i 0 6=some [ZY (k:Int),.f tg,.f ky,va,.f tx,vc]:=by rw[ak.J];rfl
 refine ai ?_;simp[a_,<-ar,eq_false c1,l6];refine aa (JQ aj.r (n0.fr aj)) ?_;rintro _ h2 ⟨F2,b,rfl,hb⟩;have ab:=aj.c F2;cases c2:b;simp only[a_,seval];exact⟨ab,by rw[NT.rn,if_pos (.inr fun x=>by have:=hb.2 x;rw[c2]at this;cases this)];rfl⟩;have al:=hb.1 c2;have o2:=F2.c_ ak;simp[a_];refine aC (fun n env hh=>Fr [] h2 hh/\∃(i c:Nat),env.c_ 6=some (ZZ (i:Int))/\env.c_ 5=some (ZZ (c:Int))/\env.c_ 2=some (.u h.i 0)/\env.c_ 1=some (ZZ (lv:Int))/\i<=sub.A_/\c<=2000/\
  (sub.Z8 i).rs (lv-1) c=sub.rs (lv-1) 1/\n=sub.A_-i) sub.A_ oM ?_ ?_
 exact⟨Vk F2.r,0,1,iS,iS,iS,iS,oM,oM,by cases sub<;>rfl,rfl⟩;rintro n' env hh ⟨F,i,c,g6,g5,g2,g1,hi,hc,P,rfl⟩;have F0:=ab.c F;have l5:ag hh h.i 5=some vc:=(F.c_ o2).o 5;have K:=rc.fr F0;have done:c=sub.rs (lv-1) 1-> ZZ (c:Int)=ZZ (NT.rn k tg ky at' tx sub lv:Nat):=fun e=>by rw[NT.rn,if_neg (by intro q;obtain q|q:=q;omega;exact q al),<-e]
 by_cases ac:i<sub.A_;have Z:(i:Int)<sub.A_:=oM;by_cases c3:(c:Int)<=64;let⟨kd,aH,ay,ax,a0,a2,a1,an,nx,e1,e2,e3,e4,e5,_⟩:=sub.ZM i ac;let⟨bi,oi,p1,p2⟩:=Sl.aC K ac e2;have ph:=NH.Z8 i (n6.fr F0);rw[e1]at ph;let⟨z1,z2,z3,z4,z5,z6,z7⟩:=ph;have cr:=v?.Z8 i M;rw[e1]at cr;let⟨q0,q1,q2,q3,q4,q5,q6⟩:=p2;simp(disch:=omega) only[a_,seval,ah,g6,g5,g2,g1,l5,K.A_,Z,eq_true c3,p1,q6];have ae:(lv:Int)-1=((lv-1:Nat):Int):=oM;rw[ae];apply aa (cr.1 (lv-1) hh oM F.r ⟨z1,z2,z3,z4,z5,z6,trivial⟩);rintro _ h3 ⟨F3,rfl⟩;have le:=NT.bs kd aH ay ax a0 an (lv-1);rw[e1,NT.ab,if_neg oM]at P;simp(disch:=omega) only[a_,seval,ah,g6];refine t_ ⟨sub.A_-(i+1),oM,F.c F3,i+1,c+NT.rn kd aH ay ax a0 an (lv-1),iS,iS,iX,iX,oM,oM,by rw[e3];exact P,rfl⟩;simp only[a_,seval,g6,g5,g2,l5,K.A_,Z,eq_false c3];rw[NT.bv _ _ _ oM]at P;exact⟨F0,done P⟩;have Z:¬(i:Int)<sub.A_:=oM;simp only[a_,seval,g6,g5,g2,l5,K.A_,eq_false Z];rw[NT.aY _ _ oM]at P;exact⟨F0,done P⟩
theorem cns:∀t:NT,v? t
 |.D_=>trivial
 |.y_ _ _ _ _ _ _ _ sub nx=>⟨Fk (cns sub),cns nx⟩
open Classical in
def NT.rC(k:Nat)(tg ky:i_)(at':List (i_×i_))(tx:i_)(sub:NT):Nat:=if 64<NT.rn k tg ky at' tx sub 6 then 0 else NT.rn k tg ky at' tx sub 6
theorem NT.bo{k:Nat}{at':List (i_×i_)}{sub:NT}(h:NT.rC k tg ky at' tx sub≠0):ST.U_ k tg ky at' tx sub.sh=NT.rC k tg ky at' tx sub:=by unfold NT.rC at h|-;split at h;exact absurd rfl h;rename_i q;rw[if_neg q];exact NT.bu _ _ _ _ _ _ oM
theorem xW{h:b_}{k:Nat}{at':List (i_×i_)}{sub:NT}(w:WF h)(n:NH h (.y_ k tg ky at' tx va vc sub .D_)):
 av go 189 [.B [ZY (k:Int),.f tg,.f ky,va,.f tx,vc]] h fun u h'=>Fr [] h h'/\u=ZZ (NT.rC k tg ky at' tx sub:Nat):=by
 let⟨K,ae,ab,ac⟩:=au w [ZY (k:Int),.f tg,.f ky,va,.f tx,vc];have l6:aq K h.i 0 6=some [ZY (k:Int),.f tg,.f ky,va,.f tx,vc]:=by rw[ac.J];rfl
 refine ai ?_;simp[a_,<-ae,l6];refine aa ((cns (.y_ k tg ky at' tx va vc sub .D_)).1 6 K oM ab.r (n.fr ab)) ?_;rintro _ h2 ⟨Z,rfl⟩;by_cases c2:(64:Int)<(NT.rn k tg ky at' tx sub 6:Nat);simp[a_,eq_true c2];exact⟨ab.c Z,by rw[NT.rC,if_pos oM];rfl⟩;simp[a_,eq_false c2];exact⟨ab.c Z,by rw[NT.rC,if_neg oM]⟩
theorem Gg{h:b_}{k:Nat}{at':List (i_×i_)}{sub:NT}(w:WF h)(n:NH h (.y_ k tg ky at' tx va vc sub .D_)):
 av go 188 [.B [ZY (k:Int),.f tg,.f ky,va,.f tx,vc]] h fun u h'=>Fr [] h h'/\u=ZZ (if NT.rC k tg ky at' tx sub=0 then 14 else 0):=by
 let⟨h1,ae,ab,ac⟩:=au w [ZY (k:Int),.f tg,.f ky,va,.f tx,vc];have K:aq h1 h.i 0 6=some [ZY (k:Int),.f tg,.f ky,va,.f tx,vc]:=by rw[ac.J];rfl
 refine ai ?_;simp[a_,<-ae,K];refine aa (xW ab.r (n.fr ab)) ?_;rintro _ h2 ⟨Z,rfl⟩;by_cases c2:(NT.rC k tg ky at' tx sub:Int)=0;simp only[a_,seval,eq_true c2];exact⟨ab.c Z,by rw[if_pos oM]⟩;simp only[a_,seval,eq_false c2];exact⟨ab.c Z,by rw[if_neg oM]⟩
theorem Mz{s:NT}{at':List (i_×i_)}{m:ST}(e:s.sh=.V4 1 tg ky at' [] m .W8):∃va vc sub,s=.y_ 1 tg ky at' [] va vc sub .D_/\sub.sh=m:=by
 match s,e with
 |.y_ k tg2 ky2 a2 tx2 va vc sub nx,e=>
  simp[NT.sh]at e;obtain⟨rfl,rfl,rfl,rfl,rfl,e6,Z⟩:=e;match nx,Z with
  |.D_,_=>exact⟨va,vc,sub,rfl,e6⟩
theorem NT.bd:∀(s t:NT),s.sh=t.sh→∀lv c,s.rs lv c=t.rs lv c
 |.D_,.D_,_,_,_=>rfl
 |.y_ k tg ky a tx _ _ sub nx,.y_ k2 tg2 ky2 a2 tx2 _ _ sub2 nx2,e,lv,c=>by
  simp only[NT.sh,ST.V4.injEq]at e;obtain⟨rfl,rfl,rfl,rfl,rfl,e6,e7⟩:=e;have l:sub.A_=sub2.A_:=by rw[←NT.Zd sub,←NT.Zd sub2,e6]
  have y:sub.P4=sub2.P4:=by rw[←NT.Zo sub,←NT.Zo sub2,e6]
  have o:OX k tg ky a tx sub↔OX k tg ky a tx sub2:=by unfold OX;rw[l,y]
  rw[NT.ab,NT.ab];have r:NT.rn k tg ky a tx sub lv=NT.rn k tg ky a tx sub2 lv:=by unfold NT.rn;rw[NT.bd sub sub2 e6];rw[propext o]
  rw[r];split;rfl;exact NT.bd nx nx2 e7 _ _
theorem NT.bP{k:Nat}{a:List (i_×i_)}{s t:NT}(e:s.sh=t.sh):NT.rC k tg ky a tx s=NT.rC k tg ky a tx t:=by
 have h:=NT.bd (.y_ k tg ky a tx .j .j s .D_) (.y_ k tg ky a tx .j .j t .D_) (by simp[NT.sh,e]);have h:=h 6 0;rw[NT.ab,NT.ab]at h;have h:NT.rn k tg ky a tx s 6=NT.rn k tg ky a tx t 6:=by simpa[NT.rs]using h
 unfold NT.rC;rw[h]
def RE(k:Nat)(tg ky tx:i_)(sl:List Q5)(sub:PT)(x:e_)(most e:Int):Prop:=
 if most<1\/64<most then e=1 else if PT.rC k tg ky sl tx sub=0 then e=14 else if iA x=false then e=6 else
  ∃s:NT,s.sh=cH x sub/\e=if NT.rC 1 tg ky (sl.map (P1 x)) [] s=0\/most<(NT.rC 1 tg ky (sl.map (P1 x)) [] s:Nat)then 14 else 0
theorem RE.bN{k:Nat}{sub:PT}{x:e_}{Z e K:Int}(a:RE k tg ky tx sl sub x Z e)(b:RE k tg ky tx sl sub x Z K):e=K:=by unfold RE at a b;split at a;grind;rename_i c;rw[if_neg c]at b;split at a;grind;rename_i c;rw[if_neg c]at b;split at a;grind;rename_i c;rw[if_neg c]at b;obtain⟨s,hs,rfl⟩:=a;obtain⟨t,ht,rfl⟩:=b;rw[NT.bP (hs.trans ht.symm)]
abbrev Z6':List V:=[ZY 0,.f [],.f [],.j,.f [],.j]
theorem BP{h:b_}{k:Nat}{sub:PT}{x:e_}{K:Int}(w:WF h)(n:PH h (.p_ k tg ky sl tx va vc sub .z_))(g:PG (.p_ k tg ky sl tx va vc sub .z_))(a:q_ h x):
 av go 115 [.B [ZY (k:Int),.f tg,.f ky,va,.f tx,vc],.B x.s,ZZ K] h fun u h'=>Fr [] h h'/\∃cs e,u=.G [.B cs,ZZ e]/\aw cs=true/\cs.length=6/\0<=e/\
  (e=0->k=1/\1<=K/\K<=64/\iA x=true/\ST.U_ 1 tg ky (sl.map (P1 x)) [] (cH x sub)≠0/\(ST.U_ 1 tg ky (sl.map (P1 x)) [] (cH x sub):Int)<=K)/\RE k tg ky tx sl sub x K e:=by
 let⟨h1,bf,bm,bp⟩:=au w [ZY (k:Int),.f tg,.f ky,va,.f tx,vc];let⟨h2,bc,bh,bo⟩:=au bm.r x.s;let⟨h3,bg,bj,ba⟩:=au bh.r [ZY 0,.f [],.f [],.j,.f [],.j];have Z:=(bm.c bh).c bj;have n1:=s_ bf;have n2:=s_ bc;have n3:=s_ bg;have op:=bj.c_ (bh.c_ bp);have oi:=bj.c_ bo;have p6:∀{h'},Fr [] h3 h'->aq h' h.i 0 6=some [ZY (k:Int),.f tg,.f ky,va,.f tx,vc]:=fun f=>by rw[(f.c_ op).J];rfl
 have i4:∀{h'},Fr [] h3 h'->aq h' h1.i 0 4=some x.s:=fun f=>by rw[(f.c_ oi).J];rfl
 have z6:∀{h'},f_ h' h2.i Z6'->aq h' h2.i 0 6=some Z6':=fun o=>by rw[o.J];rfl
 by_cases c1:K<1;refine ai ?_;simp only[a_,seval,<-bf,<-bc,<-bg,eq_true c1];refine u_ Z.r ba ?_;rintro h4 o4 F4 n4;simp only[a_,seval,z6 o4];exact⟨Z.y F4 w oM,_,1,rfl,rfl,rfl,oM,(fun e=>by cases e),by rw[RE,if_pos (.inl c1)]⟩;by_cases c2:(64:Int)<K;refine ai ?_;simp only[a_,seval,<-bf,<-bc,<-bg,eq_false c1,eq_true c2];refine u_ Z.r ba ?_;rintro h4 o4 F4 n4;simp only[a_,seval,z6 o4];exact⟨Z.y F4 w oM,_,1,rfl,rfl,rfl,oM,(fun e=>by cases e),by rw[RE,if_pos (.inr c2)]⟩;have aj:¬(K<1\/64<K):=oM;refine ai ?_;simp only[a_,seval,<-bf,<-bc,<-bg,eq_false c1,eq_false c2,p6 (Vk Z.r)];refine aa (xY Z.r (n.fr Z)) ?_;rintro _ h4 ⟨rfl,F4⟩;by_cases c3:PT.rC k tg ky sl tx sub=0;rw[if_pos c3];simp only[a_,seval,p6 F4];apply aa (xY F4.r (n.fr (Z.c F4)));rintro _ h5 ⟨rfl,F5⟩;rw[if_pos c3];simp only[a_,seval];apply u_ F5.r ((F4.c F5).c_ ba);rintro h6 o6 F6 n6;simp only[a_,seval,z6 o6];exact⟨((Z.c F4).c F5).y F6 w oM,_,14,rfl,rfl,rfl,oM,(fun e=>by cases e),by rw[RE,if_neg aj,if_pos c3]⟩;rw[if_neg c3];have k1:k=1:=by unfold PT.rC at c3;split at c3;exact absurd rfl c3;omega
 simp only[a_,seval,i4 F4];apply aa (rZ F4.r (a.fr (Z.c F4)));rintro _ h5 ⟨rfl,F5⟩;have ae:=F4.c F5;cases c4:iA x;simp only[a_,seval,i4 ae];apply aa (rZ F5.r (a.fr (Z.c ae)));rintro _ h6 ⟨rfl,F6⟩;rw[c4];simp only[a_,seval];apply u_ F6.r ((ae.c F6).c_ ba);rintro h7 o7 F7 n7;simp only[a_,seval,z6 o7];exact⟨(Z.c (ae.c F6)).y F7 w oM,_,6,rfl,rfl,rfl,oM,(fun e=>by cases e),by rw[RE,if_neg aj,if_neg c3,if_pos c4]⟩;have an:¬iA x=false:=by rw[c4];decide
 have hm:x.E.length<=8:=by simp only[iA,Zz,Vd,decide_eq_true_eq]at c4;exact c4.2.2.1
 simp only[a_,seval,p6 ae,i4 ae];apply aa ((MJ (.p_ k tg ky sl tx va vc sub .z_)).1 x h5 F5.r (a.fr (Z.c ae)) hm (n.fr (Z.c ae)) g);rintro u h6 ⟨s,es,F6,a9,sz,st⟩;subst k1;obtain⟨vA,vC,ab,rfl,em⟩:=Mz es;have ax:=ae.c F6;let⟨bt,bv⟩:=st [] h6 iS (Vk F6.r);let⟨bi,a5,p1,p2⟩:=Sl.aC bv (i:=0) (Wn Nat.zero_lt_one (Vj rfl)) (r:=[]) rfl;let⟨q0,q1,q2,q3,q4,q5,q6⟩:=p2;have a6:aP (.c 6) [u,ZZ 0]=some (.u bi a5):=p1;have on:aw [ZY ((1:Nat):Int),.f tg,.f ky,vA,.f [],vC]=true:=by have:=NH.aF bt;simpa[NT.I_]using this
 have n6:=F6.i;have a7:=ax.i;let⟨h7,bn,bk,br⟩:=au F6.r [ZY 0,.f [],.f [],.j,.f [],.j];simp only[a_,seval,a6,q6,<-bn];refine ao (c':=[ZY ((1:Nat):Int),.f tg,.f ky,vA,.f [],vC]) bk.r br rfl on rfl ?_;rintro h8 o8 F8 n8;have ay:Fr [] h6 h8:=bk.y F8 F6.r (Ve _);have af:=ax.c ay;have c8:∀{h'},Fr [] h8 h'->aq h' h6.i 0 6=some [ZY ((1:Nat):Int),.f tg,.f ky,vA,.f [],vC]:=fun f=>by rw[(f.c_ o8).J];rfl
 have aH:∀{h'},Fr [] h8 h'->NH h' (.y_ 1 tg ky (sl.map (P1 x)) [] vA vC ab .D_):=fun f=>(st [] _ iS (ay.c f)).1;simp only[a_,seval,c8 (Vk F8.r)];apply aa (Gg F8.r (aH (Vk F8.r)));rintro _ h9 ⟨F9,rfl⟩;by_cases c5:NT.rC 1 tg ky (sl.map (P1 x)) [] ab=0;rw[if_pos c5];simp only[a_,seval];apply u_ F9.r ((af.c F9).c_ ba);rintro a4 a2 ac a8;simp only[a_,seval,z6 a2];exact⟨(Z.c (af.c F9)).y ac w oM,_,14,rfl,rfl,rfl,oM,(fun e=>by cases e),by rw[RE,if_neg aj,if_neg c3,if_neg an];exact⟨ab,em,by rw[if_pos (.inl c5)]⟩⟩;rw[if_neg c5];simp only[a_,seval,c8 F9];apply aa (xW F9.r (aH F9));rintro _ a4 ⟨ac,rfl⟩;have cnt:=NT.bo c5;rw[em]at cnt;by_cases c6:K<(NT.rC 1 tg ky (sl.map (P1 x)) [] ab:Nat);simp only[a_,seval,eq_true c6];apply ao (c':=Z6') ac.r (((af.c F9).c ac).c_ ba) rfl rfl rfl;rintro a0 ak ar a1;simp only[a_,seval,z6 ak];exact⟨(Z.c ((af.c F9).c ac)).y ar w oM,_,14,rfl,rfl,rfl,oM,(fun e=>by cases e),by rw[RE,if_neg aj,if_neg c3,if_neg an];exact⟨ab,em,by rw[if_pos (.inr c6)]⟩⟩;simp only[a_,seval,eq_false c6,c8 (F9.c ac)];refine ao (c':=[ZY ((1:Nat):Int),.f tg,.f ky,vA,.f [],vC]) ac.r (((af.c F9).c ac).c_ ba) rfl on rfl ?_;rintro a0 ak ar a1;have a3:aq a0 h2.i 0 6=some [ZY ((1:Nat):Int),.f tg,.f ky,vA,.f [],vC]:=by rw[ak.J];rfl
 simp only[a_,seval,a3];exact⟨(Z.c ((af.c F9).c ac)).y ar w oM,_,0,rfl,on,rfl,oM,fun _=>⟨oM,oM,by rw[cnt];exact c5,by rw[cnt];omega⟩,by rw[RE,if_neg aj,if_neg c3,if_neg an];exact⟨ab,em,by rw[if_neg (fun q=>q.elim c5 c6)]⟩⟩
theorem qQ{h:b_}{b o n m:Nat}(e:aq h b o (n+m)=some cs):aq h b o n=some (cs.take n):=by
 simp[aq]at e|-;cases K:dW h b with
 |none=>rw[K]at e;cases e
 |some C=>
  rw[K]at e;simp[bR]at e|-;have tk:∀(n:Nat)(l:List V),l.length<n->dL n l=none:=by
   intro n;induction n with
   |zero=>intro l Z;omega
   |succ n ih=>
    intro l Z;cases l with
    |nil=>rfl
    |cons a l=>rw[fT,ih l (eV Z)];rfl
  have Z:n+m<=(C.drop o).length:=by grind
  rw[bO _ _ Z]at e;rw[bO _ _ oM];have e':=WU e;rw[<-e',WL,WE oM]
def GK(Ks:List w_):Prop:=∀q∈Ks,Y0 q=true/\PG (.p_ q.k q.tg q.ky q.sl q.tx q.vs q.vp q.ar .z_)/\1<=q.W/\q.W<=40
def IE(Ks:List w_)(cap:Int)(x:e_)(e:Int):Prop:=
 if P0 x Ks.length=false then e=6 else∃q e1,Ks[x.N]? =some q/\RE q.k q.tg q.ky q.tx q.sl q.ar x cap e1/\e=if 0<e1 then 14 else 0
theorem IE.bN{x:e_}{e K:Int}(a:IE Ks cap x e)(b:IE Ks cap x K):e=K:=by unfold IE at a b;split at a;grind;rename_i c;rw[if_neg c]at b;obtain⟨q,e1,hq,r,rfl⟩:=a;obtain⟨q',e2,Z,r',rfl⟩:=b;rw[hq]at Z;cases Z;rw[r.bN r']
theorem AB{h:b_}{x:e_}(w:WF h)(rk:o_ w_.s 9 h vK Ks)(kh:∀q∈Ks,Q4 h q)(gk:GK Ks)(hK:Ks.length<256)(a:q_ h x):
 av go 58 [.B [vK,ZZ cap],.B x.s,ZZ 0] h fun u h'=>Fr [] h h'/\∃e:Int,u=ZZ e/\0<=e/\(e=0->P0 x Ks.length=true/\bP Ks cap x=0)/\IE Ks cap x e:=by
 have v1:vK.O=true:=Wj rk;let⟨h1,a0,aH,a1⟩:=au w [vK,ZZ cap];let⟨h2,a3,ax,ay⟩:=au aH.r x.s;have n1:=s_ a0;have K:=aH.c ax;have oc:=ax.c_ a1;have c0:∀{h'},Fr [] h2 h'->ag h' h.i 0=some vK:=fun f=>(f.c_ oc).o 0;have c1:∀{h'},Fr [] h2 h'->ag h' h.i 1=some (ZZ cap):=fun f=>(f.c_ oc).o 1;have i1:∀{h'},Fr [] h2 h'->ag h' h1.i 1=some (ZY (x.N:Int)):=fun f=>(f.c_ ay).o 1;have i4:∀{h'},Fr [] h2 h'->aq h' h1.i 0 4=some x.s:=fun f=>by rw[(f.c_ ay).J];rfl
 have r0:Fr [] h2 h2:=Vk K.r;refine ai ?_;simp[a_,<-a0,<-a3,i4 r0,c0 r0,(VJ rk K).M];refine aa (xx K.r (a.fr K) hK) ?_;rintro _ h3 ⟨rfl,F3⟩;cases d1:P0 x Ks.length;simp only[a_,seval];exact⟨K.c F3,6,rfl,oM,(fun e=>by cases e),by rw[IE,if_pos d1]⟩;have ht:x.N<Ks.length:=by simp only[P0,Vd,decide_eq_true_eq]at d1;exact d1.2.1
 simp[a_];apply xT [⟨none,.p (.b 0) [.v 3],none⟩,⟨none,.a 1 false (.l 0),none⟩,⟨none,.p (.b 1) [.v 4],none⟩,⟨none,.a 1 false (.l 0),none⟩,⟨none,.p (.c 9) [.l 2,.l 0],none⟩,⟨none,.p (.b 0) [.l 0],none⟩,⟨none,.a 6 true (.l 0),none⟩,⟨none,.a 4 true (.v 4),none⟩,⟨none,.p (.b 1) [.v 3],none⟩,⟨none,.a 1 false (.l 0),none⟩,⟨none,.c 115 [.l 3,.l 2,.l 0],none⟩,⟨none,.p .o [.l 0],none⟩,⟨none,.p (.v 0) [.l 0],none⟩,⟨none,.p (.v 1) [.l 1],none⟩] _ rfl;have F4:=VL F3.r [ZY 0,.f [],.f [],.j,.f [],.j];have o4:=Wi F3.r [ZY 0,.f [],.f [],.j,.f [],.j];have n4:(k_ h3 [ZY 0,.f [],.f [],.j,.f [],.j]).i=h3.i+1:=rfl;generalize k_ h3 [ZY 0,.f [],.f [],.j,.f [],.j]=h4 at F4 o4 n4|-;have Z:=F3.c F4;have ab:=K.c Z;let⟨bk,ok',q,p1,p2,p3,p4⟩:=Yj fg (VJ rk ab) .u8 (x.N:Int) oM oM;rw[pi]at p4;have qm:=Vg p4;let⟨a2,a4,_⟩:=gk q qm;have p6:aq h4 bk ok' 6=some q.as:=qQ (m:=3) p3;simp[a_,g_,c0 Z,c1 Z,i1 Z,i4 Z,p1,p6];apply aa (BP F4.r ((kh q qm).fr ab) a4 (a.fr ab));rintro _ h5 ⟨F5,cs,e,rfl,on,cl,e0,he,ae⟩;have ak:=Z.c F5;let⟨a8,a6,q',aj,a7,a5,af⟩:=Yj fg (VJ rk (ab.c F5)) .u8 (x.N:Int) oM oM;rw[pi,p4]at af;cases af;rw[p1]at aj;cases aj;have an:aq h5 bk ok' 6=some q.as:=qQ (m:=3) a5;simp[a_,g_,mJ];refine ao (c':=cs) F5.r (F5.c_ o4) cl on (by
  rw[bN _ _ _ (by show 0+cs.length<=6;omega)];simp[V.s];omega) ?_
 rintro h6 o6 F6 n6;have n3:=F3.i;have ar:=K.i;have n5:=F5.i;simp only[a_,seval,DF,g_,c0 Z,c1 Z,i1 Z,i4 Z,p6];have ac:Fr [] h h6:=((K.c F3).c (F4.c F5)).y F6 w oM;by_cases d2:(0:Int)<e;simp only[seval,eq_true d2];exact⟨ac,14,rfl,oM,(fun e=>by cases e),by rw[IE,if_neg (by rw[d1];decide)];exact⟨q,e,p4,ae,by rw[if_pos d2]⟩⟩;simp only[seval,eq_false d2];refine⟨ac,0,rfl,oM,fun _=>?_,by rw[IE,if_neg (by rw[d1];decide)];exact⟨q,e,p4,ae,by rw[if_neg d2]⟩⟩;let⟨y1,y2,y3,y4,y5,y6⟩:=he oM;have er:bP Ks cap x=fL q.k q.tg q.ky q.sl q.tx q.ar x cap:=by simp[bP,p4]
 simp only[Y0,Vd,decide_eq_true_eq]at a2;rw[er];unfold fL;rw[if_neg oM,if_neg a2.2,y4,if_neg dI,if_neg (by intro z;obtain z|z:=z;exact y5 z;omega)]
end Go.Ev.Lay
