/- An evaluator of the program, and contracts over it: StaB to LaySl. -/
import Derived.Test.YtknldhlnhobdhaaGreatDoorP07
import Derived.Test.YtknldhlnhobdhaaGreatDoorP08
set_option linter.unusedSimpArgs false
set_option linter.unusedVariables false
set_option linter.constructorNameAsVariable false
set_option linter.unnecessarySimpa false
set_option maxRecDepth 4000
namespace Go.Ev.Lay
variable{cs xs:List V}{tg tx:g_}{vs vp:V}{n0:Nat}{h' h1 h2:a_}{sub:PT}{X:List Nat}{view over:Int}{bs ks:List Bool}{α:Type}{pm:Option Nat}
def AH(x:m_)(s:Q3):g_:=if s.2.1=0 then s.2.2 else if s.2.1=1 then x.X else if s.2.1=2 then W8 x.J else W8 x.C.length
def N_(x:m_)(s:Q3):g_×g_:=(s.1,AH x s)
theorem oU{h:a_}{z:g_}(w:WF h):ao go 218 [.f z] h fun u h'=>u=.B [ZY 2,.f [],.f [],.r,.f z,.r]/\Fr [] h h':=by let⟨h1,K,Z,ac⟩:=aq w [ZY 0,.f [],.f [],.r,.f [],.r];refine ah ?_;simp[b_,<-K];refine B_ Z.o ac ?_;rintro h2 o2 F2 n2;have l:=o2.at6.2.2.2.2.2.2;simp[b_,l];exact Z.z F2 w (VZ _)
theorem IN{h:a_}{x:m_}{v:V}{l:List Q3}(w:WF h)(a:u_ h x)(r:q_ sW 3 h v l)(nl:l.length<=4096)(h3:∀s∈l,s.2.1<=3):
 ao go 262 [.B x.s,v] h fun u h'=>∃b,h.e<=b/\S6 2 h' u b ((l.map (N_ x)).flatMap gG) l.length/\Fr [] h h':=by
 have kx:=a.k;have nx:=a.n;let⟨h1,af,ac,aJ⟩:=aq w x.s;have n1:=x_ af;refine ah ?_;simp[b_,<-af,r.t_];refine(bV _ _ _ _ _ _ _ _ oM oM oM oM).2 ?_;simp;obtain⟨h2,K⟩:∃h2,h2=h_ h1 (bq [.f [],.f []] l.length):=⟨_,rfl⟩;have ak:Fr [] h1 h2:=K▸WA ac.o _;have ar:e_ h2 h1.e (bq [.f [],.f []] l.length):=K▸Xc ac.o _;have ln:(bq [V.f [],V.f []] l.length).length=l.length*2:=dV _ _;rw[<-K];clear K;generalize bq [V.f [],V.f []] l.length=Z at ln ar;simp[b_,r.t_];refine aA (fun n env hh=>Fr [] h hh/\Fr [] h1 hh/\∃(i:Nat)(C:List V),env.c_ 13=some (ZZ i)/\env.c_ 12=some (ZZ l.length)/\env.c_ 11=some v/\env.c_ 5=some (.y h1.e 0 l.length l.length)/\env.c_ 2=some (.u h.e 0)/\
  i<=l.length/\e_ hh h1.e C/\C.length=l.length*2/\C.take (i*2)=((l.take i).map (N_ x)).flatMap gG/\n=l.length-i) l.length oM ?_ ?_
 ·exact⟨ac.c ak,ak,0,Z,iS,iS,iS,iS,iS,oM,ar,ln,iS,rfl⟩
 ·rintro n env hh ⟨F,F1,i,C,g13,g12,g11,g5,g2,hi,oC,lC,eC,rfl⟩;by_cases aT:i<l.length
  ·have ae:(i:Int)<l.length:=oM
   let⟨b',o',s,p1,p2,p3,p4⟩:=(r.fr F).ix gu .i64 (i:Int) oM ae;rw[pi]at p4;have s3:=h3 s (Wc p4);let⟨h3,aH,an,az⟩:=aq F.o [.f [],ZY 0,.f []];simp only[b_,seval,g13,g12,g11,ae,p1,p3,<-aH];apply B_ an.o az;rintro h4 o4 F4 n4;have ay:Fr [] hh h4:=an.z F4 F.o (VZ _);have ox:=ay.i (F1.i aJ);have u0:ab h4 hh.e 0=some (.f s.1):=o4.j 0;have u1:ab h4 hh.e 1=some (ZY (s.2.1:Int)):=o4.j 1;have u2:ab h4 hh.e 2=some (.f s.2.2):=o4.j 2;have x0:ab h4 h.e 0=some (ZX (x.J:Int)):=ox.j 0;have x2:ab h4 h.e 2=some (.f x.X):=ox.j 2;have x3:ab h4 h.e 3=some x.vm:=ox.j 3;simp only[b_,seval,j_,g5,g2,u0,u2,x2,x0];apply aa (oP ay.o kx);rintro _ h5 ⟨rfl,F5⟩;have v0:ab h5 hh.e 0=some (.f s.1):=(F5.i o4).j 0;have v1:ab h5 hh.e 1=some (ZY (s.2.1:Int)):=(F5.i o4).j 1;have v2:ab h5 hh.e 2=some (.f s.2.2):=(F5.i o4).j 2;have y2:ab h5 h.e 2=some (.f x.X):=(F5.i ox).j 2;have y3:ab h5 h.e 3=some x.vm:=(F5.i ox).j 3;have cv:bP .u64 (x.C.length:Int)=(x.C.length:Int):=bS _ oM oM;simp only[b_,seval,j_,g2,y3,a.m.t_,cv];apply aa (oP F5.o oM);rintro _ h6 ⟨rfl,F6⟩;have ax:=(ay.c F5).c F6;have w0:ab h6 hh.e 0=some (.f s.1):=(F6.i (F5.i o4)).j 0;have w1:ab h6 hh.e 1=some (ZY (s.2.1:Int)):=(F6.i (F5.i o4)).j 1;have w2:ab h6 hh.e 2=some (.f s.2.2):=(F6.i (F5.i o4)).j 2;have z2:ab h6 h.e 2=some (.f x.X):=(F6.i (F5.i ox)).j 2;have z3:ab h6 h.e 3=some x.vm:=(F6.i (F5.i ox)).j 3;have pk:aP (.f 4 1 false) [.B [.f s.2.2,.f x.X,.f (W8 x.J),.f (W8 x.C.length)],ZY (s.2.1:Int)]=some (.f (AH x s)):=by
    rw[AP _ _ _ _ oM];have:s.2.1=0\/s.2.1=1\/s.2.1=2\/s.2.1=3:=oM
    obtain e|e|e|e:=this<;>(rw[e];simp only[AH,e];rfl)
   have ix:=dh 2 h1.e 0 l.length l.length .i64 (i:Int) oM ae;simp at ix;simp only[b_,seval,j_,w1,pk,ix];refine ai (c':=C.take (i*2)++gG (N_ x s)++C.drop (i*2+2)) F6.o (ax.i oC) rfl rfl (cD C (i*2) (gG (N_ x s)) (by show i*2+2<=C.length;omega)) ?_;rintro h7 o7 F7 n7;have aN:Fr [] h h7:=(F.c ax).z F7 w oM;have aR:Fr [] h1 h7:=(F1.c ax).z F7 ac.o (VZ _);have fin:(C.take (i*2)++gG (N_ x s)++C.drop (i*2+2)).take ((i+1) *2)=((l.take (i+1)).map (N_ x)).flatMap gG:=by
    have:(C.take (i*2)++gG (N_ x s)).length=(i+1) *2:=by rw[Wq,eQ,Yk];omega
    rw[<-this,YH,eC,Wn,p4];simp
   simp(disch:=omega) only[b_,seval,DF,ag,g13,u0,u1,u2,x0,x2,x3,v0,v1,v2,y2,y3,w0,w1,w2,z2];refine s_ ⟨l.length-(i+1),oM,aN,aR,i+1,_,iS,iX,iX,iX,iX,oM,o7,by simp[gG];omega,fin,rfl⟩
   done
  ·simp[b_,g13,g12,g5,(oM:¬(i:Int)<l.length)];rw[Wj oM,Wj oM]at eC;subst eC;exact⟨h1.e,oM,⟨by rw[lC],.inr ⟨rfl,oC⟩⟩,F⟩
theorem uA{e:Nat}{h:a_}{v:V}{n:Nat}(he:0<e)(a:Sl h e v n cs)(hv:v≠.L):
 ∃u,aP (.s none e false true true) [v,ZZ (n:Int),ZZ (n:Int)]=some u/\Sl h e u n cs/\u≠.L:=by
 let⟨Z,a⟩:=a;have q:∀y,n<=y->aZ n y false true true [ZZ (n:Int),ZZ (n:Int)]=some (0,n,some n):=fun y hy=>by simp[aZ,bU .i64 (n:Int) y oM oM,bU .i64 (n:Int) n oM oM]
 cases v with
 |r=>have a:n=0:=a;subst a;exact⟨.r,by simp only[aP,eJ,q 0 (VZ _),Ws],⟨Z,rfl⟩,iS⟩
 |y b o len cap=>obtain⟨rfl,h2,c,hc,h3,K⟩:=a;refine⟨.y b (bif Nat.beq len 0 then o else o+0*e) (len-0) (len-0),by simp[aP,eJ,q cap h2],⟨Z,rfl,VZ _,c,hc,?_⟩,iS⟩;by_cases c0:len=0;grind;grind
 |G b o len e'=>obtain⟨rfl,rfl,c,hc,h3,K⟩:=a;refine⟨.y b (bif Nat.beq len 0 then o else o+0*e') (len-0) (len-0),by simp[aP,eJ,(WB ..).mpr he,q len (VZ _)],⟨Z,rfl,VZ _,c,hc,?_⟩,iS⟩;by_cases c0:len=0;grind;grind
 |L=>exact absurd rfl hv
 |_=>exact a.elim
theorem IB{h:a_}{v:V}{n:Nat}(a:Sl h 6 v n cs)(hv:v≠.L):ao go 263 [v] h fun u h'=>(∀h2,Sl h2 6 v n cs->Sl h2 6 u n cs)/\u≠.L/\h=h':=by let⟨u,e,s,ne⟩:=uA oM a hv;refine ah ?_;simp only[b_,seval,a.t_,e];refine⟨fun h2 a2=>?_,ne⟩;let⟨u2,Z,K,_⟩:=uA oM a2 hv;rw[e]at Z;cases Z;exact K
theorem uk{h:a_}{x:m_}{v:V}{k:Nat}{ky key:g_}{l:List Q3}{n:Nat}(w:WF h)(a:u_ h x)(r:q_ sW 3 h vs l)(nl:l.length<=4096)(h3:∀s∈l,s.2.1<=3)
 (aT:vp.U=true) (c:Sl h 6 v n cs) (hv:v≠.L):
 ao go 217 [.B x.s,.B [ZY (k:Int),.f tg,.f ky,vs,.f tx,vp],.f key,v] h fun u h'=>∃va vc ba,u=.B [ZY 1,.f tg,.f key,va,.f [],vc]/\h.e<=ba/\S6 2 h' va ba ((l.map (N_ x)).flatMap gG) l.length/\(∀h2,Sl h2 6 v n cs->Sl h2 6 vc n cs)/\vc.U=true/\Fr [] h h':=by
 let⟨h1,af,an,aH⟩:=aq w x.s;let⟨h2,ak,K,az⟩:=aq an.o [ZY (k:Int),.f tg,.f ky,vs,.f tx,vp];let⟨ax,ae,Z,ar⟩:=aq K.o [ZY 0,.f [],.f [],.r,.f [],.r];have n1:=x_ af;have n2:=x_ ak;have ac:=(an.c K).c Z;have ox:=Z.i (K.i aH);have op:=Z.i az;have t1:ab ax h1.e 1=some (.f tg):=op.j 1;have t3:ab ax h1.e 3=some vs:=op.j 3;have x4:aj ax h.e 0 4=some x.s:=by rw[ox.N];rfl
 refine ah ?_;simp only[b_,seval,j_,<-af,<-ak,<-ae,t1,t3,x4];refine aa (IN Z.o (a.fr ac) (r.fr ac) nl h3) ?_;rintro va h4 ⟨ba,aR,ta,F4⟩;have aJ:ab h4 h1.e 1=some (.f tg):=(F4.i op).j 1;simp only[b_,seval,j_];apply aa (IB (c.fr (ac.c F4)) hv);rintro vc _ ⟨ay,_,rfl⟩;have sc:=ay _ (c.fr (ac.c F4));simp only[b_,seval,j_,aF ta.U,aF sc.U];refine ai (c':=[ZY 1,.f tg,.f key,va,.f [],vc]) F4.o (F4.i ar) rfl (by simp only[V.s,au,aB,ta.U,sc.U];rfl) rfl ?_;rintro h5 o5 F5 n5;have l6:=o5.at6.2.2.2.2.2.2;have aN:Fr [] h h5:=(ac.c F4).z F5 w oM;simp only[b_,seval,DF,t1,aJ,t3,x4,l6];have n3:=x_ ae;exact⟨va,vc,ba,rfl,oM,ta.fr F5 oO,ay,sc.U,aN⟩
theorem _root_.Go.Ev.Gs.append1{h:a_}{B esz bytes:Nat}{v x:V}{n:Nat}(w:WF h)(a:Gs h B esz v cs)(s:Sl h esz x n xs)(he:0<esz)(hn:n≠0)(ho:aw xs=true)(hB:B<=h.e)
 (Z:(2*(cs.length+n)+1024) *bytes<=281474976710656) {K:V->a_->Prop} (k:∀v' h',Gs h' B esz v' (cs++xs)->vb v'=[h.e]->Fr (vb v) h h'->K v' h'):OQ (jQ h esz bytes v x) K:=by
 unfold jQ;rw[s.srcLen];simp;rw[fC hn,cond_false,s.srcCells];simp;obtain⟨rfl,rfl⟩|⟨b,m,rfl,hm,ak,hb,o⟩:=a;simp[uP];have:Nat.ble ((2*n+1024) *bytes) 281474976710656=true:=by rw[Yg];simpa using Z
 rw[this,cond_true];refine(cF _ _ _).2 (k _ _ (.inr ⟨h.e,n,rfl,by simpa using s.1,oM,hB,by simpa using Xc w xs⟩) rfl (WA w xs));have ae:(2*(m+n)+1024) *bytes<=(2*(cs.length+n)+1024) *bytes:=by
  apply WW _;have:m<=cs.length:=by rw[hm];exact Nat.le_mul_of_pos_right m he
  omega
 have h1:(Nat.beq esz esz&&Nat.ble ((2*(m+n)+1024) *bytes) 281474976710656)=true:=by simp;omega
 simp only[h1,cond_true,o.J_];have af:(m+n) *esz=m*esz+n*esz:=Yi _ _ _;have ac:0<n*esz:=ZQ oM he;rw[BU (oM:¬0+(m+n) *esz<=cs.length),cond_false];have h2:(Nat.ble (0+m*esz) cs.length&&aw xs)=true:=by simp only[ho,Bool.and_true,Yg];omega
 simp only[h2,cond_true,fY,bN cs (m*esz) oM];let⟨h',e,o',f⟩:=wc (pos:=0+m*esz) (c':=cs.take (m*esz)++xs) w o;rw[e];simp;refine(cF _ _ _).2 (k _ _ (.inr ⟨h.e,m+n,rfl,by simp[s.1];omega,oM,hB,?_⟩) rfl f);rwa[Wj oM]at o'
inductive ST where
 |Y0
 |V7 (kind:Nat) (tag key:g_) (attrs:List (g_×g_)) (text:g_) (sub next:ST)
namespace ST
def X0:ST->ST->ST
 |Y0,t=>t
 |V7 k tg ky a tx sub nx,t=>V7 k tg ky a tx sub (nx.X0 t)
theorem Z7:∀t:ST,t.X0 Y0=t
 |Y0=>rfl
 |V7 _ _ _ _ _ _ nx=>by simp[X0,Z7 nx]
theorem X1:∀a b c:ST,(a.X0 b).X0 c=a.X0 (b.X0 c)
 |Y0,_,_=>rfl
 |V7 _ _ _ _ _ _ nx,b,c=>by simp[X0,X1 nx b c]
def f?:ST->Nat
 |Y0=>0
 |V7 _ _ _ _ _ _ nx=>nx.f?+1
def keys:ST->List g_
 |Y0=>[]
 |V7 _ _ ky _ _ _ nx=>ky::nx.keys
def alone(k:Nat)(tg ky:g_)(at':List (g_×g_))(tx:g_)(sub:ST):Bool:=
 if k=2 then P8 tx&&(tg==[]&&(ky==[]&&(decide (at'.length=0)&&decide (sub.f?=0))))
 else decide (k=1)&&(G_ tg&&((ky==[]||G_ ky)&&(tx==[]&&(decide (at'.length<=8)&&(decide (sub.f?<=16)&&(dS none at'&&gK [] sub.keys))))))
def B?(k:Nat)(tg ky:g_)(at':List (g_×g_))(tx:g_)(sub:ST)(w:Nat->Nat->Nat×Bool)(l c:Nat):Nat×Bool:=
 if 6<l\/64<c+1\/alone k tg ky at' tx sub=false then(c+1,false)else w (l+1) (c+1)
def Z8:ST->Nat->Nat->Nat×Bool
 |Y0,_,c=>(c,true)
 |V7 k tg ky at' tx sub nx,l,c=>let r:=B? k tg ky at' tx sub sub.Z8 l c;if r.2=true then nx.Z8 l r.1 else r
def V2(k:Nat)(tg ky:g_)(at':List (g_×g_))(tx:g_)(sub:ST):Nat:=
 if(B? k tg ky at' tx sub sub.Z8 1 0).2=true then(B? k tg ky at' tx sub sub.Z8 1 0).1 else 0
end ST
namespace NT
def sh:NT->ST
 |D_=>.Y0
 |z_ k tg ky a tx _ _ sub nx=>.V7 k tg ky a tx sub.sh nx.sh
def d?:NT->NT->NT
 |D_,t=>t
 |z_ k tg ky a tx va vc sub nx,t=>z_ k tg ky a tx va vc sub (nx.d? t)
theorem Y4:∀a b:NT,(a.d? b).sh=a.sh.X0 b.sh
 |D_,_=>rfl
 |z_ _ _ _ _ _ _ _ _ nx,b=>by simp[d?,sh,ST.X0,Y4 nx b]
theorem G?:∀a b:NT,(a.d? b).y_=a.y_+b.y_
 |D_,b=>by simp[d?,y_]
 |z_ _ _ _ _ _ _ _ _ nx,b=>by simp[d?,y_,G? nx b];omega
theorem D?:∀a b:NT,(a.d? b).J_=a.J_++b.J_
 |D_,_=>rfl
 |z_ _ _ _ _ _ _ _ _ nx,b=>by simp[d?,J_,D? nx b]
theorem e?:∀t:NT,t.sh.f?=t.y_
 |D_=>rfl
 |z_ _ _ _ _ _ _ _ _ nx=>by simp[sh,y_,ST.f?,e? nx]
theorem p?:∀t:NT,t.sh.keys=t.P2
 |D_=>rfl
 |z_ _ _ _ _ _ _ _ _ nx=>by simp[sh,P2,ST.keys,p? nx]
theorem yZ(k:Nat)(tg ky:g_)(at':List (g_×g_))(tx:g_)(sub:NT):ST.alone k tg ky at' tx sub.sh=iQ k tg ky at' tx sub:=by simp[ST.alone,iQ,e?,p?]
theorem xI:∀(t:NT)(l c:Nat),t.sh.Z8 l c=t.P_ l c
 |D_,_,_=>rfl
 |z_ k tg ky at' tx _ _ sub nx,l,c=>by
  have e1:ST.B? k tg ky at' tx sub.sh sub.sh.Z8 l c=Q_ k tg ky at' tx sub sub.P_ l c:=by unfold ST.B? Q_;rw[yZ,xI sub]
  show(let r:=ST.B? k tg ky at' tx sub.sh sub.sh.Z8 l c;if r.2=true then nx.sh.Z8 l r.1 else r)=_;rw[e1];simp only[P_,xI nx]
theorem sh_count(k:Nat)(tg ky:g_)(at':List (g_×g_))(tx:g_)(sub:NT):ST.V2 k tg ky at' tx sub.sh=R7 k tg ky at' tx sub:=by
 have Z:ST.B? k tg ky at' tx sub.sh sub.sh.Z8 1 0=Q_ k tg ky at' tx sub sub.P_ 1 0:=by unfold ST.B? Q_;rw[yZ,xI sub]
 unfold ST.V2 R7;rw[Z]
end NT
theorem NH.X0{h:a_}:∀{a b:NT},NH h a->NH h b->NH h (a.d? b)
 |.D_,_,_,q=>q
 |.z_ _ _ _ _ _ _ _ _ _,_,⟨x1,x2,x3,x4,x5,x6,x7⟩,q=>⟨x1,x2,x3,x4,x5,x6,NH.X0 x7 q⟩
def iy(z:g_):ST:=.V7 2 [] [] [] z .Y0 .Y0
def kE(tg:g_)(a:List (g_×g_)):List g_->ST
 |[]=>.Y0
 |m::ms=>.V7 1 tg m a [] (iy m) (kE tg a ms)
def nV(x:m_)(k:Nat)(tg ky:g_)(sl:List Q3)(tx:g_)(sub:ST):ST:=
 if k=1 then .V7 1 tg ky (sl.map (N_ x)) [] sub .Y0
 else if k=2 then iy tx
 else if k=3 then iy x.X
 else if k=4 then iy (W8 x.J)
 else if k=5 then kE tg (sl.map (N_ x)) x.C
 else .Y0
def bZ(x:m_):PT->ST
 |.w_=>.Y0
 |.o_ k tg ky sl tx _ _ sub nx=>(nV x k tg ky sl tx (bZ x sub)).X0 (bZ x nx)
def TG:PT->Prop
 |.w_=>True
 |.o_ _ _ _ sl _ _ _ sub nx=>(∀s∈sl,s.2.1<=3)/\sub.t_<=16/\TG sub/\TG nx
theorem TG.Z5:∀{t:PT}(i:Nat),TG t->TG (t.Z5 i)
 |.w_,0,_=>trivial
 |.w_,_+1,_=>trivial
 |.o_ _ _ _ _ _ _ _ _ _,0,a=>a
 |.o_ _ _ _ _ _ _ _ _ _,i+1,⟨_,_,_,g⟩=>TG.Z5 i g
theorem Ar(tg:g_)(a:List (g_×g_)):∀ms:List g_,(kE tg a ms).f?=ms.length
 |[]=>rfl
 |m::ms=>by simp[kE,ST.f?,Ar tg a ms]
theorem J1(x:m_)(k:Nat)(tg ky:g_)(sl:List Q3)(tx:g_)(sub:ST)(Z:x.C.length<=8):(nV x k tg ky sl tx sub).f?<=8:=by unfold nV;split;simp[ST.f?];split;simp[iy,ST.f?];split;simp[iy,ST.f?];split;simp[iy,ST.f?];split;rw[Ar];exact Z;simp[ST.f?]
def c?(v:V)(n0:Nat)(h:a_)(s:NT):Prop:=∀(X:List Nat)(h':a_),(∀x∈X,x<n0\/x∈vb v)->Fr X h h'->NH h' s
theorem c?.fr{v:V}{h:a_}{s:NT}(I:c? v n0 h s)(w:WF h)(f:Fr [] h h'):c? v n0 h' s:=fun X h2 hx f2=>
 I X h2 hx (Wp f f2 w iS (fun x hx=>.inl hx))
theorem c?.nh{v:V}{h:a_}{s:NT}(I:c? v n0 h s)(w:WF h):NH h s:=I [] h iS (Wl w)
theorem mw{h:a_}{B k:Nat}{vo:V}{s sub:NT}{ky:g_}{at':List (g_×g_)}{va vc:V}{K:V->a_->Prop}(w:WF h)(g:Gs h B 6 vo s.J_)(hB:B<=h.e)(h0:n0<=h.e)(I:c? vo n0 h s)
 (N:∀(X:List Nat)(Z:a_),(∀x∈X,x<n0\/x∈vb vo)->Fr X h Z->NH Z (.z_ k tg ky at' tx va vc sub .D_)) (hl:s.y_<=1000)
 (hk:∀v' Z,Gs Z B 6 v' (s.d? (.z_ k tg ky at' tx va vc sub .D_)).J_->c? v' n0 Z (s.d? (.z_ k tg ky at' tx va vc sub .D_))->Fr (vb vo) h Z->(∀y∈vb v',h.e<=y)->K v' Z):
 OQ (jQ (h_ h [ZY (k:Int),.f tg,.f ky,va,.f tx,vc]) 6 104 vo (.y h.e 0 1 1)) K:=by
 have n1:=N [] h iS (Wl w);have on:=NH.ones n1;have F1:=WA w [ZY (k:Int),.f tg,.f ky,va,.f tx,vc];have o1:=Xc w [ZY (k:Int),.f tg,.f ky,va,.f tx,vc];have cl:=s.R6;have ae:∀x∈vb vo,x<h.e:=by obtain⟨rfl,_⟩|⟨b,n,rfl,_,_,_,o⟩:=g;simp[vb];have:=o.lt w;simp only[vb,Wi];rintro x rfl;exact this
 refine Gs.append1 (n:=1) F1.o (g.fr F1) (Xy o1 rfl) oM oM on (Wy hB F1.e) (by rw[cl];omega) ?_;intro v' Z g' e' F';have F:Fr (vb vo) h Z:=Wp F1 F' w iS (fun x hx=>.inl hx);refine hk v' Z ?_ ?_ F (by rw[e'];simp only[Wi];rintro y rfl;exact F1.e);rw[NT.D?];exact g';intro X h2 hX f2;have f3:Fr (vb vo++X.filter (fun x=>decide (x<n0))) h h2:=by refine Wp F f2 w (fun x hx=>.inl iX) (fun x hx=>?_);obtain q|q:=hX x hx;grind;rw[e']at q;simp at q;exact .inr (by subst q;exact F1.e)
 have ac:∀x∈vb vo++X.filter (fun x=>decide (x<n0)),x<n0\/x∈vb vo:=by grind
 exact NH.X0 (I _ h2 ac f3) (N _ h2 ac f3)
def MK(t:PT):Prop:=∀(x:m_)(h:a_)(v:V),WF h->u_ h x->x.C.length<=8->PH h t->TG t->t.t_<=16->Sl h 6 v t.t_ t.P0->
 ao go 161 [.B x.s,v] h fun u h'=>∃s:NT,s.sh=bZ x t/\Fr [] h h'/\u≠.L/\s.y_<=128/\∀(X:List Nat)(h2:a_),(∀y∈X,y<h.e)->Fr X h' h2->NH h2 s/\Sl h2 6 u s.y_ s.J_
def MKs:PT->Prop
 |.w_=>True
 |.o_ _ _ _ _ _ _ _ sub nx=>MK sub/\MKs nx
theorem MKs.Z5:∀{t:PT}(i:Nat),MKs t->MKs (t.Z5 i)
 |.w_,0,_=>trivial
 |.w_,_+1,_=>trivial
 |.o_ _ _ _ _ _ _ _ _ _,0,a=>a
 |.o_ _ _ _ _ _ _ _ _ _,i+1,⟨_,g⟩=>MKs.Z5 i g
theorem Gs.nE{h:a_}{B e:Nat}{v:V}(g:Gs h B e v cs):v≠.L:=by obtain⟨rfl,_⟩|⟨b,n,rfl,_⟩:=g<;>simp
theorem Gs.frX{h:a_}{B e:Nat}{v:V}(g:Gs h B e v cs)(f:Fr X h h')(hx:∀x∈X,x<B):Gs h' B e v cs:=by obtain⟨rfl,rfl⟩|⟨b,n,rfl,Z,K,h3,o⟩:=g;exact .inl ⟨rfl,rfl⟩;exact .inr ⟨b,n,rfl,Z,K,h3,f.I _ _ (fun m=>by have:=hx _ m;omega) o⟩
theorem A1{v:V}{h:a_}(z:g_):∀(X:List Nat)(h':a_),(∀x∈X,x<n0\/x∈vb v)->Fr X h h'->NH h' (.z_ 2 [] [] [] z .r .r .D_ .D_):=fun _ _ _ _=>mB 2 oM [] z
theorem CL{t:PT}(M:MKs t):MK t:=by
 intro x h v w a hm pt tg hl sl;let⟨h1,aT,ar,a9⟩:=aq w x.s;have n1:=x_ aT;refine ah ?_;simp only[b_,seval,<-aT,sl.t_];refine aA (fun n env hh=>Fr [] h hh/\Fr [] h1 hh/\∃(i:Nat)(s:NT)(vo:V),env.c_ 12=some (ZZ i)/\env.c_ 11=some (ZZ t.t_)/\env.c_ 10=some v/\env.c_ 5=some vo/\env.c_ 2=some (.u h.e 0)/\
  i<=t.t_/\c? vo h.e hh s/\Gs hh h1.e 6 vo s.J_/\s.sh.X0 (bZ x (t.Z5 i))=bZ x t/\s.y_<=8*i/\n=t.t_-i) t.t_ oM ?_ ?_
 ·exact⟨ar,Wl ar.o,0,.D_,.r,iS,iS,iS,iS,iS,oM,fun _ _ _ _=>trivial,.inl ⟨rfl,rfl⟩,by cases t<;>rfl,by simp[NT.y_],rfl⟩
 ·rintro n env hh ⟨F,F1,i,s,vo,g12,g11,bz,g5,g2,hi,I,G,e,sn,rfl⟩;by_cases bt:i<t.t_
  ·have bB:(i:Int)<t.t_:=oM
   let⟨k,ak,ky,ae,tx,vs,vp,sub,nx,e1,e2,e3,e4,e5,e6⟩:=t.N? i bt;have bv:=pt.Z5 i;have bw:=tg.Z5 i;have Mi:=M.Z5 i;rw[e1]at bv bw Mi e;let⟨pk,pr,pl,ps,pn,bE,_⟩:=bv;let⟨t3,tl,bT,_⟩:=bw;let⟨b',o',p1,p2⟩:=(sl.fr F).ix6 bt e2;have on:aw [ZY (k:Int),.f ak,.f ky,vs,.f tx,vp]=true:=by
    simp only[au,aB,Xs pr,Xs ps];rfl
   have co:∀y∈vb vo,y<hh.e:=by
    obtain⟨rfl,_⟩|⟨b,n,rfl,_,_,_,o⟩:=G
    ·simp[vb]
    ·have:=o.lt F.o;simp only[vb,Wi];rintro y rfl;exact this
   let⟨h3,bm,a0,bu⟩:=aq F.o [ZY 0,.f [],.f [],.r,.f [],.r];simp only[b_,seval,g12,g11,bz,bB,p1,p2.2.2.2.2.2.2,<-bm];refine ai (c':=[ZY (k:Int),.f ak,.f ky,vs,.f tx,vp]) a0.o bu rfl on rfl ?_;rintro h4 o4 F4 n4;have K:Fr [] hh h4:=a0.z F4 F.o (VZ _);have q4:=o4.at6;have ox:=K.i (F1.i a9);have x4:aj h4 h.e 0 4=some x.s:=by rw[ox.N];rfl
   have cO:hh.e<=h4.e:=K.e;have cB:=F1.e;simp[bZ]at e;have fin:∀{ac:T V}{s2:NT}{v2:V}{h5:a_},Fr [] h h5->Fr [] h1 h5->ac.c_ 12=some (ZZ ((i:Int)+1))->ac.c_ 11=some (ZZ t.t_)->ac.c_ 10=some v->ac.c_ 5=some v2->ac.c_ 2=some (.u h.e 0)->
    c? v2 h.e h5 s2->Gs h5 h1.e 6 v2 s2.J_->s2.sh=s.sh.X0 (nV x k ak ky ae tx (bZ x sub))->
    ∃k',k'<t.t_-i/\Fr [] h h5/\Fr [] h1 h5/\∃(i:Nat)(s:NT)(vo:V),ac.c_ 12=some (ZZ i)/\ac.c_ 11=some (ZZ t.t_)/\ac.c_ 10=some v/\ac.c_ 5=some vo/\ac.c_ 2=some (.u h.e 0)/\
     i<=t.t_/\c? vo h.e h5 s/\Gs h5 h1.e 6 vo s.J_/\s.sh.X0 (bZ x (t.Z5 i))=bZ x t/\s.y_<=8*i/\k'=t.t_-i:=by
    intro ac s2 v2 h5 f f1 a1 a2 a3 a4 a5 I2 G2 es;have ol:=J1 x k ak ky ae tx (bZ x sub) hm;refine⟨t.t_-(i+1),oM,f,f1,i+1,s2,v2,a1,a2,a3,a4,a5,oM,I2,G2,?_,?_,rfl⟩
    ·rw[es,e3,ST.X1];exact e
    ·rw[<-NT.e?,es];have:∀a b:ST,(a.X0 b).f?=a.f?+b.f?:=by
      intro a b;induction a with
      |Y0=>simp[ST.X0,ST.f?]
      |V7 _ _ _ _ _ _ nx _ ih=>simp[ST.X0,ST.f?,ih];omega
     rw[this,NT.e?];omega
   have l0:ab h4 hh.e 0=some (ZY (k:Int)):=q4.1;have ay:∀y∈vb vo,h1.e<=y:=by
    obtain⟨rfl,_⟩|⟨b,n,rfl,_,_,hb,o⟩:=G
    ·simp[vb]
    ·simp only[vb,Wi];rintro y rfl;exact hb
   have F0:Fr [] h h4:=F.c K;have aH:Fr [] h1 h4:=F1.c K;have aN:=a.fr F0;by_cases k1:k=1
   ·have ek:nV x k ak ky ae tx (bZ x sub)=.V7 1 ak ky (ae.map (N_ x)) [] (bZ x sub) .Y0:=by subst k1;rfl
    have l2:ab h4 hh.e 2=some (.f ky):=q4.2.2.1;have l5:ab h4 hh.e 5=some vp:=q4.2.2.2.2.2.1;have l6:=q4.2.2.2.2.2.2;simp only[b_,seval,j_,g5,g2,l0,eq_true (oM:(k:Int)=1),x4,l6,l2,l5];refine aa (Mi.1 x h4 vp K.o aN hm (bE.fr F0) bT tl (ps.fr F0)) ?_;rintro u h5 ⟨s5,ci,Z,uE,c0,bk⟩;have cn:=bk [] h5 iS (Wl Z.o);have x5:aj h5 h.e 0 4=some x.s:=by rw[(Z.i ox).N];rfl
    have r5:=(Z.i o4).at6;have m2:ab h5 hh.e 2=some (.f ky):=r5.2.2.1;have m6:=r5.2.2.2.2.2.2;simp only[b_,j_];refine aa (uk Z.o (aN.fr Z) (Xn pr (F0.c Z)) pl t3 (Xs ps) cn.2 uE) ?_;rintro _ h6 ⟨va,vc,ba,rfl,cr,ta,bg,cy,F6⟩;simp only[b_,seval,j_];have cl:=Z.e;refine mw (k:=1) (sub:=s5) (at':=ae.map (N_ x)) F6.o (G.fr ((K.c Z).c F6)) (by have:=F6.e;omega) (by have:=F6.e;omega) (I.fr F.o ((K.c Z).c F6)) ?_ oM ?_
    ·intro X h' hX f;have aR:∀y∈X,y<h4.e:=fun y hy=>by grind
     let⟨z1,z2⟩:=bk X h' aR (Wp F6 f Z.o iS (fun y hy=>.inl hy));refine⟨oM,?_,by simpa using pl,bg _ z2,oM,z1,trivial⟩;have:=(ta.fr f (fun m=>by have:=aR _ m;omega)).sl;show Sl h' 2 va (ae.map (N_ x)).length _;rw[Xd];exact this
    intro v' h' G' I' F' V';simp(disch:=omega) only[b_,seval,DF,j_,ag,g12,g2,x4,l6,l2,l5,x5,m6,m2];refine s_ ?_;exact fin (XD w ((F0.c Z).c F6) F' (fun y hy=>by have:=ay y hy;omega)) (XD ar.o ((aH.c Z).c F6) F' ay) iS iX iX iS iX I' G' (by rw[ek,<-ci];exact NT.Y4 _ _)
    done
   by_cases k2:k=2
   ·have ek:nV x k ak ky ae tx (bZ x sub)=iy tx:=by subst k2;rfl
    simp only[b_,seval,g5,l0,(oM:¬(k:Int)=1),eq_true (oM:(k:Int)=2),q4.2.2.2.2.1];refine aa (oU K.o) ?_;rintro _ h5 ⟨rfl,Z⟩;simp only[b_,seval];refine mw (k:=2) Z.o (G.fr (K.c Z)) (by have:=Z.e;omega) (by have:=Z.e;omega) (I.fr F.o (K.c Z)) (A1 _) oM ?_;intro v' h' G' I' F' V';simp(disch:=omega) only[b_,seval,ag,g12];refine s_ ?_;exact fin (XD w (F0.c Z) F' (fun y hy=>by have:=ay y hy;omega)) (XD ar.o (aH.c Z) F' ay) iS iX iX iS iX I' G' (by rw[ek];exact NT.Y4 _ _)
    done
   by_cases k3:k=3
   ·have ek:nV x k ak ky ae tx (bZ x sub)=iy x.X:=by subst k3;rfl
    simp only[b_,seval,g5,g2,l0,(oM:¬(k:Int)=1),(oM:¬(k:Int)=2),eq_true (oM:(k:Int)=3),show ab h4 h.e 2=some (.f x.X)from ox.j 2];refine aa (oU K.o) ?_;rintro _ h5 ⟨rfl,Z⟩;simp only[b_,seval];refine mw (k:=2) Z.o (G.fr (K.c Z)) (by have:=Z.e;omega) (by have:=Z.e;omega) (I.fr F.o (K.c Z)) (A1 _) oM ?_;intro v' h' G' I' F' V';simp(disch:=omega) only[b_,seval,ag,g12];refine s_ ?_;exact fin (XD w (F0.c Z) F' (fun y hy=>by have:=ay y hy;omega)) (XD ar.o (aH.c Z) F' ay) iS iX iX iS iX I' G' (by rw[ek];exact NT.Y4 _ _)
    done
   by_cases k4:k=4
   ·have ek:nV x k ak ky ae tx (bZ x sub)=iy (W8 x.J):=by subst k4;rfl
    simp only[b_,seval,g5,g2,l0,(oM:¬(k:Int)=1),(oM:¬(k:Int)=2),(oM:¬(k:Int)=3),eq_true (oM:(k:Int)=4),show ab h4 h.e 0=some (ZX (x.J:Int))from ox.j 0];refine aa (oP K.o a.k) ?_;rintro _ cU ⟨rfl,bC⟩;simp only[b_];refine aa (oU bC.o) ?_;rintro _ h5 ⟨rfl,ch⟩;have Z:=bC.c ch;simp only[b_,seval];refine mw (k:=2) Z.o (G.fr (K.c Z)) (by have:=Z.e;omega) (by have:=Z.e;omega) (I.fr F.o (K.c Z)) (A1 _) oM ?_;intro v' h' G' I' F' V';simp(disch:=omega) only[b_,seval,ag,g12];refine s_ ?_;exact fin (XD w (F0.c Z) F' (fun y hy=>by have:=ay y hy;omega)) (XD ar.o (aH.c Z) F' ay) iS iX iX iS iX I' G' (by rw[ek];exact NT.Y4 _ _)
    done
   by_cases k5:k=5
   ·have ek:nV x k ak ky ae tx (bZ x sub)=kE ak (ae.map (N_ x)) x.C:=by subst k5;rfl
    have l3:ab h4 h.e 3=some x.vm:=ox.j 3;simp only[b_,seval,g2,l0,(oM:¬(k:Int)=1),(oM:¬(k:Int)=2),(oM:¬(k:Int)=3),(oM:¬(k:Int)=4),eq_true (oM:(k:Int)=5),l3,a.m.t_];refine aA (fun n af an=>Fr [] h an/\Fr [] h1 an/\e_ an hh.e [ZY (k:Int),.f ak,.f ky,vs,.f tx,vp]/\h4.e<=an.e/\∃(j:Nat)(s':NT)(v2:V),af.c_ 65=some (ZZ j)/\af.c_ 64=some (ZZ x.C.length)/\af.c_ 63=some x.vm/\af.c_ 7=some (.u hh.e 0)/\
     af.c_ 12=some (ZZ i)/\af.c_ 11=some (ZZ t.t_)/\af.c_ 10=some v/\af.c_ 5=some v2/\af.c_ 2=some (.u h.e 0)/\j<=x.C.length/\hh.e∉vb v2/\c? v2 h.e an s'/\Gs an h1.e 6 v2 s'.J_/\
     s'.sh.X0 (kE ak (ae.map (N_ x)) (x.C.drop j))=s.sh.X0 (kE ak (ae.map (N_ x)) x.C)/\s'.y_<=8*i+j/\n=x.C.length-j) x.C.length oM ?_ ?_
    ·exact⟨F0,aH,o4,VZ _,0,s,vo,iS,iS,iS,iS,iX,iX,iX,iX,iX,oM,fun m=>by(have:=co _ m;omega),I.fr F.o K,G.fr K,rfl,oM,rfl⟩
    ·rintro n' af an ⟨az,bh,oj,dc,j,s',v2,bj,bn,cb,g7,g12,g11,bz,g5,g2,hj,ca,I2,G2,ej,c6,rfl⟩;have bi:=bh.i a9;by_cases cA:j<x.C.length
     ·have a8:(j:Int)<x.C.length:=oM
      let⟨b3,cq,mk,r1,r2,_,r4⟩:=(a.m.fr az).ix fW .i64 (j:Int) oM a8;have cu:ab an b3 cq=some (.f mk):=r2 0 oM;rw[pi]at r4;rw[aL r4]at ej;have bf:∀y∈vb v2,h1.e<=y:=by
       obtain⟨rfl,_⟩|⟨b,n,rfl,_,_,hb,o⟩:=G2
       ·simp[vb]
       ·simp only[vb,Wi];rintro y rfl;exact hb
      have cz:∀y∈vb v2,y<an.e:=by
       obtain⟨rfl,_⟩|⟨b,n,rfl,_,_,_,o⟩:=G2
       ·simp[vb]
       ·have:=o.lt az.o;simp only[vb,Wi];rintro y rfl;exact this
      have ja:aj an h.e 0 4=some x.s:=by rw[bi.N];rfl
      have jp:=oj.at6.2.2.2.2.2.2;simp only[b_,seval,j_,bj,bn,cb,g7,g5,g2,a8,r1,cu,ja,jp];refine aa (oU az.o) ?_;rintro _ h5 ⟨rfl,Z⟩;let⟨h6,a6,ax,a7⟩:=aq Z.o [ZY 2,.f [],.f [],.r,.f mk,.r];have n6:=x_ a6;have cx:aj h5 h.e 0 4=some x.s:=by rw[(Z.i bi).N];rfl
      have ct:=(Z.i oj).at6.2.2.2.2.2.2;have cg:aj h6 h.e 0 4=some x.s:=by rw[(ax.i (Z.i bi)).N];rfl
      have cc:=(ax.i (Z.i oj)).at6.2.2.2.2.2.2;simp only[b_,seval,j_,<-a6];have bA:=(az.c Z).c ax;have cj:Sl h6 6 (.y h5.e 0 1 1) 1 (NT.z_ 2 [] [] [] mk .r .r .D_ .D_).J_:=Xy a7 rfl;refine aa (uk ax.o (a.fr bA) (Xn pr bA) pl t3 (Xs ps) cj iS) ?_;rintro _ h7 ⟨va,vc,ba,rfl,cr,ta,bg,cy,F7⟩;simp only[b_,seval,j_];have cl:=Z.e;have da:=F7.e;have aJ:=(Z.c ax).c F7;refine mw (k:=1) (sub:=.z_ 2 [] [] [] mk .r .r .D_ .D_) (at':=ae.map (N_ x)) F7.o (G2.fr aJ) oM oM (I2.fr az.o aJ) ?_ oM ?_
      ·intro X h' hX f;have aR:∀y∈X,y<an.e:=fun y hy=>by grind
       have f2:Fr X h6 h':=Wp F7 f ax.o iS (fun y hy=>.inl hy);have o':=f2.I _ _ (fun m=>by have:=aR _ m;omega) a7;refine⟨oM,?_,by simpa using pl,bg _ (Xy o' rfl),by simp[NT.y_],mB 2 oM [] mk,trivial⟩;have:=(ta.fr f (fun m=>by have:=aR _ m;omega)).sl;show Sl h' 2 va (ae.map (N_ x)).length _;rw[Xd];exact this
      intro v' h' G' I' F' V';simp(disch:=omega) only[b_,seval,DF,j_,ag,bj,g7,g2,ja,jp,cx,ct,cg,cc];refine s_ ⟨x.C.length-(j+1),oM,XD w (az.c aJ) F' (fun y hy=>by have:=bf y hy;omega),XD ar.o (bh.c aJ) F' bf,F'.I _ _ ca (aJ.i oj),by have:=F'.e;omega,j+1,_,v',iS,iX,iX,iX,iX,iX,iX,iS,iX,oM,fun m=>by(have:=V' _ m;omega),I',G',?_,?_,rfl⟩
      ·rw[NT.Y4,ST.X1];exact ej
      ·rw[NT.G?];simp only[NT.y_];omega
     ·simp(disch:=omega) only[b_,seval,ag,bj,bn,g12,(oM:¬(j:Int)<x.C.length)];rw[Wo oM]at ej;simp[kE,ST.Z7]at ej;refine s_ ?_;exact fin az bh iS iX iX iX iX I2 G2 (by rw[ek];exact ej)
      done
   have ek:nV x k ak ky ae tx (bZ x sub)=.Y0:=by unfold nV;simp[k1,k2,k3,k4,k5]
   simp(disch:=omega) only[b_,seval,ag,g12,l0,(oM:¬(k:Int)=1),(oM:¬(k:Int)=2),(oM:¬(k:Int)=3),(oM:¬(k:Int)=4),(oM:¬(k:Int)=5)];refine s_ ?_;exact fin F0 aH iS iX iX iX iX (I.fr F.o K) (G.fr K) (by rw[ek,ST.Z7])
   done
  ·simp only[b_,seval,g12,g11,g5,(oM:¬(i:Int)<t.t_)];rw[PT.t? _ _ oM]at e;simp[bZ,ST.Z7]at e;refine⟨s,e,F,Gs.nE G,oM,fun X h2 hX f2=>⟨I X h2 (fun y hy=>.inl (hX y hy)) f2,(Gs.frX G f2 (fun y hy=>by have:=hX y hy;omega)).sl s.R6 oM⟩⟩
theorem mks:∀t:PT,MKs t
 |.w_=>trivial
 |.o_ _ _ _ _ _ _ _ sub nx=>⟨CL (mks sub),mks nx⟩
theorem xG:∀(p:Option g_)(l:List Q3),eW p l=true→∀s∈l,s.2.1≤3
 |_,[],_,s,m=>by simp at m
 |p,a::l,e,s,m=>by rw[kL,Bool.and_eq_true]at e;obtain rfl|m:=List.mem_cons.1 m;have:=e.1;simp only[iW,Bool.and_eq_true,decide_eq_true_eq]at this;exact this.2.1;exact xG _ l e.2 s m
theorem tD{k:Nat}{ky:g_}{sl:List Q3}{n:Nat}(h:dX k tg ky sl tx n=true):(∀s∈sl,s.2.1<=3)/\n<=16:=by unfold dX at h;by_cases Z:k=1;rw[if_pos Z]at h;simp only[VY,decide_eq_true_eq,cJ]at h;exact⟨xG _ _ h.2.2.2.1.2,h.2.1⟩;rw[if_neg Z]at h;by_cases K:k=5;rw[if_pos K]at h;simp only[VY,decide_eq_true_eq,cJ]at h;exact⟨xG _ _ h.2.1.2,oM⟩;rw[if_neg K]at h;by_cases k2:k=2;grind;rw[if_neg k2]at h;by_cases ac:k=3\/k=4;grind;grind
theorem xw:∀(t:PT)(l c:Nat),(t.P3 l c).2=true→TG t
 |.w_,_,_,_=>trivial
 |.o_ k tg ky sl tx _ _ sub nx,l,c,h=>by
  simp only[PT.P3]at h;by_cases q:(PT.R3 k tg ky sl tx sub sub.P3 l c).2=true;rw[if_pos q]at h;have g:=xw nx _ _ h;unfold PT.R3 at q;by_cases x:6<l∨64<c+1∨dX k tg ky sl tx sub.t_=false;grind;rw[if_neg x]at q;have pb:dX k tg ky sl tx sub.t_=true:=by grind
  exact⟨(tD pb).1,(tD pb).2,xw sub _ _ q,g⟩;grind
theorem Iy{k:Nat}{ky:g_}{sl:List Q3}(va vc:V)(h:PT.S4 k tg ky sl tx sub≠0):k=1/\TG (.o_ k tg ky sl tx va vc sub .w_):=by unfold PT.S4 at h;split at h;rename_i q;refine⟨q.1,xw (.o_ k tg ky sl tx va vc sub .w_) 1 0 ?_⟩;simp[PT.P3];rw[if_pos q.2];exact absurd rfl h
theorem NT.sh_one{s:NT}{k:Nat}{ky:g_}{a:List (g_×g_)}{sub:ST}(e:s.sh=.V7 k tg ky a tx sub .Y0):∃va vc s',s=.z_ k tg ky a tx va vc s' .D_/\s'.sh=sub:=by
 cases s with
 |D_=>cases e
 |z_ k' tg' ky' a' tx' va vc s' nx=>
  simp only[NT.sh]at e;cases nx with
  |D_=>cases e;exact⟨va,vc,s',rfl,rfl⟩
  |z_ _ _ _ _ _ _ _ _ _=>cases e
def fL(k:Nat)(tg ky:g_)(sl:List Q3)(tx:g_)(sub:PT)(x:m_)(most:Int):Int:=
 if most<1\/64<most then 1
 else if PT.S4 k tg ky sl tx sub=0 then 14
 else if iG x=false then 6
 else if ST.V2 1 tg ky (sl.map (N_ x)) [] (bZ x sub)=0\/most<(ST.V2 1 tg ky (sl.map (N_ x)) [] (bZ x sub):Nat)then 14
 else 0
abbrev Z6:List V:=[ZY 0,.f [],.f [],.r,.f [],.r]
theorem v7{h:a_}{k:Nat}{ky:g_}{sl:List Q3}{x:m_}{Z:Int}(w:WF h)(n:PH h (.o_ k tg ky sl tx vs vp sub .w_))(a:u_ h x):
 ao go 105 [.B [ZY (k:Int),.f tg,.f ky,vs,.f tx,vp],.B x.s,ZZ Z] h fun u h'=>∃cs,u=.D [.B cs,ZZ (fL k tg ky sl tx sub x Z)]/\Fr [] h h'/\
  (fL k tg ky sl tx sub x Z≠0->cs=Z6)/\(fL k tg ky sl tx sub x Z=0->∃(s:NT)(va vc:V),cs=[ZY 1,.f tg,.f ky,va,.f [],vc]/\(∀(X:List Nat)(h2:a_),(∀y∈X,y<h.e)->Fr X h' h2->NH h2 (.z_ 1 tg ky (sl.map (N_ x)) [] va vc s .D_))/\s.sh=bZ x sub):=by
 let⟨h1,ak,a0,bi⟩:=aq w [ZY (k:Int),.f tg,.f ky,vs,.f tx,vp];let⟨h2,ar,az,a9⟩:=aq a0.o x.s;let⟨h3,an,K,ac⟩:=aq az.o [ZY 0,.f [],.f [],.r,.f [],.r];have n1:=x_ ak;have n2:=x_ ar;have aN:=(a0.c az).c K;have op:=K.i (az.i bi);have ox:=K.i a9;have p6:=op.at6.2.2.2.2.2.2;have x4:aj h3 h1.e 0 4=some x.s:=by rw[ox.N];rfl
 have bad:∀{h4 h5:a_}{e:Int}{c0:List V},fL k tg ky sl tx sub x Z=e->e≠0->Fr [] h h4->e_ h4 h2.e c0->Fr [h2.e] h4 h5->∃cs,V.D [.B Z6,ZZ e]=.D [.B cs,ZZ (fL k tg ky sl tx sub x Z)]/\Fr [] h h5/\
  (fL k tg ky sl tx sub x Z≠0->cs=Z6)/\(fL k tg ky sl tx sub x Z=0->∃(s:NT)(va vc:V),cs=[ZY 1,.f tg,.f ky,va,.f [],vc]/\(∀(X:List Nat)(h2:a_),(∀y∈X,y<h.e)->Fr X h5 h2->NH h2 (.z_ 1 tg ky (sl.map (N_ x)) [] va vc s .D_))/\s.sh=bZ x sub):=by
  intro h4 h5 e c0 q ne f _ f2;subst q;exact⟨Z6,rfl,f.z f2 w oM,fun _=>rfl,fun q=>absurd q ne⟩
 by_cases m1:Z<1;refine ah ?_;simp only[b_,seval,<-ak,<-ar,<-an,m1];refine B_ K.o ac ?_;rintro h4 o4 F4 n4;simp only[b_,seval,o4.at6.2.2.2.2.2.2];exact bad (if_pos (.inl m1)) oM aN ac F4;by_cases m2:(64:Int)<Z;refine ah ?_;simp only[b_,seval,<-ak,<-ar,<-an,m1,m2];refine B_ K.o ac ?_;rintro h4 o4 F4 n4;simp only[b_,seval,o4.at6.2.2.2.2.2.2];exact bad (if_pos (.inr m2)) oM aN ac F4;have r1:fL k tg ky sl tx sub x Z=if PT.S4 k tg ky sl tx sub=0 then 14 else if iG x=false then 6 else if ST.V2 1 tg ky (sl.map (N_ x)) [] (bZ x sub)=0\/Z<(ST.V2 1 tg ky (sl.map (N_ x)) [] (bZ x sub):Nat)then 14 else 0:=if_neg oM;refine ah ?_;simp only[b_,seval,<-ak,<-ar,<-an,m1,m2,p6];refine aa (vD K.o (n.fr aN)) ?_;rintro _ h4 ⟨rfl,F4⟩;have a3:=aN.c F4;have a4:=F4.i ac;have bw:aj h4 h1.e 0 4=some x.s:=by rw[(F4.i ox).N];rfl
 have bA:=(F4.i op).at6.2.2.2.2.2.2;by_cases c0:PT.S4 k tg ky sl tx sub=0;rw[if_pos c0];simp only[b_,seval];apply B_ F4.o a4;rintro h5 o5 F5 n5;simp only[b_,seval,o5.at6.2.2.2.2.2.2];exact bad (r1.trans (if_pos c0)) oM a3 a4 F5;rw[if_neg c0];rw[if_neg c0]at r1;simp only[b_,seval,bw];apply aa (yz F4.o (a.fr a3));rintro _ h5 ⟨rfl,F5⟩;have a2:=a3.c F5;have a6:=F5.i a4;have x5:aj h5 h1.e 0 4=some x.s:=by rw[(F5.i (F4.i ox)).N];rfl
 have p5:=(F5.i (F4.i op)).at6.2.2.2.2.2.2;cases c1:iG x;rw[c1]at r1;simp only[b_,seval];apply B_ F5.o a6;rintro h6 o6 F6 n6;simp only[b_,seval,o6.at6.2.2.2.2.2.2];exact bad r1 oM a2 a6 F6;rw[c1,if_neg iS]at r1;let⟨k1,bv⟩:=Iy vs vp c0;have hm:x.C.length<=8:=by simp only[iG,x?,VY,decide_eq_true_eq]at c1;exact c1.2.2.1
 have em:bZ x (.o_ k tg ky sl tx vs vp sub .w_)=.V7 1 tg ky (sl.map (N_ x)) [] (bZ x sub) .Y0:=by subst k1;rfl
 have bt:aP (.a [ZX 0,ZY 0,.f [],.r] [(0,4)]) [.B x.s]=some (.B x.s):=rfl;have n5:=n.fr a2;let⟨h6,aT,ay,bg⟩:=aq F5.o [ZY (k:Int),.f tg,.f ky,vs,.f tx,vp];have n6:=x_ aT;simp only[b_,seval,x5,p5,bt,<-aT];have a5:=a2.c ay;apply aa (CL (mks _) x h6 _ ay.o (a.fr a5) hm (n.fr a5) bv (by simp[PT.t_]) (Xy bg rfl));rintro u h7 ⟨s,es,F7,uE,_,st⟩;rw[em]at es;obtain⟨va,vc,s',rfl,bf⟩:=NT.sh_one es;have a7:=st [] h7 iS (Wl F7.o);have bn:=a5.c F7;let⟨b,o,i1,i2⟩:=a7.2.ix6 (i:=0) (by simp[NT.y_]) (x0:=ZY ((1:Nat):Int)) (x1:=.f tg) (x2:=.f ky) (x3:=va) (x4:=.f []) (x5:=vc) (r:=[]) rfl;have bu:aP (.c 6) [u,ZZ 0]=some (.u b o):=i1;have on:=NH.ones a7.1;have bm:=F7.i (ay.i a6);let⟨h8,ba,a1,bh⟩:=aq F7.o [ZY 0,.f [],.f [],.r,.f [],.r];simp only[b_,seval,bu,i2.2.2.2.2.2.2,<-ba];apply ai (c':=[ZY ((1:Nat):Int),.f tg,.f ky,va,.f [],vc]) a1.o bh rfl (by exact on) rfl;rintro h9 o9 F9 n9;have aR:Fr [] h7 h9:=a1.z F9 F7.o (VZ _);have N9:=NH.fr aR a7.1;simp only[b_,seval,o9.at6.2.2.2.2.2.2];apply aa (qr F9.o N9);rintro _ bz ⟨rfl,af⟩;have ae:=af.i (aR.i bm);have aJ:=(bn.c aR).c af;have ec:ST.V2 1 tg ky (sl.map (N_ x)) [] (bZ x sub)=NT.R7 1 tg ky (sl.map (N_ x)) [] s':=by rw[<-bf,NT.sh_count]
 rw[ec]at r1;by_cases z:NT.R7 1 tg ky (sl.map (N_ x)) [] s'=0;simp only[b_,seval,(oM:((NT.R7 1 tg ky (sl.map (N_ x)) [] s':Nat):Int)=0)];apply B_ af.o ae;rintro bj aH ax a8;simp only[b_,seval,aH.at6.2.2.2.2.2.2];exact bad (r1.trans (if_pos (.inl z))) oM aJ ae ax;by_cases z2:Z<((NT.R7 1 tg ky (sl.map (N_ x)) [] s':Nat):Int);simp only[b_,seval,eq_false (oM:¬((NT.R7 1 tg ky (sl.map (N_ x)) [] s':Nat):Int)=0),z2];apply B_ af.o ae;rintro bj aH ax a8;simp only[b_,seval,aH.at6.2.2.2.2.2.2];exact bad (r1.trans (if_pos (.inr z2))) oM aJ ae ax;have r2:=r1.trans (if_neg oM);have bk:=(af.i o9).at6.2.2.2.2.2.2;simp only[b_,seval,eq_false (oM:¬((NT.R7 1 tg ky (sl.map (N_ x)) [] s':Nat):Int)=0),z2,bk];apply ai (c':=[ZY ((1:Nat):Int),.f tg,.f ky,va,.f [],vc]) af.o ae rfl (by exact on) rfl;rintro bj aH ax a8;simp only[b_,seval,aH.at6.2.2.2.2.2.2];rw[r2];refine⟨_,rfl,aJ.z ax w oM,fun q=>absurd rfl q,fun _=>⟨s',va,vc,rfl,fun X hh hX f=>?_,bf⟩⟩;have bB:=F7.e;refine(st ([h2.e]++X) hh (fun y m=>?_) (Wp (Wp (T:=[h2.e]) (aR.c af) ax F7.o iS (fun y hy=>.inl hy)) f F7.o (fun y m=>.inl (Wa.2 (.inl m))) (fun y m=>.inl (Wa.2 (.inr m))))).1;have:=F5.e;have:=F4.e;have:=K.e;have:=(show h3.e=h2.e+1 by rw[an];rfl);obtain m|m:=Wa.1 m;simp at m;omega;grind
def Gn(e:Nat)(h:a_)(B:Nat)(v:V)(n:Nat)(cs:List V):Prop:=cs.length=n*e/\((n=0/\(v=.r\/∃b,B<=b/\v=.y b 0 0 0/\e_ h b []))\/∃b,B<=b/\v=.G b 0 n e/\e_ h b cs)
theorem Gn.sl{e:Nat}{h:a_}{B n:Nat}{v:V}(g:Gn e h B v n cs):Sl h e v n cs:=by obtain⟨Z,⟨rfl,rfl|⟨b,_,rfl,o⟩⟩|⟨b,_,rfl,o⟩⟩:=g;exact⟨Z,rfl⟩;have:cs=[]:=Wu.1 oM;subst this;exact⟨Z,rfl,VZ _,[],o,iS,iS⟩;exact⟨Z,rfl,rfl,cs,o,oM,by rw[YG,Wj oM]⟩
theorem Gn.fr{e:Nat}{h:a_}{B n:Nat}{v:V}(g:Gn e h B v n cs)(f:Fr X h h')(hx:∀x∈X,x<B):Gn e h' B v n cs:=by obtain⟨Z,⟨rfl,rfl|⟨b,K,rfl,o⟩⟩|⟨b,K,rfl,o⟩⟩:=g;exact⟨Z,.inl ⟨rfl,.inl rfl⟩⟩;exact⟨Z,.inl ⟨rfl,.inr ⟨b,K,rfl,f.I _ _ (fun m=>by have:=hx _ m;omega) o⟩⟩⟩;exact⟨Z,.inr ⟨b,K,rfl,f.I _ _ (fun m=>by have:=hx _ m;omega) o⟩⟩
theorem Gn.U{e:Nat}{h:a_}{B n:Nat}{v:V}(g:Gn e h B v n cs):v.U=true:=g.sl.U
theorem Gn.nE{e:Nat}{h:a_}{B n:Nat}{v:V}(g:Gn e h B v n cs):v≠.L:=by obtain⟨_,⟨_,rfl|⟨b,_,rfl,_⟩⟩|⟨b,_,rfl,_⟩⟩:=g<;>simp
def nZ:V->Bool:=fun _=>true
theorem _root_.Go.Ev.T5.src{h:a_}{e:Nat}{v:V}{n:Nat}(a:T5 h e v n cs)(z:nZ v=true):T9 v=some n/\S1 h e v n=some cs/\(v≠.r->aP (.j 1 false) [v,.r]=some (.h false)):=by
 let⟨Z,a⟩:=a;cases v with
 |y b o len cap=>obtain⟨rfl,_,c,hc,K,q⟩:=a;exact⟨rfl,by simp[Ev.S1,hc.N,bQ,bN _ _ (oO:len*e<=(c.drop o).length),q],fun _=>rfl⟩
 |G b o len e'=>obtain⟨rfl,rfl,c,hc,K,q⟩:=a;exact⟨rfl,by simp[Ev.S1,hc.N,bQ,bN _ _ (oO:len*e'<=(c.drop o).length),q],fun _=>rfl⟩
 |r=>have a:n=0:=a;subst a;simp at Z;subst Z;exact⟨rfl,rfl,fun q=>absurd rfl q⟩
 |L=>have a:n=0:=a;subst a;simp at Z;subst Z;exact⟨rfl,rfl,fun _=>rfl⟩
 |sliceZ _ _=>have a:n=0:=a;subst a;simp at Z;subst Z;exact⟨rfl,rfl,fun _=>rfl⟩
 |_=>exact a.elim
theorem ke{h:a_}{e bytes n:Nat}{x:V}(w:WF h)(a:T5 h e x n xs)(z:nZ x=true)(he:0<e)(ac:(2*n+1024) *bytes<=281474976710656){K:V->a_->Prop}
 (k:∀v' h',Gn e h' h.e v' n xs->Fr [] h h'->K v' h'):OQ (jQ (h_ h []) e bytes (.y h.e 0 0 0) x) K:=by
 have Z:=WA w ([]:List V);have o1:=Xc w ([]:List V);let⟨s1,s2,_⟩:=(a.fr Z).src z;have hl:=a.1;unfold jQ;rw[s1];simp only[];by_cases c:n=0;subst c;rw[lF rfl,cond_true];exact(cF _ _ _).2 (k _ _ ⟨hl,.inl ⟨rfl,.inr ⟨h.e,VZ _,rfl,o1⟩⟩⟩ Z);rw[fC c,cond_false,s2];simp only[];rw[BU oM,cond_false,Zq,o1.N];have:dG 0 (gC ([]:List V) 0)=some []:=rfl;rw[this];simp[uP];rw[(Yg ..).mpr ac,cond_true];refine(cF _ _ _).2 (k _ _ ⟨hl,.inr ⟨(h_ h []).e,Z.e,rfl,Xc Z.o xs⟩⟩ (Z.c (WA Z.o xs)))
theorem EZ{h:a_}{n:Nat}{x:V}(w:WF h)(a:T5 h 1 x n xs)(z:nZ x=true)(K:n<=100000):ao go 104 [x] h fun u h'=>Gn 1 h' h.e u n xs/\Fr [] h h':=by by_cases c:x=.r;subst c;have:n=0:=a.2;subst this;have q:aP (.j 1 false) [.r,.r]=some (.h true):=rfl;refine ah ?_;simp[b_,q];exact⟨⟨a.1,.inl ⟨rfl,.inl rfl⟩⟩,Wl w⟩;refine ah ?_;simp[b_,(a.src z).2.2 c];apply ke (bytes:=16) w a z oM oM;intro Z h' g f;simp[b_];exact⟨g,f⟩
theorem AB{h:a_}{n:Nat}{x:V}(w:WF h)(a:T5 h 3 x n xs)(z:nZ x=true)(K:n<=100000):ao go 101 [x] h fun u h'=>Gn 3 h' h.e u n xs/\Fr [] h h':=by by_cases c:x=.r;subst c;have:n=0:=a.2;subst this;have q:aP (.j 1 false) [.r,.r]=some (.h true):=rfl;refine ah ?_;simp[b_,q];exact⟨⟨a.1,.inl ⟨rfl,.inl rfl⟩⟩,Wl w⟩;refine ah ?_;simp[b_,(a.src z).2.2 c];apply ke (bytes:=40) w a z oM oM;intro Z h' g f;simp[b_];exact⟨g,f⟩
theorem yp{h:a_}{n:Nat}{x:V}(w:WF h)(a:T5 h 6 x n xs)(z:nZ x=true)(K:n<=100000):ao go 102 [x] h fun u h'=>Gn 6 h' h.e u n xs/\Fr [] h h':=by by_cases c:x=.r;subst c;have:n=0:=a.2;subst this;have q:aP (.j 1 false) [.r,.r]=some (.h true):=rfl;refine ah ?_;simp[b_,q];exact⟨⟨a.1,.inl ⟨rfl,.inl rfl⟩⟩,Wl w⟩;refine ah ?_;simp[b_,(a.src z).2.2 c];apply ke (bytes:=104) w a z oM oM;intro Z h' g f;simp[b_];exact⟨g,f⟩
theorem yr{h:a_}{n:Nat}{x:V}(w:WF h)(a:T5 h 9 x n xs)(z:nZ x=true)(K:n<=100000):ao go 47 [x] h fun u h'=>Gn 9 h' h.e u n xs/\Fr [] h h':=by by_cases c:x=.r;subst c;have:n=0:=a.2;subst this;have q:aP (.j 1 false) [.r,.r]=some (.h true):=rfl;refine ah ?_;simp[b_,q];exact⟨⟨a.1,.inl ⟨rfl,.inl rfl⟩⟩,Wl w⟩;refine ah ?_;simp[b_,(a.src z).2.2 c];apply ke (bytes:=128) w a z oM oM;intro Z h' g f;simp[b_];exact⟨g,f⟩
def m_.I(x:m_)(v:V):m_:=⟨x.J,x.K,x.X,x.C,v⟩
def R0(N:Nat)(h:a_)(v:V)(L:List (List UInt8)):Prop:=(L=[]/\(v=.r\/∃b,v=.y b 0 0 0/\N<=b/\e_ h b []))\/∃b,v=.y b 0 L.length L.length/\N<=b/\e_ h b (L.flatMap sS)
theorem R0.fr{N:Nat}{h:a_}{v:V}{L:List (List UInt8)}(a:R0 N h v L)(f:Fr X h h')(l:∀y∈X,y<N):R0 N h' v L:=by obtain⟨e,rfl|⟨b,rfl,Z,o⟩⟩|⟨b,e,Z,o⟩:=a;exact .inl ⟨e,.inl rfl⟩;exact .inl ⟨e,.inr ⟨b,rfl,Z,f.I _ _ (fun m=>by have:=l b m;omega) o⟩⟩;exact .inr ⟨b,e,Z,f.I _ _ (fun m=>by have:=l b m;omega) o⟩
theorem R0.rs{N:Nat}{h:a_}{v:V}{L:List (List UInt8)}(a:R0 N h v L):q_ sS 1 h v L:=by have Z:(L.flatMap sS).length=L.length*1:=aC fW L;obtain⟨rfl,rfl|⟨b,rfl,_,o⟩⟩|⟨b,rfl,_,o⟩:=a;exact ZI;exact Xy o rfl;exact Xy o Z
theorem R0.U{N:Nat}{h:a_}{v:V}{L:List (List UInt8)}(a:R0 N h v L):v.U=true:=Xs a.rs
theorem R0.nE{N:Nat}{h:a_}{v:V}{L:List (List UInt8)}(a:R0 N h v L):v≠.L:=by obtain⟨_,rfl|⟨b,rfl,_,o⟩⟩|⟨b,rfl,_,o⟩:=a<;>simp
theorem IA{N:Nat}{h:a_}{v:V}{L:List (List UInt8)}(g:Gn 1 h N v L.length (L.flatMap sS)):ao go 103 [v] h fun u h'=>R0 N h u L/\h=h':=by
 have q:∀y n,n<=y->aZ n y false true true [ZZ (n:Int),ZZ (n:Int)]=some (0,n,some n):=fun y n hy=>by simp[aZ,bU .i64 (n:Int) y oM oM,bU .i64 (n:Int) n oM oM]
 obtain⟨K,⟨e,rfl|⟨b,Z,rfl,o⟩⟩|⟨b,Z,rfl,o⟩⟩:=g;have x:aP (.s none 1 false true true) [.r,ZZ 0,ZZ 0]=some .r:=rfl;refine ah ?_;simp[b_,x];exact .inl ⟨Wu.1 e,.inl rfl⟩;have x:aP (.s none 1 false true true) [.y b 0 0 0,ZZ ((0:Nat):Int),ZZ ((0:Nat):Int)]=some (.y b 0 0 0):=by simp only[aP,eJ,q 0 0 (VZ _),Ws,Zb];rfl
 refine ah ?_;simp only[b_,↓reduceIte,Nat.reduceEqDiff,x];exact .inl ⟨Wu.1 e,.inr ⟨b,rfl,Z,o⟩⟩;have x:aP (.s none 1 false true true) [.G b 0 L.length 1,ZZ ((L.length:Nat):Int),ZZ ((L.length:Nat):Int)]=some (.y b 0 L.length L.length):=by simp only[aP,eJ,lF (rfl:1=1),(WB ..).mpr (oM:0<1),Ya,cond_true,q L.length L.length (VZ _),WN];cases Nat.beq L.length 0<;>simp
 refine ah ?_;simp[b_,x];exact .inr ⟨b,rfl,Z,o⟩
theorem uo{h:a_}{x:m_}(w:WF h)(a:u_ h x)(z:nZ x.vm=true):ao go 51 [.B x.s] h fun u h'=>∃v,u=.B (x.I v).s/\Fr [] h h'/\R0 h.e h' v x.C:=by
 let⟨h1,ac,af,ar⟩:=aq w x.s;let⟨h2,ae,K,an⟩:=aq af.o [ZX 0,ZY 0,.f [],.r];have n1:=x_ ac;have ak:=af.c K;have ob:=K.i ar;have l3:ab h2 h.e 3=some x.vm:=ob.j 3;have n2:=x_ ae;refine ah ?_;simp[b_,<-ac,<-ae,l3];refine aa (EZ K.o (a.m.fr ak) z (by have:=a.n;omega)) ?_;rintro v1 h3 ⟨g,F3⟩;simp[b_];apply aa (IA g);rintro v2 _ ⟨cl,rfl⟩;have Z:=cl.U;simp[b_];refine ai (c':=(x.I v2).s) F3.o (F3.i ob) (by simp[aF Z]) (by rw[aF Z];simp only[au,aB,Z];rfl) (by rw[aF Z];rfl) ?_;rintro h4 o4 F4 n4;have l4:aj h4 h.e 0 4=some (x.I v2).s:=by rw[o4.N];rfl
 have ay:=F4.I _ _ oO (F3.i an);simp[b_,l4];refine ai (c':=(x.I v2).s) F4.o ay rfl (by show aw [ZX (x.J:Int),ZY (x.K:Int),.f x.X,v2]=true;simp only[au,aB,Z];rfl) rfl ?_;rintro h5 o5 F5 n5;have l5:aj h5 h1.e 0 4=some (x.I v2).s:=by rw[o5.N];rfl
 simp only[b_,seval,l5];have ax:Fr [] h h4:=(ak.c F3).z F4 w (VZ _);have c5:=(cl.fr F4 oO).fr F5 oO;refine⟨v2,rfl,ax.z F5 w oM,?_⟩;obtain⟨e,e2|⟨b,e2,hb,o⟩⟩|⟨b,e2,hb,o⟩:=c5;exact .inl ⟨e,.inl e2⟩;exact .inl ⟨e,.inr ⟨b,e2,oM,o⟩⟩;exact .inr ⟨b,e2,oM,o⟩
theorem EY{h:a_}{x:m_}(w:WF h)(a:u_ h x)(z:nZ x.vm=true):ao go 51 [.B x.s] h fun u h'=>∃v,u=.B (x.I v).s/\Fr [] h h'/\v≠.L/\v.U=true/\
 ∀(X:List Nat)(Z:a_),(∀y∈X,y<h.e)->Fr X h' Z->q_ sS 1 Z v x.C:=by
 apply ZW (uo w a z);rintro _ h' ⟨v,e,f,c⟩;exact⟨v,e,f,c.nE,c.U,fun X Z K f2=>(c.fr f2 K).rs⟩
structure p_ where
 k:Nat
 tg:g_
 ky:g_
 sl:List Q3
 tx:g_
 vs:V
 vp:V
 sub:PT
 P:Int
 Y:Bool
 pool:Int
def p_.part(q:p_):List V:=[ZY (q.k:Int),.f q.tg,.f q.ky,q.vs,.f q.tx,q.vp]
def p_.s(q:p_):List V:=q.part++[ZZ q.P,.h q.Y,ZZ q.pool]
theorem cS(q:p_):q.s.length=9:=rfl
def Q9(h:a_)(q:p_):Prop:=PH h (.o_ q.k q.tg q.ky q.sl q.tx q.vs q.vp q.sub .w_)
theorem Q9.fr{h:a_}{q:p_}(a:Q9 h q)(f:Fr [] h h'):Q9 h' q:=PH.fr f a
theorem Q9.ones{h:a_}{q:p_}(a:Q9 h q):aw q.part=true:=PH.ones a
theorem Q9.ones9{h:a_}{q:p_}(a:Q9 h q):aw q.s=true:=by show aw (q.part++_)=true;rw[aW,a.ones];rfl
def I?(b:Int):Bool:=decide (1<=b)&&decide (b<=2305843009213693952)
def Z9(q:p_):Bool:=I? q.P&&decide (PT.S4 q.k q.tg q.ky q.sl q.tx q.sub≠0)
theorem wv{h:a_}(n:Int):ao go 93 [ZZ n] h fun u h'=>u=.h (I? n)/\h=h':=by by_cases c:1<=n;refine ah ?_;simp only[b_,seval,c];simp[I?,c];refine ah ?_;simp only[b_,seval,c];simp[I?,c]
theorem K7{h:a_}{q:p_}(w:WF h)(a:Q9 h q):ao go 97 [.B q.s] h fun u h'=>u=.h (!Z9 q)/\Fr [] h h':=by
 let⟨h1,ac,Z,K⟩:=aq w q.s;have l6:ab h1 h.e 6=some (ZZ q.P):=K.j 6;have l0:aj h1 h.e 0 6=some q.part:=by rw[K.N];rfl
 refine ah ?_;simp[b_,<-ac,l6];refine aa (wv _) ?_;rintro _ _ ⟨rfl,rfl⟩;cases c:I? q.P;simp only[b_,seval];exact⟨by simp[Z9,c],Z⟩;simp[b_,l0];apply aa (vD (va:=q.vs) (vc:=q.vp) Z.o (a.fr Z));rintro _ h2 ⟨rfl,F2⟩;by_cases z:PT.S4 q.k q.tg q.ky q.sl q.tx q.sub=0;rw[if_pos z];simp only[b_,seval];exact⟨by simp[Z9,z],Z.c F2⟩;rw[if_neg z];simp only[b_,seval];exact⟨by simp[Z9,c,z],Z.c F2⟩
theorem BC{h:a_}{v:V}{L:List p_}(w:WF h)(a:q_ p_.s 9 h v L)(hL:∀q∈L,Q9 h q)(hn:L.length<=4096):
 ao go 157 [v,.E (.func 97) [] []] h fun u h'=>∃r:Int,u=ZZ r/\(decide (0<=r)= !L.all Z9)/\Fr [] h h':=by
 refine ah ?_;simp[b_,ZU a];refine aA (fun k env hh=>Fr [] h hh/\∃(i:Nat),env.c_ 8=some (ZZ i)/\env.c_ 7=some (ZZ L.length)/\env.c_ 0=some v/\env.c_ 1=some (.E (.func 97) [] [])/\
  i<=L.length/\(L.drop i).all Z9=L.all Z9/\k=L.length-i) L.length oM ?_ ?_
 ·exact⟨Wl w,0,iS,iS,iS,iS,oM,rfl,rfl⟩
 ·rintro k env hh ⟨F,i,g8,g7,g0,g1,hi,e,rfl⟩;by_cases ac:i<L.length
  ·have Z:(i:Int)<L.length:=oM
   let⟨b,o,s,e1,_,e3,K⟩:=(Xn a F).ix cS .i64 i oM Z;rw[pi]at K;rw[aL K,Yb]at e;have hs:=hL s (Wc K);simp[b_,g8,g7,g0,g1,Z,e1,e3];refine aa (K7 F.o (hs.fr F)) ?_;rintro _ h1 ⟨rfl,F1⟩;cases c:Z9 s
   ·simp only[b_,seval];rw[c]at e;exact⟨i,rfl,by rw[<-e];simp,F.c F1⟩
   ·simp(disch:=omega)[b_,ag,g8];rw[c]at e;refine s_ ⟨L.length-(i+1),oM,F.c F1,i+1,iS,iX,iX,iX,oM,by simpa using e,rfl⟩
    done
  ·simp only[b_,seval,g8,g7,(oM:¬(i:Int)<L.length)];rw[Wo oM]at e;exact⟨-1,rfl,by rw[<-e];rfl,F⟩
def X5(L:List p_)(cap:Int):Bool:=decide (1<=L.length)&&(decide (L.length<=8)&&(decide (1<=cap)&&(decide (cap<=64)&&L.all Z9)))
theorem nM{h:a_}{v:V}{L:List p_}{cap:Int}(w:WF h)(a:q_ p_.s 9 h v L)(hL:∀q∈L,Q9 h q)(hn:L.length<=4096):
 ao go 45 [.B [v,ZZ cap]] h fun u h'=>u=ZZ (if X5 L cap then 0 else 7)/\Fr [] h h':=by
 let⟨h1,K,Z,ac⟩:=aq w [v,ZZ cap];have l0:ab h1 h.e 0=some v:=ac.j 0;have l1:ab h1 h.e 1=some (ZZ cap):=ac.j 1;have len:=ZU a;by_cases c0:L.length<1;refine ah ?_;simp only[b_,seval,<-K,l0,len,(oM:(L.length:Int)<1)];exact⟨by simp[X5];omega,Z⟩;by_cases c1:8<L.length;refine ah ?_;simp only[b_,seval,<-K,l0,len,(oM:¬(L.length:Int)<1),(oM:(8:Int)<L.length)];exact⟨by simp[X5];omega,Z⟩;by_cases c2:cap<1;refine ah ?_;simp only[b_,seval,<-K,l0,l1,len,(oM:¬(L.length:Int)<1),(oM:¬(8:Int)<L.length),c2];exact⟨by simp[X5];omega,Z⟩;by_cases c3:64<cap;refine ah ?_;simp only[b_,seval,<-K,l0,l1,len,(oM:¬(L.length:Int)<1),(oM:¬(8:Int)<L.length),c2,c3];exact⟨by simp[X5];omega,Z⟩;refine ah ?_;simp[b_,<-K,l0,l1,len,(oM:¬(L.length:Int)<1),(oM:¬(8:Int)<L.length),c2,c3];refine aa (?_:ao go 99 _ _ (fun u h'=>u=.h (!L.all Z9)/\Fr [] h1 h')) ?_;refine ah ?_;simp[b_];refine aa (BC Z.o (Xn a Z) (fun q m=>(hL q m).fr Z) hn) ?_;rintro _ h2 ⟨r,rfl,e,F2⟩;simp only[b_,seval];exact⟨by rw[e],F2⟩;rintro _ h2 ⟨rfl,F2⟩;have e:X5 L cap=L.all Z9:=by simp[X5,(oM:1<=L.length),(oM:L.length<=8),(oM:1<=cap),(oM:cap<=64)]
 rw[e];cases c4:L.all Z9;simp[b_];exact Z.c F2;simp[b_];exact Z.c F2
namespace PT
def l?:PT->PT->Prop
 |w_,w_=>True
 |o_ k tg ky sl tx _ _ s n,o_ k' tg' ky' sl' tx' _ _ s' n'=>k=k'/\tg=tg'/\ky=ky'/\sl=sl'/\tx=tx'/\l? s s'/\l? n n'
 |_,_=>False
theorem td:∀{a b:PT},l? a b->a.t_=b.t_
 |w_,w_,_=>rfl
 |o_ _ _ _ _ _ _ _ _ _,o_ _ _ _ _ _ _ _ _ _,h=>by simp[t_,td h.2.2.2.2.2.2]
 |w_,o_ _ _ _ _ _ _ _ _ _,h=>h.elim
 |o_ _ _ _ _ _ _ _ _ _,w_,h=>h.elim
theorem qk:∀{a b:PT},l? a b→∀l c,a.P3 l c=b.P3 l c
 |w_,w_,_,_,_=>rfl
 |o_ k tg ky sl tx _ _ s n,o_ _ _ _ _ _ _ _ s' n',⟨h1,h2,h3,h4,h5,h6,h7⟩,l,c=>by
  subst h1 h2 h3 h4 h5;have e1:R3 k tg ky sl tx s s.P3 l c=R3 k tg ky sl tx s' s'.P3 l c:=by unfold R3;rw[td h6,qk h6]
  simp only[P3,e1,qk h7]
 |w_,o_ _ _ _ _ _ _ _ _ _,h,_,_=>h.elim
 |o_ _ _ _ _ _ _ _ _ _,w_,h,_,_=>h.elim
theorem R?(k:Nat)(tg ky:g_)(sl:List Q3)(tx:g_){s Z:PT}(h:l? s Z):S4 k tg ky sl tx s=S4 k tg ky sl tx Z:=by
 have K:R3 k tg ky sl tx s s.P3 1 0=R3 k tg ky sl tx Z Z.P3 1 0:=by unfold R3;rw[td h,qk h]
 unfold S4;rw[K]
def v?:PT->PT->PT
 |w_,t=>t
 |o_ k tg ky a tx va vc sub nx,t=>o_ k tg ky a tx va vc sub (nx.v? t)
theorem E?:∀a b:PT,(a.v? b).P0=a.P0++b.P0
 |w_,_=>rfl
 |o_ _ _ _ _ _ _ _ _ nx,b=>by simp[v?,P0,E? nx b]
theorem app_len:∀a b:PT,(a.v? b).t_=a.t_+b.t_
 |w_,b=>by simp[v?,t_]
 |o_ _ _ _ _ _ _ _ _ nx,b=>by simp[v?,t_,app_len nx b];omega
theorem same_app:∀{a b c d:PT},l? a b->l? c d->l? (a.v? c) (b.v? d)
 |w_,w_,_,_,_,h=>h
 |o_ _ _ _ _ _ _ _ _ _,o_ _ _ _ _ _ _ _ _ _,_,_,h,g=>⟨h.1,h.2.1,h.2.2.1,h.2.2.2.1,h.2.2.2.2.1,h.2.2.2.2.2.1,same_app h.2.2.2.2.2.2 g⟩
 |w_,o_ _ _ _ _ _ _ _ _ _,_,_,h,_=>h.elim
 |o_ _ _ _ _ _ _ _ _ _,w_,_,_,h,_=>h.elim
def q?:PT->Nat->PT
 |_,0=>w_
 |w_,_+1=>w_
 |o_ k tg ky a tx va vc sub nx,i+1=>o_ k tg ky a tx va vc sub (nx.q? i)
theorem take_app:∀(t:PT)(i:Nat),(t.q? i).v? (t.Z5 i)=t
 |w_,0=>rfl
 |w_,_+1=>rfl
 |o_ _ _ _ _ _ _ _ _ _,0=>rfl
 |o_ _ _ _ _ _ _ _ _ nx,i+1=>by simp[q?,Z5,v?,take_app nx i]
theorem take_succ{t:PT}{i k:Nat}{tg ky tx:g_}{sl:List Q3}{va vc:V}{sub nx:PT}(h:t.Z5 i=o_ k tg ky sl tx va vc sub nx):t.q? (i+1)=(t.q? i).v? (o_ k tg ky sl tx va vc sub w_):=by
 induction i generalizing t with
 |zero=>
  cases t with
  |w_=>cases h
  |o_ _ _ _ _ _ _ _ _ nx'=>cases h;cases nx<;>rfl
 |succ i ih=>
  cases t with
  |w_=>cases h
  |o_ _ _ _ _ _ _ _ _ nx'=>simp only[q?,v?];rw[ih h]
end PT
theorem PH.X0{h:a_}:∀{a b:PT},PH h a->PH h b->PH h (a.v? b)
 |.w_,_,_,q=>q
 |.o_ _ _ _ _ _ _ _ _ _,_,⟨x1,x2,x3,x4,x5,x6,x7⟩,q=>⟨x1,x2,x3,x4,x5,x6,PH.X0 x7 q⟩
def PCp(k:Nat)(tg ky:g_)(sl:List Q3)(tx:g_)(vs vp:V)(sub:PT):Prop:=∀(h:a_),WF h->PH h (.o_ k tg ky sl tx vs vp sub .w_)->
 ao go 48 [.B [ZY (k:Int),.f tg,.f ky,vs,.f tx,vp]] h fun u h'=>∃vs' vp' sub',u=.B [ZY (k:Int),.f tg,.f ky,vs',.f tx,vp']/\PT.l? sub sub'/\Fr [] h h'/\
  ∀(X:List Nat)(h2:a_),(∀y∈X,y<h.e)->Fr X h' h2->PH h2 (.o_ k tg ky sl tx vs' vp' sub' .w_)
def PCs:PT->Prop
 |.w_=>True
 |.o_ k tg ky sl tx vs vp sub nx=>PCp k tg ky sl tx vs vp sub/\PCs nx
theorem PCs.Z5:∀{t:PT}(i:Nat),PCs t->PCs (t.Z5 i)
 |.w_,0,_=>trivial
 |.w_,_+1,_=>trivial
 |.o_ _ _ _ _ _ _ _ _ _,0,a=>a
 |.o_ _ _ _ _ _ _ _ _ _,i+1,⟨_,g⟩=>PCs.Z5 i g
theorem Gn.frH{e:Nat}{h:a_}{B n:Nat}{v:V}(w:WF h)(g:Gn e h B v n cs)(f:Fr X h h')(hx:∀x∈X,x<B\/h.e<=x):Gn e h' B v n cs:=by obtain⟨Z,⟨rfl,rfl|⟨b,K,rfl,o⟩⟩|⟨b,K,rfl,o⟩⟩:=g;exact⟨Z,.inl ⟨rfl,.inl rfl⟩⟩;exact⟨Z,.inl ⟨rfl,.inr ⟨b,K,rfl,f.I _ _ (fun m=>by have:=hx _ m;have:=o.lt w;omega) o⟩⟩⟩;exact⟨Z,.inr ⟨b,K,rfl,f.I _ _ (fun m=>by have:=hx _ m;have:=o.lt w;omega) o⟩⟩
theorem yR{k:Nat}{ky:g_}{sl:List Q3}(P:PCs sub):PCp k tg ky sl tx vs vp sub:=by
 intro h w ⟨hk,rs,ls,sp,lp,ph,_⟩;have zs:nZ vs=true:=by cases vs<;>first|rfl|exact rs.2.elim
 have zp:nZ vp=true:=by cases vp<;>first|rfl|exact sp.2.elim
 let⟨h1,az,aJ,bg⟩:=aq w [ZY (k:Int),.f tg,.f ky,vs,.f tx,vp];let⟨h2,aH,af,a6⟩:=aq aJ.o [ZY 0,.f [],.f [],.r,.f [],.r];have n1:=x_ az;have n2:=x_ aH;have bh:=aJ.c af;have ob:=af.i bg;have l3:ab h2 h.e 3=some vs:=ob.j 3;have l5:ab h2 h.e 5=some vp:=ob.j 5;refine ah ?_;simp only[b_,seval,<-az,<-aH,l3];refine aa (AB af.o (Sl.a (Xn rs bh)) zs oM) ?_;rintro ae h3 ⟨gs,F3⟩;simp only[b_,seval];refine ai (c':=[ZY (k:Int),.f tg,.f ky,ae,.f tx,vp]) F3.o (F3.i ob) (by simp[aF gs.U]) (by rw[aF gs.U];simp only[au,aB,gs.U];rfl) (by rw[aF gs.U];rfl) ?_;rintro h4 o4 F4 n4;have a4:Fr [] h h4:=(bh.c F3).z F4 w (VZ _);have cc:ab h4 h.e 5=some vp:=o4.j 5;simp only[b_,seval,cc];apply aa (yp F4.o (Sl.a (sp.fr a4)) zp oM);rintro K h5 ⟨gp,F5⟩;simp only[b_,seval];refine ai (c':=[ZY (k:Int),.f tg,.f ky,ae,.f tx,K]) F5.o (F5.i o4) (by simp[aF gp.U]) (by rw[aF gp.U];simp only[au,aB,gp.U];rfl) (by rw[aF gp.U];rfl) ?_;rintro h6 o6 F6 n6;have bu:ab h6 h.e 5=some K:=o6.j 5;have cg:=F3.e;have a3:=gp.fr F6 oO;simp only[b_,seval,bu,a3.sl.t_];have bC:Fr [] h h6:=(a4.c F5).z F6 w (VZ _);have bA:e_ h6 h1.e [ZY 0,.f [],.f [],.r,.f [],.r]:=F6.I _ _ oO (F5.i (F4.I _ _ oO (F3.i a6)));have bf:Fr [h.e] h3 h6:=Wp (Wp (T:=[h.e]) F4 F5 F3.o iS iS) F6 F3.o iS iS;have ci:Gn 3 h6 h2.e ae sl.length (sl.flatMap sW):=gs.fr bf oO;have bn:∀y∈vb K,h4.e<=y/\y<h6.e:=by obtain⟨_,⟨_,rfl|⟨b,_,rfl,_⟩⟩|⟨b,hb,rfl,o⟩⟩:=a3;simp[vb];simp[vb];have:=o.lt F6.o;simp only[vb,Wi];rintro y rfl;exact⟨hb,this⟩
 refine aA (fun n env hh=>Fr [] h hh/\h6.e<=hh.e/\e_ hh h.e [ZY (k:Int),.f tg,.f ky,ae,.f tx,K]/\e_ hh h1.e [ZY 0,.f [],.f [],.r,.f [],.r]/\(∃X3:List Nat,(∀y∈X3,y<h2.e\/h3.e<=y)/\Fr X3 h3 hh)/\
  ∃(i:Nat)(d:PT),env.c_ 15=some (ZZ i)/\env.c_ 14=some (ZZ sub.t_)/\env.c_ 1=some (.u h.e 0)/\env.c_ 2=some (.u h1.e 0)/\i<=sub.t_/\d.t_=i/\PT.l? (sub.q? i) d/\
  Gn 6 hh h4.e K sub.t_ (d.P0++sub.P0.drop (i*6))/\(∀(X:List Nat)(h2:a_),(∀y∈X,y<h.e\/y=h.e\/y=h1.e\/y∈vb K)->Fr X hh h2->PH h2 d)/\n=sub.t_-i) sub.t_ oM ?_ ?_
 exact⟨bC,VZ _,o6,bA,⟨_,by simp;omega,bf⟩,0,.w_,iS,iS,iS,iS,oM,rfl,by cases sub<;>trivial,by simpa[PT.P0]using a3,fun _ _ _ _=>trivial,rfl⟩;rintro n env hh ⟨F,hn,ox,oz,⟨X3,bj,ba⟩,i,d,aR,a7,g1,g2,hi,dl,ds,ax,dst,rfl⟩;have lx:ab hh h.e 5=some K:=ox.j 5;by_cases bz:i<sub.t_;have aN:(i:Int)<sub.t_:=oM;let⟨kc,ay,ar,slc,ak,bw,bt,sb,nx,e1,e2,e3,e4,e5,e6⟩:=sub.N? i bz;have Pi:=P.Z5 i;have ac:=ph.Z5 i;rw[e1]at Pi ac;obtain⟨_,⟨z,_⟩|⟨bp,ca,rfl,bi⟩⟩:=ax;omega;have dc:=d.W_;rw[dl]at dc;have q0:∀Y:List V,(d.P0++Y).drop (i*6)=Y:=fun Y=>by rw[<-dc,Ye]
 have q1:∀Y:List V,(d.P0++Y).take (i*6)=d.P0:=fun Y=>by rw[<-dc,YH]
 have q2:∀Y:List V,(d.P0++Y).drop (i*6+6)=Y.drop 6:=fun Y=>by rw[<-dc,Xm]
 have ix:=lK 6 bp 0 sub.t_ 6 .i64 (i:Int) oM aN;simp at ix;have lc:aj hh bp (i*6) 6=some [ZY (kc:Int),.f ay,.f ar,bw,.f ak,bt]:=by rw[bi.N,bQ,q0,e2];rfl
 have hb:=bn bp (by simp[vb]);simp only[b_,seval,j_,aR,a7,g1,aN,lx,ix,lc];apply aa (Pi.1 hh F.o (PH.fr F ⟨ac.1,ac.2.1,ac.2.2.1,ac.2.2.2.1,ac.2.2.2.2.1,ac.2.2.2.2.2.1,trivial⟩));rintro _ h7 ⟨a0,aT,cb,rfl,sm,F7,a9⟩;have bE:ab h7 h.e 5=some (.G bp 0 sub.t_ 6):=(F7.i ox).j 5;have on:aw [ZY (kc:Int),.f ay,.f ar,a0,.f ak,aT]=true:=PH.ones (a9 [] h7 iS (Wl F7.o));simp only[b_,j_,ix];have eC:bG (d.P0++sub.P0.drop (i*6)) (i*6) [ZY (kc:Int),.f ay,.f ar,a0,.f ak,aT]=some ((d.v? (.o_ kc ay ar slc ak a0 aT cb .w_)).P0++sub.P0.drop ((i+1) *6)):=by rw[cD _ _ _ (by rw[Wq,dc,e2];simp),PT.E?];congr 1;show _++_++(d.P0++sub.P0.drop (i*6)).drop (i*6+6)=_;rw[q1,q2,Xx,(oM:i*6+6=(i+1) *6)];simp[PT.P0]
 refine ai F7.o (F7.i bi) rfl on eC ?_;rintro h8 o8 F8 n8;have ch:=F7.e;have bB:Fr [] h h8:=(F.c F7).z F8 w oM;simp(disch:=omega) only[b_,seval,DF,ag,aR,lx,bE,lc];refine s_ ⟨sub.t_-(i+1),oM,bB,oM,F8.I _ _ oO (F7.i ox),F8.I _ _ oO (F7.i oz),⟨X3++[bp],?_,Wp (Wp ba F7 F3.o (fun y Z=>.inl iX) iS) F8 F3.o (fun y Z=>.inl Z) (fun y Z=>.inl (by simp at Z;simp[Z]))⟩,i+1,_,iS,iX,iX,iX,oM,?_,?_,⟨?_,.inr ⟨bp,ca,rfl,o8⟩⟩,?_,rfl⟩;intro y Z;simp at Z;obtain Z|rfl:=Z;exact bj y Z;exact .inr oM;rw[PT.app_len,dl];rfl;rw[PT.take_succ e1];exact PT.same_app ds ⟨rfl,rfl,rfl,rfl,rfl,sm,trivial⟩;rw[Wq,PT.E?,Wq,dc,Yl,PT.W_,PT.W_];simp only[PT.t_];omega;intro X h9 hX f9;have a8:Fr ([bp]++X) h7 h9:=Wp F8 f9 F7.o (fun y Z=>.inl (by simp at Z;simp[Z])) (fun y Z=>.inl iX);have bT:Fr ([bp]++X) hh h9:=Wp F7 a8 F.o iS (fun y Z=>.inl Z);refine PH.X0 (dst _ h9 ?_ bT) (a9 _ h9 ?_ a8);intro y Z;simp at Z;obtain rfl|Z:=Z;exact .inr (.inr (.inr (by simp[vb])));exact hX y Z;intro y Z;simp at Z;obtain rfl|Z:=Z;omega;obtain q|q|q|q:=hX y Z;omega;omega;omega;simp[vb]at q;omega;have bm:i=sub.t_:=oM;have a5:=gs.frH F3.o ba bj;have l6:=ox.at6.2.2.2.2.2.2;have bv:=ax.U;have bk:=a5.U;simp only[b_,seval,aR,a7,g1,g2,(oM:¬(i:Int)<sub.t_),l6];refine ai (c':=[ZY (k:Int),.f tg,.f ky,ae,.f tx,K]) F.o oz rfl (by simp only[V.s,au,aB,bk,bv];rfl) rfl ?_;rintro h7 o7 F7 n7;simp only[b_,seval,g2,o7.at6.2.2.2.2.2.2];subst bm;rw[Wo (by rw[PT.W_];omega),Xg]at ax;have te:sub.q? sub.t_=sub:=by
  have:=PT.take_app sub sub.t_;rw[PT.t? _ _ (VZ _)]at this;have an:∀t:PT,t.v? .w_=t:=by
   intro t;induction t with
   |w_=>rfl
   |o_ _ _ _ _ _ _ _ _ nx _ ih=>simp[PT.v?,ih]
  rw[an]at this;exact this
 rw[te]at ds;refine⟨ae,K,d,rfl,ds,F.z F7 w oM,fun X h8 hX f8=>?_⟩;have f:Fr ([h1.e]++X) hh h8:=Wp F7 f8 F.o (fun y Z=>.inl (by simp at Z;simp[Z])) (fun y Z=>.inl iX);have a1:=a5.fr f (by
  intro y Z;simp at Z;obtain rfl|Z:=Z;omega;have:=hX y Z;omega)
 have a2:=ax.fr f (by
  intro y Z;simp at Z;obtain rfl|Z:=Z;omega;have:=hX y Z;omega)
 refine⟨hk,a1.sl,ls,by rw[dl];exact a2.sl,oM,dst _ h8 ?_ f,trivial⟩;intro y Z;simp at Z;obtain rfl|Z:=Z;exact .inr (.inr (.inl rfl));exact .inl (hX y Z)
theorem pcs:∀t:PT,PCs t
 |.w_=>trivial
 |.o_ _ _ _ _ _ _ _ sub nx=>⟨yR (pcs sub),pcs nx⟩
def rc(r:Int×Bool×Bool):List V:=[ZZ r.1,.h r.2.1,.h r.2.2]
theorem iD(r:Int×Bool×Bool):(rc r).length=3:=rfl
theorem CC(r:Int×Bool×Bool):aw (rc r)=true:=rfl
abbrev Y_(h:a_)(v:V)(L:List (Int×Bool×Bool)):Prop:=q_ rc 3 h v L
def sz(L:List (Int×Bool×Bool)):List Int:=L.map fun r=>r.1
def ky(L:List (Int×Bool×Bool)):List Bool:=L.map fun r=>r.2.1
def sy(L:List (Int×Bool×Bool)):List Bool:=L.map fun r=>r.2.2
theorem dq(L:List (Int×Bool×Bool)):(sz L).length=L.length:=by simp[sz]
theorem HO(L:List (Int×Bool×Bool)):(ky L).length=L.length:=by simp[ky]
theorem Y_.ix{h:a_}{v:V}{L:List (Int×Bool×Bool)}(a:Y_ h v L)(i:Nat)(K:(i:Int)<L.length):
 ∃b o r,aP (.c 3) [v,ZZ i]=some (.u b o)/\ab h b o=some (ZZ r.1)/\ab h b (o+1)=some (.h r.2.1)/\ab h b (o+2)=some (.h r.2.2)/\aj h b o 3=some [ZZ r.1,.h r.2.1,.h r.2.2]/\L[i]? =some r:=by
 let⟨b,o,s,e,g,g2,Z⟩:=YX iD a .i64 i oM K;exact⟨b,o,s,e,by simpa[rc]using g 0 oM,by simpa[rc]using g 1 oM,by simpa[rc]using g 2 oM,g2,by simpa using Z⟩
theorem A6{L:List (Int×Bool×Bool)}{i:Nat}{r:Int×Bool×Bool}(h:L[i]? =some r):(sz L)[i]? =some r.1:=by simp[sz,h]
theorem yS{l:List Int}{i:Nat}{x:Int}(h:l[i]? =some x):(l.take (i+1)).sum=(l.take i).sum+x:=by rw[Wn,h];simp
theorem jX{l:List Int}(f:I_ l)(i:Nat):0<=(l.take i).sum/\(l.take i).sum<=l.sum:=by have K:=(f.sub (Xp i l)).nn;have Z:=XG (l₁:=l.take i) (l₂:=l.drop i);rw[WO]at Z;have:=(f.sub (Yh i l)).nn;omega
theorem vJ{l:List Int}(f:I_ l){i j:Nat}(h:i<=j):(l.take i).sum<=(l.take j).sum:=by have:=jX (f.sub (Xp j l)) i;rw[Yu,XN h]at this;exact this.2
theorem pa{h:a_}{v:V}{L:List (Int×Bool×Bool)}{i:Nat}(a:Y_ h v L)(f:I_ (sz L))(hi:i<=L.length):ao go 73 [v,ZZ (i:Int)] h fun u h'=>u=ZZ ((sz L).take i).sum/\h'=h:=by
 have f3:=f.2.2;rw[dq]at f3;refine ah ?_;simp[b_];refine aA (fun k env hh=>h=hh/\∃j:Nat,env.c_ 6=some (ZZ j)/\env.c_ 5=some (ZZ ((sz L).take j).sum)/\env.c_ 0=some v/\env.c_ 1=some (ZZ i)/\j<=i/\k=i-j) i oM ?_ ?_
 ·exact⟨rfl,0,iS,iS,iS,iS,oM,rfl⟩
 ·rintro k env hh ⟨rfl,j,g6,K,g0,g1,hj,rfl⟩;by_cases Z:(j:Int)<i
  ·let⟨b,o,r,e1,e2,e3,e4,e5,e6⟩:=Y_.ix a j oM;have ts:=yS (A6 e6);have t1:=jX f j;have t2:=jX f (j+1);have f2:=f.2.1;simp(disch:=omega)[b_,ag,g6,K,g0,g1,Z,e1,e2];refine s_ ⟨i-(j+1),oM,rfl,j+1,iS,iX,iX,iX,oM,rfl⟩
   done
  ·simp only[b_,seval,g6,K,g1,Z];rw[(oM:j=i)]
theorem qq{h:a_}{v:V}{L:List (Int×Bool×Bool)}(a:Y_ h v L)(f:I_ (sz L)):ao go 134 [v] h fun u h'=>u=ZZ (sz L).sum/\h'=h:=by refine ah ?_;simp[b_,a.t_];refine aa (pa a f (VZ _)) ?_;rintro _ _ ⟨rfl,Z⟩;replace Z:=Z.symm;subst Z;simp only[b_,seval];rw[Wj (by rw[dq];omega)]
theorem qV:∀{l:List Int}{x:Int},0≤x→x<l.sum→(l.take (aG l x).1).sum≤x∧x<(l.take ((aG l x).1+1)).sum∧(aG l x).2=x-(l.take (aG l x).1).sum
 |[],x,h0,h1=>by simp at h1;omega
 |s::l,x,h0,h1=>by simp only[aG];by_cases c:x<s;grind;simp only[if_neg c];have:=qV (l:=l) (x:=x-s) oM (by simp at h1;omega);simp only[List.take_succ_cons,List.sum_cons];omega
theorem tO{l:List Int}(f:I_ l){x:Int}(h0:0<=x)(Z:x<l.sum)(i:Nat):(l.take i).sum<=x↔i<=(aG l x).1:=by let⟨a,b,_⟩:=qV h0 Z;constructor;intro h;obtain c|c:=WY (aG l x).1 i;have:=vJ f (oM:(aG l x).1+1<=i);omega;exact c;intro h;have:=vJ f h;omega
theorem mt{h:a_}{v:V}{L:List (Int×Bool×Bool)}{x:Int}(a:Y_ h v L)(f:I_ (sz L))(K:1<=view)(h2:view<=2147483648):ao go 74 [v,ZZ view,ZZ x] h fun u h'=>u=ZZ (aX (sz L) view x)/\h'=h:=by have f1:=f.nn;have f2:=f.2.1;unfold aX;refine ah ?_;simp[b_];refine aa (qq a f) ?_;rintro _ _ ⟨rfl,Z⟩;replace Z:=Z.symm;subst Z;by_cases c1:(sz L).sum-view<x;simp(disch:=omega)[b_,ag,c1];apply aa (qq a f);rintro _ _ ⟨rfl,Z⟩;replace Z:=Z.symm;subst Z;by_cases c2:(sz L).sum-view<0;simp(disch:=omega) only[b_,seval,ag,c2];rw[(oM:min (max x 0) (max 0 ((sz L).sum-view))=0)];simp(disch:=omega) only[b_,seval,ag,c2];rw[(oM:min (max x 0) (max 0 ((sz L).sum-view))=(sz L).sum-view)];by_cases c2:x<0;simp(disch:=omega) only[b_,seval,ag,c1,c2];rw[(oM:min (max x 0) (max 0 ((sz L).sum-view))=0)];simp(disch:=omega) only[b_,seval,ag,c1,c2];rw[(oM:min (max x 0) (max 0 ((sz L).sum-view))=x)]
theorem Hi{h:a_}{v:V}{L:List (Int×Bool×Bool)}{s:Int}{i:Nat}(a:Y_ h v L)(f:I_ (sz L))(h1:1<=view)(h2:view<=2147483648)(s0:0<=s)(s1:s<=4611686018427387904)(hi:i<L.length):
 ao go 198 [v,ZZ view,ZZ s,ZZ (i:Int)] h fun u h'=>u=.h (decide (((sz L).take i).sum<s+view/\s<((sz L).take (i+1)).sum))/\h'=h:=by
 have f2:=f.2.1;let⟨b,o,r,K,e2,e3,e4,e5,e6⟩:=Y_.ix a i oM;have ts:=yS (A6 e6);have t1:=jX f i;have t2:=jX f (i+1);rw[ts];refine ah ?_;simp only[b_,seval,j_];refine aa (pa a f oM) ?_;rintro _ _ ⟨rfl,Z⟩;replace Z:=Z.symm;subst Z;by_cases c1:((sz L).take i).sum<s+view;simp(disch:=omega)[b_,j_,ag,c1];apply aa (pa a f oM);rintro _ _ ⟨rfl,Z⟩;replace Z:=Z.symm;subst Z;by_cases c2:s<((sz L).take i).sum+r.1;simp(disch:=omega)[b_,DF,j_,ag,K,e2];simp(disch:=omega)[b_,DF,j_,ag,K,e2];try simp
 simp(disch:=omega) only[b_,seval,DF,j_,ag,c1];try simp
theorem GC{l:List Int}(f:I_ l){view s:Int}{i:Nat}(h1:1<=view)(Z:0<=s)(K:s<l.sum)(hi:i<l.length):
 ((l.take i).sum<s+view/\s<(l.take (i+1)).sum)↔(aG l s).1<=i/\(i:Int)<=cR l view s:=by
 have a:=tO f Z K (i+1);have b:(l.take i).sum<s+view↔(i:Int)<=cR l view s:=by unfold cR;by_cases c:s+view-1<l.sum;rw[if_pos c];have:=tO f (x:=s+view-1) oM c i;omega;rw[if_neg c];have:=jX f i;omega
 rw[b];omega
theorem Bi{h:a_}{v:V}{L:List (Int×Bool×Bool)}{s:Int}(a:Y_ h v L)(f:I_ (sz L))(h1:1<=view)(h2:view<=2147483648)(o0:0<=over)(o1:over<=16)(s0:0<=s)(s1:s<(sz L).sum\/L=[])(hs:s<=4611686018427387904):
 ao go 135 [v,ZZ view,ZZ over,ZZ s] h fun u h'=>(u=if L=[]then .D [ZZ 0,ZZ 0]else .D [ZZ (cN (sz L) view over s).1,ZZ (cN (sz L) view over s).2])/\h'=h:=by
 have f3:=f.2.2;rw[dq]at f3;by_cases e0:L=[]
 ·subst e0;rw[if_pos rfl];have hz:aP .d [v]=some (ZZ 0):=a.t_;refine ah ?_;simp[b_];refine aA (fun k env K=>h=K/\env.c_ 12=some (ZZ 0)/\env.c_ 10=some (ZZ (-1))/\env.c_ 0=some v) 0 oM ⟨rfl,iS,iS,iS⟩ ?_;rintro k env K ⟨rfl,g12,Z,g0⟩;simp[b_,g12,Z,g0,hz]
 ·have s1:=s1.resolve_right e0;rw[if_neg e0];have ae:=bH s0 s1;rw[dq]at ae;obtain⟨F,hF⟩:∃F,F=(aG (sz L) s).1:=⟨_,rfl⟩;obtain⟨Tl,hT⟩:∃Tl,Tl=cR (sz L) view s:=⟨_,rfl⟩;have hl:=XT.2 e0;have bT:(F:Int)<=Tl/\Tl<L.length:=by
   rw[hT,hF];unfold cR;split
   ·have:=fH (sz L) (x:=s) (y:=s+view-1) oM;have:=bH (l:=sz L) (x:=s+view-1) oM (by assumption);rw[dq]at this;omega
   ·rw[dq];omega
  have e1:(cN (sz L) view over s)=(max 0 ((F:Int)-over),min (L.length:Int) (Tl+1+over)):=by unfold cN;rw[<-hF,<-hT,dq]
  rw[e1];rw[<-hF]at ae;refine ah ?_;simp[b_];refine aA (fun k env K=>h=K/\∃j:Nat,env.c_ 12=some (ZZ j)/\env.c_ 10=some (ZZ (if F<j then(F:Int)else-1))/\env.c_ 11=some (ZZ (if F<j then min (j:Int) (Tl+1)else 0))/\env.c_ 0=some v/\env.c_ 1=some (ZZ view)/\
   env.c_ 2=some (ZZ over)/\env.c_ 3=some (ZZ s)/\j<=L.length/\k=L.length-j) L.length oM ?_ ?_
  ·exact⟨rfl,0,iS,iS,iS,iS,iS,iS,iS,oM,rfl⟩
  ·rintro k env K ⟨rfl,j,g12,Z,g11,g0,g1,g2,g3,hj,rfl⟩;by_cases ac:(j:Int)<L.length
   ·have si:=GC f (view:=view) (i:=j) h1 s0 s1 (by rw[dq];omega);rw[<-hF,<-hT]at si;simp[b_,g12,g0,g1,g3,a.t_,ac];refine aa (Hi a f h1 h2 s0 hs oM) ?_;rintro _ _ ⟨rfl,K⟩;replace K:=K.symm;subst K;by_cases c:F<=j/\(j:Int)<=Tl
    ·have cc:=si.2 c;by_cases d:F<j
     ·rw[if_pos d]at Z g11;simp(disch:=omega)[b_,ag,eq_true cc,g12,Z,(oM:¬(F:Int)<0)];refine s_ ⟨L.length-(j+1),oM,rfl,j+1,iS,(by simp[Z];omega),oO,iX,iX,iX,iX,oM,rfl⟩
      done
     ·rw[if_neg d]at Z g11;have ej:j=F:=oM
      simp(disch:=omega)[b_,ag,eq_true cc,g12,Z];refine s_ ⟨L.length-(j+1),oM,rfl,j+1,iS,iX,oO,iX,iX,iX,iX,oM,rfl⟩
      done
    ·have cc:¬(((sz L).take j).sum<s+view/\s<((sz L).take (j+1)).sum):=fun x=>c (si.1 x);simp(disch:=omega)[b_,ag,eq_false cc,g12];refine s_ ⟨L.length-(j+1),oM,rfl,j+1,iS,(by simp[Z];split<;>split<;>omega),(by simp[g11];split<;>split<;>omega),iX,iX,iX,iX,oM,rfl⟩
     done
   ·have ej:j=L.length:=oM
    subst ej;rw[if_pos oM]at Z g11;simp(disch:=omega) only[b_,seval,ag,g12,Z,g11,g0,g2,a.t_,ac,(oM:¬(F:Int)<0)];rw[(oM:min (L.length:Int) (Tl+1)=Tl+1)]
def C?(l:List Int)(bs:List Bool)(s:Int)(j:Nat)(r:Int):Prop:=(r=-1/\∀i:Nat,i<j->bs.getD i false=true->s<(l.take i).sum)\/
 ∃p:Nat,r=p/\p<j/\bs.getD p false=true/\(l.take p).sum<=s/\∀i:Nat,p<i->i<j->bs.getD i false=true->s<(l.take i).sum
theorem Mr{L:List (Int×Bool×Bool)}{i:Nat}{r:Int×Bool×Bool}(h:L[i]? =some r):(sy L).getD i false=r.2.2:=by simp[sy,h]
theorem C?.a{l:List Int}{s r:Int}{j:Nat}(a:C? l bs s j r)(h:bs.getD j false=true->s<(l.take j).sum):C? l bs s (j+1) r:=by obtain⟨e,a⟩|⟨p,e,h1,h2,h3,h4⟩:=a;refine .inl ⟨e,fun i hi Z=>?_⟩;obtain c|c:=WY i j;exact a i c Z;grind;refine .inr ⟨p,e,oM,h2,h3,fun i K hi Z=>?_⟩;obtain c|c:=WY i j;exact h4 i K c Z;grind
theorem Hj{h:a_}{v:V}{L:List (Int×Bool×Bool)}{s:Int}(a:Y_ h v L)(f:I_ (sz L)):ao go 136 [v,ZZ s] h fun u h'=>(∃r,u=ZZ r/\C? (sz L) (sy L) s L.length r)/\h'=h:=by
 have f3:=f.2.2;rw[dq]at f3;refine ah ?_;simp[b_];refine aA (fun k env K=>h=K/\∃(j:Nat)(r:Int),env.c_ 6=some (ZZ j)/\env.c_ 5=some (ZZ r)/\env.c_ 0=some v/\env.c_ 1=some (ZZ s)/\j<=L.length/\C? (sz L) (sy L) s j r/\k=L.length-j) L.length oM ?_ ?_
 ·exact⟨rfl,0,-1,iS,iS,iS,iS,oM,.inl ⟨rfl,oM⟩,rfl⟩
 ·rintro k env K ⟨rfl,j,r,g6,g5,g0,g1,hj,hd,rfl⟩;by_cases Z:(j:Int)<L.length
  ·let⟨b,o,q,e1,e2,e3,e4,e5,e6⟩:=Y_.ix a j oM;have sg:=Mr e6;cases hq:q.2.2
   ·rw[hq]at e4 sg;simp(disch:=omega) only[b_,seval,ag,g6,g0,a.t_,Z,e1,e4];refine s_ ⟨L.length-(j+1),oM,rfl,j+1,r,iS,iX,iX,iX,oM,hd.a (fun h=>by rw[sg]at h;cases h),rfl⟩
    done
   ·rw[hq]at e4 sg;simp only[b_,seval,g6,g0,a.t_,Z,e1,e4];refine aa (pa a f oM) ?_;rintro _ _ ⟨rfl,K⟩;replace K:=K.symm;subst K;by_cases c:((sz L).take j).sum<=s
    ·simp(disch:=omega) only[b_,seval,ag,g6,g1,c];refine s_ ⟨L.length-(j+1),oM,rfl,j+1,j,iS,iS,iX,iX,oM,.inr ⟨j,rfl,oM,sg,c,oM⟩,rfl⟩
     done
    ·simp(disch:=omega) only[b_,seval,ag,g6,g1,c];refine s_ ⟨L.length-(j+1),oM,rfl,j+1,r,iS,iX,iX,iX,oM,hd.a (fun _=>by omega),rfl⟩
     done
  ·simp only[b_,seval,g6,g5,g0,a.t_,Z];rw[(oM:L.length=j)];exact⟨r,rfl,hd⟩
def qJ(f t hd:Int)(n:Nat):List Int:=((List.range n).filter fun(i:Nat)=>decide ((f<=(i:Int)/\(i:Int)<t)\/(i:Int)=hd)).map fun(i:Nat)=>(i:Int)
theorem wQ(f t Z:Int)(n:Nat):qJ f t Z (n+1)=qJ f t Z n++if(f<=(n:Int)/\(n:Int)<t)\/(n:Int)=Z then[(n:Int)]else[]:=by unfold qJ;rw[YM,Xu,Xe];congr 1;by_cases c:(f<=(n:Int)/\(n:Int)<t)\/(n:Int)=Z;grind;grind
theorem AI(f t Z:Int)(n:Nat):(qJ f t Z n).length<=n:=by unfold qJ;rw[Xd];exact Wy (Ys _ _) iS
def ic(x:Int):List V:=[ZZ x]
theorem t7(x:Int):(ic x).length=1:=rfl
theorem CU(A:List Int):A.flatMap ic=A.map (V.A .i64):=by induction A with
 |nil=>rfl
 |cons x A ih=>simp[ic,ih]
theorem JW{h:a_}{v:V}{L:List (Int×Bool×Bool)}{s:Int}(w:WF h)(a:Y_ h v L)(f:I_ (sz L))(h1:1<=view)(h2:view<=2147483648)(o0:0<=over)(o1:over<=16)(s0:0<=s)(s1:s<(sz L).sum\/L=[])(hs:s<=4611686018427387904):
 ao go 75 [v,ZZ view,ZZ over,ZZ s] h fun u h'=>Fr [] h h'/\∃hd,C? (sz L) (sy L) s L.length hd/\lP h' u (if L=[]then[]else qJ (cN (sz L) view over s).1 (cN (sz L) view over s).2 hd L.length):=by
 have f3:=f.2.2;rw[dq]at f3;refine ah ?_;simp[b_];refine aa (Bi a f h1 h2 o0 o1 s0 s1 hs) ?_;rintro _ _ ⟨rfl,hh⟩;replace hh:=hh.symm;subst hh;obtain⟨fr,Z,an⟩:∃fr Z:Int,(if L=[]then V.D [ZZ 0,ZZ 0]else .D [ZZ (cN (sz L) view over s).1,ZZ (cN (sz L) view over s).2])=.D [ZZ fr,ZZ Z]/\(L≠[]->fr=(cN (sz L) view over s).1/\Z=(cN (sz L) view over s).2):=by
  by_cases e:L=[]
  ·rw[if_pos e];exact⟨0,0,rfl,fun x=>absurd e x⟩
  ·rw[if_neg e];exact⟨_,_,rfl,fun _=>⟨rfl,rfl⟩⟩
 rw[an.1];simp[b_];apply aa (Hj a f);rintro _ _ ⟨⟨hd,rfl,ax⟩,hh⟩;replace hh:=hh.symm;subst hh;simp[b_];refine aA (fun k env hh=>∃(j:Nat)(vo:V),Fr [] h hh/\env.c_ 13=some (ZZ j)/\env.c_ 9=some (ZZ fr)/\env.c_ 10=some (ZZ Z)/\env.c_ 11=some (ZZ hd)/\env.c_ 12=some vo/\env.c_ 0=some v/\j<=L.length/\
  F_ ic 1 hh h.e vo (qJ fr Z hd j)/\k=L.length-j) L.length oM ?_ ?_
 ·exact⟨0,.r,Wl w,iS,iS,iS,iS,iS,iS,oM,Zs,rfl⟩
 ·rintro k env hh ⟨j,vo,F,g13,g9,ak,g11,g12,g0,hj,gO,rfl⟩;by_cases ae:(j:Int)<L.length
  ·have al:=AI fr Z hd j;have K:=wQ fr Z hd j;by_cases c:(fr<=(j:Int)/\(j:Int)<Z)\/(j:Int)=hd
   ·rw[if_pos c]at K;let⟨h5,af,ac,ar⟩:=aq F.o [ZZ (j:Int)];have sG:(fr<=(j:Int)/\(j:Int)<Z)\/(fr<=(j:Int)/\¬(j:Int)<Z/\(j:Int)=hd)\/(¬fr<=(j:Int)/\(j:Int)=hd):=oM
    obtain t1|t1|t1:=sG
    case' inl=>simp only[b_,seval,g13,g9,ak,g12,g0,(a.fr F).t_,ae,eq_true t1.1,eq_true t1.2,<-af]
    case' inr.inl=>simp only[b_,seval,g13,g9,ak,g11,g12,g0,(a.fr F).t_,ae,eq_true t1.1,eq_false t1.2.1,eq_true t1.2.2,<-af]
    case' inr.inr=>simp only[b_,seval,g13,g9,g11,g12,g0,(a.fr F).t_,ae,eq_false t1.1,eq_true t1.2,<-af]
    all_goals
     apply YA (x:=(j:Int)) ac.o (gO.fr ac) t7 rfl oM ar (Wy F.e ac.e) oM;intro v' h6 g6 F6;have U6:=Gs.up (gO.fr ac) F6;simp(disch:=omega) only[b_,seval,ag,g13];refine s_ ⟨L.length-(j+1),oM,j+1,v',(F.c ac).ups w U6,iS,iX,iX,iX,iS,iX,oM,by rw[K];exact g6,rfl⟩
     done
   ·rw[if_neg c,Xg]at K;have two:(fr<=(j:Int)/\¬(j:Int)<Z/\¬(j:Int)=hd)\/(¬fr<=(j:Int)/\¬(j:Int)=hd):=oM
    obtain t1|t1:=two
    case' inl=>simp(disch:=omega) only[b_,seval,ag,g13,g9,ak,g11,g0,(a.fr F).t_,ae,eq_true t1.1,eq_false t1.2.1,eq_false t1.2.2]
    case' inr=>simp(disch:=omega) only[b_,seval,ag,g13,g9,g11,g0,(a.fr F).t_,ae,eq_false t1.1,eq_false t1.2]
    all_goals
     refine s_ ⟨L.length-(j+1),oM,j+1,vo,F,iS,iX,iX,iX,iX,iX,oM,by rw[K];exact gO,rfl⟩
     done
  ·simp[b_,g13,g12,g0,(a.fr F).t_,ae];refine⟨F,hd,ax,?_⟩;have ej:j=L.length:=oM
   subst ej;have:=gO.recs t7 oM;by_cases e:L=[]
   ·subst e;rw[if_pos rfl];exact this
   ·let⟨e1,e2⟩:=an.2 e;rw[if_neg e,<-e1,<-e2];show Sl _ 1 _ _ _;rw[<-CU];exact this
def RwF(h:a_)(v:V)(L:List (Int×Bool×Bool)):Prop:=(v=.r/\L=[])\/∃b,(v=.G b 0 L.length 3\/v=.y b 0 L.length L.length)/\e_ h b (L.flatMap rc)/\0<L.length
theorem RwF.fr{h:a_}{v:V}{L:List (Int×Bool×Bool)}(a:RwF h v L)(f:Fr [] h h'):RwF h' v L:=by obtain x|⟨b,e,o,p⟩:=a;exact .inl x;exact .inr ⟨b,e,f.i o,p⟩
theorem Hh{L:List (Int×Bool×Bool)}(p:0<L.length):∀n m ws,ws.length=64->L.flatMap rc≠P7 n m ws:=by
 intro n m ws _ e;cases L with
 |nil=>simp at p
 |cons r L=>
  have:V.h r.2.1∈P7 n m ws:=by rw[<-e];simp[rc]
  simp[P7,uw]at this
theorem RwF.frF{h:a_}{v:V}{L:List (Int×Bool×Bool)}{b:Nat}{c:List V}(a:RwF h v L)(f:Z3 b h h')(o:e_ h b c)(hc:∀x∈c,∀k n,x≠.A k n):RwF h' v L:=by
 obtain x|⟨q,e,Z,p⟩:=a;exact .inl x;refine .inr ⟨q,e,f.a _ _ ?_ (Hh p) Z,p⟩;rintro rfl;cases L with
 |nil=>simp at p
 |cons r L=>exact hc (ZZ r.1) (by rw[<-Z.uniq o];simp[rc]) _ _ rfl
def uc(p:Nat×Nat):List V:=[ZY (p.1:Int),ZY (p.2:Int)]
theorem Ge(p:Nat×Nat):(uc p).length=2:=rfl
structure Y3(L:List (Int×Bool×Bool)):Prop where
 d:L.length<=1024
 e:∀r∈L,1<=r.1/\r.1<=2305843009213693952
 g:(sz L).sum<=4611686018427387904
theorem Y3.a{L:List (Int×Bool×Bool)}(g:Y3 L):I_ (sz L):=by refine⟨fun x Z=>?_,g.g,by rw[dq];have:=g.d;omega⟩;simp only[sz,WP]at Z;obtain⟨r,K,rfl⟩:=Z;have:=g.e r K;omega
theorem Y3.c{L:List (Int×Bool×Bool)}(g:Y3 L):∀x∈sz L,1<=x:=by intro x Z;simp only[sz,WP]at Z;obtain⟨r,K,rfl⟩:=Z;exact(g.e r K).1
def bc(x:Bool):List V:=[.h x]
theorem GRecs.a{β:Type}{f:α->List V}{g:β->List V}{k k' B B':Nat}{h:a_}{v K:V}{L:List α}{M:List β}(a:F_ f k h B v L)(b:F_ g k' h B' K M)(F:Fr (vb K) h h')
 (hd:∀(n:Nat),L.flatMap f=M.flatMap g->(L.flatMap f).length=n*k->¬0<n):F_ f k h' B v L:=by
 obtain x|⟨q,n,rfl,Z,hn,hB,o⟩:=a;exact .inl x;refine .inr ⟨q,n,rfl,Z,hn,hB,F.I _ _ ?_ o⟩;obtain⟨rfl,_⟩|⟨q',n',rfl,_,_,_,o'⟩:=b;simp[vb];simp[vb];rintro rfl;exact hd n (o.uniq o') Z hn
theorem jC{p:Nat}(h:bs.getD p false=true):(bs.take (p+1)).count true=(bs.take p).count true+1:=by
 rw[Wn];cases Z:bs[p]? with
 |none=>simp[Z]at h
 |some x=>simp[Z]at h;subst h;simp
theorem ut{p:Nat}(h:bs.getD p false=false):(bs.take (p+1)).count true=(bs.take p).count true:=by
 rw[Wn];cases Z:bs[p]? with
 |none=>simp
 |some x=>simp[Z]at h;subst h;simp
theorem Ax(bs:List Bool){p q:Nat}(h:p<=q):(bs.take p).count true<=(bs.take q).count true:=by
 have:bs.take p=(bs.take q).take p:=by grind
 rw[this];exact List.Sublist.count_le _ (Xp _ _)
theorem C8{p q:Nat}(h:p<=q)(Z:∀i,p<=i->i<q->bs.getD i false=false):(bs.take q).count true=(bs.take p).count true:=by
 obtain⟨k,rfl⟩:∃k,q=p+k:=⟨q-p,oM⟩;induction k with
 |zero=>rfl
 |succ k ih=>rw[(oM:p+(k+1)=(p+k)+1),ut (Z (p+k) oM oM),ih oM (fun i a b=>Z i a oM)]
theorem Sel.b{k p q:Nat}(a:Sel bs k p)(b:Sel bs k q):p=q:=by let⟨_,Z,K⟩:=a;let⟨_,b2,b3⟩:=b;obtain h|h|h:=ZP p q;have:=Ax bs (oM:p+1<=q);rw[jC Z]at this;omega;exact h;have:=Ax bs (oM:q+1<=p);rw[jC b2]at this;omega
theorem Kz{l:List Int}{s hr he hd:Int}(f:I_ l)(hl:bs.length=l.length)(Z:0<=s)(K:s<l.sum)(ae:l≠[])(a:V9 l bs s hr he)(b:C? l bs s l.length hd):
 (hd=-1/\he=11/\hr=0)\/(∃p:Nat,hd=p/\hr=p/\he=0/\p<l.length/\p<=(aG l s).1/\bs.getD p false=true):=by
 have lt:=bH Z K;unfold V9 at a;rw[if_neg iX,if_pos ⟨Z,K⟩]at a;obtain⟨e,ac⟩|⟨p,e,h1,h2,h3,h4⟩:=b;have z:(bs.take ((aG l s).1+1)).count true=0:=by
  have:=C8 (bs:=bs) (p:=0) (q:=(aG l s).1+1) oM (fun i _ hi=>by
   cases hb:bs.getD i false;rfl;have:=ac i oM hb;have:=(tO f Z K i).2 oM;omega)
  simpa using this
 rw[if_pos z]at a;exact .inl ⟨e,a.2,a.1⟩;have hp:=(tO f Z K p).1 h3;have c:(bs.take ((aG l s).1+1)).count true=(bs.take p).count true+1:=by rw[<-jC h2];refine C8 oM fun i a b=>?_;cases hb:bs.getD i false;rfl;have:=h4 i oM oM hb;have:=(tO f Z K i).2 oM;omega
 rw[if_neg oM]at a;let⟨e0,q,e1,sq⟩:=a;have:q=p:=Sel.b sq ⟨oM,h2,oM⟩;subst this;exact .inr ⟨q,e,e1,e0,h1,hp,h2⟩
theorem pV(f t hd:Int)(hf:0≤f)(hft:f≤t)(hh:hd<t):∀j:Nat,qJ f t hd j=(if 0≤hd∧hd<f∧hd<(j:Int)then[hd]else[])++X6 f (min (j:Int) t-f).toNat
 |0=>by rw[if_neg oM,(oM:(min ((0:Nat):Int) t-f).toNat=0)];rfl
 |j+1=>by have q:=wQ f t hd j;rw[pV f t hd hf hft hh j]at q;obtain⟨X,hX⟩:∃X,X=(if(f≤(j:Int)∧(j:Int)<t)∨(j:Int)=hd then[(j:Int)]else[]):=⟨_,rfl⟩;rw[q];clear q;rw[←hX];by_cases c1:f≤(j:Int)∧(j:Int)<t;rw[if_pos (.inl c1)]at hX;rw[hX,List.append_assoc];have e1:(min ((j+1:Nat):Int) t-f).toNat=(min (j:Int) t-f).toNat+1:=oM;rw[e1,tr];have e2:f+((min (j:Int) t-f).toNat:Int)=j:=oM;rw[e2];congr 1;by_cases c2:0≤hd∧hd<f∧hd<(j:Int);grind;grind;by_cases c2:(j:Int)=hd;rw[if_pos (.inr c2)]at hX;rw[hX,if_neg oM,if_pos oM,(oM:(min ((j+1:Nat):Int) t-f).toNat=0),(oM:(min (j:Int) t-f).toNat=0),c2];simp[X6];grind
theorem Nr{l:List Int}{s hd:Int}{A:List Int}(f:I_ l)(hl:bs.length=l.length)(s0:0<=s)(s1:s<l.sum)(ae:l≠[])(h1:1<=view)(o0:0<=over)(a:NW l bs view over s A)(b:C? l bs s l.length hd):
 A=qJ (cN l view over s).1 (cN l view over s).2 hd l.length:=by
 let⟨hr,he,hs,e⟩:=a;have ak:=bH s0 s1;have af:=XT.2 ae;have ll:((aG l s).1:Int)<=cR l view s/\cR l view s<l.length:=by unfold cR;split;have:=fH l (x:=s) (y:=s+view-1) oM;have:=bH (l:=l) (x:=s+view-1) oM (by assumption);omega;omega
 obtain⟨fr,ac⟩:∃fr,fr=(cN l view over s).1:=⟨_,rfl⟩;obtain⟨Z,K⟩:∃t,t=(cN l view over s).2:=⟨_,rfl⟩;rw[<-ac,<-K]at e|-;have e1:fr=max 0 (((aG l s).1:Int)-over):=ac;have e2:Z=min (l.length:Int) (cR l view s+1+over):=K;obtain⟨x1,x2,x3⟩|⟨p,x1,x2,x3,x4,x5,_⟩:=Kz f hl s0 s1 ae hs b;rw[pV fr Z hd oM oM oM l.length,if_neg oM,e,if_neg oM,(oM:min (l.length:Int) Z=Z)];rw[pV fr Z hd oM oM oM l.length,e,(oM:min (l.length:Int) Z=Z)];congr 1;by_cases c:hr<fr;grind;grind
structure Hp(h:a_)(b fb:Nat)(v:V)(L:List (Int×Bool×Bool))(view over:Int):Prop where
 l:WF h
 c:R_ h
 e:Lo h b (sz L) (ky L) (sy L)
 d:e_ h fb [ZZ view,ZZ over,.h false]
 i:Y_ h v L
 a:Y3 L
 j:1<=view
 k:view<=300
 f:0<=over
 g:over<=16
theorem Hp.b{h:a_}{b fb:Nat}{v:V}{L:List (Int×Bool×Bool)}(H:Hp h b fb v L view over)(F:Fr [] h h'):Hp h' b fb v L view over:=
 ⟨F.o,H.c.fr F,H.e.fr F,F.i H.d,Xn H.i F,H.a,H.j,H.k,H.f,H.g⟩
theorem Y3.b{L:List (Int×Bool×Bool)}(g:Y3 L)(h:L≠[]):1<=(sz L).sum:=gW g.c (by intro e;apply h;have:=congrArg List.length e;rw[dq]at this;exact Wu.1 this)
theorem Gk(a b:Int)(h:b≠0):aP (.e .rem) [ZZ a,ZZ b]=some (ZZ (a.tmod b)):=jD _ _ _ h
theorem A5:∀n m ws,ws.length=64->gq≠P7 n m ws:=by intro n m ws Z e;have:=congrArg List.length e;simp[P7,Z,gq]at this;exact absurd this dI
theorem R_.frF{h:a_}{b:Nat}(g:R_ h)(f:Z3 b h h')(hb:0≠b):R_ h':=f.l _ _ hb A5 g
theorem Ii{h:a_}{b:Nat}(w:WF h)(f:Fl h b bs):ao go 106 [.u b 0] h fun u h'=>∃c,u=.u c 0/\h.e<=c/\Fl h' c bs/\Fr [] h h':=by
 let⟨Z,o,ok,hn⟩:=f;have q2:aj h b 0 66=some (P7 (bs.length:Int) (bs.count true:Int) Z):=by rw[o.N,bQ,bN _ _ (by simp[c7,ok.t_])];rw[YG,Wj (by simp[c7,ok.t_])]
 have K:(P7 (bs.length:Int) (bs.count true:Int) Z).length=66:=by simp[c7,ok.t_]
 have on:aw (P7 (bs.length:Int) (bs.count true:Int) Z)=true:=by
  unfold P7;have:∀l:List Nat,aw (l.map uw)=true:=fun l=>by induction l with
   |nil=>rfl
   |cons x l ih=>simp;rw[aw];simp[uw,V.U]
  rw[au,au,this];rfl
 refine ah ?_;simp[b_,q2];refine ai (c':=P7 (bs.length:Int) (bs.count true:Int) Z) (WA w _).o (Xc w _) K on (by rw[cD _ _ _ (by rw[V.s,K];simp)];simp[V.s,K]) ?_;rintro h3 o3 F3 n3;simp only[b_,seval];exact⟨h.e,rfl,VZ _,⟨Z,o3,ok,hn⟩,(WA w _).z F3 w (VZ _)⟩
def pM(n:Nat)(a k:Int):Prop:=a<0\/k<0\/(n:Int)<a\/(n:Int)-a<k
instance (n : Nat) (a k : Int) : Decidable (pM n a k) := by unfold pM; infer_instance
def N3(n:Nat)(a k t:Int):Prop:=pM n a k\/t<0\/(n:Int)-k<t
instance (n : Nat) (a k t : Int) : Decidable (N3 n a k t) := by unfold N3; infer_instance
def kP{α:Type}(l:List α)(a k:Nat):List α:=l.take a++(l.drop a).drop k
theorem tu(l:List α)(a k:Nat):(kP l a k).Sublist l:=by have:(l.take a++(l.drop a).drop k).Sublist (l.take a++l.drop a):=List.Sublist.append (Yx _) (Yh _ _);rwa[WO]at this
def rmv(a n:Int)(f:Int->Bool)(x:Int):Bool:=if x<a then f x else f (x+n)
theorem Ha{l:List α}{a k:Nat}(h:a+k<=l.length):(kP l a k).length=l.length-k:=by unfold kP;simp;omega
theorem Hb{l:List α}{a k:Nat}(h:a<=l.length)(i:Nat):(kP l a k)[i]? =if i<a then l[i]? else l[i+k]? :=by unfold kP;by_cases c:i<a;grind;grind
theorem Ee{l:List Bool}{a k:Nat}(h:a<=l.length)(i:Nat):(kP l a k).getD i false=if i<a then l.getD i false else l.getD (i+k) false:=by rw[Xo,Hb h];split<;>simp
theorem KY{n:Nat}{a k:Int}(c:¬pM n a k):0<=a/\0<=k/\a.toNat+k.toNat<=n:=by unfold pM at c;omega
theorem Kn.rem{L Z:List (Int×Int)}{a k:Int}(K:Kn L ks)(c:¬pM ks.length a k)(ok:P6 Z (-1))(e:∀x,P4 Z x=rmv a k (P4 L) x)(le:∀s∈Z,s.2<=(ks.length:Int)-k):Kn Z (kP ks a.toNat k.toNat):=by let⟨c0,c1,c2⟩:=KY c;have hl:=Ha c2;refine⟨ok,fun s hs=>by rw[hl];have:=le s hs;omega,fun i=>?_⟩;rw[e,Ee oM];unfold rmv;by_cases q:(i:Int)<a;rw[if_pos q,if_pos oM,K.eq];rw[if_neg q,if_neg oM,(oM:(i:Int)+k=((i+k.toNat:Nat):Int)),K.eq]
def Q4(h:a_)(b:Nat)(pm:Option Nat)(l:List Int)(ks bs:List Bool):Prop:=∃p vk,e_ h b [pv p,vk,pv pm]/\vk.U=true/\Ix h (.B [pv p,vk]) l ks/\Mk h pm bs/\bs.length=l.length
theorem Q4.lo{h:a_}{b:Nat}{l:List Int}(a:Q4 h b pm l ks bs):Lo h b l ks bs:=by let⟨p,Z,x⟩:=a;exact⟨p,Z,pm,x⟩
theorem Lo.p{h:a_}{b:Nat}{l:List Int}(a:Lo h b l ks bs):∃pm,Q4 h b pm l ks bs:=by let⟨p,Z,pm,x⟩:=a;exact⟨pm,p,Z,x⟩
theorem Q4.fr{h:a_}{b:Nat}{l:List Int}(a:Q4 h b pm l ks bs)(f:Fr [] h h'):Q4 h' b pm l ks bs:=by let⟨p,Z,o,v1,ix,mk,e⟩:=a;exact⟨p,Z,f.i o,v1,ix.fr f,mk.fr f,e⟩
abbrev u?(b:Nat)(pm:Option Nat)(h h':a_):Prop:=Fr (b::pm.toList) h h'
theorem frQ{h:a_}{b:Nat}(f:Fr [] h h'):u? b pm h h':=⟨f.e,f.o,fun _ _ _ o=>f.i o,fun _ _ _ o=>f.pl _ _ iS o,f.lp,f.ro⟩
theorem u?.b{h:a_}{b:Nat}(a:u? b pm h h1)(f:Fr [b] h1 h2)(w:WF h):u? b pm h h2:=Wp a f w (fun x hx=>.inl hx) (fun x hx=>.inl (by simp at hx;simp[hx]))
theorem u?.q{h:a_}{b q:Nat}(a:u? b pm h h1)(f:Fr [q] h1 h2)(w:WF h)(K:pm=some q\/h.e<=q):u? b pm h h2:=by refine Wp a f w (fun x Z=>.inl Z) (fun x Z=>?_);simp at Z;subst Z;obtain e|e:=K;left;simp[e];exact .inr e
theorem u?.c{h:a_}{b:Nat}(a:u? b pm h h1)(f:Fr [] h1 h2)(w:WF h):u? b pm h h2:=Wp a f w (fun x hx=>.inl hx) iS
theorem AU{h:a_}{b:Nat}{l m:List Int}{st:List Bool}{i:Int}{u v:V}(w:WF h)(a:Q4 h b pm l ks bs)(am:lP h u m)(as:P9 h v st)(hm:m.length<=1000000)(bg:st.length=m.length)(i0:-9223372036854775808<=i)(i1:i<=9223372036854775807):
 ao go 177 [.u b 0,ZZ i,u,v] h fun z h'=>z=ZZ (c9 l i m)/\u? b pm h h'/\∃pm',(pm'=pm\/(pm=none/\∀q,pm'=some q->h.e<=q))/\(if c9 l i m=0 then Q4 h' b pm' (l.take i.toNat++m++l.drop i.toNat) (ks.take i.toNat++List.replicate m.length false++ks.drop i.toNat) (bs.take i.toNat++st++bs.drop i.toNat)else Q4 h' b pm' l ks bs):=by
 have al:=a;let⟨p,vk,o,v1,ix,mk,e⟩:=a;have bt:((m.length:Nat):Int)=st.length:=oM
 refine ah ?_;simp only[b_,seval,am.t_,as.t_,eq_true bt,o.N];refine aa (Ld w ix am hm i0 i1) ?_;rintro _ K ⟨F1,c,d,rfl,hc,hd,hx⟩;let⟨h2,a2,ay,a0⟩:=aq F1.o [.O,.r];simp only[b_,seval,<-a2];apply ai (c':=[c,d]) ay.o a0 rfl (by simp[aw,V.s,hc,hd]) rfl;rintro h3 o3 F3 n3;have af:Fr [] K h3:=ay.z F3 F1.o (VZ _);have Z:=F1.c af;by_cases z:c9 l i m=0
 ·have ar:=hx z;obtain⟨p',rfl⟩:=ar.form;have hi:0<=i/\i<=l.length/\l.length+m.length<=1024:=by
   unfold c9 at z;by_cases c1:0<=i/\i<=l.length
   ·omega
   ·omega
  by_cases c0:(m.length:Int)=0
  ·have bi:m=[]:=Wu.1 oM;have bh:st=[]:=Wu.1 oM;subst bi bh;simp only[b_,seval,eq_true z,am.t_];refine⟨frQ Z,pm,.inl rfl,?_⟩;simpa using al.fr Z
  ·obtain⟨k,rfl⟩:∃k:Nat,i=k:=⟨i.toNat,oM⟩;simp only[pi]at hx ar|-;have blt:b<K.e:=Xh (o.lt w) F1.e;have aT:=ix.noint;have a4:=ix.nobool
   -- the marks are there
   cases pm
   case' none=>
    have mk:bs=[]:=mk;simp only[b_,seval,eq_true z,am.t_,eq_false c0,(Z.i o).j];apply aa (KO af.o);rintro _ h4 ⟨q,rfl,hq,bk,F4⟩;simp only[b_,seval];have ae:=Z.c F4;apply B_ F4.o (ae.i o);rintro H oH F5 n5;have FH:u? b none h H:=(frQ ae).b F5 w;have aH:(none:Option Nat)=some q\/h.e<=q:=.inr (Wy Z.e hq);have aN:some q=(none:Option Nat)\/((none:Option Nat)=none/\∀q',some q=some q'->h.e<=q'):=.inr ⟨rfl,fun q' e=>by cases e;exact Wy Z.e hq⟩;have ac:Fl H q bs:=Mk.frb (pm:=some q) (show Mk h4 (some q) bs from mk▸bk) F5 (ae.i o) rfl;have a5:=(ar.fr (af.c F4)).frb F5 (ae.i o) iS (Eo (CJ aT));have az:=F5.I _ _ oO (F4.i o3);have a8:=P9.frl (as.fr ae) F5 (ae.i o) oH (nobool a4) rfl;have a6:=F5.o;simp only[b_,seval,oH.j,am.t_]
   case' some q=>
    have ac:Fl h3 q bs:=Fl.fr mk Z;obtain⟨H,eH⟩:∃H,H=h3:=⟨h3,rfl⟩;have oH:e_ H b [pv p,vk,.u q 0]:=eH▸Z.i o;have FH:u? b (some q) h H:=eH▸frQ Z;have aH:some q=some q\/h.e<=q:=.inl rfl;have aN:some q=some q\/(some q=none/\∀q',some q=some q'->h.e<=q'):=.inl rfl;have a5:=eH▸ar.fr af;have az:=eH▸o3;have a8:=eH▸as.fr Z;have a6:WF H:=eH▸af.o;rw[<-eH]at ac;simp only[b_,seval,eq_true z,am.t_,eq_false c0,(Z.i o).j,aO];rw[<-eH]
   all_goals
    have qb:q≠b:=by
     rintro rfl;let⟨ws,oq,ok,_⟩:=ac;have:=congrArg List.length (oq.uniq oH);rw[c7,ok.t_]at this;simp at this
    apply aa (KR (a:=k) (n:=m.length) (v:=false) a6 ac oM oM);rintro _ h6 ⟨rfl,a7,F6⟩;have ax:=F6.I _ _ oO oH;have ix6:=a5.frf F6 ac;have qx:q≠K.e:=by
     rintro rfl;let⟨ws,oq,ok,_⟩:=ac;have:=congrArg List.length (oq.uniq az);rw[c7,ok.t_]at this;simp at this
    have a9:=F6.I _ _ oO az;have bf:P9 h6 v st:=by
     let⟨ws,oq,ok,_⟩:=ac;let⟨bw,aJ,ok',_⟩:=a7;exact P9.frb a8 F6 oq aJ (by rw[ok'.t_,ok.t_])
    simp only[b_,seval,a9.N];apply ai (c':=[pv p',d,.u q 0]) F6.o ax rfl (by simp[aw,V.s,hc,hd]) rfl;rintro h7 o7 F7 n7;have bn:Fl h7 q _:=Mk.frb (pm:=some q) a7 F7 ax rfl;have bz:=ix6.frb F7 ax iS (Eo (CJ (pm:=some q) aT));have a3:=P9.frl bf F7 ax o7 (nobool (pm:=some q) a4) rfl;have ba:=(FH.q F6 w aH).b F7 w;simp only[b_,seval,a3.t_];obtain⟨PP,bu,bv,bm,bj⟩:∃PP:a_->Prop,PP h7/\(∀K h2,PP K->Fr [q] K h2->PP h2)/\(∀K,PP K->WF K)/\(∀K,PP K->u? b _ h K):=⟨_,ba,fun K h2 x f=>u?.q x f w aH,fun K x=>Fr.o x,fun K x=>x⟩;refine aA (fun n env hh=>∃j:Nat,env.c_ 71=some (ZZ j)/\env.c_ 70=some (ZZ st.length)/\env.c_ 69=some v/\env.c_ 0=some (.u b 0)/\env.c_ 1=some (ZZ k)/\j<=st.length/\PP hh/\
     e_ hh b [pv p',d,.u q 0]/\Fl hh q (bs.take k++(st.take j++List.replicate (st.length-j) false)++bs.drop k)/\Ix hh (.B [pv p',d]) (l.take k++m++l.drop k) (ks.take k++List.replicate m.length false++ks.drop k)/\P9 hh v st/\n=st.length-j) st.length oM ?_ ?_
    ·exact⟨0,iS,iS,iS,iS,iS,oM,bu,o7,by simpa[bg]using bn,bz,a3,rfl⟩
    ·rintro n env hh ⟨j,ak,aR,a1,g0,g1,hj,FF,oo,ff,ii,ss,rfl⟩;by_cases an:(j:Int)<st.length
     ·let⟨bb,bA,x,q1,q2,q3⟩:=ss.ix .i64 j oM an;simp at q3;cases x
      ·simp(disch:=omega) only[b_,seval,ag,ak,aR,a1,an,q1,q2];rw[EE q3]at ff;refine s_ ⟨st.length-(j+1),oM,j+1,iS,iX,iX,iX,iX,oM,FF,oo,ff,ii,ss,rfl⟩
       done
      ·simp(disch:=omega) only[b_,seval,ag,ak,aR,a1,g0,g1,an,q1,q2,oo.j];apply aa (KN (bm _ FF) ff oM oM);rintro _ h8 ⟨rfl,f8,F8,n8⟩;have lf:(k:Int)+j<((bs.take k++(st.take j++List.replicate (st.length-j) false)++bs.drop k).length:Nat):=by simp;omega
       rw[if_pos ⟨oM,lf⟩,(oM:((k:Int)+j).toNat=k+j),Kw oM _ q3]at f8;simp(disch:=omega) only[b_,seval,ag,ak];have o8:=F8.I _ _ oO oo;have s8:P9 h8 v st:=by
        let⟨ws,oq,ok,_⟩:=ff;let⟨bw,aJ,ok',_⟩:=f8;exact P9.frb ss F8 oq aJ (by rw[ok'.t_,ok.t_])
       refine s_ ⟨st.length-(j+1),oM,j+1,iS,iX,iX,iX,iX,oM,bv _ _ FF F8,o8,f8,ii.frf F8 ff,s8,rfl⟩
       done
     ·simp only[b_,seval,ak,aR,an];have ej:j=st.length:=oM
      subst ej;simp only[Xq,Yf,YE,Xg]at ff;refine⟨by first|rw[z]|trivial,bj _ FF,some q,(by first|exact aN|simpa using aN),?_⟩
      try rw[if_pos z]
      exact⟨p',d,oo,hd,ii,ff,by simp;omega⟩
 ·simp only[b_,seval,eq_false z];exact⟨frQ Z,pm,.inl rfl,al.fr Z⟩
theorem Q4.qb{h:a_}{b q:Nat}{l:List Int}(a:Q4 h b (some q) l ks bs):b≠q:=by let⟨p,vk,o,v1,ix,mk,e⟩:=a;rintro rfl;let⟨K,Z,ok,_⟩:=(mk:Fl h b bs);have:=congrArg List.length (Z.uniq o);rw[c7,ok.t_]at this;simp at this
theorem Jv{h:a_}{b:Nat}{l:List Int}{i size:Int}{kn:Bool}(w:WF h)(a:Q4 h b pm l ks bs)(s0:-9223372036854775808<=size)(s1:size<=9223372036854775807)(i0:-9223372036854775808<=i)(i1:i<=9223372036854775807):
 ao go 54 [.u b 0,ZZ i,ZZ size,.h kn] h fun u h'=>u=ZZ (bJ l i size)/\(if bJ l i size=0 then Q4 h' b pm (l.set i.toNat size) (ks.set i.toNat kn) bs else Q4 h' b pm l ks bs)/\u? b pm h h':=by
 have al:=a;let⟨p,vk,o,v1,ix,mk,e⟩:=a;refine ah ?_;simp[b_,o.N];refine aa (Dr w ix s0 s1 i0 i1) ?_;rintro _ h1 ⟨F1,c,d,rfl,hc,hd,hx⟩;let⟨h2,ae,K,ak⟩:=aq F1.o [.O,.r];simp[b_,<-ae];apply ai (c':=[c,d]) K.o ak rfl (by simp[aw,V.s,hc,hd]) rfl;rintro h3 o3 F3 n3;have ac:Fr [] h1 h3:=K.z F3 F1.o (VZ _);have Z:=F1.c ac;by_cases z:bJ l i size=0;simp[b_,eq_true z,o3.N];apply ai (c':=[c,d,pv pm]) ac.o (Z.i o) rfl (by simp[aw,V.s,hc,hd]) rfl;rintro h4 o4 F4 n4;simp[b_];have af:=hx z;obtain⟨p',rfl⟩:=af.form;exact⟨⟨p',d,o4,hd,(af.fr ac).frb F4 (Z.i o) iS (Eo (CJ ix.noint)),(mk.fr Z).frb F4 (Z.i o) rfl,by simpa using e⟩,(frQ Z).b F4 w⟩;simp[b_,eq_false z];exact⟨al.fr Z,frQ Z⟩
theorem xo{h:a_}{b:Nat}{l:List Int}(w:WF h)(a:Q4 h b pm l ks bs):ao go 53 [.u b 0] h fun u h'=>∃c pm',u=.u c 0/\h.e<=c/\(∀q,pm'=some q->h.e<=q)/\Q4 h' c pm' l ks bs/\Fr [] h h':=by
 let⟨p,vk,o,v1,ix,mk,e⟩:=a;let⟨h1,ac,Z,K⟩:=aq w [pv p,vk,.O];cases pm with
 |none=>have mk:bs=[]:=mk;refine ah ?_;simp only[b_,seval,o.N,(Z.i o).j,<-ac];exact⟨h.e,none,rfl,VZ _,iS,⟨p,vk,K,v1,ix.fr Z,mk,e⟩,Z⟩
 |some q=>have fl:Fl h q bs:=mk;refine ah ?_;simp only[b_,seval,o.N,(Z.i o).j,aO,<-ac];refine aa (Ii Z.o (fl.fr Z)) ?_;rintro _ h2 ⟨c,rfl,hc,f2,F2⟩;simp only[b_,seval];apply B_ F2.o (F2.i K);rintro h3 o3 F3 n3;simp only[b_,seval];have ae:=Z.c F2;exact⟨h.e,some c,rfl,VZ _,fun q e=>by cases e;exact Wy Z.e hc,⟨p,vk,o3,v1,(ix.fr ae).frb F3 (F2.i K) iS (Eo (CJ (pm:=none) ix.noint)),Mk.frb (pm:=some c) f2 F3 (F2.i K) rfl,e⟩,ae.z F3 w (VZ _)⟩
end Go.Ev.Lay
namespace Go.Ev
abbrev Ym:=@Go.Ev.Gs.append1
abbrev ZV:=@Go.Ev.Lay.Gs.frX
end Go.Ev
