/- An evaluator of the program, and contracts over it: StQ to StaF. -/
import Derived.Laws.RangeString
import Derived.Laws.RangeAny
import Derived.Test.YtdbfhmneijcjbaaGreatP04
import Derived.Test.YtdbfhmneijcjbaaGreatP07
set_option linter.unusedSimpArgs false
set_option linter.unusedVariables false
set_option linter.constructorNameAsVariable false
set_option linter.unnecessarySimpa false
set_option maxRecDepth 4000
namespace Go.Ev.Lay
variable{env:T V}{h':b_}{cs:List V}{x0 x1 x2 x3 x4 vc va:V}{n0:Nat}
def ItQ(h:b_)(nx:Bool)(o:Option V)(K:V->b_->Prop):Prop:=∃d,o=some d/\OQ (u? h nx d) K
theorem vx{h:b_}(nx:Bool)(d:V)(K:V->b_->Prop):ItQ h nx (some d) K↔OQ (u? h nx d) K:=
 ⟨fun⟨_,e,k⟩=>by cases e;exact k,fun k=>⟨d,rfl,k⟩⟩
theorem Hm{call:aL}{Z:List V}{h:b_}(nx:Bool)(x:G_)(K:V->b_->Prop):OQ (aS call Z env h (.v nx x)) K↔ItQ h nx (E_ Z env x) K:=by
 simp[aS,OQ,ItQ];cases E_ Z env x with
 |none=>simp
 |some d=>simp
theorem MP{h:b_}(z:List UInt8)(K:V->b_->Prop):OQ (u? h false (.f z)) K↔K (.u h.i 0) (T4 h (.e z 0)):=cU _ _ _
theorem MQ{h:b_}{b pos:Nat}{z:List UInt8}(hb:h.S.c_ b=some (.e z pos))(Z:¬pos<z.length)(K:V->b_->Prop):OQ (u? h true (.u b 0)) K↔K (.G [.h false]) h:=by
 show OQ (match h.S.c_ b with|some (.e z pos)=>_|_=>_) K↔_
 rw[hb];simp[if_neg Z];exact cU _ _ _
theorem Kf{h:b_}{b pos:Nat}{z:List UInt8}(hb:h.S.c_ b=some (.e z pos))(Z:pos<z.length)(K:V->b_->Prop):OQ (u? h true (.u b 0)) K↔
 K (.G [.h true,ZZ (pos:Int),.C .i32 ((Utf8.decode ⟨z.toArray⟩ pos).1:Int)]) (K_ h b (.e z (pos+(Utf8.decode ⟨z.toArray⟩ pos).2))):=by
 show OQ (match h.S.c_ b with|some (.e z pos)=>_|_=>_) K↔_
 rw[hb];simp[if_pos Z];exact cU _ _ _
theorem _root_.Go.Ev.WF.c{h:b_}(w:WF h){b:Nat}{x:Y8}(hb:h.S.c_ b=some x)(y:Y8):WF (K_ h b y):=by intro p K;let⟨Z,q2⟩:=w p K;refine⟨?_,q2⟩;show(h.S.B_ b y).c_ p=none;rw[WB,if_neg (by rintro rfl;rw[hb]at Z;cases Z)];exact Z
theorem Fr.si{h:b_}(w:WF h){b pos pos':Nat}{z:List UInt8}(hb:h.S.c_ b=some (.e z pos)):Fr [] h (K_ h b (.e z pos')) where
 i:=Ve _
 r:=WF.c w hb _
 D:=fun x c _ ⟨f,k,e,q⟩=>⟨f,k,by
  show(h.S.B_ b _).c_ x=_;rw[WB,if_neg (by rintro rfl;rw[hb]at e;cases e)];exact e,q⟩
 pl:=fun x c _ ⟨⟨k,e⟩,q⟩=>⟨⟨k,by
  show(h.S.B_ b _).c_ x=_;rw[WB,if_neg (by rintro rfl;rw[hb]at e;cases e)];exact e⟩,q⟩
 lp:=fun x k hk e=>by show(h.S.B_ b _).c_ x=_;rw[WB,if_neg (by rintro rfl;rw[hb]at e;cases e;cases hk)];exact e
 ro:=fun x c ⟨f,k,ow,e,q1,q2,q3⟩=>⟨f,k,ow,by
  show(h.S.B_ b _).c_ x=_;rw[WB,if_neg (by rintro rfl;rw[hb]at e;cases e)];exact e,q1,by
  show(h.S.B_ b _).c_ ow=_;rw[WB,if_neg (by rintro rfl;rw[hb]at q2;cases q2)];exact q2,q3⟩
def I9(g:Nat)(p:Int->Bool):Prop:=g<1099511627776/\(∀(r:Int)(h:b_),av go g [.C .i32 r] h fun u h'=>u=.h (p r)/\h=h')/\∀r:Int,128<=r->p r=true
def fE(p:Int->Bool)(z:List UInt8):Bool:=z.any fun b=>p (b.toNat:Int)
theorem MW(z:List UInt8)(pos:Nat)(hp:pos<z.length)(p:Int->Bool)(Z:∀r:Int,128<=r->p r=true):
 (p ((Utf8.decode ⟨z.toArray⟩ pos).1:Int)=p ((z[pos]).toNat:Int))/\(p ((z[pos]).toNat:Int)=false->(Utf8.decode ⟨z.toArray⟩ pos).2=1):=by
 have hs:pos<(ByteArray.mk z.toArray).size:=hp;have K:(ByteArray.mk z.toArray)[pos]'hs=z[pos]:=rfl;by_cases c:(z[pos]).toNat<128;have:=Go.decode_ascii ⟨z.toArray⟩ pos hs (by rw[K];exact c);rw[this,K];exact⟨rfl,fun _=>rfl⟩;have:=Go.decode_high ⟨z.toArray⟩ pos hs (by rw[K];omega);rw[Z _ oM,Z _ oM];exact⟨rfl,fun e=>by cases e⟩
theorem wV{h:b_}{z:List UInt8}{g:Nat}{p:Int->Bool}(w:WF h)(P:I9 g p)(hz:z.length<16777216):
 av go 265 [.f z,.I (.func g) [] [],.h true] h fun u h'=>∃r:Int,u=ZZ r/\(decide (0<=r)=fE p z)/\Fr [] h h':=by
 let⟨hg,hp,ae⟩:=P;obtain⟨h1,Z⟩:∃h1,h1=T4 h (.e z 0):=⟨_,rfl⟩;have ac:Fr [] h h1:=Z▸Fr.aP w _;have b1:h1.S.c_ h.i=some (.e z 0):=by rw[Z];exact jJ _ _
 refine ai ?_;simp[a_,Hm,vx,MP,<-Z];refine aC (fun k env hh=>Fr [] h hh/\∃(i:Nat),env.c_ 10=some (.u h.i 0)/\env.c_ 1=some (.I (.func g) [] [])/\env.c_ 2=some (.h true)/\hh.S.c_ h.i=some (.e z i)/\
  i<=z.length/\fE p (z.drop i)=fE p z/\k=z.length-i) z.length oM ?_ ?_
 ·exact⟨ac,0,iS,iS,iS,b1,oM,rfl,rfl⟩
 ·rintro k env hh ⟨F,i,ab,g1,g2,bb,hi,e,rfl⟩;by_cases K:i<z.length
  ·have⟨d1,d2⟩:=MW z i K p ae;have F1:Fr [] hh (K_ hh h.i (.e z (i+(Utf8.decode ⟨z.toArray⟩ i).2))):=Fr.si F.r bb;have b2:=jI hh h.i (.e z (i+(Utf8.decode ⟨z.toArray⟩ i).2));rw[Wm K]at e;simp only[a_,seval,ab,g1,Hm,vx,Kf bb K,hg];refine aa (hp _ _) ?_;rintro _ h2 ⟨rfl,rfl⟩;cases c:p ((z[i]).toNat:Int)
   ·have w1:=d2 c;rw[c]at d1;rw[w1]at F1 b2|-;simp only[a_,seval,d1,g2];unfold fE at e;rw[YI,c,Xj]at e;refine t_ ⟨z.length-(i+1),oM,F.c F1,i+1,iX,iX,iX,b2,oM,e,rfl⟩
    done
   ·rw[c]at d1;simp only[a_,seval,d1,g2];unfold fE at e|-;rw[YI,c,Bool.true_or]at e;exact⟨i,rfl,by rw[<-e];simp,F.c F1⟩
  ·simp only[a_,seval,ab,Hm,vx,MQ bb K];rw[Vq oM]at e;exact⟨-1,rfl,by rw[<-e];rfl,F⟩
theorem rW{h:b_}{z:List UInt8}{g:Nat}{p:Int->Bool}(w:WF h)(P:I9 g p)(Z:z.length<16777216):
 av go 172 [.f z,.I (.func g) [] []] h fun u h'=>u=.h (fE p z)/\Fr [] h h':=by
 refine ai ?_;simp[a_];refine aa (?_:av go 230 _ _ (fun u h'=>∃r:Int,u=ZZ r/\(decide (0<=r)=fE p z)/\Fr [] h h')) ?_;refine ai ?_;simp[a_];refine aa (wV w P Z) ?_;rintro _ K ⟨r,rfl,e,F⟩;simp only[a_,seval];exact⟨r,rfl,e,F⟩;rintro _ K ⟨r,rfl,e,F⟩;simp only[a_,seval];exact⟨by rw[e],F⟩
def i7(r:Int):Bool:=decide (r<32)||decide (126<r)
def dH(r:Int):Bool:=(decide (r<97)||decide (122<r))&&(decide (r<48)||decide (57<r))
theorem Pd:I9 173 i7:=⟨dI,fun r h=>by
 by_cases c:r<32;refine ai ?_;simp[a_,c];simp[i7,c];refine ai ?_;simp[a_,c];simp[i7,c],fun r hr=>by simp[i7];omega⟩
theorem Pc:I9 232 dH:=⟨dI,fun r h=>by
 by_cases c:r<97;by_cases d:r<48;refine ai ?_;simp[a_,c,d];simp[dH,c,d];refine ai ?_;simp[a_,c,d];simp[dH,c,d];by_cases c':(122:Int)<r;by_cases d:r<48;omega;refine ai ?_;simp[a_,c,d,c'];simp[dH,d,c'];refine ai ?_;simp[a_,c,c'];simp[dH,c,c'],fun r hr=>by simp[dH];omega⟩
def Q0(z:List UInt8):Bool:=decide (z.length<=64)&& !fE i7 z
def F_(z:List UInt8):Bool:=decide (0<z.length)&&(decide (z.length<=16)&& !fE dH z)
theorem aM(a:List UInt8):aP .j [.f a]=some (ZZ (a.length:Nat)):=rfl
theorem bG(a b:List UInt8):aP (.C .neq) [.f a,.f b]=some (.h (!(a==b))):=rfl
theorem aR(a b:List UInt8):aP (.C .eql) [.f a,.f b]=some (.h (a==b)):=rfl
theorem lW(z:List UInt8):(z==[])=decide (z.length=0):=by cases z<;>rfl
theorem JX{h:b_}{z:List UInt8}(w:WF h):av go 177 [.f z] h fun u h'=>u=.h (F_ z)/\Fr [] h h':=by by_cases Z:z.length=0;refine ai ?_;simp only[a_,seval,bG,lW,Z];exact⟨by simp[F_,Z],Vk w⟩;by_cases c1:z.length<=16;refine ai ?_;simp only[a_,seval,aM,bG,lW,Z,(oM:(z.length:Int)<=16)];refine aa (rW w Pc oM) ?_;rintro _ K ⟨rfl,F⟩;simp only[a_,seval];exact⟨by simp[F_,c1];intro _;omega,F⟩;refine ai ?_;simp only[a_,seval,aM,bG,lW,Z,(oM:¬(z.length:Int)<=16)];exact⟨by simp[F_,c1],Vk w⟩
abbrev sS(s:List UInt8):List V:=[.f s]
theorem iu(s:List UInt8):(sS s).length=1:=rfl
theorem Hu{h:b_}{z:List UInt8}(w:WF h):av go 176 [.f z] h fun u h'=>u=.h (!F_ z)/\Fr [] h h':=by refine ai ?_;simp[a_];refine aa (JX w) ?_;rintro _ Z ⟨rfl,F⟩;simp[a_];exact F
def Ll(g:Nat):Prop:=g<1099511627776/\∀(z:List UInt8)(h:b_),WF h->av go g [.f z] h fun u h'=>u=.h (!F_ z)/\Fr [] h h'
theorem Pf:Ll 176:=⟨dI,fun _ _ w=>Hu w⟩
theorem EP{h:b_}{v:V}{g:Nat}{L:List (List UInt8)}(P:Ll g)(w:WF h)(a:C_ sS 1 h v L)(hn:L.length<=4096):
 av go 231 [v,.I (.func g) [] []] h fun u h'=>∃r:Int,u=ZZ r/\(decide (0<=r)= !L.all F_)/\Fr [] h h':=by
 refine ai ?_;simp[a_,a.A_];refine aC (fun k env hh=>Fr [] h hh/\∃(i:Nat),env.c_ 8=some (ZZ i)/\env.c_ 7=some (ZZ L.length)/\env.c_ 0=some v/\env.c_ 1=some (.I (.func g) [] [])/\
  i<=L.length/\(L.drop i).all F_=L.all F_/\k=L.length-i) L.length oM ?_ ?_
 ·exact⟨Vk w,0,iS,iS,iS,iS,oM,rfl,rfl⟩
 ·rintro k env hh ⟨F,i,K,g7,g0,g1,hi,e,rfl⟩;by_cases ab:i<L.length
  ·have Z:(i:Int)<L.length:=oM
   let⟨b,o,s,e1,e2,_,e5⟩:=(a.fr F).ix iu .i64 i oM Z;have e4:ag hh b o=some (.f s):=e2 0 oM;rw[pi]at e5;rw[aN e5,Xi]at e;simp[a_,K,g7,g0,g1,Z,e1,e4,P.1];refine aa (P.2 _ _ F.r) ?_;rintro _ h1 ⟨rfl,F1⟩;cases c:F_ s
   ·simp only[a_,seval];rw[c]at e;exact⟨i,rfl,by rw[<-e];simp,F.c F1⟩
   ·simp(disch:=omega)[a_,ah,K];rw[c]at e;refine t_ ⟨L.length-(i+1),oM,F.c F1,i+1,iS,iX,iX,iX,oM,by simpa using e,rfl⟩
    done
  ·simp only[a_,seval,K,g7,(oM:¬(i:Int)<L.length)];rw[Vq oM]at e;exact⟨-1,rfl,by rw[<-e];rfl,F⟩
theorem qc{h:b_}{v:V}{g:Nat}{L:List (List UInt8)}(P:Ll g)(w:WF h)(a:C_ sS 1 h v L)(Z:L.length<=4096):
 av go 175 [v,.I (.func g) [] []] h fun u h'=>u=.h (!L.all F_)/\Fr [] h h':=by
 refine ai ?_;simp[a_];refine aa (EP P w a Z) ?_;rintro _ K ⟨r,rfl,e,F⟩;simp[a_];exact⟨by rw[e],F⟩
structure e_ where
 A:Nat
 N:Nat
 U:List UInt8
 E:List (List UInt8)
 vm:V
def e_.s(x:e_):List V:=[ZX (x.A:Int),ZY (x.N:Int),.f x.U,x.vm]
structure q_(h:b_)(x:e_):Prop where
 k:x.A<18446744073709551616
 t:x.N<256
 m:C_ sS 1 h x.vm x.E
 n:x.E.length<=4096
 l:x.U.length<16777216
theorem q_.fr{h:b_}{x:e_}(a:q_ h x)(f:Fr [] h h'):q_ h' x:=⟨a.k,a.t,a.m.fr f,a.n,a.l⟩
theorem q_.O{h:b_}{x:e_}(a:q_ h x):aw x.s=true:=by show aw [ZX (x.A:Int),ZY (x.N:Int),.f x.U,x.vm]=true;simp only[aA,aD,a.m.O];rfl
def Zz(ms:List (List UInt8)):Bool:=decide (ms.length<=8)&&ms.all F_
def P0(x:e_)(types:Nat):Bool:=decide (x.A≠0)&&(decide (x.N<types)&&(Q0 x.U&&Zz x.E))
theorem Jy{h:b_}{x:e_}{b:Nat}(w:WF h)(a:q_ h x)(o:f_ h b x.s):av go 171 [.u b 0] h fun u h'=>u=.h (Q0 x.U)/\Fr [] h h':=by have l2:ag h b 2=some (.f x.U):=o.o 2;by_cases c:x.U.length<=64;refine ai ?_;simp[a_,l2,aM,(oM:(x.U.length:Int)<=64)];refine aa (rW w Pd a.l) ?_;rintro _ Z ⟨rfl,F⟩;simp[a_];exact⟨by simp[Q0,c],F⟩;refine ai ?_;simp[a_,l2,aM,(oM:¬(x.U.length:Int)<=64)];exact⟨by simp[Q0,c],Vk w⟩
theorem HA{h:b_}{x:e_}{b:Nat}(w:WF h)(a:q_ h x)(o:f_ h b x.s):av go 174 [.u b 0] h fun u h'=>u=.h (Zz x.E)/\Fr [] h h':=by have l2:ag h b 3=some x.vm:=o.o 3;by_cases c:x.E.length<=8;refine ai ?_;simp[a_,l2,a.m.A_,(oM:(x.E.length:Int)<=8)];refine aa (qc Pf w a.m a.n) ?_;rintro _ Z ⟨rfl,F⟩;simp[a_];exact⟨by simp[Zz,c],F⟩;refine ai ?_;simp[a_,l2,a.m.A_,(oM:¬(x.E.length:Int)<=8)];exact⟨by simp[Zz,c],Vk w⟩
theorem qg{h:b_}{x:e_}{Z:Nat}(w:WF h)(a:q_ h x)(ht:Z<256):av go 102 [.B x.s,ZZ (Z:Int)] h fun u h'=>u=ZZ (if P0 x Z then 0 else 6)/\Fr [] h h':=by let⟨h1,ae,ab,ac⟩:=au w x.s;have l0:ag h1 h.i 0=some (ZX (x.A:Int)):=ac.o 0;have l1:ag h1 h.i 1=some (ZY (x.N:Int)):=ac.o 1;have xt:=a.t;by_cases c0:x.A=0;refine ai ?_;simp only[a_,seval,<-ae,l0,(oM:(x.A:Int)=0)];exact⟨by simp[P0,c0],ab⟩;by_cases c1:x.N<Z;refine ai ?_;simp(disch:=omega) only[a_,seval,ah,<-ae,l0,(oM:¬(x.A:Int)=0),l1,(oM:¬(Z:Int)<=x.N)];refine aa (Jy ab.r (a.fr ab) ac) ?_;rintro _ h2 ⟨rfl,K⟩;cases c2:Q0 x.U;simp only[a_,seval];exact⟨by simp[P0,c2],ab.c K⟩;simp[a_];refine aa (HA K.r (a.fr (ab.c K)) (K.c_ ac)) ?_;rintro _ h3 ⟨rfl,F3⟩;cases c3:Zz x.E;simp only[a_,seval];exact⟨by simp[P0,c3],(ab.c K).c F3⟩;simp only[a_,seval];exact⟨by simp[P0,c0,c1,c2,c3],(ab.c K).c F3⟩;refine ai ?_;simp(disch:=omega) only[a_,seval,ah,<-ae,l0,(oM:¬(x.A:Int)=0),l1,(oM:(Z:Int)<=x.N)];exact⟨by simp[P0,c1],ab⟩
theorem ES{h:b_}(r:Nat):av go 294 [ZY (r:Int)] h fun u h'=>u=.h (!dH r)/\h=h':=by by_cases c:(97:Int)<=r;by_cases d:(r:Int)<=122;refine ai ?_;simp[a_,c,d];simp[dH];omega;by_cases e:(48:Int)<=r;by_cases f:(r:Int)<=57;omega;refine ai ?_;simp[a_,c,d,e,f];simp[dH];omega;omega;by_cases e:(48:Int)<=r;by_cases f:(r:Int)<=57;refine ai ?_;simp[a_,c,e,f];simp[dH];omega;refine ai ?_;simp[a_,c,e,f];simp[dH];omega;refine ai ?_;simp[a_,c,e];simp[dH];omega
theorem cg{z:List UInt8}{i:Nat}(h:i<z.length)(k:IntKind):aP .q [.f z,.C k (i:Int)]=some (ZY ((z[i]).toNat:Nat)):=by show(z[i]?).map _=_;rw[Vp h];rfl
theorem um{h:b_}{z:List UInt8}:av go 279 [.f z] h fun u h'=>u=.h (F_ z)/\h=h':=by
 by_cases c0:z.length<1
 ·refine ai ?_;simp only[a_,seval,aM,(oM:(z.length:Int)<1)];simp[F_];intro _;omega
 by_cases c1:16<z.length
 ·refine ai ?_;simp only[a_,seval,aM,(oM:¬(z.length:Int)<1),(oM:(16:Int)<z.length)];simp[F_];intro _ _;omega
 ·have e0:F_ z= !fE dH z:=by simp[F_,(oM:0<z.length),(oM:z.length<=16)]
  rw[e0];refine ai ?_;simp[a_,aM,(oM:¬(z.length:Int)<1),(oM:¬(16:Int)<z.length)];refine aC (fun k env hh=>h=hh/\∃(i:Nat),env.c_ 14=some (ZZ i)/\env.c_ 13=some (ZZ z.length)/\env.c_ 0=some (.f z)/\
   i<=z.length/\fE dH (z.drop i)=fE dH z/\k=z.length-i) z.length oM ?_ ?_
  ·exact⟨rfl,0,iS,iS,iS,oM,rfl,rfl⟩
  ·rintro k env hh ⟨rfl,i,Z,K,g0,hi,e,rfl⟩;by_cases ab:i<z.length
   ·unfold fE at e;rw[Wm ab,YI]at e;simp[a_,Z,K,g0,(oM:(i:Int)<z.length),cg ab];refine aa (ES _) ?_;rintro _ _ ⟨rfl,rfl⟩;cases c:dH ((z[i]).toNat:Int)
    ·simp(disch:=omega)[a_,ah,Z];rw[c,Xj]at e;refine t_ ⟨z.length-(i+1),oM,rfl,i+1,iS,iX,iX,oM,e,rfl⟩
     done
    ·simp only[a_,seval];rw[c,Bool.true_or]at e;unfold fE;rw[<-e];simp
   ·simp only[a_,seval,Z,K,(oM:¬(i:Int)<z.length)];rw[Vq oM]at e;rw[<-e];rfl
theorem Pb:I9 293 i7:=⟨dI,fun r h=>by
 by_cases c:r<32;refine ai ?_;simp[a_,c];simp[i7,c];refine ai ?_;simp[a_,c];simp[i7,c],fun r hr=>by simp[i7];omega⟩
theorem Ao{h:b_}{z:List UInt8}(w:WF h):av go 278 [.f z] h fun u h'=>u=.h (Q0 z)/\Fr [] h h':=by
 by_cases c:z.length<=64;refine ai ?_;simp[a_,aM,(oM:(z.length:Int)<=64)];refine aa (?_:av go 230 _ _ (fun u h'=>∃r:Int,u=ZZ r/\(decide (0<=r)=fE i7 z)/\Fr [] h h')) ?_;refine ai ?_;simp[a_];refine aa (wV w Pb oM) ?_;rintro _ Z ⟨r,rfl,e,F⟩;simp only[a_,seval];exact⟨r,rfl,e,F⟩;rintro _ Z ⟨r,rfl,e,F⟩;simp only[a_,seval];refine⟨?_,F⟩;have:decide (r<0)= !decide (0<=r):=by grind
 simp[Q0,c,<-e];exact this;refine ai ?_;simp only[a_,seval,aM,(oM:¬(z.length:Int)<=64)];exact⟨by simp[Q0,c],Vk w⟩
abbrev i_:=List UInt8
inductive NT where
 |D_
 |y_ (kind:Nat) (tag key:i_) (attrs:List (i_×i_)) (text:i_) (va vc:V) (sub next:NT)
def gK(a:i_×i_):List V:=[.f a.1,.f a.2]
theorem fc(a:i_×i_):(gK a).length=2:=rfl
namespace NT
def A_:NT->Nat
 |D_=>0
 |y_ _ _ _ _ _ _ _ _ nx=>nx.A_+1
def I_:NT->List V
 |D_=>[]
 |y_ k tg ky _ tx va vc _ nx=>[ ZY (k:Int),.f tg,.f ky,va,.f tx,vc]++nx.I_
def P4:NT->List i_
 |D_=>[]
 |y_ _ _ ky _ _ _ _ _ nx=>ky::nx.P4
theorem R7:∀t:NT,t.I_.length=t.A_*6
 |D_=>rfl
 |y_ _ _ _ _ _ _ _ _ nx=>by simp[I_,A_,R7 nx];omega
theorem ZL:∀t:NT,t.P4.length=t.A_
 |D_=>rfl
 |y_ _ _ _ _ _ _ _ _ nx=>by simp[P4,A_,ZL nx]
def Z8:NT->Nat->NT
 |t,0=>t
 |D_,_+1=>D_
 |y_ _ _ _ _ _ _ _ _ nx,i+1=>nx.Z8 i
end NT
def NH(h:b_):NT->Prop
 |.D_=>True
 |.y_ k _ _ at' _ va vc sub nx=>k<256/\o_ gK 2 h va at'/\at'.length<=4096/\Sl h 6 vc sub.A_ sub.I_/\sub.A_<=4096/\NH h sub/\NH h nx
theorem NH.fr{h:b_}(f:Fr [] h h'):∀{t:NT},NH h t->NH h' t
 |.D_,_=>trivial
 |.y_ _ _ _ _ _ _ _ _ _,⟨a,b,c,d,e,g,i⟩=>⟨a,b.fr f,c,d.fr f,e,NH.fr f g,NH.fr f i⟩
namespace NT
theorem ZM:∀(t:NT)(i:Nat),i<t.A_->∃k tg ky at' tx va vc sub nx,t.Z8 i=.y_ k tg ky at' tx va vc sub nx/\t.I_.drop (i*6)=[ZY ((k:Nat):Int),.f tg,.f ky,va,.f tx,vc]++nx.I_/\t.Z8 (i+1)=nx/\t.P4.drop i=ky::nx.P4/\t.P4[i]? =some ky/\nx.A_+(i+1)=t.A_
 |.D_,_,h=>by cases h
 |.y_ k tg ky at' tx va vc sub nx,0,_=>⟨k,tg,ky,at',tx,va,vc,sub,nx,rfl,rfl,by cases nx<;>rfl,rfl,rfl,rfl⟩
 |.y_ _ _ _ _ _ _ _ _ nx,i+1,h=>by let⟨k,tg,ky,at',tx,va,vc,sub,n,e1,e2,e3,e4,e5,e6⟩:=ZM nx i (by simp[A_]at h;omega);refine⟨k,tg,ky,at',tx,va,vc,sub,n,e1,?_,e3,e4,?_,by simp only[A_];omega⟩;rw[(oM:(i+1) *6=6+i*6),<-Wd];exact e2;simpa[P4]using e5
theorem Q?:∀(t:NT)(i:Nat),t.A_<=i->t.Z8 i=.D_
 |.D_,0,_=>rfl
 |.D_,_+1,_=>rfl
 |.y_ _ _ _ _ _ _ _ _ nx,0,h=>by simp[A_]at h
 |.y_ _ _ _ _ _ _ _ _ nx,i+1,h=>Q? nx i (by simp[A_]at h;omega)
end NT
theorem NH.Z8{h:b_}:∀{t:NT}(i:Nat),NH h t->NH h (t.Z8 i)
 |.D_,0,_=>trivial
 |.D_,_+1,_=>trivial
 |.y_ _ _ _ _ _ _ _ _ _,0,a=>a
 |.y_ _ _ _ _ _ _ _ _ _,i+1,⟨_,_,_,_,_,_,g⟩=>NH.Z8 i g
def Z3(h:b_)(b o:Nat)(x0 x1 x2 x3 x4 x5:V):Prop:=ag h b o=some x0/\ag h b (o+1)=some x1/\ag h b (o+2)=some x2/\ag h b (o+3)=some x3/\ag h b (o+4)=some x4/\ag h b (o+5)=some x5/\aq h b o 6=some [x0,x1,x2,x3,x4,x5]
theorem _root_.Go.Ev.Sl.aC{h:b_}{v:V}{n:Nat}(a:Sl h 6 v n cs){i:Nat}(Z:i<n){x0 x1 x2 x3 x4 x5:V}{r:List V}(e:cs.drop (i*6)=[x0,x1,x2,x3,x4,x5]++r):
 ∃b o,aP (.c 6) [v,ZZ (i:Int)]=some (.u b o)/\Z3 h b o x0 x1 x2 x3 x4 x5:=by
 let⟨b,o,e1,e2,K⟩:=Sl.ix a .i64 (i:Int) oM oM;rw[pi]at e2 K;rw[e]at K;have g:∀j,cs[i*6+j]? =([x0,x1,x2,x3,x4,x5]++r)[j]? :=fun j=>by rw[<-e,Wh]
 refine⟨b,o,e1,?_,?_,?_,?_,?_,?_,K⟩;have:=e2 0 oM;rw[g]at this;exact this;grind;grind;grind;grind;grind
theorem _root_.Go.Ev.f_.ac{h:b_}{b:Nat}{x5:V}(o:f_ h b [x0,x1,x2,x3,x4,x5]):Z3 h b 0 x0 x1 x2 x3 x4 x5:=⟨o.o 0,o.o 1,o.o 2,o.o 3,o.o 4,o.o 5,by rw[o.J];rfl⟩
theorem BL{h:b_}{x5:V}{ky Z:i_}{bk:Nat}(w:WF h)(hk:∀h',Fr [] h h'->ag h' bk 2=some (.f Z))(ones:aw [x0,x1,.f ky,x3,x4,x5]=true):
 av go 281 [.B [x0,x1,.f ky,x3,x4,x5],.u bk 0] h fun u h'=>u=.h (ky==Z)/\Fr [] h h':=by
 let⟨K,ae,ab,ac⟩:=au w [x0,x1,.f ky,x3,x4,x5];have l2:ag K h.i 2=some (.f ky):=ac.o 2;refine ai ?_;simp[a_,<-ae,l2,hk K ab,aR];exact ab
theorem ER{h:b_}{u:V}{t:NT}{i bk:Nat}{Z:i_}(w:WF h)(a:Sl h 6 u i (t.I_.take (i*6)))(hi:i<=t.A_)(hn:i<=4096)(ones:aw t.I_=true)(hk:∀h',Fr [] h h'->ag h' bk 2=some (.f Z)):
 av go 280 [u,.I (.func 281) [] [.u bk 0]] h fun z h'=>z=.h ((t.P4.take i).any (· ==Z))/\Fr [] h h':=by
 refine ai ?_;simp[a_];refine aa (?_:av go 295 _ _ (fun z h'=>∃r:Int,z=ZZ r/\(decide (0<=r)=(t.P4.take i).any (· ==Z))/\Fr [] h h')) ?_
 ·refine ai ?_;simp[a_,a.A_];refine aC (fun k env hh=>Fr [] h hh/\∃(j:Nat),env.c_ 8=some (ZZ j)/\env.c_ 7=some (ZZ i)/\env.c_ 0=some u/\env.c_ 1=some (.I (.func 281) [] [.u bk 0])/\
   j<=i/\((t.P4.take i).drop j).any (· ==Z)=(t.P4.take i).any (· ==Z)/\k=i-j) i oM ?_ ?_
  ·exact⟨Vk w,0,iS,iS,iS,iS,oM,rfl,rfl⟩
  ·rintro k env hh ⟨F,j,K,g7,g0,g1,hj,e,rfl⟩;by_cases ab:j<i
   ·let⟨kd,tg,ky,at',tx,va,vc,sub,nx,e1,e2,e3,e4,e5,_⟩:=t.ZM j oM;have q:(t.I_.take (i*6)).drop (j*6)=[ZY (kd:Int),.f tg,.f ky,va,.f tx,vc]++nx.I_.take (i*6-j*6-6):=by
     rw[Yd,e2,(oO:i*6-j*6=([ZY (kd:Int),.f tg,.f ky,va,.f tx,vc]:List V).length+(i*6-j*6-6)),XV];simp
    let⟨b,o,p1,p2⟩:=(a.fr F).aC ab q;have on:aw [ZY (kd:Int),.f tg,.f ky,va,.f tx,vc]=true:=by
     have:=bH (j*6) ones;rw[e2,aO]at this;exact(Vd _ _▸this).1
    have ek:(t.P4.take i)[j]? =some ky:=by grind
    rw[aN ek,YI]at e;simp[a_,K,g7,g0,g1,(oM:(j:Int)<(i:Int)),p1,p2.2.2.2.2.2.2];refine aa (BL F.r (fun h' f=>hk h' (F.c f)) on) ?_;rintro _ h1 ⟨rfl,F1⟩;cases c:ky==Z
    ·simp(disch:=omega)[a_,ah,K];rw[c]at e;refine t_ ⟨i-(j+1),oM,F.c F1,j+1,iS,iX,iX,iX,oM,by simpa using e,rfl⟩
     done
    ·simp only[a_,seval];rw[c]at e;exact⟨j,rfl,by rw[<-e];simp,F.c F1⟩
   ·simp only[a_,seval,K,g7,(oM:¬(j:Int)<(i:Int))];rw[Vq oO]at e;exact⟨-1,rfl,by rw[<-e];rfl,F⟩
 ·rintro _ h1 ⟨r,rfl,e,F⟩;simp only[a_,seval];exact⟨by rw[e],F⟩
def Zs(a b:i_):Bool:=Op.bytesLess a b||a==b
theorem mY(a b:i_):aP (.C .leq) [.f a,.f b]=some (.h (Zs a b)):=rfl
def cW(p:Option i_)(n:i_):Bool:=match p with
 |none=>true
 |some q=> !Zs n q
def dX:Option i_->List (i_×i_)->Bool
 |_,[]=>true
 |p,(n,v)::r=>(F_ n&&(Q0 v&&cW p n))&&dX (some n) r
def gQ:List i_->List i_->Bool
 |_,[]=>true
 |pr,k::r=>(k==[]|| !(pr.any (· ==k)))&&gQ (pr++[k]) r
theorem rP(pr:List i_)(k:i_)(r:List i_):gQ pr (k::r)=((k==[]|| !(pr.any (· ==k)))&&gQ (pr++[k]) r):=rfl
theorem ql(p:Option i_)(a:i_×i_)(r:List (i_×i_)):dX p (a::r)=((F_ a.1&&(Q0 a.2&&cW p a.1))&&dX (some a.1) r):=rfl
def iV(k:Nat)(tg ky:i_)(at':List (i_×i_))(tx:i_)(sub:NT):Bool:=
 if k=2 then Q0 tx&&(tg==[]&&(ky==[]&&(decide (at'.length=0)&&decide (sub.A_=0))))
 else decide (k=1)&&(F_ tg&&((ky==[]||F_ ky)&&(tx==[]&&(decide (at'.length<=8)&&(decide (sub.A_<=16)&&(dX none at'&&gQ [] sub.P4))))))
def kB(at':List (i_×i_))(i:Nat):Option i_:=if i=0 then none else(at'[i-1]?).map (·.1)
theorem ue{at':List (i_×i_)}{i:Nat}{a:i_×i_}(h:at'[i]? =some a):kB at' (i+1)=some a.1:=by simp[kB,h]
theorem Ni{h:b_}{b o:Nat}{sub:NT}{R:V->b_->Prop}(w:WF h)(hA:∀h',Fr [] h h'->Z3 h' b o x0 x1 x2 x3 x4 vc)
 (rc:Sl h 6 vc sub.A_ sub.I_) (nc:sub.A_<=4096) (ones:aw sub.I_=true) (g0:env.c_ 0=some (.u b o))
 (k:∀h',Fr [] h h'->R (.h (gQ [] sub.P4)) h'):W go alC env h (jz [.t 2] R):=by
 have q5:=(hA h (Vk w)).2.2.2.2.2.1;simp[a_,alC,g0,q5,rc.A_];refine aC (fun n env hh=>Fr [] h hh/\∃(i:Nat),env.c_ 142=some (ZZ i)/\env.c_ 141=some (ZZ sub.A_)/\env.c_ 140=some vc/\env.c_ 0=some (.u b o)/\
  i<=sub.A_/\gQ (sub.P4.take i) (sub.P4.drop i)=gQ [] sub.P4/\n=sub.A_-i) sub.A_ oM ?_ ?_
 ·exact⟨Vk w,0,iS,iS,iS,iX,oM,rfl,rfl⟩
 ·rintro n env hh ⟨F,i,K,ab,ac,g0,hi,e,rfl⟩;by_cases af:i<sub.A_
  ·let⟨kd,tg,ky,at',tx,va,vc',sb,nx,e1,e2,e3,e4,e5,_⟩:=sub.ZM i af;let⟨b',o',p1,p2⟩:=(rc.fr F).aC af e2;have on:aw [ZY (kd:Int),.f tg,.f ky,va,.f tx,vc']=true:=by
    have:=bH (i*6) ones;rw[e2,aO]at this;exact(Vd _ _▸this).1
   have ae:(i:Int)<sub.A_:=oM
   rw[e4]at e;rw[rP]at e;have ek:(sub.P4.take i)++[ky]=sub.P4.take (i+1):=by grind
   have ed:nx.P4=sub.P4.drop (i+1):=by
    rw[<-Wd (i:=1),e4];rfl
   rw[ek,ed]at e;let⟨h1,an,aj,ak⟩:=au F.r [ZY 0,.f [],.f [],.j,.f [],.j];simp[a_,K,ab,ac,ae,p1,p2.2.2.2.2.2.2,<-an];refine ao (c':=[ZY (kd:Int),.f tg,.f ky,va,.f tx,vc']) aj.r ak rfl on rfl ?_;rintro h2 o2 F2 n2;have Z:Fr [] hh h2:=aj.y F2 F.r (Ve _);have q2:ag h2 hh.i 2=some (.f ky):=o2.o 2;have q5:=(hA h2 (F.c Z)).2.2.2.2.2.1;cases c:ky==[]
   ·let⟨u,s1,s2⟩:=(rc.fr (F.c Z)).ba oM (Sl.ne (rc.fr (F.c Z)) oM) .i64 (i:Int) oM oM;rw[pi]at s2;simp[a_,g0,q2,bG,c,q5,s1];apply aa (ER Z.r s2 oM oM ones (fun h' f=>(f.c_ o2).o 2));rintro _ h3 ⟨rfl,F3⟩;cases c2:(sub.P4.take i).any (· ==ky)
    ·simp(disch:=omega)[a_,ah,K];rw[c,c2]at e;refine t_ ⟨sub.A_-(i+1),oM,(F.c Z).c F3,i+1,iS,iX,iX,iX,oM,by simpa using e,rfl⟩
     done
    ·simp[a_];have:=k _ ((F.c Z).c F3);rw[<-e,c,c2]at this;simpa using this
   ·simp(disch:=omega)[a_,ah,K,q2,bG,c];rw[c]at e;refine t_ ⟨sub.A_-(i+1),oM,F.c Z,i+1,iS,iX,iX,iX,oM,by simpa using e,rfl⟩
    done
  ·simp[a_,K,ab,(oM:¬(i:Int)<sub.A_)];rw[Vq (by rw[NT.ZL];omega)]at e;have:=k _ F;rw[<-e]at this;exact this
theorem Iz{h:b_}{b o:Nat}{at':List (i_×i_)}{sub:NT}{R:V->b_->Prop}(w:WF h)(hA:∀h',Fr [] h h'->Z3 h' b o x0 x1 x2 va x4 vc)
 (ra:o_ gK 2 h va at') (na:at'.length<=4096) (rc:Sl h 6 vc sub.A_ sub.I_) (nc:sub.A_<=4096) (ones:aw sub.I_=true) (g0:env.c_ 0=some (.u b o))
 (k:∀h',Fr [] h h'->R (.h (dX none at'&&gQ [] sub.P4)) h'):W go alA env h (jz [.t 2] R):=by
 have q3:=(hA h (Vk w)).2.2.2.1;simp[a_,alA,g0,q3,ra.M];refine aC (fun n env hh=>Fr [] h hh/\∃(i:Nat),env.c_ 103=some (ZZ i)/\env.c_ 102=some (ZZ at'.length)/\env.c_ 101=some va/\env.c_ 0=some (.u b o)/\
  i<=at'.length/\dX (kB at' i) (at'.drop i)=dX none at'/\n=at'.length-i) at'.length oM ?_ ?_
 ·exact⟨Vk w,0,iS,iS,iS,iX,oM,rfl,rfl⟩
 ·rintro n env hh ⟨F,i,Z,ab,ak,g0,hi,e,rfl⟩;by_cases ar:i<at'.length
  ·have ac:(i:Int)<at'.length:=oM
   let⟨b',o',a,p1,p2,p3,p4⟩:=(ra.fr F).ix fc .i64 (i:Int) oM ac;rw[pi]at p4;rw[aN p4,ql]at e;have en:=ue p4;let⟨h1,aH,ax,ay⟩:=au F.r [.f [],.f []];simp[a_,Z,ab,ak,ac,p1,p3,<-aH];apply u_ ax.r ay;rintro h2 o2 F2 n2;have ae:Fr [] hh h2:=ax.y F2 F.r (Ve _);have q0:ag h2 hh.i 0=some (.f a.1):=o2.o 0;have q1:ag h2 hh.i 1=some (.f a.2):=o2.o 1;simp[a_,g_,q0];apply aa um;rintro _ _ ⟨rfl,rfl⟩;cases c1:F_ a.1
   ·simp[a_,DF,g_,q0];have:=k _ (F.c ae);rw[<-e,c1]at this;simpa using this
   simp[a_,g_,q1];apply aa (Ao ae.r);rintro _ h3 ⟨rfl,F3⟩;have K:=(F.c ae).c F3;have af:ag h3 hh.i 0=some (.f a.1):=(F3.c_ o2).o 0;cases c2:Q0 a.2
   ·simp[a_,DF,g_,q0,q1];have:=k _ K;rw[<-e,c1,c2]at this;simpa using this
   have fin:cW (kB at' i) a.1=true->dX (kB at' (i+1)) (at'.drop (i+1))=dX none at':=fun c=>by grind
   by_cases c3:i=0
   ·simp(disch:=omega) only[a_,seval,DF,g_,ah,Z,q0,q1,(oM:¬(0:Int)<(i:Int))];refine t_ ⟨at'.length-(i+1),oM,K,i+1,iS,iX,iX,iX,oM,fin (by rw[c3];rfl),rfl⟩
    done
   ·let⟨b2,a0,a2,r1,r2,r3,r4⟩:=(ra.fr K).ix fc .i64 ((i:Int)-1) oM oM;have an:at'[i-1]? =some a2:=by rw[<-r4];congr 1;omega
    have aj:ag h3 b2 a0=some (.f a2.1):=r2 0 oM;have q3:=(hA h3 K).2.2.2.1;have pe:kB at' i=some a2.1:=by simp[kB,c3,an]
    cases c4:Zs a.1 a2.1
    ·simp(disch:=omega) only[a_,seval,DF,g_,ah,c4,Z,g0,q0,q1,af,q3,r1,aj,mY,(oM:(0:Int)<(i:Int))];refine t_ ⟨at'.length-(i+1),oM,K,i+1,iS,iX,iX,iX,oM,fin (by rw[pe];simp[cW,c4]),rfl⟩
     done
    ·simp(disch:=omega) only[a_,seval,DF,g_,ah,c4,g0,q0,q1,af,q3,r1,aj,mY,(oM:(0:Int)<(i:Int))];have:=k _ K;rw[<-e,pe,c1,c2]at this;simpa[cW,c4]using this
  ·simp[a_,Z,ab,(oM:¬(i:Int)<at'.length)];rw[Vq oM]at e;refine Ni F.r (fun h' f=>hA h' (F.c f)) (rc.fr F) nc ones iX fun h' f=>?_;have:=k h' (F.c f);rw[<-e]at this;simpa[dX]using this
theorem Iw{h:b_}{b o k:Nat}{tg ky tx:i_}{at':List (i_×i_)}{sub:NT}(w:WF h)(hA:∀h',Fr [] h h'->Z3 h' b o (ZY (k:Int)) (.f tg) (.f ky) va (.f tx) vc)
 (ra:o_ gK 2 h va at') (na:at'.length<=4096) (rc:Sl h 6 vc sub.A_ sub.I_) (nc:sub.A_<=4096) (ones:aw sub.I_=true):
 av go 253 [.u b o] h fun u h'=>u=.h (iV k tg ky at' tx sub)/\Fr [] h h':=by
 have q0:ag h b o=some (ZY (k:Int)):=(hA h (Vk w)).1;by_cases c0:k=2;have q4:ag h b (o+4)=some (.f tx):=(hA h (Vk w)).2.2.2.2.1;unfold iV;rw[if_pos c0];refine ai ?_;simp only[a_,seval,q0,(oM:(k:Int)=2),q4];refine aa (Ao w) ?_;rintro _ h1 ⟨rfl,Z⟩;let⟨_,q1,q2,q3,_,q5,_⟩:=hA h1 Z;have l1:=(ra.fr Z).M;have l2:=(rc.fr Z).A_;cases c1:Q0 tx;simp only[a_,seval];exact⟨rfl,Z⟩;cases c2:tg==[];simp only[a_,seval,q1,aR,c2];exact⟨rfl,Z⟩;cases c3:ky==[];simp only[a_,seval,q1,aR,c2,q2,c3];exact⟨rfl,Z⟩;by_cases c4:at'.length=0;by_cases c5:sub.A_=0;simp only[a_,seval,q1,aR,c2,q2,c3,q3,l1,(oM:((at'.length:Nat):Int)=0),q5,l2,(oM:((sub.A_:Nat):Int)=0)];exact⟨by simp[c4,c5],Z⟩;simp only[a_,seval,q1,aR,c2,q2,c3,q3,l1,(oM:((at'.length:Nat):Int)=0),q5,l2,(oM:¬((sub.A_:Nat):Int)=0)];exact⟨by simp[c5],Z⟩;simp only[a_,seval,q1,aR,c2,q2,c3,q3,l1,(oM:¬((at'.length:Nat):Int)=0)];exact⟨by simp[c4],Z⟩;unfold iV;rw[if_neg c0];by_cases c1:k=1;let⟨_,q1,q2,q3,q4,q5,_⟩:=hA h (Vk w);have l1:=ra.M;have l2:=rc.A_;refine ai ?_;simp only[a_,seval,q0,(oM:(k:Int)=1),q1];refine aa um ?_;rintro _ _ ⟨rfl,rfl⟩;cases c2:F_ tg;simp only[a_,seval];exact⟨iS,Vk w⟩;cases ck:ky==[];simp only[a_,seval,q2,bG,ck];refine aa um ?_;rintro _ _ ⟨rfl,rfl⟩;cases cn:F_ ky;simp only[a_,seval];exact⟨iS,Vk w⟩;cases K:tx==[];simp only[a_,seval,bG,q4,K];exact⟨iS,Vk w⟩;by_cases ca:at'.length<=8;by_cases cs:sub.A_<=16;simp only[a_,seval,bG,q4,K,q3,l1,(oM:¬(8:Int)<(at'.length:Nat)),q5,l2,(oM:¬(16:Int)<(sub.A_:Nat))];refine Iz w hA ra na rc nc ones iS fun h' f=>⟨by simp[c1,ca,cs],f⟩;simp only[a_,seval,bG,q4,K,q3,l1,(oM:¬(8:Int)<(at'.length:Nat)),q5,l2,(oM:(16:Int)<(sub.A_:Nat))];exact⟨by simp[cs],Vk w⟩;simp only[a_,seval,bG,q4,K,q3,l1,(oM:(8:Int)<(at'.length:Nat))];exact⟨by simp[ca],Vk w⟩;cases K:tx==[];simp only[a_,seval,q2,bG,ck,q4,K];exact⟨iS,Vk w⟩;by_cases ca:at'.length<=8;by_cases cs:sub.A_<=16;simp only[a_,seval,q2,bG,ck,q4,K,q3,l1,(oM:¬(8:Int)<(at'.length:Nat)),q5,l2,(oM:¬(16:Int)<(sub.A_:Nat))];refine Iz w hA ra na rc nc ones iS fun h' f=>⟨by simp[c1,ca,cs],f⟩;simp only[a_,seval,q2,bG,ck,q4,K,q3,l1,(oM:¬(8:Int)<(at'.length:Nat)),q5,l2,(oM:(16:Int)<(sub.A_:Nat))];exact⟨by simp[cs],Vk w⟩;simp only[a_,seval,q2,bG,ck,q4,K,q3,l1,(oM:(8:Int)<(at'.length:Nat))];exact⟨by simp[ca],Vk w⟩;refine ai ?_;simp only[a_,seval,q0,(oM:¬(k:Int)=2),(oM:¬(k:Int)=1)];exact⟨by simp[c1],Vk w⟩
theorem NH.aF{h:b_}:∀{t:NT},NH h t->aw t.I_=true
 |.D_,_=>rfl
 |.y_ k tg ky _ tx va vc _ nx,⟨_,b,_,d,_,_,g⟩=>by show aw ([ ZY (k:Int),.f tg,.f ky,va,.f tx,vc]++nx.I_)=true;rw[aO,NH.aF g];simp only[aA,aD,Wj b,Wj d];rfl
namespace NT
def R0(k:Nat)(tg ky:i_)(at':List (i_×i_))(tx:i_)(sub:NT)(w:Nat->Nat->Nat×Bool)(l c:Nat):Nat×Bool:=
 if 6<l\/64<c+1\/iV k tg ky at' tx sub=false then(c+1,false)else w (l+1) (c+1)
def Q2:NT->Nat->Nat->Nat×Bool
 |D_,_,c=>(c,true)
 |y_ k tg ky at' tx _ _ sub nx,l,c=>let r:=R0 k tg ky at' tx sub sub.Q2 l c;if r.2=true then nx.Q2 l r.1 else r
theorem jT:∀(t:NT)(l c:Nat),c≤64→(t.Q2 l c).1≤65∧((t.Q2 l c).2=true→(t.Q2 l c).1≤64)
 |D_,_,c,h=>⟨by simp[Q2];omega,fun _=>h⟩
 |y_ k tg ky at' tx _ _ sub nx,l,c,h=>by
  have q:(R0 k tg ky at' tx sub sub.Q2 l c).1≤65∧((R0 k tg ky at' tx sub sub.Q2 l c).2=true→(R0 k tg ky at' tx sub sub.Q2 l c).1≤64):=by unfold R0;split;grind;rename_i x;exact jT sub (l+1) (c+1) oM
  simp only[Q2];split;rename_i x;exact jT nx l _ (q.2 x);exact q
theorem node_le(k:Nat)(tg ky:i_)(at':List (i_×i_))(tx:i_)(sub:NT)(l c:Nat)(h:c<=64):(R0 k tg ky at' tx sub sub.Q2 l c).1<=65/\((R0 k tg ky at' tx sub sub.Q2 l c).2=true->(R0 k tg ky at' tx sub sub.Q2 l c).1<=64):=by unfold R0;split;grind;exact jT sub (l+1) (c+1) oM
end NT
structure Ms(h0 h:b_)(bc bd bw:Nat)(c d:Nat):Prop where
 f:Fr [] h0 h
 a:f_ h bc [ZZ (c:Int)]
 b:f_ h bd [ZZ (d:Int)]
 e:f_ h bw [.I (.func 252) [] [.u bc 0,.u bd 0,.u bw 0]]
 g:d<=7
structure MsB(h0:b_)(bc bd bw:Nat):Prop where
 w:WF h0
 c:h0.i<=bc
 d:h0.i<=bd
 b:h0.i<=bw
 a:bc≠bd
 e:bc≠bw
 f:bd≠bw
theorem Ms.c{h0 h:b_}{bc bd bw c d:Nat}(m:Ms h0 h bc bd bw c d)(f:Fr [] h h'):Ms h0 h' bc bd bw c d:=⟨m.f.c f,f.c_ m.a,f.c_ m.b,f.c_ m.e,m.g⟩
def Js(h0:b_)(k:Nat)(tg ky:i_)(at':List (i_×i_))(tx:i_)(va vc:V)(sub:NT):Prop:=
 ∀(h:b_)(b o bc bd bw l c d:Nat),MsB h0 bc bd bw->Ms h0 h bc bd bw c d->(∀h',Fr [] h0 h'->Z3 h' b o (ZY (k:Int)) (.f tg) (.f ky) va (.f tx) vc)->l<=7->c<=64->
  av go 252 [.u b o,ZZ (l:Int),.u bc 0,.u bd 0,.u bw 0] h fun u h'=>u=.h (NT.R0 k tg ky at' tx sub sub.Q2 l c).2/\∃d',Ms h0 h' bc bd bw (NT.R0 k tg ky at' tx sub sub.Q2 l c).1 d'
def Z1(h0:b_):NT->Prop
 |.D_=>True
 |.y_ k tg ky at' tx va vc sub nx=>Js h0 k tg ky at' tx va vc sub/\Z1 h0 nx
theorem Z1.Z8{h:b_}:∀{t:NT}(i:Nat),Z1 h t->Z1 h (t.Z8 i)
 |.D_,0,_=>trivial
 |.D_,_+1,_=>trivial
 |.y_ _ _ _ _ _ _ _ _ _,0,a=>a
 |.y_ _ _ _ _ _ _ _ _ _,i+1,⟨_,g⟩=>Z1.Z8 i g
theorem KF{h0:b_}{k:Nat}{tg ky:i_}{at':List (i_×i_)}{tx:i_}{sub:NT}
 (ra:o_ gK 2 h0 va at') (na:at'.length<=4096) (rc:Sl h0 6 vc sub.A_ sub.I_) (nc:sub.A_<=4096) (ns:NH h0 sub) (A:Z1 h0 sub):Js h0 k tg ky at' tx va vc sub:=by
 intro h b o bc bd bw l c d B M hA hl hc;have lc:ag h bc 0=some (ZZ (c:Int)):=M.a.o 0;refine ai ?_;simp(disch:=omega)[a_,ah,lc];refine u_ M.f.r M.a ?_;rintro h1 o1 F1 n1;have aH:f_ h1 bd [ZZ (d:Int)]:=F1.D _ _ (eV B.a.symm) M.b;have ld:ag h1 bd 0=some (ZZ (d:Int)):=aH.o 0;simp[a_,ld];have dl:=M.g;refine ao (c':=[ZZ ((max d l:Nat):Int)]) F1.r aH rfl rfl (by rw[(oM:((max d l:Nat):Int)=max (d:Int) (l:Int))];rfl) ?_;rintro h2 o2 F2 n2;have M2:Ms h0 h2 bc bd bw (c+1) (max d l):=by refine⟨?_,F2.D _ _ (eV B.a) o1,o2,F2.D _ _ (eV B.f.symm) (F1.D _ _ (eV B.e.symm) M.e),oM⟩;exact Vn (Vn M.f F1 B.w (fun x Z=>.inl Z) (fun x Z=>.inr (by simp at Z;subst Z;exact B.c))) F2 B.w (fun x Z=>.inl Z) (fun x Z=>.inr (by simp at Z;subst Z;exact B.d))
 have ak:ag h2 bc 0=some (ZZ ((c+1:Nat):Int)):=M2.a.o 0;by_cases c1:6<l;have e:NT.R0 k tg ky at' tx sub sub.Q2 l c=(c+1,false):=if_pos (.inl c1);simp only[a_,seval,(oM:(6:Int)<(l:Int))];rw[e];exact⟨rfl,_,M2⟩;by_cases c2:64<c+1;have e:NT.R0 k tg ky at' tx sub sub.Q2 l c=(c+1,false):=if_pos (.inr (.inl c2));simp only[a_,seval,(oM:¬(6:Int)<(l:Int)),ak,(oM:(64:Int)<((c+1:Nat):Int))];rw[e];exact⟨rfl,_,M2⟩;simp only[a_,seval,(oM:¬(6:Int)<(l:Int)),ak,(oM:¬(64:Int)<((c+1:Nat):Int))];apply aa (Iw M2.f.r (fun h' f=>hA h' (M2.f.c f)) (ra.fr M2.f) na (rc.fr M2.f) nc ns.aF);rintro _ h3 ⟨rfl,F3⟩;have M3:=M2.c F3;cases c3:iV k tg ky at' tx sub;have e:NT.R0 k tg ky at' tx sub sub.Q2 l c=(c+1,false):=if_pos (.inr (.inr c3));simp only[a_,seval];rw[e];exact⟨rfl,_,M3⟩;have e:NT.R0 k tg ky at' tx sub sub.Q2 l c=sub.Q2 (l+1) (c+1):=if_neg (by simp[c3];omega);rw[e];have q5:=(hA h3 M3.f).2.2.2.2.2.1;simp[a_,q5,(rc.fr M3.f).A_];refine aC (fun n env hh=>∃(i c' d':Nat),Ms h0 hh bc bd bw c' d'/\env.c_ 30=some (ZZ i)/\env.c_ 29=some (ZZ sub.A_)/\env.c_ 0=some (.u b o)/\env.c_ 1=some (ZZ l)/\env.c_ 4=some (.u bw 0)/\
  i<=sub.A_/\c'<=64/\(sub.Z8 i).Q2 (l+1) c'=sub.Q2 (l+1) (c+1)/\n=sub.A_-i) sub.A_ oM ?_ ?_
 exact⟨0,c+1,max d l,M3,iS,iS,iS,iS,iS,oM,oM,by cases sub<;>rfl,rfl⟩;rintro n env hh ⟨i,c',d',M',ab,an,g0,g1,g4,hi,ay,K,rfl⟩;by_cases aj:i<sub.A_;let⟨kd,af,ae,ax,ac,a1,a3,sb,nx,e1,e2,e3,e4,e5,e6⟩:=sub.ZM i aj;have ar:(i:Int)<sub.A_:=oM;have a:=A.Z8 i;rw[e1]at a K;let⟨b',o',p1,_⟩:=(rc.fr M'.f).aC aj e2;have a2:∀h',Fr [] h0 h'->Z3 h' b' o' (ZY (kd:Int)) (.f af) (.f ae) a1 (.f ac) a3:=fun h' f=>by let⟨b2,o2,a0,p2'⟩:=(rc.fr f).aC aj e2;rw[p1]at a0;cases a0;exact p2'
 have q5:=(hA hh M'.f).2.2.2.2.2.1;have lw:ag hh bw 0=some (.I (.func 252) [] [.u bc 0,.u bd 0,.u bw 0]):=M'.e.o 0;simp(disch:=omega) only[a_,seval,g_,ah,ab,an,g0,g1,g4,ar,lw,q5,p1];apply aa (a.1 hh b' o' bc bd bw (l+1) c' d' B M' a2 oM ay);rintro _ h4 ⟨rfl,d4,M4⟩;simp[NT.Q2]at K;have nl:=NT.node_le kd af ae ax ac sb (l+1) c' ay;cases c4:(NT.R0 kd af ae ax ac sb sb.Q2 (l+1) c').2;rw[c4]at K;simp only[a_,seval,DF,g_,g4,lw,q5];rw[<-K];exact⟨by simp[c4],d4,by simpa using M4⟩;rw[c4]at K;simp(disch:=omega) only[a_,seval,DF,g_,ah,ab,g4,lw,q5];refine t_ ⟨sub.A_-(i+1),oM,i+1,_,d4,M4,iS,iX,iX,iX,iX,oM,nl.2 c4,?_,rfl⟩;rw[e3];simpa using K;simp only[a_,seval,ab,an,(oM:¬(i:Int)<sub.A_)];rw[NT.Q? _ _ oM]at K;rw[<-K];exact⟨rfl,d',M'⟩
theorem Ng{h:b_}:∀{t:NT},NH h t->Z1 h t
 |.D_,_=>trivial
 |.y_ _ _ _ _ _ _ _ _ _,⟨_,b,c,d,e,f,g⟩=>⟨KF b c d e f (Ng f),Ng g⟩
def NT.R8(k:Nat)(tg ky:i_)(at':List (i_×i_))(tx:i_)(sub:NT):Nat:=
 if(R0 k tg ky at' tx sub sub.Q2 1 0).2=true then(R0 k tg ky at' tx sub sub.Q2 1 0).1 else 0
theorem BX{h:b_}{k:Nat}{tg ky:i_}{at':List (i_×i_)}{tx:i_}{sub:NT}(w:WF h)(n:NH h (.y_ k tg ky at' tx va vc sub .D_)):
 av go 203 [.B [ZY (k:Int),.f tg,.f ky,va,.f tx,vc]] h fun u h'=>∃d:Nat,u=.G [ZZ (NT.R8 k tg ky at' tx sub:Nat),ZZ (d:Int)]/\Fr [] h h':=by
 let⟨Z,ay,af,ar⟩:=au w [ZY (k:Int),.f tg,.f ky,va,.f tx,vc];let⟨h2,aH,an,a3⟩:=au af.r [ZZ 0];let⟨h3,ax,ak,a2⟩:=au an.r [ZZ 0];let⟨h4,a0,aj,a1⟩:=au ak.r [.R];have n1:=s_ ay;have n2:=s_ aH;have n3:=s_ ax;refine ai ?_;simp only[a_,seval,<-ay,<-aH,<-ax,<-a0];refine u_ aj.r a1 ?_;rintro h5 o5 F5 n5;have ac:Fr [] Z h5:=Ww af.r (an.c (ak.c aj)) F5 oO;have ob:=ac.c_ ar;have B:MsB Z Z.i h2.i h3.i:=⟨af.r,Ve _,oM,oM,oM,oM,oM⟩;have M:Ms Z h5 Z.i h2.i h3.i 0 0:=⟨ac,F5.D _ _ oO (aj.c_ (ak.c_ a3)),F5.D _ _ oO (aj.c_ a2),o5,oM⟩;have lw:ag h5 h3.i 0=some (.I (.func 252) [] [.u Z.i 0,.u h2.i 0,.u h3.i 0]):=o5.o 0;have A:=(Ng (n.fr af)).1;simp only[a_,seval,lw];apply aa (A h5 h.i 0 Z.i h2.i h3.i 1 0 0 B M (fun h' f=>(f.c_ ar).ac) oM oM);rintro _ h6 ⟨rfl,d,K⟩;unfold NT.R8;cases c:(NT.R0 k tg ky at' tx sub sub.Q2 1 0).2;simp only[a_,seval];apply u_ K.f.r K.a;rintro h7 o7 F7 n7;have ab:=F7.D _ _ oO K.b;simp only[a_,seval];apply u_ F7.r ab;rintro h8 o8 F8 n8;have a7:ag h8 Z.i 0=some (ZZ 0):=(F8.D _ _ oO o7).o 0;have a8:ag h8 h2.i 0=some (ZZ 0):=o8.o 0;simp only[a_,seval,a7,a8];refine⟨0,iS,?_⟩;exact Ww w af (Vn (T:=[Z.i,h2.i]) (Vn (T:=[Z.i,h2.i]) K.f F7 af.r iS iS) F8 af.r iS iS) oO;have lc:ag h6 Z.i 0=some (ZZ ((NT.R0 k tg ky at' tx sub sub.Q2 1 0).1:Int)):=K.a.o 0;have ld:ag h6 h2.i 0=some (ZZ (d:Int)):=K.b.o 0;simp only[a_,seval,g_,lc,ld];apply u_ K.f.r K.a;rintro h7 o7 F7 n7;have ab:=F7.D _ _ oO K.b;have ae:ag h7 h2.i 0=some (ZZ (d:Int)):=ab.o 0;simp only[a_,seval,g_];apply u_ F7.r ab;rintro h8 o8 F8 n8;have a7:ag h8 Z.i 0=some (ZZ ((NT.R0 k tg ky at' tx sub sub.Q2 1 0).1:Int)):=(F8.D _ _ oO o7).o 0;have a8:ag h8 h2.i 0=some (ZZ (d:Int)):=o8.o 0;simp only[a_,seval,DF,lc,ld,ae,a7,a8];refine⟨d,iS,?_⟩;exact Ww w af (Vn (T:=[Z.i,h2.i]) (Vn (T:=[Z.i,h2.i]) K.f F7 af.r iS iS) F8 af.r iS iS) oO
theorem qM{h:b_}{k:Nat}{tg ky:i_}{at':List (i_×i_)}{tx:i_}{sub:NT}(w:WF h)(n:NH h (.y_ k tg ky at' tx va vc sub .D_)):
 av go 142 [.B [ZY (k:Int),.f tg,.f ky,va,.f tx,vc]] h fun u h'=>u=ZZ (NT.R8 k tg ky at' tx sub:Nat)/\Fr [] h h':=by
 let⟨h1,ae,ab,ac⟩:=au w [ZY (k:Int),.f tg,.f ky,va,.f tx,vc];refine ai ?_;simp[a_,<-ae,ac.ac.2.2.2.2.2.2];refine aa (BX ab.r (n.fr ab)) ?_;rintro _ K ⟨d,rfl,Z⟩;simp[a_];exact ab.c Z
theorem wL{h:b_}{k:Nat}{tg ky:i_}{at':List (i_×i_)}{tx:i_}{sub:NT}(w:WF h)(n:NH h (.y_ k tg ky at' tx va vc sub .D_)):
 av go 74 [.B [ZY (k:Int),.f tg,.f ky,va,.f tx,vc]] h fun u h'=>u=ZZ (if NT.R8 k tg ky at' tx sub=0 then 14 else 0)/\Fr [] h h':=by
 let⟨h1,ae,ab,ac⟩:=au w [ZY (k:Int),.f tg,.f ky,va,.f tx,vc];by_cases c:NT.R8 k tg ky at' tx sub=0;refine ai ?_;simp[a_,<-ae,ac.ac.2.2.2.2.2.2];refine aa (qM ab.r (n.fr ab)) ?_;rintro _ K ⟨rfl,Z⟩;simp only[a_,seval,(oM:((NT.R8 k tg ky at' tx sub:Nat):Int)=0)];exact⟨by rw[if_pos c],ab.c Z⟩;refine ai ?_;simp[a_,<-ae,ac.ac.2.2.2.2.2.2];refine aa (qM ab.r (n.fr ab)) ?_;rintro _ K ⟨rfl,Z⟩;simp only[a_,seval,(oM:¬((NT.R8 k tg ky at' tx sub:Nat):Int)=0)];exact⟨by rw[if_neg c],ab.c Z⟩
theorem Cj(z:i_):NT.R8 1 z [] [] [] .D_=if F_ z then 1 else 0:=by
 have a:iV 1 z [] [] [] .D_=F_ z:=by simp[iV,dX,gQ,NT.P4,NT.A_]
 have e:NT.R0 1 z [] [] [] .D_ NT.D_.Q2 1 0=(1,F_ z):=by unfold NT.R0;rw[a];cases F_ z<;>rfl
 unfold NT.R8;rw[e]
theorem Ci(z:i_):NT.R8 2 [] [] [] z .D_=if Q0 z then 1 else 0:=by
 have a:iV 2 [] [] [] z .D_=Q0 z:=by simp[iV,NT.A_]
 have e:NT.R0 2 [] [] [] z .D_ NT.D_.Q2 1 0=(1,Q0 z):=by unfold NT.R0;rw[a];cases Q0 z<;>rfl
 unfold NT.R8;rw[e]
theorem mG{h:b_}(k:Nat)(hk:k<256)(tg tx:i_):NH h (.y_ k tg [] [] tx .j .j .D_ .D_):=⟨hk,Yo,iS,⟨rfl,rfl⟩,by simp[NT.A_],trivial,trivial⟩
theorem gZ{h:b_}{z:i_}(w:WF h):av go 248 [.f z] h fun u h'=>u=.h (F_ z)/\Fr [] h h':=by refine ai ?_;simp[a_];refine aa (wL (at':=[]) (sub:=.D_) w (mG 1 oM z [])) ?_;rintro _ Z ⟨rfl,F⟩;rw[Cj];cases F_ z;simp only[a_,↓reduceIte];exact⟨rfl,F⟩;simp[a_];exact F
theorem qC{h:b_}{z:i_}(w:WF h):av go 246 [.f z] h fun u h'=>u=.h (Q0 z)/\Fr [] h h':=by refine ai ?_;simp[a_];refine aa (wL (at':=[]) (sub:=.D_) w (mG 2 oM [] z)) ?_;rintro _ Z ⟨rfl,F⟩;rw[Ci];cases Q0 z;simp only[a_,↓reduceIte];exact⟨rfl,F⟩;simp[a_];exact F
abbrev Q5:=i_×Nat×i_
def vL(s:Q5):List V:=[.f s.1,ZY (s.2.1:Int),.f s.2.2]
theorem gE(s:Q5):(vL s).length=3:=rfl
def iY(p:Option i_)(s:Q5):Bool:=F_ s.1&&(decide (s.2.1<=3)&&(Q0 s.2.2&&((decide (s.2.1=0)||s.2.2==[])&&cW p s.1)))
def fx:Option i_->List Q5->Bool
 |_,[]=>true
 |p,s::r=>iY p s&&fx (some s.1) r
theorem kO(p:Option i_)(s:Q5)(r:List Q5):fx p (s::r)=(iY p s&&fx (some s.1) r):=rfl
def dM(at':List Q5)(i:Nat):Option i_:=if i=0 then none else(at'[i-1]?).map (·.1)
theorem tZ{at':List Q5}{i:Nat}{a:Q5}(h:at'[i]? =some a):dM at' (i+1)=some a.1:=by simp[dM,h]
def cP(l:List Q5):Bool:=decide (l.length<=8)&&fx none l
theorem tH{h:b_}{v:V}{l:List Q5}(w:WF h)(ra:o_ vL 3 h v l)(na:l.length<=4096):av go 283 [v] h fun u h'=>u=.h (cP l)/\Fr [] h h':=by
 by_cases c8:l.length<=8
 ·refine ai ?_;simp[a_,ra.M,(oM:¬(8:Int)<(l.length:Nat))];refine aC (fun n env hh=>Fr [] h hh/\∃(i:Nat),env.c_ 10=some (ZZ i)/\env.c_ 9=some (ZZ l.length)/\env.c_ 8=some v/\env.c_ 0=some v/\
   i<=l.length/\fx (dM l i) (l.drop i)=fx none l/\n=l.length-i) l.length oM ?_ ?_
  ·exact⟨Vk w,0,iS,iS,iS,iS,oM,rfl,rfl⟩
  ·rintro n env hh ⟨F,i,K,ae,ak,g0,hi,e,rfl⟩;by_cases ax:i<l.length
   ·have ac:(i:Int)<l.length:=oM
    let⟨b',o',a,p1,p2,p3,p4⟩:=(ra.fr F).ix gE .i64 (i:Int) oM ac;rw[pi]at p4;rw[aN p4,kO]at e;have en:=tZ p4;have bad:∀{h'},Fr [] h h'->iY (dM l i) a=false->V.h false=.h (cP l)/\Fr [] h h':=fun f c=>by
     rw[c]at e;exact⟨by simp[cP,<-e],f⟩
    let⟨h1,a1,ay,a0⟩:=au F.r [.f [],ZY 0,.f []];simp[a_,K,ae,ak,ac,p1,p3,<-a1];refine u_ ay.r a0 ?_;rintro h2 o2 F2 n2;have an:Fr [] hh h2:=ay.y F2 F.r (Ve _);have q0:ag h2 hh.i 0=some (.f a.1):=o2.o 0;simp[a_,g_,q0];refine aa (gZ an.r) ?_;rintro _ h3 ⟨rfl,F3⟩;have af:=(F.c an).c F3;have r1:ag h3 hh.i 1=some (ZY (a.2.1:Int)):=(F3.c_ o2).o 1;have r2:ag h3 hh.i 2=some (.f a.2.2):=(F3.c_ o2).o 2;cases c1:F_ a.1
    ·simp only[a_,seval,DF,g_,q0];exact bad af (by simp[iY,c1])
    by_cases c2:3<a.2.1
    ·simp only[a_,seval,DF,g_,q0,r1,(oM:(3:Int)<(a.2.1:Nat))];exact bad af (by simp[iY];omega)
    have ar:¬(3:Int)<(a.2.1:Nat):=oM
    simp[a_,g_,r1,ar,r2];refine aa (qC F3.r) ?_;rintro _ h4 ⟨rfl,F4⟩;have Z:=af.c F4;have o4:=F4.c_ (F3.c_ o2);have s0:ag h4 hh.i 0=some (.f a.1):=o4.o 0;have s1:ag h4 hh.i 1=some (ZY (a.2.1:Int)):=o4.o 1;have s2:ag h4 hh.i 2=some (.f a.2.2):=o4.o 2;cases c3:Q0 a.2.2
    ·simp only[a_,seval,DF,g_,q0,r1,r2];exact bad Z (by simp[iY,c3])
    have fin:(decide (a.2.1=0)||a.2.2==[])=true->cW (dM l i) a.1=true->fx (dM l (i+1)) (l.drop (i+1))=fx none l:=fun x y=>by
     have z:iY (dM l i) a=true:=by
      unfold iY;rw[c1,c3,x,y,(oO:decide (a.2.1<=3)=true)];rfl
     rw[z,YH]at e;rw[en];exact e
    by_cases cf:a.2.1=0
    ·by_cases c4:i=0
     ·simp(disch:=omega) only[a_,seval,DF,g_,ah,K,q0,r1,r2,s1,(oM:¬(0:Int)<(a.2.1:Nat)),(oM:¬(0:Int)<(i:Int))];refine t_ ⟨l.length-(i+1),oM,Z,i+1,iS,iX,iX,iX,oM,fin iX (by simp[dM,c4,cW]),rfl⟩
      done
     ·let⟨b2,aH,a2,t1,t2,t3,t4⟩:=(ra.fr Z).ix gE .i64 ((i:Int)-1) oM oM;have aj:l[i-1]? =some a2:=by rw[<-t4];congr 1;omega
      have ab:ag h4 b2 aH=some (.f a2.1):=t2 0 oM;have pe:dM l i=some a2.1:=by simp[dM,c4,aj]
      cases c5:Zs a.1 a2.1
      ·simp(disch:=omega) only[a_,seval,DF,g_,ah,K,g0,q0,r1,r2,s0,s1,(oM:¬(0:Int)<(a.2.1:Nat)),c5,t1,ab,mY,(oM:(0:Int)<(i:Int))];refine t_ ⟨l.length-(i+1),oM,Z,i+1,iS,iX,iX,iX,oM,fin iX (by rw[pe];simp[cW,c5]),rfl⟩
       done
      ·simp(disch:=omega) only[a_,seval,DF,g_,ah,g0,q0,r1,r2,s0,s1,(oM:¬(0:Int)<(a.2.1:Nat)),c5,t1,ab,mY,(oM:(0:Int)<(i:Int))];exact bad Z (by simp[iY,pe,cW,c5])
    ·cases cv:a.2.2==[]
     ·simp only[a_,seval,DF,g_,q0,r1,r2,s1,s2,(oM:(0:Int)<(a.2.1:Nat)),bG,cv];exact bad Z (by simp[iY,cf,cv])
     ·by_cases c4:i=0
      ·simp(disch:=omega) only[a_,seval,DF,g_,ah,K,q0,r1,r2,s1,s2,(oM:(0:Int)<(a.2.1:Nat)),bG,cv,(oM:¬(0:Int)<(i:Int))];refine t_ ⟨l.length-(i+1),oM,Z,i+1,iS,iX,iX,iX,oM,fin iX (by simp[dM,c4,cW]),rfl⟩
       done
      ·let⟨b2,aH,a2,t1,t2,t3,t4⟩:=(ra.fr Z).ix gE .i64 ((i:Int)-1) oM oM;have aj:l[i-1]? =some a2:=by rw[<-t4];congr 1;omega
       have ab:ag h4 b2 aH=some (.f a2.1):=t2 0 oM;have pe:dM l i=some a2.1:=by simp[dM,c4,aj]
       cases c5:Zs a.1 a2.1
       ·simp(disch:=omega) only[a_,seval,DF,g_,ah,K,g0,q0,r1,r2,s0,s1,s2,(oM:(0:Int)<(a.2.1:Nat)),bG,cv,c5,t1,ab,mY,(oM:(0:Int)<(i:Int))];refine t_ ⟨l.length-(i+1),oM,Z,i+1,iS,iX,iX,iX,oM,fin iX (by rw[pe];simp[cW,c5]),rfl⟩
        done
       ·simp(disch:=omega) only[a_,seval,DF,g_,ah,g0,q0,r1,r2,s0,s1,s2,(oM:(0:Int)<(a.2.1:Nat)),bG,cv,c5,t1,ab,mY,(oM:(0:Int)<(i:Int))];exact bad Z (by simp[iY,pe,cW,c5])
   ·simp only[a_,seval,K,ae,(oM:¬(i:Int)<l.length)];rw[Vq oM]at e;exact⟨by simp[cP,c8,<-e,fx],F⟩
 ·refine ai ?_;simp only[a_,seval,ra.M,(oM:(8:Int)<(l.length:Nat))];exact⟨by simp[cP,c8],Vk w⟩
inductive PT where
 |z_
 |p_ (kind:Nat) (tag key:i_) (slots:List Q5) (text:i_) (va vc:V) (sub next:PT)
namespace PT
def v_:PT->Nat
 |z_=>0
 |p_ _ _ _ _ _ _ _ _ nx=>nx.v_+1
def P5:PT->List V
 |z_=>[]
 |p_ k tg ky _ tx va vc _ nx=>[ ZY (k:Int),.f tg,.f ky,va,.f tx,vc]++nx.P5
def Z9:PT->List i_
 |z_=>[]
 |p_ _ _ ky _ _ _ _ _ nx=>ky::nx.Z9
theorem W1:∀t:PT,t.P5.length=t.v_*6
 |z_=>rfl
 |p_ _ _ _ _ _ _ _ _ nx=>by simp[P5,v_,W1 nx];omega
theorem X?:∀t:PT,t.Z9.length=t.v_
 |z_=>rfl
 |p_ _ _ _ _ _ _ _ _ nx=>by simp[Z9,v_,X? nx]
def Y2:PT->Nat->PT
 |t,0=>t
 |z_,_+1=>z_
 |p_ _ _ _ _ _ _ _ _ nx,i+1=>nx.Y2 i
end PT
def PH(h:b_):PT->Prop
 |.z_=>True
 |.p_ k _ _ at' _ va vc sub nx=>k<256/\o_ vL 3 h va at'/\at'.length<=4096/\Sl h 6 vc sub.v_ sub.P5/\sub.v_<=4096/\PH h sub/\PH h nx
theorem PH.fr{h:b_}(f:Fr [] h h'):∀{t:PT},PH h t->PH h' t
 |.z_,_=>trivial
 |.p_ _ _ _ _ _ _ _ _ _,⟨a,b,c,d,e,g,i⟩=>⟨a,b.fr f,c,d.fr f,e,PH.fr f g,PH.fr f i⟩
namespace PT
theorem ZO:∀(t:PT)(i:Nat),i<t.v_->∃k tg ky at' tx va vc sub nx,t.Y2 i=.p_ k tg ky at' tx va vc sub nx/\t.P5.drop (i*6)=[ZY ((k:Nat):Int),.f tg,.f ky,va,.f tx,vc]++nx.P5/\t.Y2 (i+1)=nx/\t.Z9.drop i=ky::nx.Z9/\t.Z9[i]? =some ky/\nx.v_+(i+1)=t.v_
 |.z_,_,h=>by cases h
 |.p_ k tg ky at' tx va vc sub nx,0,_=>⟨k,tg,ky,at',tx,va,vc,sub,nx,rfl,rfl,by cases nx<;>rfl,rfl,rfl,rfl⟩
 |.p_ _ _ _ _ _ _ _ _ nx,i+1,h=>by let⟨k,tg,ky,at',tx,va,vc,sub,n,e1,e2,e3,e4,e5,e6⟩:=ZO nx i (by simp[v_]at h;omega);refine⟨k,tg,ky,at',tx,va,vc,sub,n,e1,?_,e3,e4,?_,by simp only[v_];omega⟩;rw[(oM:(i+1) *6=6+i*6),<-Wd];exact e2;simpa[Z9]using e5
theorem Zt:∀(t:PT)(i:Nat),t.v_<=i->t.Y2 i=.z_
 |.z_,0,_=>rfl
 |.z_,_+1,_=>rfl
 |.p_ _ _ _ _ _ _ _ _ nx,0,h=>by simp[v_]at h
 |.p_ _ _ _ _ _ _ _ _ nx,i+1,h=>Zt nx i (by simp[v_]at h;omega)
end PT
theorem PH.Z8{h:b_}:∀{t:PT}(i:Nat),PH h t->PH h (t.Y2 i)
 |.z_,0,_=>trivial
 |.z_,_+1,_=>trivial
 |.p_ _ _ _ _ _ _ _ _ _,0,a=>a
 |.p_ _ _ _ _ _ _ _ _ _,i+1,⟨_,_,_,_,_,_,g⟩=>PH.Z8 i g
def eF(k:Nat)(tg ky:i_)(sl:List Q5)(tx:i_)(n:Nat):Bool:=
 if k=1 then(ky==[]||F_ ky)&&(decide (n<=16)&&(F_ tg&&(cP sl&&tx==[])))
 else if k=5 then F_ tg&&(cP sl&&(ky==[]&&(tx==[]&&decide (n=0))))
 else if k=2 then Q0 tx&&(tg==[]&&(ky==[]&&(decide (sl.length=0)&&decide (n=0))))
 else if k=3\/k=4 then tg==[]&&(ky==[]&&(tx==[]&&(decide (sl.length=0)&&decide (n=0))))
 else false
theorem PH.aF{h:b_}:∀{t:PT},PH h t->aw t.P5=true
 |.z_,_=>rfl
 |.p_ k tg ky _ tx va vc _ nx,⟨_,b,_,d,_,_,g⟩=>by show aw ([ ZY (k:Int),.f tg,.f ky,va,.f tx,vc]++nx.P5)=true;rw[aO,PH.aF g];simp only[aA,aD,Wj b,Wj d];rfl
namespace PT
def R2(k:Nat)(tg ky:i_)(at':List Q5)(tx:i_)(sub:PT)(w:Nat->Nat->Nat×Bool)(l c:Nat):Nat×Bool:=
 if 6<l\/64<c+1\/eF k tg ky at' tx sub.v_=false then(c+1,false)else w (l+1) (c+1)
def P7:PT->Nat->Nat->Nat×Bool
 |z_,_,c=>(c,true)
 |p_ k tg ky at' tx _ _ sub nx,l,c=>let r:=R2 k tg ky at' tx sub sub.P7 l c;if r.2=true then nx.P7 l r.1 else r
theorem jT:∀(t:PT)(l c:Nat),c≤64→(t.P7 l c).1≤65∧((t.P7 l c).2=true→(t.P7 l c).1≤64)
 |z_,_,c,h=>⟨by simp[P7];omega,fun _=>h⟩
 |p_ k tg ky at' tx _ _ sub nx,l,c,h=>by
  have q:(R2 k tg ky at' tx sub sub.P7 l c).1≤65∧((R2 k tg ky at' tx sub sub.P7 l c).2=true→(R2 k tg ky at' tx sub sub.P7 l c).1≤64):=by unfold R2;split;grind;rename_i x;exact jT sub (l+1) (c+1) oM
  simp only[P7];split;rename_i x;exact jT nx l _ (q.2 x);exact q
theorem node_le(k:Nat)(tg ky:i_)(at':List Q5)(tx:i_)(sub:PT)(l c:Nat)(h:c<=64):(R2 k tg ky at' tx sub sub.P7 l c).1<=65/\((R2 k tg ky at' tx sub sub.P7 l c).2=true->(R2 k tg ky at' tx sub sub.P7 l c).1<=64):=by unfold R2;split;grind;exact jT sub (l+1) (c+1) oM
end PT
theorem Eq{h:b_}{b o k:Nat}{tg ky tx:i_}{sl:List Q5}{sub:PT}(w:WF h)(hA:∀h',Fr [] h h'->Z3 h' b o (ZY (k:Int)) (.f tg) (.f ky) va (.f tx) vc)
 (ra:o_ vL 3 h va sl) (na:sl.length<=4096) (rc:Sl h 6 vc sub.v_ sub.P5) (nc:sub.v_<=4096):
 av go 261 [.u b o] h fun u h'=>u=.h (eF k tg ky sl tx sub.v_)/\Fr [] h h':=by
 have q:=hA h (Vk w);have ax:=Wj ra;have ar:=rc.O;let⟨h1,a0,ay,aH⟩:=au w [ZY 0,.f [],.f [],.j,.f [],.j];refine ai ?_;simp[a_,<-a0,q.2.2.2.2.2.2];refine ao (c':=[ZY (k:Int),.f tg,.f ky,va,.f tx,vc]) ay.r aH rfl (by simp only[V.s,aA,aD,ax,ar];rfl) rfl ?_;rintro h2 o2 F2 n2;have ab:Fr [] h h2:=ay.y F2 w (Ve _);let⟨q0,q1,q2,q3,q4,q5,_⟩:=hA h2 ab;have l3:aP .d [va]=some (ZZ (sl.length:Nat)):=ra.M;have l5:aP .d [vc]=some (ZZ (sub.v_:Nat)):=rc.A_;have s1:ag h2 h.i 1=some (.f tg):=o2.o 1;have s2:ag h2 h.i 2=some (.f ky):=o2.o 2;have s3:ag h2 h.i 3=some va:=o2.o 3;have s4:ag h2 h.i 4=some (.f tx):=o2.o 4;have s5:ag h2 h.i 5=some vc:=o2.o 5;unfold eF;by_cases k1:k=1;rw[if_pos k1];cases ck:ky==[];simp only[a_,seval,q0,(oM:(k:Int)=1),q2,bG,ck];apply aa (gZ F2.r);rintro _ h3 ⟨rfl,F3⟩;have ac:=ab.c F3;cases cn:F_ ky;simp only[a_,seval];exact⟨by simp[],ac⟩;have qp:=(hA h3 ac).2.2.2.2.2.1;by_cases aj:¬sub.v_<=16;simp only[a_,seval,qp,l5,(oM:(16:Int)<(sub.v_:Nat))];exact⟨by simp[aj],ac⟩;have cp:sub.v_<=16:=oM;simp only[a_,seval,qp,l5,(oM:¬(16:Int)<(sub.v_:Nat))];apply u_ F3.r (F3.c_ o2);rintro he oe Fe ne;simp only[a_,seval];apply u_ Fe.r oe;rintro hf of Ff nf;have Gf:Fr [] h hf:=(ac.y Fe w (Ve _)).y Ff w (Ve _);have qa:=(hA hf Gf).2.1;simp only[a_,seval,qa];apply aa (gZ Gf.r);rintro _ ha ⟨rfl,Fa⟩;have G1:=Gf.c Fa;have qb:=(hA ha G1).2.2.2.1;cases c1:F_ tg;simp only[a_,seval];exact⟨by simp,G1⟩;simp only[a_,seval,qb];apply aa (tH Fa.r (ra.fr G1) na);rintro _ hb ⟨rfl,Fb⟩;have G2:=G1.c Fb;cases c2:cP sl;simp only[a_,seval];exact⟨by simp,G2⟩;simp only[a_,seval];have oa:=Fb.c_ (Fa.c_ of);apply u_ Fb.r oa;rintro hc oc Fc ak;simp only[a_,seval];apply u_ Fc.r oc;rintro K od Fd nd;have Z:Fr [] h K:=(G2.y Fc w (Ve _)).y Fd w (Ve _);have z1:ag K h.i 1=some (.f []):=od.o 1;have z2:ag K h.i 2=some (.f []):=od.o 2;have z3:ag K h.i 3=some (.j):=od.o 3;have z4:ag K h.i 4=some (.f tx):=od.o 4;have z5:ag K h.i 5=some (.j):=od.o 5;cases tX:tx==[];simp only[a_,seval,z1,z2,z4,aR,(iR:(([]:i_)==[])=true),tX];exact⟨by simp,Z⟩;simp only[a_,seval,z1,z2,z3,z4,z5,aR,(iR:(([]:i_)==[])=true),tX];exact⟨by simp[cp],Z⟩;have ac:=ab;have qp:=(hA h2 ab).2.2.2.2.2.1;by_cases aj:¬sub.v_<=16;simp only[a_,seval,q0,(oM:(k:Int)=1),q2,bG,ck,qp,l5,(oM:(16:Int)<(sub.v_:Nat))];exact⟨by simp[aj],ab⟩;have cp:sub.v_<=16:=oM;simp only[a_,seval,q0,(oM:(k:Int)=1),q2,bG,ck,qp,l5,(oM:¬(16:Int)<(sub.v_:Nat))];apply u_ F2.r o2;rintro he oe Fe ne;simp only[a_,seval];apply u_ Fe.r oe;rintro hf of Ff nf;have Gf:Fr [] h hf:=(ab.y Fe w (Ve _)).y Ff w (Ve _);have qa:=(hA hf Gf).2.1;simp only[a_,seval,qa];apply aa (gZ Gf.r);rintro _ ha ⟨rfl,Fa⟩;have G1:=Gf.c Fa;have qb:=(hA ha G1).2.2.2.1;cases c1:F_ tg;simp only[a_,seval];exact⟨by simp,G1⟩;simp only[a_,seval,qb];apply aa (tH Fa.r (ra.fr G1) na);rintro _ hb ⟨rfl,Fb⟩;have G2:=G1.c Fb;cases c2:cP sl;simp only[a_,seval];exact⟨by simp,G2⟩;simp only[a_,seval];have oa:=Fb.c_ (Fa.c_ of);apply u_ Fb.r oa;rintro hc oc Fc ak;simp only[a_,seval];apply u_ Fc.r oc;rintro K od Fd nd;have Z:Fr [] h K:=(G2.y Fc w (Ve _)).y Fd w (Ve _);have z1:ag K h.i 1=some (.f []):=od.o 1;have z2:ag K h.i 2=some (.f []):=od.o 2;have z3:ag K h.i 3=some (.j):=od.o 3;have z4:ag K h.i 4=some (.f tx):=od.o 4;have z5:ag K h.i 5=some (.j):=od.o 5;cases tX:tx==[];simp only[a_,seval,z1,z2,z4,aR,(iR:(([]:i_)==[])=true),tX];exact⟨by simp,Z⟩;simp only[a_,seval,z1,z2,z3,z4,z5,aR,(iR:(([]:i_)==[])=true),tX];exact⟨by simp[cp],Z⟩;by_cases k5:k=5;rw[if_neg k1,if_pos k5];have qa:=(hA h2 ab).2.1;simp only[a_,seval,q0,(oM:(k:Int)=5),qa];apply aa (gZ ab.r);rintro _ ha ⟨rfl,Fa⟩;have G1:=ab.c Fa;have qb:=(hA ha G1).2.2.2.1;cases c1:F_ tg;simp only[a_,seval];exact⟨by simp[],G1⟩;simp only[a_,seval,qb];apply aa (tH Fa.r (ra.fr G1) na);rintro _ hb ⟨rfl,Fb⟩;have G2:=G1.c Fb;cases c2:cP sl;simp only[a_,seval];exact⟨by simp[],G2⟩;simp only[a_,seval];have oa:=Fb.c_ (Fa.c_ o2);apply u_ Fb.r oa;rintro hc oc Fc ak;simp only[a_,seval];apply u_ Fc.r oc;rintro K od Fd nd;have Z:Fr [] h K:=(G2.y Fc w (Ve _)).y Fd w (Ve _);have z1:ag K h.i 1=some (.f []):=od.o 1;have z2:ag K h.i 2=some (.f ky):=od.o 2;have z3:ag K h.i 3=some (.j):=od.o 3;have z4:ag K h.i 4=some (.f tx):=od.o 4;have z5:ag K h.i 5=some (vc):=od.o 5;cases tK:ky==[];simp only[a_,seval,z1,z2,aR,(iR:(([]:i_)==[])=true),tK];exact⟨by simp[],Z⟩;cases tX:tx==[];simp only[a_,seval,z1,z2,z4,aR,(iR:(([]:i_)==[])=true),tK,tX];exact⟨by simp[],Z⟩;by_cases ae:¬sub.v_=0;simp only[a_,seval,z1,z2,z3,z4,z5,aR,(iR:(([]:i_)==[])=true),tK,tX,l5,(oM:¬((sub.v_:Nat):Int)=0)];exact⟨by simp[ae],Z⟩;have tP:sub.v_=0:=oM;simp only[a_,seval,z1,z2,z3,z4,z5,aR,(iR:(([]:i_)==[])=true),tK,tX,l5,(oM:((sub.v_:Nat):Int)=0)];exact⟨by simp[tP],Z⟩;by_cases k2:k=2;rw[if_neg k1,if_neg k5,if_pos k2];simp only[a_,seval,q0,(oM:(k:Int)=2),q4];apply aa (qC F2.r);rintro _ h3 ⟨rfl,F3⟩;have ac:=ab.c F3;cases c1:Q0 tx;simp only[a_,seval];exact⟨iS,ac⟩;simp only[a_,seval];apply u_ F3.r (F3.c_ o2);rintro K od Fd nd;have Z:Fr [] h K:=ac.y Fd w (Ve _);have z1:ag K h.i 1=some (.f tg):=od.o 1;have z2:ag K h.i 2=some (.f ky):=od.o 2;have z3:ag K h.i 3=some (va):=od.o 3;have z4:ag K h.i 4=some (.f []):=od.o 4;have z5:ag K h.i 5=some (vc):=od.o 5;cases tT:tg==[];simp only[a_,seval,z1,aR,tT];exact⟨by simp[],Z⟩;cases tK:ky==[];simp only[a_,seval,z1,z2,aR,tT,tK];exact⟨by simp[],Z⟩;by_cases af:¬sl.length=0;simp only[a_,seval,z1,z2,z3,z4,aR,(iR:(([]:i_)==[])=true),tT,tK,l3,(oM:¬((sl.length:Nat):Int)=0)];exact⟨by simp[af],Z⟩;have tS:sl.length=0:=oM;by_cases ae:¬sub.v_=0;simp only[a_,seval,z1,z2,z3,z4,z5,aR,(iR:(([]:i_)==[])=true),tT,tK,l3,(oM:((sl.length:Nat):Int)=0),l5,(oM:¬((sub.v_:Nat):Int)=0)];exact⟨by simp[ae],Z⟩;have tP:sub.v_=0:=oM;simp only[a_,seval,z1,z2,z3,z4,z5,aR,(iR:(([]:i_)==[])=true),tT,tK,l3,(oM:((sl.length:Nat):Int)=0),l5,(oM:((sub.v_:Nat):Int)=0)];exact⟨by simp[tS,tP],Z⟩;by_cases an:k=3\/k=4;rw[if_neg k1,if_neg k5,if_neg k2,if_pos an];by_cases k3:k=3;have Z:=ab;cases tT:tg==[];simp only[a_,seval,q0,(oM:(k:Int)=3),s1,aR,tT];exact⟨by simp[],Z⟩;cases tK:ky==[];simp only[a_,seval,q0,(oM:(k:Int)=3),s1,s2,aR,tT,tK];exact⟨by simp[],Z⟩;cases tX:tx==[];simp only[a_,seval,q0,(oM:(k:Int)=3),s1,s2,s4,aR,tT,tK,tX];exact⟨by simp[],Z⟩;by_cases af:¬sl.length=0;simp only[a_,seval,q0,(oM:(k:Int)=3),s1,s2,s3,s4,aR,tT,tK,tX,l3,(oM:¬((sl.length:Nat):Int)=0)];exact⟨by simp[af],Z⟩;have tS:sl.length=0:=oM;by_cases ae:¬sub.v_=0;simp only[a_,seval,q0,(oM:(k:Int)=3),s1,s2,s3,s4,s5,aR,tT,tK,tX,l3,(oM:((sl.length:Nat):Int)=0),l5,(oM:¬((sub.v_:Nat):Int)=0)];exact⟨by simp[ae],Z⟩;have tP:sub.v_=0:=oM;simp only[a_,seval,q0,(oM:(k:Int)=3),s1,s2,s3,s4,s5,aR,tT,tK,tX,l3,(oM:((sl.length:Nat):Int)=0),l5,(oM:((sub.v_:Nat):Int)=0)];exact⟨by simp[tS,tP],Z⟩;have Z:=ab;cases tT:tg==[];simp only[a_,seval,q0,(oM:(k:Int)=4),s1,aR,tT];exact⟨by simp[],Z⟩;cases tK:ky==[];simp only[a_,seval,q0,(oM:(k:Int)=4),s1,s2,aR,tT,tK];exact⟨by simp[],Z⟩;cases tX:tx==[];simp only[a_,seval,q0,(oM:(k:Int)=4),s1,s2,s4,aR,tT,tK,tX];exact⟨by simp[],Z⟩;by_cases af:¬sl.length=0;simp only[a_,seval,q0,(oM:(k:Int)=4),s1,s2,s3,s4,aR,tT,tK,tX,l3,(oM:¬((sl.length:Nat):Int)=0)];exact⟨by simp[af],Z⟩;have tS:sl.length=0:=oM;by_cases ae:¬sub.v_=0;simp only[a_,seval,q0,(oM:(k:Int)=4),s1,s2,s3,s4,s5,aR,tT,tK,tX,l3,(oM:((sl.length:Nat):Int)=0),l5,(oM:¬((sub.v_:Nat):Int)=0)];exact⟨by simp[ae],Z⟩;have tP:sub.v_=0:=oM;simp only[a_,seval,q0,(oM:(k:Int)=4),s1,s2,s3,s4,s5,aR,tT,tK,tX,l3,(oM:((sl.length:Nat):Int)=0),l5,(oM:((sub.v_:Nat):Int)=0)];exact⟨by simp[tS,tP],Z⟩;rw[if_neg k1,if_neg k5,if_neg k2,if_neg an];simp[a_,q0,(oM:¬(k:Int)=1),(oM:¬(k:Int)=5),(oM:¬(k:Int)=2),(oM:¬(k:Int)=3),(oM:¬(k:Int)=4)];exact ab
structure Tm(h0 h:b_)(bc bf bw:Nat)(c:Nat):Prop where
 f:Fr [] h0 h
 a:f_ h bc [ZZ (c:Int)]
 b:f_ h bf [.I (.func 222) [] []]
 d:f_ h bw [.I (.func 260) [] [.u bc 0,.u bf 0,.u bw 0]]
theorem Tm.c{h0 h:b_}{bc bf bw c:Nat}(m:Tm h0 h bc bf bw c)(f:Fr [] h h'):Tm h0 h' bc bf bw c:=⟨m.f.c f,f.c_ m.a,f.c_ m.b,f.c_ m.d⟩
def Mf(h0:b_)(k:Nat)(tg ky:i_)(at':List Q5)(tx:i_)(va vc:V)(sub:PT):Prop:=
 ∀(h:b_)(b o bc bd bw l c:Nat),MsB h0 bc bd bw->Tm h0 h bc bd bw c->(∀h',Fr [] h0 h'->Z3 h' b o (ZY (k:Int)) (.f tg) (.f ky) va (.f tx) vc)->l<=7->c<=64->
  av go 260 [.u b o,ZZ (l:Int),.u bc 0,.u bd 0,.u bw 0] h fun u h'=>u=.h (PT.R2 k tg ky at' tx sub sub.P7 l c).2/\Tm h0 h' bc bd bw (PT.R2 k tg ky at' tx sub sub.P7 l c).1
def a?(h0:b_):PT->Prop
 |.z_=>True
 |.p_ k tg ky at' tx va vc sub nx=>Mf h0 k tg ky at' tx va vc sub/\a? h0 nx
theorem a?.Z8{h:b_}:∀{t:PT}(i:Nat),a? h t->a? h (t.Y2 i)
 |.z_,0,_=>trivial
 |.z_,_+1,_=>trivial
 |.p_ _ _ _ _ _ _ _ _ _,0,a=>a
 |.p_ _ _ _ _ _ _ _ _ _,i+1,⟨_,g⟩=>a?.Z8 i g
theorem MF{h:b_}(v:V):av go 222 [v] h fun u h'=>u=.G []/\h=h':=by refine ai ?_;simp[a_]
theorem Gm{h0:b_}{k:Nat}{tg ky:i_}{at':List Q5}{tx:i_}{sub:PT}
 (ra:o_ vL 3 h0 va at') (na:at'.length<=4096) (rc:Sl h0 6 vc sub.v_ sub.P5) (nc:sub.v_<=4096) (A:a? h0 sub):Mf h0 k tg ky at' tx va vc sub:=by
 intro h b o bc bd bw l c B M hA hl hc;have lc:ag h bc 0=some (ZZ (c:Int)):=M.a.o 0;refine ai ?_;simp(disch:=omega)[a_,ah,lc];refine u_ M.f.r M.a ?_;rintro h1 o1 F1 n1;have K:Tm h0 h1 bc bd bw (c+1):=by refine⟨?_,o1,F1.D _ _ (eV B.a.symm) M.b,F1.D _ _ (eV B.e.symm) M.d⟩;exact Vn M.f F1 B.w (fun x hx=>.inl hx) (fun x hx=>.inr (by simp at hx;subst hx;exact B.c))
 have ak:ag h1 bc 0=some (ZZ ((c+1:Nat):Int)):=K.a.o 0;by_cases c1:6<l;have e:PT.R2 k tg ky at' tx sub sub.P7 l c=(c+1,false):=if_pos (.inl c1);simp only[a_,seval,(oM:(6:Int)<(l:Int))];rw[e];exact⟨rfl,K⟩;by_cases c2:64<c+1;have e:PT.R2 k tg ky at' tx sub sub.P7 l c=(c+1,false):=if_pos (.inr (.inl c2));simp only[a_,seval,(oM:¬(6:Int)<(l:Int)),ak,(oM:(64:Int)<((c+1:Nat):Int))];rw[e];exact⟨rfl,K⟩;simp only[a_,seval,(oM:¬(6:Int)<(l:Int)),ak,(oM:¬(64:Int)<((c+1:Nat):Int))];apply aa (Eq K.f.r (fun h' f=>hA h' (K.f.c f)) (ra.fr K.f) na (rc.fr K.f) nc);rintro _ h3 ⟨rfl,F3⟩;have M3:=K.c F3;cases c3:eF k tg ky at' tx sub.v_;have e:PT.R2 k tg ky at' tx sub sub.P7 l c=(c+1,false):=if_pos (.inr (.inr c3));simp only[a_,seval];rw[e];exact⟨rfl,M3⟩;have e:PT.R2 k tg ky at' tx sub sub.P7 l c=sub.P7 (l+1) (c+1):=if_neg (by simp[c3];omega);rw[e];have q5:=(hA h3 M3.f).2.2.2.2.2.1;have lf:ag h3 bd 0=some (.I (.func 222) [] []):=M3.b.o 0;simp[a_,lf];apply aa (MF _);rintro _ _ ⟨rfl,rfl⟩;simp[a_,q5,(rc.fr M3.f).A_];refine aC (fun n env hh=>∃(i c':Nat),Tm h0 hh bc bd bw c'/\env.c_ 30=some (ZZ i)/\env.c_ 29=some (ZZ sub.v_)/\env.c_ 0=some (.u b o)/\env.c_ 1=some (ZZ l)/\env.c_ 4=some (.u bw 0)/\
  i<=sub.v_/\c'<=64/\(sub.Y2 i).P7 (l+1) c'=sub.P7 (l+1) (c+1)/\n=sub.v_-i) sub.v_ oM ?_ ?_
 exact⟨0,c+1,M3,iS,iS,iS,iS,iS,oM,oM,by cases sub<;>rfl,rfl⟩;rintro n env hh ⟨i,c',M',ab,an,g0,g1,g4,hi,ay,Z,rfl⟩;by_cases aj:i<sub.v_;let⟨kd,af,ae,ax,ac,a0,a2,sb,nx,e1,e2,e3,e4,e5,e6⟩:=sub.ZO i aj;have ar:(i:Int)<sub.v_:=oM;have a:=A.Z8 i;rw[e1]at a Z;let⟨b',o',p1,_⟩:=(rc.fr M'.f).aC aj e2;have a1:∀h',Fr [] h0 h'->Z3 h' b' o' (ZY (kd:Int)) (.f af) (.f ae) a0 (.f ac) a2:=fun h' f=>by let⟨b2,o2,aH,p2'⟩:=(rc.fr f).aC aj e2;rw[p1]at aH;cases aH;exact p2'
 have q5:=(hA hh M'.f).2.2.2.2.2.1;have lw:ag hh bw 0=some (.I (.func 260) [] [.u bc 0,.u bd 0,.u bw 0]):=M'.d.o 0;simp(disch:=omega)[a_,g_,ah,ab,an,g0,g1,g4,ar,lw,q5,p1];apply aa (a.1 hh b' o' bc bd bw (l+1) c' B M' a1 oM ay);rintro _ h4 ⟨rfl,M4⟩;simp[PT.P7]at Z;have nl:=PT.node_le kd af ae ax ac sb (l+1) c' ay;cases c4:(PT.R2 kd af ae ax ac sb sb.P7 (l+1) c').2;rw[c4]at Z;simp only[a_,seval,DF,g_,g4,lw,q5];rw[<-Z];exact⟨by simp[c4],by simpa using M4⟩;rw[c4]at Z;simp(disch:=omega)[a_,DF,g_,ah,ab,g4,lw,q5];refine t_ ⟨sub.v_-(i+1),oM,i+1,_,M4,iS,iX,iX,iX,iX,oM,nl.2 c4,?_,rfl⟩;rw[e3];simpa using Z;simp only[a_,seval,ab,an,(oM:¬(i:Int)<sub.v_)];rw[PT.Zt _ _ oM]at Z;rw[<-Z];exact⟨rfl,M'⟩
theorem tall{h:b_}:∀{t:PT},PH h t->a? h t
 |.z_,_=>trivial
 |.p_ _ _ _ _ _ _ _ _ _,⟨_,b,c,d,e,f,g⟩=>⟨Gm b c d e (tall f),tall g⟩
def PT.S4(k:Nat)(tg ky:i_)(at':List Q5)(tx:i_)(sub:PT):Nat:=
 if k=1/\(R2 k tg ky at' tx sub sub.P7 1 0).2=true then(R2 k tg ky at' tx sub sub.P7 1 0).1 else 0
theorem Gj{h:b_}{k b o:Nat}{tg ky:i_}{at':List Q5}{tx:i_}{sub:PT}(w:WF h)(n:PH h (.p_ k tg ky at' tx va vc sub .z_))
 (hA:∀h',Fr [] h h'->Z3 h' b o (ZY (k:Int)) (.f tg) (.f ky) va (.f tx) vc):
 av go 221 [.u b o,.I (.func 222) [] []] h fun u h'=>u=ZZ (PT.S4 k tg ky at' tx sub:Nat)/\Fr [] h h':=by
 let⟨h2,ak,ae,ay⟩:=au w [.I (.func 222) [] []];have q0:=(hA h2 ae).1;by_cases k1:k=1;let⟨h3,an,aj,ax⟩:=au ae.r [ZZ 0];have n2:=s_ ak;have n3:=s_ an;refine ai ?_;simp[a_,<-ak,q0,(oM:(k:Int)=1),<-an];refine u_ aj.r ax ?_;rintro Z o4 F4 n4;let⟨h5,ar,af,aH⟩:=au F4.r [.R];simp[a_,<-ar];refine u_ af.r aH ?_;rintro K o6 F6 n6;have ac:Fr [] h Z:=(ae.c aj).y F4 w oM;have ab:Fr [] h K:=(ac.c af).y F6 w oM;have B:MsB h h2.i h.i Z.i:=⟨w,oM,Ve _,oM,oM,oM,oM⟩;have M:Tm h K h2.i h.i Z.i 0:=⟨ab,F6.D _ _ oO (af.c_ o4),F6.D _ _ oO (af.c_ (F4.D _ _ oO (aj.c_ ay))),o6⟩;have lw:ag K Z.i 0=some (.I (.func 260) [] [.u h2.i 0,.u h.i 0,.u Z.i 0]):=o6.o 0;simp[a_,lw];refine aa ((tall n).1 K b o h2.i h.i Z.i 1 0 B M hA oM oM) ?_;rintro _ h7 ⟨rfl,M7⟩;unfold PT.S4;cases c:(PT.R2 k tg ky at' tx sub sub.P7 1 0).2;simp only[a_,seval];exact⟨iS,M7.f⟩;have lc:ag h7 h2.i 0=some (ZZ ((PT.R2 k tg ky at' tx sub sub.P7 1 0).1:Int)):=M7.a.o 0;simp only[a_,seval,lc];exact⟨by simp[k1],M7.f⟩;refine ai ?_;simp only[a_,seval,<-ak,q0,(oM:¬(k:Int)=1)];exact⟨by simp[PT.S4,k1],ae⟩
theorem wj{h:b_}{k:Nat}{tg ky:i_}{at':List Q5}{tx:i_}{sub:PT}(w:WF h)(n:PH h (.p_ k tg ky at' tx va vc sub .z_)):
 av go 163 [.B [ZY (k:Int),.f tg,.f ky,va,.f tx,vc]] h fun u h'=>u=ZZ (PT.S4 k tg ky at' tx sub:Nat)/\Fr [] h h':=by
 let⟨h1,ae,ab,ac⟩:=au w [ZY (k:Int),.f tg,.f ky,va,.f tx,vc];refine ai ?_;simp[a_,<-ae];refine aa (Gj ab.r (n.fr ab) (fun h' f=>(f.c_ ac).ac)) ?_;rintro _ K ⟨rfl,Z⟩;simp[a_];exact ab.c Z
theorem wk{h:b_}{k:Nat}{tg ky:i_}{at':List Q5}{tx:i_}{sub:PT}(w:WF h)(n:PH h (.p_ k tg ky at' tx va vc sub .z_)):
 av go 89 [.B [ZY (k:Int),.f tg,.f ky,va,.f tx,vc]] h fun u h'=>u=ZZ (if PT.S4 k tg ky at' tx sub=0 then 14 else 0)/\Fr [] h h':=by
 let⟨h1,ae,ab,ac⟩:=au w [ZY (k:Int),.f tg,.f ky,va,.f tx,vc];by_cases c:PT.S4 k tg ky at' tx sub=0;refine ai ?_;simp[a_,<-ae,ac.ac.2.2.2.2.2.2];refine aa (wj ab.r (n.fr ab)) ?_;rintro _ K ⟨rfl,Z⟩;simp only[a_,seval,(oM:((PT.S4 k tg ky at' tx sub:Nat):Int)=0)];exact⟨by rw[if_pos c],ab.c Z⟩;refine ai ?_;simp[a_,<-ae,ac.ac.2.2.2.2.2.2];refine aa (wj ab.r (n.fr ab)) ?_;rintro _ K ⟨rfl,Z⟩;simp only[a_,seval,(oM:¬((PT.S4 k tg ky at' tx sub:Nat):Int)=0)];exact⟨by rw[if_neg c],ab.c Z⟩
theorem Pe:Ll 247:=⟨dI,fun z h w=>by
 refine ai ?_;simp[a_];refine aa (gZ w) ?_;rintro _ h1 ⟨rfl,F⟩;simp[a_];exact F⟩
def iA(x:e_):Bool:=decide (x.A≠0)&&(Q0 x.U&&Zz x.E)
theorem zo{h:b_}{x:e_}(w:WF h)(a:q_ h x):av go 201 [.B x.s] h fun u h'=>u=ZZ (if iA x then 0 else 6)/\Fr [] h h':=by let⟨h1,ae,ac,ab⟩:=au w x.s;have l0:ag h1 h.i 0=some (ZX (x.A:Int)):=ab.o 0;have l2:ag h1 h.i 2=some (.f x.U):=ab.o 2;by_cases c0:x.A=0;refine ai ?_;simp only[a_,seval,<-ae,l0,(oM:(x.A:Int)=0)];exact⟨by simp[iA,c0],ac⟩;refine ai ?_;simp only[a_,seval,<-ae,l0,(oM:¬(x.A:Int)=0),l2];apply aa (qC ac.r);rintro _ h2 ⟨rfl,K⟩;have Z:=ac.c K;have l3:ag h2 h.i 3=some x.vm:=(K.c_ ab).o 3;cases c2:Q0 x.U;simp only[a_,seval];exact⟨by simp[iA,c2],Z⟩;by_cases c3:x.E.length<=8;simp[a_,l3,a.m.A_,(oM:¬(8:Int)<(x.E.length:Nat))];apply aa (qc Pe K.r (a.m.fr Z) a.n);rintro _ h3 ⟨rfl,F3⟩;cases c4:x.E.all F_;simp only[a_,seval];exact⟨by simp[iA,Zz,c4],Z.c F3⟩;simp only[a_,seval];exact⟨by simp[iA,Zz,c0,c2,c3,c4],Z.c F3⟩;simp only[a_,seval,l3,a.m.A_,(oM:(8:Int)<(x.E.length:Nat))];exact⟨by simp[iA,Zz,c3],Z⟩
def W0(n:Nat):i_:=if h:n<10 then[UInt8.ofNat (48+n)]else W0 (n/10)++[UInt8.ofNat (48+n%10)]
termination_by n
decreasing_by omega
theorem yY{n:Nat}(h:n<10):W0 n=[UInt8.ofNat (48+n)]:=by rw[W0,dif_pos h]
theorem Ch{n:Nat}(h:¬n<10):W0 n=W0 (n/10)++[UInt8.ofNat (48+n%10)]:=by rw[W0,dif_neg h]
def c8(b:UInt8):V:=ZY (b.toNat:Int)
theorem Bo:∀z:i_,gC (z.map c8)=some z
 |[]=>rfl
 |b::z=>by
  show(match gC (z.map c8)with|some s=>some (UInt8.ofNat ((b.toNat:Int)).toNat::s)|none=>none)=_
  rw[Bo z,pi,UInt8.ofNat_toNat]
theorem Ig:∀d,d<10->aP .q [.f [48,49,50,51,52,53,54,55,56,57],ZX (d:Nat)]=some (c8 (UInt8.ofNat (48+d))):=by
 intro d Z;match d,Z with
 |0,_=>rfl
 |1,_=>rfl
 |2,_=>rfl
 |3,_=>rfl
 |4,_=>rfl
 |5,_=>rfl
 |6,_=>rfl
 |7,_=>rfl
 |8,_=>rfl
 |9,_=>rfl
theorem My{call:aL}{Z:List V}{h:b_}(x:G_)(K:V->b_->Prop):OQ (aS call Z env h (.j x)) K↔∃d,E_ Z env x=some d/\VQ (zC h d) K h:=by
 simp[aS,OQ,VQ];cases E_ Z env x with
 |none=>simp
 |some d=>
  simp only[];cases e:zC h d with
  |none=>simp[e]
  |some v=>simp only[];exact⟨fun⟨_,_,q,k⟩=>by cases q;exact⟨d,rfl,_,e,k⟩,fun⟨_,q,_,e',k⟩=>by cases q;rw[e]at e';cases e';exact⟨_,_,rfl,k⟩⟩
theorem It{h:b_}(d:V)(K:V->b_->Prop):(∃e,some d=some e/\VQ (zC h e) K h)↔VQ (zC h d) K h:=⟨fun⟨_,e,k⟩=>by cases e;exact k,fun k=>⟨d,rfl,k⟩⟩
theorem pa{h:b_}{n:Nat}(w:WF h)(hn:n<18446744073709551616):av go 251 [ZX (n:Int)] h fun u h'=>u=.f (W0 n)/\Fr [] h h':=by
 let⟨h1,aj,ak,af⟩:=au w [ZY 0,ZY 0,ZY 0,ZY 0,ZY 0,ZY 0,ZY 0,ZY 0,ZY 0,ZY 0,ZY 0,ZY 0,ZY 0,ZY 0,ZY 0,ZY 0,ZY 0,ZY 0,ZY 0,ZY 0];refine ai ?_;simp[a_,<-aj];refine aC (fun k env hh=>Fr [] h hh/\∃(i m:Nat)(Z:i_)(C:List V),env.c_ 4=some (ZZ i)/\env.c_ 0=some (ZX m)/\env.c_ 3=some (.u h.i 0)/\f_ hh h.i C/\
  C.length=20/\C.drop i=Z.map c8/\0<i/\i<=20/\m<10^i/\W0 n=W0 m++Z/\m<18446744073709551616/\k=i) 20 oM ?_ ?_
 exact⟨ak,20,n,[],_,iS,iS,iS,af,rfl,rfl,oM,oM,oM,iS,hn,rfl⟩;rintro k env hh ⟨F,i,m,Z,C,g4,g0,g3,oC,hC,hd,i0,ac,hm,e,ae,hk⟩;have r1:aP (.h .rem) [ZX (m:Int),ZX 10]=some (ZX ((m%10:Nat):Int)):=by rw[jy _ _ _ dI];rfl
 have r2:aP (.h .quo) [ZX (m:Int),ZX 10]=some (ZX ((m/10:Nat):Int)):=by rw[pp _ _ _ dI,(iR:((m:Int)).tdiv 10=((m/10:Nat):Int)),bY _ oM oM]
 have r3:=Ig (m%10) (WN _ oM);obtain⟨j,rfl⟩:∃j,i=j+1:=⟨i-1,oM⟩;have r4:=vu 1 h.i 0 20 .i64 ((j:Int)) oM oM;simp at r4;simp(disch:=omega) only[a_,seval,ah,g4,g0,g3,r1,r3,(oM:(((j+1:Nat):Int)-1)=(j:Int)),r4];refine ao (c':=C.set j (c8 (UInt8.ofNat (48+m%10)))) F.r oC rfl rfl (mj C j _ oM) ?_;rintro h2 o2 F2 n2;have K:Fr [] h h2:=F.y F2 w (Ve _);have ab:(C.set j (c8 (UInt8.ofNat (48+m%10)))).drop j=(UInt8.ofNat (48+m%10)::Z).map c8:=by rw[WK,if_pos oM,hd,Wc oO];rw[Vq oO];rfl
 by_cases c:m/10=0;have e2:W0 n=UInt8.ofNat (48+m%10)::Z:=by rw[e,yY oM,(oM:m%10=m)];rfl
 have s1:aP (.s (some 20) 1 true false false) [.u h.i 0,ZZ (j:Int)]=some (.z h.i j (20-j) (20-j)):=by simp[aP,zw,aZ,bZ .i64 (j:Int) 20 oM oM,Vx,Yf,fD (oM:(20:Nat)≠j),cond_false,pi,VR,WC]
 have s2:zC h2 (.z h.i j (20-j) (20-j))=some (.f (W0 n)):=by
  have:aq h2 h.i j (20-j)=some ((UInt8.ofNat (48+m%10)::Z).map c8):=by rw[o2.J,bR,bO _ _ oO,Vm oO,ab]
  simp only[zC,this,Bo,Vx,e2]
 simp[a_,r2,g0,g3,(oM:((m/10:Nat):Int)=0),s1,My,s2];exact K;have e2:W0 n=W0 (m/10)++UInt8.ofNat (48+m%10)::Z:=by rw[e,Ch oM];simp
 have j0:0<j:=by obtain z|z:=Nat.eq_zero_or_pos j;subst z;simp at hm;omega;exact z
 simp only[a_,seval,r2,g0,(oM:¬((m/10:Nat):Int)=0)];refine t_ ⟨j,oM,K,j,m/10,_,_,iS,iS,iX,o2,by simp[hC],ab,j0,oM,by rw[Nat.pow_succ]at hm;omega,e2,oM,rfl⟩
 done
def Bq(x:e_)(s:Q5):i_:=if s.2.1=0 then s.2.2 else if s.2.1=1 then x.U else if s.2.1=2 then W0 x.A else W0 x.E.length
def P1(x:e_)(s:Q5):i_×i_:=(s.1,Bq x s)
theorem pu{h:b_}{z:i_}(w:WF h):av go 250 [.f z] h fun u h'=>u=.B [ZY 2,.f [],.f [],.j,.f z,.j]/\Fr [] h h':=by let⟨h1,ae,ab,ac⟩:=au w [ZY 0,.f [],.f [],.j,.f [],.j];refine ai ?_;simp[a_,<-ae];refine u_ ab.r ac ?_;rintro K o2 Z n2;have l:=o2.ac.2.2.2.2.2.2;simp[a_,l];exact ab.y Z w (Ve _)
theorem Iu{h:b_}{x:e_}{v:V}{l:List Q5}(w:WF h)(a:q_ h x)(r:o_ vL 3 h v l)(nl:l.length<=4096)(h3:∀s∈l,s.2.1<=3):
 av go 276 [.B x.s,v] h fun u h'=>∃b,h.i<=b/\U0 2 h' u b ((l.map (P1 x)).flatMap gK) l.length/\Fr [] h h':=by
 have kx:=a.k;have nx:=a.n;let⟨h1,a2,a0,a3⟩:=au w x.s;have n1:=s_ a2;refine ai ?_;simp[a_,<-a2,r.M];refine(dy _ _ _ _ _ _ _ _ oM oM oM oM).2 ?_;simp;obtain⟨h2,K⟩:∃h2,h2=k_ h1 (aW [.f [],.f []] l.length):=⟨_,rfl⟩;have ae:Fr [] h1 h2:=K▸VL a0.r _;have ac:f_ h2 h1.i (aW [.f [],.f []] l.length):=K▸Wi a0.r _;have ln:(aW [V.f [],V.f []] l.length).length=l.length*2:=c9 _ _;rw[<-K];clear K;generalize aW [V.f [],V.f []] l.length=Z at ln ac;simp[a_,r.M];refine aC (fun n env hh=>Fr [] h hh/\Fr [] h1 hh/\∃(i:Nat)(C:List V),env.c_ 13=some (ZZ i)/\env.c_ 12=some (ZZ l.length)/\env.c_ 11=some v/\env.c_ 5=some (.z h1.i 0 l.length l.length)/\env.c_ 2=some (.u h.i 0)/\
  i<=l.length/\f_ hh h1.i C/\C.length=l.length*2/\C.take (i*2)=((l.take i).map (P1 x)).flatMap gK/\n=l.length-i) l.length oM ?_ ?_
 ·exact⟨a0.c ae,ae,0,Z,iS,iS,iS,iS,iS,oM,ac,ln,iS,rfl⟩
 ·rintro n env hh ⟨F,F1,i,C,aj,an,ar,g5,g2,hi,oC,lC,eC,rfl⟩;by_cases aH:i<l.length
  ·have ab:(i:Int)<l.length:=oM
   let⟨b',o',s,p1,p2,p3,p4⟩:=(r.fr F).ix gE .i64 (i:Int) oM ab;rw[pi]at p4;have s3:=h3 s (Vg p4);let⟨h3,a5,a1,a4⟩:=au F.r [.f [],ZY 0,.f []];simp only[a_,seval,aj,an,ar,ab,p1,p3,<-a5];apply u_ a1.r a4;rintro h4 o4 F4 n4;have af:Fr [] hh h4:=a1.y F4 F.r (Ve _);have ox:=af.c_ (F1.c_ a3);have u0:ag h4 hh.i 0=some (.f s.1):=o4.o 0;have u1:ag h4 hh.i 1=some (ZY (s.2.1:Int)):=o4.o 1;have u2:ag h4 hh.i 2=some (.f s.2.2):=o4.o 2;have x0:ag h4 h.i 0=some (ZX (x.A:Int)):=ox.o 0;have x2:ag h4 h.i 2=some (.f x.U):=ox.o 2;have x3:ag h4 h.i 3=some x.vm:=ox.o 3;simp only[a_,seval,g_,g5,g2,u0,u2,x2,x0];apply aa (pa af.r kx);rintro _ h5 ⟨rfl,F5⟩;have v0:ag h5 hh.i 0=some (.f s.1):=(F5.c_ o4).o 0;have v1:ag h5 hh.i 1=some (ZY (s.2.1:Int)):=(F5.c_ o4).o 1;have v2:ag h5 hh.i 2=some (.f s.2.2):=(F5.c_ o4).o 2;have y2:ag h5 h.i 2=some (.f x.U):=(F5.c_ ox).o 2;have y3:ag h5 h.i 3=some x.vm:=(F5.c_ ox).o 3;have cv:bF .u64 (x.E.length:Int)=(x.E.length:Int):=bY _ oM oM;simp only[a_,seval,g_,g2,y3,a.m.A_,cv];apply aa (pa F5.r oM);rintro _ h6 ⟨rfl,F6⟩;have ak:=(af.c F5).c F6;have w0:ag h6 hh.i 0=some (.f s.1):=(F6.c_ (F5.c_ o4)).o 0;have w1:ag h6 hh.i 1=some (ZY (s.2.1:Int)):=(F6.c_ (F5.c_ o4)).o 1;have w2:ag h6 hh.i 2=some (.f s.2.2):=(F6.c_ (F5.c_ o4)).o 2;have z2:ag h6 h.i 2=some (.f x.U):=(F6.c_ (F5.c_ ox)).o 2;have z3:ag h6 h.i 3=some x.vm:=(F6.c_ (F5.c_ ox)).o 3;have pk:aP (.f 4 1 false) [.B [.f s.2.2,.f x.U,.f (W0 x.A),.f (W0 x.E.length)],ZY (s.2.1:Int)]=some (.f (Bq x s)):=by
    rw[IP _ _ _ _ oM];have:s.2.1=0\/s.2.1=1\/s.2.1=2\/s.2.1=3:=oM
    obtain e|e|e|e:=this<;>(rw[e];simp only[Bq,e];rfl)
   have ix:=eM 2 h1.i 0 l.length l.length .i64 (i:Int) oM ab;simp at ix;simp only[a_,seval,g_,w1,pk,ix];refine ao (c':=C.take (i*2)++gK (P1 x s)++C.drop (i*2+2)) F6.r (ak.c_ oC) rfl rfl (bN C (i*2) (gK (P1 x s)) (by show i*2+2<=C.length;omega)) ?_;rintro h7 o7 F7 n7;have ax:Fr [] h h7:=(F.c ak).y F7 w oM;have ay:Fr [] h1 h7:=(F1.c ak).y F7 a0.r (Ve _);have fin:(C.take (i*2)++gK (P1 x s)++C.drop (i*2+2)).take ((i+1) *2)=((l.take (i+1)).map (P1 x)).flatMap gK:=by
    have:(C.take (i*2)++gK (P1 x s)).length=(i+1) *2:=by rw[Vv,fc,Xg];omega
    rw[<-this,XA,eC,Vs,p4];simp
   simp(disch:=omega) only[a_,seval,DF,ah,aj,u0,u1,u2,x0,x2,x3,v0,v1,v2,y2,y3,w0,w1,w2,z2];refine t_ ⟨l.length-(i+1),oM,ax,ay,i+1,_,iS,iX,iX,iX,iX,oM,o7,by simp[gK];omega,fin,rfl⟩
   done
  ·simp[a_,aj,an,g5,(oM:¬(i:Int)<l.length)];rw[Vm oM,Vm oM]at eC;subst eC;exact⟨h1.i,oM,⟨by rw[lC],.inr ⟨rfl,oC⟩⟩,F⟩
theorem Bh{e:Nat}{h:b_}{v:V}{n:Nat}(he:0<e)(a:Sl h e v n cs)(hv:v≠.F):
 ∃u,aP (.s none e false true true) [v,ZZ (n:Int),ZZ (n:Int)]=some u/\Sl h e u n cs/\u≠.F:=by
 let⟨hl,a⟩:=a;have q:∀y,n<=y->aZ n y false true true [ZZ (n:Int),ZZ (n:Int)]=some (0,n,some n):=fun y hy=>by simp[aZ,bZ .i64 (n:Int) y oM oM,bZ .i64 (n:Int) n oM oM]
 cases v with
 |j=>have a:n=0:=a;subst a;exact⟨.j,by simp only[aP,eJ,q 0 (Ve _),Vx],⟨hl,rfl⟩,iS⟩
 |z b o len cap=>obtain⟨rfl,h2,c,Z,h3,e3⟩:=a;refine⟨.z b (bif Nat.beq len 0 then o else o+0*e) (len-0) (len-0),by simp[aP,eJ,q cap h2],⟨hl,rfl,Ve _,c,Z,?_⟩,iS⟩;by_cases K:len=0;grind;grind
 |L b o len e'=>obtain⟨rfl,rfl,c,Z,h3,e3⟩:=a;refine⟨.z b (bif Nat.beq len 0 then o else o+0*e') (len-0) (len-0),by simp[aP,eJ,(VE ..).mpr he,q len (Ve _)],⟨hl,rfl,Ve _,c,Z,?_⟩,iS⟩;by_cases K:len=0;grind;grind
 |F=>exact absurd rfl hv
 |_=>exact a.elim
theorem Il{h:b_}{v:V}{n:Nat}(a:Sl h 6 v n cs)(hv:v≠.F):av go 277 [v] h fun u h'=>(∀h2,Sl h2 6 v n cs->Sl h2 6 u n cs)/\u≠.F/\h=h':=by let⟨u,e,s,ne⟩:=Bh oM a hv;refine ai ?_;simp[a_,a.A_,e];refine⟨fun h2 K=>?_,ne⟩;let⟨u2,Z,s2,_⟩:=Bh oM K hv;rw[e]at Z;cases Z;exact s2
theorem uP{h:b_}{x:e_}{v:V}{k:Nat}{tg ky tx key:i_}{l:List Q5}{vs vp:V}{n:Nat}(w:WF h)(a:q_ h x)(r:o_ vL 3 h vs l)(nl:l.length<=4096)(h3:∀s∈l,s.2.1<=3)
 (af:vp.O=true) (c:Sl h 6 v n cs) (hv:v≠.F):
 av go 249 [.B x.s,.B [ZY (k:Int),.f tg,.f ky,vs,.f tx,vp],.f key,v] h fun u h'=>∃va vc ba,u=.B [ZY 1,.f tg,.f key,va,.f [],vc]/\h.i<=ba/\U0 2 h' va ba ((l.map (P1 x)).flatMap gK) l.length/\(∀h2,Sl h2 6 v n cs->Sl h2 6 vc n cs)/\vc.O=true/\Fr [] h h':=by
 let⟨h1,ax,ay,a1⟩:=au w x.s;let⟨h2,aH,an,a2⟩:=au ay.r [ZY (k:Int),.f tg,.f ky,vs,.f tx,vp];let⟨K,ar,ak,a0⟩:=au an.r [ZY 0,.f [],.f [],.j,.f [],.j];have n1:=s_ ax;have n2:=s_ aH;have Z:=(ay.c an).c ak;have ox:=ak.c_ (an.c_ a1);have op:=ak.c_ a2;have t1:ag K h1.i 1=some (.f tg):=op.o 1;have t3:ag K h1.i 3=some vs:=op.o 3;have x4:aq K h.i 0 4=some x.s:=by rw[ox.J];rfl
 refine ai ?_;simp only[a_,seval,g_,<-ax,<-aH,<-ar,t1,t3,x4];refine aa (Iu ak.r (a.fr Z) (r.fr Z) nl h3) ?_;rintro va h4 ⟨ba,aj,ta,F4⟩;have ac:ag h4 h1.i 1=some (.f tg):=(F4.c_ op).o 1;simp only[a_,seval,g_];apply aa (Il (c.fr (Z.c F4)) hv);rintro vc _ ⟨ab,_,rfl⟩;have sc:=ab _ (c.fr (Z.c F4));simp only[a_,seval,g_,az ta.O,az sc.O];refine ao (c':=[ZY 1,.f tg,.f key,va,.f [],vc]) F4.r (F4.c_ a0) rfl (by simp only[V.s,aA,aD,ta.O,sc.O];rfl) rfl ?_;rintro h5 o5 F5 n5;have l6:=o5.ac.2.2.2.2.2.2;have ae:Fr [] h h5:=(Z.c F4).y F5 w oM;simp only[a_,seval,DF,t1,ac,t3,x4,l6];have n3:=s_ ar;exact⟨va,vc,ba,rfl,oM,ta.fr F5 oO,ab,sc.O,ae⟩
theorem _root_.Go.Ev.Gs.aU{h:b_}{B esz bytes:Nat}{v x:V}{xs:List V}{n:Nat}(w:WF h)(a:Gs h B esz v cs)(s:Sl h esz x n xs)(he:0<esz)(hn:n≠0)(ho:aw xs=true)(hB:B<=h.i)
 (Z:(2*(cs.length+n)+1024) *bytes<=281474976710656) {K:V->b_->Prop} (k:∀v' h',Gs h' B esz v' (cs++xs)->vb v'=[h.i]->Fr (vb v) h h'->K v' h'):OQ (jO h esz bytes v x) K:=by
 unfold jO;rw[s.aH];simp;rw[fD hn,cond_false,s.al];simp;obtain⟨rfl,rfl⟩|⟨b,m,rfl,hm,ae,hb,o⟩:=a;simp[vq];have:Nat.ble ((2*n+1024) *bytes) 281474976710656=true:=by rw[Xu];simpa using Z
 rw[this,cond_true];refine(cU _ _ _).2 (k _ _ (.inr ⟨h.i,n,rfl,by simpa using s.1,oM,hB,by simpa using Wi w xs⟩) rfl (VL w xs));have af:(2*(m+n)+1024) *bytes<=(2*(cs.length+n)+1024) *bytes:=by
  apply Wb _;have:m<=cs.length:=by rw[hm];exact Nat.le_mul_of_pos_right m he
  omega
 have h1:(Nat.beq esz esz&&Nat.ble ((2*(m+n)+1024) *bytes) 281474976710656)=true:=by simp;omega
 simp only[h1,cond_true,o.P5];have ac:(m+n) *esz=m*esz+n*esz:=Xs _ _ _;have ab:0<n*esz:=YX oM he;rw[Cr (oM:¬0+(m+n) *esz<=cs.length),cond_false];have h2:(Nat.ble (0+m*esz) cs.length&&aw xs)=true:=by simp only[ho,Bool.and_true,Xu];omega
 simp only[h2,cond_true,fY,bO cs (m*esz) oM];let⟨h',e,o',f⟩:=wH (pos:=0+m*esz) (c':=cs.take (m*esz)++xs) w o;rw[e];simp;refine(cU _ _ _).2 (k _ _ (.inr ⟨h.i,m+n,rfl,by simp[s.1];omega,oM,hB,?_⟩) rfl f);rwa[Vm oM]at o'
inductive ST where
 |W8
 |V4 (kind:Nat) (tag key:i_) (attrs:List (i_×i_)) (text:i_) (sub next:ST)
namespace ST
def W3:ST->ST->ST
 |W8,t=>t
 |V4 k tg ky a tx sub nx,t=>V4 k tg ky a tx sub (nx.W3 t)
theorem Y3:∀t:ST,t.W3 W8=t
 |W8=>rfl
 |V4 _ _ _ _ _ _ nx=>by simp[W3,Y3 nx]
theorem W4:∀a b c:ST,(a.W3 b).W3 c=a.W3 (b.W3 c)
 |W8,_,_=>rfl
 |V4 _ _ _ _ _ _ nx,b,c=>by simp[W3,W4 nx b c]
def Ze:ST->Nat
 |W8=>0
 |V4 _ _ _ _ _ _ nx=>nx.Ze+1
def A?:ST->List i_
 |W8=>[]
 |V4 _ _ ky _ _ _ nx=>ky::nx.A?
def Z_(k:Nat)(tg ky:i_)(at':List (i_×i_))(tx:i_)(sub:ST):Bool:=
 if k=2 then Q0 tx&&(tg==[]&&(ky==[]&&(decide (at'.length=0)&&decide (sub.Ze=0))))
 else decide (k=1)&&(F_ tg&&((ky==[]||F_ ky)&&(tx==[]&&(decide (at'.length<=8)&&(decide (sub.Ze<=16)&&(dX none at'&&gQ [] sub.A?))))))
def ZB(k:Nat)(tg ky:i_)(at':List (i_×i_))(tx:i_)(sub:ST)(w:Nat->Nat->Nat×Bool)(l c:Nat):Nat×Bool:=
 if 6<l\/64<c+1\/Z_ k tg ky at' tx sub=false then(c+1,false)else w (l+1) (c+1)
def Y4:ST->Nat->Nat->Nat×Bool
 |W8,_,c=>(c,true)
 |V4 k tg ky at' tx sub nx,l,c=>let r:=ZB k tg ky at' tx sub sub.Y4 l c;if r.2=true then nx.Y4 l r.1 else r
def U_(k:Nat)(tg ky:i_)(at':List (i_×i_))(tx:i_)(sub:ST):Nat:=
 if(ZB k tg ky at' tx sub sub.Y4 1 0).2=true then(ZB k tg ky at' tx sub sub.Y4 1 0).1 else 0
end ST
namespace NT
def sh:NT->ST
 |D_=>.W8
 |y_ k tg ky a tx _ _ sub nx=>.V4 k tg ky a tx sub.sh nx.sh
def Zc:NT->NT->NT
 |D_,t=>t
 |y_ k tg ky a tx va vc sub nx,t=>y_ k tg ky a tx va vc sub (nx.Zc t)
theorem X2:∀a b:NT,(a.Zc b).sh=a.sh.W3 b.sh
 |D_,_=>rfl
 |y_ _ _ _ _ _ _ _ _ nx,b=>by simp[Zc,sh,ST.W3,X2 nx b]
theorem ZH:∀a b:NT,(a.Zc b).A_=a.A_+b.A_
 |D_,b=>by simp[Zc,A_]
 |y_ _ _ _ _ _ _ _ _ nx,b=>by simp[Zc,A_,ZH nx b];omega
theorem ZC:∀a b:NT,(a.Zc b).I_=a.I_++b.I_
 |D_,_=>rfl
 |y_ _ _ _ _ _ _ _ _ nx,b=>by simp[Zc,I_,ZC nx b]
theorem Zd:∀t:NT,t.sh.Ze=t.A_
 |D_=>rfl
 |y_ _ _ _ _ _ _ _ _ nx=>by simp[sh,A_,ST.Ze,Zd nx]
theorem Zo:∀t:NT,t.sh.A?=t.P4
 |D_=>rfl
 |y_ _ _ _ _ _ _ _ _ nx=>by simp[sh,P4,ST.A?,Zo nx]
theorem zZ(k:Nat)(tg ky:i_)(at':List (i_×i_))(tx:i_)(sub:NT):ST.Z_ k tg ky at' tx sub.sh=iV k tg ky at' tx sub:=by simp[ST.Z_,iV,Zd,Zo]
theorem yo:∀(t:NT)(l c:Nat),t.sh.Y4 l c=t.Q2 l c
 |D_,_,_=>rfl
 |y_ k tg ky at' tx _ _ sub nx,l,c=>by
  have e1:ST.ZB k tg ky at' tx sub.sh sub.sh.Y4 l c=R0 k tg ky at' tx sub sub.Q2 l c:=by unfold ST.ZB R0;rw[zZ,yo sub]
  show(let r:=ST.ZB k tg ky at' tx sub.sh sub.sh.Y4 l c;if r.2=true then nx.sh.Y4 l r.1 else r)=_;rw[e1];simp only[Q2,yo nx]
theorem V?(k:Nat)(tg ky:i_)(at':List (i_×i_))(tx:i_)(sub:NT):ST.U_ k tg ky at' tx sub.sh=R8 k tg ky at' tx sub:=by
 have Z:ST.ZB k tg ky at' tx sub.sh sub.sh.Y4 1 0=R0 k tg ky at' tx sub sub.Q2 1 0:=by unfold ST.ZB R0;rw[zZ,yo sub]
 unfold ST.U_ R8;rw[Z]
end NT
theorem NH.W3{h:b_}:∀{a b:NT},NH h a->NH h b->NH h (a.Zc b)
 |.D_,_,_,q=>q
 |.y_ _ _ _ _ _ _ _ _ _,_,⟨x1,x2,x3,x4,x5,x6,x7⟩,q=>⟨x1,x2,x3,x4,x5,x6,NH.W3 x7 q⟩
def ip(z:i_):ST:=.V4 2 [] [] [] z .W8 .W8
def kG(tg:i_)(a:List (i_×i_)):List i_->ST
 |[]=>.W8
 |m::ms=>.V4 1 tg m a [] (ip m) (kG tg a ms)
def oJ(x:e_)(k:Nat)(tg ky:i_)(sl:List Q5)(tx:i_)(sub:ST):ST:=
 if k=1 then .V4 1 tg ky (sl.map (P1 x)) [] sub .W8
 else if k=2 then ip tx
 else if k=3 then ip x.U
 else if k=4 then ip (W0 x.A)
 else if k=5 then kG tg (sl.map (P1 x)) x.E
 else .W8
def cH(x:e_):PT->ST
 |.z_=>.W8
 |.p_ k tg ky sl tx _ _ sub nx=>(oJ x k tg ky sl tx (cH x sub)).W3 (cH x nx)
def TG:PT->Prop
 |.z_=>True
 |.p_ _ _ _ sl _ _ _ sub nx=>(∀s∈sl,s.2.1<=3)/\sub.v_<=16/\TG sub/\TG nx
theorem TG.Z8:∀{t:PT}(i:Nat),TG t->TG (t.Y2 i)
 |.z_,0,_=>trivial
 |.z_,_+1,_=>trivial
 |.p_ _ _ _ _ _ _ _ _ _,0,a=>a
 |.p_ _ _ _ _ _ _ _ _ _,i+1,⟨_,_,_,g⟩=>TG.Z8 i g
theorem A5(tg:i_)(a:List (i_×i_)):∀ms:List i_,(kG tg a ms).Ze=ms.length
 |[]=>rfl
 |m::ms=>by simp[kG,ST.Ze,A5 tg a ms]
theorem JO(x:e_)(k:Nat)(tg ky:i_)(sl:List Q5)(tx:i_)(sub:ST)(Z:x.E.length<=8):(oJ x k tg ky sl tx sub).Ze<=8:=by unfold oJ;split;simp[ST.Ze];split;simp[ip,ST.Ze];split;simp[ip,ST.Ze];split;simp[ip,ST.Ze];split;rw[A5];exact Z;simp[ST.Ze]
def Zb(v:V)(n0:Nat)(h:b_)(s:NT):Prop:=∀(X:List Nat)(h':b_),(∀x∈X,x<n0\/x∈vb v)->Fr X h h'->NH h' s
theorem Zb.fr{v:V}{h:b_}{s:NT}(I:Zb v n0 h s)(w:WF h)(f:Fr [] h h'):Zb v n0 h' s:=fun X h2 hx f2=>
 I X h2 hx (Vn f f2 w iS (fun x hx=>.inl hx))
theorem Zb.nh{v:V}{h:b_}{s:NT}(I:Zb v n0 h s)(w:WF h):NH h s:=I [] h iS (Vk w)
theorem mE{h:b_}{B k:Nat}{vo:V}{s sub:NT}{tg ky tx:i_}{at':List (i_×i_)}{K:V->b_->Prop}(w:WF h)(g:Gs h B 6 vo s.I_)(hB:B<=h.i)(h0:n0<=h.i)(I:Zb vo n0 h s)
 (N:∀(X:List Nat)(Z:b_),(∀x∈X,x<n0\/x∈vb vo)->Fr X h Z->NH Z (.y_ k tg ky at' tx va vc sub .D_)) (hl:s.A_<=1000)
 (hk:∀v' Z,Gs Z B 6 v' (s.Zc (.y_ k tg ky at' tx va vc sub .D_)).I_->Zb v' n0 Z (s.Zc (.y_ k tg ky at' tx va vc sub .D_))->Fr (vb vo) h Z->(∀y∈vb v',h.i<=y)->K v' Z):
 OQ (jO (k_ h [ZY (k:Int),.f tg,.f ky,va,.f tx,vc]) 6 104 vo (.z h.i 0 1 1)) K:=by
 have n1:=N [] h iS (Vk w);have on:=NH.aF n1;have F1:=VL w [ZY (k:Int),.f tg,.f ky,va,.f tx,vc];have o1:=Wi w [ZY (k:Int),.f tg,.f ky,va,.f tx,vc];have cl:=s.R7;have ac:∀x∈vb vo,x<h.i:=by obtain⟨rfl,_⟩|⟨b,n,rfl,_,_,_,o⟩:=g;simp[vb];have:=o.lt w;simp only[vb,Vu];rintro x rfl;exact this
 refine Gs.aU (n:=1) F1.r (g.fr F1) (Wy o1 rfl) oM oM on (VC hB F1.i) (by rw[cl];omega) ?_;intro v' Z g' e' F';have F:Fr (vb vo) h Z:=Vn F1 F' w iS (fun x hx=>.inl hx);refine hk v' Z ?_ ?_ F (by rw[e'];simp only[Vu];rintro y rfl;exact F1.i);rw[NT.ZC];exact g';intro X h2 hX f2;have f3:Fr (vb vo++X.filter (fun x=>decide (x<n0))) h h2:=by refine Vn F f2 w (fun x hx=>.inl iX) (fun x hx=>?_);obtain q|q:=hX x hx;grind;rw[e']at q;simp at q;exact .inr (by subst q;exact F1.i)
 have ab:∀x∈vb vo++X.filter (fun x=>decide (x<n0)),x<n0\/x∈vb vo:=by grind
 exact NH.W3 (I _ h2 ab f3) (N _ h2 ab f3)
def MK(t:PT):Prop:=∀(x:e_)(h:b_)(v:V),WF h->q_ h x->x.E.length<=8->PH h t->TG t->t.v_<=16->Sl h 6 v t.v_ t.P5->
 av go 202 [.B x.s,v] h fun u h'=>∃s:NT,s.sh=cH x t/\Fr [] h h'/\u≠.F/\s.A_<=128/\∀(X:List Nat)(h2:b_),(∀y∈X,y<h.i)->Fr X h' h2->NH h2 s/\Sl h2 6 u s.A_ s.I_
def I?:PT->Prop
 |.z_=>True
 |.p_ _ _ _ _ _ _ _ sub nx=>MK sub/\I? nx
theorem I?.Z8:∀{t:PT}(i:Nat),I? t->I? (t.Y2 i)
 |.z_,0,_=>trivial
 |.z_,_+1,_=>trivial
 |.p_ _ _ _ _ _ _ _ _ _,0,a=>a
 |.p_ _ _ _ _ _ _ _ _ _,i+1,⟨_,g⟩=>I?.Z8 i g
theorem Gs.nE{h:b_}{B e:Nat}{v:V}(g:Gs h B e v cs):v≠.F:=by obtain⟨rfl,_⟩|⟨b,n,rfl,_⟩:=g<;>simp
theorem Gs.bU{h:b_}{B e:Nat}{v:V}{X:List Nat}(g:Gs h B e v cs)(f:Fr X h h')(Z:∀x∈X,x<B):Gs h' B e v cs:=by obtain⟨rfl,rfl⟩|⟨b,n,rfl,h1,h2,K,o⟩:=g;exact .inl ⟨rfl,rfl⟩;exact .inr ⟨b,n,rfl,h1,h2,K,f.D _ _ (fun m=>by have:=Z _ m;omega) o⟩
theorem BH{v:V}{h:b_}(z:i_):∀(X:List Nat)(h':b_),(∀x∈X,x<n0\/x∈vb v)->Fr X h h'->NH h' (.y_ 2 [] [] [] z .j .j .D_ .D_):=fun _ _ _ _=>mG 2 oM [] z
theorem Da{t:PT}(M:I? t):MK t:=by
 intro x h v w a hm pt tg hl sl;let⟨h1,ct,co,cy⟩:=au w x.s;have n1:=s_ ct;refine ai ?_;simp only[a_,seval,<-ct,sl.A_];refine aC (fun n env hh=>Fr [] h hh/\Fr [] h1 hh/\∃(i:Nat)(s:NT)(vo:V),env.c_ 12=some (ZZ i)/\env.c_ 11=some (ZZ t.v_)/\env.c_ 10=some v/\env.c_ 5=some vo/\env.c_ 2=some (.u h.i 0)/\
  i<=t.v_/\Zb vo h.i hh s/\Gs hh h1.i 6 vo s.I_/\s.sh.W3 (cH x (t.Y2 i))=cH x t/\s.A_<=8*i/\n=t.v_-i) t.v_ oM ?_ ?_
 ·exact⟨co,Vk co.r,0,.D_,.j,iS,iS,iS,iS,iS,oM,fun _ _ _ _=>trivial,.inl ⟨rfl,rfl⟩,by cases t<;>rfl,by simp[NT.A_],rfl⟩
 ·rintro n env hh ⟨F,F1,i,s,vo,ak,bf,bp,g5,g2,hi,I,G,e,sn,rfl⟩;by_cases bo:i<t.v_
  ·have bk:(i:Int)<t.v_:=oM
   let⟨k,af,ky,ac,tx,vs,vp,sub,nx,e1,e2,e3,e4,e5,e6⟩:=t.ZO i bo;have bi:=pt.Z8 i;have bm:=tg.Z8 i;have Mi:=M.Z8 i;rw[e1]at bi bm Mi e;let⟨pk,pr,pl,ps,pn,cB,_⟩:=bi;let⟨t3,tl,cE,_⟩:=bm;let⟨b',o',p1,p2⟩:=(sl.fr F).aC bo e2;have on:aw [ZY (k:Int),.f af,.f ky,vs,.f tx,vp]=true:=by
    simp only[aA,aD,Wj pr,Wj ps];rfl
   have bC:∀y∈vb vo,y<hh.i:=by
    obtain⟨rfl,_⟩|⟨b,n,rfl,_,_,_,o⟩:=G
    ·simp[vb]
    ·have:=o.lt F.r;simp only[vb,Vu];rintro y rfl;exact this
   let⟨h3,cA,cu,cz⟩:=au F.r [ZY 0,.f [],.f [],.j,.f [],.j];simp only[a_,seval,ak,bf,bp,bk,p1,p2.2.2.2.2.2.2,<-cA];refine ao (c':=[ZY (k:Int),.f af,.f ky,vs,.f tx,vp]) cu.r cz rfl on rfl ?_;rintro h4 o4 F4 n4;have K:Fr [] hh h4:=cu.y F4 F.r (Ve _);have q4:=o4.ac;have ox:=K.c_ (F1.c_ cy);have x4:aq h4 h.i 0 4=some x.s:=by rw[ox.J];rfl
   have ch:hh.i<=h4.i:=K.i;have ci:=F1.i;simp[cH]at e;have fin:∀{ab:T V}{s2:NT}{v2:V}{h5:b_},Fr [] h h5->Fr [] h1 h5->ab.c_ 12=some (ZZ ((i:Int)+1))->ab.c_ 11=some (ZZ t.v_)->ab.c_ 10=some v->ab.c_ 5=some v2->ab.c_ 2=some (.u h.i 0)->
    Zb v2 h.i h5 s2->Gs h5 h1.i 6 v2 s2.I_->s2.sh=s.sh.W3 (oJ x k af ky ac tx (cH x sub))->
    ∃k',k'<t.v_-i/\Fr [] h h5/\Fr [] h1 h5/\∃(i:Nat)(s:NT)(vo:V),ab.c_ 12=some (ZZ i)/\ab.c_ 11=some (ZZ t.v_)/\ab.c_ 10=some v/\ab.c_ 5=some vo/\ab.c_ 2=some (.u h.i 0)/\
     i<=t.v_/\Zb vo h.i h5 s/\Gs h5 h1.i 6 vo s.I_/\s.sh.W3 (cH x (t.Y2 i))=cH x t/\s.A_<=8*i/\k'=t.v_-i:=by
    intro ab s2 v2 h5 f f1 a1 a2 a3 a4 a5 I2 G2 es;have ol:=JO x k af ky ac tx (cH x sub) hm;refine⟨t.v_-(i+1),oM,f,f1,i+1,s2,v2,a1,a2,a3,a4,a5,oM,I2,G2,?_,?_,rfl⟩
    ·rw[es,e3,ST.W4];exact e
    ·rw[<-NT.Zd,es];have:∀a b:ST,(a.W3 b).Ze=a.Ze+b.Ze:=by
      intro a b;induction a with
      |W8=>simp[ST.W3,ST.Ze]
      |V4 _ _ _ _ _ _ nx _ ih=>simp[ST.W3,ST.Ze,ih];omega
     rw[this,NT.Zd];omega
   have l0:ag h4 hh.i 0=some (ZY (k:Int)):=q4.1;have an:∀y∈vb vo,h1.i<=y:=by
    obtain⟨rfl,_⟩|⟨b,n,rfl,_,_,hb,o⟩:=G
    ·simp[vb]
    ·simp only[vb,Vu];rintro y rfl;exact hb
   have F0:Fr [] h h4:=F.c K;have ax:Fr [] h1 h4:=F1.c K;have ay:=a.fr F0;by_cases k1:k=1
   ·have ek:oJ x k af ky ac tx (cH x sub)=.V4 1 af ky (ac.map (P1 x)) [] (cH x sub) .W8:=by subst k1;rfl
    have l2:ag h4 hh.i 2=some (.f ky):=q4.2.2.1;have l5:ag h4 hh.i 5=some vp:=q4.2.2.2.2.2.1;have l6:=q4.2.2.2.2.2.2;simp only[a_,seval,g_,g5,g2,l0,eq_true (oM:(k:Int)=1),x4,l6,l2,l5];refine aa (Mi.1 x h4 vp K.r ay hm (cB.fr F0) cE tl (ps.fr F0)) ?_;rintro u h5 ⟨s5,b9,Z,uE,ce,bj⟩;have b6:=bj [] h5 iS (Vk Z.r);have x5:aq h5 h.i 0 4=some x.s:=by rw[(Z.c_ ox).J];rfl
    have r5:=(Z.c_ o4).ac;have m2:ag h5 hh.i 2=some (.f ky):=r5.2.2.1;have m6:=r5.2.2.2.2.2.2;simp only[a_,g_];refine aa (uP Z.r (ay.fr Z) (VJ pr (F0.c Z)) pl t3 (Wj ps) b6.2 uE) ?_;rintro _ h6 ⟨va,vc,ba,rfl,bE,ta,bg,bv,F6⟩;simp only[a_,seval,g_];have bT:=Z.i;refine mE (k:=1) (sub:=s5) (at':=ac.map (P1 x)) F6.r (G.fr ((K.c Z).c F6)) (by have:=F6.i;omega) (by have:=F6.i;omega) (I.fr F.r ((K.c Z).c F6)) ?_ oM ?_
    ·intro X h' hX f;have aH:∀y∈X,y<h4.i:=fun y hy=>by grind
     let⟨z1,z2⟩:=bj X h' aH (Vn F6 f Z.r iS (fun y hy=>.inl hy));refine⟨oM,?_,by simpa using pl,bg _ z2,oM,z1,trivial⟩;have:=(ta.fr f (fun m=>by have:=aH _ m;omega)).sl;show Sl h' 2 va (ac.map (P1 x)).length _;rw[WG];exact this
    intro v' h' G' I' F' V';simp(disch:=omega) only[a_,seval,DF,g_,ah,ak,g2,x4,l6,l2,l5,x5,m6,m2];refine t_ ?_;exact fin (Ww w ((F0.c Z).c F6) F' (fun y hy=>by have:=an y hy;omega)) (Ww co.r ((ax.c Z).c F6) F' an) iS iX iX iS iX I' G' (by rw[ek,<-b9];exact NT.X2 _ _)
    done
   by_cases k2:k=2
   ·have ek:oJ x k af ky ac tx (cH x sub)=ip tx:=by subst k2;rfl
    simp only[a_,seval,g5,l0,(oM:¬(k:Int)=1),eq_true (oM:(k:Int)=2),q4.2.2.2.2.1];refine aa (pu K.r) ?_;rintro _ h5 ⟨rfl,Z⟩;simp only[a_,seval];refine mE (k:=2) Z.r (G.fr (K.c Z)) (by have:=Z.i;omega) (by have:=Z.i;omega) (I.fr F.r (K.c Z)) (BH _) oM ?_;intro v' h' G' I' F' V';simp(disch:=omega) only[a_,seval,ah,ak];refine t_ ?_;exact fin (Ww w (F0.c Z) F' (fun y hy=>by have:=an y hy;omega)) (Ww co.r (ax.c Z) F' an) iS iX iX iS iX I' G' (by rw[ek];exact NT.X2 _ _)
    done
   by_cases k3:k=3
   ·have ek:oJ x k af ky ac tx (cH x sub)=ip x.U:=by subst k3;rfl
    simp only[a_,seval,g5,g2,l0,(oM:¬(k:Int)=1),(oM:¬(k:Int)=2),eq_true (oM:(k:Int)=3),show ag h4 h.i 2=some (.f x.U)from ox.o 2];refine aa (pu K.r) ?_;rintro _ h5 ⟨rfl,Z⟩;simp only[a_,seval];refine mE (k:=2) Z.r (G.fr (K.c Z)) (by have:=Z.i;omega) (by have:=Z.i;omega) (I.fr F.r (K.c Z)) (BH _) oM ?_;intro v' h' G' I' F' V';simp(disch:=omega) only[a_,seval,ah,ak];refine t_ ?_;exact fin (Ww w (F0.c Z) F' (fun y hy=>by have:=an y hy;omega)) (Ww co.r (ax.c Z) F' an) iS iX iX iS iX I' G' (by rw[ek];exact NT.X2 _ _)
    done
   by_cases k4:k=4
   ·have ek:oJ x k af ky ac tx (cH x sub)=ip (W0 x.A):=by subst k4;rfl
    simp only[a_,seval,g5,g2,l0,(oM:¬(k:Int)=1),(oM:¬(k:Int)=2),(oM:¬(k:Int)=3),eq_true (oM:(k:Int)=4),show ag h4 h.i 0=some (ZX (x.A:Int))from ox.o 0];refine aa (pa K.r a.k) ?_;rintro _ cn ⟨rfl,bh⟩;simp only[a_];refine aa (pu bh.r) ?_;rintro _ h5 ⟨rfl,bD⟩;have Z:=bh.c bD;simp only[a_,seval];refine mE (k:=2) Z.r (G.fr (K.c Z)) (by have:=Z.i;omega) (by have:=Z.i;omega) (I.fr F.r (K.c Z)) (BH _) oM ?_;intro v' h' G' I' F' V';simp(disch:=omega) only[a_,seval,ah,ak];refine t_ ?_;exact fin (Ww w (F0.c Z) F' (fun y hy=>by have:=an y hy;omega)) (Ww co.r (ax.c Z) F' an) iS iX iX iS iX I' G' (by rw[ek];exact NT.X2 _ _)
    done
   by_cases k5:k=5
   ·have ek:oJ x k af ky ac tx (cH x sub)=kG af (ac.map (P1 x)) x.E:=by subst k5;rfl
    have l3:ag h4 h.i 3=some x.vm:=ox.o 3;simp only[a_,seval,g2,l0,(oM:¬(k:Int)=1),(oM:¬(k:Int)=2),(oM:¬(k:Int)=3),(oM:¬(k:Int)=4),eq_true (oM:(k:Int)=5),l3,a.m.A_];refine aC (fun n ae aj=>Fr [] h aj/\Fr [] h1 aj/\f_ aj hh.i [ZY (k:Int),.f af,.f ky,vs,.f tx,vp]/\h4.i<=aj.i/\∃(j:Nat)(s':NT)(v2:V),ae.c_ 65=some (ZZ j)/\ae.c_ 64=some (ZZ x.E.length)/\ae.c_ 63=some x.vm/\ae.c_ 7=some (.u hh.i 0)/\
     ae.c_ 12=some (ZZ i)/\ae.c_ 11=some (ZZ t.v_)/\ae.c_ 10=some v/\ae.c_ 5=some v2/\ae.c_ 2=some (.u h.i 0)/\j<=x.E.length/\hh.i∉vb v2/\Zb v2 h.i aj s'/\Gs aj h1.i 6 v2 s'.I_/\
     s'.sh.W3 (kG af (ac.map (P1 x)) (x.E.drop j))=s.sh.W3 (kG af (ac.map (P1 x)) x.E)/\s'.A_<=8*i+j/\n=x.E.length-j) x.E.length oM ?_ ?_
    ·exact⟨F0,ax,o4,Ve _,0,s,vo,iS,iS,iS,iS,iX,iX,iX,iX,iX,oM,fun m=>by(have:=bC _ m;omega),I.fr F.r K,G.fr K,rfl,oM,rfl⟩
    ·rintro n' ae aj ⟨ar,a8,oj,cc,j,s',v2,a9,br,bA,g7,ak,bf,bp,g5,g2,hj,bW,I2,G2,ej,cb,rfl⟩;have bc:=a8.c_ cy;by_cases cj:j<x.E.length
     ·have a6:(j:Int)<x.E.length:=oM
      let⟨b3,cO,mk,r1,r2,_,r4⟩:=(a.m.fr ar).ix iu .i64 (j:Int) oM a6;have bz:ag aj b3 cO=some (.f mk):=r2 0 oM;rw[pi]at r4;rw[aN r4]at ej;have a7:∀y∈vb v2,h1.i<=y:=by
       obtain⟨rfl,_⟩|⟨b,n,rfl,_,_,hb,o⟩:=G2
       ·simp[vb]
       ·simp only[vb,Vu];rintro y rfl;exact hb
      have ca:∀y∈vb v2,y<aj.i:=by
       obtain⟨rfl,_⟩|⟨b,n,rfl,_,_,_,o⟩:=G2
       ·simp[vb]
       ·have:=o.lt ar.r;simp only[vb,Vu];rintro y rfl;exact this
      have ja:aq aj h.i 0 4=some x.s:=by rw[bc.J];rfl
      have jp:=oj.ac.2.2.2.2.2.2;simp only[a_,seval,g_,a9,br,bA,g7,g5,g2,a6,r1,bz,ja,jp];refine aa (pu ar.r) ?_;rintro _ h5 ⟨rfl,Z⟩;let⟨h6,cx,cq,cr⟩:=au Z.r [ZY 2,.f [],.f [],.j,.f mk,.j];have n6:=s_ cx;have bt:aq h5 h.i 0 4=some x.s:=by rw[(Z.c_ bc).J];rfl
      have b7:=(Z.c_ oj).ac.2.2.2.2.2.2;have bB:aq h6 h.i 0 4=some x.s:=by rw[(cq.c_ (Z.c_ bc)).J];rfl
      have bw:=(cq.c_ (Z.c_ oj)).ac.2.2.2.2.2.2;simp only[a_,seval,g_,<-cx];have bn:=(ar.c Z).c cq;have bV:Sl h6 6 (.z h5.i 0 1 1) 1 (NT.y_ 2 [] [] [] mk .j .j .D_ .D_).I_:=Wy cr rfl;refine aa (uP cq.r (a.fr bn) (VJ pr bn) pl t3 (Wj ps) bV iS) ?_;rintro _ h7 ⟨va,vc,ba,rfl,bE,ta,bg,bv,F7⟩;simp only[a_,seval,g_];have bT:=Z.i;have cl:=F7.i;have a0:=(Z.c cq).c F7;refine mE (k:=1) (sub:=.y_ 2 [] [] [] mk .j .j .D_ .D_) (at':=ac.map (P1 x)) F7.r (G2.fr a0) oM oM (I2.fr ar.r a0) ?_ oM ?_
      ·intro X h' hX f;have aH:∀y∈X,y<aj.i:=fun y hy=>by grind
       have f2:Fr X h6 h':=Vn F7 f cq.r iS (fun y hy=>.inl hy);have o':=f2.D _ _ (fun m=>by have:=aH _ m;omega) cr;refine⟨oM,?_,by simpa using pl,bg _ (Wy o' rfl),by simp[NT.A_],mG 2 oM [] mk,trivial⟩;have:=(ta.fr f (fun m=>by have:=aH _ m;omega)).sl;show Sl h' 2 va (ac.map (P1 x)).length _;rw[WG];exact this
      intro v' h' G' I' F' V';simp(disch:=omega) only[a_,seval,DF,g_,ah,a9,g7,g2,ja,jp,bt,b7,bB,bw];refine t_ ⟨x.E.length-(j+1),oM,Ww w (ar.c a0) F' (fun y hy=>by have:=a7 y hy;omega),Ww co.r (a8.c a0) F' a7,F'.D _ _ bW (a0.c_ oj),by have:=F'.i;omega,j+1,_,v',iS,iX,iX,iX,iX,iX,iX,iS,iX,oM,fun m=>by(have:=V' _ m;omega),I',G',?_,?_,rfl⟩
      ·rw[NT.X2,ST.W4];exact ej
      ·rw[NT.ZH];simp only[NT.A_];omega
     ·simp(disch:=omega) only[a_,seval,ah,a9,br,ak,(oM:¬(j:Int)<x.E.length)];rw[Vq oM]at ej;simp[kG,ST.Y3]at ej;refine t_ ?_;exact fin ar a8 iS iX iX iX iX I2 G2 (by rw[ek];exact ej)
      done
   have ek:oJ x k af ky ac tx (cH x sub)=.W8:=by unfold oJ;simp[k1,k2,k3,k4,k5]
   simp(disch:=omega) only[a_,seval,ah,ak,l0,(oM:¬(k:Int)=1),(oM:¬(k:Int)=2),(oM:¬(k:Int)=3),(oM:¬(k:Int)=4),(oM:¬(k:Int)=5)];refine t_ ?_;exact fin F0 ax iS iX iX iX iX (I.fr F.r K) (G.fr K) (by rw[ek,ST.Y3])
   done
  ·simp only[a_,seval,ak,bf,g5,(oM:¬(i:Int)<t.v_)];rw[PT.Zt _ _ oM]at e;simp[cH,ST.Y3]at e;refine⟨s,e,F,Gs.nE G,oM,fun X h2 hX f2=>⟨I X h2 (fun y hy=>.inl (hX y hy)) f2,(Gs.bU G f2 (fun y hy=>by have:=hX y hy;omega)).sl s.R7 oM⟩⟩
theorem mks:∀t:PT,I? t
 |.z_=>trivial
 |.p_ _ _ _ _ _ _ _ sub nx=>⟨Da (mks sub),mks nx⟩
end Go.Ev.Lay
namespace Go.Ev
abbrev WY:=@Go.Ev.Gs.aU
abbrev YR:=@Go.Ev.Lay.Gs.bU
end Go.Ev
