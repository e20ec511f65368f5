/- An evaluator of the program, and contracts over it: StQ to StaF. -/
import Derived.Laws.RangeString
import Derived.Laws.RangeAny
import Derived.Test.YtdbfhmneijcjbaaGreatP04
import Derived.Test.YtdbfhmneijcjbaaGreatP07
set_option linter.unusedSimpArgs false
set_option linter.unusedVariables false
set_option linter.constructorNameAsVariable false
set_option linter.unnecessarySimpa false
namespace Go.Ev.Lay
variable{env:T V}{h':Heap}{cs:List V}{x0 x1 x2 x3 x4 vc va:V}{n0:Nat}
set_option maxRecDepth 4000
def ItQ(h:Heap)(nx:Bool)(o:Option V)(K:V->Heap->Prop):Prop:=∃d,o=some d/\OQ (ait h nx d) K
theorem tN{h:Heap}(nx:Bool)(d:V)(K:V->Heap->Prop):ItQ h nx (some d) K↔OQ (ait h nx d) K:=
 ⟨fun⟨_,e,k⟩=>by cases e;exact k,fun k=>⟨d,rfl,k⟩⟩
theorem ED{call:aI}{Z:List V}{h:Heap}(nx:Bool)(x:Opd)(K:V->Heap->Prop):OQ (aO call Z env h (.it nx x)) K↔ItQ h nx (evO Z env x) K:=by
 simp only[aO,OQ,ItQ];cases evO Z env x with
 |none=>simp
 |some d=>simp
theorem Kf{h:Heap}(z:List UInt8)(K:V->Heap->Prop):OQ (ait h false (.str z)) K↔K (.ptr h.next 0) (hnew h (.si z 0)):=cL _ _ _
theorem Kh{h:Heap}{b pos:Nat}{z:List UInt8}(Z:h.bl.get b=some (.si z pos))(hp:¬pos<z.length)(K:V->Heap->Prop):OQ (ait h true (.ptr b 0)) K↔K (.tup [.bool false]) h:=by
 show OQ (match h.bl.get b with|some (.si z pos)=>_|_=>_) K↔_
 rw[Z];simp only[if_neg hp];exact cL _ _ _
theorem Ip{h:Heap}{b pos:Nat}{z:List UInt8}(Z:h.bl.get b=some (.si z pos))(hp:pos<z.length)(K:V->Heap->Prop):OQ (ait h true (.ptr b 0)) K↔
 K (.tup [.bool true,ZZ (pos:Int),.int .i32 ((Utf8.decode ⟨z.toArray⟩ pos).1:Int)]) (hset h b (.si z (pos+(Utf8.decode ⟨z.toArray⟩ pos).2))):=by
 show OQ (match h.bl.get b with|some (.si z pos)=>_|_=>_) K↔_
 rw[Z];simp only[if_pos hp];exact cL _ _ _
theorem _root_.Go.Ev.WF.hset{h:Heap}(w:WF h){b:Nat}{x:Blk}(hb:h.bl.get b=some x)(y:Blk):WF (hset h b y):=by intro p K;let⟨Z,q2⟩:=w p K;refine⟨?_,q2⟩;show(h.bl.set b y).get p=none;rw[TF,if_neg (by rintro rfl;rw[hb]at Z;cases Z)];exact Z
theorem Fr.si{h:Heap}(w:WF h){b pos pos':Nat}{z:List UInt8}(hb:h.bl.get b=some (.si z pos)):Fr [] h (hset h b (.si z pos')) where
 next:=Nat.le_refl _
 wf:=WF.hset w hb _
 own:=fun x c _ ⟨f,k,e,q⟩=>⟨f,k,by
  show(h.bl.set b _).get x=_;rw[T.get_set,if_neg (by rintro rfl;rw[hb]at e;cases e)];exact e,q⟩
 pl:=fun x c _ ⟨⟨k,e⟩,q⟩=>⟨⟨k,by
  show(h.bl.set b _).get x=_;rw[T.get_set,if_neg (by rintro rfl;rw[hb]at e;cases e)];exact e⟩,q⟩
 lp:=fun x k hk e=>by show(h.bl.set b _).get x=_;rw[T.get_set,if_neg (by rintro rfl;rw[hb]at e;cases e;cases hk)];exact e
 ro:=fun x c ⟨f,k,ow,e,q1,q2,q3⟩=>⟨f,k,ow,by
  show(h.bl.set b _).get x=_;rw[T.get_set,if_neg (by rintro rfl;rw[hb]at e;cases e)];exact e,q1,by
  show(h.bl.set b _).get ow=_;rw[T.get_set,if_neg (by rintro rfl;rw[hb]at q2;cases q2)];exact q2,q3⟩
def Hl(g:Nat)(p:Int->Bool):Prop:=g<1099511627776/\(∀(r:Int)(h:Heap),ao go g [.int .i32 r] h fun u h'=>u=.bool (p r)/\h=h')/\∀r:Int,128<=r->p r=true
def eQ(p:Int->Bool)(z:List UInt8):Bool:=z.any fun b=>p (b.toNat:Int)
theorem Kp(z:List UInt8)(pos:Nat)(hp:pos<z.length)(p:Int->Bool)(Z:∀r:Int,128<=r->p r=true):
 (p ((Utf8.decode ⟨z.toArray⟩ pos).1:Int)=p ((z[pos]).toNat:Int))/\(p ((z[pos]).toNat:Int)=false->(Utf8.decode ⟨z.toArray⟩ pos).2=1):=by
 have K:pos<(ByteArray.mk z.toArray).size:=hp;have he:(ByteArray.mk z.toArray)[pos]'K=z[pos]:=rfl;by_cases c:(z[pos]).toNat<128;have:=Go.decode_ascii ⟨z.toArray⟩ pos K (by rw[he];exact c);rw[this,he];exact⟨rfl,fun _=>rfl⟩;have:=Go.decode_high ⟨z.toArray⟩ pos K (by rw[he];omega);rw[Z _ oM,Z _ oM];exact⟨rfl,fun e=>by cases e⟩
theorem uZ{h:Heap}{z:List UInt8}{g:Nat}{p:Int->Bool}(w:WF h)(P:Hl g p)(hz:z.length<16777216):
 ao go 265 [.str z,.func (.func g) [] [],.bool true] h fun u h'=>∃r:Int,u=ZZ r/\(decide (0<=r)=eQ p z)/\Fr [] h h':=by
 let⟨hg,hp,h128⟩:=P;obtain⟨h1,Z⟩:∃h1,h1=hnew h (.si z 0):=⟨_,rfl⟩;have ac:Fr [] h h1:=Z▸Fr.hnew w _;have b1:h1.bl.get h.next=some (.si z 0):=by rw[Z];exact ku _ _
 refine ag ?_;simp only[evs,seval,ED,tN,Kf,<-Z];refine aC (fun k env hh=>Fr [] h hh/\∃(i:Nat),env.get 10=some (.ptr h.next 0)/\env.get 1=some (.func (.func g) [] [])/\env.get 2=some (.bool true)/\hh.bl.get h.next=some (.si z i)/\
  i<=z.length/\eQ p (z.drop i)=eQ p z/\k=z.length-i) z.length oM ?_ ?_
 ·exact⟨ac,0,iS,iS,iS,b1,oM,rfl,rfl⟩
 ·rintro k env hh ⟨F,i,ae,g1,g2,bb,hi,e,rfl⟩;by_cases K:i<z.length
  ·have⟨d1,d2⟩:=Kp z i K p h128;have F1:Fr [] hh (hset hh h.next (.si z (i+(Utf8.decode ⟨z.toArray⟩ i).2))):=Fr.si F.wf bb;have b2:=sE hh h.next (.si z (i+(Utf8.decode ⟨z.toArray⟩ i).2));rw[Tu K]at e;simp only[evs,seval,ae,g1,ED,tN,Ip bb K,hg];refine aa (hp _ _) ?_;rintro _ h2 ⟨rfl,rfl⟩;cases c:p ((z[i]).toNat:Int)
   ·have w1:=d2 c;rw[c]at d1;rw[w1]at F1 b2|-;simp only[evs,seval,d1,g2];unfold eQ at e;rw[VH,c,Uk]at e;refine rqn ⟨z.length-(i+1),oM,F.then F1,i+1,iX,iX,iX,b2,oM,e,rfl⟩
    done
   ·rw[c]at d1;simp only[evs,seval,d1,g2];unfold eQ at e|-;rw[VH,c,Bool.true_or]at e;exact⟨i,rfl,by rw[<-e];simp,F.then F1⟩
  ·simp only[evs,seval,ae,ED,tN,Kh bb K];rw[So oM]at e;exact⟨-1,rfl,by rw[<-e];rfl,F⟩
theorem qo{h:Heap}{z:List UInt8}{g:Nat}{p:Int->Bool}(w:WF h)(P:Hl g p)(Z:z.length<16777216):
 ao go 172 [.str z,.func (.func g) [] []] h fun u h'=>u=.bool (eQ p z)/\Fr [] h h':=by
 refine ag ?_;simp only[evs,seval];refine aa (?_:ao go 230 _ _ (fun u h'=>∃r:Int,u=ZZ r/\(decide (0<=r)=eQ p z)/\Fr [] h h')) ?_;refine ag ?_;simp only[evs,seval];refine aa (uZ w P Z) ?_;rintro _ K ⟨r,rfl,e,F⟩;simp only[evs,seval];exact⟨r,rfl,e,F⟩;rintro _ K ⟨r,rfl,e,F⟩;simp only[evs,seval];exact⟨by rw[e],F⟩
def ir(r:Int):Bool:=decide (r<32)||decide (126<r)
def dt(r:Int):Bool:=(decide (r<97)||decide (122<r))&&(decide (r<48)||decide (57<r))
theorem Mv:Hl 173 ir:=⟨dI,fun r h=>by
 by_cases c:r<32;refine ag ?_;simp only[evs,seval,c];simp[ir,c];refine ag ?_;simp only[evs,seval,c];simp[ir,c],fun r hr=>by simp[ir];omega⟩
theorem Mu:Hl 232 dt:=⟨dI,fun r h=>by
 by_cases c:r<97;by_cases d:r<48;refine ag ?_;simp only[evs,seval,c,d];simp[dt,c,d];refine ag ?_;simp only[evs,seval,c,d];simp[dt,c,d];by_cases c':(122:Int)<r;by_cases d:r<48;omega;refine ag ?_;simp only[evs,seval,c,d,c'];simp[dt,c,d,c'];refine ag ?_;simp only[evs,seval,c,c'];simp[dt,c,c'],fun r hr=>by simp[dt];omega⟩
def okT(z:List UInt8):Bool:=decide (z.length<=64)&& !eQ ir z
def okN(z:List UInt8):Bool:=decide (0<z.length)&&(decide (z.length<=16)&& !eQ dt z)
theorem aG(a:List UInt8):aP .lenStr [.str a]=some (ZZ (a.length:Nat)):=rfl
theorem aY(a b:List UInt8):aP (.sb .neq) [.str a,.str b]=some (.bool (!(a==b))):=rfl
theorem aN(a b:List UInt8):aP (.sb .eql) [.str a,.str b]=some (.bool (a==b)):=rfl
theorem kO(z:List UInt8):(z==[])=decide (z.length=0):=by cases z<;>rfl
theorem H9{h:Heap}{z:List UInt8}(w:WF h):ao go 177 [.str z] h fun u h'=>u=.bool (okN z)/\Fr [] h h':=by by_cases Z:z.length=0;refine ag ?_;simp only[evs,seval,aY,kO,Z];exact⟨by simp[okN,Z],Sn w⟩;by_cases c1:z.length<=16;refine ag ?_;simp only[evs,seval,aG,aY,kO,Z,(oM:(z.length:Int)<=16)];refine aa (qo w Mu oM) ?_;rintro _ K ⟨rfl,F⟩;simp only[evs,seval];exact⟨by simp[okN,c1];intro _;omega,F⟩;refine ag ?_;simp only[evs,seval,aG,aY,kO,Z,(oM:¬(z.length:Int)<=16)];exact⟨by simp[okN,c1],Sn w⟩
abbrev sS(s:List UInt8):List V:=[.str s]
theorem fG(s:List UInt8):(sS s).length=1:=rfl
theorem EI{h:Heap}{z:List UInt8}(w:WF h):ao go 176 [.str z] h fun u h'=>u=.bool (!okN z)/\Fr [] h h':=by refine ag ?_;simp only[evs,seval];refine aa (H9 w) ?_;rintro _ Z ⟨rfl,F⟩;simp only[evs,seval];exact F
def Je(g:Nat):Prop:=g<1099511627776/\∀(z:List UInt8)(h:Heap),WF h->ao go g [.str z] h fun u h'=>u=.bool (!okN z)/\Fr [] h h'
theorem Mx:Je 176:=⟨dI,fun _ _ w=>EI w⟩
theorem C5{h:Heap}{v:V}{g:Nat}{L:List (List UInt8)}(P:Je g)(w:WF h)(a:ARecs sS 1 h v L)(hn:L.length<=4096):
 ao go 231 [v,.func (.func g) [] []] h fun u h'=>∃r:Int,u=ZZ r/\(decide (0<=r)= !L.all okN)/\Fr [] h h':=by
 refine ag ?_;simp only[evs,seval,a.len];refine aC (fun k env K=>Fr [] h K/\∃(i:Nat),env.get 8=some (ZZ i)/\env.get 7=some (ZZ L.length)/\env.get 0=some v/\env.get 1=some (.func (.func g) [] [])/\
  i<=L.length/\(L.drop i).all okN=L.all okN/\k=L.length-i) L.length oM ?_ ?_
 ·exact⟨Sn w,0,iS,iS,iS,iS,oM,rfl,rfl⟩
 ·rintro k env K ⟨F,i,g8,g7,g0,g1,hi,e,rfl⟩;by_cases ac:i<L.length
  ·have Z:(i:Int)<L.length:=oM
   let⟨b,o,s,e1,e2,_,e5⟩:=(a.fr F).ix fG .i64 i oM Z;have e4:ab K b o=some (.str s):=e2 0 oM;rw[RX]at e5;rw[aK e5,Uj]at e;simp only[evs,seval,g8,g7,g0,g1,Z,e1,e4,P.1];refine aa (P.2 _ _ F.wf) ?_;rintro _ h1 ⟨rfl,F1⟩;cases c:okN s
   ·simp only[evs,seval];rw[c]at e;exact⟨i,rfl,by rw[<-e];simp,F.then F1⟩
   ·simp(disch:=omega) only[evs,seval,ah,g8];rw[c]at e;refine rqn ⟨L.length-(i+1),oM,F.then F1,i+1,iS,iX,iX,iX,oM,by simpa using e,rfl⟩
    done
  ·simp only[evs,seval,g8,g7,(oM:¬(i:Int)<L.length)];rw[So oM]at e;exact⟨-1,rfl,by rw[<-e];rfl,F⟩
theorem ou{h:Heap}{v:V}{g:Nat}{L:List (List UInt8)}(P:Je g)(w:WF h)(a:ARecs sS 1 h v L)(Z:L.length<=4096):
 ao go 175 [v,.func (.func g) [] []] h fun u h'=>u=.bool (!L.all okN)/\Fr [] h h':=by
 refine ag ?_;simp only[evs,seval];refine aa (C5 P w a Z) ?_;rintro _ K ⟨r,rfl,e,F⟩;simp only[evs,seval];exact⟨by rw[e],F⟩
structure Itm where
 key:Nat
 type:Nat
 text:List UInt8
 marks:List (List UInt8)
 vm:V
def Itm.cells(x:Itm):List V:=[ZX (x.key:Int),ZY (x.type:Int),.str x.text,x.vm]
structure ItmH(h:Heap)(x:Itm):Prop where
 k:x.key<18446744073709551616
 t:x.type<256
 m:ARecs sS 1 h x.vm x.marks
 n:x.marks.length<=4096
 l:x.text.length<16777216
theorem ItmH.fr{h:Heap}{x:Itm}(a:ItmH h x)(f:Fr [] h h'):ItmH h' x:=⟨a.k,a.t,a.m.fr f,a.n,a.l⟩
theorem ItmH.one{h:Heap}{x:Itm}(a:ItmH h x):au x.cells=true:=by show au [ZX (x.key:Int),ZY (x.type:Int),.str x.text,x.vm]=true;simp only[av,aB,a.m.one];rfl
def okM(ms:List (List UInt8)):Bool:=decide (ms.length<=8)&&ms.all okN
def okI(x:Itm)(types:Nat):Bool:=decide (x.key≠0)&&(decide (x.type<types)&&(okT x.text&&okM x.marks))
theorem HJ{h:Heap}{x:Itm}{b:Nat}(w:WF h)(a:ItmH h x)(o:Own h b x.cells):ao go 171 [.ptr b 0] h fun u h'=>u=.bool (okT x.text)/\Fr [] h h':=by have l2:ab h b 2=some (.str x.text):=o.ld1 2;by_cases c:x.text.length<=64;refine ag ?_;simp only[evs,seval,l2,aG,(oM:(x.text.length:Int)<=64)];refine aa (qo w Mv a.l) ?_;rintro _ Z ⟨rfl,F⟩;simp only[evs,seval];exact⟨by simp[okT,c],F⟩;refine ag ?_;simp only[evs,seval,l2,aG,(oM:¬(x.text.length:Int)<=64)];exact⟨by simp[okT,c],Sn w⟩
theorem EO{h:Heap}{x:Itm}{b:Nat}(w:WF h)(a:ItmH h x)(o:Own h b x.cells):ao go 174 [.ptr b 0] h fun u h'=>u=.bool (okM x.marks)/\Fr [] h h':=by have l2:ab h b 3=some x.vm:=o.ld1 3;by_cases c:x.marks.length<=8;refine ag ?_;simp only[evs,seval,l2,a.m.len,(oM:(x.marks.length:Int)<=8)];refine aa (ou Mx w a.m a.n) ?_;rintro _ Z ⟨rfl,F⟩;simp only[evs,seval];exact⟨by simp[okM,c],F⟩;refine ag ?_;simp only[evs,seval,l2,a.m.len,(oM:¬(x.marks.length:Int)<=8)];exact⟨by simp[okM,c],Sn w⟩
theorem oJ{h:Heap}{x:Itm}{Z:Nat}(w:WF h)(a:ItmH h x)(ht:Z<256):ao go 102 [.agg x.cells,ZZ (Z:Int)] h fun u h'=>u=ZZ (if okI x Z then 0 else 6)/\Fr [] h h':=by let⟨h1,e_h1,F_h1,o_h1⟩:=aq w x.cells;have l0:ab h1 h.next 0=some (ZX (x.key:Int)):=o_h1.ld1 0;have l1:ab h1 h.next 1=some (ZY (x.type:Int)):=o_h1.ld1 1;have xt:=a.t;by_cases c0:x.key=0;refine ag ?_;simp only[evs,seval,<-e_h1,l0,(oM:(x.key:Int)=0)];exact⟨by simp[okI,c0],F_h1⟩;by_cases c1:x.type<Z;refine ag ?_;simp(disch:=omega) only[evs,seval,ah,<-e_h1,l0,(oM:¬(x.key:Int)=0),l1,(oM:¬(Z:Int)<=x.type)];refine aa (HJ F_h1.wf (a.fr F_h1) o_h1) ?_;rintro _ h2 ⟨rfl,K⟩;cases c2:okT x.text;simp only[evs,seval];exact⟨by simp[okI,c2],F_h1.then K⟩;simp only[evs,seval];refine aa (EO K.wf (a.fr (F_h1.then K)) (K.get o_h1)) ?_;rintro _ h3 ⟨rfl,F3⟩;cases c3:okM x.marks;simp only[evs,seval];exact⟨by simp[okI,c3],(F_h1.then K).then F3⟩;simp only[evs,seval];exact⟨by simp[okI,c0,c1,c2,c3],(F_h1.then K).then F3⟩;refine ag ?_;simp(disch:=omega) only[evs,seval,ah,<-e_h1,l0,(oM:¬(x.key:Int)=0),l1,(oM:(Z:Int)<=x.type)];exact⟨by simp[okI,c1],F_h1⟩
theorem C7{h:Heap}(r:Nat):ao go 294 [ZY (r:Int)] h fun u h'=>u=.bool (!dt r)/\h=h':=by by_cases c:(97:Int)<=r;by_cases d:(r:Int)<=122;refine ag ?_;simp only[evs,seval,c,d];simp[dt];omega;by_cases e:(48:Int)<=r;by_cases f:(r:Int)<=57;omega;refine ag ?_;simp only[evs,seval,c,d,e,f];simp[dt];omega;omega;by_cases e:(48:Int)<=r;by_cases f:(r:Int)<=57;refine ag ?_;simp only[evs,seval,c,e,f];simp[dt];omega;refine ag ?_;simp only[evs,seval,c,e,f];simp[dt];omega;refine ag ?_;simp only[evs,seval,c,e];simp[dt];omega
theorem bY{z:List UInt8}{i:Nat}(h:i<z.length)(k:IntKind):aP .ixstr [.str z,.int k (i:Int)]=some (ZY ((z[i]).toNat:Nat)):=by show(z[i]?).map _=_;rw[Sm h];rfl
theorem rW{h:Heap}{z:List UInt8}:ao go 279 [.str z] h fun u h'=>u=.bool (okN z)/\h=h':=by
 by_cases c0:z.length<1
 ·refine ag ?_;simp only[evs,seval,aG,(oM:(z.length:Int)<1)];simp[okN];intro _;omega
 by_cases c1:16<z.length
 ·refine ag ?_;simp only[evs,seval,aG,(oM:¬(z.length:Int)<1),(oM:(16:Int)<z.length)];simp[okN];intro _ _;omega
 ·have e0:okN z= !eQ dt z:=by simp[okN,(oM:0<z.length),(oM:z.length<=16)]
  rw[e0];refine ag ?_;simp only[evs,seval,aG,(oM:¬(z.length:Int)<1),(oM:¬(16:Int)<z.length)];refine aC (fun k env hh=>h=hh/\∃(i:Nat),env.get 14=some (ZZ i)/\env.get 13=some (ZZ z.length)/\env.get 0=some (.str z)/\
   i<=z.length/\eQ dt (z.drop i)=eQ dt z/\k=z.length-i) z.length oM ?_ ?_
  ·exact⟨rfl,0,iS,iS,iS,oM,rfl,rfl⟩
  ·rintro k env hh ⟨rfl,i,Z,K,g0,hi,e,rfl⟩;by_cases ac:i<z.length
   ·unfold eQ at e;rw[Tu ac,VH]at e;simp only[evs,seval,Z,K,g0,(oM:(i:Int)<z.length),bY ac];refine aa (C7 _) ?_;rintro _ _ ⟨rfl,rfl⟩;cases c:dt ((z[i]).toNat:Int)
    ·simp(disch:=omega) only[evs,seval,ah,Z];rw[c,Uk]at e;refine rqn ⟨z.length-(i+1),oM,rfl,i+1,iS,iX,iX,oM,e,rfl⟩
     done
    ·simp only[evs,seval];rw[c,Bool.true_or]at e;unfold eQ;rw[<-e];simp
   ·simp only[evs,seval,Z,K,(oM:¬(i:Int)<z.length)];rw[So oM]at e;rw[<-e];rfl
theorem Mt:Hl 293 ir:=⟨dI,fun r h=>by
 by_cases c:r<32;refine ag ?_;simp only[evs,seval,c];simp[ir,c];refine ag ?_;simp only[evs,seval,c];simp[ir,c],fun r hr=>by simp[ir];omega⟩
theorem yw{h:Heap}{z:List UInt8}(w:WF h):ao go 278 [.str z] h fun u h'=>u=.bool (okT z)∧Fr [] h h':=by
 by_cases c:z.length≤64;refine ag ?_;simp only[evs,seval,aG,(oM:(z.length:Int)≤64)];refine aa (?_:ao go 230 _ _ (fun u h'=>∃r:Int,u=.int .i64 r∧(decide (0≤r)=eQ ir z)∧Fr [] h h')) ?_;refine ag ?_;simp only[evs,seval];refine aa (uZ w Mt oM) ?_;rintro _ h1 ⟨r,rfl,e,F⟩;simp only[evs,seval];exact⟨r,rfl,e,F⟩;rintro _ h1 ⟨r,rfl,e,F⟩;simp only[evs,seval];refine⟨?_,F⟩;have:decide (r<0)= !decide (0≤r):=by grind
 simp[okT,c,←e];exact this;refine ag ?_;simp only[evs,seval,aG,(oM:¬(z.length:Int)≤64)];exact⟨by simp[okT,c],Fr.refl w⟩
abbrev Str:=List UInt8
inductive NT where
 |nil
 |cons (kind:Nat) (tag key:Str) (attrs:List (Str×Str)) (text:Str) (va vc:V) (sub next:NT)
def fY(a:Str×Str):List V:=[.str a.1,.str a.2]
theorem eK(a:Str×Str):(fY a).length=2:=rfl
namespace NT
def len:NT->Nat
 |nil=>0
 |cons _ _ _ _ _ _ _ _ nx=>nx.len+1
def cells:NT->List V
 |nil=>[]
 |cons k tg ky _ tx va vc _ nx=>[ ZY (k:Int),.str tg,.str ky,va,.str tx,vc]++nx.cells
def keys:NT->List Str
 |nil=>[]
 |cons _ _ ky _ _ _ _ _ nx=>ky::nx.keys
theorem cells_len:∀t:NT,t.cells.length=t.len*6
 |nil=>rfl
 |cons _ _ _ _ _ _ _ _ nx=>by simp[cells,len,cells_len nx];omega
theorem keys_len:∀t:NT,t.keys.length=t.len
 |nil=>rfl
 |cons _ _ _ _ _ _ _ _ nx=>by simp[keys,len,keys_len nx]
def at':NT->Nat->NT
 |t,0=>t
 |nil,_+1=>nil
 |cons _ _ _ _ _ _ _ _ nx,i+1=>nx.at' i
end NT
def NH(h:Heap):NT->Prop
 |.nil=>True
 |.cons k _ _ at' _ va vc sub nx=>k<256/\Recs fY 2 h va at'/\at'.length<=4096/\Sl h 6 vc sub.len sub.cells/\sub.len<=4096/\NH h sub/\NH h nx
theorem NH.fr{h:Heap}(f:Fr [] h h'):∀{t:NT},NH h t->NH h' t
 |.nil,_=>trivial
 |.cons _ _ _ _ _ _ _ _ _,⟨a,b,c,d,e,g,i⟩=>⟨a,b.fr f,c,d.fr f,e,NH.fr f g,NH.fr f i⟩
set_option maxRecDepth 4000
namespace NT
theorem split:∀(t:NT)(i:Nat),i<t.len→∃k tg ky at' tx va vc sub nx,t.at' i=.cons k tg ky at' tx va vc sub nx∧t.cells.drop (i*6)=[.int .u8 ((k:Nat):Int),.str tg,.str ky,va,.str tx,vc]++nx.cells∧t.at' (i+1)=nx∧t.keys.drop i=ky::nx.keys∧t.keys[i]? =some ky∧nx.len+(i+1)=t.len
 |.nil,_,h=>by cases h
 |.cons k tg ky at' tx va vc sub nx,0,_=>⟨k,tg,ky,at',tx,va,vc,sub,nx,rfl,rfl,by cases nx<;>rfl,rfl,rfl,rfl⟩
 |.cons _ _ _ _ _ _ _ _ nx,i+1,h=>by let⟨k,tg,ky,at',tx,va,vc,sub,n,e1,e2,e3,e4,e5,e6⟩:=split nx i (by simp[len]at h;omega);refine⟨k,tg,ky,at',tx,va,vc,sub,n,e1,?_,e3,e4,?_,by simp only[len];omega⟩;rw[(oM:(i+1) *6=6+i*6),←List.drop_drop];exact e2;simpa[keys]using e5
theorem at_end:∀(t:NT)(i:Nat),t.len<=i->t.at' i=.nil
 |.nil,0,_=>rfl
 |.nil,_+1,_=>rfl
 |.cons _ _ _ _ _ _ _ _ nx,0,h=>by simp[len]at h
 |.cons _ _ _ _ _ _ _ _ nx,i+1,h=>at_end nx i (by simp[len]at h;omega)
end NT
theorem NH.at'{h:Heap}:∀{t:NT}(i:Nat),NH h t->NH h (t.at' i)
 |.nil,0,_=>trivial
 |.nil,_+1,_=>trivial
 |.cons _ _ _ _ _ _ _ _ _,0,a=>a
 |.cons _ _ _ _ _ _ _ _ _,i+1,⟨_,_,_,_,_,_,g⟩=>NH.at' i g
def At6(h:Heap)(b o:Nat)(x0 x1 x2 x3 x4 x5:V):Prop:=ab h b o=some x0/\ab h b (o+1)=some x1/\ab h b (o+2)=some x2/\ab h b (o+3)=some x3/\ab h b (o+4)=some x4/\ab h b (o+5)=some x5/\aj h b o 6=some [x0,x1,x2,x3,x4,x5]
theorem _root_.Go.Ev.Sl.ix6{h:Heap}{v:V}{n:Nat}(a:Sl h 6 v n cs){i:Nat}(Z:i<n){x0 x1 x2 x3 x4 x5:V}{r:List V}(e:cs.drop (i*6)=[x0,x1,x2,x3,x4,x5]++r):
 ∃b o,aP (.ixs 6) [v,ZZ (i:Int)]=some (.ptr b o)/\At6 h b o x0 x1 x2 x3 x4 x5:=by
 let⟨b,o,e1,e2,e3⟩:=Sl.ix a .i64 (i:Int) oM oM;rw[RX]at e2 e3;rw[e]at e3;have g:∀j,cs[i*6+j]? =([x0,x1,x2,x3,x4,x5]++r)[j]? :=fun j=>by rw[<-e,To]
 refine⟨b,o,e1,?_,?_,?_,?_,?_,?_,e3⟩;have:=e2 0 oM;rw[g]at this;exact this;grind;grind;grind;grind;grind
theorem _root_.Go.Ev.Own.at6{h:Heap}{b:Nat}{x5:V}(o:Own h b [x0,x1,x2,x3,x4,x5]):At6 h b 0 x0 x1 x2 x3 x4 x5:=⟨o.ld1 0,o.ld1 1,o.ld1 2,o.ld1 3,o.ld1 4,o.ld1 5,by rw[o.ld];rfl⟩
theorem Ad{h:Heap}{x5:V}{ky k0:Str}{Z:Nat}(w:WF h)(hk:∀h',Fr [] h h'->ab h' Z 2=some (.str k0))(ones:au [x0,x1,.str ky,x3,x4,x5]=true):
 ao go 281 [.agg [x0,x1,.str ky,x3,x4,x5],.ptr Z 0] h fun u h'=>u=.bool (ky==k0)/\Fr [] h h':=by
 let⟨K,e_h1,F_h1,o_h1⟩:=aq w [x0,x1,.str ky,x3,x4,x5];have l2:ab K h.next 2=some (.str ky):=o_h1.ld1 2;refine ag ?_;simp only[evs,seval,<-e_h1,l2,hk K F_h1,aN];exact F_h1
theorem C6{h:Heap}{u:V}{t:NT}{i bk:Nat}{Z:Str}(w:WF h)(a:Sl h 6 u i (t.cells.take (i*6)))(hi:i<=t.len)(hn:i<=4096)(ones:au t.cells=true)(hk:∀h',Fr [] h h'->ab h' bk 2=some (.str Z)):
 ao go 280 [u,.func (.func 281) [] [.ptr bk 0]] h fun z h'=>z=.bool ((t.keys.take i).any (· ==Z))/\Fr [] h h':=by
 refine ag ?_;simp only[evs,seval];refine aa (?_:ao go 295 _ _ (fun z h'=>∃r:Int,z=ZZ r/\(decide (0<=r)=(t.keys.take i).any (· ==Z))/\Fr [] h h')) ?_
 ·refine ag ?_;simp only[evs,seval,a.len];refine aC (fun k env hh=>Fr [] h hh/\∃(j:Nat),env.get 8=some (ZZ j)/\env.get 7=some (ZZ i)/\env.get 0=some u/\env.get 1=some (.func (.func 281) [] [.ptr bk 0])/\
   j<=i/\((t.keys.take i).drop j).any (· ==Z)=(t.keys.take i).any (· ==Z)/\k=i-j) i oM ?_ ?_
  ·exact⟨Sn w,0,iS,iS,iS,iS,oM,rfl,rfl⟩
  ·rintro k env hh ⟨F,j,K,g7,g0,g1,hj,e,rfl⟩;by_cases ac:j<i
   ·let⟨kd,tg,ky,at',tx,va,vc,sub,nx,e1,e2,e3,e4,e5,_⟩:=t.split j oM;have q:(t.cells.take (i*6)).drop (j*6)=[ZY (kd:Int),.str tg,.str ky,va,.str tx,vc]++nx.cells.take (i*6-j*6-6):=by
     rw[Va,e2,(oO:i*6-j*6=([ZY (kd:Int),.str tg,.str ky,va,.str tx,vc]:List V).length+(i*6-j*6-6)),UV];simp
    let⟨b,o,p1,p2⟩:=(a.fr F).ix6 ac q;have on:au [ZY (kd:Int),.str tg,.str ky,va,.str tx,vc]=true:=by
     have:=bq (j*6) ones;rw[e2,aL]at this;exact(RU _ _▸this).1
    have ek:(t.keys.take i)[j]? =some ky:=by grind
    rw[aK ek,VH]at e;simp only[evs,seval,K,g7,g0,g1,(oM:(j:Int)<(i:Int)),p1,p2.2.2.2.2.2.2];refine aa (Ad F.wf (fun h' f=>hk h' (F.then f)) on) ?_;rintro _ h1 ⟨rfl,F1⟩;cases c:ky==Z
    ·simp(disch:=omega) only[evs,seval,ah,K];rw[c]at e;refine rqn ⟨i-(j+1),oM,F.then F1,j+1,iS,iX,iX,iX,oM,by simpa using e,rfl⟩
     done
    ·simp only[evs,seval];rw[c]at e;exact⟨j,rfl,by rw[<-e];simp,F.then F1⟩
   ·simp only[evs,seval,K,g7,(oM:¬(j:Int)<(i:Int))];rw[So oO]at e;exact⟨-1,rfl,by rw[<-e];rfl,F⟩
 ·rintro _ h1 ⟨r,rfl,e,F⟩;simp only[evs,seval];exact⟨by rw[e],F⟩
set_option maxRecDepth 4000
def leS(a b:Str):Bool:=Op.bytesLess a b||a==b
theorem lP(a b:Str):aP (.sb .leq) [.str a,.str b]=some (.bool (leS a b)):=rfl
def cM(p:Option Str)(n:Str):Bool:=match p with
 |none=>true
 |some q=> !leS n q
def dO:Option Str->List (Str×Str)->Bool
 |_,[]=>true
 |p,(n,v)::r=>(okN n&&(okT v&&cM p n))&&dO (some n) r
def gq:List Str->List Str->Bool
 |_,[]=>true
 |pr,k::r=>(k==[]|| !(pr.any (· ==k)))&&gq (pr++[k]) r
theorem qh(pr:List Str)(k:Str)(r:List Str):gq pr (k::r)=((k==[]|| !(pr.any (· ==k)))&&gq (pr++[k]) r):=rfl
theorem oU(p:Option Str)(a:Str×Str)(r:List (Str×Str)):dO p (a::r)=((okN a.1&&(okT a.2&&cM p a.1))&&dO (some a.1) r):=rfl
def ij(k:Nat)(tg ky:Str)(at':List (Str×Str))(tx:Str)(sub:NT):Bool:=
 if k=2 then okT tx&&(tg==[]&&(ky==[]&&(decide (at'.length=0)&&decide (sub.len=0))))
 else decide (k=1)&&(okN tg&&((ky==[]||okN ky)&&(tx==[]&&(decide (at'.length<=8)&&(decide (sub.len<=16)&&(dO none at'&&gq [] sub.keys))))))
def jL(at':List (Str×Str))(i:Nat):Option Str:=if i=0 then none else(at'[i-1]?).map (·.1)
theorem rR{at':List (Str×Str)}{i:Nat}{a:Str×Str}(h:at'[i]? =some a):jL at' (i+1)=some a.1:=by simp[jL,h]
theorem KD{h:Heap}{b o:Nat}{sub:NT}{R:V->Heap->Prop}(w:WF h)(hA:∀h',Fr [] h h'->At6 h' b o x0 x1 x2 x3 x4 vc)
 (rc:Sl h 6 vc sub.len sub.cells) (nc:sub.len<=4096) (ones:au sub.cells=true) (g0:env.get 0=some (.ptr b o))
 (k:∀h',Fr [] h h'->R (.bool (gq [] sub.keys)) h'):W go alC env h (iO [.t 2] R):=by
 have q5:=(hA h (Sn w)).2.2.2.2.2.1;simp only[evs,seval,alC,g0,q5,rc.len];refine aC (fun n env hh=>Fr [] h hh/\∃(i:Nat),env.get 142=some (ZZ i)/\env.get 141=some (ZZ sub.len)/\env.get 140=some vc/\env.get 0=some (.ptr b o)/\
  i<=sub.len/\gq (sub.keys.take i) (sub.keys.drop i)=gq [] sub.keys/\n=sub.len-i) sub.len oM ?_ ?_
 ·exact⟨Sn w,0,iS,iS,iS,iX,oM,rfl,rfl⟩
 ·rintro n env hh ⟨F,i,K,ac,ak,g0,hi,e,rfl⟩;by_cases af:i<sub.len
  ·let⟨kd,tg,ky,at',tx,va,vc',sb,nx,e1,e2,e3,e4,e5,_⟩:=sub.split i af;let⟨b',o',p1,p2⟩:=(rc.fr F).ix6 af e2;have on:au [ZY (kd:Int),.str tg,.str ky,va,.str tx,vc']=true:=by
    have:=bq (i*6) ones;rw[e2,aL]at this;exact(RU _ _▸this).1
   have ae:(i:Int)<sub.len:=oM
   rw[e4]at e;rw[qh]at e;have ek:(sub.keys.take i)++[ky]=sub.keys.take (i+1):=by grind
   have ed:nx.keys=sub.keys.drop (i+1):=by
    rw[<-Tl (i:=1),e4];rfl
   rw[ek,ed]at e;let⟨h1,e_h1,F_h1,o_h1⟩:=aq F.wf [ZY 0,.str [],.str [],.nils,.str [],.nils];simp only[evs,seval,K,ac,ak,ae,p1,p2.2.2.2.2.2.2,<-e_h1];refine ai (c':=[ZY (kd:Int),.str tg,.str ky,va,.str tx,vc']) F_h1.wf o_h1 rfl on rfl ?_;rintro h2 o2 F2 n2;have Z:Fr [] hh h2:=F_h1.fresh F2 F.wf (RW _);have q2:ab h2 hh.next 2=some (.str ky):=o2.ld1 2;have q5:=(hA h2 (F.then Z)).2.2.2.2.2.1;cases c:ky==[]
   ·let⟨u,s1,s2⟩:=(rc.fr (F.then Z)).upto oM (Sl.ne (rc.fr (F.then Z)) oM) .i64 (i:Int) oM oM;rw[RX]at s2;simp only[evs,seval,g0,q2,aY,c,q5,s1];apply aa (C6 Z.wf s2 oM oM ones (fun h' f=>(f.get o2).ld1 2));rintro _ h3 ⟨rfl,F3⟩;cases c2:(sub.keys.take i).any (· ==ky)
    ·simp(disch:=omega) only[evs,seval,ah,K];rw[c,c2]at e;refine rqn ⟨sub.len-(i+1),oM,(F.then Z).then F3,i+1,iS,iX,iX,iX,oM,by simpa using e,rfl⟩
     done
    ·simp only[evs,seval];have:=k _ ((F.then Z).then F3);rw[<-e,c,c2]at this;simpa using this
   ·simp(disch:=omega) only[evs,seval,ah,K,q2,aY,c];rw[c]at e;refine rqn ⟨sub.len-(i+1),oM,F.then Z,i+1,iS,iX,iX,iX,oM,by simpa using e,rfl⟩
    done
  ·simp only[evs,seval,K,ac,(oM:¬(i:Int)<sub.len)];rw[So (by rw[NT.keys_len];omega)]at e;have:=k _ F;rw[<-e]at this;exact this
theorem Gw{h:Heap}{b o:Nat}{at':List (Str×Str)}{sub:NT}{R:V->Heap->Prop}(w:WF h)(hA:∀h',Fr [] h h'->At6 h' b o x0 x1 x2 va x4 vc)
 (ra:Recs fY 2 h va at') (na:at'.length<=4096) (rc:Sl h 6 vc sub.len sub.cells) (nc:sub.len<=4096) (ones:au sub.cells=true) (g0:env.get 0=some (.ptr b o))
 (k:∀h',Fr [] h h'->R (.bool (dO none at'&&gq [] sub.keys)) h'):W go alA env h (iO [.t 2] R):=by
 have q3:=(hA h (Sn w)).2.2.2.1;simp only[evs,seval,alA,g0,q3,ra.len];refine aC (fun n env hh=>Fr [] h hh/\∃(i:Nat),env.get 103=some (ZZ i)/\env.get 102=some (ZZ at'.length)/\env.get 101=some va/\env.get 0=some (.ptr b o)/\
  i<=at'.length/\dO (jL at' i) (at'.drop i)=dO none at'/\n=at'.length-i) at'.length oM ?_ ?_
 ·exact⟨Sn w,0,iS,iS,iS,iX,oM,rfl,rfl⟩
 ·rintro n env hh ⟨F,i,Z,ac,ax,g0,hi,e,rfl⟩;by_cases az:i<at'.length
  ·have ae:(i:Int)<at'.length:=oM
   let⟨b',o',a,p1,p2,p3,p4⟩:=(ra.fr F).ix eK .i64 (i:Int) oM ae;rw[RX]at p4;rw[aK p4,oU]at e;have en:=rR p4;let⟨h1,e_h1,F_h1,o_h1⟩:=aq F.wf [.str [],.str []];simp only[evs,seval,Z,ac,ax,ae,p1,p3,<-e_h1];apply stu F_h1.wf o_h1;rintro h2 o2 F2 n2;have af:Fr [] hh h2:=F_h1.fresh F2 F.wf (RW _);have q0:ab h2 hh.next 0=some (.str a.1):=o2.ld1 0;have q1:ab h2 hh.next 1=some (.str a.2):=o2.ld1 1;simp only[evs,seval,eff,q0];apply aa rW;rintro _ _ ⟨rfl,rfl⟩;cases c1:okN a.1
   ·simp only[evs,seval,DF,eff,q0];have:=k _ (F.then af);rw[<-e,c1]at this;simpa using this
   simp only[evs,seval,eff,q1];apply aa (yw af.wf);rintro _ h3 ⟨rfl,F3⟩;have K:=(F.then af).then F3;have ar:ab h3 hh.next 0=some (.str a.1):=(F3.get o2).ld1 0;cases c2:okT a.2
   ·simp only[evs,seval,DF,eff,q0,q1];have:=k _ K;rw[<-e,c1,c2]at this;simpa using this
   have an:cM (jL at' i) a.1=true->dO (jL at' (i+1)) (at'.drop (i+1))=dO none at':=fun c=>by grind
   by_cases c3:i=0
   ·simp(disch:=omega) only[evs,seval,DF,eff,ah,Z,q0,q1,(oM:¬(0:Int)<(i:Int))];refine rqn ⟨at'.length-(i+1),oM,K,i+1,iS,iX,iX,iX,oM,an (by rw[c3];rfl),rfl⟩
    done
   ·let⟨b2,o2',a2,r1,r2,r3,r4⟩:=(ra.fr K).ix eK .i64 ((i:Int)-1) oM oM;have ay:at'[i-1]? =some a2:=by rw[<-r4];congr 1;omega
    have ak:ab h3 b2 o2'=some (.str a2.1):=r2 0 oM;have q3:=(hA h3 K).2.2.2.1;have pe:jL at' i=some a2.1:=by simp[jL,c3,ay]
    cases c4:leS a.1 a2.1
    ·simp(disch:=omega) only[evs,seval,DF,eff,ah,c4,Z,g0,q0,q1,ar,q3,r1,ak,lP,(oM:(0:Int)<(i:Int))];refine rqn ⟨at'.length-(i+1),oM,K,i+1,iS,iX,iX,iX,oM,an (by rw[pe];simp[cM,c4]),rfl⟩
     done
    ·simp(disch:=omega) only[evs,seval,DF,eff,ah,c4,g0,q0,q1,ar,q3,r1,ak,lP,(oM:(0:Int)<(i:Int))];have:=k _ K;rw[<-e,pe,c1,c2]at this;simpa[cM,c4]using this
  ·simp only[evs,seval,Z,ac,(oM:¬(i:Int)<at'.length)];rw[So oM]at e;refine KD F.wf (fun h' f=>hA h' (F.then f)) (rc.fr F) nc ones iX fun h' f=>?_;have:=k h' (F.then f);rw[<-e]at this;simpa[dO]using this
theorem Gu{h:Heap}{b o k:Nat}{tg ky tx:Str}{at':List (Str×Str)}{sub:NT}(w:WF h)(hA:∀h',Fr [] h h'->At6 h' b o (ZY (k:Int)) (.str tg) (.str ky) va (.str tx) vc)
 (ra:Recs fY 2 h va at') (na:at'.length<=4096) (rc:Sl h 6 vc sub.len sub.cells) (nc:sub.len<=4096) (ones:au sub.cells=true):
 ao go 253 [.ptr b o] h fun u h'=>u=.bool (ij k tg ky at' tx sub)/\Fr [] h h':=by
 have q0:ab h b o=some (ZY (k:Int)):=(hA h (Sn w)).1;by_cases c0:k=2;have q4:ab h b (o+4)=some (.str tx):=(hA h (Sn w)).2.2.2.2.1;unfold ij;rw[if_pos c0];refine ag ?_;simp only[evs,seval,q0,(oM:(k:Int)=2),q4];refine aa (yw w) ?_;rintro _ h1 ⟨rfl,K⟩;let⟨_,q1,q2,q3,_,q5,_⟩:=hA h1 K;have l1:=(ra.fr K).len;have l2:=(rc.fr K).len;cases c1:okT tx;simp only[evs,seval];exact⟨rfl,K⟩;cases c2:tg==[];simp only[evs,seval,q1,aN,c2];exact⟨rfl,K⟩;cases c3:ky==[];simp only[evs,seval,q1,aN,c2,q2,c3];exact⟨rfl,K⟩;by_cases c4:at'.length=0;by_cases c5:sub.len=0;simp only[evs,seval,q1,aN,c2,q2,c3,q3,l1,(oM:((at'.length:Nat):Int)=0),q5,l2,(oM:((sub.len:Nat):Int)=0)];exact⟨by simp[c4,c5],K⟩;simp only[evs,seval,q1,aN,c2,q2,c3,q3,l1,(oM:((at'.length:Nat):Int)=0),q5,l2,(oM:¬((sub.len:Nat):Int)=0)];exact⟨by simp[c5],K⟩;simp only[evs,seval,q1,aN,c2,q2,c3,q3,l1,(oM:¬((at'.length:Nat):Int)=0)];exact⟨by simp[c4],K⟩;unfold ij;rw[if_neg c0];by_cases c1:k=1;let⟨_,q1,q2,q3,q4,q5,_⟩:=hA h (Sn w);have l1:=ra.len;have l2:=rc.len;refine ag ?_;simp only[evs,seval,q0,(oM:(k:Int)=1),q1];refine aa rW ?_;rintro _ _ ⟨rfl,rfl⟩;cases c2:okN tg;simp only[evs,seval];exact⟨iS,Sn w⟩;cases ck:ky==[];simp only[evs,seval,q2,aY,ck];refine aa rW ?_;rintro _ _ ⟨rfl,rfl⟩;cases cn:okN ky;simp only[evs,seval];exact⟨iS,Sn w⟩;cases Z:tx==[];simp only[evs,seval,aY,q4,Z];exact⟨iS,Sn w⟩;by_cases ca:at'.length<=8;by_cases cs:sub.len<=16;simp only[evs,seval,aY,q4,Z,q3,l1,(oM:¬(8:Int)<(at'.length:Nat)),q5,l2,(oM:¬(16:Int)<(sub.len:Nat))];refine Gw w hA ra na rc nc ones iS fun h' f=>⟨by simp[c1,ca,cs],f⟩;simp only[evs,seval,aY,q4,Z,q3,l1,(oM:¬(8:Int)<(at'.length:Nat)),q5,l2,(oM:(16:Int)<(sub.len:Nat))];exact⟨by simp[cs],Sn w⟩;simp only[evs,seval,aY,q4,Z,q3,l1,(oM:(8:Int)<(at'.length:Nat))];exact⟨by simp[ca],Sn w⟩;cases Z:tx==[];simp only[evs,seval,q2,aY,ck,q4,Z];exact⟨iS,Sn w⟩;by_cases ca:at'.length<=8;by_cases cs:sub.len<=16;simp only[evs,seval,q2,aY,ck,q4,Z,q3,l1,(oM:¬(8:Int)<(at'.length:Nat)),q5,l2,(oM:¬(16:Int)<(sub.len:Nat))];refine Gw w hA ra na rc nc ones iS fun h' f=>⟨by simp[c1,ca,cs],f⟩;simp only[evs,seval,q2,aY,ck,q4,Z,q3,l1,(oM:¬(8:Int)<(at'.length:Nat)),q5,l2,(oM:(16:Int)<(sub.len:Nat))];exact⟨by simp[cs],Sn w⟩;simp only[evs,seval,q2,aY,ck,q4,Z,q3,l1,(oM:(8:Int)<(at'.length:Nat))];exact⟨by simp[ca],Sn w⟩;refine ag ?_;simp only[evs,seval,q0,(oM:¬(k:Int)=2),(oM:¬(k:Int)=1)];exact⟨by simp[c1],Sn w⟩
theorem NH.ones{h:Heap}:∀{t:NT},NH h t->au t.cells=true
 |.nil,_=>rfl
 |.cons k tg ky _ tx va vc _ nx,⟨_,b,_,d,_,_,g⟩=>by show au ([ ZY (k:Int),.str tg,.str ky,va,.str tx,vc]++nx.cells)=true;rw[aL,NH.ones g];simp only[av,aB,TI b,TI d];rfl
namespace NT
def node(k:Nat)(tg ky:Str)(at':List (Str×Str))(tx:Str)(sub:NT)(w:Nat->Nat->Nat×Bool)(l c:Nat):Nat×Bool:=
 if 6<l\/64<c+1\/ij k tg ky at' tx sub=false then(c+1,false)else w (l+1) (c+1)
def walk:NT->Nat->Nat->Nat×Bool
 |nil,_,c=>(c,true)
 |cons k tg ky at' tx _ _ sub nx,l,c=>let r:=node k tg ky at' tx sub sub.walk l c;if r.2=true then nx.walk l r.1 else r
theorem jr:∀(t:NT)(l c:Nat),c≤64→(t.walk l c).1≤65∧((t.walk l c).2=true→(t.walk l c).1≤64)
 |nil,_,c,h=>⟨by simp[walk];omega,fun _=>h⟩
 |cons k tg ky at' tx _ _ sub nx,l,c,h=>by
  have q:(node k tg ky at' tx sub sub.walk l c).1≤65∧((node k tg ky at' tx sub sub.walk l c).2=true→(node k tg ky at' tx sub sub.walk l c).1≤64):=by unfold node;split;grind;rename_i x;exact jr sub (l+1) (c+1) oM
  simp only[walk];split;rename_i x;exact jr nx l _ (q.2 x);exact q
theorem node_le(k:Nat)(tg ky:Str)(at':List (Str×Str))(tx:Str)(sub:NT)(l c:Nat)(h:c<=64):(node k tg ky at' tx sub sub.walk l c).1<=65/\((node k tg ky at' tx sub sub.walk l c).2=true->(node k tg ky at' tx sub sub.walk l c).1<=64):=by unfold node;split;grind;exact jr sub (l+1) (c+1) oM
end NT
structure Ms(h0 h:Heap)(bc bd bw:Nat)(c d:Nat):Prop where
 f:Fr [] h0 h
 oc:Own h bc [ZZ (c:Int)]
 od:Own h bd [ZZ (d:Int)]
 ow:Own h bw [.func (.func 252) [] [.ptr bc 0,.ptr bd 0,.ptr bw 0]]
 dl:d<=7
structure MsB(h0:Heap)(bc bd bw:Nat):Prop where
 w:WF h0
 c:h0.next<=bc
 d:h0.next<=bd
 b:h0.next<=bw
 cd:bc≠bd
 cw:bc≠bw
 dw:bd≠bw
theorem Ms.fr{h0 h:Heap}{bc bd bw c d:Nat}(m:Ms h0 h bc bd bw c d)(f:Fr [] h h'):Ms h0 h' bc bd bw c d:=⟨m.f.then f,f.get m.oc,f.get m.od,f.get m.ow,m.dl⟩
def HE(h0:Heap)(k:Nat)(tg ky:Str)(at':List (Str×Str))(tx:Str)(va vc:V)(sub:NT):Prop:=
 ∀(h:Heap)(b o bc bd bw l c d:Nat),MsB h0 bc bd bw->Ms h0 h bc bd bw c d->(∀h',Fr [] h0 h'->At6 h' b o (ZY (k:Int)) (.str tg) (.str ky) va (.str tx) vc)->l<=7->c<=64->
  ao go 252 [.ptr b o,ZZ (l:Int),.ptr bc 0,.ptr bd 0,.ptr bw 0] h fun u h'=>u=.bool (NT.node k tg ky at' tx sub sub.walk l c).2/\∃d',Ms h0 h' bc bd bw (NT.node k tg ky at' tx sub sub.walk l c).1 d'
def AllE(h0:Heap):NT->Prop
 |.nil=>True
 |.cons k tg ky at' tx va vc sub nx=>HE h0 k tg ky at' tx va vc sub/\AllE h0 nx
theorem AllE.at'{h:Heap}:∀{t:NT}(i:Nat),AllE h t->AllE h (t.at' i)
 |.nil,0,_=>trivial
 |.nil,_+1,_=>trivial
 |.cons _ _ _ _ _ _ _ _ _,0,a=>a
 |.cons _ _ _ _ _ _ _ _ _,i+1,⟨_,g⟩=>AllE.at' i g
theorem IK{h0:Heap}{k:Nat}{tg ky:Str}{at':List (Str×Str)}{tx:Str}{sub:NT}
 (ra:Recs fY 2 h0 va at') (na:at'.length<=4096) (rc:Sl h0 6 vc sub.len sub.cells) (nc:sub.len<=4096) (ns:NH h0 sub) (A:AllE h0 sub):HE h0 k tg ky at' tx va vc sub:=by
 intro h b o bc bd bw l c d B M hA hl hc;have lc:ab h bc 0=some (ZZ (c:Int)):=M.oc.ld1 0;refine ag ?_;simp(disch:=omega) only[evs,seval,ah,lc];refine stu M.f.wf M.oc ?_;rintro h1 o1 F1 n1;have ax:Own h1 bd [ZZ (d:Int)]:=F1.own _ _ (eV B.cd.symm) M.od;have ld:ab h1 bd 0=some (ZZ (d:Int)):=ax.ld1 0;simp only[evs,seval,ld];have dl:=M.dl;refine ai (c':=[ZZ ((max d l:Nat):Int)]) F1.wf ax rfl rfl (by rw[(oM:((max d l:Nat):Int)=max (d:Int) (l:Int))];rfl) ?_;rintro h2 o2 F2 n2;have M2:Ms h0 h2 bc bd bw (c+1) (max d l):=by refine⟨?_,F2.own _ _ (eV B.cd) o1,o2,F2.own _ _ (eV B.dw.symm) (F1.own _ _ (eV B.cw.symm) M.ow),oM⟩;exact Sj (Sj M.f F1 B.w (fun x Z=>.inl Z) (fun x Z=>.inr (by simp at Z;subst Z;exact B.c))) F2 B.w (fun x Z=>.inl Z) (fun x Z=>.inr (by simp at Z;subst Z;exact B.d))
 have ar:ab h2 bc 0=some (ZZ ((c+1:Nat):Int)):=M2.oc.ld1 0;by_cases c1:6<l;have e:NT.node k tg ky at' tx sub sub.walk l c=(c+1,false):=if_pos (.inl c1);simp only[evs,seval,(oM:(6:Int)<(l:Int))];rw[e];exact⟨rfl,_,M2⟩;by_cases c2:64<c+1;have e:NT.node k tg ky at' tx sub sub.walk l c=(c+1,false):=if_pos (.inr (.inl c2));simp only[evs,seval,(oM:¬(6:Int)<(l:Int)),ar,(oM:(64:Int)<((c+1:Nat):Int))];rw[e];exact⟨rfl,_,M2⟩;simp only[evs,seval,(oM:¬(6:Int)<(l:Int)),ar,(oM:¬(64:Int)<((c+1:Nat):Int))];apply aa (Gu M2.f.wf (fun h' f=>hA h' (M2.f.then f)) (ra.fr M2.f) na (rc.fr M2.f) nc ns.ones);rintro _ h3 ⟨rfl,F3⟩;have M3:=M2.fr F3;cases c3:ij k tg ky at' tx sub;have e:NT.node k tg ky at' tx sub sub.walk l c=(c+1,false):=if_pos (.inr (.inr c3));simp only[evs,seval];rw[e];exact⟨rfl,_,M3⟩;have e:NT.node k tg ky at' tx sub sub.walk l c=sub.walk (l+1) (c+1):=if_neg (by simp[c3];omega);rw[e];have q5:=(hA h3 M3.f).2.2.2.2.2.1;simp only[evs,seval,q5,(rc.fr M3.f).len];refine aC (fun n env hh=>∃(i c' d':Nat),Ms h0 hh bc bd bw c' d'/\env.get 30=some (ZZ i)/\env.get 29=some (ZZ sub.len)/\env.get 0=some (.ptr b o)/\env.get 1=some (ZZ l)/\env.get 4=some (.ptr bw 0)/\
  i<=sub.len/\c'<=64/\(sub.at' i).walk (l+1) c'=sub.walk (l+1) (c+1)/\n=sub.len-i) sub.len oM ?_ ?_
 exact⟨0,c+1,max d l,M3,iS,iS,iS,iS,iS,oM,oM,by cases sub<;>rfl,rfl⟩;rintro n env hh ⟨i,c',d',M',af,a0,g0,g1,g4,hi,az,K,rfl⟩;by_cases an:i<sub.len;let⟨kd,ak,ae,ay,ac,a2,a3,sb,nx,e1,e2,e3,e4,e5,e6⟩:=sub.split i an;have a1:(i:Int)<sub.len:=oM;have a:=A.at' i;rw[e1]at a K;let⟨b',o',p1,_⟩:=(rc.fr M'.f).ix6 an e2;have a4:∀h',Fr [] h0 h'->At6 h' b' o' (ZY (kd:Int)) (.str ak) (.str ae) a2 (.str ac) a3:=fun h' f=>by let⟨b2,o2,aH,p2'⟩:=(rc.fr f).ix6 an e2;rw[p1]at aH;cases aH;exact p2'
 have q5:=(hA hh M'.f).2.2.2.2.2.1;have lw:ab hh bw 0=some (.func (.func 252) [] [.ptr bc 0,.ptr bd 0,.ptr bw 0]):=M'.ow.ld1 0;simp(disch:=omega) only[evs,seval,eff,ah,af,a0,g0,g1,g4,a1,lw,q5,p1];apply aa (a.1 hh b' o' bc bd bw (l+1) c' d' B M' a4 oM az);rintro _ h4 ⟨rfl,d4,M4⟩;simp only[NT.walk]at K;have nl:=NT.node_le kd ak ae ay ac sb (l+1) c' az;cases c4:(NT.node kd ak ae ay ac sb sb.walk (l+1) c').2;rw[c4]at K;simp only[evs,seval,DF,eff,g4,lw,q5];rw[<-K];exact⟨by simp[c4],d4,by simpa using M4⟩;rw[c4]at K;simp(disch:=omega) only[evs,seval,DF,eff,ah,af,g4,lw,q5];refine rqn ⟨sub.len-(i+1),oM,i+1,_,d4,M4,iS,iX,iX,iX,iX,oM,nl.2 c4,?_,rfl⟩;rw[e3];simpa using K;simp only[evs,seval,af,a0,(oM:¬(i:Int)<sub.len)];rw[NT.at_end _ _ oM]at K;rw[<-K];exact⟨rfl,d',M'⟩
theorem KB{h:Heap}:∀{t:NT},NH h t->AllE h t
 |.nil,_=>trivial
 |.cons _ _ _ _ _ _ _ _ _,⟨_,b,c,d,e,f,g⟩=>⟨IK b c d e f (KB f),KB g⟩
def NT.count(k:Nat)(tg ky:Str)(at':List (Str×Str))(tx:Str)(sub:NT):Nat:=
 if(node k tg ky at' tx sub sub.walk 1 0).2=true then(node k tg ky at' tx sub sub.walk 1 0).1 else 0
theorem An{h:Heap}{k:Nat}{tg ky:Str}{at':List (Str×Str)}{tx:Str}{sub:NT}(w:WF h)(n:NH h (.cons k tg ky at' tx va vc sub .nil)):
 ao go 203 [.agg [ZY (k:Int),.str tg,.str ky,va,.str tx,vc]] h fun u h'=>∃d:Nat,u=.tup [ZZ (NT.count k tg ky at' tx sub:Nat),ZZ (d:Int)]/\Fr [] h h':=by
 let⟨Z,e_h1,F_h1,o_h1⟩:=aq w [ZY (k:Int),.str tg,.str ky,va,.str tx,vc];let⟨h2,e_h2,F_h2,o_h2⟩:=aq F_h1.wf [ZZ 0];let⟨h3,e_h3,F_h3,o_h3⟩:=aq F_h2.wf [ZZ 0];let⟨h4,e_h4,F_h4,o_h4⟩:=aq F_h3.wf [.nilf];have n1:=hnx e_h1;have n2:=hnx e_h2;have n3:=hnx e_h3;refine ag ?_;simp only[evs,seval,<-e_h1,<-e_h2,<-e_h3,<-e_h4];refine stu F_h4.wf o_h4 ?_;rintro h5 o5 F5 n5;have ae:Fr [] Z h5:=TL F_h1.wf (F_h2.then (F_h3.then F_h4)) F5 oO;have ob:=ae.get o_h1;have B:MsB Z Z.next h2.next h3.next:=⟨F_h1.wf,RW _,oM,oM,oM,oM,oM⟩;have M:Ms Z h5 Z.next h2.next h3.next 0 0:=⟨ae,F5.own _ _ oO (F_h4.get (F_h3.get o_h2)),F5.own _ _ oO (F_h4.get o_h3),o5,oM⟩;have lw:ab h5 h3.next 0=some (.func (.func 252) [] [.ptr Z.next 0,.ptr h2.next 0,.ptr h3.next 0]):=o5.ld1 0;have A:=(KB (n.fr F_h1)).1;simp only[evs,seval,lw];apply aa (A h5 h.next 0 Z.next h2.next h3.next 1 0 0 B M (fun h' f=>(f.get o_h1).at6) oM oM);rintro _ h6 ⟨rfl,d,K⟩;unfold NT.count;cases c:(NT.node k tg ky at' tx sub sub.walk 1 0).2;simp only[evs,seval];apply stu K.f.wf K.oc;rintro h7 o7 F7 n7;have ac:=F7.own _ _ oO K.od;simp only[evs,seval];apply stu F7.wf ac;rintro h8 o8 F8 n8;have a7:ab h8 Z.next 0=some (ZZ 0):=(F8.own _ _ oO o7).ld1 0;have a8:ab h8 h2.next 0=some (ZZ 0):=o8.ld1 0;simp only[evs,seval,a7,a8];refine⟨0,iS,?_⟩;exact TL w F_h1 (Sj (T:=[Z.next,h2.next]) (Sj (T:=[Z.next,h2.next]) K.f F7 F_h1.wf iS iS) F8 F_h1.wf iS iS) oO;have lc:ab h6 Z.next 0=some (ZZ ((NT.node k tg ky at' tx sub sub.walk 1 0).1:Int)):=K.oc.ld1 0;have ld:ab h6 h2.next 0=some (ZZ (d:Int)):=K.od.ld1 0;simp only[evs,seval,eff,lc,ld];apply stu K.f.wf K.oc;rintro h7 o7 F7 n7;have ac:=F7.own _ _ oO K.od;have af:ab h7 h2.next 0=some (ZZ (d:Int)):=ac.ld1 0;simp only[evs,seval,eff];apply stu F7.wf ac;rintro h8 o8 F8 n8;have a7:ab h8 Z.next 0=some (ZZ ((NT.node k tg ky at' tx sub sub.walk 1 0).1:Int)):=(F8.own _ _ oO o7).ld1 0;have a8:ab h8 h2.next 0=some (ZZ (d:Int)):=o8.ld1 0;simp only[evs,seval,DF,lc,ld,af,a7,a8];refine⟨d,iS,?_⟩;exact TL w F_h1 (Sj (T:=[Z.next,h2.next]) (Sj (T:=[Z.next,h2.next]) K.f F7 F_h1.wf iS iS) F8 F_h1.wf iS iS) oO
theorem pK{h:Heap}{k:Nat}{tg ky:Str}{at':List (Str×Str)}{tx:Str}{sub:NT}(w:WF h)(n:NH h (.cons k tg ky at' tx va vc sub .nil)):
 ao go 142 [.agg [ZY (k:Int),.str tg,.str ky,va,.str tx,vc]] h fun u h'=>u=ZZ (NT.count k tg ky at' tx sub:Nat)/\Fr [] h h':=by
 let⟨h1,e_h1,F_h1,o_h1⟩:=aq w [ZY (k:Int),.str tg,.str ky,va,.str tx,vc];refine ag ?_;simp only[evs,seval,<-e_h1,o_h1.at6.2.2.2.2.2.2];refine aa (An F_h1.wf (n.fr F_h1)) ?_;rintro _ K ⟨d,rfl,Z⟩;simp only[evs,seval];exact F_h1.then Z
theorem uP{h:Heap}{k:Nat}{tg ky:Str}{at':List (Str×Str)}{tx:Str}{sub:NT}(w:WF h)(n:NH h (.cons k tg ky at' tx va vc sub .nil)):
 ao go 74 [.agg [ZY (k:Int),.str tg,.str ky,va,.str tx,vc]] h fun u h'=>u=ZZ (if NT.count k tg ky at' tx sub=0 then 14 else 0)/\Fr [] h h':=by
 let⟨h1,e_h1,F_h1,o_h1⟩:=aq w [ZY (k:Int),.str tg,.str ky,va,.str tx,vc];by_cases c:NT.count k tg ky at' tx sub=0;refine ag ?_;simp only[evs,seval,<-e_h1,o_h1.at6.2.2.2.2.2.2];refine aa (pK F_h1.wf (n.fr F_h1)) ?_;rintro _ K ⟨rfl,Z⟩;simp only[evs,seval,(oM:((NT.count k tg ky at' tx sub:Nat):Int)=0)];exact⟨by rw[if_pos c],F_h1.then Z⟩;refine ag ?_;simp only[evs,seval,<-e_h1,o_h1.at6.2.2.2.2.2.2];refine aa (pK F_h1.wf (n.fr F_h1)) ?_;rintro _ K ⟨rfl,Z⟩;simp only[evs,seval,(oM:¬((NT.count k tg ky at' tx sub:Nat):Int)=0)];exact⟨by rw[if_neg c],F_h1.then Z⟩
theorem AG(z:Str):NT.count 1 z [] [] [] .nil=if okN z then 1 else 0:=by
 have a:ij 1 z [] [] [] .nil=okN z:=by simp[ij,dO,gq,NT.keys,NT.len]
 have e:NT.node 1 z [] [] [] .nil NT.nil.walk 1 0=(1,okN z):=by unfold NT.node;rw[a];cases okN z<;>rfl
 unfold NT.count;rw[e]
theorem AF(z:Str):NT.count 2 [] [] [] z .nil=if okT z then 1 else 0:=by
 have a:ij 2 [] [] [] z .nil=okT z:=by simp[ij,NT.len]
 have e:NT.node 2 [] [] [] z .nil NT.nil.walk 1 0=(1,okT z):=by unfold NT.node;rw[a];cases okT z<;>rfl
 unfold NT.count;rw[e]
theorem li{h:Heap}(k:Nat)(hk:k<256)(tg tx:Str):NH h (.cons k tg [] [] tx .nils .nils .nil .nil):=⟨hk,VL,iS,⟨rfl,rfl⟩,by simp[NT.len],trivial,trivial⟩
theorem gF{h:Heap}{z:Str}(w:WF h):ao go 248 [.str z] h fun u h'=>u=.bool (okN z)/\Fr [] h h':=by refine ag ?_;simp only[evs,↓reduceIte,Nat.reduceEqDiff];refine aa (uP (at':=[]) (sub:=.nil) w (li 1 oM z [])) ?_;rintro _ Z ⟨rfl,F⟩;rw[AG];cases okN z;simp only[evs,↓reduceIte];exact⟨rfl,F⟩;simp only[evs,↓reduceIte];exact F
theorem pu{h:Heap}{z:Str}(w:WF h):ao go 246 [.str z] h fun u h'=>u=.bool (okT z)/\Fr [] h h':=by refine ag ?_;simp only[evs,↓reduceIte,Nat.reduceEqDiff];refine aa (uP (at':=[]) (sub:=.nil) w (li 2 oM [] z)) ?_;rintro _ Z ⟨rfl,F⟩;rw[AF];cases okT z;simp only[evs,↓reduceIte];exact⟨rfl,F⟩;simp only[evs,↓reduceIte];exact F
abbrev Slo:=Str×Nat×Str
def tR(s:Slo):List V:=[.str s.1,ZY (s.2.1:Int),.str s.2.2]
theorem fT(s:Slo):(tR s).length=3:=rfl
def ip(p:Option Str)(s:Slo):Bool:=okN s.1&&(decide (s.2.1<=3)&&(okT s.2.2&&((decide (s.2.1=0)||s.2.2==[])&&cM p s.1)))
def eO:Option Str->List Slo->Bool
 |_,[]=>true
 |p,s::r=>ip p s&&eO (some s.1) r
theorem jV(p:Option Str)(s:Slo)(r:List Slo):eO p (s::r)=(ip p s&&eO (some s.1) r):=rfl
def dC(at':List Slo)(i:Nat):Option Str:=if i=0 then none else(at'[i-1]?).map (·.1)
theorem rQ{at':List Slo}{i:Nat}{a:Slo}(h:at'[i]? =some a):dC at' (i+1)=some a.1:=by simp[dC,h]
def cH(l:List Slo):Bool:=decide (l.length<=8)&&eO none l
theorem rB{h:Heap}{v:V}{l:List Slo}(w:WF h)(ra:Recs tR 3 h v l)(na:l.length≤4096):ao go 283 [v] h fun u h'=>u=.bool (cH l)∧Fr [] h h':=by
 by_cases c8:l.length≤8
 ·refine ag ?_;simp only[evs,seval,ra.len,(oM:¬(8:Int)<(l.length:Nat))];refine aC (fun n env hh=>Fr [] h hh∧∃(i:Nat),env.get 10=some (.int .i64 i)∧env.get 9=some (.int .i64 l.length)∧env.get 8=some v∧env.get 0=some v∧
   i≤l.length∧eO (dC l i) (l.drop i)=eO none l∧n=l.length-i) l.length oM ?_ ?_
  ·exact⟨Fr.refl w,0,iS,iS,iS,iS,oM,rfl,rfl⟩
  ·rintro n env hh ⟨F,i,g103,g102,g101,g0,hi,e,rfl⟩;by_cases hlt:i<l.length
   ·have hlt':(i:Int)<l.length:=oM
    let⟨b',o',a,p1,p2,p3,p4⟩:=(ra.fr F).ix fT .i64 (i:Int) oM hlt';rw[Int.toNat_natCast]at p4;rw[aK p4,jV]at e;have en:=rQ p4;have bad:∀{h'},Fr [] h h'→ip (dC l i) a=false→V.bool false=.bool (cH l)∧Fr [] h h':=fun f c=>by
     rw[c]at e;exact⟨by simp[cH,←e],f⟩
    let⟨h1,e_h1,F_h1,o_h1⟩:=aq F.wf [.str [],.int .u8 0,.str []];simp only[evs,seval,g103,g102,g101,hlt',p1,p3,←e_h1];refine stu F_h1.wf o_h1 ?_;rintro h2 o2 F2 n2;have F02:Fr [] hh h2:=F_h1.fresh F2 F.wf (Nat.le_refl _);have q0:ab h2 hh.next 0=some (.str a.1):=o2.ld1 0;simp only[evs,seval,eff,q0];refine aa (gF F02.wf) ?_;rintro _ h3 ⟨rfl,F3⟩;have F03:=(F.then F02).then F3;have r1:ab h3 hh.next 1=some (.int .u8 (a.2.1:Int)):=(F3.get o2).ld1 1;have r2:ab h3 hh.next 2=some (.str a.2.2):=(F3.get o2).ld1 2;cases c1:okN a.1
    ·simp only[evs,seval,DF,eff,q0];exact bad F03 (by simp[ip,c1])
    by_cases c2:3<a.2.1
    ·simp only[evs,seval,DF,eff,q0,r1,(oM:(3:Int)<(a.2.1:Nat))];exact bad F03 (by simp[ip];omega)
    have c2':¬(3:Int)<(a.2.1:Nat):=oM
    simp only[evs,seval,eff,r1,c2',r2];refine aa (pu F3.wf) ?_;rintro _ h4 ⟨rfl,F4⟩;have F04:=F03.then F4;have o4:=F4.get (F3.get o2);have s0:ab h4 hh.next 0=some (.str a.1):=o4.ld1 0;have s1:ab h4 hh.next 1=some (.int .u8 (a.2.1:Int)):=o4.ld1 1;have s2:ab h4 hh.next 2=some (.str a.2.2):=o4.ld1 2;cases c3:okT a.2.2
    ·simp only[evs,seval,DF,eff,q0,r1,r2];exact bad F04 (by simp[ip,c3])
    have fin:(decide (a.2.1=0)||a.2.2==[])=true→cM (dC l i) a.1=true→eO (dC l (i+1)) (l.drop (i+1))=eO none l:=fun x y=>by
     have z:ip (dC l i) a=true:=by
      unfold ip;rw[c1,c3,x,y,(oO:decide (a.2.1≤3)=true)];rfl
     rw[z,Bool.true_and]at e;rw[en];exact e
    by_cases cf:a.2.1=0
    ·by_cases c4:i=0
     ·simp(disch:=omega) only[evs,seval,DF,eff,ah,g103,q0,r1,r2,s1,(oM:¬(0:Int)<(a.2.1:Nat)),(oM:¬(0:Int)<(i:Int))];refine rqn ⟨l.length-(i+1),oM,F04,i+1,iS,iX,iX,iX,oM,fin iX (by simp[dC,c4,cM]),rfl⟩
      done
     ·let⟨b2,o2',a2,t1,t2,t3,t4⟩:=(ra.fr F04).ix fT .i64 ((i:Int)-1) oM oM;have t4':l[i-1]? =some a2:=by rw[←t4];congr 1;omega
      have t2':ab h4 b2 o2'=some (.str a2.1):=t2 0 oM;have pe:dC l i=some a2.1:=by simp[dC,c4,t4']
      cases c5:leS a.1 a2.1
      ·simp(disch:=omega) only[evs,seval,DF,eff,ah,g103,g0,q0,r1,r2,s0,s1,(oM:¬(0:Int)<(a.2.1:Nat)),c5,t1,t2',lP,(oM:(0:Int)<(i:Int))];refine rqn ⟨l.length-(i+1),oM,F04,i+1,iS,iX,iX,iX,oM,fin iX (by rw[pe];simp[cM,c5]),rfl⟩
       done
      ·simp(disch:=omega) only[evs,seval,DF,eff,ah,g0,q0,r1,r2,s0,s1,(oM:¬(0:Int)<(a.2.1:Nat)),c5,t1,t2',lP,(oM:(0:Int)<(i:Int))];exact bad F04 (by simp[ip,pe,cM,c5])
    ·cases cv:a.2.2==[]
     ·simp only[evs,seval,DF,eff,q0,r1,r2,s1,s2,(oM:(0:Int)<(a.2.1:Nat)),aY,cv];exact bad F04 (by simp[ip,cf,cv])
     ·by_cases c4:i=0
      ·simp(disch:=omega) only[evs,seval,DF,eff,ah,g103,q0,r1,r2,s1,s2,(oM:(0:Int)<(a.2.1:Nat)),aY,cv,(oM:¬(0:Int)<(i:Int))];refine rqn ⟨l.length-(i+1),oM,F04,i+1,iS,iX,iX,iX,oM,fin iX (by simp[dC,c4,cM]),rfl⟩
       done
      ·let⟨b2,o2',a2,t1,t2,t3,t4⟩:=(ra.fr F04).ix fT .i64 ((i:Int)-1) oM oM;have t4':l[i-1]? =some a2:=by rw[←t4];congr 1;omega
       have t2':ab h4 b2 o2'=some (.str a2.1):=t2 0 oM;have pe:dC l i=some a2.1:=by simp[dC,c4,t4']
       cases c5:leS a.1 a2.1
       ·simp(disch:=omega) only[evs,seval,DF,eff,ah,g103,g0,q0,r1,r2,s0,s1,s2,(oM:(0:Int)<(a.2.1:Nat)),aY,cv,c5,t1,t2',lP,(oM:(0:Int)<(i:Int))];refine rqn ⟨l.length-(i+1),oM,F04,i+1,iS,iX,iX,iX,oM,fin iX (by rw[pe];simp[cM,c5]),rfl⟩
        done
       ·simp(disch:=omega) only[evs,seval,DF,eff,ah,g0,q0,r1,r2,s0,s1,s2,(oM:(0:Int)<(a.2.1:Nat)),aY,cv,c5,t1,t2',lP,(oM:(0:Int)<(i:Int))];exact bad F04 (by simp[ip,pe,cM,c5])
   ·simp only[evs,seval,g103,g102,(oM:¬(i:Int)<l.length)];rw[List.drop_of_length_le oM]at e;exact⟨by simp[cH,c8,←e,eO],F⟩
 ·refine ag ?_;simp only[evs,seval,ra.len,(oM:(8:Int)<(l.length:Nat))];exact⟨by simp[cH,c8],Fr.refl w⟩
set_option maxRecDepth 4000
inductive PT where
 |nil
 |cons (kind:Nat) (tag key:Str) (slots:List Slo) (text:Str) (va vc:V) (sub next:PT)
namespace PT
def len:PT->Nat
 |nil=>0
 |cons _ _ _ _ _ _ _ _ nx=>nx.len+1
def cells:PT->List V
 |nil=>[]
 |cons k tg ky _ tx va vc _ nx=>[ ZY (k:Int),.str tg,.str ky,va,.str tx,vc]++nx.cells
def keys:PT->List Str
 |nil=>[]
 |cons _ _ ky _ _ _ _ _ nx=>ky::nx.keys
theorem cells_len:∀t:PT,t.cells.length=t.len*6
 |nil=>rfl
 |cons _ _ _ _ _ _ _ _ nx=>by simp[cells,len,cells_len nx];omega
theorem keys_len:∀t:PT,t.keys.length=t.len
 |nil=>rfl
 |cons _ _ _ _ _ _ _ _ nx=>by simp[keys,len,keys_len nx]
def at':PT->Nat->PT
 |t,0=>t
 |nil,_+1=>nil
 |cons _ _ _ _ _ _ _ _ nx,i+1=>nx.at' i
end PT
def PH(h:Heap):PT->Prop
 |.nil=>True
 |.cons k _ _ at' _ va vc sub nx=>k<256/\Recs tR 3 h va at'/\at'.length<=4096/\Sl h 6 vc sub.len sub.cells/\sub.len<=4096/\PH h sub/\PH h nx
theorem PH.fr{h:Heap}(f:Fr [] h h'):∀{t:PT},PH h t->PH h' t
 |.nil,_=>trivial
 |.cons _ _ _ _ _ _ _ _ _,⟨a,b,c,d,e,g,i⟩=>⟨a,b.fr f,c,d.fr f,e,PH.fr f g,PH.fr f i⟩
namespace PT
theorem split:∀(t:PT)(i:Nat),i<t.len→∃k tg ky at' tx va vc sub nx,t.at' i=.cons k tg ky at' tx va vc sub nx∧t.cells.drop (i*6)=[.int .u8 ((k:Nat):Int),.str tg,.str ky,va,.str tx,vc]++nx.cells∧t.at' (i+1)=nx∧t.keys.drop i=ky::nx.keys∧t.keys[i]? =some ky∧nx.len+(i+1)=t.len
 |.nil,_,h=>by cases h
 |.cons k tg ky at' tx va vc sub nx,0,_=>⟨k,tg,ky,at',tx,va,vc,sub,nx,rfl,rfl,by cases nx<;>rfl,rfl,rfl,rfl⟩
 |.cons _ _ _ _ _ _ _ _ nx,i+1,h=>by let⟨k,tg,ky,at',tx,va,vc,sub,n,e1,e2,e3,e4,e5,e6⟩:=split nx i (by simp[len]at h;omega);refine⟨k,tg,ky,at',tx,va,vc,sub,n,e1,?_,e3,e4,?_,by simp only[len];omega⟩;rw[(oM:(i+1) *6=6+i*6),←List.drop_drop];exact e2;simpa[keys]using e5
theorem at_end:∀(t:PT)(i:Nat),t.len<=i->t.at' i=.nil
 |.nil,0,_=>rfl
 |.nil,_+1,_=>rfl
 |.cons _ _ _ _ _ _ _ _ nx,0,h=>by simp[len]at h
 |.cons _ _ _ _ _ _ _ _ nx,i+1,h=>at_end nx i (by simp[len]at h;omega)
end PT
theorem PH.at'{h:Heap}:∀{t:PT}(i:Nat),PH h t->PH h (t.at' i)
 |.nil,0,_=>trivial
 |.nil,_+1,_=>trivial
 |.cons _ _ _ _ _ _ _ _ _,0,a=>a
 |.cons _ _ _ _ _ _ _ _ _,i+1,⟨_,_,_,_,_,_,g⟩=>PH.at' i g
def dV(k:Nat)(tg ky:Str)(sl:List Slo)(tx:Str)(n:Nat):Bool:=
 if k=1 then(ky==[]||okN ky)&&(decide (n<=16)&&(okN tg&&(cH sl&&tx==[])))
 else if k=5 then okN tg&&(cH sl&&(ky==[]&&(tx==[]&&decide (n=0))))
 else if k=2 then okT tx&&(tg==[]&&(ky==[]&&(decide (sl.length=0)&&decide (n=0))))
 else if k=3\/k=4 then tg==[]&&(ky==[]&&(tx==[]&&(decide (sl.length=0)&&decide (n=0))))
 else false
theorem PH.ones{h:Heap}:∀{t:PT},PH h t->au t.cells=true
 |.nil,_=>rfl
 |.cons k tg ky _ tx va vc _ nx,⟨_,b,_,d,_,_,g⟩=>by show au ([ ZY (k:Int),.str tg,.str ky,va,.str tx,vc]++nx.cells)=true;rw[aL,PH.ones g];simp only[av,aB,TI b,TI d];rfl
namespace PT
def node(k:Nat)(tg ky:Str)(at':List Slo)(tx:Str)(sub:PT)(w:Nat->Nat->Nat×Bool)(l c:Nat):Nat×Bool:=
 if 6<l\/64<c+1\/dV k tg ky at' tx sub.len=false then(c+1,false)else w (l+1) (c+1)
def walk:PT->Nat->Nat->Nat×Bool
 |nil,_,c=>(c,true)
 |cons k tg ky at' tx _ _ sub nx,l,c=>let r:=node k tg ky at' tx sub sub.walk l c;if r.2=true then nx.walk l r.1 else r
theorem jr:∀(t:PT)(l c:Nat),c≤64→(t.walk l c).1≤65∧((t.walk l c).2=true→(t.walk l c).1≤64)
 |nil,_,c,h=>⟨by simp[walk];omega,fun _=>h⟩
 |cons k tg ky at' tx _ _ sub nx,l,c,h=>by
  have q:(node k tg ky at' tx sub sub.walk l c).1≤65∧((node k tg ky at' tx sub sub.walk l c).2=true→(node k tg ky at' tx sub sub.walk l c).1≤64):=by unfold node;split;grind;rename_i x;exact jr sub (l+1) (c+1) oM
  simp only[walk];split;rename_i x;exact jr nx l _ (q.2 x);exact q
theorem node_le(k:Nat)(tg ky:Str)(at':List Slo)(tx:Str)(sub:PT)(l c:Nat)(h:c<=64):(node k tg ky at' tx sub sub.walk l c).1<=65/\((node k tg ky at' tx sub sub.walk l c).2=true->(node k tg ky at' tx sub sub.walk l c).1<=64):=by unfold node;split;grind;exact jr sub (l+1) (c+1) oM
end PT
set_option maxRecDepth 4000
theorem CD{h:Heap}{b o k:Nat}{tg ky tx:Str}{sl:List Slo}{sub:PT}(w:WF h)(hA:∀h',Fr [] h h'->At6 h' b o (ZY (k:Int)) (.str tg) (.str ky) va (.str tx) vc)
 (ra:Recs tR 3 h va sl) (na:sl.length<=4096) (rc:Sl h 6 vc sub.len sub.cells) (nc:sub.len<=4096):
 ao go 261 [.ptr b o] h fun u h'=>u=.bool (dV k tg ky sl tx sub.len)/\Fr [] h h':=by
 have q:=hA h (Sn w);have ax:=TI ra;have ay:=rc.one;let⟨h1,e_h1,F_h1,o_h1⟩:=aq w [ZY 0,.str [],.str [],.nils,.str [],.nils];refine ag ?_;simp only[evs,seval,<-e_h1,q.2.2.2.2.2.2];refine ai (c':=[ZY (k:Int),.str tg,.str ky,va,.str tx,vc]) F_h1.wf o_h1 rfl (by simp only[V.cells,av,aB,ax,ay];rfl) rfl ?_;rintro h2 o2 F2 n2;have K:Fr [] h h2:=F_h1.fresh F2 w (RW _);let⟨q0,q1,q2,q3,q4,q5,_⟩:=hA h2 K;have l3:aP .lenS [va]=some (ZZ (sl.length:Nat)):=ra.len;have l5:aP .lenS [vc]=some (ZZ (sub.len:Nat)):=rc.len;have s1:ab h2 h.next 1=some (.str tg):=o2.ld1 1;have s2:ab h2 h.next 2=some (.str ky):=o2.ld1 2;have s3:ab h2 h.next 3=some va:=o2.ld1 3;have s4:ab h2 h.next 4=some (.str tx):=o2.ld1 4;have s5:ab h2 h.next 5=some vc:=o2.ld1 5;unfold dV;by_cases k1:k=1;rw[if_pos k1];cases ck:ky==[];simp only[evs,seval,q0,(oM:(k:Int)=1),q2,aY,ck];apply aa (gF F2.wf);rintro _ h3 ⟨rfl,F3⟩;have ac:=K.then F3;cases cn:okN ky;simp only[evs,seval];exact⟨by simp[],ac⟩;have qp:=(hA h3 ac).2.2.2.2.2.1;by_cases ak:¬sub.len<=16;simp only[evs,seval,qp,l5,(oM:(16:Int)<(sub.len:Nat))];exact⟨by simp[ak],ac⟩;have cp:sub.len<=16:=oM;simp only[evs,seval,qp,l5,(oM:¬(16:Int)<(sub.len:Nat))];apply stu F3.wf (F3.get o2);rintro he oe Fe ne;simp only[evs,seval];apply stu Fe.wf oe;rintro hf of Ff nf;have Gf:Fr [] h hf:=(ac.fresh Fe w (RW _)).fresh Ff w (RW _);have qa:=(hA hf Gf).2.1;simp only[evs,seval,qa];apply aa (gF Gf.wf);rintro _ ha ⟨rfl,Fa⟩;have G1:=Gf.then Fa;have qb:=(hA ha G1).2.2.2.1;cases c1:okN tg;simp only[evs,seval];exact⟨by simp[cp],G1⟩;simp only[evs,seval,qb];apply aa (rB Fa.wf (ra.fr G1) na);rintro _ hb ⟨rfl,Fb⟩;have G2:=G1.then Fb;cases c2:cH sl;simp only[evs,seval];exact⟨by simp[cp],G2⟩;simp only[evs,seval];have oa:=Fb.get (Fa.get of);apply stu Fb.wf oa;rintro hc oc Fc an;simp only[evs,seval];apply stu Fc.wf oc;rintro hd od Fd nd;have Z:Fr [] h hd:=(G2.fresh Fc w (RW _)).fresh Fd w (RW _);have z1:ab hd h.next 1=some (.str []):=od.ld1 1;have z2:ab hd h.next 2=some (.str []):=od.ld1 2;have z3:ab hd h.next 3=some (.nils):=od.ld1 3;have z4:ab hd h.next 4=some (.str tx):=od.ld1 4;have z5:ab hd h.next 5=some (.nils):=od.ld1 5;cases tX:tx==[];simp only[evs,seval,z1,z2,z4,aN,(iR:(([]:Str)==[])=true),tX];exact⟨by simp[cp],Z⟩;simp only[evs,seval,z1,z2,z3,z4,z5,aN,(iR:(([]:Str)==[])=true),tX];exact⟨by simp[cp],Z⟩;have ac:=K;have qp:=(hA h2 K).2.2.2.2.2.1;by_cases ak:¬sub.len<=16;simp only[evs,seval,q0,(oM:(k:Int)=1),q2,aY,ck,qp,l5,(oM:(16:Int)<(sub.len:Nat))];exact⟨by simp[ak],K⟩;have cp:sub.len<=16:=oM;simp only[evs,seval,q0,(oM:(k:Int)=1),q2,aY,ck,qp,l5,(oM:¬(16:Int)<(sub.len:Nat))];apply stu F2.wf o2;rintro he oe Fe ne;simp only[evs,seval];apply stu Fe.wf oe;rintro hf of Ff nf;have Gf:Fr [] h hf:=(K.fresh Fe w (RW _)).fresh Ff w (RW _);have qa:=(hA hf Gf).2.1;simp only[evs,seval,qa];apply aa (gF Gf.wf);rintro _ ha ⟨rfl,Fa⟩;have G1:=Gf.then Fa;have qb:=(hA ha G1).2.2.2.1;cases c1:okN tg;simp only[evs,seval];exact⟨by simp[cp],G1⟩;simp only[evs,seval,qb];apply aa (rB Fa.wf (ra.fr G1) na);rintro _ hb ⟨rfl,Fb⟩;have G2:=G1.then Fb;cases c2:cH sl;simp only[evs,seval];exact⟨by simp[cp],G2⟩;simp only[evs,seval];have oa:=Fb.get (Fa.get of);apply stu Fb.wf oa;rintro hc oc Fc an;simp only[evs,seval];apply stu Fc.wf oc;rintro hd od Fd nd;have Z:Fr [] h hd:=(G2.fresh Fc w (RW _)).fresh Fd w (RW _);have z1:ab hd h.next 1=some (.str []):=od.ld1 1;have z2:ab hd h.next 2=some (.str []):=od.ld1 2;have z3:ab hd h.next 3=some (.nils):=od.ld1 3;have z4:ab hd h.next 4=some (.str tx):=od.ld1 4;have z5:ab hd h.next 5=some (.nils):=od.ld1 5;cases tX:tx==[];simp only[evs,seval,z1,z2,z4,aN,(iR:(([]:Str)==[])=true),tX];exact⟨by simp[cp],Z⟩;simp only[evs,seval,z1,z2,z3,z4,z5,aN,(iR:(([]:Str)==[])=true),tX];exact⟨by simp[cp],Z⟩;by_cases k5:k=5;rw[if_neg k1,if_pos k5];have qa:=(hA h2 K).2.1;simp only[evs,seval,q0,(oM:(k:Int)=5),qa];apply aa (gF K.wf);rintro _ ha ⟨rfl,Fa⟩;have G1:=K.then Fa;have qb:=(hA ha G1).2.2.2.1;cases c1:okN tg;simp only[evs,seval];exact⟨by simp[],G1⟩;simp only[evs,seval,qb];apply aa (rB Fa.wf (ra.fr G1) na);rintro _ hb ⟨rfl,Fb⟩;have G2:=G1.then Fb;cases c2:cH sl;simp only[evs,seval];exact⟨by simp[],G2⟩;simp only[evs,seval];have oa:=Fb.get (Fa.get o2);apply stu Fb.wf oa;rintro hc oc Fc an;simp only[evs,seval];apply stu Fc.wf oc;rintro hd od Fd nd;have Z:Fr [] h hd:=(G2.fresh Fc w (RW _)).fresh Fd w (RW _);have z1:ab hd h.next 1=some (.str []):=od.ld1 1;have z2:ab hd h.next 2=some (.str ky):=od.ld1 2;have z3:ab hd h.next 3=some (.nils):=od.ld1 3;have z4:ab hd h.next 4=some (.str tx):=od.ld1 4;have z5:ab hd h.next 5=some (vc):=od.ld1 5;cases tK:ky==[];simp only[evs,seval,z1,z2,aN,(iR:(([]:Str)==[])=true),tK];exact⟨by simp[],Z⟩;cases tX:tx==[];simp only[evs,seval,z1,z2,z4,aN,(iR:(([]:Str)==[])=true),tK,tX];exact⟨by simp[],Z⟩;by_cases ae:¬sub.len=0;simp only[evs,seval,z1,z2,z3,z4,z5,aN,(iR:(([]:Str)==[])=true),tK,tX,l5,(oM:¬((sub.len:Nat):Int)=0)];exact⟨by simp[ae],Z⟩;have tP:sub.len=0:=oM;simp only[evs,seval,z1,z2,z3,z4,z5,aN,(iR:(([]:Str)==[])=true),tK,tX,l5,(oM:((sub.len:Nat):Int)=0)];exact⟨by simp[tP],Z⟩;by_cases k2:k=2;rw[if_neg k1,if_neg k5,if_pos k2];simp only[evs,seval,q0,(oM:(k:Int)=2),q4];apply aa (pu F2.wf);rintro _ h3 ⟨rfl,F3⟩;have ac:=K.then F3;cases c1:okT tx;simp only[evs,seval];exact⟨iS,ac⟩;simp only[evs,seval];apply stu F3.wf (F3.get o2);rintro hd od Fd nd;have Z:Fr [] h hd:=ac.fresh Fd w (RW _);have z1:ab hd h.next 1=some (.str tg):=od.ld1 1;have z2:ab hd h.next 2=some (.str ky):=od.ld1 2;have z3:ab hd h.next 3=some (va):=od.ld1 3;have z4:ab hd h.next 4=some (.str []):=od.ld1 4;have z5:ab hd h.next 5=some (vc):=od.ld1 5;cases tT:tg==[];simp only[evs,seval,z1,aN,tT];exact⟨by simp[],Z⟩;cases tK:ky==[];simp only[evs,seval,z1,z2,aN,tT,tK];exact⟨by simp[],Z⟩;by_cases af:¬sl.length=0;simp only[evs,seval,z1,z2,z3,z4,aN,(iR:(([]:Str)==[])=true),tT,tK,l3,(oM:¬((sl.length:Nat):Int)=0)];exact⟨by simp[af],Z⟩;have tS:sl.length=0:=oM;by_cases ae:¬sub.len=0;simp only[evs,seval,z1,z2,z3,z4,z5,aN,(iR:(([]:Str)==[])=true),tT,tK,l3,(oM:((sl.length:Nat):Int)=0),l5,(oM:¬((sub.len:Nat):Int)=0)];exact⟨by simp[tS,ae],Z⟩;have tP:sub.len=0:=oM;simp only[evs,seval,z1,z2,z3,z4,z5,aN,(iR:(([]:Str)==[])=true),tT,tK,l3,(oM:((sl.length:Nat):Int)=0),l5,(oM:((sub.len:Nat):Int)=0)];exact⟨by simp[tS,tP],Z⟩;by_cases ar:k=3\/k=4;rw[if_neg k1,if_neg k5,if_neg k2,if_pos ar];by_cases k3:k=3;have Z:=K;cases tT:tg==[];simp only[evs,seval,q0,(oM:(k:Int)=3),s1,aN,tT];exact⟨by simp[],Z⟩;cases tK:ky==[];simp only[evs,seval,q0,(oM:(k:Int)=3),s1,s2,aN,tT,tK];exact⟨by simp[],Z⟩;cases tX:tx==[];simp only[evs,seval,q0,(oM:(k:Int)=3),s1,s2,s4,aN,tT,tK,tX];exact⟨by simp[],Z⟩;by_cases af:¬sl.length=0;simp only[evs,seval,q0,(oM:(k:Int)=3),s1,s2,s3,s4,aN,tT,tK,tX,l3,(oM:¬((sl.length:Nat):Int)=0)];exact⟨by simp[af],Z⟩;have tS:sl.length=0:=oM;by_cases ae:¬sub.len=0;simp only[evs,seval,q0,(oM:(k:Int)=3),s1,s2,s3,s4,s5,aN,tT,tK,tX,l3,(oM:((sl.length:Nat):Int)=0),l5,(oM:¬((sub.len:Nat):Int)=0)];exact⟨by simp[tS,ae],Z⟩;have tP:sub.len=0:=oM;simp only[evs,seval,q0,(oM:(k:Int)=3),s1,s2,s3,s4,s5,aN,tT,tK,tX,l3,(oM:((sl.length:Nat):Int)=0),l5,(oM:((sub.len:Nat):Int)=0)];exact⟨by simp[tS,tP],Z⟩;have Z:=K;cases tT:tg==[];simp only[evs,seval,q0,(oM:(k:Int)=4),s1,aN,tT];exact⟨by simp[],Z⟩;cases tK:ky==[];simp only[evs,seval,q0,(oM:(k:Int)=4),s1,s2,aN,tT,tK];exact⟨by simp[],Z⟩;cases tX:tx==[];simp only[evs,seval,q0,(oM:(k:Int)=4),s1,s2,s4,aN,tT,tK,tX];exact⟨by simp[],Z⟩;by_cases af:¬sl.length=0;simp only[evs,seval,q0,(oM:(k:Int)=4),s1,s2,s3,s4,aN,tT,tK,tX,l3,(oM:¬((sl.length:Nat):Int)=0)];exact⟨by simp[af],Z⟩;have tS:sl.length=0:=oM;by_cases ae:¬sub.len=0;simp only[evs,seval,q0,(oM:(k:Int)=4),s1,s2,s3,s4,s5,aN,tT,tK,tX,l3,(oM:((sl.length:Nat):Int)=0),l5,(oM:¬((sub.len:Nat):Int)=0)];exact⟨by simp[tS,ae],Z⟩;have tP:sub.len=0:=oM;simp only[evs,seval,q0,(oM:(k:Int)=4),s1,s2,s3,s4,s5,aN,tT,tK,tX,l3,(oM:((sl.length:Nat):Int)=0),l5,(oM:((sub.len:Nat):Int)=0)];exact⟨by simp[tS,tP],Z⟩;rw[if_neg k1,if_neg k5,if_neg k2,if_neg ar];simp only[evs,seval,q0,(oM:¬(k:Int)=1),(oM:¬(k:Int)=5),(oM:¬(k:Int)=2),(oM:¬(k:Int)=3),(oM:¬(k:Int)=4)];exact K
structure Tm(h0 h:Heap)(bc bf bw:Nat)(c:Nat):Prop where
 f:Fr [] h0 h
 oc:Own h bc [ZZ (c:Int)]
 od:Own h bf [.func (.func 222) [] []]
 ow:Own h bw [.func (.func 260) [] [.ptr bc 0,.ptr bf 0,.ptr bw 0]]
theorem Tm.fr{h0 h:Heap}{bc bf bw c:Nat}(m:Tm h0 h bc bf bw c)(f:Fr [] h h'):Tm h0 h' bc bf bw c:=⟨m.f.then f,f.get m.oc,f.get m.od,f.get m.ow⟩
def JS(h0:Heap)(k:Nat)(tg ky:Str)(at':List Slo)(tx:Str)(va vc:V)(sub:PT):Prop:=
 ∀(h:Heap)(b o bc bd bw l c:Nat),MsB h0 bc bd bw->Tm h0 h bc bd bw c->(∀h',Fr [] h0 h'->At6 h' b o (ZY (k:Int)) (.str tg) (.str ky) va (.str tx) vc)->l<=7->c<=64->
  ao go 260 [.ptr b o,ZZ (l:Int),.ptr bc 0,.ptr bd 0,.ptr bw 0] h fun u h'=>u=.bool (PT.node k tg ky at' tx sub sub.walk l c).2/\Tm h0 h' bc bd bw (PT.node k tg ky at' tx sub sub.walk l c).1
def TAll(h0:Heap):PT->Prop
 |.nil=>True
 |.cons k tg ky at' tx va vc sub nx=>JS h0 k tg ky at' tx va vc sub/\TAll h0 nx
theorem TAll.at'{h:Heap}:∀{t:PT}(i:Nat),TAll h t->TAll h (t.at' i)
 |.nil,0,_=>trivial
 |.nil,_+1,_=>trivial
 |.cons _ _ _ _ _ _ _ _ _,0,a=>a
 |.cons _ _ _ _ _ _ _ _ _,i+1,⟨_,g⟩=>TAll.at' i g
theorem J6{h:Heap}(v:V):ao go 222 [v] h fun u h'=>u=.tup []/\h=h':=by refine ag ?_;simp only[evs]
theorem DU{h0:Heap}{k:Nat}{tg ky:Str}{at':List Slo}{tx:Str}{sub:PT}
 (ra:Recs tR 3 h0 va at') (na:at'.length<=4096) (rc:Sl h0 6 vc sub.len sub.cells) (nc:sub.len<=4096) (A:TAll h0 sub):JS h0 k tg ky at' tx va vc sub:=by
 intro h b o bc bd bw l c B M hA hl hc;have lc:ab h bc 0=some (ZZ (c:Int)):=M.oc.ld1 0;refine ag ?_;simp(disch:=omega) only[evs,seval,ah,lc];refine stu M.f.wf M.oc ?_;rintro h1 o1 F1 n1;have K:Tm h0 h1 bc bd bw (c+1):=by refine⟨?_,o1,F1.own _ _ (eV B.cd.symm) M.od,F1.own _ _ (eV B.cw.symm) M.ow⟩;exact Sj M.f F1 B.w (fun x hx=>.inl hx) (fun x hx=>.inr (by simp at hx;subst hx;exact B.c))
 have ar:ab h1 bc 0=some (ZZ ((c+1:Nat):Int)):=K.oc.ld1 0;by_cases c1:6<l;have e:PT.node k tg ky at' tx sub sub.walk l c=(c+1,false):=if_pos (.inl c1);simp only[evs,seval,(oM:(6:Int)<(l:Int))];rw[e];exact⟨rfl,K⟩;by_cases c2:64<c+1;have e:PT.node k tg ky at' tx sub sub.walk l c=(c+1,false):=if_pos (.inr (.inl c2));simp only[evs,seval,(oM:¬(6:Int)<(l:Int)),ar,(oM:(64:Int)<((c+1:Nat):Int))];rw[e];exact⟨rfl,K⟩;simp only[evs,seval,(oM:¬(6:Int)<(l:Int)),ar,(oM:¬(64:Int)<((c+1:Nat):Int))];apply aa (CD K.f.wf (fun h' f=>hA h' (K.f.then f)) (ra.fr K.f) na (rc.fr K.f) nc);rintro _ h3 ⟨rfl,F3⟩;have M3:=K.fr F3;cases c3:dV k tg ky at' tx sub.len;have e:PT.node k tg ky at' tx sub sub.walk l c=(c+1,false):=if_pos (.inr (.inr c3));simp only[evs,seval];rw[e];exact⟨rfl,M3⟩;have e:PT.node k tg ky at' tx sub sub.walk l c=sub.walk (l+1) (c+1):=if_neg (by simp[c3];omega);rw[e];have q5:=(hA h3 M3.f).2.2.2.2.2.1;have lf:ab h3 bd 0=some (.func (.func 222) [] []):=M3.od.ld1 0;simp only[evs,seval,lf];apply aa (J6 _);rintro _ _ ⟨rfl,rfl⟩;simp only[evs,seval,q5,(rc.fr M3.f).len];refine aC (fun n env hh=>∃(i c':Nat),Tm h0 hh bc bd bw c'/\env.get 30=some (ZZ i)/\env.get 29=some (ZZ sub.len)/\env.get 0=some (.ptr b o)/\env.get 1=some (ZZ l)/\env.get 4=some (.ptr bw 0)/\
  i<=sub.len/\c'<=64/\(sub.at' i).walk (l+1) c'=sub.walk (l+1) (c+1)/\n=sub.len-i) sub.len oM ?_ ?_
 exact⟨0,c+1,M3,iS,iS,iS,iS,iS,oM,oM,by cases sub<;>rfl,rfl⟩;rintro n env hh ⟨i,c',M',af,aH,g0,g1,g4,hi,ay,Z,rfl⟩;by_cases an:i<sub.len;let⟨kd,ak,ae,ax,ac,a1,a2,sb,nx,e1,e2,e3,e4,e5,e6⟩:=sub.split i an;have a0:(i:Int)<sub.len:=oM;have a:=A.at' i;rw[e1]at a Z;let⟨b',o',p1,_⟩:=(rc.fr M'.f).ix6 an e2;have a3:∀h',Fr [] h0 h'->At6 h' b' o' (ZY (kd:Int)) (.str ak) (.str ae) a1 (.str ac) a2:=fun h' f=>by let⟨b2,o2,az,p2'⟩:=(rc.fr f).ix6 an e2;rw[p1]at az;cases az;exact p2'
 have q5:=(hA hh M'.f).2.2.2.2.2.1;have lw:ab hh bw 0=some (.func (.func 260) [] [.ptr bc 0,.ptr bd 0,.ptr bw 0]):=M'.ow.ld1 0;simp(disch:=omega) only[evs,seval,eff,ah,af,aH,g0,g1,g4,a0,lw,q5,p1];apply aa (a.1 hh b' o' bc bd bw (l+1) c' B M' a3 oM ay);rintro _ h4 ⟨rfl,M4⟩;simp only[PT.walk]at Z;have nl:=PT.node_le kd ak ae ax ac sb (l+1) c' ay;cases c4:(PT.node kd ak ae ax ac sb sb.walk (l+1) c').2;rw[c4]at Z;simp only[evs,seval,DF,eff,g4,lw,q5];rw[<-Z];exact⟨by simp[c4],by simpa using M4⟩;rw[c4]at Z;simp(disch:=omega) only[evs,seval,DF,eff,ah,af,g4,lw,q5];refine rqn ⟨sub.len-(i+1),oM,i+1,_,M4,iS,iX,iX,iX,iX,oM,nl.2 c4,?_,rfl⟩;rw[e3];simpa using Z;simp only[evs,seval,af,aH,(oM:¬(i:Int)<sub.len)];rw[PT.at_end _ _ oM]at Z;rw[<-Z];exact⟨rfl,M'⟩
theorem tall{h:Heap}:∀{t:PT},PH h t->TAll h t
 |.nil,_=>trivial
 |.cons _ _ _ _ _ _ _ _ _,⟨_,b,c,d,e,f,g⟩=>⟨DU b c d e (tall f),tall g⟩
def PT.count(k:Nat)(tg ky:Str)(at':List Slo)(tx:Str)(sub:PT):Nat:=
 if k=1/\(node k tg ky at' tx sub sub.walk 1 0).2=true then(node k tg ky at' tx sub sub.walk 1 0).1 else 0
theorem DT{h:Heap}{k b o:Nat}{tg ky:Str}{at':List Slo}{tx:Str}{sub:PT}(w:WF h)(n:PH h (.cons k tg ky at' tx va vc sub .nil))
 (hA:∀h',Fr [] h h'->At6 h' b o (ZY (k:Int)) (.str tg) (.str ky) va (.str tx) vc):
 ao go 221 [.ptr b o,.func (.func 222) [] []] h fun u h'=>u=ZZ (PT.count k tg ky at' tx sub:Nat)/\Fr [] h h':=by
 let⟨h2,e_h2,F_h2,o_h2⟩:=aq w [.func (.func 222) [] []];have q0:=(hA h2 F_h2).1;by_cases k1:k=1;let⟨h3,e_h3,F_h3,o_h3⟩:=aq F_h2.wf [ZZ 0];have n2:=hnx e_h2;have n3:=hnx e_h3;refine ag ?_;simp only[evs,seval,<-e_h2,q0,(oM:(k:Int)=1),<-e_h3];refine stu F_h3.wf o_h3 ?_;rintro Z o4 F4 n4;let⟨h5,e_h5,F_h5,o_h5⟩:=aq F4.wf [.nilf];simp only[evs,seval,<-e_h5];refine stu F_h5.wf o_h5 ?_;rintro K o6 F6 n6;have ac:Fr [] h Z:=(F_h2.then F_h3).fresh F4 w oM;have ae:Fr [] h K:=(ac.then F_h5).fresh F6 w oM;have B:MsB h h2.next h.next Z.next:=⟨w,oM,RW _,oM,oM,oM,oM⟩;have M:Tm h K h2.next h.next Z.next 0:=⟨ae,F6.own _ _ oO (F_h5.get o4),F6.own _ _ oO (F_h5.get (F4.own _ _ oO (F_h3.get o_h2))),o6⟩;have lw:ab K Z.next 0=some (.func (.func 260) [] [.ptr h2.next 0,.ptr h.next 0,.ptr Z.next 0]):=o6.ld1 0;simp only[evs,seval,lw];refine aa ((tall n).1 K b o h2.next h.next Z.next 1 0 B M hA oM oM) ?_;rintro _ h7 ⟨rfl,M7⟩;unfold PT.count;cases c:(PT.node k tg ky at' tx sub sub.walk 1 0).2;simp only[evs,seval];exact⟨iS,M7.f⟩;have lc:ab h7 h2.next 0=some (ZZ ((PT.node k tg ky at' tx sub sub.walk 1 0).1:Int)):=M7.oc.ld1 0;simp only[evs,seval,lc];exact⟨by simp[k1],M7.f⟩;refine ag ?_;simp only[evs,seval,<-e_h2,q0,(oM:¬(k:Int)=1)];exact⟨by simp[PT.count,k1],F_h2⟩
theorem un{h:Heap}{k:Nat}{tg ky:Str}{at':List Slo}{tx:Str}{sub:PT}(w:WF h)(n:PH h (.cons k tg ky at' tx va vc sub .nil)):
 ao go 163 [.agg [ZY (k:Int),.str tg,.str ky,va,.str tx,vc]] h fun u h'=>u=ZZ (PT.count k tg ky at' tx sub:Nat)/\Fr [] h h':=by
 let⟨h1,e_h1,F_h1,o_h1⟩:=aq w [ZY (k:Int),.str tg,.str ky,va,.str tx,vc];refine ag ?_;simp only[evs,seval,<-e_h1];refine aa (DT F_h1.wf (n.fr F_h1) (fun h' f=>(f.get o_h1).at6)) ?_;rintro _ K ⟨rfl,Z⟩;simp only[evs,seval];exact F_h1.then Z
theorem uo{h:Heap}{k:Nat}{tg ky:Str}{at':List Slo}{tx:Str}{sub:PT}(w:WF h)(n:PH h (.cons k tg ky at' tx va vc sub .nil)):
 ao go 89 [.agg [ZY (k:Int),.str tg,.str ky,va,.str tx,vc]] h fun u h'=>u=ZZ (if PT.count k tg ky at' tx sub=0 then 14 else 0)/\Fr [] h h':=by
 let⟨h1,e_h1,F_h1,o_h1⟩:=aq w [ZY (k:Int),.str tg,.str ky,va,.str tx,vc];by_cases c:PT.count k tg ky at' tx sub=0;refine ag ?_;simp only[evs,seval,<-e_h1,o_h1.at6.2.2.2.2.2.2];refine aa (un F_h1.wf (n.fr F_h1)) ?_;rintro _ K ⟨rfl,Z⟩;simp only[evs,seval,(oM:((PT.count k tg ky at' tx sub:Nat):Int)=0)];exact⟨by rw[if_pos c],F_h1.then Z⟩;refine ag ?_;simp only[evs,seval,<-e_h1,o_h1.at6.2.2.2.2.2.2];refine aa (un F_h1.wf (n.fr F_h1)) ?_;rintro _ K ⟨rfl,Z⟩;simp only[evs,seval,(oM:¬((PT.count k tg ky at' tx sub:Nat):Int)=0)];exact⟨by rw[if_neg c],F_h1.then Z⟩
theorem Mw:Je 247:=⟨dI,fun z h w=>by
 refine ag ?_;simp only[evs,seval];refine aa (gF w) ?_;rintro _ h1 ⟨rfl,F⟩;simp only[evs,seval];exact F⟩
def iH(x:Itm):Bool:=decide (x.key≠0)&&(okT x.text&&okM x.marks)
theorem xC{h:Heap}{x:Itm}(w:WF h)(a:ItmH h x):ao go 201 [.agg x.cells] h fun u h'=>u=ZZ (if iH x then 0 else 6)/\Fr [] h h':=by let⟨h1,e_h1,F_h1,o_h1⟩:=aq w x.cells;have l0:ab h1 h.next 0=some (ZX (x.key:Int)):=o_h1.ld1 0;have l2:ab h1 h.next 2=some (.str x.text):=o_h1.ld1 2;by_cases c0:x.key=0;refine ag ?_;simp only[evs,seval,<-e_h1,l0,(oM:(x.key:Int)=0)];exact⟨by simp[iH,c0],F_h1⟩;refine ag ?_;simp only[evs,seval,<-e_h1,l0,(oM:¬(x.key:Int)=0),l2];apply aa (pu F_h1.wf);rintro _ h2 ⟨rfl,K⟩;have Z:=F_h1.then K;have l3:ab h2 h.next 3=some x.vm:=(K.get o_h1).ld1 3;cases c2:okT x.text;simp only[evs,seval];exact⟨by simp[iH,c2],Z⟩;by_cases c3:x.marks.length<=8;simp only[evs,seval,l3,a.m.len,(oM:¬(8:Int)<(x.marks.length:Nat))];apply aa (ou Mw K.wf (a.m.fr Z) a.n);rintro _ h3 ⟨rfl,F3⟩;cases c4:x.marks.all okN;simp only[evs,seval];exact⟨by simp[iH,okM,c4],Z.then F3⟩;simp only[evs,seval];exact⟨by simp[iH,okM,c0,c2,c3,c4],Z.then F3⟩;simp only[evs,seval,l3,a.m.len,(oM:(8:Int)<(x.marks.length:Nat))];exact⟨by simp[iH,okM,c3],Z⟩
def dec(n:Nat):Str:=if h:n<10 then[UInt8.ofNat (48+n)]else dec (n/10)++[UInt8.ofNat (48+n%10)]
termination_by n
decreasing_by omega
theorem xn{n:Nat}(h:n<10):dec n=[UInt8.ofNat (48+n)]:=by rw[dec,dif_pos h]
theorem AE{n:Nat}(h:¬n<10):dec n=dec (n/10)++[UInt8.ofNat (48+n%10)]:=by rw[dec,dif_neg h]
def c8(b:UInt8):V:=ZY (b.toNat:Int)
theorem zD:∀z:Str,bytesOf (z.map c8)=some z
 |[]=>rfl
 |b::z=>by
  show(match bytesOf (z.map c8)with|some s=>some (UInt8.ofNat ((b.toNat:Int)).toNat::s)|none=>none)=_
  rw[zD z,RX,UInt8.ofNat_toNat]
theorem FU:∀d,d<10->aP .ixstr [.str [48,49,50,51,52,53,54,55,56,57],ZX (d:Nat)]=some (c8 (UInt8.ofNat (48+d))):=by
 intro d Z;match d,Z with
 |0,_=>rfl
 |1,_=>rfl
 |2,_=>rfl
 |3,_=>rfl
 |4,_=>rfl
 |5,_=>rfl
 |6,_=>rfl
 |7,_=>rfl
 |8,_=>rfl
 |9,_=>rfl
theorem J3{call:aI}{Z:List V}{h:Heap}(x:Opd)(K:V->Heap->Prop):OQ (aO call Z env h (.b2s x)) K↔∃d,evO Z env x=some d/\VQ (xK h d) K h:=by
 simp only[aO,OQ,VQ];cases evO Z env x with
 |none=>simp
 |some d=>
  simp only[];cases e:xK h d with
  |none=>simp[e]
  |some v=>simp only[];exact⟨fun⟨_,_,q,k⟩=>by cases q;exact⟨d,rfl,_,e,k⟩,fun⟨_,q,_,e',k⟩=>by cases q;rw[e]at e';cases e';exact⟨_,_,rfl,k⟩⟩
theorem Gq{h:Heap}(d:V)(K:V->Heap->Prop):(∃e,some d=some e/\VQ (xK h e) K h)↔VQ (xK h d) K h:=⟨fun⟨_,e,k⟩=>by cases e;exact k,fun k=>⟨d,rfl,k⟩⟩
theorem m8{h:Heap}{n:Nat}(w:WF h)(hn:n<18446744073709551616):ao go 251 [ZX (n:Int)] h fun u h'=>u=.str (dec n)/\Fr [] h h':=by
 let⟨h1,e_h1,F_h1,o_h1⟩:=aq w [ZY 0,ZY 0,ZY 0,ZY 0,ZY 0,ZY 0,ZY 0,ZY 0,ZY 0,ZY 0,ZY 0,ZY 0,ZY 0,ZY 0,ZY 0,ZY 0,ZY 0,ZY 0,ZY 0,ZY 0];refine ag ?_;simp only[evs,<-e_h1];refine aC (fun k env hh=>Fr [] h hh/\∃(i m:Nat)(Z:Str)(C:List V),env.get 4=some (ZZ i)/\env.get 0=some (ZX m)/\env.get 3=some (.ptr h.next 0)/\Own hh h.next C/\
  C.length=20/\C.drop i=Z.map c8/\0<i/\i<=20/\m<10^i/\dec n=dec m++Z/\m<18446744073709551616/\k=i) 20 oM ?_ ?_
 exact⟨F_h1,20,n,[],_,iS,iS,iS,o_h1,rfl,rfl,oM,oM,oM,iS,hn,rfl⟩;rintro k env hh ⟨F,i,m,Z,C,g4,g0,g3,oC,hC,hd,i0,ae,hm,e,af,hk⟩;have r1:aP (.ib .rem) [ZX (m:Int),ZX 10]=some (ZX ((m%10:Nat):Int)):=by rw[nm _ _ _ dI];rfl
 have r2:aP (.ib .quo) [ZX (m:Int),ZX 10]=some (ZX ((m/10:Nat):Int)):=by rw[pZ _ _ _ dI,(iR:((m:Int)).tdiv 10=((m/10:Nat):Int)),dG _ oM oM]
 have r3:=FU (m%10) (TY _ oM);obtain⟨j,rfl⟩:∃j,i=j+1:=⟨i-1,oM⟩;have r4:=xM 1 h.next 0 20 .i64 ((j:Int)) oM oM;simp only[RX,Uh,Tj]at r4;simp(disch:=omega) only[evs,seval,ah,g4,g0,g3,r1,r3,(oM:(((j+1:Nat):Int)-1)=(j:Int)),r4];refine ai (c':=C.set j (c8 (UInt8.ofNat (48+m%10)))) F.wf oC rfl rfl (kV C j _ oM) ?_;rintro h2 o2 F2 n2;have K:Fr [] h h2:=F.fresh F2 w (RW _);have ac:(C.set j (c8 (UInt8.ofNat (48+m%10)))).drop j=(UInt8.ofNat (48+m%10)::Z).map c8:=by rw[TX,if_pos oM,hd,Tk oO];rw[So oO];rfl
 by_cases c:m/10=0;have e2:dec n=UInt8.ofNat (48+m%10)::Z:=by rw[e,xn oM,(oM:m%10=m)];rfl
 have s1:aP (.sl (some 20) 1 true false false) [.ptr h.next 0,ZZ (j:Int)]=some (.slice h.next j (20-j) (20-j)):=by simp only[aP,xG,aW,bS .i64 (j:Int) 20 oM oM,Sx,Vd,eP (oM:(20:Nat)≠j),cond_false,RX,Tj,Uh]
 have s2:xK h2 (.slice h.next j (20-j) (20-j))=some (.str (dec n)):=by
  have:aj h2 h.next j (20-j)=some ((UInt8.ofNat (48+m%10)::Z).map c8):=by rw[o2.ld,bM,bK _ _ oO,Sf oO,ac]
  simp only[xK,this,zD,Sx,e2]
 simp only[evs,seval,r2,g0,g3,(oM:((m/10:Nat):Int)=0),s1,J3,Gq,s2];exact K;have e2:dec n=dec (m/10)++UInt8.ofNat (48+m%10)::Z:=by rw[e,AE oM];simp
 have j0:0<j:=by obtain z|z:=Nat.eq_zero_or_pos j;subst z;simp at hm;omega;exact z
 simp only[evs,seval,r2,g0,(oM:¬((m/10:Nat):Int)=0)];refine rqn ⟨j,oM,K,j,m/10,_,_,iS,iS,iX,o2,by simp[hC],ac,j0,oM,by rw[Nat.pow_succ]at hm;omega,e2,oM,rfl⟩
 done
def zG(x:Itm)(s:Slo):Str:=if s.2.1=0 then s.2.2 else if s.2.1=1 then x.text else if s.2.1=2 then dec x.key else dec x.marks.length
def att(x:Itm)(s:Slo):Str×Str:=(s.1,zG x s)
theorem nt{h:Heap}{z:Str}(w:WF h):ao go 250 [.str z] h fun u h'=>u=.agg [ZY 2,.str [],.str [],.nils,.str z,.nils]/\Fr [] h h':=by let⟨h1,e_h1,F_h1,o_h1⟩:=aq w [ZY 0,.str [],.str [],.nils,.str [],.nils];refine ag ?_;simp only[evs,seval,<-e_h1];refine stu F_h1.wf o_h1 ?_;rintro h2 o2 Z K;have l:=o2.at6.2.2.2.2.2.2;simp only[evs,seval,l];exact F_h1.fresh Z w (RW _)
theorem Gr{h:Heap}{x:Itm}{v:V}{l:List Slo}(w:WF h)(a:ItmH h x)(r:Recs tR 3 h v l)(nl:l.length<=4096)(h3:∀s∈l,s.2.1<=3):
 ao go 276 [.agg x.cells,v] h fun u h'=>∃b,h.next<=b/\TbC 2 h' u b ((l.map (att x)).flatMap fY) l.length/\Fr [] h h':=by
 have kx:=a.k;have nx:=a.n;let⟨h1,e_h1,F_h1,o_h1⟩:=aq w x.cells;have n1:=hnx e_h1;refine ag ?_;simp only[evs,seval,<-e_h1,r.len];refine(de _ _ _ _ _ _ _ _ oM oM oM oM).2 ?_;simp only[RX];obtain⟨h2,K⟩:∃h2,h2=halloc h1 (aU [.str [],.str []] l.length):=⟨_,rfl⟩;have ae:Fr [] h1 h2:=K▸SO F_h1.wf _;have af:Own h2 h1.next (aU [.str [],.str []] l.length):=K▸Ts F_h1.wf _;have ln:(aU [V.str [],V.str []] l.length).length=l.length*2:=cP _ _;rw[<-K];clear K;generalize aU [V.str [],V.str []] l.length=Z at ln af;simp only[evs,seval,r.len];refine aC (fun n env hh=>Fr [] h hh/\Fr [] h1 hh/\∃(i:Nat)(C:List V),env.get 13=some (ZZ i)/\env.get 12=some (ZZ l.length)/\env.get 11=some v/\env.get 5=some (.slice h1.next 0 l.length l.length)/\env.get 2=some (.ptr h.next 0)/\
  i<=l.length/\Own hh h1.next C/\C.length=l.length*2/\C.take (i*2)=((l.take i).map (att x)).flatMap fY/\n=l.length-i) l.length oM ?_ ?_
 ·exact⟨F_h1.then ae,ae,0,Z,iS,iS,iS,iS,iS,oM,af,ln,iS,rfl⟩
 ·rintro n env hh ⟨F,F1,i,C,ak,ax,a0,g5,g2,hi,oC,lC,eC,rfl⟩;by_cases a1:i<l.length
  ·have ac:(i:Int)<l.length:=oM
   let⟨b',o',s,p1,p2,p3,p4⟩:=(r.fr F).ix fT .i64 (i:Int) oM ac;rw[RX]at p4;have s3:=h3 s (RZ p4);let⟨h3,e_h3,F_h3,o_h3⟩:=aq F.wf [.str [],ZY 0,.str []];simp only[evs,seval,ak,ax,a0,ac,p1,p3,<-e_h3];apply stu F_h3.wf o_h3;rintro h4 o4 F4 n4;have ar:Fr [] hh h4:=F_h3.fresh F4 F.wf (RW _);have ox:=ar.get (F1.get o_h1);have u0:ab h4 hh.next 0=some (.str s.1):=o4.ld1 0;have u1:ab h4 hh.next 1=some (ZY (s.2.1:Int)):=o4.ld1 1;have u2:ab h4 hh.next 2=some (.str s.2.2):=o4.ld1 2;have x0:ab h4 h.next 0=some (ZX (x.key:Int)):=ox.ld1 0;have x2:ab h4 h.next 2=some (.str x.text):=ox.ld1 2;have x3:ab h4 h.next 3=some x.vm:=ox.ld1 3;simp only[evs,seval,eff,g5,g2,u0,u2,x2,x0];apply aa (m8 ar.wf kx);rintro _ h5 ⟨rfl,F5⟩;have v0:ab h5 hh.next 0=some (.str s.1):=(F5.get o4).ld1 0;have v1:ab h5 hh.next 1=some (ZY (s.2.1:Int)):=(F5.get o4).ld1 1;have v2:ab h5 hh.next 2=some (.str s.2.2):=(F5.get o4).ld1 2;have y2:ab h5 h.next 2=some (.str x.text):=(F5.get ox).ld1 2;have y3:ab h5 h.next 3=some x.vm:=(F5.get ox).ld1 3;have cv:bX .u64 (x.marks.length:Int)=(x.marks.length:Int):=dG _ oM oM;simp only[evs,seval,eff,g2,y3,a.m.len,cv];apply aa (m8 F5.wf oM);rintro _ h6 ⟨rfl,F6⟩;have an:=(ar.then F5).then F6;have w0:ab h6 hh.next 0=some (.str s.1):=(F6.get (F5.get o4)).ld1 0;have w1:ab h6 hh.next 1=some (ZY (s.2.1:Int)):=(F6.get (F5.get o4)).ld1 1;have w2:ab h6 hh.next 2=some (.str s.2.2):=(F6.get (F5.get o4)).ld1 2;have z2:ab h6 h.next 2=some (.str x.text):=(F6.get (F5.get ox)).ld1 2;have z3:ab h6 h.next 3=some x.vm:=(F6.get (F5.get ox)).ld1 3;have pk:aP (.ixarr 4 1 false) [.agg [.str s.2.2,.str x.text,.str (dec x.key),.str (dec x.marks.length)],ZY (s.2.1:Int)]=some (.str (zG x s)):=by
    rw[GP _ _ _ _ oM];have:s.2.1=0\/s.2.1=1\/s.2.1=2\/s.2.1=3:=oM
    obtain e|e|e|e:=this<;>(rw[e];simp only[zG,e];rfl)
   have ix:=gw 2 h1.next 0 l.length l.length .i64 (i:Int) oM ac;simp only[RX,Tj]at ix;simp only[evs,seval,eff,w1,pk,ix];refine ai (c':=C.take (i*2)++fY (att x s)++C.drop (i*2+2)) F6.wf (an.get oC) rfl rfl (bQ C (i*2) (fY (att x s)) (by show i*2+2<=C.length;omega)) ?_;rintro h7 o7 F7 n7;have az:Fr [] h h7:=(F.then an).fresh F7 w oM;have ay:Fr [] h1 h7:=(F1.then an).fresh F7 F_h1.wf (RW _);have aH:(C.take (i*2)++fY (att x s)++C.drop (i*2+2)).take ((i+1) *2)=((l.take (i+1)).map (att x)).flatMap fY:=by
    have:(C.take (i*2)++fY (att x s)).length=(i+1) *2:=by rw[Sv,eK,UO];omega
    rw[<-this,UB,eC,Sr,p4];simp
   simp(disch:=omega) only[evs,seval,DF,ah,ak,u0,u1,u2,x0,x2,x3,v0,v1,v2,y2,y3,w0,w1,w2,z2];refine rqn ⟨l.length-(i+1),oM,az,ay,i+1,_,iS,iX,iX,iX,iX,oM,o7,by simp[fY];omega,aH,rfl⟩
   done
  ·simp only[evs,seval,ak,ax,g5,(oM:¬(i:Int)<l.length)];rw[Sf oM,Sf oM]at eC;subst eC;exact⟨h1.next,oM,⟨by rw[lC],.inr ⟨rfl,oC⟩⟩,F⟩
theorem zw{e:Nat}{h:Heap}{v:V}{n:Nat}(K:0<e)(a:Sl h e v n cs)(hv:v≠.sliceE):
 ∃u,aP (.sl none e false true true) [v,ZZ (n:Int),ZZ (n:Int)]=some u/\Sl h e u n cs/\u≠.sliceE:=by
 let⟨hl,a⟩:=a;have q:∀y,n<=y->aW n y false true true [ZZ (n:Int),ZZ (n:Int)]=some (0,n,some n):=fun y hy=>by simp only[aW,bS .i64 (n:Int) y oM oM,bS .i64 (n:Int) n oM oM,SZ,Sx,RX]
 cases v with
 |nils=>have a:n=0:=a;subst a;exact⟨.nils,by simp only[aP,dX,q 0 (RW _),Sx],⟨hl,rfl⟩,iS⟩
 |slice b o len cap=>obtain⟨rfl,h2,c,Z,h3,e3⟩:=a;refine⟨.slice b (bif Nat.beq len 0 then o else o+0*e) (len-0) (len-0),by simp only[aP,dX,q cap h2,Sx,Vc],⟨hl,rfl,RW _,c,Z,?_⟩,iS⟩;by_cases c0:len=0;grind;grind
 |sliceU b o len e'=>obtain⟨rfl,rfl,c,Z,h3,e3⟩:=a;refine⟨.slice b (bif Nat.beq len 0 then o else o+0*e') (len-0) (len-0),by simp only[aP,dX,kN (rfl:e'=e'),(SI ..).mpr K,Ui,cond_true,q len (RW _),SZ],⟨hl,rfl,RW _,c,Z,?_⟩,iS⟩;by_cases c0:len=0;grind;grind
 |sliceE=>exact absurd rfl hv
 |_=>exact a.elim
theorem Ge{h:Heap}{v:V}{n:Nat}(a:Sl h 6 v n cs)(hv:v≠.sliceE):ao go 277 [v] h fun u h'=>(∀h2,Sl h2 6 v n cs->Sl h2 6 u n cs)/\u≠.sliceE/\h=h':=by let⟨u,e,s,ne⟩:=zw oM a hv;refine ag ?_;simp only[evs,seval,a.len,e];refine⟨fun h2 K=>?_,ne⟩;let⟨u2,Z,s2,_⟩:=zw oM K hv;rw[e]at Z;cases Z;exact s2
theorem sT{h:Heap}{x:Itm}{v:V}{k:Nat}{tg ky tx key:Str}{l:List Slo}{vs vp:V}{n:Nat}(w:WF h)(a:ItmH h x)(r:Recs tR 3 h vs l)(nl:l.length<=4096)(h3:∀s∈l,s.2.1<=3)
 (ak:vp.one=true) (c:Sl h 6 v n cs) (hv:v≠.sliceE):
 ao go 249 [.agg x.cells,.agg [ZY (k:Int),.str tg,.str ky,vs,.str tx,vp],.str key,v] h fun u h'=>∃va vc ba,u=.agg [ZY 1,.str tg,.str key,va,.str [],vc]/\h.next<=ba/\TbC 2 h' va ba ((l.map (att x)).flatMap fY) l.length/\(∀h2,Sl h2 6 v n cs->Sl h2 6 vc n cs)/\vc.one=true/\Fr [] h h':=by
 let⟨h1,e_h1,F_h1,o_h1⟩:=aq w x.cells;let⟨h2,e_h2,F_h2,o_h2⟩:=aq F_h1.wf [ZY (k:Int),.str tg,.str ky,vs,.str tx,vp];let⟨K,e_h3',F_h3',o_h3'⟩:=aq F_h2.wf [ZY 0,.str [],.str [],.nils,.str [],.nils];have n1:=hnx e_h1;have n2:=hnx e_h2;have Z:=(F_h1.then F_h2).then F_h3';have ox:=F_h3'.get (F_h2.get o_h1);have op:=F_h3'.get o_h2;have t1:ab K h1.next 1=some (.str tg):=op.ld1 1;have t3:ab K h1.next 3=some vs:=op.ld1 3;have x4:aj K h.next 0 4=some x.cells:=by rw[ox.ld];rfl
 refine ag ?_;simp only[evs,seval,eff,<-e_h1,<-e_h2,<-e_h3',t1,t3,x4];refine aa (Gr F_h3'.wf (a.fr Z) (r.fr Z) nl h3) ?_;rintro va h4 ⟨ba,an,ta,F4⟩;have af:ab h4 h1.next 1=some (.str tg):=(F4.get op).ld1 1;simp only[evs,seval,eff];apply aa (Ge (c.fr (Z.then F4)) hv);rintro vc _ ⟨ac,_,rfl⟩;have sc:=ac _ (c.fr (Z.then F4));simp only[evs,seval,eff,aw ta.one,aw sc.one];refine ai (c':=[ZY 1,.str tg,.str key,va,.str [],vc]) F4.wf (F4.get o_h3') rfl (by simp only[V.cells,av,aB,ta.one,sc.one];rfl) rfl ?_;rintro h5 o5 F5 n5;have l6:=o5.at6.2.2.2.2.2.2;have ae:Fr [] h h5:=(Z.then F4).fresh F5 w oM;simp only[evs,seval,DF,t1,af,t3,x4,l6];have n3:=hnx e_h3';exact⟨va,vc,ba,rfl,oM,ta.fr F5 oO,ac,sc.one,ae⟩
theorem _root_.Go.Ev.Gs.append1{h:Heap}{B esz bytes:Nat}{v x:V}{cs xs:List V}{n:Nat}(w:WF h)(a:Gs h B esz v cs)(s:Sl h esz x n xs)(he:0<esz)(hn:n≠0)(ho:au xs=true)(hB:B≤h.next)
 (hsz:(2*(cs.length+n)+1024) *bytes≤281474976710656) {K:V→Heap→Prop} (k:∀v' h',Gs h' B esz v' (cs++xs)→vb v'=[h.next]→Fr (vb v) h h'→K v' h'):OQ (jQ h esz bytes v x) K:=by
 unfold jQ;rw[s.srcLen];simp only[];rw[eP hn,cond_false,s.srcCells];simp only[];obtain⟨rfl,rfl⟩|⟨b,m,rfl,hm,hm0,hb,o⟩:=a;simp only[tH];have:Nat.ble ((2*n+1024) *bytes) 281474976710656=true:=by rw[Nat.ble_eq];simpa using hsz
 rw[this,cond_true];refine(cL _ _ _).2 (k _ _ (.inr ⟨h.next,n,rfl,by simpa using s.1,oM,hB,by simpa using Own.new w xs⟩) rfl (Fr.halloc w xs));have hle:(2*(m+n)+1024) *bytes≤(2*(cs.length+n)+1024) *bytes:=by
  apply Nat.mul_le_mul_right _;have:m≤cs.length:=by rw[hm];exact Nat.le_mul_of_pos_right m he
  omega
 have h1:(Nat.beq esz esz&&Nat.ble ((2*(m+n)+1024) *bytes) 281474976710656)=true:=by simp only[Nat.beq_refl,Bool.true_and,Nat.ble_eq];omega
 simp only[h1,cond_true,o.cells];have hmn:(m+n) *esz=m*esz+n*esz:=Nat.add_mul _ _ _;have hpos:0<n*esz:=Nat.mul_pos oM he;rw[AN (oM:¬0+(m+n) *esz≤cs.length),cond_false];have h2:(Nat.ble (0+m*esz) cs.length&&au xs)=true:=by simp only[ho,Bool.and_true,Nat.ble_eq];omega
 simp only[h2,cond_true,fK,bK cs (m*esz) oM];let⟨h',e,o',f⟩:=uL (pos:=0+m*esz) (c':=cs.take (m*esz)++xs) w o;rw[e];simp only[Option.map_some];refine(cL _ _ _).2 (k _ _ (.inr ⟨h.next,m+n,rfl,by simp[s.1];omega,oM,hB,?_⟩) rfl f);rwa[List.take_of_length_le oM]at o'
inductive ST where
 |nil
 |cons (kind:Nat) (tag key:Str) (attrs:List (Str×Str)) (text:Str) (sub next:ST)
namespace ST
def app:ST->ST->ST
 |nil,t=>t
 |cons k tg ky a tx sub nx,t=>cons k tg ky a tx sub (nx.app t)
theorem app_nil:∀t:ST,t.app nil=t
 |nil=>rfl
 |cons _ _ _ _ _ _ nx=>by simp only[app,app_nil nx]
theorem app_assoc:∀a b c:ST,(a.app b).app c=a.app (b.app c)
 |nil,_,_=>rfl
 |cons _ _ _ _ _ _ nx,b,c=>by simp only[app,app_assoc nx b c]
def len:ST->Nat
 |nil=>0
 |cons _ _ _ _ _ _ nx=>nx.len+1
def keys:ST->List Str
 |nil=>[]
 |cons _ _ ky _ _ _ nx=>ky::nx.keys
def alone(k:Nat)(tg ky:Str)(at':List (Str×Str))(tx:Str)(sub:ST):Bool:=
 if k=2 then okT tx&&(tg==[]&&(ky==[]&&(decide (at'.length=0)&&decide (sub.len=0))))
 else decide (k=1)&&(okN tg&&((ky==[]||okN ky)&&(tx==[]&&(decide (at'.length<=8)&&(decide (sub.len<=16)&&(dO none at'&&gq [] sub.keys))))))
def node(k:Nat)(tg ky:Str)(at':List (Str×Str))(tx:Str)(sub:ST)(w:Nat->Nat->Nat×Bool)(l c:Nat):Nat×Bool:=
 if 6<l\/64<c+1\/alone k tg ky at' tx sub=false then(c+1,false)else w (l+1) (c+1)
def walk:ST->Nat->Nat->Nat×Bool
 |nil,_,c=>(c,true)
 |cons k tg ky at' tx sub nx,l,c=>let r:=node k tg ky at' tx sub sub.walk l c;if r.2=true then nx.walk l r.1 else r
def count(k:Nat)(tg ky:Str)(at':List (Str×Str))(tx:Str)(sub:ST):Nat:=
 if(node k tg ky at' tx sub sub.walk 1 0).2=true then(node k tg ky at' tx sub sub.walk 1 0).1 else 0
end ST
namespace NT
def sh:NT->ST
 |nil=>.nil
 |cons k tg ky a tx _ _ sub nx=>.cons k tg ky a tx sub.sh nx.sh
def app:NT->NT->NT
 |nil,t=>t
 |cons k tg ky a tx va vc sub nx,t=>cons k tg ky a tx va vc sub (nx.app t)
theorem app_sh:∀a b:NT,(a.app b).sh=a.sh.app b.sh
 |nil,_=>rfl
 |cons _ _ _ _ _ _ _ _ nx,b=>by simp only[app,sh,ST.app,app_sh nx b]
theorem app_len:∀a b:NT,(a.app b).len=a.len+b.len
 |nil,b=>by simp[app,len]
 |cons _ _ _ _ _ _ _ _ nx,b=>by simp only[app,len,app_len nx b];omega
theorem app_cells:∀a b:NT,(a.app b).cells=a.cells++b.cells
 |nil,_=>rfl
 |cons _ _ _ _ _ _ _ _ nx,b=>by simp only[app,cells,app_cells nx b,SM]
theorem sh_len:∀t:NT,t.sh.len=t.len
 |nil=>rfl
 |cons _ _ _ _ _ _ _ _ nx=>by simp only[sh,len,ST.len,sh_len nx]
theorem sh_keys:∀t:NT,t.sh.keys=t.keys
 |nil=>rfl
 |cons _ _ _ _ _ _ _ _ nx=>by simp only[sh,keys,ST.keys,sh_keys nx]
theorem yb(k:Nat)(tg ky:Str)(at':List (Str×Str))(tx:Str)(sub:NT):ST.alone k tg ky at' tx sub.sh=ij k tg ky at' tx sub:=by simp only[ST.alone,ij,sh_len,sh_keys]
theorem wF:∀(t:NT)(l c:Nat),t.sh.walk l c=t.walk l c
 |nil,_,_=>rfl
 |cons k tg ky at' tx _ _ sub nx,l,c=>by
  have e1:ST.node k tg ky at' tx sub.sh sub.sh.walk l c=node k tg ky at' tx sub sub.walk l c:=by unfold ST.node node;rw[yb,wF sub]
  show(let r:=ST.node k tg ky at' tx sub.sh sub.sh.walk l c;if r.2=true then nx.sh.walk l r.1 else r)=_;rw[e1];simp only[walk,wF nx]
theorem sh_count(k:Nat)(tg ky:Str)(at':List (Str×Str))(tx:Str)(sub:NT):ST.count k tg ky at' tx sub.sh=count k tg ky at' tx sub:=by
 have Z:ST.node k tg ky at' tx sub.sh sub.sh.walk 1 0=node k tg ky at' tx sub sub.walk 1 0:=by unfold ST.node node;rw[yb,wF sub]
 unfold ST.count count;rw[Z]
end NT
theorem NH.app{h:Heap}:∀{a b:NT},NH h a->NH h b->NH h (a.app b)
 |.nil,_,_,q=>q
 |.cons _ _ _ _ _ _ _ _ _,_,⟨x1,x2,x3,x4,x5,x6,x7⟩,q=>⟨x1,x2,x3,x4,x5,x6,NH.app x7 q⟩
def gK(z:Str):ST:=.cons 2 [] [] [] z .nil .nil
def jO(tg:Str)(a:List (Str×Str)):List Str->ST
 |[]=>.nil
 |m::ms=>.cons 1 tg m a [] (gK m) (jO tg a ms)
def mP(x:Itm)(k:Nat)(tg ky:Str)(sl:List Slo)(tx:Str)(sub:ST):ST:=
 if k=1 then .cons 1 tg ky (sl.map (att x)) [] sub .nil
 else if k=2 then gK tx
 else if k=3 then gK x.text
 else if k=4 then gK (dec x.key)
 else if k=5 then jO tg (sl.map (att x)) x.marks
 else .nil
def cE(x:Itm):PT->ST
 |.nil=>.nil
 |.cons k tg ky sl tx _ _ sub nx=>(mP x k tg ky sl tx (cE x sub)).app (cE x nx)
def TG:PT->Prop
 |.nil=>True
 |.cons _ _ _ sl _ _ _ sub nx=>(∀s∈sl,s.2.1<=3)/\sub.len<=16/\TG sub/\TG nx
theorem TG.at':∀{t:PT}(i:Nat),TG t->TG (t.at' i)
 |.nil,0,_=>trivial
 |.nil,_+1,_=>trivial
 |.cons _ _ _ _ _ _ _ _ _,0,a=>a
 |.cons _ _ _ _ _ _ _ _ _,i+1,⟨_,_,_,g⟩=>TG.at' i g
theorem ze(tg:Str)(a:List (Str×Str)):∀ms:List Str,(jO tg a ms).len=ms.length
 |[]=>rfl
 |m::ms=>by simp[jO,ST.len,ze tg a ms]
theorem HZ(x:Itm)(k:Nat)(tg ky:Str)(sl:List Slo)(tx:Str)(sub:ST)(Z:x.marks.length<=8):(mP x k tg ky sl tx sub).len<=8:=by unfold mP;split;simp[ST.len];split;simp[gK,ST.len];split;simp[gK,ST.len];split;simp[gK,ST.len];split;rw[ze];exact Z;simp[ST.len]
def Inv(v:V)(n0:Nat)(h:Heap)(s:NT):Prop:=∀(X:List Nat)(h':Heap),(∀x∈X,x<n0\/x∈vb v)->Fr X h h'->NH h' s
theorem Inv.fr{v:V}{h:Heap}{s:NT}(I:Inv v n0 h s)(w:WF h)(f:Fr [] h h'):Inv v n0 h' s:=fun X h2 hx f2=>
 I X h2 hx (Sj f f2 w iS (fun x hx=>.inl hx))
theorem Inv.nh{v:V}{h:Heap}{s:NT}(I:Inv v n0 h s)(w:WF h):NH h s:=I [] h iS (Sn w)
theorem kZ{h:Heap}{B k:Nat}{Z:V}{s sub:NT}{tg ky tx:Str}{at':List (Str×Str)}{K:V->Heap->Prop}(w:WF h)(g:Gs h B 6 Z s.cells)(hB:B<=h.next)(h0:n0<=h.next)(I:Inv Z n0 h s)
 (N:∀(X:List Nat)(h':Heap),(∀x∈X,x<n0\/x∈vb Z)->Fr X h h'->NH h' (.cons k tg ky at' tx va vc sub .nil)) (hl:s.len<=1000)
 (hk:∀v' h',Gs h' B 6 v' (s.app (.cons k tg ky at' tx va vc sub .nil)).cells->Inv v' n0 h' (s.app (.cons k tg ky at' tx va vc sub .nil))->Fr (vb Z) h h'->(∀y∈vb v',h.next<=y)->K v' h'):
 OQ (jQ (halloc h [ZY (k:Int),.str tg,.str ky,va,.str tx,vc]) 6 104 Z (.slice h.next 0 1 1)) K:=by
 have n1:=N [] h iS (Sn w);have on:=NH.ones n1;have F1:=SO w [ZY (k:Int),.str tg,.str ky,va,.str tx,vc];have o1:=Ts w [ZY (k:Int),.str tg,.str ky,va,.str tx,vc];have cl:=s.cells_len;have ae:∀x∈vb Z,x<h.next:=by obtain⟨rfl,_⟩|⟨b,n,rfl,_,_,_,o⟩:=g;simp[vb];have:=o.lt w;simp only[vb,Su];rintro x rfl;exact this
 refine Gs.append1 (n:=1) F1.wf (g.fr F1) (TH o1 rfl) oM oM on (SD hB F1.next) (by rw[cl];omega) ?_;intro v' h' g' e' F';have F:Fr (vb Z) h h':=Sj F1 F' w iS (fun x hx=>.inl hx);refine hk v' h' ?_ ?_ F (by rw[e'];simp only[Su];rintro y rfl;exact F1.next);rw[NT.app_cells];exact g';intro X h2 hX f2;have f3:Fr (vb Z++X.filter (fun x=>decide (x<n0))) h h2:=by refine Sj F f2 w (fun x hx=>.inl iX) (fun x hx=>?_);obtain q|q:=hX x hx;grind;rw[e']at q;simp at q;exact .inr (by subst q;exact F1.next)
 have ac:∀x∈vb Z++X.filter (fun x=>decide (x<n0)),x<n0\/x∈vb Z:=by grind
 exact NH.app (I _ h2 ac f3) (N _ h2 ac f3)
def MK(t:PT):Prop:=∀(x:Itm)(h:Heap)(v:V),WF h->ItmH h x->x.marks.length<=8->PH h t->TG t->t.len<=16->Sl h 6 v t.len t.cells->
 ao go 202 [.agg x.cells,v] h fun u h'=>∃s:NT,s.sh=cE x t/\Fr [] h h'/\u≠.sliceE/\s.len<=128/\∀(X:List Nat)(h2:Heap),(∀y∈X,y<h.next)->Fr X h' h2->NH h2 s/\Sl h2 6 u s.len s.cells
def MKs:PT->Prop
 |.nil=>True
 |.cons _ _ _ _ _ _ _ sub nx=>MK sub/\MKs nx
theorem MKs.at':∀{t:PT}(i:Nat),MKs t->MKs (t.at' i)
 |.nil,0,_=>trivial
 |.nil,_+1,_=>trivial
 |.cons _ _ _ _ _ _ _ _ _,0,a=>a
 |.cons _ _ _ _ _ _ _ _ _,i+1,⟨_,g⟩=>MKs.at' i g
theorem Gs.nE{h:Heap}{B e:Nat}{v:V}(g:Gs h B e v cs):v≠.sliceE:=by obtain⟨rfl,_⟩|⟨b,n,rfl,_⟩:=g<;>simp
theorem Gs.frX{h:Heap}{B e:Nat}{v:V}{X:List Nat}(g:Gs h B e v cs)(f:Fr X h h')(Z:∀x∈X,x<B):Gs h' B e v cs:=by obtain⟨rfl,rfl⟩|⟨b,n,rfl,h1,h2,K,o⟩:=g;exact .inl ⟨rfl,rfl⟩;exact .inr ⟨b,n,rfl,h1,h2,K,f.own _ _ (fun m=>by have:=Z _ m;omega) o⟩
theorem z9{v:V}{h:Heap}(z:Str):∀(X:List Nat)(h':Heap),(∀x∈X,x<n0\/x∈vb v)->Fr X h h'->NH h' (.cons 2 [] [] [] z .nils .nils .nil .nil):=fun _ _ _ _=>li 2 oM [] z
theorem Bn{t:PT}(M:MKs t):MK t:=by
 intro x h v w a hm pt tg hl sl;let⟨h1,e_h1,F_h1,o_h1⟩:=aq w x.cells;have n1:=hnx e_h1;refine ag ?_;simp only[evs,seval,<-e_h1,sl.len];refine aC (fun n env hh=>Fr [] h hh/\Fr [] h1 hh/\∃(i:Nat)(s:NT)(vo:V),env.get 12=some (ZZ i)/\env.get 11=some (ZZ t.len)/\env.get 10=some v/\env.get 5=some vo/\env.get 2=some (.ptr h.next 0)/\
  i<=t.len/\Inv vo h.next hh s/\Gs hh h1.next 6 vo s.cells/\s.sh.app (cE x (t.at' i))=cE x t/\s.len<=8*i/\n=t.len-i) t.len oM ?_ ?_
 ·exact⟨F_h1,Sn F_h1.wf,0,.nil,.nils,iS,iS,iS,iS,iS,oM,fun _ _ _ _=>trivial,.inl ⟨rfl,rfl⟩,by cases t<;>rfl,by simp[NT.len],rfl⟩
 ·rintro n env hh ⟨F,F1,i,s,vo,ar,bg,bn,g5,g2,hi,I,G,e,sn,rfl⟩;by_cases br:i<t.len
  ·have bp:(i:Int)<t.len:=oM
   let⟨k,ak,ky,ae,tx,vs,vp,sub,nx,e1,e2,e3,e4,e5,e6⟩:=t.split i br;have bj:=pt.at' i;have bm:=tg.at' i;have Mi:=M.at' i;rw[e1]at bj bm Mi e;let⟨pk,pr,pl,ps,pn,psub,_⟩:=bj;let⟨t3,tl,tsub,_⟩:=bm;let⟨b',o',p1,p2⟩:=(sl.fr F).ix6 br e2;have on:au [ZY (k:Int),.str ak,.str ky,vs,.str tx,vp]=true:=by
    simp only[av,aB,TI pr,TI ps];rfl
   have bT:∀y∈vb vo,y<hh.next:=by
    obtain⟨rfl,_⟩|⟨b,n,rfl,_,_,_,o⟩:=G
    ·simp[vb]
    ·have:=o.lt F.wf;simp only[vb,Su];rintro y rfl;exact this
   let⟨h3,e_h3,F_h3,o_h3⟩:=aq F.wf [ZY 0,.str [],.str [],.nils,.str [],.nils];simp only[evs,seval,ar,bg,bn,bp,p1,p2.2.2.2.2.2.2,<-e_h3];refine ai (c':=[ZY (k:Int),.str ak,.str ky,vs,.str tx,vp]) F_h3.wf o_h3 rfl on rfl ?_;rintro h4 o4 F4 n4;have K:Fr [] hh h4:=F_h3.fresh F4 F.wf (RW _);have q4:=o4.at6;have ox:=K.get (F1.get o_h1);have x4:aj h4 h.next 0 4=some x.cells:=by rw[ox.ld];rfl
   have ci:hh.next<=h4.next:=K.next;have cq:=F1.next;simp only[cE]at e;have aH:∀{ac:T V}{s2:NT}{v2:V}{h5:Heap},Fr [] h h5->Fr [] h1 h5->ac.get 12=some (ZZ ((i:Int)+1))->ac.get 11=some (ZZ t.len)->ac.get 10=some v->ac.get 5=some v2->ac.get 2=some (.ptr h.next 0)->
    Inv v2 h.next h5 s2->Gs h5 h1.next 6 v2 s2.cells->s2.sh=s.sh.app (mP x k ak ky ae tx (cE x sub))->
    ∃k',k'<t.len-i/\Fr [] h h5/\Fr [] h1 h5/\∃(i:Nat)(s:NT)(vo:V),ac.get 12=some (ZZ i)/\ac.get 11=some (ZZ t.len)/\ac.get 10=some v/\ac.get 5=some vo/\ac.get 2=some (.ptr h.next 0)/\
     i<=t.len/\Inv vo h.next h5 s/\Gs h5 h1.next 6 vo s.cells/\s.sh.app (cE x (t.at' i))=cE x t/\s.len<=8*i/\k'=t.len-i:=by
    intro ac s2 v2 h5 f f1 a1 a2 a3 a4 a5 I2 G2 es;have ol:=HZ x k ak ky ae tx (cE x sub) hm;refine⟨t.len-(i+1),oM,f,f1,i+1,s2,v2,a1,a2,a3,a4,a5,oM,I2,G2,?_,?_,rfl⟩
    ·rw[es,e3,ST.app_assoc];exact e
    ·rw[<-NT.sh_len,es];have:∀a b:ST,(a.app b).len=a.len+b.len:=by
      intro a b;induction a with
      |nil=>simp[ST.app,ST.len]
      |cons _ _ _ _ _ _ nx _ ih=>simp only[ST.app,ST.len,ih];omega
     rw[this,NT.sh_len];omega
   have l0:ab h4 hh.next 0=some (ZY (k:Int)):=q4.1;have ax:∀y∈vb vo,h1.next<=y:=by
    obtain⟨rfl,_⟩|⟨b,n,rfl,_,_,hb,o⟩:=G
    ·simp[vb]
    ·simp only[vb,Su];rintro y rfl;exact hb
   have F0:Fr [] h h4:=F.then K;have az:Fr [] h1 h4:=F1.then K;have a6:=a.fr F0;by_cases k1:k=1
   ·have ek:mP x k ak ky ae tx (cE x sub)=.cons 1 ak ky (ae.map (att x)) [] (cE x sub) .nil:=by subst k1;rfl
    have l2:ab h4 hh.next 2=some (.str ky):=q4.2.2.1;have l5:ab h4 hh.next 5=some vp:=q4.2.2.2.2.2.1;have l6:=q4.2.2.2.2.2.2;simp only[evs,seval,eff,g5,g2,l0,eq_true (oM:(k:Int)=1),x4,l6,l2,l5];refine aa (Mi.1 x h4 vp K.wf a6 hm (psub.fr F0) tsub tl (ps.fr F0)) ?_;rintro u h5 ⟨s5,bV,Z,uE,cj,bt⟩;have bB:=bt [] h5 iS (Sn Z.wf);have x5:aj h5 h.next 0 4=some x.cells:=by rw[(Z.get ox).ld];rfl
    have r5:=(Z.get o4).at6;have m2:ab h5 hh.next 2=some (.str ky):=r5.2.2.1;have m6:=r5.2.2.2.2.2.2;simp only[evs,eff];refine aa (sT Z.wf (a6.fr Z) (TK pr (F0.then Z)) pl t3 (TI ps) bB.2 uE) ?_;rintro _ h6 ⟨va,vc,ba,rfl,b6,ta,bh,bC,F6⟩;simp only[evs,seval,eff];have bE:=Z.next;refine kZ (k:=1) (sub:=s5) (at':=ae.map (att x)) F6.wf (G.fr ((K.then Z).then F6)) (by have:=F6.next;omega) (by have:=F6.next;omega) (I.fr F.wf ((K.then Z).then F6)) ?_ oM ?_
    ·intro X h' hX f;have a0:∀y∈X,y<h4.next:=fun y hy=>by grind
     let⟨z1,z2⟩:=bt X h' a0 (Sj F6 f Z.wf iS (fun y hy=>.inl hy));refine⟨oM,?_,by simpa using pl,bh _ z2,oM,z1,trivial⟩;have:=(ta.fr f (fun m=>by have:=a0 _ m;omega)).sl;show Sl h' 2 va (ae.map (att x)).length _;rw[UG];exact this
    intro v' h' G' I' F' V';simp(disch:=omega) only[evs,seval,DF,eff,ah,ar,g2,x4,l6,l2,l5,x5,m6,m2];refine rqn ?_;exact aH (TL w ((F0.then Z).then F6) F' (fun y hy=>by have:=ax y hy;omega)) (TL F_h1.wf ((az.then Z).then F6) F' ax) iS iX iX iS iX I' G' (by rw[ek,<-bV];exact NT.app_sh _ _)
    done
   by_cases k2:k=2
   ·have ek:mP x k ak ky ae tx (cE x sub)=gK tx:=by subst k2;rfl
    simp only[evs,seval,g5,l0,(oM:¬(k:Int)=1),eq_true (oM:(k:Int)=2),q4.2.2.2.2.1];refine aa (nt K.wf) ?_;rintro _ h5 ⟨rfl,Z⟩;simp only[evs,seval];refine kZ (k:=2) Z.wf (G.fr (K.then Z)) (by have:=Z.next;omega) (by have:=Z.next;omega) (I.fr F.wf (K.then Z)) (z9 _) oM ?_;intro v' h' G' I' F' V';simp(disch:=omega) only[evs,seval,ah,ar];refine rqn ?_;exact aH (TL w (F0.then Z) F' (fun y hy=>by have:=ax y hy;omega)) (TL F_h1.wf (az.then Z) F' ax) iS iX iX iS iX I' G' (by rw[ek];exact NT.app_sh _ _)
    done
   by_cases k3:k=3
   ·have ek:mP x k ak ky ae tx (cE x sub)=gK x.text:=by subst k3;rfl
    simp only[evs,seval,g5,g2,l0,(oM:¬(k:Int)=1),(oM:¬(k:Int)=2),eq_true (oM:(k:Int)=3),show ab h4 h.next 2=some (.str x.text)from ox.ld1 2];refine aa (nt K.wf) ?_;rintro _ h5 ⟨rfl,Z⟩;simp only[evs,seval];refine kZ (k:=2) Z.wf (G.fr (K.then Z)) (by have:=Z.next;omega) (by have:=Z.next;omega) (I.fr F.wf (K.then Z)) (z9 _) oM ?_;intro v' h' G' I' F' V';simp(disch:=omega) only[evs,seval,ah,ar];refine rqn ?_;exact aH (TL w (F0.then Z) F' (fun y hy=>by have:=ax y hy;omega)) (TL F_h1.wf (az.then Z) F' ax) iS iX iX iS iX I' G' (by rw[ek];exact NT.app_sh _ _)
    done
   by_cases k4:k=4
   ·have ek:mP x k ak ky ae tx (cE x sub)=gK (dec x.key):=by subst k4;rfl
    simp only[evs,seval,g5,g2,l0,(oM:¬(k:Int)=1),(oM:¬(k:Int)=2),(oM:¬(k:Int)=3),eq_true (oM:(k:Int)=4),show ab h4 h.next 0=some (ZX (x.key:Int))from ox.ld1 0];refine aa (m8 K.wf a.k) ?_;rintro _ co ⟨rfl,bv⟩;simp only[evs];refine aa (nt bv.wf) ?_;rintro _ h5 ⟨rfl,cc⟩;have Z:=bv.then cc;simp only[evs,seval];refine kZ (k:=2) Z.wf (G.fr (K.then Z)) (by have:=Z.next;omega) (by have:=Z.next;omega) (I.fr F.wf (K.then Z)) (z9 _) oM ?_;intro v' h' G' I' F' V';simp(disch:=omega) only[evs,seval,ah,ar];refine rqn ?_;exact aH (TL w (F0.then Z) F' (fun y hy=>by have:=ax y hy;omega)) (TL F_h1.wf (az.then Z) F' ax) iS iX iX iS iX I' G' (by rw[ek];exact NT.app_sh _ _)
    done
   by_cases k5:k=5
   ·have ek:mP x k ak ky ae tx (cE x sub)=jO ak (ae.map (att x)) x.marks:=by subst k5;rfl
    have l3:ab h4 h.next 3=some x.vm:=ox.ld1 3;simp only[evs,seval,g2,l0,(oM:¬(k:Int)=1),(oM:¬(k:Int)=2),(oM:¬(k:Int)=3),(oM:¬(k:Int)=4),eq_true (oM:(k:Int)=5),l3,a.m.len];refine aC (fun n af an=>Fr [] h an/\Fr [] h1 an/\Own an hh.next [ZY (k:Int),.str ak,.str ky,vs,.str tx,vp]/\h4.next<=an.next/\∃(j:Nat)(s':NT)(v2:V),af.get 65=some (ZZ j)/\af.get 64=some (ZZ x.marks.length)/\af.get 63=some x.vm/\af.get 7=some (.ptr hh.next 0)/\
     af.get 12=some (ZZ i)/\af.get 11=some (ZZ t.len)/\af.get 10=some v/\af.get 5=some v2/\af.get 2=some (.ptr h.next 0)/\j<=x.marks.length/\hh.next∉vb v2/\Inv v2 h.next an s'/\Gs an h1.next 6 v2 s'.cells/\
     s'.sh.app (jO ak (ae.map (att x)) (x.marks.drop j))=s.sh.app (jO ak (ae.map (att x)) x.marks)/\s'.len<=8*i+j/\n=x.marks.length-j) x.marks.length oM ?_ ?_
    ·exact⟨F0,az,o4,RW _,0,s,vo,iS,iS,iS,iS,iX,iX,iX,iX,iX,oM,fun m=>by(have:=bT _ m;omega),I.fr F.wf K,G.fr K,rfl,oM,rfl⟩
    ·rintro n' af an ⟨ay,bc,oj,cr,j,s',v2,bf,bo,bD,g7,ar,bg,bn,g5,g2,hj,bw,I2,G2,ej,cn,rfl⟩;have bi:=bc.get o_h1;by_cases cl:j<x.marks.length
     ·have a9:(j:Int)<x.marks.length:=oM
      let⟨b3,o3',mk,r1,r2,_,r4⟩:=(a.m.fr ay).ix fG .i64 (j:Int) oM a9;have bz:ab an b3 o3'=some (.str mk):=r2 0 oM;rw[RX]at r4;rw[aK r4]at ej;have a8:∀y∈vb v2,h1.next<=y:=by
       obtain⟨rfl,_⟩|⟨b,n,rfl,_,_,hb,o⟩:=G2
       ·simp[vb]
       ·simp only[vb,Su];rintro y rfl;exact hb
      have ch:∀y∈vb v2,y<an.next:=by
       obtain⟨rfl,_⟩|⟨b,n,rfl,_,_,_,o⟩:=G2
       ·simp[vb]
       ·have:=o.lt ay.wf;simp only[vb,Su];rintro y rfl;exact this
      have ja:aj an h.next 0 4=some x.cells:=by rw[bi.ld];rfl
      have jp:=oj.at6.2.2.2.2.2.2;simp only[evs,seval,eff,bf,bo,bD,g7,g5,g2,a9,r1,bz,ja,jp];refine aa (nt ay.wf) ?_;rintro _ h5 ⟨rfl,Z⟩;let⟨h6,e_h6,F_h6,o_h6⟩:=aq Z.wf [ZY 2,.str [],.str [],.nils,.str mk,.nils];have n6:=hnx e_h6;have bA:aj h5 h.next 0 4=some x.cells:=by rw[(Z.get bi).ld];rfl
      have ca:=(Z.get oj).at6.2.2.2.2.2.2;have bW:aj h6 h.next 0 4=some x.cells:=by rw[(F_h6.get (Z.get bi)).ld];rfl
      have cb:=(F_h6.get (Z.get oj)).at6.2.2.2.2.2.2;simp only[evs,seval,eff,<-e_h6];have bk:=(ay.then Z).then F_h6;have b7:Sl h6 6 (.slice h5.next 0 1 1) 1 (NT.cons 2 [] [] [] mk .nils .nils .nil .nil).cells:=TH o_h6 rfl;refine aa (sT F_h6.wf (a.fr bk) (TK pr bk) pl t3 (TI ps) b7 iS) ?_;rintro _ h7 ⟨va,vc,ba,rfl,b6,ta,bh,bC,F7⟩;simp only[evs,seval,eff];have bE:=Z.next;have ct:=F7.next;have a7:=(Z.then F_h6).then F7;refine kZ (k:=1) (sub:=.cons 2 [] [] [] mk .nils .nils .nil .nil) (at':=ae.map (att x)) F7.wf (G2.fr a7) oM oM (I2.fr ay.wf a7) ?_ oM ?_
      ·intro X h' hX f;have a0:∀y∈X,y<an.next:=fun y hy=>by grind
       have f2:Fr X h6 h':=Sj F7 f F_h6.wf iS (fun y hy=>.inl hy);have o':=f2.own _ _ (fun m=>by have:=a0 _ m;omega) o_h6;refine⟨oM,?_,by simpa using pl,bh _ (TH o' rfl),by simp[NT.len],li 2 oM [] mk,trivial⟩;have:=(ta.fr f (fun m=>by have:=a0 _ m;omega)).sl;show Sl h' 2 va (ae.map (att x)).length _;rw[UG];exact this
      intro v' h' G' I' F' V';simp(disch:=omega) only[evs,seval,DF,eff,ah,bf,g7,g2,ja,jp,bA,ca,bW,cb];refine rqn ⟨x.marks.length-(j+1),oM,TL w (ay.then a7) F' (fun y hy=>by have:=a8 y hy;omega),TL F_h1.wf (bc.then a7) F' a8,F'.own _ _ bw (a7.get oj),by have:=F'.next;omega,j+1,_,v',iS,iX,iX,iX,iX,iX,iX,iS,iX,oM,fun m=>by(have:=V' _ m;omega),I',G',?_,?_,rfl⟩
      ·rw[NT.app_sh,ST.app_assoc];exact ej
      ·rw[NT.app_len];simp only[NT.len];omega
     ·simp(disch:=omega) only[evs,seval,ah,bf,bo,ar,(oM:¬(j:Int)<x.marks.length)];rw[So oM]at ej;simp only[jO,ST.app_nil]at ej;refine rqn ?_;exact aH ay bc iS iX iX iX iX I2 G2 (by rw[ek];exact ej)
      done
   have ek:mP x k ak ky ae tx (cE x sub)=.nil:=by unfold mP;simp[k1,k2,k3,k4,k5]
   simp(disch:=omega) only[evs,seval,ah,ar,l0,(oM:¬(k:Int)=1),(oM:¬(k:Int)=2),(oM:¬(k:Int)=3),(oM:¬(k:Int)=4),(oM:¬(k:Int)=5)];refine rqn ?_;exact aH F0 az iS iX iX iX iX (I.fr F.wf K) (G.fr K) (by rw[ek,ST.app_nil])
   done
  ·simp only[evs,seval,ar,bg,g5,(oM:¬(i:Int)<t.len)];rw[PT.at_end _ _ oM]at e;simp only[cE,ST.app_nil]at e;refine⟨s,e,F,Gs.nE G,oM,fun X h2 hX f2=>⟨I X h2 (fun y hy=>.inl (hX y hy)) f2,(Gs.frX G f2 (fun y hy=>by have:=hX y hy;omega)).sl s.cells_len oM⟩⟩
theorem mks:∀t:PT,MKs t
 |.nil=>trivial
 |.cons _ _ _ _ _ _ _ sub nx=>⟨Bn (mks sub),mks nx⟩
end Go.Ev.Lay
namespace Go.Ev
abbrev Uw:=@Go.Ev.Gs.append1
abbrev VN:=@Go.Ev.Lay.Gs.frX
end Go.Ev
