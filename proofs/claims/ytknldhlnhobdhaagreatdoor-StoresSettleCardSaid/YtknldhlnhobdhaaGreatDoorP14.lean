/- An evaluator of the program, and contracts over it: LmE to ErKc. -/
import Derived.Test.YtknldhlnhobdhaaGreatDoorP07
import Derived.Test.YtknldhlnhobdhaaGreatDoorP09
import Derived.Test.YtknldhlnhobdhaaGreatDoorP10
import Derived.Test.YtknldhlnhobdhaaGreatDoorP11
import Derived.Test.YtknldhlnhobdhaaGreatDoorP12
import Derived.Test.YtknldhlnhobdhaaGreatDoorP13
set_option linter.unusedSimpArgs false
set_option linter.unusedVariables false
set_option linter.constructorNameAsVariable false
set_option linter.unnecessarySimpa false
set_option maxRecDepth 4000
namespace Go.Ev.Lay
variable{h':a_}{view over:Int}{bs:List Bool}
open Go.Ev.St
section
variable {h : a_} {v vK : V} {E : List d_} {Ks : List p_} {view over s : Int} {A : List Int} {p : Int -> Bool} {bp B : Nat}
theorem A9(a:Sl h 1 v A.length (iV A))(i:Nat)(hi:i<A.length):∃b o x,aP (.c 1) [v,ZZ i]=some (.u b o)/\ab h b o=some (ZZ x)/\A[i]? =some x:=by let⟨b,o,x,e1,K,Z⟩:=(show lP h v A from a).ix .i64 i oM oM;exact⟨b,o,x,e1,K,by simpa using Z⟩
theorem Fr.in1(w:WF h)(f:Fr [] h h'):Fr [B] h h':=f.trans (Wl f.o (S:=[])) w iS iS
def Fnd(h:a_)(bp:Nat)(A:List Int)(p:Int->Bool):Prop:=∀h',Fr [] h h'->∀i∈A,ao go 195 [ZZ i,.u bp 0] h' fun u h''=>u=.h (p i)/\Fr [] h' h''
theorem M5(w:WF h)(a:Sl h 1 v A.length (iV A))(hn:A.length<=4096)(hp:Fnd h bp A p):ao go 253 [v,.E (.func 195) [] [.u bp 0]] h fun u h'=>(∃k:Nat,k<=A.length/\(A.take k).filter (fun x=> !p x)=A.take k/\
 ((k<A.length/\u=ZZ k/\(A.take (k+1)).filter (fun x=> !p x)=A.take k)\/(k=A.length/\u=ZZ (-1))))/\Fr [] h h':=by
 refine ah ?_;simp only[b_,seval,a.t_];refine aA (fun n env hh=>Fr [] h hh/\∃i:Nat,env.c_ 8=some (ZZ i)/\env.c_ 7=some (ZZ A.length)/\env.c_ 0=some v/\env.c_ 1=some (.E (.func 195) [] [.u bp 0])/\
  i<=A.length/\(A.take i).filter (fun x=> !p x)=A.take i/\n=A.length-i) A.length oM ?_ ?_
 ·exact⟨Wl w,0,iS,iS,iS,iS,oM,rfl,rfl⟩
 rintro n env hh ⟨F,i,g8,g7,g0,g1,hi,e,rfl⟩;by_cases Z:i<A.length
 ·let⟨b,o,x,e1,e2,K⟩:=A9 (a.fr F) i Z;have ts:A.take (i+1)=A.take i++[x]:=by rw[Wn,K];rfl
  simp only[b_,seval,g8,g7,g0,g1,eq_true (oM:(i:Int)<A.length),e1,e2];refine aa (hp _ F x (Wc K)) ?_;rintro _ h1 ⟨rfl,F1⟩;cases c:p x
  ·simp(disch:=omega) only[b_,seval,ag,g8];refine s_ ⟨A.length-(i+1),oM,F.c F1,i+1,iS,iX,iX,iX,oM,by rw[ts,Xu,e];simp[c],rfl⟩
   done
  ·simp only[b_,seval];exact⟨⟨i,hi,e,.inl ⟨Z,rfl,by rw[ts,Xu,e];simp[c]⟩⟩,F.c F1⟩
 ·simp only[b_,seval,g8,g7,eq_false (oM:¬(i:Int)<A.length)];exact⟨⟨i,hi,e,.inr oM⟩,F⟩
theorem Ni(w:WF h)(a:S6 1 h v B (iV A) A.length)(hn:A.length<=4096)(hB:bp<B)(hp:∀h',Fr [B] h h'->Fnd h' bp A p):ao go 194 [v,.E (.func 195) [] [.u bp 0]] h fun u h'=>
 Sl h' 1 u (A.filter fun x=> !p x).length (iV (A.filter fun x=> !p x))/\Fr [B] h h':=by
 refine ah ?_;simp[b_];refine aa (M5 w a.sl hn (hp _ (Wl w))) ?_;rintro _ h1 ⟨⟨k,hk,ek,(⟨lt,rfl,ae⟩|⟨rfl,rfl⟩)⟩,F1⟩
 ·simp(disch:=omega)[b_,ag];refine aA (fun n env hh=>Fr [B] h hh/\∃(i j:Nat)(C:List Int),env.c_ 5=some (ZZ i)/\env.c_ 6=some (ZZ j)/\env.c_ 0=some v/\env.c_ 1=some (.E (.func 195) [] [.u bp 0])/\
   i<j/\j<=A.length/\C.length=A.length/\S6 1 hh v B (iV C) A.length/\C.take i=(A.take j).filter (fun x=> !p x)/\C.drop j=A.drop j/\n=A.length-j) (A.length-(k+1)) oM ?_ ?_
  ·exact⟨Go.Ev.Lay.Fr.in1 w F1,k,k+1,A,iS,iS,iS,iS,oM,oM,rfl,a.fr F1 iS,ae.symm,rfl,rfl⟩
  rintro n env hh ⟨F,i,j,C,g5,g6,g0,g1,ij,hj,lc,t,K,ed,rfl⟩;by_cases af:j<A.length
  ·obtain⟨b,o,x,e1,e2,e3⟩:=A9 (A:=C) (by rw[lc];exact t.sl) j oM;have e4:A[j]? =some x:=by
    have:=congrArg (·[0]?) ed;simpa[Xk,e3]using this.symm
   have ts:A.take (j+1)=A.take j++[x]:=by rw[Wn,e4];rfl
   have ac:C.drop (j+1)=A.drop (j+1):=by
    have:=congrArg (List.drop 1) ed;simpa[Xx]using this
   simp only[b_,seval,g6,g0,g1,t.t_,eq_true (oM:(j:Int)<A.length),e1,e2];apply aa (hp _ F _ (Wl F.o) x (Wc e4));rintro _ h2 ⟨rfl,Z⟩;cases c:p x
   ·obtain⟨_,⟨_,n0⟩|⟨rfl,own⟩⟩:=t
    ·omega
    have xa:=dh 1 B 0 A.length A.length .i64 (i:Int) oM oM;simp at xa;simp only[b_,seval,g5,g0,xa];refine ai (c':=iV (C.set i x)) Z.o (Z.i own) rfl rfl (by rw[show iV (C.set i x)=(iV C).set i (ZZ x)from YO];exact fF _ _ _ oO) ?_;rintro h3 o3 F3 n3;simp(disch:=omega) only[b_,seval,ag,g5,g6];refine s_ ⟨A.length-(j+1),oM,(F.trans (T:=[B]) Z w iS iS).trans F3 w iS iS,i+1,j+1,C.set i x,iS,iS,iX,iX,oM,oM,by simpa using lc,⟨by simp[lc],.inr ⟨rfl,o3⟩⟩,?_,?_,rfl⟩
    ·rw[ts,Xu,<-K,List.take_set,Wn];simp[c];rw[Wf oM,Zk,List.set_append_right _ _ oO,(oO:i-(C.take i).length=0)];rfl
    ·rw[List.drop_set,if_pos oM];exact ac
   ·simp(disch:=omega) only[b_,seval,ag,g6];refine s_ ⟨A.length-(j+1),oM,F.trans Z w iS iS,i,j+1,C,iX,iS,iX,iX,oM,oM,lc,t.fr Z iS,by rw[ts,Xu,<-K];simp[c],ac,rfl⟩
    done
  ·obtain rfl:j=A.length:=oM
   rw[Xq]at K;let⟨v1,q1,q2,q3⟩:=t.from oM .i64 (i:Int) i rfl oM;simp[b_,g5,g6,g0,t.t_,q1];apply BR F.o q3 rfl rfl t;intro h2 t2 Z n2;let⟨v2,r1,r2⟩:=t2.upto oM .i64 (i:Int) i rfl oM;simp[b_,g5,g0,r1];have ln:(C.take i).length=i:=by simp;omega
   rw[Xv,WU,Xi oO,Yu,Nat.min_self,show(iV C).take i=iV (C.take i)from Zi.symm,K]at r2;rw[K]at ln;rw[ln];exact⟨r2,F.trans Z w iS iS⟩
 ·simp[b_];refine⟨?_,Go.Ev.Lay.Fr.in1 w F1⟩;rw[Xq]at ek;rw[ek];exact(a.fr F1 iS).sl
theorem Og{i:Nat}{e:d_}(w:WF h)(q:LQ h v E)(o:e_ h bp [v])(K:E[i]? =some e):ao go 195 [ZZ (i:Int),.u bp 0] h fun u h'=>u=.h e.kn/\Fr [] h h':=by have hi:i<E.length:=(Wk.1 K).1;let⟨bi,oi,e',p1,p2,p3,Z⟩:=q.f.ix aM .i64 (i:Int) oM oM;rw[pi,K]at Z;cases Z;have l5:ab h bi (oi+5)=some (.h e.kn):=p2 5 oM;have l0:ab h bp 0=some v:=o.j 0;refine ah ?_;simp[b_,l0,p1,l5];exact Wl w
theorem Mn(w:WF h)(q:LQ h v E)(rk:q_ p_.s 9 h vK Ks)(kh:∀k∈Ks,Q9 h k)(lo:V0 Ks h E)(ok:T7 view over)(cl:aX (E.map d_.b) view s=s):
 ao go 128 [.B [vK,ZZ 12],.B [v],ZZ s,ZZ view,ZZ over] h fun u h'=>Fr [] h h'/\∃A u' c,u=.D [u',ZZ 0]/\h.e<=c/\
  S6 1 h' u' c (iV (A.filter fun i=> !(E.map d_.kn).getD i.toNat false)) (A.filter fun i=> !(E.map d_.kn).getD i.toNat false).length/\qR (E.map d_.b) (U1 Ks E) view over s A/\A.length<=E.length/\∀i∈A,0<=i/\i<E.length:=by
 have o:=q.c;have k1:vK.U=true:=Xs rk;have qn:=q.n;let⟨h1,K,af,ax⟩:=aq w [vK,ZZ 12];let⟨h2,ac,ae,ak⟩:=aq af.o [v];have n1:=x_ K;have n2:=x_ ac;have Z:=af.c ae;have x5:aj h2 h.e 0 2=some [vK,ZZ 12]:=by rw[(ae.i ax).N];rfl
 have x6:aj h2 h1.e 0 1=some [v]:=by rw[ak.N];rfl
 have aH:V0 Ks h2 E:=⟨fun e m=>⟨(lo.h e m).1.fr Z,(lo.h e m).2⟩,lo.b,lo.c,lo.n,lo.l,lo.r⟩;refine ah ?_;simp only[b_,seval,<-K,<-ac,x5,x6];refine aa (JC Z.o (q.a Z) (Xn rk Z) (fun k m=>(kh k m).fr Z) aH ok cl) ?_;rintro _ h3 ⟨F3,A,u',c,rfl,hc,tb,at',la,rg⟩;simp only[b_,seval];refine aa (Ni (bp:=h1.e) (p:=fun i=>(E.map d_.kn).getD i.toNat false) F3.o tb oM oM ?_) ?_;intro h' f ay g i m;let⟨i0,i1⟩:=rg i m;obtain⟨j,rfl⟩:∃j:Nat,i=j:=⟨i.toNat,oM⟩;obtain⟨e,he⟩:∃e,E[j]? =some e:=⟨_,Wf oM⟩;have an:Fr [] h2 ay:=(F3.z f Z.o hc).c g;have:=Og an.o ((q.a Z).a an) (an.i ak) he;simp only[show(E.map d_.kn).getD (j:Int).toNat false=e.kn by simp[he]];exact this;rintro u2 h4 ⟨sl,F4⟩;simp only[b_];refine aa (lW F4.o sl (by have:=Ys (fun i=> !(E.map d_.kn).getD i.toNat false) A;omega)) ?_;rintro u3 h5 ⟨F5,az⟩;simp only[b_,seval];have ar:Fr [] h2 h4:=F3.z F4 Z.o hc;exact⟨(Z.c ar).c F5,A,u3,_,rfl,by have:=(Z.c ar).e;omega,az,at',la,rg⟩
end
def hc(p:Nat×Int):List V:=[ZX (p.1:Int),ZZ p.2]
theorem gL(p:Nat×Int):(hc p).length=2:=rfl
structure T?(Y:List (Nat×Int)):Prop where
 k:∀p∈Y,1<=p.1/\p.1<=12
 s:∀p∈Y,1<=p.2/\p.2<=50
 n:(Y.map Prod.fst).Nodup
 l:Y.length<=12
theorem zr(a n:Nat)(b:Int)(Z:b=n)(h0:0<n):aP (.e .rem) [ZY (a:Int),ZY b]=some (ZY ((a%n:Nat):Int)):=by subst Z;rw[jD _ _ _ oM,show Int.tmod (a:Int) n=((a%n:Nat):Int)from(Int.ofNat_tmod a n).symm]
theorem Nd{h:a_}{vT vK:V}{ps:List (Nat×Nat)}{vw a2 ov:Nat}(w:WF h)(a:C_ uc 2 h vT ps)(hp:∀p∈ps,p.1<256/\p.2<256)(k1:vK.U=true)(hv:vw<256)(bv:ov<256)(bu:a2<65536):
 ao go 23 [.B [ZY (vw:Int),.A .u16 (a2:Int),ZY (ov:Int),vT],.B [vK,ZZ 12]] h fun u h'=>
  (∃Y vt,u=.D [.B [vK,ZZ 12,ZZ (1+((vw%200:Nat):Int)),ZZ ((ov%4:Nat):Int),ZZ 1],vt]/\F_ hc 2 h' h.e vt Y/\T? Y)/\Fr [] h h':=by
 have v1:=ZF a;let⟨h1,ay,a0,bf⟩:=aq w [ZY (vw:Int),.A .u16 (a2:Int),ZY (ov:Int),vT];let⟨h2,aJ,aN,a6⟩:=aq a0.o [vK,ZZ 12];let⟨h3,az,ak,a7⟩:=aq aN.o [.r,ZZ 0,ZZ 0,ZZ 0,ZZ 0];have n1:=x_ ay;have n2:=x_ aJ;have n3:=x_ az;have a8:=aN.c ak;have bm:=a0.c a8;have o1:=a8.i bf;have o2:=ak.i a6;have q2:aj h3 h1.e 0 2=some [vK,ZZ 12]:=by rw[o2.N];rfl
 have m1:=zr vw 200 200 rfl oM;have m2:=zr ov 4 4 rfl oM;let⟨h4,aH,aR,a5⟩:=aq ak.o [.r,ZZ 0,ZZ 0,ZZ 0,ZZ 0];refine ah ?_;simp(disch:=omega) only[b_,seval,ag,<-ay,<-aJ,<-az,q2,o1.j,m1,m2,<-aH];refine ai (c':=[vK,ZZ 12,ZZ (1+((vw%200:Nat):Int)),ZZ ((ov%4:Nat):Int),ZZ 1]) aR.o a5 rfl (by show aw [_,_,_,_,_]=true;simp only[au,aB,k1];rfl) rfl ?_;rintro h5 o5 F5 n5;have an:Fr [] h3 h5:=aR.z F5 ak.o (VZ _);have ar:=bm.c an;have n4:=x_ aH;have o3:e_ h5 h2.e [.r,ZZ 0,ZZ 0,ZZ 0,ZZ 0]:=an.i a7;simp only[b_];refine aA (fun n env hh=>Fr [] h5 hh/\∃(i:Nat)(vo:V)(Y:List (Nat×Int)),env.c_ 2=some (.u h.e 0)/\env.c_ 4=some (.u h2.e 0)/\env.c_ 6=some (.u h3.e 0)/\env.c_ 7=some vo/\env.c_ 8=some (ZZ i)/\
  i<=ps.length/\i<=12/\Y.length<=i/\F_ hc 2 hh h5.e vo Y/\T? Y/\n=12-i) 12 oM ?_ ?_
 ·exact⟨Wl ar.o,0,.r,[],iS,iS,iS,iS,iS,oM,oM,VZ _,Zs,⟨iS,iS,iS,iS⟩,rfl⟩
 rintro n env hh ⟨F,i,vo,Y,g2,g4,g6,g7,g8,hi,bw,hT,gT,ok,rfl⟩;have F0:=ar.c F;have l3:ab hh h.e 3=some vT:=(F.i (an.i o1)).j 3;have al:=C_.t_ (C_.fr a F0);have a4:aj hh h3.e 0 5=some [vK,ZZ 12,ZZ (1+((vw%200:Nat):Int)),ZZ ((ov%4:Nat):Int),ZZ 1]:=by rw[(F.i o5).N];rfl
 by_cases c1:(i:Int)<ps.length
 ·by_cases c2:(i:Int)<12
  ·let⟨b,o,p,e1,e2,e3,e4⟩:=C_.ix Ge (C_.fr a F0) .i64 i oM c1;simp at e4;have q0:ab hh b o=some (ZY (p.1:Int)):=by have:=e2 0 oM;simpa[uc]using this
   have q1:ab hh b (o+1)=some (ZY (p.2:Int)):=by have:=e2 1 oM;simpa[uc]using this
   let⟨h6,aT,af,a9⟩:=aq F.o [ZX 0,ZZ 0];have bt:ab h6 h.e 3=some vT:=(af.i (F.i (an.i o1))).j 3;let⟨b',o',p',bg,a3,_,a1⟩:=C_.ix Ge (C_.fr a (F0.c af)) .i64 i oM c1;rw[e1]at bg;obtain⟨rfl,rfl⟩:b=b'/\o=o':=by cases bg;exact⟨rfl,rfl⟩
   simp only[pi]at a1;obtain rfl:p=p':=by rw[e4]at a1;exact Xl a1
   have bj:ab h6 b o=some (ZY (p.1:Int)):=by have:=a3 0 oM;simpa[uc]using this
   have bh:ab h6 b (o+1)=some (ZY (p.2:Int)):=by have:=a3 1 oM;simpa[uc]using this
   let⟨r1,r2⟩:=hp p (Wc e4);have i0:=iU 1 b o 2 .i64 0 oM oM;have i1:=iU 1 b o 2 .i64 1 oM oM;rw[(iS:o+(0:Int).toNat*1=o)]at i0;rw[(iS:o+(1:Int).toNat*1=o+1)]at i1;have m1:=zr p.1 12 12 rfl oM;have m2:=zr p.2 50 50 rfl oM;obtain⟨k,hk⟩:∃k:Nat,k=1+p.1%12:=⟨_,rfl⟩;obtain⟨z,hz⟩:∃z:Int,z=1+((p.2%50:Nat):Int):=⟨_,rfl⟩;have f1:bP .u64 ((p.1%12:Nat):Int)=((p.1%12:Nat):Int):=bS _ oM oM;have f2:bP .u64 (1+((p.1%12:Nat):Int))=(k:Int):=by rw[bS _ oM oM];omega
   simp(disch:=omega) only[b_,seval,j_,ag,g2,g8,l3,al,c1,c2,e1,i0,i1,q0,q1,m1,m2,f1,f2,<-hz,<-aT];apply B_ af.o a9;rintro h7 o7 F7 n7;have ac:Fr [] hh h7:=af.z F7 F.o (VZ _);have n6:=x_ aT;simp only[b_,DF,l3,bt,q0,bj,q1,bh];have r7:=ZO gL oM (gT.fr ac);refine aA (fun n Z bi=>h7=bi/\∃m:Nat,Z.c_ 2=some (.u h.e 0)/\Z.c_ 4=some (.u h2.e 0)/\Z.c_ 6=some (.u h3.e 0)/\Z.c_ 7=some vo/\Z.c_ 8=some (ZZ i)/\Z.c_ 9=some (.u hh.e 0)/\
    Z.c_ 10=some (.h (decide (k∈(Y.take m).map Prod.fst)))/\Z.c_ 11=some (ZZ m)/\m<=Y.length/\n=Y.length-m) Y.length oM ?_ ?_
   ·exact⟨rfl,0,iX,iX,iX,iX,iX,iS,iS,iS,oM,rfl⟩
   rintro n Z _ ⟨rfl,m,g2,g4,g6,g7,g8,g9,K,g11,hm,rfl⟩;have l0:ab h7 hh.e 0=some (ZX (k:Int)):=o7.j 0;by_cases c3:(m:Int)<Y.length
   ·let⟨b',o',x,y1,y2,y3,y4⟩:=r7.ix gL .i64 m oM c3;simp at y4;have yq:ab h7 b' o'=some (ZX (x.1:Int)):=by have:=y2 0 oM;simpa[hc]using this
    have tk:(Y.take (m+1)).map Prod.fst=(Y.take m).map Prod.fst++[x.1]:=by rw[Wn,y4];simp
    by_cases c4:k∈(Y.take m).map Prod.fst
    ·rw[decide_eq_true c4]at K;simp(disch:=omega) only[b_,seval,DF,j_,ag,g7,K,g11,r7.t_,c3];refine s_ ⟨Y.length-(m+1),oM,rfl,m+1,iX,iX,iX,iX,iX,iX,(by rw[tk,decide_eq_true (List.mem_append_left _ c4)];simp),iS,oM,rfl⟩
     done
    ·rw[decide_eq_false c4]at K;have dd:decide ((x.1:Int)=(k:Int))=decide (k∈(Y.take (m+1)).map Prod.fst):=by
      rw[tk,XV];simp only[decide_eq_true_eq,Wa,Wi];constructor
      ·intro q;right;omega
      ·rintro(q|q);exact absurd q c4;omega
     simp(disch:=omega) only[b_,seval,DF,j_,ag,g7,g9,K,g11,r7.t_,c3,l0,y1,yq,dd];refine s_ ⟨Y.length-(m+1),oM,rfl,m+1,iX,iX,iX,iX,iX,iX,iS,iS,oM,rfl⟩
     done
   ·obtain rfl:m=Y.length:=oM
    rw[Xq]at K;by_cases c4:k∈Y.map Prod.fst
    ·rw[decide_eq_true c4]at K;simp(disch:=omega) only[b_,seval,ag,g7,g8,K,g11,r7.t_,c3];refine s_ ⟨12-(i+1),oM,F.c ac,i+1,vo,Y,iX,iX,iX,iX,iS,oM,oM,oM,gT.fr ac,ok,rfl⟩
     done
    ·rw[decide_eq_false c4]at K;have l9:aj h7 hh.e 0 2=some [ZX (k:Int),ZZ z]:=by rw[o7.N];rfl
     obtain⟨h8,ax⟩:∃h8,h8=h_ h7 (hc (k,z)):=⟨_,rfl⟩;have ae:Fr [] h7 h8:=ax▸WA ac.o _;have ba:e_ h8 h7.e (hc (k,z)):=ax▸Xc ac.o _;have e8:h_ h7 [ZX (k:Int),ZZ z]=h8:=ax.symm;simp only[b_,seval,g7,g9,K,g11,r7.t_,c3,l9,e8];have bn:=(F.c ac).e;apply YA (x:=(k,z)) ae.o ((gT.fr ac).fr ae) gL rfl oM ba (Wy bn ae.e) oM;intro v' h9 bk F9;have U9:=Gs.up ((gT.fr ac).fr ae) F9;simp(disch:=omega) only[b_,seval,ag,g8];refine s_ ⟨12-(i+1),oM,((F.c ac).c ae).ups ar.o U9,i+1,v',Y++[(k,z)],iX,iX,iX,iS,iS,oM,oM,by simp;omega,bk,⟨?_,?_,?_,by simp;omega⟩,rfl⟩
     ·intro q m;obtain m|m:=Wa.1 m
      ·exact ok.k q m
      ·rw[Wi.1 m];exact⟨by show 1<=k;omega,by show k<=12;omega⟩
     ·intro q m;obtain m|m:=Wa.1 m
      ·exact ok.s q m
      ·rw[Wi.1 m];exact⟨by show 1<=z;omega,by show z<=50;omega⟩
     ·rw[Xe,YT];exact⟨ok.n,iS,fun x m y my e=>by
       have:=Wi.1 my;subst this;subst e;exact c4 m⟩
  ·simp only[b_,seval,g2,g4,g6,g8,l3,al,c1,c2,a4];refine ai (c':=[vK,ZZ 12,ZZ (1+((vw%200:Nat):Int)),ZZ ((ov%4:Nat):Int),ZZ 1]) F.o (F.i o3) rfl (by show aw [_,_,_,_,_]=true;simp only[au,aB,k1];rfl) rfl ?_;rintro h6 o6 F6 n6;have l6:aj h6 h2.e 0 5=some [vK,ZZ 12,ZZ (1+((vw%200:Nat):Int)),ZZ ((ov%4:Nat):Int),ZZ 1]:=by rw[o6.N];rfl
   simp only[b_,seval,g4,g7,l6];refine⟨⟨Y,vo,rfl,Gs.ge (ZV gT F6 (by simp;have:=an.e;omega)) (by have:=ar.e;omega),ok⟩,F0.z F6 w oM⟩
 ·simp only[b_,seval,g2,g4,g6,g8,l3,al,c1,a4];refine ai (c':=[vK,ZZ 12,ZZ (1+((vw%200:Nat):Int)),ZZ ((ov%4:Nat):Int),ZZ 1]) F.o (F.i o3) rfl (by show aw [_,_,_,_,_]=true;simp only[au,aB,k1];rfl) rfl ?_;rintro h6 o6 F6 n6;have l6:aj h6 h2.e 0 5=some [vK,ZZ 12,ZZ (1+((vw%200:Nat):Int)),ZZ ((ov%4:Nat):Int),ZZ 1]:=by rw[o6.N];rfl
  simp only[b_,seval,g4,g7,l6];refine⟨⟨Y,vo,rfl,Gs.ge (ZV gT F6 (by simp;have:=an.e;omega)) (by have:=ar.e;omega),ok⟩,F0.z F6 w oM⟩
open Go.Ev.St
def fS(Ks:List p_)(E:List d_):List (Int×Bool×Bool):=E.map fun e=>(e.b,e.kn,bI Ks e.x)
theorem iB(Ks:List p_)(E:List d_):sz (fS Ks E)=E.map d_.b:=by simp[sz,fS]
theorem GO(Ks:List p_)(E:List d_):ky (fS Ks E)=E.map d_.kn:=by simp[ky,fS]
theorem GN(Ks:List p_)(E:List d_):sy (fS Ks E)=U1 Ks E:=by simp[sy,fS,U1]
open Go.Ev.St
def fk(k:Nat)(p:Nat×Int):Bool:=p.1==k
def T1(Ks:List p_)(Y:List (Nat×Int))(x:m_):Int:=match Y.find? (fk x.J)with
 |some p=>p.2
 |none=>aQ Ks x
section
variable {h : a_} {v vK vT : V} {Y : List (Nat × Int)} {Ks : List p_} {x : m_} {bp : Nat}
theorem Or{p:Nat×Int}(w:WF h)(o:e_ h bp x.s):ao go 72 [.B (hc p),.u bp 0] h fun u h'=>u=.h (fk x.J p)/\Fr [] h h':=by
 obtain⟨h1,Z⟩:∃h1,h1=h_ h (hc p):=⟨_,rfl⟩;have K:Fr [] h h1:=Z▸WA w _;have ac:e_ h1 h.e (hc p):=Z▸Xc w _;have e1:h_ h [ZX (p.1:Int),ZZ p.2]=h1:=Z.symm;have q0:ab h1 h.e 0=some (ZX (p.1:Int)):=ac.j 0;have ae:ab h1 bp 0=some (ZX (x.J:Int)):=(K.i o).j 0;have dd:decide ((p.1:Int)=(x.J:Int))=fk x.J p:=by unfold fk;rw[XV];simp;omega
 unfold hc;refine ah ?_;simp[b_,e1,q0,ae,dd];exact K
theorem M8(w:WF h)(a:q_ hc 2 h vT Y)(o:e_ h bp x.s)(hl:Y.length<=4096):ao go 71 [vT,.E (.func 72) [] [.u bp 0]] h fun u h'=>((∃(i:Nat)(p:Nat×Int),u=ZZ i/\Y[i]? =some p/\Y.find? (fk x.J)=some p)\/(u=ZZ (-1)/\Y.find? (fk x.J)=none))/\Fr [] h h':=by
 refine ah ?_;simp only[b_,seval,a.t_];refine aA (fun n env hh=>Fr [] h hh/\∃i:Nat,env.c_ 8=some (ZZ i)/\env.c_ 7=some (ZZ Y.length)/\env.c_ 0=some vT/\env.c_ 1=some (.E (.func 72) [] [.u bp 0])/\
  i<=Y.length/\(Y.drop i).find? (fk x.J)=Y.find? (fk x.J)/\n=Y.length-i) Y.length oM ?_ ?_
 ·exact⟨Wl w,0,iS,iS,iS,iS,oM,rfl,rfl⟩
 rintro n env hh ⟨F,i,g8,g7,g0,g1,hi,e,rfl⟩;by_cases c:(i:Int)<Y.length
 ·let⟨b,o',p,e1,_,e3,Z⟩:=(Xn a F).ix gL .i64 (i:Int) oM c;rw[pi]at Z;rw[aL Z,List.find?_cons]at e;simp only[b_,seval,g8,g7,g0,g1,c,e1,e3];refine aa (Or F.o (F.i o)) ?_;rintro _ h1 ⟨rfl,K⟩;cases q:fk x.J p
  ·rw[q]at e;simp(disch:=omega) only[b_,seval,ag,g8];refine s_ ⟨Y.length-(i+1),oM,F.c K,i+1,iS,iX,iX,iX,oM,e,rfl⟩
   done
  ·rw[q]at e;simp only[b_,seval];exact⟨.inl ⟨i,p,rfl,Z,e.symm⟩,F.c K⟩
 ·rw[Wo oM]at e;simp only[b_,seval,g8,g7,c];exact⟨.inr e.symm,F⟩
theorem HC(w:WF h)(a:q_ hc 2 h vT Y)(hl:Y.length<=4096)(om:x.vm.U=true)(rk:q_ p_.s 9 h vK Ks)(te:x.K<Ks.length)(hk:Ks.length<=256):
 ao go 26 [.B [vK,ZZ 12,ZZ view,ZZ over,ZZ 1],.B x.s,vT] h fun u h'=>u=ZZ (T1 Ks Y x)/\Fr [] h h':=by
 have k1:vK.U=true:=Xs rk;let⟨h1,K,ae,ak⟩:=aq w [vK,ZZ 12,ZZ view,ZZ over,ZZ 1];let⟨h2,an,ac,af⟩:=aq ae.o x.s;have n1:=x_ K;have Z:=ae.c ac;have e2:h_ h1 [ZX (x.J:Int),ZY (x.K:Int),.f x.X,x.vm]=h2:=an.symm;have o1:=ac.i ak;unfold m_.s;refine ah ?_;simp[b_,<-K,e2];refine aa (M8 Z.o (Xn a Z) af hl) ?_;rintro _ h3 ⟨(⟨i,p,rfl,e3,e4⟩|⟨rfl,e4⟩),F3⟩;let⟨b,o',p',y1,y2,y3,y4⟩:=(Xn a (Z.c F3)).ix gL .i64 (i:Int) oM (by have:=(Wk.1 e3).1;omega);rw[pi,e3]at y4;obtain rfl:=Xl y4;have q1:ab h3 b (o'+1)=some (ZZ p.2):=y2 1 oM;simp only[b_,seval,y1,q1,(oM:(0:Int)<=i)];exact⟨by rw[T1,e4],Z.c F3⟩;have l1:ab h3 h1.e 1=some (ZY (x.K:Int)):=(F3.i af).j 1;have l0:ab h3 h.e 0=some vK:=(F3.i o1).j 0;let⟨bk,ok',kd,ar,k2,_,k4⟩:=(Xn rk (Z.c F3)).ix cS .u8 (x.K:Int) oM oM;rw[pi]at k4;have l6:ab h3 bk (ok'+6)=some (ZZ kd.P):=k2 6 oM;simp(disch:=omega) only[b_,seval,ag,l1,l0,ZU rk,(oM:(x.K:Int)<Ks.length),ar,l6];exact⟨by rw[T1,e4];show _=ZZ (aQ Ks x);rw[aQ,k4],Z.c F3⟩
end
open Go.Ev.St
section
variable {h : a_} {v vK vT : V} {Y : List (Nat × Int)} {Ks : List p_} {m : Nat -> Option Nat} {b S c : Nat}
theorem MM{p:Nat×Int}(w:WF h)(k:Km h b S m c)(af:c<4096)(mk:m p.1=none)(p1:1<=p.1/\p.1<=12)(p2:1<=p.2/\p.2<=50):
 ao go 84 [.B (hc p),ZZ 1,.u b 0] h fun u h'=>u=ZZ 0/\∃S',(S'=S\/h.e<=S')/\Km h' b S' (gy m p.1 0) (c+1)/\Fr [b,S] h h':=by
 obtain⟨h1,K⟩:∃h1,h1=h_ h (hc p):=⟨_,rfl⟩;have Z:Fr [] h h1:=K▸WA w _;have ac:e_ h1 h.e (hc p):=K▸Xc w _;have e1:h_ h [ZX (p.1:Int),ZZ p.2]=h1:=K.symm;have q0:∀{h'},Fr [] h1 h'->ab h' h.e 0=some (ZX (p.1:Int)):=fun f=>(f.i ac).j 0;have q1:∀{h'},Fr [] h1 h'->ab h' h.e 1=some (ZZ p.2):=fun f=>(f.i ac).j 1;unfold hc;refine ah ?_;simp only[b_,seval,e1,q0 (Wl Z.o)];refine aa (mG Z.o (k.fr Z) oM) ?_;rintro _ h2 ⟨rfl,F2⟩;have ae:=Z.c F2;simp only[b_,seval,mk,fJ,q0 F2,q1 F2,eq_false (oM:¬(p.1:Int)=0),eq_false (oM:¬p.2<1),eq_false (oM:¬2305843009213693952<p.2)];apply aa (xW (x:=0) F2.o (k.fr ae) (.inl af) oM oM oM);rintro _ h3 ⟨rfl,S',s1,k3,F3⟩;rw[mk]at k3;simp only[b_,seval];have:=ae.e;exact⟨S',s1.imp id (fun q=>by omega),k3,ae.trans F3 w iS iS⟩
theorem Mo(w:WF h)(a:q_ hc 2 h vT Y)(ok:T? Y):ao go 35 [vT,ZZ 1] h fun u h'=>u=.D [ZZ 0,ZZ 0]/\Fr [] h h':=by
 have hl:=ok.l;refine ah ?_;simp[b_,a.t_,eq_false (oM:¬(256:Int)<Y.length)];refine aa (xX w) ?_;rintro _ h1 ⟨b,rfl,hb,k1,F1⟩;simp[b_,a.t_];refine aA (fun n env hh=>Fr [] h hh/\∃(i S:Nat)(m:Nat->Option Nat),env.c_ 24=some (ZZ i)/\env.c_ 23=some (ZZ Y.length)/\env.c_ 22=some vT/\env.c_ 1=some (ZZ 1)/\env.c_ 6=some (.u b 0)/\
  i<=Y.length/\h.e<=S/\Km hh b S m i/\(∀k,m k≠none->k∈(Y.take i).map Prod.fst)/\n=Y.length-i) Y.length oM ?_ ?_
 exact⟨F1,0,b,_,iS,iS,iS,iS,iS,oM,hb,k1,fun k x=>absurd rfl x,rfl⟩;rintro n env hh ⟨F,i,S,m,ac,ak,ar,g1,g6,hi,hS,km,hm,rfl⟩;by_cases c:(i:Int)<Y.length;let⟨bi,oi,p,e1,_,e3,e4⟩:=(Xn a F).ix gL .i64 (i:Int) oM c;rw[pi]at e4;have em:=Wc e4;have ax:aj hh bi oi 2=some [ZX (p.1:Int),ZZ p.2]:=e3;have tk:(Y.take (i+1)).map Prod.fst=(Y.take i).map Prod.fst++[p.1]:=by rw[Wn,e4];simp
 have mn:m p.1=none:=by
  cases q:m p.1 with
  |none=>rfl
  |some z=>
   exfalso;have h1:=hm p.1 (by rw[q];simp);have nd:=ok.n;have:Y.map Prod.fst=(Y.take i).map Prod.fst++p.1::(Y.drop (i+1)).map Prod.fst:=by rw[<-WK (f:=Prod.fst),<-aL e4,<-Xe,WO]
   rw[this,YT]at nd;exact nd.2.2 _ h1 _ iS rfl
 let⟨h2,ae,Z,an⟩:=aq F.o [ZX 0,ZZ 0];simp only[b_,seval,ac,ak,ar,c,e1,ax,<-ae];apply B_ Z.o an;rintro h3 o3 F3 n3;have K:Fr [] hh h3:=Z.z F3 F.o (VZ _);have l3:aj h3 hh.e 0 2=some [ZX (p.1:Int),ZZ p.2]:=by rw[o3.N];rfl
 simp only[b_,seval,g1,g6,l3];apply aa (MM (p:=p) K.o (km.fr K) oM mn (ok.k p em) (ok.s p em));rintro _ h4 ⟨rfl,S',s1,k4,F4⟩;have af:=F.c K;have ay:=af.e;simp(disch:=omega) only[b_,seval,ag,ac];refine s_ ⟨Y.length-(i+1),oM,XD w af F4 oO,i+1,S',gy m p.1 0,iS,iX,iX,iX,iX,oM,by obtain rfl|q:=s1<;>omega,k4,?_,rfl⟩
 intro k hk;rw[tk,Wa,Wi];by_cases q:k=p.1;exact .inr q;refine .inl (hm k ?_);simpa[gy,q]using hk;simp[b_,ac,ak,c];exact F
theorem KC(w:WF h)(rk:q_ p_.s 9 h vK Ks)(kh:∀q∈Ks,Q9 h q)(hk:Ks.length<=256)(r:X5 Ks 12=true)(v1:1<=view)(v2:view<=2147483648)(o1:0<=over)(o2:over<=16):
 ao go 42 [.B [vK,ZZ 12,ZZ view,ZZ over,ZZ 1]] h fun u h'=>u=ZZ 0/\Fr [] h h':=by
 have k1:vK.U=true:=Xs rk;let⟨h1,ac,Z,K⟩:=aq w [vK,ZZ 12,ZZ view,ZZ over,ZZ 1];have l0:aj h1 h.e 0 2=some [vK,ZZ 12]:=by rw[K.N];rfl
 refine ah ?_;simp[b_,<-ac,l0];refine aa (nM Z.o (Xn rk Z) (fun q m=>(kh q m).fr Z) oM) ?_;rintro _ h2 ⟨rfl,F2⟩;rw[r];have o:=F2.i K;have l2:ab h2 h.e 2=some (ZZ view):=o.j 2;have l3:ab h2 h.e 3=some (ZZ over):=o.j 3;have l4:ab h2 h.e 4=some (ZZ 1):=o.j 4;simp[b_,l2,l3,l4,decide_eq_false (oM:¬view<1),decide_eq_false (oM:¬2147483648<view),decide_eq_false (oM:¬over<0),decide_eq_false (oM:¬16<over)];exact Z.c F2
end
open Go.Ev.St
structure H?(h:a_)(Ks:List p_)(vK:V)(Y:List (Nat×Int))(vT:V)(view over:Int):Prop where
 w:WF h
 i:q_ p_.s 9 h vK Ks
 j:∀q∈Ks,Q9 h q
 r:X5 Ks 12=true/\Ks.length=3/\GK Ks
 t:q_ hc 2 h vT Y
 o:T? Y
 f:T7 view over
def AZ(k:Nat)(a d:Int)(m:Nat->Option Nat)(n:Nat):Prop:=0<=d/\d<=2305843009213693952/\k<18446744073709551616/\((k=0/\a=-1/\d=0/\n=0)\/(k≠0/\∃i:Nat,a=i/\m k=some i))
section
variable {h : a_} {v vK vT : V} {E : List d_} {Y : List (Nat × Int)} {Ks : List p_} {view over a d : Int} {m : Nat -> Option Nat} {k : Nat}
theorem H?.e(g:H? h Ks vK Y vT view over)(f:Fr [] h h'):H? h' Ks vK Y vT view over:=⟨f.o,Xn g.i f,fun q m=>(g.j q m).fr f,g.r,Xn g.t f,g.o,g.f⟩
theorem D8(g:H? h Ks vK Y vT view over)(re:q_ d_.s 6 h v E)(lo:V0 Ks h E)(ix:R2 m E)(an:AZ k a d m E.length):
 ao go 10 [.B [vK,ZZ 12,ZZ view,ZZ over,ZZ 1],.B [v],vA k d,vT] h fun u h'=>u=ZZ 0/\Fr [] h h':=by
 have w:=g.w;have k1:vK.U=true:=Xs g.i;have o:=Xs re;let⟨d0,d1,kb,ak⟩:=an;let⟨f1,f2,f3,f4⟩:=g.f;have k3:=g.r.2.1;have el:=lo.l;let⟨h1,ae,ay,a0⟩:=aq w [vK,ZZ 12,ZZ view,ZZ over,ZZ 1];let⟨h2,ar,ax,aR⟩:=aq ay.o [v];let⟨h3,aJ,az,af⟩:=aq ax.o [ZX (k:Int),ZZ d];have n1:=x_ ae;have n2:=x_ ar;have aN:=ax.c az;have Z:=ay.c aN;have o1:=aN.i a0;have o2:=az.i aR;have y0:∀{h'},Fr [] h3 h'->aj h' h.e 0 5=some [vK,ZZ 12,ZZ view,ZZ over,ZZ 1]:=fun f=>by rw[(f.i o1).N];rfl
 have y1:∀{h'},Fr [] h3 h'->aj h' h.e 0 2=some [vK,ZZ 12]:=fun f=>by rw[(f.i o1).N];rfl
 have y4:∀{h'},Fr [] h3 h'->ab h' h.e 4=some (ZZ 1):=fun f=>(f.i o1).j 4;have yl:∀{h'},Fr [] h3 h'->aj h' h1.e 0 1=some [v]:=fun f=>by rw[(f.i o2).N];rfl
 have ya:∀{h'},Fr [] h3 h'->aj h' h2.e 0 2=some [ZX (k:Int),ZZ d]:=fun f=>by rw[(f.i af).N];rfl
 have yk:∀{h'},Fr [] h3 h'->ab h' h2.e 0=some (ZX (k:Int)):=fun f=>(f.i af).j 0;have r3:Fr [] h3 h3:=Wl Z.o;refine ah ?_;simp[b_,<-ae,<-ar,<-aJ,y0 r3];refine aa (KC Z.o (g.e Z).i (g.e Z).j oM g.r.1 f1 f2 f3 f4) ?_;rintro _ h4 ⟨rfl,F4⟩;simp[b_,y1 F4,yl F4];apply aa (qy F4.o (g.e (Z.c F4)).i (g.e (Z.c F4)).j (re.fr (Z.c F4)) (lo.f (Z.c F4)));rintro _ h5 ⟨rfl,F5⟩;have aH:=F4.c F5;simp[b_,y4 aH];apply aa (Mo F5.o (g.e (Z.c aH)).t g.o);rintro _ h6 ⟨rfl,F6⟩;have aT:=aH.c F6;simp[b_,ya aT];refine aa (w9 F6.o d0 d1 (fun z=>by obtain⟨_,_,e,_⟩|⟨e,_⟩:=ak;exact e;exact absurd z e)) ?_
 rintro _ h7 ⟨rfl,F7⟩;have ac:=aT.c F7;simp[b_,yl ac,yk ac];apply aa (zS F7.o (re.fr (Z.c ac)) (fun e em=>((lo.h e em).1).fr (Z.c ac)) oM ix);rintro _ h8 ⟨rfl,F8⟩;have K:=ac.c F8;obtain⟨k0,_⟩|⟨k0,i,_,hi⟩:=ak;cases mk:m k with
 |none=>simp only[b_,seval,fJ,yk K,decide_eq_true (oM:(k:Int)=0)];exact Z.c K
 |some z=>simp only[b_,seval,fJ,yk K,decide_eq_true (oM:(k:Int)=0)];exact Z.c K
 simp only[b_,seval,hi,fJ,yk K,decide_eq_false (oM:¬(k:Int)=0)];exact Z.c K
theorem JZ(g:H? h Ks vK Y vT view over)(re:q_ d_.s 6 h v E)(lo:V0 Ks h E)(nE:v≠.L):
 ao go 67 [.B [vK,ZZ 12,ZZ view,ZZ over,ZZ 1],.B [v]] h fun u h'=>(∃v' Z,u=.B [v']/\Y7 h.e h' v' Z/\Z.map d_.sx=E.map d_.sx/\∀z∈Z,u_ h' z.x)/\Fr [] h h':=by
 have w:=g.w;have k1:vK.U=true:=Xs g.i;have o:=Xs re;have el:=lo.l;let⟨h1,af,ar,a1⟩:=aq w [vK,ZZ 12,ZZ view,ZZ over,ZZ 1];let⟨h2,ak,an,a0⟩:=aq ar.o [v];let⟨h3,ax,az,aH⟩:=aq an.o [.r];have n1:=x_ af;have n2:=x_ ak;have n3:=x_ ax;have aR:=an.c az;have K:=ar.c aR;have o1:=aR.i a1;have o2:=az.i a0;have y1:aj h3 h.e 0 2=some [vK,ZZ 12]:=by rw[o1.N];rfl
 have yl:aj h3 h1.e 0 1=some [v]:=by rw[o2.N];rfl
 have g3:=g.e K;refine ah ?_;simp only[b_,seval,<-af,<-ak,<-ax,y1,yl];refine aa (Kp (a:=0) (c:=0) ⟨K.o,g3.i,g3.j,re.fr K,lo.f K⟩ nE ⟨oM,oM⟩ ⟨oM,oM⟩ el) ?_;rintro _ h4 ⟨F4,v',rfl,a3,aT,_,hz⟩;let⟨Z,lz,ez,iz⟩:=hz (if_neg (by unfold pM;omega));have er:kP E (0:Int).toNat (0:Int).toNat=E:=by simp[kP]
 rw[er]at ez;let⟨h5,ay,ae,aJ⟩:=aq F4.o [.r];have n5:=x_ ay;have n4:=F4.e;simp only[b_,seval,<-ay];refine ai (v:=.B [v']) (c':=[v']) ae.o aJ rfl (by show aw [_]=true;simp only[au,aB,aT];rfl) rfl ?_;rintro h6 o6 F6 n6;have l6:aj h6 h4.e 0 1=some [v']:=by rw[o6.N];rfl
 have ac:Fr [] h4 h6:=ae.z F6 F4.o (VZ _);simp only[b_,seval,l6];refine ai (v:=.B [v']) (c':=[v']) ac.o ((F4.c ac).i aH) rfl (by show aw [_]=true;simp only[au,aB,aT];rfl) rfl ?_;rintro h7 o7 F7 n7;have l7:aj h7 h2.e 0 1=some [v']:=by rw[o7.N];rfl
 simp only[b_,seval,l7];have a2:=lz.keep ac iS;have aN:=a2.keep F7 oO;exact⟨⟨v',Z,rfl,aN.le oM,ez,aN.itm iz⟩,(K.c (F4.c ac)).z F7 w oM⟩
end
open Go.Ev.St
def tI(m:Nat->Option Nat)(p:Nat×Int):Int:=if p.1=0 then 9 else if p.2<1\/2305843009213693952<p.2 then 12 else if(m p.1).isSome=true then 8 else 0
def Z_:(Nat->Option Nat)->Nat->List (Nat×Int)->Nat×Int
 |_,_,[]=>(0,0)
 |m,i,p::Y=>if tI m p=0 then Z_ (gy m p.1 0) (i+1) Y else(i,tI m p)
def acE(k:Nat)(d:Int):Int:=if d<0\/2305843009213693952<d\/(k=0/\0<d)then 1 else 0
def htK(x:Nat×Int):List V:=[ZX (x.1:Int),ZZ x.2]
def H64(Tl:List (Nat×Int)):Prop:=∀x∈Tl,x.1<18446744073709551616/\-9223372036854775808<=x.2/\x.2<=9223372036854775807
theorem Gq:∀(Y:List (Nat×Int))(m:Nat→Option Nat)(i:Nat),(Z_ m i Y).2=0→∀p∈Y,1≤p.2∧p.2≤2305843009213693952
 |[],_,_,_=>by simp
 |q::Y,m,i,e=>by rw[Z_]at e;by_cases c:tI m q=0;rw[if_pos c]at e;intro p mp;obtain rfl|mp:=List.mem_cons.1 mp;unfold tI at c;split at c;omega;omega;exact Gq Y _ _ e p mp;grind
section
variable {h : a_} {v vK vT : V} {Tl : List (Nat × Int)} {m : Nat -> Option Nat} {b S c k : Nat} {d : Int}
theorem J5{p:Nat×Int}(w:WF h)(k:Km h b S m c)(af:c<4096)(k1:p.1<18446744073709551616)(k2:-9223372036854775808<=p.2/\p.2<=9223372036854775807):
 ao go 84 [.B (htK p),ZZ 1,.u b 0] h fun u h'=>u=ZZ (tI m p)/\(tI m p≠0->Fr [] h h')/\(tI m p=0->∃S',(S'=S\/h.e<=S')/\Km h' b S' (gy m p.1 0) (c+1)/\Fr [b,S] h h'):=by
 obtain⟨h1,ac⟩:∃h1,h1=h_ h (htK p):=⟨_,rfl⟩;have K:Fr [] h h1:=ac▸WA w _;have ae:e_ h1 h.e (htK p):=ac▸Xc w _;have e1:h_ h [ZX (p.1:Int),ZZ p.2]=h1:=ac.symm;have q0:∀{h'},Fr [] h1 h'->ab h' h.e 0=some (ZX (p.1:Int)):=fun f=>(f.i ae).j 0;have q1:∀{h'},Fr [] h1 h'->ab h' h.e 1=some (ZZ p.2):=fun f=>(f.i ae).j 1;unfold htK;refine ah ?_;simp only[b_,↓reduceIte,Nat.reduceEqDiff,Nat.reduceAdd,e1,q0 (Wl K.o)];refine aa (mG K.o (k.fr K) k1) ?_;rintro _ h2 ⟨rfl,F2⟩;have Z:=K.c F2;obtain⟨y,z,gv,ez⟩:∃(y:Int)(z:Bool),fJ (m p.1)=.D [ZZ y,.h z]/\z=(m p.1).isSome:=by
  cases q:m p.1 with
  |none=>exact⟨0,false,rfl,rfl⟩
  |some x=>exact⟨(x:Nat),true,rfl,rfl⟩
 unfold tI;by_cases c0:p.1=0;rw[if_pos c0];simp only[b_,↓reduceIte,Nat.reduceEqDiff,gv,q0 F2,eq_true (oM:(p.1:Int)=0)];exact⟨fun _=>Z,fun x=>absurd x dI⟩;rw[if_neg c0];by_cases c1:p.2<1;rw[if_pos (.inl c1)];simp only[b_,↓reduceIte,Nat.reduceEqDiff,gv,q0 F2,q1 F2,eq_false (oM:¬(p.1:Int)=0),eq_true c1];exact⟨fun _=>Z,fun x=>absurd x dI⟩;by_cases c2:2305843009213693952<p.2;rw[if_pos (.inr c2)];simp only[b_,↓reduceIte,Nat.reduceEqDiff,gv,q0 F2,q1 F2,eq_false (oM:¬(p.1:Int)=0),eq_false c1,eq_true c2];exact⟨fun _=>Z,fun x=>absurd x dI⟩;rw[if_neg oM,<-ez];cases z;have mk:m p.1=none:=by
  cases q:m p.1 with
  |none=>rfl
  |some x=>rw[q]at ez;simp at ez
 simp only[b_,↓reduceIte,Nat.reduceEqDiff,gv,q0 F2,q1 F2,eq_false (oM:¬(p.1:Int)=0),eq_false c1,eq_false c2];apply aa (xW (x:=0) F2.o (k.fr Z) (.inl af) oM k1 oM);rintro _ h3 ⟨rfl,S',s1,k3,F3⟩;rw[mk]at k3;simp only[b_,↓reduceIte];have:=Z.e;exact⟨fun x=>absurd rfl x,fun _=>⟨S',s1.imp id (fun q=>by omega),k3,Z.trans F3 w iS iS⟩⟩;simp only[b_,↓reduceIte,Nat.reduceEqDiff,gv,q0 F2,q1 F2,eq_false (oM:¬(p.1:Int)=0),eq_false c1,eq_false c2];exact⟨fun _=>Z,fun x=>absurd x dI⟩
theorem JH(w:WF h)(a:C_ htK 2 h vT Tl)(hT:H64 Tl)(hl:Tl.length<=256):ao go 35 [vT,ZZ 1] h fun u h'=>u=.D [ZZ ((Z_ (fun _=>none) 0 Tl).1:Nat),ZZ (Z_ (fun _=>none) 0 Tl).2]/\Fr [] h h':=by
 refine ah ?_;simp[b_,a.t_,eq_false (oM:¬(256:Int)<Tl.length)];refine aa (xX w) ?_;rintro _ h1 ⟨b,rfl,hb,k1,F1⟩;simp[b_,a.t_];refine aA (fun n env hh=>Fr [] h hh/\∃(i S:Nat)(m:Nat->Option Nat),env.c_ 24=some (ZZ i)/\env.c_ 23=some (ZZ Tl.length)/\env.c_ 22=some vT/\env.c_ 1=some (ZZ 1)/\env.c_ 6=some (.u b 0)/\
  i<=Tl.length/\h.e<=S/\Km hh b S m i/\Z_ (fun _=>none) 0 Tl=Z_ m i (Tl.drop i)/\n=Tl.length-i) Tl.length oM ?_ ?_
 exact⟨F1,0,b,_,iS,iS,iS,iS,iS,oM,hb,k1,rfl,rfl⟩;rintro n env hh ⟨F,i,S,m,ae,ak,ar,g1,g6,hi,hS,km,hm,rfl⟩;by_cases c:(i:Int)<Tl.length;let⟨bi,oi,p,e1,_,e3,e4⟩:=(a.fr F).ix (f:=htK) (k:=2) (fun _=>rfl) .i64 (i:Int) oM c;rw[pi]at e4;have em:=Wc e4;let⟨k1,k2⟩:=hT p em;have ax:aj hh bi oi 2=some [ZX (p.1:Int),ZZ p.2]:=e3;rw[aL e4,Z_]at hm;let⟨h2,af,Z,an⟩:=aq F.o [ZX 0,ZZ 0];simp only[b_,seval,ae,ak,ar,c,e1,ax,<-af];apply B_ Z.o an;rintro h3 o3 F3 n3;have K:Fr [] hh h3:=Z.z F3 F.o (VZ _);have l3:aj h3 hh.e 0 2=some [ZX (p.1:Int),ZZ p.2]:=by rw[o3.N];rfl
 simp only[b_,seval,g1,g6,l3];apply aa (J5 (p:=p) K.o (km.fr K) oM k1 k2);rintro _ h4 ⟨rfl,x1,x2⟩;have ac:=F.c K;have ay:=ac.e;by_cases z:tI m p=0;rw[if_pos z]at hm;let⟨S',s1,k4,F4⟩:=x2 z;rw[z];simp(disch:=omega) only[b_,seval,ag,ae];refine s_ ⟨Tl.length-(i+1),oM,XD w ac F4 oO,i+1,S',gy m p.1 0,iS,iX,iX,iX,iX,oM,by obtain rfl|q:=s1<;>omega,k4,hm,rfl⟩
 rw[if_neg z]at hm;simp only[b_,seval,eq_false z];rw[hm];exact⟨rfl,ac.c (x1 z)⟩;obtain rfl:i=Tl.length:=oM;rw[XR,Z_]at hm;simp only[b_,seval,ae,ak,c];rw[hm];exact⟨rfl,F⟩
theorem Ce(w:WF h):ao go 36 [vA k d] h fun u h'=>u=ZZ (acE k d)/\Fr [] h h':=by let⟨h1,K,Z,ac⟩:=aq w [ZX (k:Int),ZZ d];have l0:ab h1 h.e 0=some (ZX (k:Int)):=ac.j 0;have l1:ab h1 h.e 1=some (ZZ d):=ac.j 1;unfold acE;by_cases d0:d<0;rw[if_pos (.inl d0)];refine ah ?_;simp[b_,<-K,l1,eq_true d0];exact Z;by_cases d1:2305843009213693952<d;rw[if_pos (.inr (.inl d1))];refine ah ?_;simp[b_,<-K,l1,eq_false d0,eq_true d1];exact Z;by_cases c:k=0;by_cases e:0<d;rw[if_pos (.inr (.inr ⟨c,e⟩))];refine ah ?_;simp only[b_,seval,<-K,l0,l1,decide_eq_false d0,decide_eq_false d1,decide_eq_true (oM:(k:Int)=0),decide_eq_true e];exact Z;rw[if_neg oM];refine ah ?_;simp only[b_,seval,<-K,l0,l1,decide_eq_false d0,decide_eq_false d1,decide_eq_true (oM:(k:Int)=0),decide_eq_false e];exact Z;rw[if_neg oM];refine ah ?_;simp only[b_,seval,<-K,l0,l1,decide_eq_false d0,decide_eq_false d1,decide_eq_false (oM:¬(k:Int)=0)];exact Z
end
open Go.Ev.St
def O?(m:Nat->Option Nat)(k:Nat)(d:Int)(Tl:List (Nat×Int)):Int:=
 if(Z_ (fun _=>none) 0 Tl).2=0 then if acE k d=0 then if k≠0/\m k=none then 11 else 0 else acE k d else(Z_ (fun _=>none) 0 Tl).2
theorem OI{m:Nat->Option Nat}{k:Nat}{d:Int}{Tl:List (Nat×Int)}(e:O? m k d Tl=0):(Z_ (fun _=>none) 0 Tl).2=0/\acE k d=0/\¬(k≠0/\m k=none):=by unfold O? at e;by_cases a:(Z_ (fun _=>none) 0 Tl).2=0;grind;omega
section
variable {h : a_} {v vK vT vT' : V} {E : List d_} {Y Tl : List (Nat × Int)} {Ks : List p_} {view over d : Int} {m : Nat -> Option Nat} {k : Nat}
end
open Go.Ev.St
section
variable {Ks : List p_} {Y : List (Nat × Int)}
def msE(Ks:List p_)(Y:List (Nat×Int))(e:d_):d_:=⟨e.x,T1 Ks Y e.x,true⟩
def di(Ks:List p_)(Y:List (Nat×Int))(E:List d_)(i:Int):List d_:=match E[i.toNat]? with
 |some e=>E.set i.toNat (msE Ks Y e)
 |none=>E
theorem A7(E:List d_)(i:Int):(di Ks Y E i).map d_.x=E.map d_.x:=by unfold di;split;rename_i e q;rw[YO];apply Yy;intro j;rw[Zp];split;rename_i h;subst h;split;simp[q,msE];grind;rfl;rfl
theorem yX(E:List d_)(i:Int):(di Ks Y E i).length=E.length:=by have:=congrArg List.length (A7 (Ks:=Ks) (Y:=Y) E i);simpa using this
theorem xE(U:List Int):∀E:List d_,(U.foldl (di Ks Y) E).map d_.x=E.map d_.x:=by
 induction U with
 |nil=>intro E;rfl
 |cons i U ih=>intro E;rw[ZC,ih,A7]
theorem DY(U:List Int)(E:List d_):(U.foldl (di Ks Y) E).length=E.length:=by have:=congrArg List.length (xE (Ks:=Ks) (Y:=Y) U E);simpa using this
theorem HD(t:T? Y)(r:RK Ks){x:m_}(o:Q2 x 3=true):1<=T1 Ks Y x/\T1 Ks Y x<=50:=by unfold T1;split;rename_i p q;exact t.s p (List.mem_of_find?_eq_some q);exact r.d o
theorem LV.e{E:List d_}(t:T? Y)(r:RK Ks)(a:LV Ks E)(i:Int):LV Ks (di Ks Y E i):=by unfold di;split;rename_i e q;have K:=Wc q;refine⟨fun z m=>?_,fun z m k=>?_,fun z m k=>?_,?_⟩;obtain m|rfl:=WQ m;exact a.o z m;exact a.o e K;obtain m|rfl:=WQ m;exact a.b z m k;cases k;obtain m|rfl:=WQ m;exact a.c z m k;exact HD t r (a.o e K).1;have:=A7 (Ks:=Ks) (Y:=Y) E i;rw[di,q]at this;have Z:=congrArg (List.map m_.J) this;rw[WL,WL]at Z;have n:=a.n;unfold kW at n|-;exact Z▸n;exact a
theorem LV.i(t:T? Y)(r:RK Ks)(U:List Int):∀{E:List d_},LV Ks E->LV Ks (U.foldl (di Ks Y) E):=by
 induction U with
 |nil=>intro E a;exact a
 |cons i U ih=>intro E a;exact ih (a.e t r i)
theorem oF{m:Int→Int}(t:T? Y)(r:RK Ks):∀(A:List Int)(E:List d_)(mo:Bool),A.Nodup→(∀i∈A,0≤i∧i<E.length)→LV Ks E→E.length≤1000→(∀i∈A,∀e,E[i.toNat]? =some e→m i=T1 Ks Y e.x)→
 aV m A (E.map d_.b) (E.map d_.kn) mo=(0,(((A.filter fun i=> !(E.map d_.kn).getD i.toNat false).foldl (di Ks Y) E).map d_.b),(((A.filter fun i=> !(E.map d_.kn).getD i.toNat false).foldl (di Ks Y) E).map d_.kn),mo|| !(A.filter fun i=> !(E.map d_.kn).getD i.toNat false).isEmpty)
 |[],E,mo,_,_,_,_,_=>by simp[aV]
 |i::A,E,mo,nd,rg,lv,hl,hm=>by
  let⟨i0,i1⟩:=rg i iS;obtain⟨n,rfl⟩:∃n:Nat,i=n:=⟨i.toNat,oM⟩;obtain⟨e,he⟩:∃e,E[n]? =some e:=⟨_,List.getElem?_eq_getElem oM⟩;have em:=List.mem_of_getElem? he;have nd':=(List.nodup_cons.1 nd);have kg:(E.map d_.kn).getD (n:Int).toNat false=e.kn:=by simp[List.getD,he]
  rw[aV,if_pos ⟨i0,by simpa using i1⟩];cases ek:e.kn;have hm1:=hm n iS e (eV he);have mi:=HD (Ks:=Ks) t r (lv.o e em).1;have xz:bJ (E.map d_.b) (n:Int) (m n)=0:=yK (lv.d r) (eV hl) (by rw[hm1];exact mi) oO;have es:di Ks Y E (n:Int)=E.set n (msE Ks Y e):=by unfold di;rw[Int.toNat_natCast,he]
  have sb:(di Ks Y E (n:Int)).map d_.b=(E.map d_.b).set (n:Int).toNat (m n):=by rw[es,List.map_set,hm1];rfl
  have sk:(di Ks Y E (n:Int)).map d_.kn=(E.map d_.kn).set (n:Int).toNat true:=by rw[es,List.map_set];rfl
  have ex:∀j∈A,j.toNat≠n:=by grind
  have fl:A.filter (fun i=> !((di Ks Y E (n:Int)).map d_.kn).getD i.toNat false)=A.filter (fun i=> !(E.map d_.kn).getD i.toNat false):=by apply List.filter_congr;intro j jm;rw[sk,Int.toNat_natCast];have:=ex j jm;simp[List.getD,Ne.symm this]
  have ih:=oF t r A (di Ks Y E (n:Int)) true nd'.2 (fun j jm=>by rw[yX];exact rg j iX) (lv.e t r _) (by rw[yX];exact hl) (fun j jm z hz=>by
   rw[es,List.getElem?_set,if_neg (Ne.symm (ex j jm))]at hz;exact hm j iX z hz)
  rw[if_neg (by rw[kg,ek];simp),if_pos xz,←sb,←sk,ih,fl,List.filter_cons,if_pos (by rw[kg,ek];rfl)];simp;rw[if_pos (by rw[kg,ek]),List.filter_cons,if_neg (by rw[kg,ek];simp)];exact oF t r A E mo nd'.2 (fun j jm=>rg j iX) lv hl (fun j jm=>hm j iX)
theorem BX{l:List Int}{s:Int}{A:List Int}(a:qR l bs view over s A):A.Nodup:=by obtain⟨Z,_,rfl⟩:=a;split;simp;unfold qJ;exact List.Pairwise.map _ (fun a b h e=>h (by have e:(a:Int)=b:=e;omega)) (List.Pairwise.filter _ List.nodup_range)
end
open Go.Ev.St
section
variable {h : a_} {vZ vK vT : V} {E : List d_} {Y : List (Nat × Int)} {Ks : List p_} {view over a d : Int} {m : Nat -> Option Nat} {k N : Nat}
structure OL(N:Nat)(h:a_)(vZ:V)(Ks:List p_)(E:List d_):Prop where
 f:Y7 N h vZ E
 o:∀e∈E,u_ h e.x
 j:LV Ks E
 n:E.length<=1000
def Z2(v:V):List Nat:=match v with
 |.y b _ _ _=>[b]
 |_=>[]
theorem OL.u{S:List Nat}(o:OL N h vZ Ks E)(f:Fr S h h')(l:∀y∈S,y<N):OL N h' vZ Ks E:=⟨o.f.keep f l,(o.f.keep f l).itm o.o,o.j,o.n⟩
theorem OL.e(o:OL N h vZ Ks E)(f:Fr [] h h'):OL N h' vZ Ks E:=o.u f iS
theorem OL.i(o:OL N h vZ Ks E)(r:RK Ks):V0 Ks h E:=o.j.g r o.o o.n
theorem OL.r(o:OL N h vZ Ks E)(r:RK Ks):LQ h vZ E:=⟨o.f.rs,o.o,o.n,(o.i r).e,by have:=(o.i r).g;omega⟩
theorem OL.t{b i:Nat}{e z:d_}(o:OL N h vZ Ks E)(hv:vZ=.y b 0 E.length E.length)(he:E[i]? =some e)(hx:z.x=e.x)(f:Fr [b] h h')(ow:e_ h' b ((E.set i z).flatMap d_.s))(lv:LV Ks (E.set i z)):OL N h' vZ Ks (E.set i z):=by
 let⟨ls,it,_,n⟩:=o;obtain⟨rfl,_⟩|⟨b',e',hb,_,cp⟩:=ls;simp at he;rw[hv]at e';obtain rfl:b=b':=by cases e';rfl
 have Z:∀y∈E.set i z,R0 (b+1) h' y.x.vm y.x.C:=by intro y ym;obtain q|rfl:=WQ ym;exact(cp y q).fr f iS;rw[hx];exact(cp e (Wc he)).fr f iS
 refine⟨.inr ⟨b,by rw[hv,WV],hb,ow,Z⟩,fun y ym=>?_,lv,by simpa using n⟩;have K:u_ h y.x:=by grind
 exact⟨K.k,K.t,Sl.a (Z y ym).rs,K.n,K.l⟩
theorem Mz{w0:a_}(g0:H? w0 Ks vK Y vT view over)(o:OL N h vZ Ks E)(ix:R2 m E)(an:AZ k a d m E.length)(F0:Fr [] w0 h)(hN:w0.e<=N):
 ao go 68 [.B [vK,ZZ 12,ZZ view,ZZ over,ZZ 1],.B [vZ],vA k d,vT] h fun u h'=>Fr (Z2 vZ) h h'/\∃A s U,qR (E.map d_.b) (U1 Ks E) view over s A/\(∀i∈A,0<=i/\i<E.length)/\s=aX (E.map d_.b) view (Br (E.map d_.b) a d)/\U=(A.filter fun i=> !(E.map d_.kn).getD i.toNat false)/\
  u=.D [ZZ s,ZZ U.length,ZZ 0]/\OL N h' vZ Ks (U.foldl (di Ks Y) E):=by
 have g:=g0.e F0;have w:=g.w;have k1:vK.U=true:=Xs g.i;have oz:=Xs o.f.rs;let⟨d0,d1,kb,ak⟩:=an;let⟨f1,f2,f3,f4⟩:=g.f;have k3:=g.r.2.1;let⟨h1,ae,az,bi⟩:=aq w [vK,ZZ 12,ZZ view,ZZ over,ZZ 1];let⟨h2,ar,ax,a6⟩:=aq az.o [vZ];let⟨h3,af,ay,a8⟩:=aq ax.o [ZX (k:Int),ZZ d];have n1:=x_ ae;have n2:=x_ ar;have n3:=x_ af;have a9:=ax.c ay;have ac:=az.c a9;have o1:=a9.i bi;have o2:=ay.i a6;have y0:∀{h'},Fr [] h3 h'->aj h' h.e 0 5=some [vK,ZZ 12,ZZ view,ZZ over,ZZ 1]:=fun f=>by rw[(f.i o1).N];rfl
 have y1:∀{h'},Fr [] h3 h'->aj h' h.e 0 2=some [vK,ZZ 12]:=fun f=>by rw[(f.i o1).N];rfl
 have y2:∀{h'},Fr [] h3 h'->ab h' h.e 2=some (ZZ view):=fun f=>(f.i o1).j 2;have y3:∀{h'},Fr [] h3 h'->ab h' h.e 3=some (ZZ over):=fun f=>(f.i o1).j 3;have yl:∀{h'},Fr [] h3 h'->aj h' h1.e 0 1=some [vZ]:=fun f=>by rw[(f.i o2).N];rfl
 have ya:∀{h'},Fr [] h3 h'->aj h' h2.e 0 2=some [ZX (k:Int),ZZ d]:=fun f=>by rw[(f.i a8).N];rfl
 have r3:Fr [] h3 h3:=Wl ac.o;have o3:=o.e ac;have cl:=oS (E.map d_.b) view (Br (E.map d_.b) a d);obtain⟨s,es⟩:∃s,s=aX (E.map d_.b) view (Br (E.map d_.b) a d):=⟨_,rfl⟩;refine ah ?_;simp only[b_,seval,<-ae,<-ar,<-af,yl r3,y2 r3,ya r3];refine aa (Em ac.o (o3.r g.r) ix f1 f2 d0 d1 (by obtain⟨e1,e2,e3,_⟩|q:=ak;exact .inl ⟨e1,e2,e3⟩;exact .inr q)) ?_
 rintro _ h4 ⟨rfl,F4⟩;rw[<-es]at cl|-;have aH:=ac.c F4;have g4:=g.e aH;have o4:=o.e aH;simp only[b_,seval,y1 F4,y2 F4,y3 F4,yl F4];apply aa (Mn F4.o (o4.r g.r) g4.i g4.j (o4.i g.r) g.f cl);rintro _ h5 ⟨F5,A,u',c,rfl,hc,tb,att,la,rg⟩;obtain⟨U,eU⟩:∃U,U=(A.filter fun i=> !(E.map d_.kn).getD i.toNat false):=⟨_,rfl⟩;rw[<-eU]at tb;have hU:U.length<=E.length:=by grind
 have on:=o.n;have bt:=aH.c F5;have ca:=F4.c F5;have bT:∀i∈U,0<=i/\i<E.length:=fun i im=>rg i (Yj.1 (eU▸im)).1;simp only[b_,seval,tb.t_];have aT:∀y∈Z2 vZ,y<h.e:=by
  intro y ym;obtain⟨_,rfl⟩|⟨b,rfl,_,ow,_⟩:=o.f
  ·simp[Z2]at ym
  ·simp[Z2]at ym;subst ym;exact ow.lt w
 have Fg:∀y∈Z2 vZ,w0.e<=y:=by
  intro y ym;obtain⟨_,rfl⟩|⟨b,rfl,hb,ow,_⟩:=o.f
  ·simp[Z2]at ym
  ·simp[Z2]at ym;subst ym;omega
 have Fn:∀y∈Z2 vZ,y<h3.e:=fun y q=>Xh (aT y q) ac.e;refine aA (fun n env hh=>Fr (Z2 vZ) h5 hh/\∃(j:Nat),env.c_ 43=some (ZZ j)/\env.c_ 42=some (ZZ U.length)/\env.c_ 41=some u'/\env.c_ 11=some u'/\env.c_ 8=some (ZZ s)/\env.c_ 5=some (.u h1.e 0)/\env.c_ 4=some (.u h.e 0)/\env.c_ 3=some vT/\
  j<=U.length/\OL N hh vZ Ks ((U.take j).foldl (di Ks Y) E)/\n=U.length-j) U.length oM ?_ ?_
 ·exact⟨Wl F5.o,0,iS,iS,iS,iS,iS,iS,iS,iS,oM,o4.e F5,rfl⟩
 rintro n env hh ⟨F,j,a0,bm,bA,g11,g8,g5,ba,g3,hj,oj,rfl⟩;have bz:=tb.fr F (fun q=>by have:=Fn _ q;have:=F4.e;omega);have Fh:Fr (Z2 vZ) h hh:=bt.trans F w iS (fun y q=>.inl q);have Fw:Fr [] w0 hh:=XD g0.w F0 Fh Fg;by_cases c:j<U.length
 ·let⟨bu,ou,x,p1,p2,p3⟩:=A9 (A:=U) bz.sl j c;let⟨x0,x1⟩:=bT x (Wc p3);obtain⟨n,rfl⟩:∃n:Nat,x=n:=⟨x.toNat,oM⟩;have tk:(U.take (j+1)).foldl (di Ks Y) E=di Ks Y ((U.take j).foldl (di Ks Y) E) (n:Int):=by rw[Wn,p3];simp
  have lj:=DY (Ks:=Ks) (Y:=Y) (U.take j) E;have cb:=ix.l? (xE (Ks:=Ks) (Y:=Y) (U.take j) E);obtain⟨Z,bE⟩:∃Z,Z=(U.take j).foldl (di Ks Y) E:=⟨_,rfl⟩;rw[<-bE]at tk lj oj cb;obtain⟨e,he⟩:∃e,Z[n]? =some e:=⟨_,Wf oM⟩;have em:=Wc he;obtain⟨b,a1,aN⟩:∃b,vZ=.y b 0 Z.length Z.length/\e_ hh b (Z.flatMap d_.s):=by
   obtain⟨e0,_⟩|⟨b,q,_,ow,_⟩:=oj.f
   ·grind
   ·exact⟨b,q,ow⟩
  have bj:Z2 vZ=[b]:=by rw[a1];rfl
  have xz:=dh 6 b 0 Z.length Z.length .i64 (n:Int) oM oM;simp at xz;rw[<-a1]at xz;have lx:∀(H:a_)(L:List d_)(z:d_),e_ H b (L.flatMap d_.s)->L[n]? =some z->z.x=e.x->aj H b (n*6) 4=some e.x.s:=by
   intro H L z ow q qx;have hl:=(Wk.1 q).1;let⟨b',o',z',q1,q2,q3,q4⟩:=(show q_ d_.s 6 H (.y b 0 L.length L.length) L from Xy ow (aC aM L)).ix aM .i64 (n:Int) oM oM;rw[dh 6 b 0 L.length L.length .i64 (n:Int) oM oM]at q1;simp only[pi,WG]at q1 q4;cases q1;rw[q]at q4;obtain rfl:=Xl q4;have:=mE q3 (oM:4<=6);rw[<-qx];exact this
  have oB:∀(q:Nat)(C:List V),h.e<=q->e_ h3 q C->e_ hh q C:=fun q C l ow=>F.I _ _ (fun y=>by have:=aT _ y;omega) (ca.i ow);have aR:=oB _ _ (VZ _) o1;have a2:=oB _ _ oM o2;have z5:∀{H},e_ H h.e [vK,ZZ 12,ZZ view,ZZ over,ZZ 1]->aj H h.e 0 5=some [vK,ZZ 12,ZZ view,ZZ over,ZZ 1]:=fun o=>by rw[o.N];rfl
  have zl:∀{H},e_ H h1.e [vZ]->ab H h1.e 0=some vZ:=fun o=>o.j 0;have zL:∀{H},e_ H h1.e [vZ]->aj H h1.e 0 1=some [vZ]:=fun o=>by rw[o.N];rfl
  have te:e.x.K<Ks.length:=by
   have:=(oj.j.o e em).1;simp only[Q2,VY,decide_eq_true_eq]at this;omega
  simp only[b_,seval,j_,a0,bm,bA,g5,ba,g3,eq_true (oM:(j:Int)<U.length),p1,p2,zl a2,xz,z5 aR,lx hh Z e aN he rfl];have gw:=g0.e Fw;have ch:=g0.o.l;apply aa (HC F.o gw.t oM (ZF (oj.o e em).m) gw.i te oM);rintro _ h6 ⟨rfl,F6⟩;have a4:=F6.i aN;have x6:=lx h6 Z e a4 he rfl;simp only[b_,j_];have bv:bG (Z.flatMap d_.s) (n*6+4) [ZZ (T1 Ks Y e.x)]=some ((Z.set n ⟨e.x,T1 Ks Y e.x,e.kn⟩).flatMap d_.s):=ir aM Z n e he (e.upd_b _);apply ai (c':=(Z.set n ⟨e.x,T1 Ks Y e.x,e.kn⟩).flatMap d_.s) F6.o a4 rfl rfl bv;rintro h7 bf F7 n7;have a7:(Z.set n ⟨e.x,T1 Ks Y e.x,e.kn⟩)[n]? =some ⟨e.x,T1 Ks Y e.x,e.kn⟩:=by grind
  have x7:=lx h7 _ _ bf a7 rfl;have nb:∀q,h.e<=q->q∉[b]:=fun q l y=>by have:=aT q (by rw[bj];exact y);omega
  have a3:=F7.I _ _ (nb _ (VZ _)) (F6.i aR);have bk:=F7.I _ _ (nb _ oM) (F6.i a2);simp only[b_,j_];have bw:bG ((Z.set n ⟨e.x,T1 Ks Y e.x,e.kn⟩).flatMap d_.s) (n*6+5) [.h true]=some ((Z.set n (msE Ks Y e)).flatMap d_.s):=by
   have:=ir aM _ n _ a7 (d_.upd_k ⟨e.x,T1 Ks Y e.x,e.kn⟩ true);rw[List.set_set]at this;exact this
  apply ai (c':=(Z.set n (msE Ks Y e)).flatMap d_.s) F7.o bf rfl rfl bw;rintro h8 bh F8 n8;have cc:(Z.set n (msE Ks Y e))[n]? =some (msE Ks Y e):=by grind
  have x8:=lx h8 _ _ bh cc rfl;have cg:=F8.I _ _ (nb _ (VZ _)) a3;have bn:=F8.I _ _ (nb _ oM) bk;have aJ:Fr [b] hh h8:=F6.trans (T:=[b]) (F7.trans (T:=[b]) F8 F6.o iS iS) F.o iS iS;have bg:di Ks Y Z (n:Int)=Z.set n (msE Ks Y e):=by unfold di;rw[pi,he]
  have bB:LV Ks (Z.set n (msE Ks Y e)):=by rw[<-bg];exact oj.j.e g0.o g0.r _
  have a5:OL N h8 vZ Ks (Z.set n (msE Ks Y e)):=oj.t a1 he rfl aJ bh bB;simp only[b_,seval,DF,lx hh Z e aN he rfl,z5 aR,zL bn,g5,ba];have K:=a5.r g0.r;refine aa (jJ aJ.o K.f K.g (by have:=K.n;omega) K.d K.s) ?_;rintro _ h9 ⟨rfl,F9⟩;have sm:=K.s;simp(disch:=omega) only[b_,seval,ag,eq_false (oM:¬4611686018427387904<((Z.set n (msE Ks Y e)).map d_.b).sum),a0];have bC:Fr (Z2 vZ) hh h9:=by rw[bj];exact aJ.trans F9 F.o iS iS
  refine s_ ⟨U.length-(j+1),oM,F.trans bC F5.o (fun y q=>.inl q) (fun y q=>.inl q),j+1,iS,iX,iX,iX,iX,iX,iX,iX,oM,by rw[tk,bg];exact a5.e F9,rfl⟩
  done
 ·obtain rfl:j=U.length:=oM
  simp only[b_,seval,a0,bm,g11,g8,eq_false (oM:¬((U.length:Nat):Int)<U.length),tb.t_];rw[Xq]at oj;exact⟨Fh,A,s,U,att,rg,rfl,eU,rfl,oj⟩
end
open Go.Ev.St
open Go.Ev.Ab
section
variable {h0 h : a_} {v vZ vK vT : V} {E Z : List d_} {Y : List (Nat × Int)} {Ks : List p_} {view over a d : Int} {mm : Nat -> Option Nat} {m : Int -> Int} {k N : Nat}
theorem R0.nx{q:Nat}{L:List (List UInt8)}{x y:V}{s:Int}(a:R0 N h v L)(f:Fr [q] h h')(o:e_ h q [x,ZZ s,y]):R0 N h' v L:=by
 obtain⟨e,rfl|⟨b,rfl,K,Z⟩⟩|⟨b,e,K,Z⟩:=a;exact .inl ⟨e,.inl rfl⟩;refine .inl ⟨e,.inr ⟨b,rfl,K,f.I _ _ ?_ Z⟩⟩;intro m;rw[Wi.1 m]at Z;have:=Z.uniq o;simp at this;refine .inr ⟨b,e,K,f.I _ _ ?_ Z⟩;intro m;rw[Wi.1 m]at Z;have:=Z.uniq o;cases L with
 |nil=>simp at this
 |cons z L=>
  cases L with
  |nil=>simp at this
  |cons z2 L=>simp at this
theorem OL.C{q:Nat}{x y:V}{s:Int}(a:OL N h vZ Ks E)(f:Fr [q] h h')(o:e_ h q [x,ZZ s,y])(n:q∉Z2 vZ):OL N h' vZ Ks E:=by let⟨ls,it,lv,hn⟩:=a;obtain⟨e,ev⟩|⟨b,rfl,hb,ow,cp⟩:=ls;exact⟨.inl ⟨e,ev⟩,by rw[e];simp,lv,hn⟩;have K:∀z∈E,R0 (b+1) h' z.x.vm z.x.C:=fun z Z=>(cp z Z).nx f o;exact⟨.inr ⟨b,rfl,hb,f.I _ _ (fun z=>n (by simp[Z2]at z|-;exact z.symm)) ow,K⟩,fun z Z=>⟨(it z Z).k,(it z Z).t,Sl.a (K z Z).rs,(it z Z).n,(it z Z).l⟩,lv,hn⟩
theorem Ly{A B:List d_}(e:A.map d_.x=B.map d_.x):U1 Ks A=U1 Ks B:=by have:=congrArg (List.map (bI Ks)) e;rw[WL,WL]at this;exact this
structure SR(h0 h:a_)(env:T V)(b4 b6 b8 br:Nat)(N:Nat)(vZ vK vT:V)(Ks:List p_)(view over:Int)(k:Nat)(d:Int)(E:List d_)(r:Nat):Prop where
 f:Fr [] h0 h
 i:h0.e<=N
 K:OL N h vZ Ks E
 H:e_ h b4 [vK,ZZ 12,ZZ view,ZZ over,ZZ 1]
 I:e_ h b6 [ZX (k:Int),ZZ d]
 J:∃c:List V,e_ h b8 c/\c.length=3/\aw c=true
 L:∃s:Int,e_ h br [vZ,ZZ s,ZZ (r:Int)]
 w:h0.e<=b4/\b4<N
 C:h0.e<=b6/\b6<N
 D:h0.e<=b8/\b8<N
 F:N<=br/\∀y∈Z2 vZ,y<br
 M:r+(E.map d_.kn).count false<=1000
 j:env.c_ 3=some vT
 o:env.c_ 4=some (.u b4 0)
 t:env.c_ 6=some (.u b6 0)
 u:env.c_ 8=some (.u b8 0)
 e:env.c_ 11=some (.u br 0)
theorem GB{env:T V}{b4 b6 b8 br r:Nat}{sp:Int}{Q:Ex->T V->a_->Prop}(S:SR h0 h env b4 b6 b8 br N vZ vK vT Ks view over k d E r)(g0:H? h0 Ks vK Y vT view over)(ix:R2 mm E)(an:AZ k a d mm E.length)(a2:a<0->sp=0)
 (hm:∀(i:Nat) e,E[i]? =some e->m (i:Int)=T1 Ks Y e.x)
 (Kd:∀env' h' A s,qR (E.map d_.b) (U1 Ks E) view over s A->s=U7 (E.map d_.b) view a d false r sp->aV m A (E.map d_.b) (E.map d_.kn) false=(0,E.map d_.b,E.map d_.kn,false)->OL N h' vZ Ks E->env'.c_ 8=some (.u b8 0)->env'.c_ 9=some (ZZ 0)->e_ h' b8 [vZ,ZZ s,ZZ (r:Int)]->Fr [] h0 h'->Q .d env' h')
 (Km:∀env' h' A s E',qR (E.map d_.b) (U1 Ks E) view over s A->s=U7 (E.map d_.b) view a d false r sp->aV m A (E.map d_.b) (E.map d_.kn) false=(0,E'.map d_.b,E'.map d_.kn,true)->E'.map d_.x=E.map d_.x->0<=a->(E'.map d_.kn).count false<(E.map d_.kn).count false->SR h0 h' env' b4 b6 b8 br N vZ vK vT Ks view over k d E' (r+1)->Q (.b 0) env' h'):
 W go slp env h Q:=by
 have S0:=S;let⟨f,hN,ol,o4,o6,⟨c8,o8,l8,e8⟩,⟨s0,or⟩,n4,n6,n8,nr,rb,g3,g4,g6,g8,g11⟩:=S;have k1:vK.U=true:=Xs g0.i;have oz:=Xs ol.f.rs;have l4:aj h b4 0 5=some [vK,ZZ 12,ZZ view,ZZ over,ZZ 1]:=by rw[o4.N];rfl
 have lr:aj h br 0 1=some [vZ]:=by rw[or.N];rfl
 have l6:aj h b6 0 2=some [ZX (k:Int),ZZ d]:=by rw[o6.N];rfl
 have Vg:∀y∈Z2 vZ,N<=y:=by intro y ym;obtain⟨_,rfl⟩|⟨b,rfl,hb,ow,_⟩:=ol.f;simp[Z2]at ym;simp[Z2]at ym;subst ym;exact hb
 simp[b_,slp,g4,g11,g6,g3,l4,lr,l6];apply aa (Mz (h:=h) (N:=N) g0 ol ix an f hN);rintro _ h1 ⟨F1,A,s,U,att,rg,es,eU,rfl,aR⟩;have aT:Fr [] h0 h1:=XD g0.w f F1 (fun y q=>by have:=Vg y q;omega);have ae:=F1.I _ _ (fun y=>by have:=nr.2 _ y;omega) or;have a1:=F1.I _ _ (fun y=>by have:=Vg _ y;omega) o4;have ay:=F1.I _ _ (fun y=>by have:=Vg _ y;omega) o6;have az:=F1.I _ _ (fun y=>by have:=Vg _ y;omega) o8;have ak:s=U7 (E.map d_.b) view a d false r sp:=by rw[es];unfold U7 Br;by_cases c:0<=a;rw[if_pos c,if_pos ⟨c,.inr rfl⟩];rw[if_neg c,if_neg (fun z=>c z.1),a2 oM]
 have lk:=oF (m:=m) (mo:=false) g0.o g0.r A E (BX att) rg ol.j ol.n (fun i im e he=>by
  let⟨i0,_⟩:=rg i im;obtain⟨j,rfl⟩:∃j:Nat,i=j:=⟨i.toNat,oM⟩;exact hm j e (eV he))
 rw[<-eU]at lk;have nq:br∉Z2 vZ:=fun y=>by have:=nr.2 _ y;omega
 simp[b_,g11];apply B_ F1.o ae;rintro h2 Z F2 n2;have ar:Fr [] h0 h2:=aT.z F2 g0.w oM;have af:=aR.C F2 ae nq;have aJ:=F2.I _ _ oO a1;have aH:=F2.I _ _ oO ay;have ac:=F2.I _ _ oO az;by_cases cU:U=[];subst cU;obtain⟨x1,x2,x3,rfl⟩:∃x1 x2 x3,c8=[x1,x2,x3]:=by
  match c8,l8 with
  |[x1,x2,x3],_=>exact⟨_,_,_,rfl⟩
 have l2:aj h2 br 0 3=some [vZ,ZZ s,ZZ (r:Int)]:=by rw[Z.N];rfl
 simp[b_,g11,g8,l2];refine ai (c':=[vZ,ZZ s,ZZ (r:Int)]) F2.o ac rfl (by show aw [_,_,_]=true;simp only[au,aB,oz];rfl) rfl ?_;rintro h3 ax K n3;simp[b_];exact Kd _ _ A s att ak lk (af.u K oO) iX iS ax (ar.z K g0.w oM);have lU:0<U.length:=XT.2 cU;have a0:0<=a:=by
  obtain q|q:=Int.lt_or_le a 0;exfalso;have hl:E.length=0:=by obtain⟨_,_,_,z⟩|⟨_,i,z,_⟩:=an.2.2.2;exact z;omega
  have hA:A=[]:=by
   cases A with
   |nil=>rfl
   |cons x A=>have:=rg x iS;omega
  rw[hA]at eU;exact cU (eV eU);exact q
 have l2:ab h2 br 2=some (ZZ (r:Int)):=Z.j 2;simp(disch:=omega) only[b_,seval,ag,g11,l2,eq_true (oM:(0:Int)<(U.length:Nat))];refine ai (c':=[vZ,ZZ s,ZZ ((r+1:Nat):Int)]) F2.o Z rfl rfl (by rw[ZD];rfl) ?_;rintro h3 aN K n3;simp[b_];have lt:((U.foldl (di Ks Y) E).map d_.kn).count false<(E.map d_.kn).count false:=by have sp:=du m A (E.map d_.b) (E.map d_.kn) false iS (fun x m=>(ol.j.d g0.r x m).1);rw[lk]at sp;have:=sp.2.2.2.2 (eG cU);simpa using this
 refine Km _ _ A s _ att ak (by rw[lk];simp[cU]) (xE _ _) a0 lt ⟨ar.z K g0.w oM,hN,af.C K Z nq,K.I _ _ oO aJ,K.I _ _ oO aH,⟨c8,K.I _ _ oO ac,l8,e8⟩,⟨s,aN⟩,n4,n6,n8,nr,?_,iX,iX,iX,iX,iX⟩;omega
end
open Go.Ev.St
open Go.Ev.Ab
theorem g8x:F.c_ 24=some fn8x:=rfl
section
variable {h : a_} {v vK vT : V} {E : List d_} {Y : List (Nat × Int)} {Ks : List p_} {view over a d : Int} {mm : Nat -> Option Nat} {m : Int -> Int} {k : Nat}
theorem NZ{A B:List d_}(e:A.map d_.sx=B.map d_.sx):A.map d_.b=B.map d_.b/\A.map d_.kn=B.map d_.kn/\U1 Ks A=U1 Ks B/\(A.map fun e=>e.x.sx)=B.map fun e=>e.x.sx:=by
 have Z:=congrArg (List.map fun p=>p.2.1) e;have K:=congrArg (List.map fun p=>p.2.2) e;have h3:=congrArg (List.map fun p=>p.1) e;have h4:=congrArg (List.map fun p:(Nat×Nat×g_×List g_)×Int×Bool=>match Ks[p.1.2.1]? with|some q=>q.Y|none=>false) e
 rw[WL,WL]at Z K h3 h4;exact⟨Z,K,h4,h3⟩
theorem MZ{A B:List d_}(e:A.map d_.sx=B.map d_.sx)(ix:R2 mm B):R2 mm A:=by rw[kY]at ix|-;rw[show(A.map fun e=>e.x.J)=B.map fun e=>e.x.J from sD e];exact ix
theorem Ka{x y:m_}(e:x.sx=y.sx):T1 Ks Y x=T1 Ks Y y:=by have q:=(m_.val_eq e).1;unfold T1;rw[q,(xY (Ks:=Ks) e).2]
theorem BD{A B:List d_}(ev:(A.map fun e=>e.x.sx)=B.map fun e=>e.x.sx)(hm:∀(i:Nat) e,B[i]? =some e->m (i:Int)=T1 Ks Y e.x):∀(i:Nat) e,A[i]? =some e->m (i:Int)=T1 Ks Y e.x:=by intro i e K;have Z:=congrArg (·[i]?) ev;simp[K]at Z;let⟨z,hz,q⟩:=Option.map_eq_some_iff.1 Z.symm;rw[hm i z hz];exact Ka q
theorem KS{A B:List d_}(e:A.map d_.x=B.map d_.x):(A.map fun e=>e.x.sx)=B.map fun e=>e.x.sx:=by have:=congrArg (List.map m_.sx) e;rw[WL,WL]at this;exact this
theorem OL.w{N M:Nat}{vZ:V}(o:OL N h vZ Ks E)(l:M<=N):OL M h vZ Ks E:=⟨o.f.le l,o.o,o.j,o.n⟩
theorem JO(g:H? h Ks vK Y vT view over)(re:q_ d_.s 6 h v E)(lo:V0 Ks h E)(nE:v≠.L)(ix:R2 mm E)(an:AZ k a d mm E.length)(hm:∀(i:Nat) e,E[i]? =some e->m (i:Int)=T1 Ks Y e.x):
 ao go 24 [.B [vK,ZZ 12,ZZ view,ZZ over,ZZ 1],.B [v],vA k d,vT] h fun u h'=>Fr [] h h'/\∃vZ Z' s n,u=.D [.B [vZ,ZZ s,ZZ (n:Nat)],ZZ 0]/\
  U2 m (U1 Ks E) view over a d false 0 0 (E.map d_.b) (E.map d_.kn) s (n:Nat) 0 (Z'.map d_.b) (Z'.map d_.kn)/\OL h.e h' vZ Ks Z'/\(Z'.map fun e=>e.x.sx)=E.map fun e=>e.x.sx:=by
 have w:=g.w;have k1:vK.U=true:=Xs g.i;have ov:=Xs re;have el:=lo.l;let⟨h1,ay,aN,bi⟩:=aq w [vK,ZZ 12,ZZ view,ZZ over,ZZ 1];let⟨h2,az,aH,bg⟩:=aq aN.o [v];let⟨h3,aJ,af,a3⟩:=aq aH.o [ZX (k:Int),ZZ d];let⟨h4,ax,ac,a4⟩:=aq af.o [.r,ZZ 0,ZZ 0];have n1:=x_ ay;have n2:=x_ az;have n3:=x_ aJ;have n4:=x_ ax;have bn:=ac;have bh:=aH.c (af.c ac);have K:=aN.c bh;have o4:=bh.i bi;have o5:=(af.c ac).i bg;have o6:=ac.i a3;have l4:∀{h'},Fr [] h4 h'->aj h' h.e 0 5=some [vK,ZZ 12,ZZ view,ZZ over,ZZ 1]:=fun f=>by rw[(f.i o4).N];rfl
 have l5:∀{h'},Fr [] h4 h'->aj h' h1.e 0 1=some [v]:=fun f=>by rw[(f.i o5).N];rfl
 have l6:∀{h'},Fr [] h4 h'->aj h' h2.e 0 2=some [ZX (k:Int),ZZ d]:=fun f=>by rw[(f.i o6).N];rfl
 apply ah (hf:=g8x);simp[b_,<-ay,<-az,<-aJ,<-ax];refine sw (fun k' env hh=>∃(N br:Nat)(vZ:V)(E':List d_)(r:Nat)(sp:Int),SR h hh env h.e h2.e h3.e br N vZ vK vT Ks view over k d E' r/\(E'.map d_.kn).count false<=k'/\0<=a/\(E'.map fun e=>e.x.sx)=(E.map fun e=>e.x.sx)/\U1 Ks E'=U1 Ks E/\(∀(i:Nat) e,E'[i]? =some e->m (i:Int)=T1 Ks Y e.x)/\R2 mm E'/\
  ∀s2 n2 e2 l2 ar,U2 m (U1 Ks E) view over a d false sp r (E'.map d_.b) (E'.map d_.kn) s2 n2 e2 l2 ar->U2 m (U1 Ks E) view over a d false 0 0 (E.map d_.b) (E.map d_.kn) s2 n2 e2 l2 ar) 1024 oM ?_ ?_
 have r4:Fr [] h4 h4:=Wl K.o;simp only[b_,seval,l4 r4,l5 r4,l6 r4];apply aa (D8 (g.e K) (re.fr K) (lo.f K) ix an);rintro _ h5 ⟨rfl,F5⟩;simp only[b_,seval,l4 F5,l5 F5];apply aa (JZ (g.e (K.c F5)) (re.fr (K.c F5)) (lo.f (K.c F5)) nE);rintro _ h6 ⟨⟨vZ,Z,rfl,lz,ez,iz⟩,F6⟩;have a6:=F5.c F6;have bm:=K.c a6;have oz:=Xs lz.rs;let⟨eb,ek,es,ev⟩:=NZ (Ks:=Ks) ez;let⟨h7,a9,aR,ba⟩:=aq F6.o [.r,ZZ 0,ZZ 0];simp only[b_,seval,<-a9];refine ai (c':=[vZ,ZZ 0,ZZ 0]) aR.o ba rfl (by show aw [_,_,_]=true;simp only[au,aB,oz];rfl) rfl ?_;rintro h8 o8 F8 n8;have a8:Fr [] h6 h8:=aR.z F8 F6.o (VZ _);have ak:=a6.c a8;have nx:=F5.e;have bj:=F6.e;have bf:=lz.keep a8 iS;have bk:OL h5.e h8 vZ Ks Z:=⟨bf,bf.itm iz,lo.j.a ez,by rw[Cn ez];exact el⟩;have a5:=BD ev hm;have a2:=MZ ez ix;have cz:(Z.map d_.kn).count false<=(Z.map d_.kn).length:=XE;have lZ:=Cn ez;rw[Xd]at cz;simp only[b_];refine GB (m:=m) (sp:=0) (r:=0) (E:=Z) (b4:=h.e) (b6:=h2.e) (b8:=h3.e) (br:=h6.e) ⟨K.c ak,oM,bk,ak.i o4,ak.i o6,⟨_,ak.i a4,rfl,rfl⟩,⟨0,o8⟩,oM,oM,oM,⟨bj,?_⟩,oM,iS,iS,iS,iS,iS⟩ g a2 (by rw[lZ];exact an) (fun _=>rfl) a5 ?_ ?_;intro y ym;obtain⟨_,rfl⟩|⟨b,rfl,_,ow,_⟩:=lz;simp[Z2]at ym;simp[Z2]at ym;subst ym;exact ow.lt F6.o;intro ae h' A s att as lk aT g8 g9 ob F';have lb:aj h' h3.e 0 3=some [vZ,ZZ s,ZZ ((0:Nat):Int)]:=by rw[ob.N];rfl
 refine(dJ _ _).2 ?_;simp only[b_,g8,g9,lb];refine⟨F',vZ,Z,s,0,rfl,?_,aT.w oM,ev⟩;rw[<-eb,<-ek,<-es,as];exact U2.a (by rw[<-as];exact att) lk;intro ae h' A s E' att as lk ex a0 lt S';refine⟨rfl,h5.e,h6.e,vZ,E',0+1,s,S',oM,a0,(KS ex).trans ev,(Ly ex).trans es,BD (KS ex) a5,a2.l? ex,?_⟩;intro s2 n2 e2 l2 ar q;rw[<-eb,<-ek];rw[as]at q;rw[es]at att;exact U2.S? (by rw[<-as];exact att) lk q;rintro k' env hh ⟨N,br,vZ,E',r,sp,S,ck,a0,ev,es,a1,a7,up⟩;have lE:E'.length=E.length:=by have:=congrArg List.length ev;simpa using this
 have hN:=S.i;simp only[b_];refine GB (m:=m) (sp:=sp) S g a7 (by rw[lE];exact an) (fun z=>by omega) a1 ?_ ?_;intro ae h' A s att as lk aT g8 g9 ob F';have lb:aj h' h3.e 0 3=some [vZ,ZZ s,ZZ (r:Int)]:=by rw[ob.N];rfl
 refine(dJ _ _).2 ?_;simp only[b_,g8,g9,lb];refine⟨F',vZ,E',s,r,rfl,up _ _ _ _ _ ?_,aT.w hN,ev⟩;rw[as];rw[es]at att;exact U2.a (by rw[<-as];exact att) lk;intro ae h' A s E2 att as lk ex a0 lt S';refine⟨rfl,_,oM,N,br,vZ,E2,r+1,s,S',VZ _,a0,(KS ex).trans ev,(Ly ex).trans es,BD (KS ex) a1,a7.l? ex,?_⟩;intro s2 n2 e2 l2 ar q;apply up;rw[as]at q;rw[es]at att;exact U2.S? (by rw[<-as];exact att) lk q
end
open Go.Ev.St
def nI(z:V):Prop:=∀k n,z≠V.A k n
def Nf(c:List V):Prop:=(∃z∈c,nI z)\/c.length<66
theorem Nf.e{c:List V}(a:Nf c):∀n m ws,ws.length=64->c≠P7 n m ws:=by rintro n m ws K rfl;obtain⟨z,Z,q⟩|q:=a;simp[P7]at Z;obtain rfl|rfl|⟨x,_,rfl⟩:=Z;exact q _ _ rfl;exact q _ _ rfl;exact q _ _ rfl;simp[P7,K]at q
structure FO(h h':a_):Prop where
 f:h.e<=h'.e
 u:WF h'
 e:∀q c,Nf c->e_ h q c->e_ h' q c
 i:∀q c,Rs h q c->Rs h' q c
section
variable {h h' h0 : a_} {b : Nat}
theorem FO.r(f:Fr [] h h'):FO h h':=⟨f.e,f.o,fun _ _ _ o=>f.i o,f.ro⟩
theorem FO.t(a:FO h0 h)(f:Fr [] h h'):FO h0 h':=⟨Wy a.f f.e,f.o,fun q c n o=>f.i (a.e q c n o),fun q c r=>f.ro q c (a.i q c r)⟩
theorem FO.o{h1:a_}(a:FO h0 h)(c:FO h h1):FO h0 h1:=⟨Wy a.f c.f,c.u,fun q x n o=>c.e q x n (a.e q x n o),fun q x r=>c.i q x (a.i q x r)⟩
theorem FO.j(a:FO h0 h)(w:WF h0)(hb:h0.e<=b)(f:Z3 b h h'):FO h0 h':=⟨Wy a.f f.d,f.f,fun q c n o=>f.a q c (by have:=o.lt w;omega) n.e (a.e q c n o),fun q c r=>f.i q c (a.i q c r)⟩
theorem Sl.fo{e n:Nat}{v:V}{cs:List V}(a:Sl h e v n cs)(f:FO h h')(hv:n=0->v=.r\/v=.L)(hs:0<n->∃z∈cs,nI z):Sl h' e v n cs:=by
 let⟨hl,a⟩:=a;refine⟨hl,?_⟩;obtain c|c:=ZH n;grind;let⟨z,zm,nz⟩:=hs c;cases v with
 |y b o len cap=>let⟨h1,K,C,ow,h3,Z⟩:=a;exact⟨h1,K,C,f.e _ _ (.inl ⟨z,WR (WX (Z▸zm)),nz⟩) ow,h3,Z⟩
 |G b o len k=>let⟨h1,K,C,ow,h3,Z⟩:=a;exact⟨h1,K,C,f.e _ _ (.inl ⟨z,WR (WX (Z▸zm)),nz⟩) ow,h3,Z⟩
 |_=>exact a
theorem Gs.fo{B e:Nat}{v:V}{cs:List V}(a:Gs h B e v cs)(f:FO h h')(hs:cs≠[]->Nf cs):Gs h' B e v cs:=by obtain x|⟨q,n,Z,h2,K,h4,o⟩:=a;exact .inl x;refine .inr ⟨q,n,Z,h2,K,h4,f.e _ _ ?_ o⟩;by_cases c:cs=[];subst c;exact .inr iS;exact hs c
theorem nQ{x:g_}{c:List V}(m:V.f x∈c):∃z∈c,nI z:=⟨_,m,fun _ _ e=>by cases e⟩
theorem PH.fo(f:FO h h'):∀{t:PT},PZ t->PH h t->PH h' t
 |.w_,_,_=>trivial
 |.o_ k tg ky at' tx va vc sub nx,⟨z1,z2,z3,z4⟩,⟨a,b,c,d,e,g,i⟩=>by
  refine⟨a,Go.Ev.Lay.Sl.fo b f (fun q=>.inl (z1 (Wu.1 q))) (fun q=>?_),c,Go.Ev.Lay.Sl.fo d f (fun q=>.inl (z2 ?_)) (fun q=>?_),e,PH.fo f z3 g,PH.fo f z4 i⟩;cases at' with
  |nil=>simp at q
  |cons s L=>exact nQ (x:=s.1) (by simp[sW])
  cases sub with
  |w_=>rfl
  |o_ _ _ _ _ _ _ _ _ _=>simp[PT.t_]at q
  cases sub with
  |w_=>simp[PT.t_]at q
  |o_ k' tg' _ _ _ _ _ _ _=>exact nQ (x:=tg') (by simp[PT.P0])
theorem W1.e{N:Nat}{x:m_}(a:W1 N h x)(f:FO h h'):W1 N h' x:=⟨a.k,a.t,Go.Ev.Lay.Gs.fo a.g f (fun q=>.inl (by
 cases hm:x.C with
 |nil=>rw[hm]at q;simp at q
 |cons s L=>exact nQ (x:=s) iX)),a.n,a.l⟩
structure DA(N:Nat)(h:a_)(Ks:List p_)(vK:V)(X:List m_)(vE:V)(E:List d_)(vT:V)(Y:List (Nat×Int)):Prop where
 w:WF h
 C:q_ p_.s 9 h vK Ks
 I:∀q∈Ks,Q9 h q
 r:RK Ks
 f:Gs h N 6 vE (E.flatMap d_.s)
 u:∀e∈E,W1 N h e.x
 D:∀e∈E,EOk Ks X e
 n:(E.map fun e=>e.x.J).Nodup
 l:E.length<=12
 F:F_ hc 2 h N vT Y
 t:T? Y
variable {N : Nat} {vK vE vT : V} {Ks : List p_} {X : List m_} {E : List d_} {Y : List (Nat × Int)}
theorem DA.J(a:DA N h Ks vK X vE E vT Y)(f:FO h h'):DA N h' Ks vK X vE E vT Y:=by
 have Z:=a.r.2.1;refine⟨f.u,?_,fun q m=>Go.Ev.Lay.PH.fo f (a.r.2.2 q m).2.1.2 (a.I q m),a.r,Go.Ev.Lay.Gs.fo a.f f (fun q=>.inl ?_),fun e m=>Go.Ev.Lay.W1.e (a.u e m) f,a.D,a.n,a.l,Go.Ev.Lay.Gs.fo a.F f (fun _=>.inr ?_),a.t⟩;refine Go.Ev.Lay.Sl.fo a.C f (fun q=>by omega) (fun _=>?_);cases Ks with
 |nil=>simp at Z
 |cons q L=>exact nQ (x:=q.tg) (by simp[p_.s,p_.part])
 cases E with
 |nil=>simp at q
 |cons e L=>exact nQ (x:=e.x.X) (by simp[d_.s,m_.ent,m_.s])
 rw[aC gL];have:=a.t.l;omega
theorem DA.j(a:DA N h Ks vK X vE E vT Y):q_ d_.s 6 h vE E:=ZT a.f (aC aM E) oM
theorem DA.o(a:DA N h Ks vK X vE E vT Y):V0 Ks h E:=⟨fun e m=>⟨(a.u e m).H,rfl,(a.D e m).o,(a.D e m).r⟩,fun e m=>(a.D e m).b,fun e m=>(a.D e m).c,a.n,by have:=a.l;omega,a.r⟩
theorem DA.K(a:DA N h Ks vK X vE E vT Y)(ok:T7 view over):H? h Ks vK Y vT view over:=⟨a.w,a.C,a.I,a.r,ZO gL oM a.F,a.t,ok⟩
theorem DA.H(a:DA N h Ks vK X vE E vT Y):∀e∈E,e.x.K<Ks.length:=fun e m=>by have:=(a.D e m).o;have:=a.r.2.1;simp only[Q2,VY,decide_eq_true_eq]at *;omega
theorem DA.e(a:DA N h Ks vK X vE E vT Y):Y3 (fS Ks E):=by have lo:=a.o;refine⟨by have:=a.l;simp[fS];omega,fun r m=>?_,by rw[iB];have:=lo.g;omega⟩;obtain⟨e,Z,rfl⟩:=WP.1 m;exact lo.e e Z
theorem DA.i(a:DA N h Ks vK X vE E vT Y)(f:Fr [] h h'):DA N h' Ks vK X vE E vT Y:=a.J (.r f)
end
open Go.Ev.St
section
variable {m : Int -> Int} {n : Nat}
theorem qv(hm:∀i,0≤i→i<(n:Int)→1≤m i∧m i≤2305843009213693952):∀(A l:List Int)(ks:List Bool)(mo:Bool),l.length=n→(∀i∈A,0≤i∧i<(n:Int))→
 (aV m A l ks mo).1=0∨(aV m A l ks mo).1=13
 |[],_,_,_,_,_=>.inl rfl
 |i::A,l,ks,mo,hl,ha=>by have hi:=ha i iS;have ha':∀i∈A,0≤i∧i<(n:Int):=fun j mj=>ha j (List.mem_cons_of_mem _ mj);have mi:=hm i hi.1 hi.2;rw[aV,if_pos oM];by_cases c2:ks.getD i.toNat false=true;rw[if_pos c2];exact qv hm A l ks mo hl ha';rw[if_neg c2];by_cases c3:bJ l i (m i)=0;rw[if_pos c3];exact qv hm A _ _ true (eV hl) ha';rw[if_neg c3];refine .inr ?_;show bJ l i (m i)=13;unfold bJ at c3⊢;split;omega;omega
theorem R5.e{anchor delta sp:Int}{lo:Bool}{r:Nat}{l l2:List Int}{ks Z:List Bool}{s k e:Int}(S:R5 m bs view over anchor delta lo sp r l ks s k e l2 Z):
 (∀i,0<=i->i<(bs.length:Int)->1<=m i/\m i<=2305843009213693952)->bs.length=l.length->ks.length=l.length->(∀x∈l,1<=x)->e=0\/e=13:=by
 induction S with
 |a a _=>intro K hl _ _;exact qv K _ _ _ _ hl.symm (fun i mi=>by have:=wP a hl i mi;omega)
 |done _ _=>intro _ _ _ _;exact .inl rfl
 | @more s r l ks A l' ks' s2 n2 e2 l2 Z a q _ ih=>intro K hl kl hp;have sp:=du m A l ks false kl hp;rw[q]at sp;simp only[]at sp;exact ih K oM oM sp.2.2.1
end
section
variable {h h' : a_} {bl b B a g k : Nat} {v : V} {c1 G c2 : List V}
theorem Y6.C(p:Y6 h b B v c1 G c2 a g k)(f:Z3 bl h h')(hb:b≠bl)(hB:B≠bl)(s:∃z∈c1++c2,nI z):Y6 h' b B v c1 G c2 a g k:=by let⟨z,Z,nz⟩:=s;refine⟨f.a _ _ hb (Nf.e (.inr iS)) p.c,?_,p.e,p.n,p.j,p.q,p.r,p.i,p.t,p.p,p.o⟩;obtain⟨K,x|⟨e,o⟩⟩:=p.d;grind;refine⟨K,.inr ⟨e,f.a _ _ hB (Nf.e (.inl ⟨z,?_,nz⟩)) o⟩⟩;simp only[Wa]at Z|-;obtain q|q:=Z;exact .inl (.inl q);exact .inr q
end
open Go.Ev.St
def V?(Tl:List (Nat×Int))(k:Nat):Option Int:=(Tl.find? fun p=>p.1==k).map Prod.snd
def fdV(o:Option Int):V:=match o with|some s=>.D [ZZ s,.h true]|none=>.D [ZZ 0,.h false]
def mI(Ks:List p_)(Tl:List (Nat×Int))(x:m_):Int:=match V? Tl x.J with|some s=>s|none=>match Ks[x.K]? with|some q=>q.P|none=>1
def mX(Ks:List p_)(Tl:List (Nat×Int))(X:List m_)(i:Int):Int:=match X[i.toNat]? with|some x=>mI Ks Tl x|none=>1
section
variable {h : a_} {vT vK : V} {Tl : List (Nat × Int)} {Ks : List p_} {X : List m_} {b bg bm bl B bs bt : Nat}
theorem Gt(w:WF h)(a:C_ htK 2 h vT Tl)(hl:Tl.length<=256){k:Nat}:ao go 41 [vT,ZX (k:Int)] h fun u h'=>u=fdV (V? Tl k)/\Fr [] h h':=by
 refine ah ?_;simp[b_,a.t_];refine aA (fun n env hh=>Fr [] h hh/\∃i:Nat,env.c_ 10=some (ZZ i)/\env.c_ 9=some (ZZ Tl.length)/\env.c_ 8=some vT/\env.c_ 1=some (ZX (k:Int))/\i<=Tl.length/\V? Tl k=V? (Tl.drop i) k/\n=Tl.length-i) Tl.length oM ?_ ?_;exact⟨Wl w,0,iS,iS,iS,iS,oM,rfl,rfl⟩;rintro n env hh ⟨F,i,K,g9,g8,g1,hi,hm,rfl⟩;by_cases c:(i:Int)<Tl.length;let⟨bi,oi,p,e1,_,e3,e4⟩:=(a.fr F).ix (f:=htK) (k:=2) (fun _=>rfl) .i64 (i:Int) oM c;rw[pi]at e4;have ak:aj hh bi oi 2=some [ZX (p.1:Int),ZZ p.2]:=e3;let⟨h2,ac,Z,ae⟩:=aq F.o [ZX 0,ZZ 0];simp[b_,K,g9,g8,c,e1,ak,<-ac];refine B_ Z.o ae ?_;rintro h3 o3 F3 n3;have af:Fr [] hh h3:=Z.z F3 F.o (VZ _);have l0:ab h3 hh.e 0=some (ZX (p.1:Int)):=o3.j 0;have l1:ab h3 hh.e 1=some (ZZ p.2):=o3.j 1;rw[aL e4]at hm;by_cases z:p.1=k;have e:V? Tl k=some p.2:=by rw[hm];simp[V?,z]
 rw[e];simp[b_,g1,l0,l1,eq_true (oM:(p.1:Int)=k)];exact⟨rfl,F.c af⟩;have e:V? Tl k=V? (Tl.drop (i+1)) k:=by rw[hm];simp[V?,z]
 simp(disch:=omega)[b_,ag,K,g1,l0,eq_false (oM:¬(p.1:Int)=k)];refine s_ ⟨Tl.length-(i+1),oM,F.c af,i+1,iS,iX,iX,iX,oM,e,rfl⟩;obtain rfl:i=Tl.length:=oM;rw[XR]at hm;rw[hm];simp[b_,K,g9];exact⟨rfl,F⟩
theorem Nk{cap:Int}{n a g m:Nat}{v:V}{c1 G c2:List V}(w:WF h)(ob:e_ h b [vK,ZZ cap,.u bg 0,.u bm 0,.u bl 0])(gp:Y6 h bg B v c1 G c2 a g m)(ec:c1++c2=X.flatMap m_.s)(en:X.length=a+m)(vs:∀x∈X,x.vm.U=true)
 (rk:q_ p_.s 9 h vK Ks) (ty:∀x∈X,x.K<Ks.length) (hk:Ks.length<=256) (aT:C_ htK 2 h vT Tl) (hl:Tl.length<=256) (os:e_ h bs [.u b 0]) (ot:e_ h bt [vT]) (hn:n<X.length):
 ao go 39 ([ZZ (n:Int)]++[.u bs 0,.u bt 0]) h fun u h'=>u=ZZ (mX Ks Tl X n)/\Fr [] h h':=by
 obtain⟨x,hx⟩:∃x,X[n]? =some x:=⟨X[n],Wf hn⟩;have xm:=Wc hx;have tx:=ty x xm;have v1:=vs x xm;have ls:ab h bs 0=some (.u b 0):=os.j 0;have lb:ab h b 2=some (.u bg 0):=ob.j 2;show ao go 39 [ZZ (n:Int),.u bs 0,.u bt 0] h _;refine ah ?_;simp[b_,ls,lb];refine aa (Ia w gp (i:=n) oM) ?_;rintro _ h1 ⟨F1,rfl⟩;rw[ec,BB hx];let⟨h2,ae,K,af⟩:=aq F1.o [ZX 0,ZY 0,.f [],.r];have n1:=F1.e;simp[b_,<-ae];refine ai (c':=x.s) K.o af rfl (by show aw [_,_,_,_]=true;simp only[au,aB,v1];rfl) rfl ?_;rintro h3 o3 F3 n3;have ar:Fr [] h1 h3:=K.z F3 F1.o (VZ _);have ac:=F1.c ar;have lt:∀{H},Fr [] h H->ab H bt 0=some vT:=fun f=>(f.i ot).j 0;have l0:ab h3 h1.e 0=some (ZX (x.J:Int)):=o3.j 0;simp[b_,lt ac,l0];apply aa (Gt F3.o (aT.fr ac) hl);rintro _ h4 ⟨rfl,F4⟩;have Z:=ac.c F4;have em:mX Ks Tl X n=mI Ks Tl x:=by rw[mX,pi,hx]
 rw[em];unfold mI;cases q:V? Tl x.J with
 |some s=>simp[b_,fdV];exact Z
 |none=>let⟨bk,ok',kd,an,k2,_,k4⟩:=(Xn rk Z).ix cS .u8 (x.K:Int) oM oM;rw[pi]at k4;have l6:ab h4 bk (ok'+6)=some (ZZ kd.P):=k2 6 oM;have ax:ab h4 bs 0=some (.u b 0):=(Z.i os).j 0;have ak:ab h4 b 0=some vK:=(Z.i ob).j 0;have lx:ab h4 h1.e 1=some (ZY (x.K:Int)):=(F4.i o3).j 1;simp only[b_,seval,DF,j_,fdV,ax,ak,lx,an,l6];rw[k4];exact⟨rfl,Z⟩
end
open Go.Ev.St
section
variable {h h' : a_} {bl q : Nat} {x y z : V} {c : List V}
theorem Z3.e(f:Z3 bl h h')(ol:e_ h bl [x,y,z])(nf:Nf c)(l3:c.length≠3)(o:e_ h q c):e_ h' q c:=
 f.a q c (by rintro rfl;have:=o.uniq ol;subst this;exact l3 rfl) nf.e o
theorem Ez{vK:V}{Ks:List p_}(f:Z3 bl h h')(ol:e_ h bl [x,y,z])(rk:q_ p_.s 9 h vK Ks)(k3:Ks≠[]):q_ p_.s 9 h' vK Ks:=by
 let⟨hl,a⟩:=rk;have ln:(Ks.flatMap p_.s).length=Ks.length*9:=aC cS Ks;obtain⟨s,sm,ns⟩:∃s∈Ks.flatMap p_.s,nI s:=by
  cases Ks with
  |nil=>exact absurd rfl k3
  |cons q L=>exact nQ (x:=q.tg) (by simp[p_.s,p_.part])
 have kp:0<Ks.length:=XT.2 k3;refine⟨hl,?_⟩;cases vK with
 |y b o len cap=>let⟨h1,K,C,ow,h3,Z⟩:=a;refine⟨h1,K,C,f.e ol (.inl ⟨s,WR (WX (Z▸sm)),ns⟩) (fun e=>?_) ow,h3,Z⟩;have:=congrArg List.length Z;rw[ln,Yk,Yl]at this;omega
 |G b o len k=>let⟨h1,K,C,ow,h3,Z⟩:=a;refine⟨h1,K,C,f.e ol (.inl ⟨s,WR (WX (Z▸sm)),ns⟩) (fun e=>?_) ow,h3,Z⟩;have:=congrArg List.length Z;rw[ln,Yk,Yl]at this;omega
 |_=>exact a
end
section
variable {n0 : NL} {h : a_} {b bg B bm S bl : Nat} {Ks : List p_} {cap : Int} {X : List m_} {l : List Int} {kn st : List Bool} {vK vT : V} {pm : Option Nat} {mc : dN} {Tl : List (Nat × Int)} {k : Nat} {d view over : Int} {lo : Bool}
theorem N6(Z:(Z_ (fun _=>none) 0 Tl).2=0)(K:∀q∈Ks,1<=q.P/\q.P<=2305843009213693952)(x:m_):1<=mI Ks Tl x/\mI Ks Tl x<=2305843009213693952:=by
 unfold mI V?;cases e:Tl.find? (fun p=>p.1==x.J)with
 |some p=>exact Gq Tl _ _ Z p (List.mem_of_find?_eq_some e)
 |none=>
  show 1<=(match Ks[x.K]? with|some q=>q.P|none=>1)/\(match Ks[x.K]? with|some q=>q.P|none=>1)<=2305843009213693952
  split;grind;omega
theorem LR(Z:(Z_ (fun _=>none) 0 Tl).2=0)(K:∀q∈Ks,1<=q.P/\q.P<=2305843009213693952)(i:Int):1<=mX Ks Tl X i/\mX Ks Tl X i<=2305843009213693952:=by unfold mX;split;exact N6 Z K _;omega
structure FT(h h':a_):Prop where
 I:∀q c,Nf c->c.length≠3->e_ h q c->e_ h' q c
 ro:∀q c,Rs h q c->Rs h' q c
theorem FT.of{h:a_}(f:Fr [] h h'):FT h h':=⟨fun _ _ _ _ o=>f.i o,f.ro⟩
theorem FT.fo{h:a_}(f:FO h h'):FT h h':=⟨fun q c n _ o=>f.e q c n o,f.i⟩
theorem FT.frF{h:a_}{bl:Nat}{x y z:V}(f:Z3 bl h h')(ol:e_ h bl [x,y,z]):FT h h':=⟨fun _ _ n l o=>f.e ol n l o,f.i⟩
def TR(h:a_)(vT:V)(Tl:List (Nat×Int)):Prop:=∀h',FT h h'->R_ h'->C_ htK 2 h' vT Tl
theorem TR.ft(a:TR h vT Tl)(f:FT h h'):TR h' vT Tl:=fun h2 g=>a h2 ⟨fun q c n l o=>g.I q c n l (f.I q c n l o),fun q c r=>g.ro q c (f.ro q c r)⟩
theorem TR.a(a:TR h vT Tl)(g:R_ h):C_ htK 2 h vT Tl:=a h ⟨fun _ _ _ _ o=>o,fun _ _ r=>r⟩ g
def uO(m:Nat->Option Nat)(k:Nat):Int:=if k=0 then-1 else match m k with|some j=>(j:Nat)|none=>-1
theorem Ko{bs bt:Nat}{Z:Int}(w:WF h)(K:R_ h)(s:L_ n0 h b Ks cap X l kn st vK bg B bm S bl pm mc)(pos:∀x∈l,1<=x)(hb:∀q∈Ks,1<=q.P/\q.P<=2305843009213693952)(ty:∀x∈X,x.K<Ks.length)(hk:Ks.length<=256)(k3:Ks≠[])
 (vo:∀x∈X,x.vm.U=true) (sl:st.length=l.length) (aT:TR h vT Tl) (hl:Tl.length<=256) (zt:(Z_ (fun _=>none) 0 Tl).2=0) (ok:T7 view over) (os:e_ h bs [.u b 0]) (ot:e_ h bt [vT]) (an:-1<=Z/\Z<l.length) (dd:0<=d/\d<=2305843009213693952):
 ao go 38 [.u bl 0,.B [ZZ view,ZZ over,.h lo],ZZ Z,ZZ d,.E (.func 39) [] [.u bs 0,.u bt 0]] h fun u h'=>∃p n e l' ks',u=.D [ZZ p,ZZ n,ZZ e]/\
  R5 (mX Ks Tl X) st view over Z d lo 0 0 l kn p n e l' ks'/\(if e=0 then Lo h' bl l' ks' st else Lo h' bl l kn st)/\V8 bl h h':=by
 let⟨v,c1,G,c2,a,g,m,gp,ec,en⟩:=s.g;have ac:=s.lo;let⟨p0,ae,ol,_⟩:=ac;have rd:=s.rd [] h iS (Wl w);have len:=s.t_;have z:0≠bl:=by rintro rfl;have:=congrArg List.length (K.I.uniq ol);have:gq.length=3:=this;exact absurd this dI
 refine FC (N:=39) (m:=mX Ks Tl X) w K s.lo.lo pos ?_ oM ?_ (fun i=>by have:=LR (X:=X) zt hb i;omega);unfold xK;rw[if_neg iX,if_neg oM];intro h' f i i0 i1;obtain⟨n,rfl⟩:∃n:Nat,i=n:=⟨i.toNat,oM⟩;refine Nk f.f (f.e ol (.inr iS) iS s.ob) (gp.C f s.d.f s.d.c ?_) ec.symm en vo (Ez f ol rd.1 k3) ty hk ((aT.ft (.frF f ol)).a (K.frF f z)) hl (f.e ol (.inr iS) iS os) (f.e ol (.inr iS) iS ot) oM;rw[<-ec];cases X with
 |nil=>rw[XM]at len;omega
 |cons x L=>exact nQ (x:=x.X) (by simp[m_.s])
theorem Bf(w:WF h)(gl:R_ h)(s:L_ n0 h b Ks cap X l kn st vK bg B bm S bl pm mc)(pos:∀x∈l,1<=x)(hb:∀q∈Ks,1<=q.P/\q.P<=2305843009213693952)(ty:∀x∈X,x.K<Ks.length)(hk:Ks.length<=256)(k3:Ks≠[])
 (vo:∀x∈X,x.vm.U=true) (hm:∀k j,mc.1 k=some j->j<X.length) (sl:st.length=l.length) (aR:TR h vT Tl) (hT:H64 Tl) (hl:Tl.length<=256) (kk:k<18446744073709551616):
 ao go 8 [.u b 0,.B [ZZ view,ZZ over,.h lo],vA k d,vT] h fun u h'=>∃p n e,u=.D [ZZ p,ZZ n,ZZ e]/\
  (¬T7 view over->e=1/\Fr [] h h')/\(T7 view over->O? mc.1 k d Tl≠0->e=O? mc.1 k d Tl/\Fr [] h h')/\
  (T7 view over->O? mc.1 k d Tl=0->∃l' ks',R5 (mX Ks Tl X) st view over (uO mc.1 k) d lo 0 0 l kn p n e l' ks'/\(if e=0 then Lo h' bl l' ks' st else Lo h' bl l kn st)/\V8 bl h h'):=by
 have aT:=aR.a gl;have vt:=aT.U;let⟨h1,an,aH,bf⟩:=aq w [.u b 0];let⟨h2,ar,ax,a9⟩:=aq aH.o [ZZ view,ZZ over,.h lo];let⟨h3,az,aN,a4⟩:=aq ax.o [ZX (k:Int),ZZ d];let⟨h4,a3,a7,ay⟩:=aq aN.o [vT];have n1:=x_ an;have n2:=x_ ar;have n3:=x_ az;have a8:=a7;have a6:=aN.c a8;have ba:=ax.c a6;have K:=aH.c ba;have o4:=ba.i bf;have o5:=a6.i a9;have o6:=a8.i a4;have s4:∀{H},Fr [] h4 H->ab H h.e 0=some (.u b 0):=fun f=>(f.i o4).j 0;have sf:∀{H},Fr [] h4 H->aj H h1.e 0 3=some [ZZ view,ZZ over,.h lo]:=fun f=>by rw[(f.i o5).N];rfl
 have sa:∀{H},Fr [] h4 H->aj H h2.e 0 2=some [ZX (k:Int),ZZ d]:=fun f=>by rw[(f.i o6).N];rfl
 have sk:∀{H},Fr [] h4 H->ab H h2.e 0=some (ZX (k:Int)):=fun f=>(f.i o6).j 0;have sd:∀{H},Fr [] h4 H->ab H h2.e 1=some (ZZ d):=fun f=>(f.i o6).j 1;have bi:∀{H},Fr [] h4 H->ab H h3.e 0=some vT:=fun f=>(f.i ay).j 0;have ae:∀{H},Fr [] h H->ab H b 4=some (.u bl 0):=fun f=>(f.i s.ob).j 4;have a2:∀{H},Fr [] h H->ab H b 3=some (.u bm 0):=fun f=>(f.i s.ob).j 3;have r4:Fr [] h4 h4:=Wl K.o;have q4:=s.fr w K;refine ah ?_;simp only[b_,seval,<-an,<-ar,<-az,<-a3,aF vt,s4 r4];refine aa (mA q4) ?_;rintro _ _ ⟨rfl,rfl⟩;simp only[b_,seval,j_,s4 r4,ae K,sf r4];apply aa (qQ K.o q4.lo.lo);rintro _ h5 ⟨rfl,F5⟩;have a5:=K.c F5;by_cases ok:T7 view over;rw[if_pos ok];simp only[b_,seval,DF,j_,s4 r4,ae K,sf r4,bi F5];apply aa (JH F5.o (aT.fr a5) hT hl);rintro _ h6 ⟨rfl,F6⟩;have a1:=F5.c F6;have bh:=K.c a1;by_cases zt:(Z_ (fun _=>none) 0 Tl).2=0;simp only[b_,seval,zt,sa a1];apply aa (Ce F6.o);rintro _ h7 ⟨rfl,F7⟩;have Z:=a1.c F7;have af:=K.c Z;by_cases za:acE k d=0;have zc:O? mc.1 k d Tl=if k≠0/\mc.1 k=none then 11 else 0:=by unfold O?;rw[if_pos zt,if_pos za]
 have dd:0<=d/\d<=2305843009213693952:=by unfold acE at za;by_cases c:d<0\/2305843009213693952<d\/(k=0/\0<d);omega;omega
 have len:=s.t_;have fin:∀H,Fr [] h4 H->¬(k≠0/\mc.1 k=none)->ao go 38 [.u bl 0,.B [ZZ view,ZZ over,.h lo],ZZ (uO mc.1 k),ZZ d,.E (.func 39) [] [.u h.e 0,.u h3.e 0]] H fun u h'=>∃p n e l' ks',u=.D [ZZ p,ZZ n,ZZ e]/\
  R5 (mX Ks Tl X) st view over (uO mc.1 k) d lo 0 0 l kn p n e l' ks'/\(if e=0 then Lo h' bl l' ks' st else Lo h' bl l kn st)/\V8 bl H h':=by
  intro H f nn;have f0:=K.c f;refine Ko f.o (gl.fr f0) (s.fr w f0) pos hb ty hk k3 vo sl (aR.ft (.of f0)) hl zt ok (f.i o4) (f.i ay) ?_ dd;unfold uO;by_cases k0:k=0;omega;grind
 by_cases k0:k=0;have nn:¬(k≠0/\mc.1 k=none):=fun x=>x.1 k0;have ea:uO mc.1 k=-1:=by unfold uO;rw[if_pos k0]
 have a0:=fin h7 Z nn;rw[ea]at a0|-;simp only[b_,seval,j_,za,sk Z,eq_true (oM:(k:Int)=0),s4 Z,ae af,sf Z,sd Z];apply aa a0;rintro _ h9 ⟨p,n,e,l',ks',rfl,S9,L9,F9⟩;simp only[b_,seval,DF,j_,s4 Z,ae af,sf Z,sd Z];exact⟨_,_,_,rfl,fun x=>absurd ok x,fun _ x=>absurd (zc.trans (if_neg nn)) x,fun _ _=>⟨l',ks',S9,L9,(frL af).a F9⟩⟩;simp only[b_,seval,j_,za,sk Z,eq_false (oM:¬(k:Int)=0),s4 Z,a2 af];apply aa (mG F7.o (q4.k.fr Z) kk);rintro _ h8 ⟨rfl,F8⟩;have ac:=Z.c F8;have ak:=K.c ac;cases mk:mc.1 k with
 |none=>simp only[b_,seval,DF,j_,fJ,s4 Z,a2 af,sk Z];refine⟨_,_,_,rfl,fun x=>absurd ok x,fun _ _=>⟨(zc.trans (if_pos ⟨k0,mk⟩)).symm,ak⟩,fun _ x=>absurd ((zc.trans (if_pos ⟨k0,mk⟩)).symm.trans x) dI⟩
 |some j=>
  have nn:¬(k≠0/\mc.1 k=none):=fun x=>by rw[mk]at x;cases x.2
  have ea:uO mc.1 k=(j:Nat):=by unfold uO;rw[if_neg k0,mk]
  have aJ:=fin h8 ac nn;rw[ea]at aJ|-;simp only[b_,seval,DF,j_,fJ,s4 Z,a2 af,sk Z,s4 ac,ae ak,sf ac,sd ac];apply aa aJ;rintro _ h9 ⟨p,n,e,l',ks',rfl,S9,L9,F9⟩;simp only[b_,seval,DF,j_,s4 ac,ae ak,sf ac,sd ac];exact⟨_,_,_,rfl,fun x=>absurd ok x,fun _ x=>absurd (zc.trans (if_neg nn)) x,fun _ _=>⟨l',ks',S9,L9,(frL ak).a F9⟩⟩
 have zc:O? mc.1 k d Tl=acE k d:=by unfold O?;rw[if_pos zt,if_neg za]
 simp only[b_,seval,eq_false za];refine⟨_,_,_,rfl,fun x=>absurd ok x,fun _ _=>⟨zc.symm,af⟩,fun _ x=>absurd (zc.symm.trans x) za⟩;have zc:O? mc.1 k d Tl=(Z_ (fun _=>none) 0 Tl).2:=by unfold O?;rw[if_neg zt]
 simp only[b_,seval,eq_false zt];refine⟨_,_,_,rfl,fun x=>absurd ok x,fun _ _=>⟨zc.symm,bh⟩,fun _ x=>absurd (zc.symm.trans x) zt⟩;rw[if_neg ok];simp only[b_,seval,DF,j_,s4 r4,ae K,sf r4];exact⟨_,_,_,rfl,fun _=>⟨rfl,a5⟩,fun x=>absurd x ok,fun x=>absurd x ok⟩
end
open Go.Ev.St
theorem MC{p q:Option Nat}(h:pv p=pv q):p=q:=by cases p<;>cases q<;>simp[pv]at h|-;exact h
theorem Ow{S T:List Nat}{h:a_}(f:Fr S h h')(hs:∀x∈S,x∈T):Fr T h h':=⟨f.e,f.o,fun x k hx o=>f.I x k (fun m=>hx (hs x m)) o,fun x k hx o=>f.pl x k (fun m=>hx (hs x m)) o,f.lp,f.ro⟩
theorem V8.e{h:a_}{b:Nat}{pm:Option Nat}{l l0:List Int}{ks k0 b0:List Bool}(f:V8 b h h')(a:Q4 h b pm l0 k0 b0)(lo:Lo h' b l ks bs):Q4 h' b pm l ks bs:=by let⟨p,vk,o,_⟩:=a;let⟨x,y,o'⟩:=f.p _ _ _ o;let⟨p2,Z,K,o2,r⟩:=lo;have e:=o'.uniq o2;simp at e;have:=MC e.2.2;subst this;exact⟨p2,Z,o2,r⟩
section
variable {n0 : NL} {h h' : a_} {b bg B bm S bl : Nat} {Ks : List p_} {cap : Int} {X : List m_} {l l' : List Int} {kn st kn' st' : List Bool} {vK : V} {pm : Option Nat} {mc : dN}
theorem L_.settled(w:WF h)(s:L_ n0 h b Ks cap X l kn st vK bg B bm S bl pm mc)(f:V8 bl h h')(a:Lo h' bl l' kn' st')(hl:l'.length=X.length):L_ n0 h' b Ks cap X l' kn' st' vK bg B bm S bl pm mc:=
 s.lay w (Ow f.z iS) (f.e s.lo a) hl (.inl rfl)
def Sb(h:a_)(p:Nat):Prop:=∃c,e_ h p c/\∃s,V.f s∈c
theorem At.frT{p:Nat}(f:Fr [p] h h')(o:Sb h p):∀{t:Tr}{q:Option Nat},At h t q->At h' t q
 |.w_,_,a=>a
 |.node l s r,_,⟨q,pl,pr,e,oq,al,ar⟩=>⟨q,pl,pr,e,f.I _ _ (by
  simp;rintro rfl;let⟨c,oc,s,m⟩:=o;have:=oq.uniq oc;subst this;cases pl<;>cases pr<;>simp[pv]at m) oq,At.frT f o al,At.frT f o ar⟩
theorem Q4.frT{p:Nat}(a:Q4 h b pm l kn st)(f:Fr [p] h h')(o:Sb h p)(hb:b≠p)(hp:∀q,pm=some q->q≠p):Q4 h' b pm l kn st:=by
 let⟨p',vk,ow,v1,⟨p2,K,L,e1,⟨t,p3,e2,at',tl,ft⟩,sL,x⟩,mk,e⟩:=a;refine⟨p',vk,f.I _ _ (eV hb) ow,v1,⟨p2,K,L,e1,⟨t,p3,e2,At.frT f o at',tl,ft⟩,?_,x⟩,?_,e⟩;obtain z|⟨q,e3,Z,lq⟩:=sL;exact .inl z;refine .inr ⟨q,e3,f.I _ _ ?_ Z,lq⟩;simp;rintro rfl;let⟨c,oc,s,m⟩:=o;have:=Z.uniq oc;subst this;simp[sp]at m;cases pm with
 |none=>exact mk
 |some q=>let⟨ws,Z,y⟩:=mk;exact⟨ws,f.I _ _ (by simpa using hp q rfl) Z,y⟩
theorem L_.skipT{p:Nat}(w:WF h)(s:L_ n0 h b Ks cap X l kn st vK bg B bm S bl pm mc)(o:Sb h p)(K:p∉Wr b bg B bm S bl pm)(lp:Lx n0 p)(f:Fr [p] h h'):
 L_ n0 h' b Ks cap X l kn st vK bg B bm S bl pm mc:=by
 have g:∀{y},y∈Wr b bg B bm S bl pm->y∉[p]:=fun m q=>K (Wi.1 q▸m);have n:=f.e;refine⟨f.I _ _ (g (by simp[Wr])) s.ob,s.g.l f (g (by simp[Wr])) (g (by simp[Wr])),s.gB.fr f (g (by simp[Wr])),s.k.frS f (g (by simp[Wr])) (g (by simp[Wr])),s.gS.fr f (g (by simp[Wr])),
  s.lo.frT f o (fun e=>K (e▸by simp[Wr])) (fun q e c=>K (c▸by simp[Wr,e])),s.t_,fun Z h2 hZ f2=>?_,s.d,by have:=s.Sl';omega,fun q e=>by have:=s.pl q e;omega,by have:=s.bl';omega,fun z q=>by have:=s.n0l z q;omega⟩
 refine s.rd ([p]++Z) h2 (fun z m=>?_) (Wp f f2 w (fun x m=>.inl (Wa.2 (.inl m))) (fun x m=>.inl (Wa.2 (.inr m))));obtain m|m:=Wa.1 m;grind;grind
end
def W7(L:List (Int×Bool×Bool))(i:Nat)(size:Int)(kn:Bool):List (Int×Bool×Bool):=L.set i (size,kn,(sy L).getD i false)
theorem Cz(L:List (Int×Bool×Bool))(i:Nat)(size:Int)(kn:Bool):sz (W7 L i size kn)=(sz L).set i size:=by simp[W7,sz]
theorem JR(L:List (Int×Bool×Bool))(i:Nat)(size:Int)(kn:Bool):ky (W7 L i size kn)=(ky L).set i kn:=by simp[W7,ky]
theorem JQ(L:List (Int×Bool×Bool))(i:Nat)(size:Int)(kn:Bool):sy (W7 L i size kn)=sy L:=by
 unfold W7;have:sy (L.set i (size,kn,(sy L).getD i false))=(sy L).set i ((sy L).getD i false):=by simp[sy]
 rw[this];apply Yy;intro j;rw[Zp];by_cases c:i=j;grind;rw[if_neg c]
theorem tj(L:List (Int×Bool×Bool))(i:Nat)(size:Int)(kn:Bool):(W7 L i size kn).length=L.length:=by simp[W7]
theorem Af:∀(L:List (Int×Bool×Bool))(i:Nat)(size:Int)(kn:Bool),i<L.length→((L.flatMap rc).set (i*3) (.A .i64 size)).set (i*3+1) (.h kn)=(W7 L i size kn).flatMap rc
 |[],i,_,_,h=>by simp at h
 |r::L,0,size,kn,_=>by simp[W7,rc,sy,List.flatMap_cons]
 |r::L,i+1,size,kn,h=>by
  have ih:=Af L i size kn (eV h);have e1:(i+1) *3=i*3+3:=oM;have e2:W7 (r::L) (i+1) size kn=r::W7 L i size kn:=by simp[W7,sy]
  rw[e2,List.flatMap_cons,List.flatMap_cons,←ih,e1];simp[rc]
theorem JV{h:a_}{v:V}{L:List (Int×Bool×Bool)}{i size:Int}{kn:Bool}(w:WF h)(a:Y_ h v L)(f:I_ (sz L))(hl:L.length<=1024):
 ao go 76 [v,ZZ i,ZZ size,.h kn] h fun u h'=>Fr [] h h'/\if bJ (sz L) i size=0 then∃v',u=.D [v',ZZ 0]/\F_ rc 3 h' h.e v' (W7 L i.toNat size kn)else u=.D [v,ZZ (bJ (sz L) i size)]:=by
 have al:=a.t_;have f1:=f.nn;have f2:=f.2.1;unfold bJ;rw[dq];by_cases c0:i<0
 ·refine ah ?_;simp only[b_,↓reduceIte,Nat.reduceEqDiff,eq_true c0];refine⟨Wl w,?_⟩;rw[if_neg (oM:¬(0<=i/\i<(L.length:Int))),if_neg oM]
 by_cases c1:(L.length:Int)<=i
 ·refine ah ?_;simp only[b_,↓reduceIte,Nat.reduceEqDiff,eq_false c0,al,eq_true c1];refine⟨Wl w,?_⟩;rw[if_neg (oM:¬(0<=i/\i<(L.length:Int))),if_neg oM]
 rw[if_pos (oM:0<=i/\i<(L.length:Int))];by_cases c2:size<1
 ·refine ah ?_;simp only[b_,↓reduceIte,Nat.reduceEqDiff,eq_false c0,al,eq_false c1,eq_true c2];refine⟨Wl w,?_⟩;simp
 by_cases c3:2305843009213693952<size
 ·refine ah ?_;simp only[b_,↓reduceIte,Nat.reduceEqDiff,eq_false c0,al,eq_false c1,eq_false c2,eq_true c3];refine⟨Wl w,?_⟩;simp
 rw[if_neg (oM:¬(size<1\/2305843009213693952<size))];obtain⟨n,rfl⟩:∃n:Nat,i=n:=⟨i.toNat,oM⟩;rw[pi];let⟨bb,o,r,e1,e2,e3,e4,e5,e6⟩:=Y_.ix a n oM;have sg:(sz L).getD n 0=r.1:=by have:=A6 e6;simp[this]
 have rb:0<=r.1/\r.1<=(sz L).sum:=by
  have:=xZ (i:=n) f.1;rw[sg]at this;exact⟨this.2,this.1⟩
 rw[sg];refine ah ?_;simp only[b_,↓reduceIte,Nat.reduceEqDiff,Nat.reduceAdd,j_,eq_false c0,al,eq_false c1,eq_false c2,eq_false c3];refine aa (qq a f) ?_;rintro _ _ ⟨rfl,hh⟩;replace hh:=hh.symm;subst hh;by_cases c4:4611686018427387904-((sz L).sum-r.1)<size
 ·simp(disch:=omega) only[b_,↓reduceIte,Nat.reduceEqDiff,Nat.reduceAdd,DF,j_,Nat.reduceSub,ag,e1,e2,eq_true c4];refine⟨Wl w,?_⟩;simp
 simp(disch:=omega)[b_,DF,j_,ag,e1,e2,eq_false c4];refine aA (fun k env hh=>∃(j:Nat)(vo:V),Fr [] h hh/\env.c_ 0=some v/\env.c_ 1=some (ZZ n)/\env.c_ 2=some (ZZ size)/\env.c_ 3=some (.h kn)/\env.c_ 11=some (ZZ j)/\env.c_ 10=some vo/\j<=L.length/\F_ rc 3 hh h.e vo (L.take j)/\k=L.length-j) L.length oM ?_ ?_
 ·exact⟨0,.r,Wl w,iS,iS,iS,iS,iS,iS,oM,Zs,rfl⟩
 rintro k env hh ⟨j,vo,F,g0,g1,g2,g3,g11,ac,hj,gO,rfl⟩;have a2:=Xn a F;have ak:=a2.t_;by_cases ae:(j:Int)<L.length
 ·let⟨b',o',r',d1,d2,d3,d4,d5,d6⟩:=Y_.ix a2 j ae;have tk:L.take (j+1)=L.take j++[r']:=by rw[Wn,d6];simp
  obtain⟨h5,K⟩:∃h5,h5=h_ hh (rc r'):=⟨_,rfl⟩;have Z:Fr [] hh h5:=K▸WA F.o _;have af:e_ h5 hh.e (rc r'):=K▸Xc F.o _;have ar:h_ hh [ZZ r'.1,.h r'.2.1,.h r'.2.2]=h5:=K.symm;simp only[b_,↓reduceIte,Nat.reduceEqDiff,Nat.reduceLT,g0,g11,ac,ak,eq_true ae,d1,d5,ar];apply YA (x:=r') Z.o (gO.fr Z) iD (CC _) oM af (Wy F.e Z.e) oO;intro v' h6 g6 F6;have U6:=Gs.up (gO.fr Z) F6;simp(disch:=omega) only[b_,↓reduceIte,Nat.reduceEqDiff,ag,g11];refine s_ ⟨L.length-(j+1),oM,j+1,v',(F.c Z).ups w U6,iX,iX,iX,iX,iS,iS,oM,by rw[tk];exact g6,rfl⟩
  done
 ·have ej:j=L.length:=oM
  subst ej;rw[Xq]at gO;obtain⟨_,an⟩|⟨b',q,rfl,hq,ax,hB,oq⟩:=gO
  ·have:=congrArg List.length an;rw[aC iD]at this;simp at this;omega
  rw[aC iD]at hq;have:q=L.length:=oM
  subst this;have ix:=lK 3 b' 0 L.length 3 .i64 (n:Int) oM oM;rw[pi,WG]at ix;have fl:=aC iD L;simp[b_,g0,g1,g2,g11,ac,ak,ix];refine ai (c':=(L.flatMap rc).set (n*3) (ZZ size)) F.o oq rfl rfl (fF _ _ _ (by rw[fl];omega)) ?_;rintro h7 o7 F7 n7;simp[b_,g1,g3,ac,ix];refine ai (c':=((L.flatMap rc).set (n*3) (ZZ size)).set (n*3+1) (.h kn)) F7.o o7 rfl rfl (fF _ _ _ (by rw[WV,fl];omega)) ?_;rintro h8 o8 F8 n8;simp only[b_,↓reduceIte,Nat.reduceEqDiff,ac];rw[Af L n size kn oM]at o8;refine⟨(F.z F7 w hB).z F8 w hB,?_⟩;exact⟨.G b' 0 L.length 3,rfl,.inr ⟨b',L.length,rfl,by rw[aC iD,tj],ax,hB,o8⟩⟩
def w?(M:List Int):Int->Int:=fun i=>M.getD (i.toNat%M.length) 0
theorem BW{l:List Int}{s:Int}{A:List Int}(a:qR l bs view over s A):A.length<=l.length/\∀i∈A,0<=i/\i<l.length:=by obtain⟨K,_,rfl⟩:=a;split;simp;refine⟨AI _ _ _ _,fun i Z=>?_⟩;simp only[qJ,WP,Yj,List.mem_range]at Z;obtain⟨j,⟨hj,_⟩,rfl⟩:=Z;omega
theorem FY{l:List Int}{i x:Int}(h:bJ l i x≠0):0<bJ l i x:=by unfold bJ at h|-;split;omega;omega
theorem Y3.f{L:List (Int×Bool×Bool)}(g:Y3 L){i:Nat}{x:Int}{kn:Bool}(z:bJ (sz L) i x=0):Y3 (W7 L i x kn):=by let⟨_,_,x1,x2⟩:=qd z;refine⟨by rw[tj];exact g.d,fun r Z=>?_,?_⟩;obtain q|q:=WQ Z;exact g.e r q;grind;rw[Cz];have:=(CZ g.a z).2.1;rw[pi]at this;exact this
theorem Bj{h:a_}{B:Nat}{v vm:V}{L:List (Int×Bool×Bool)}{M:List Int}{delta an:Int}{lo:Bool}(w:WF h)(a:F_ rc 3 h B v L)(hB:B<=h.e)(am:lP h vm M)(g:Y3 L)(ok:T7 view over)(a0:-1<=an)(ha:an<(L.length:Nat))(d0:0<=delta)(d1:delta<=2305843009213693952)
 (hM:0<M.length) (bk:M.length<=1000):
 ao go 27 [v,ZZ view,ZZ over,.h lo,ZZ an,ZZ delta,vm] h fun u h'=>Fr [] h h'/\∃s n e L' v',u=.D [v',ZZ s,ZZ n,ZZ e]/\
  U2 (w? M) (sy L) view over an delta lo 0 0 (sz L) (ky L) s n e (sz L') (ky L')/\(e=0->F_ rc 3 h' B v' L'/\L'.length=L.length):=by
 have gl:=g.d;let⟨k1,k2,k3,k4⟩:=ok;have ok:T7 view over:=⟨k1,k2,k3,k4⟩;have bh:(ky L).count false<=(ky L).length:=XE;rw[HO]at bh;refine ah ?_;simp[b_];refine aA (fun k env Z=>∃(r:Nat)(s:Int)(vn:V)(N:List (Int×Bool×Bool)),Fr [] h Z/\env.c_ 0=some v/\env.c_ 1=some (ZZ view)/\env.c_ 2=some (ZZ over)/\env.c_ 3=some (.h lo)/\env.c_ 4=some (ZZ an)/\env.c_ 5=some (ZZ delta)/\env.c_ 6=some vm/\
  env.c_ 18=some vn/\env.c_ 19=some (ZZ s)/\env.c_ 20=some (ZZ r)/\F_ rc 3 Z B vn N/\Y3 N/\N.length=L.length/\sy N=sy L/\(ky N).count false<=k/\r+(ky N).count false<=1024/\
  ∀s2 n2 e2 l2 a3,U2 (w? M) (sy L) view over an delta lo s r (sz N) (ky N) s2 n2 e2 l2 a3->U2 (w? M) (sy L) view over an delta lo 0 0 (sz L) (ky L) s2 n2 e2 l2 a3) ((ky L).count false) oM ?_ ?_
 ·exact⟨0,0,v,L,Wl w,iS,iS,iS,iS,iS,iS,iS,iS,iS,iS,a,g,rfl,rfl,VZ _,oM,fun _ _ _ _ _ x=>x⟩
 rintro k env Z ⟨r,s,vn,N,F,g0,g1,g2,g3,g4,g5,g6,K,ay,ak,rN,gN,lN,sN,hk,hr,up⟩;have aN:Y_ Z vn N:=rN.recs iD oM;have fit:=gN.a;have f1:=fit.nn;have f2:=fit.2.1;have t1:=jX fit an.toNat;obtain⟨s',ae⟩:∃s',s'=U7 (sz N) view an delta lo r s:=⟨_,rfl⟩;have ci:aX (sz N) view s'=s':=by rw[ae];exact dL _ _ _ _ _ _ _
 have sb:0<=s'/\(s'<(sz N).sum\/N=[])/\s'<=4611686018427387904:=by
  by_cases c:N=[]
  ·unfold aX at ci;exact⟨oM,.inr c,oM⟩
  ·have:=gN.b c;unfold aX at ci;exact⟨oM,.inl oM,oM⟩
 have a2:=aN;have KG:(0<=an/\(r:Int)=0)\/(0<=an/\¬(r:Int)=0/\lo=false)\/(0<=an/\¬(r:Int)=0/\lo=true)\/¬0<=an:=by cases lo<;>simp<;>omega
 have tp:0<=an->ao go 73 [vn,ZZ an] Z fun u h'=>u=ZZ ((sz N).take an.toNat).sum/\h'=Z:=fun c=>by
  have q:=pa aN fit (i:=an.toNat) oM;rw[Int.toNat_of_nonneg c]at q;exact q
 obtain⟨ca,cr⟩|⟨ca,cr,cl⟩|⟨ca,cr,cl⟩|ca:=KG
 case' inl=>
  have er:U7 (sz N) view an delta lo r s=aX (sz N) view (((sz N).take an.toNat).sum+delta):=by
   unfold U7;rw[if_pos ⟨ca,.inl oM⟩]
  simp only[b_,seval,g4,K,ak,eq_true ca,eq_true cr];refine aa (tp ca) ?_;rintro _ _ ⟨rfl,Z⟩;replace Z:=Z.symm;subst Z;simp(disch:=omega) only[b_,seval,ag,g1,g5,K];refine aa (mt aN fit k1 k2) ?_;rintro _ _ ⟨rfl,Z⟩;replace Z:=Z.symm;subst Z;rw[<-er,<-ae];simp only[b_,seval,g1,g2,K]
 case' inr.inl=>
  have aH:=g3;rw[cl]at aH;have er:U7 (sz N) view an delta lo r s=aX (sz N) view (((sz N).take an.toNat).sum+delta):=by
   unfold U7;rw[if_pos ⟨ca,.inr cl⟩]
  simp only[b_,seval,aH,g4,K,ak,eq_true ca,eq_false cr];refine aa (tp ca) ?_;rintro _ _ ⟨rfl,Z⟩;replace Z:=Z.symm;subst Z;simp(disch:=omega) only[b_,seval,ag,g1,g5,K];refine aa (mt aN fit k1 k2) ?_;rintro _ _ ⟨rfl,Z⟩;replace Z:=Z.symm;subst Z;rw[<-er,<-ae];simp only[b_,seval,g1,g2,K]
 case' inr.inr.inl=>
  have aH:=g3;rw[cl]at aH;have er:U7 (sz N) view an delta lo r s=aX (sz N) view s:=by
   unfold U7;rw[if_neg (by rw[cl];simp;omega)]
  simp only[b_,seval,g1,aH,g4,K,ay,ak,eq_true ca,eq_false cr];refine aa (mt aN fit k1 k2) ?_;rintro _ _ ⟨rfl,Z⟩;replace Z:=Z.symm;subst Z;rw[<-er,<-ae];simp only[b_,seval,g1,g2,K]
 case' inr.inr.inr=>
  have er:U7 (sz N) view an delta lo r s=aX (sz N) view s:=by
   unfold U7;rw[if_neg (fun x=>ca x.1)]
  simp only[b_,seval,g1,g4,K,ay,eq_false ca];refine aa (mt aN fit k1 k2) ?_;rintro _ _ ⟨rfl,Z⟩;replace Z:=Z.symm;subst Z;rw[<-er,<-ae];simp only[b_,seval,g1,g2,K]
 all_goals
  refine aa (JW F.o aN fit k1 k2 k3 k4 sb.1 sb.2.1 sb.2.2) ?_;rintro ur h1 ⟨F1,hd,bi,iu⟩;obtain⟨A,hA⟩:∃A,A=if N=[]then[]else qJ (cN (sz N) view over s').1 (cN (sz N) view over s').2 hd N.length:=⟨_,rfl⟩;rw[<-hA]at iu;have af:qR (sz N) (sy L) view over s' A:=by
   refine⟨hd,by rw[dq,<-sN];exact bi,?_⟩;rw[hA,dq];by_cases c:N=[]
   ·rw[if_pos c,if_pos (by rw[c];rfl)]
   ·rw[if_neg c,if_neg (by intro e;apply c;have:=congrArg List.length e;rw[dq]at this;exact Wu.1 this)]
  have ar:=BW af;rw[dq]at ar;have bf:=F.c F1;simp only[b_];refine aA (fun k env Z=>∃(j:Nat)(vj:V)(J:List (Int×Bool×Bool))(mo:Bool),Fr [] h1 Z/\env.c_ 0=some v/\env.c_ 1=some (ZZ view)/\env.c_ 2=some (ZZ over)/\env.c_ 3=some (.h lo)/\env.c_ 4=some (ZZ an)/\env.c_ 5=some (ZZ delta)/\env.c_ 6=some vm/\
   env.c_ 18=some vj/\env.c_ 19=some (ZZ s')/\env.c_ 20=some (ZZ r)/\env.c_ 21=some (.h mo)/\env.c_ 22=some ur/\env.c_ 23=some (ZZ j)/\F_ rc 3 Z B vj J/\Y3 J/\J.length=L.length/\sy J=sy L/\j<=A.length/\
   aV (w? M) A (sz N) (ky N) false=aV (w? M) (A.drop j) (sz J) (ky J) mo/\k=A.length-j) A.length oM ?_ ?_
  ·exact⟨0,vn,N,false,Wl F1.o,iX,iX,iX,iX,iX,iX,iX,iX,iS,iX,iS,iS,iS,rN.fr F1,gN,lN,sN,oM,rfl,rfl⟩
  clear g0 g1 g2 g3 g4 g5 g6 K ay ak;rintro k2 bj a4 ⟨j,vj,J,mo,F2,g0,g1,g2,g3,g4,g5,g6,K,ay,ak,a7,a1,ax,rJ,gJ,lJ,sJ,hj,lr,rfl⟩;have aJ:Y_ a4 vj J:=rJ.recs iD oM;have aR:=bf.c F2;have a8:=Q5.fr iu F2;have il:=a8.t_;by_cases az:(j:Int)<A.length
  ·let⟨b1,o1,x,e1,e2,e3⟩:=a8.ix .i64 j oM az;simp at e3;have aT:ab a4 b1 o1=some (ZZ x):=e2;have rx:=ar.2 x (Wc e3);obtain⟨p,rfl⟩:∃p:Nat,x=p:=⟨x.toNat,oM⟩;have dr:A.drop j=(p:Int)::A.drop (j+1):=by
    have ba:j<A.length:=oM
    rw[Xf ba];congr 1;rw[Wf ba]at e3;exact Xl e3
   let⟨b2,o2,a6,d1,d2,d3,d4,d5,d6⟩:=Y_.ix aJ p oM;have kg:(ky J).getD p false=a6.2.1:=by simp[ky,d6]
   have inr:(0:Int)<=(p:Int)/\(p:Int)<(sz J).length:=by rw[dq];omega
   cases hk:a6.2.1
   ·rw[hk]at d3 kg;have a9:=Q5.fr am aR;have bg:=a9.t_;have tm:=Gk (p:Int) (M.length:Int) oM;rw[show Int.tmod (p:Int) (M.length:Int)=((p%M.length:Nat):Int)from(Int.ofNat_tmod p M.length).symm]at tm;have pl:=XC p hM;let⟨b3,o3,y,y1,y2,y3⟩:=a9.ix .i64 ((p%M.length:Nat):Int) oM oM;simp only[pi]at y3;have a5:ab a4 b3 o3=some (ZZ y):=y2;have my:w? M (p:Int)=y:=by simp[w?,y3]
    have ac:aV (w? M) A (sz N) (ky N) false=if bJ (sz J) p y=0 then aV (w? M) (A.drop (j+1)) ((sz J).set p y) ((ky J).set p true) true else(bJ (sz J) p y,sz J,ky J,mo):=by
     rw[lr,dr,aV,if_pos inr,pi,kg,my];rfl
    simp only[b_,seval,j_,g6,K,a1,ax,il,eq_true az,e1,aT,d1,d3,bg,tm,y1,a5];refine aa (JV F2.o aJ gJ.a gJ.d) ?_;rintro uu h3 ⟨F3,hu⟩;rw[pi]at hu;by_cases z:bJ (sz J) p y=0
    ·rw[if_pos z]at hu ac;obtain⟨v',rfl,gr⟩:=hu;simp(disch:=omega) only[b_,seval,DF,j_,ag,ax,aT,a5];refine s_ ⟨A.length-(j+1),oM,j+1,v',W7 J p y true,true,F2.c F3,iX,iX,iX,iX,iX,iX,iX,iS,iX,iX,iS,iX,iS,Gs.ge gr (by have:=aR.e;omega),gJ.f z,by rw[tj];exact lJ,by rw[JQ];exact sJ,oM,by rw[Cz,JR];exact ac,rfl⟩
     done
    ·rw[if_neg z]at hu ac;subst hu;have zp:=FY z;simp only[b_,seval,DF,j_,g0,aT,a5,eq_true zp];refine⟨aR.c F3,0,0,bJ (sz J) p y,L,v,rfl,?_,fun q=>absurd q z⟩;apply up;have bd:=U2.c (m:=w? M) (l':=sz L) (ks':=ky L) (ae▸af) (ks:=ky N) (by rw[ac];exact z);rw[ac]at bd;exact bd
   ·rw[hk]at d3 kg;have ac:aV (w? M) A (sz N) (ky N) false=aV (w? M) (A.drop (j+1)) (sz J) (ky J) mo:=by
     rw[lr,dr,aV,if_pos inr,pi,if_pos kg]
    simp(disch:=omega) only[b_,seval,ag,K,a1,ax,il,eq_true az,e1,aT,d1,d3];refine s_ ⟨A.length-(j+1),oM,j+1,vj,J,mo,F2,iX,iX,iX,iX,iX,iX,iX,iX,iX,iX,iX,iX,iS,rJ,gJ,lJ,sJ,oM,ac,rfl⟩
    done
  ·have ac:aV (w? M) A (sz N) (ky N) false=(0,sz J,ky J,mo):=by
    rw[lr,(oM:j=A.length),XR];rfl
   cases mo
   ·simp only[b_,seval,K,ay,ak,a7,a1,ax,il,eq_false az];refine⟨aR,s',r,0,J,vj,rfl,?_,fun _=>⟨rJ,lJ⟩⟩;apply up;have dn:=U2.a (m:=w? M) (ae▸af) ac;rw[<-ae]at dn;exact dn
   ·have sp:=du (w? M) A (sz N) (ky N) false (by rw[HO,dq]) gN.c;rw[ac]at sp;simp only[]at sp;have lt:=sp.2.2.2.2 trivial;simp at lt;simp(disch:=omega) only[b_,seval,ag,ak,a7,a1,ax,il,eq_false az];refine s_ ⟨(ky J).count false,oM,r+1,s',vj,J,aR,iX,iX,iX,iX,iX,iX,iX,iX,iX,iS,rJ,gJ,lJ,sJ,VZ _,oM,?_⟩;intro s2 n2 e2 l2 a3 q;apply up;exact U2.S? (ae▸af) ac (ae▸q)
end Go.Ev.Lay
