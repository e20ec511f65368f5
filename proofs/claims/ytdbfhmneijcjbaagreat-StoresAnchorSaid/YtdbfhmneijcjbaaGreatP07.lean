/- An evaluator of the program, and contracts over it: LayQ to StP. -/
import Derived.Test.YtdbfhmneijcjbaaGreatP04
import Derived.Test.YtdbfhmneijcjbaaGreatP06
set_option linter.unusedSimpArgs false
set_option linter.unusedVariables false
set_option linter.constructorNameAsVariable false
set_option linter.unnecessarySimpa false
set_option maxRecDepth 4000
namespace Go.Ev.Lay
variable{bs ks:List Bool}{h':b_}{pm:Option Nat}{vk:V}
theorem Kr(n m:Int)(Z:List Nat)(k y:Nat):(R3 n m Z).set (2+k) (ZX (y:Int))=R3 n m (Z.set k y):=by rw[XH];simp[R3,uw]
theorem dU(n m:Int)(Z:List Nat):(R3 n m Z).length=Z.length+2:=by simp[R3]
theorem mq(l:List V):bq l 0 []=some l:=by cases l<;>rfl
theorem AM(n m K:Int)(Z:List Nat):bq (R3 n m Z) 1 [ZZ K]=some (R3 n K Z):=by show bq (ZZ n::ZZ m::Z.map uw) (0+1) [ZZ K]=_;rw[bM,aY,mq];rfl
theorem HZ(n Z m:Int)(K:List Nat):bq (R3 n m K) 0 [ZZ Z]=some (R3 Z m K):=by show bq (ZZ n::ZZ m::K.map uw) 0 [ZZ Z]=_;rw[aY,mq];rfl
theorem JN(k:IntKind)(j:Nat)(Z:j<64):aP (.F true) [ZX 1,.C k (j:Int)]=some (ZX ((2^j:Nat):Int)):=by have K:2^j<2^64:=YG oM Z;rw[Nk _ _ _ _ oM];simp only[pi,IntKind.bits,WE (oM:j<=64),Int.one_mul];rw[bY _ (YQ _) (Int.ofNat_le.2 (Nat.le_of_lt_succ (eV K)))]
theorem Dp{h:b_}{b:Nat}{i:Nat}{v:Bool}(w:WF h)(f:Fl h b bs)(hi:i<bs.length):av go 212 [.u b 0,ZZ (i:Int),.h v] h fun u h'=>u=.G []/\Fl h' b (bs.set i v)/\Fr [b] h h'/\h'.i=h.i:=by
 have f0:=f;let⟨ws,o,ok,hn⟩:=f;let⟨x,e1,e2,e3⟩:=ok.w (i/64) oM;have q1:=(LB i).resolve_right oM;have q2:=LA i;have q3:=vu 1 b 2 64 .i64 ((i/64:Nat):Int) oM oM;simp only[pi,WC]at q3;have q4:ag h b (2+i/64)=some (ZX (x:Int)):=by rw[o.o,Dq,e1];rfl
 have q5:=JN .i64 (i%64) oM;have h2:2^(i%64)<2^64:=YG oM oM;have q6:=sZ x (2^(i%64)) _ _ rfl rfl e2 (eV h2);have pc:bs.count true<=bs.length:=List.count_le_length;refine ai ?_;simp[a_];refine aa (HS f0 hi) ?_;rintro _ _ ⟨rfl,hh⟩;subst hh;by_cases hv:bs.getD i false=v;simp only[a_,seval,eq_true hv];rw[<-hv,z9];exact⟨f0,Vk w⟩;simp only[a_,seval,g_,eq_false hv,q1,q2,q3,q4,q5,q6];refine ao (c':=R3 bs.length (bs.count true) (ws.set (i/64) (x^^^2^(i%64)))) w o rfl rfl ?_ ?_;rw[(iR:V.s (ZX ((x^^^2^(i%64):Nat):Int))=[ZX ((x^^^2^(i%64):Nat):Int)]),mj _ _ _ (by rw[dU,ok.A_];omega),Kr];rintro h1 o1 F1 n1;have cs:=Fi bs i v hi hv;have K:=ok.bZ hi hn e1 hv;have ln:((bs.set i v).length:Int)=bs.length:=by simp
 cases v;simp(disch:=omega)[a_,DF,ah,q4,o1.o,R3];apply ao (c':=R3 bs.length ((bs.count true:Int)-1) (ws.set (i/64) (x^^^2^(i%64)))) F1.r o1 rfl rfl (AM _ _ _ _);rintro h2 o2 F2 n2;simp[a_];simp at cs;refine⟨⟨_,by rw[ln,cs,(oM:(bs.count true:Int)+-1=bs.count true-1)];exact o2,K,by simpa using hn⟩,F1.P F2 w (fun x Z=>.inl Z) (fun x Z=>.inl Z),n2.trans n1⟩;simp(disch:=omega)[a_,DF,ah,q4,o1.o,R3];apply ao (c':=R3 bs.length ((bs.count true:Int)+1) (ws.set (i/64) (x^^^2^(i%64)))) F1.r o1 rfl rfl (AM _ _ _ _);rintro h2 o2 F2 n2;simp[a_];simp at cs;refine⟨⟨_,by rw[ln,cs];exact o2,K,by simpa using hn⟩,F1.P F2 w (fun x Z=>.inl Z) (fun x Z=>.inl Z),n2.trans n1⟩
def sI(n:Nat)(a k:Int):Int:=if a<0\/k<0\/n<a\/n-a<k then 4 else 0
theorem mT{h:b_}{b:Nat}{a k:Int}(f:Fl h b bs)(a0:-9223372036854775808<=a)(a1:a<=9223372036854775807):av go 150 [.u b 0,ZZ a,ZZ k] h fun u h'=>u=ZZ (sI bs.length a k)/\h'=h:=by let⟨ws,o,ok,hn⟩:=f;have q:ag h b 0=some (ZZ (bs.length:Int)):=o.o 0;unfold sI;by_cases c1:a<0;refine ai ?_;simp only[a_,seval,c1];simp;by_cases c2:k<0;refine ai ?_;simp only[a_,seval,c1,c2];simp;by_cases Z:(bs.length:Int)<a;refine ai ?_;simp only[a_,seval,q,c1,c2,Z];simp;by_cases K:(bs.length:Int)-a<k;refine ai ?_;simp(disch:=omega) only[a_,seval,ah,q,c1,c2,Z,K];simp;refine ai ?_;simp(disch:=omega) only[a_,seval,ah,q,c1,c2,Z,K];simp
theorem Dt{h:b_}{b:Nat}{i:Int}{v:Bool}(w:WF h)(f:Fl h b bs)(Z:-9223372036854775808<=i)(a1:i<=9223372036854775807):av go 178 [.u b 0,ZZ i,.h v] h fun u h'=>
 (u=ZZ (if 0<=i/\i<bs.length then 0 else 4))/\Fl h' b (if 0<=i/\i<bs.length then bs.set i.toNat v else bs)/\Fr [b] h h'/\h'.i=h.i:=by
 refine ai ?_;simp[a_];refine aa (mT f Z a1) ?_;rintro _ _ ⟨rfl,hh⟩;subst hh;by_cases c:0<=i/\i<bs.length;have e:sI bs.length i 1=0:=by unfold sI;rw[if_neg oM]
 obtain⟨j,rfl⟩:∃j:Nat,i=j:=⟨i.toNat,oM⟩;rw[e,if_pos c,if_pos c];simp[a_];apply aa (Dp w f oM);rintro _ h1 ⟨rfl,f1,K,n1⟩;simp[a_];exact⟨f1,K,n1⟩;have e:sI bs.length i 1=4:=by unfold sI;rw[if_pos oM]
 rw[e,if_neg c,if_neg c];simp[a_];exact⟨f,Vk w⟩
theorem NI(h:b_):WOK (List.replicate 64 0) []:=⟨iS,fun k hk=>⟨0,by rw[Xl,if_pos hk],oM,fun j _=>by simp⟩⟩
theorem Kw{h:b_}(w:WF h):av go 224 [ZZ 0] h fun u h'=>∃b,u=.G [.u b 0,ZZ 0]/\h.i<=b/\Fl h' b []/\Fr [] h h':=by refine ai ?_;simp only[a_,seval];exact⟨_,rfl,Ve _,⟨List.replicate 64 0,Wi w _,NI h,iS⟩,VL w _⟩
theorem Sl.aI{h:b_}{esz:Nat}{v:V}{n:Nat}{cs:List V}{b:Nat}{c c':List V}(a:Sl h esz v n cs)(f:Fr [b] h h')(o:f_ h b c)(o':f_ h' b c')(hl:c'.length=c.length)(hd:cs≠[]->∃x∈cs,x∉c):Sl h' esz v n cs:=by
 let⟨e1,e2⟩:=a;have K:∀(bb Z:Nat),(∃d,f_ h bb d/\Z+n*esz<=d.length/\cs=(d.drop Z).take (n*esz))->∃d,f_ h' bb d/\Z+n*esz<=d.length/\cs=(d.drop Z).take (n*esz):=by rintro bb Z ⟨d,od,h1,h2⟩;by_cases e:bb=b;subst e;have:=od.ae o;subst this;by_cases hL:cs=[];grind;grind;exact⟨d,f.D _ _ (eV e) od,h1,h2⟩
 refine⟨e1,?_⟩;cases v with
 |z bb Z len cap=>let⟨x1,x2,x3⟩:=e2;exact⟨x1,x2,K bb Z x3⟩
 |L bb Z len cap=>let⟨x1,x2,x3⟩:=e2;exact⟨x1,x2,K bb Z x3⟩
 |_=>exact e2
theorem J_.aI{h:b_}{v:V}{b:Nat}{n m n' m':Int}{ws Z:List Nat}(a:J_ h v bs)(f:Fr [b] h h')(o:f_ h b (R3 n m ws))(o':f_ h' b (R3 n' m' Z))(hl:Z.length=ws.length):J_ h' v bs:=by
 refine Sl.aI a f o o' (by simp[dU,hl]) fun K=>?_;cases bs with
 |nil=>simp at K
 |cons x bs=>exact⟨.h x,iS,by simp[R3,uw]⟩
theorem JB(bs:List Bool)(i:Nat)(x:Bool)(h:bs[i]? =some x):((bs.take i).map V.h++List.replicate (bs.length-i) (V.h false)).set i (V.h x)=(bs.take (i+1)).map V.h++List.replicate (bs.length-(i+1)) (V.h false):=by
 have K:i<bs.length:=by grind
 have Z:((bs.take i).map V.h).length=i:=by simp;omega
 rw[Yr,if_neg oM,Z,WP,(oM:bs.length-i=(bs.length-(i+1))+1),WX,XQ,Vs,h];simp
theorem uK{h:b_}{b:Nat}(w:WF h)(f:Fl h b bs):av go 151 [.u b 0] h fun u h'=>J_ h' u bs/\(∃c,u=.z c 0 bs.length bs.length/\h.i<=c)/\Fr [] h h':=by
 have f0:=f;let⟨ws,o,ok,hn⟩:=f;have q:ag h b 0=some (ZZ (bs.length:Int)):=o.o 0;refine ai ?_;simp[a_,q];refine(dy _ _ _ _ _ _ _ _ oM oM oM oM).2 ?_;simp;rw[pE];obtain⟨h1,Z⟩:∃h1,h1=k_ h (List.replicate bs.length (.h false)):=⟨_,rfl⟩;have ac:Fr [] h h1:=Z▸VL w _;have ae:f_ h1 h.i (List.replicate bs.length (.h false)):=Z▸Wi w _;simp[a_,<-Z];refine aC (fun k env hh=>∃i:Nat,env.c_ 12=some (ZZ i)/\env.c_ 11=some (ZZ bs.length)/\env.c_ 3=some (.z h.i 0 bs.length bs.length)/\env.c_ 0=some (.u b 0)/\i<=bs.length/\Fr [] h hh/\
  f_ hh h.i ((bs.take i).map V.h++List.replicate (bs.length-i) (.h false))/\k=bs.length-i) bs.length oM ?_ ?_
 ·exact⟨0,iS,iS,iS,iS,oM,ac,by simpa using ae,rfl⟩
 ·rintro k env hh ⟨i,K,af,g3,g0,hi,F,oo,rfl⟩;by_cases ab:(i:Int)<bs.length
  ·have ei:bs[i]? =some (bs.getD i false):=by simp[(oM:i<bs.length)]
   simp only[a_,seval,K,af,g0,ab];apply aa (HS (f0.fr F) oM);rintro _ _ ⟨rfl,aj⟩;subst aj;have ix:=eM 1 h.i 0 bs.length bs.length .i64 i oM ab;simp at ix;simp only[a_,seval,g3,ix];refine ao (c':=(bs.take (i+1)).map V.h++List.replicate (bs.length-(i+1)) (.h false)) F.r oo rfl rfl ?_ ?_
   ·show bq _ i [.h (bs.getD i false)]=_;rw[mj _ _ _ oO,JB bs i _ ei]
   rintro h2 o2 F2 n2;simp(disch:=omega) only[a_,seval,ah,K];refine t_ ⟨bs.length-(i+1),oM,i+1,iS,iX,iX,iX,oM,F.y F2 w (Ve _),o2,rfl⟩
   done
  ·simp only[a_,seval,K,af,g3,ab];have:i=bs.length:=oM
   subst this;simp at oo;exact⟨Wy oo iS,⟨_,rfl,Ve _⟩,F⟩
theorem C3(B:List Bool)(k:Nat)(x:Bool)(h:B[k]? =some x):(B.take k++List.replicate (B.length-k) false).set k x=B.take (k+1)++List.replicate (B.length-(k+1)) false:=by
 have K:k<B.length:=by grind
 have Z:(B.take k).length=k:=by simp;omega
 rw[Yr,if_neg oM,Z,WP,(oM:B.length-k=(B.length-(k+1))+1),WX,XQ,Vs,h];simp
theorem Fl.bA{h:b_}{b N:Nat}(o:f_ h b (R3 N 0 (List.replicate 64 0)))(Z:N<=4096):Fl h b (List.replicate N false):=by refine⟨List.replicate 64 0,by simpa[List.count_replicate]using o,⟨iS,fun k K=>⟨0,by rw[Xl,if_pos K],oM,fun j _=>?_⟩⟩,by simpa using Z⟩;simp only[Nat.zero_testBit,Wg,Xl];split<;>rfl
theorem J_.aJ{h:b_}{v:V}(a:J_ h v bs):∀k n,v≠.C k n:=by rintro k n rfl;exact a.2
theorem rB{h:b_}{b:Nat}{ba:List Bool}{vl:V}{Ls:List (V×List Bool)}(w:WF h)(f:Fl h b ba)(a:Q3 Prod.fst h vl Ls)(al:∀p∈Ls,J_ h p.1 p.2)(hN:(Ls.flatMap Prod.snd).length<=4096)(hl:Ls.length<=100):
 av go 152 [.u b 0,vl] h fun u h'=>u=.G []/\Fl h' b (Ls.flatMap Prod.snd)/\Fr [b] h h':=by
 let⟨ws,o,ok,hn⟩:=f;obtain⟨B,hB⟩:∃B,B=Ls.flatMap Prod.snd:=⟨_,rfl⟩;rw[<-hB]at hN|-;have aj:∀{Z:b_}{n' m':Int}{aH:List Nat},Fr [b] h Z->f_ Z b (R3 n' m' aH)->aH.length=64->Q3 Prod.fst Z vl Ls/\∀p∈Ls,J_ Z p.1 p.2:=by
  intro Z n' m' aH F o' a8;refine⟨Sl.aI a F o o' (by rw[dU,dU,a8,ok.A_]) fun bk=>?_,fun p hp=>J_.aI (al p hp) F o o' (by rw[a8,ok.A_])⟩;cases Ls with
  |nil=>simp at bk
  |cons p Ls=>
   refine⟨p.1,iS,?_⟩;have:=(al p iS).aJ;simp[R3];exact⟨this _ _,this _ _,fun x _ hx=>this _ _ hx.symm⟩
 have af:∀{Z:b_}{bs:List Bool},Fr [b] h Z->Fl Z b bs->Q3 Prod.fst Z vl Ls/\∀p∈Ls,J_ Z p.1 p.2:=fun F ⟨_,o',ok',_⟩=>aj F o' ok'.A_;refine ai ?_;simp[a_];refine ao (c':=R3 0 0 (List.replicate 64 0)) w o rfl rfl ?_ ?_
 ·rw[bN _ _ _ (by rw[dU,ok.A_];simp[V.s])];simp only[XN,Wv,V.s];rw[Vq (by rw[dU,ok.A_];simp)];rfl
 rintro h1 o1 F1 n1;let⟨a1,br⟩:=aj F1 o1 iS;simp[a_,a1.A_];refine aC (fun k env Z=>∃i:Nat,env.c_ 16=some (ZZ i)/\env.c_ 15=some (ZZ Ls.length)/\env.c_ 14=some vl/\env.c_ 0=some (.u b 0)/\env.c_ 1=some vl/\i<=Ls.length/\Fr [b] h Z/\
  f_ Z b (R3 ((Ls.take i).flatMap Prod.snd).length 0 (List.replicate 64 0))/\k=Ls.length-i) Ls.length oM ?_ ?_
 ·exact⟨0,iS,iS,iS,iS,iS,oM,F1,by simpa using o1,rfl⟩
 rintro k env Z ⟨i,ay,a6,bf,g0,g1,hi,F,oo,rfl⟩;let⟨a2,bp⟩:=aj F oo iS;by_cases ac:(i:Int)<Ls.length
 ·let⟨bb,po,p,e1,e2,e3⟩:=a2.ix .i64 i oM ac;simp at e3;have lp:=bp p (Vg e3);have tk:(Ls.take (i+1)).flatMap Prod.snd=(Ls.take i).flatMap Prod.snd++p.2:=by rw[Vs,e3];simp
  have a9:((Ls.take (i+1)).flatMap Prod.snd).length<=B.length:=by
   rw[hB];conv=>rhs;rw[<-VA (i+1) Ls]
   rw[Wx,Vv];omega
  rw[tk,Vv]at a9;simp(disch:=omega) only[a_,seval,ah,ay,a6,bf,g0,ac,e1,e2,oo.o,R3,lp.A_];refine ao (c':=R3 ((Ls.take (i+1)).flatMap Prod.snd).length 0 (List.replicate 64 0)) F.r oo rfl rfl ?_ ?_
  ·rw[tk,Vv,Int.natCast_add];exact HZ _ _ _ _
  rintro h2 o2 F2 n2;simp(disch:=omega) only[a_,seval,ah,ay];refine t_ ⟨Ls.length-(i+1),oM,i+1,iS,iX,iX,iX,iX,oM,F.P F2 w (fun x hx=>.inl hx) (fun x hx=>.inl hx),o2,rfl⟩
  done
 ·have:i=Ls.length:=oM
  subst this;rw[Wz,<-hB]at oo;have bh:=Fl.bA oo hN;simp[a_,ay,a6,g1,a2.A_];refine aC (fun k env Z=>∃j:Nat,env.c_ 32=some (ZZ j)/\env.c_ 31=some (ZZ Ls.length)/\env.c_ 30=some vl/\env.c_ 0=some (.u b 0)/\
   env.c_ 6=some (ZZ ((Ls.take j).flatMap Prod.snd).length)/\j<=Ls.length/\Fr [b] h Z/\Fl Z b (B.take ((Ls.take j).flatMap Prod.snd).length++List.replicate (B.length-((Ls.take j).flatMap Prod.snd).length) false)/\k=Ls.length-j) Ls.length oM ?_ ?_
  ·exact⟨0,iS,iS,iS,iX,iS,oM,F,by simpa using bh,rfl⟩
  rintro k env Z ⟨j,an,ak,ar,g0,g6,hj,F,fj,rfl⟩;let⟨a3,bo⟩:=af F fj;by_cases ac:(j:Int)<Ls.length
  ·let⟨bb,po,p,e1,e2,e3⟩:=a3.ix .i64 j oM ac;simp at e3;have lp:=bo p (Vg e3);obtain⟨K,hK⟩:∃K,K=((Ls.take j).flatMap Prod.snd).length:=⟨_,rfl⟩;rw[<-hK]at g6 fj;have tk:((Ls.take (j+1)).flatMap Prod.snd).length=K+p.2.length:=by rw[Vs,e3,hK];simp
   have eB:B=(Ls.take j).flatMap Prod.snd++(p.2++(Ls.drop (j+1)).flatMap Prod.snd):=by
    rw[hB];conv=>lhs;rw[<-VA j Ls,aN e3]
    rw[Wx,VM]
   have lB:K+p.2.length<=B.length:=by grind
   have nB:∀q,q<p.2.length->B[K+q]? =p.2[q]? :=fun q hq=>by grind
   simp only[a_,seval,an,ak,ar,ac,e1,e2,lp.A_];refine aC (fun k ab Z=>(∀s,s=32\/s=31\/s=30\/s=0->ab.c_ s=env.c_ s)/\∃q:Nat,ab.c_ 38=some (ZZ q)/\ab.c_ 37=some (ZZ p.2.length)/\ab.c_ 36=some p.1/\ab.c_ 6=some (ZZ ((K+q:Nat):Int))/\q<=p.2.length/\Fr [b] h Z/\
    Fl Z b (B.take (K+q)++List.replicate (B.length-(K+q)) false)/\k=p.2.length-q) p.2.length oM ?_ ?_
   ·exact⟨fun s hs=>by obtain rfl|rfl|rfl|rfl:=hs<;>simp,0,iS,iS,iS,iX,oM,F,by simpa using fj,rfl⟩
   rintro k bm Z ⟨same,q,ax,a0,bc,a7,hq,F,fq,rfl⟩;have a5:=(same 32 iS).trans an;have bi:=(same 31 iS).trans ak;have bj:=(same 30 iS).trans ar;have n0:=(same 0 iS).trans g0;let⟨a4,bn⟩:=af F fq;have bg:=bn p (Vg e3);by_cases ae:(q:Int)<p.2.length
   ·let⟨b5,p5,x,d1,d2,d3⟩:=bg.ix .i64 q oM ae;simp at d3;simp only[a_,seval,n0,ax,a0,bc,a7,ae,d1,d2];apply aa (Dp F.r fq oO);rintro _ h5 ⟨rfl,f5,F5,n5⟩;rw[C3 B (K+q) x ((nB q oM).trans d3)]at f5;simp(disch:=omega) only[a_,seval,ah,ax,a7];refine t_ ⟨p.2.length-(q+1),oM,fun s hs=>by obtain rfl|rfl|rfl|rfl:=hs<;>simp[a5,bi,bj,n0,an,ak,ar,g0],q+1,iS,iX,iX,oO,oM,F.P F5 w (fun x hx=>.inl hx) (fun x hx=>.inl hx),f5,rfl⟩
    done
   ·have:q=p.2.length:=oM
    subst this;simp(disch:=omega) only[a_,seval,ah,a5,ax,a0,ae];refine t_ ⟨Ls.length-(j+1),oM,j+1,iS,iX,iX,iX,iX,oM,F,by rw[tk];exact fq,rfl⟩
    done
  ·have:j=Ls.length:=oM
   subst this;rw[Wz,<-hB]at fj;simp at fj;simp[a_,an,ak];exact⟨fj,F⟩
theorem GP(n i:Nat)(v:Bool)(K:i<n):((List.replicate i v).map V.h++List.replicate (n-i) (V.h false)).set i (V.h v)=(List.replicate (i+1) v).map V.h++List.replicate (n-(i+1)) (V.h false):=by
 have Z:((List.replicate i v).map V.h).length=i:=by simp
 rw[Yr,if_neg oM,Z,WP,(oM:n-i=(n-(i+1))+1),WX,XQ,List.replicate_succ'];simp
theorem Q3.O{α:Type}{f:α->V}{h:b_}{v:V}{l:List α}(a:Q3 f h v l):v.O=true:=Wj a
theorem Kz{h:b_}{b:Nat}{a n:Nat}{v:Bool}(w:WF h)(f:Fl h b bs)(ha:a<=bs.length)(hn:n+bs.length<=4096):
 av go 225 [.u b 0,ZZ (a:Int),ZZ (n:Int),.h v] h fun u h'=>u=ZZ 0/\Fl h' b (bs.take a++List.replicate n v++bs.drop a)/\Fr [b] h h':=by
 have f0:=f;let⟨ws,o,ok,a0⟩:=f;have q:ag h b 0=some (ZZ (bs.length:Int)):=o.o 0;refine ai ?_;simp only[a_,seval];refine aa (mT f0 oM oM) ?_;rintro _ _ ⟨rfl,K⟩;replace K:=K.symm;subst K;have e:sI bs.length a 0=0:=by unfold sI;rw[if_neg oM]
 rw[e];simp(disch:=omega) only[a_,seval,ah,(oM:¬(n:Int)<0),q,(oM:¬4096-(bs.length:Int)<n)];refine(dy _ _ _ _ _ _ _ _ oM oM oM oM).2 ?_;simp only[pi];rw[pE];obtain⟨h0,e0⟩:∃h0,h0=h:=⟨h,rfl⟩;subst e0;obtain⟨h1,Z⟩:∃h1,h1=k_ h0 (List.replicate n (V.h false)):=⟨_,rfl⟩;have an:Fr [] h0 h1:=Z▸VL w _;have af:f_ h1 h0.i (List.replicate n (V.h false)):=Z▸Wi w _;rw[<-Z];simp only[a_,seval];refine aC (fun k env K=>∃i:Nat,env.c_ 34=some (ZZ i)/\env.c_ 33=some (ZZ n)/\env.c_ 10=some (.z h0.i 0 n n)/\env.c_ 0=some (.u b 0)/\env.c_ 1=some (ZZ a)/\env.c_ 3=some (.h v)/\i<=n/\Fr [] h0 K/\
  f_ K h0.i ((List.replicate i v).map V.h++List.replicate (n-i) (V.h false))/\k=n-i) n oM ?_ ?_
 ·exact⟨0,iS,iS,iS,iS,iS,iS,oM,an,by simpa using af,rfl⟩
 ·rintro k env K ⟨i,ac,ak,ae,g0,g1,g3,hi,F,oo,rfl⟩;by_cases ab:(i:Int)<n
  ·have ix:=eM 1 h0.i 0 n n .i64 i oM ab;simp at ix;simp only[a_,seval,ac,ak,ae,g3,ab,ix];refine ao (c':=(List.replicate (i+1) v).map V.h++List.replicate (n-(i+1)) (V.h false)) F.r oo rfl rfl ?_ ?_
   ·show bq _ i [.h v]=_;rw[mj _ _ _ oO,GP _ _ _ oM]
   rintro h2 o2 F2 n2;simp(disch:=omega) only[a_,seval,ah,ac];refine t_ ⟨n-(i+1),oM,i+1,iS,iX,iX,iX,iX,iX,oM,F.y F2 w (Ve _),o2,rfl⟩
   done
  ·have:i=n:=oM
   subst this;simp only[WP,Yk,Wk]at oo;have bm:J_ K (.z h0.i 0 i i) (List.replicate i v):=by
    have:=Wy (esz:=1) (n:=i) oo iS;show Sl K 1 _ _ _;simpa using this
   simp only[a_,seval,ac,ak,g0,ab];apply aa (uK F.r (f0.fr F));rintro _ h2 ⟨bl,⟨c,rfl,ar⟩,F2⟩;let⟨v1,s1,b1⟩:=bl.ba iS .i64 a oM oM;let⟨v3,s3,b3⟩:=bl.aO iS .i64 a oM oM;simp only[pi]at b1 b3;have c1:=az (Q3.O b1);have c3:=az (Q3.O b3);let⟨h3,aH,ax,ay⟩:=au F2.r [v1,.z h0.i 0 i i,v3];have e3:k_ h2 [v1,.z h0.i 0 i i,v3]=h3:=aH.symm;simp only[a_,seval,g_,ae,g0,g1,s1,s3,c1,c3,e3];have aj:=(F.c F2).c ax;refine aa (rB (Ls:=[(v1,bs.take a),(.z h0.i 0 i i,List.replicate i v),(v3,bs.drop a)]) ax.r (f0.fr aj) (Wy (n:=3) ay rfl) ?_ ?_ iS) ?_
   ·intro p hp;simp at hp;obtain rfl|rfl|rfl:=hp
    ·exact b1.fr ax
    ·exact bm.fr (F2.c ax)
    ·exact b3.fr ax
   ·simp;omega
   rintro _ h4 ⟨rfl,f4,F4⟩;simp only[a_,seval,DF];refine⟨by simpa[VM]using f4,aj.P F4 w iS (fun x hx=>.inl hx)⟩
def Glb(h:b_):Prop:=Pl h 0 ON
theorem MU(n:Nat):bF .u64 (n:Int)=((n%18446744073709551616:Nat):Int):=by rw[dO];simp only[IntKind.wrap,IntKind.bits,IntKind.signed];simp
theorem NP(x y:Nat)(b:Int)(Z:b=y):aP (.h .mul) [ZX (x:Int),ZX b]=some (ZX ((x*y%18446744073709551616:Nat):Int)):=by subst Z;rw[CG,<-Int.natCast_mul,MU]
theorem IP(l:List V)(k:IntKind)(n i:Nat)(Z:i<n):aP (.f n 1 false) [.B l,.C k (i:Int)]=X0 l i:=by
 have:lY (.C k (i:Int)) n=some i:=by show(bif Nat.blt i n then some i else none)=_;rw[(VE ..).mpr Z];rfl
 simp[aP,this,VX,cond_false,WC]
def Sel(bs:List Bool)(k p:Nat):Prop:=p<bs.length/\bs.getD p false=true/\(bs.take p).count true=k
def Mk(h:b_)(pm:Option Nat)(bs:List Bool):Prop:=match pm with
 |none=>bs=[]
 |some c=>Fl h c bs
theorem Mk.fr{h:b_}(a:Mk h pm bs)(f:Fr [] h h'):Mk h' pm bs:=by
 cases pm with
 |none=>exact a
 |some c=>exact Fl.fr a f
def Lo(h:b_)(b:Nat)(l:List Int)(ks bs:List Bool):Prop:=∃p vk pm,f_ h b [pv p,vk,pv pm]/\vk.O=true/\Ix h (.B [pv p,vk]) l ks/\Mk h pm bs/\bs.length=l.length
theorem Lo.fr{h:b_}{b:Nat}{l:List Int}(a:Lo h b l ks bs)(f:Fr [] h h'):Lo h' b l ks bs:=by let⟨p,Z,pm,o,K,ix,mk,e⟩:=a;exact⟨p,Z,pm,f.c_ o,K,ix.fr f,mk.fr f,e⟩
theorem Glb.c{h:b_}(a:Glb h)(f:Fr [] h h'):Glb h':=f.pl _ _ iS a
theorem Ln{h:b_}{b:Nat}{l:List Int}(w:WF h)(a:Lo h b l ks bs):av go 62 [.u b 0] h fun u h'=>u=ZZ l.length/\Fr [] h h':=by let⟨p,vk,pm,o,v1,ix,mk,e⟩:=a;refine ai ?_;simp[a_,o.J];refine aa (m8 w ix) ?_;rintro _ K ⟨rfl,Z⟩;simp[a_];exact Z
theorem Ix.rp{h:b_}{p:Option Nat}{l:List Int}(a:Ix h (.B [pv p,vk]) l ks):Rp h (.B [pv p]) l:=by let⟨K,Z,L,e,r,_⟩:=a;simp at e;rw[e.1];exact r
theorem Jl{h:b_}{b:Nat}{l:List Int}{i:Int}(w:WF h)(a:Lo h b l ks bs):
 av go 76 [.u b 0,ZZ i] h fun u h'=>(u=if 0<=i/\i<l.length then .G [ZZ (l.getD i.toNat 0),ZZ 0]else .G [ZZ 0,ZZ 4])/\Fr [] h h':=by
 let⟨p,vk,pm,o,v1,ix,mk,e⟩:=a;refine ai ?_;simp[a_,o.J];refine aa (IY w ix) ?_;rintro _ K ⟨rfl,Z⟩;by_cases c:0<=i/\i<l.length;simp only[if_pos c];simp[a_];exact Z;simp[if_neg c];simp[a_];exact Z
theorem NC{h:b_}{b:Nat}{l:List Int}{x:Int}(w:WF h)(a:Lo h b l ks bs)(K:-9223372036854775808<=x)(Z:x<=9223372036854775807):
 av go 80 [.u b 0,ZZ x] h fun u h'=>(u=if 0<=x/\x<l.sum then .G [ZZ (aX l x).1,ZZ (aX l x).2,ZZ 0]else .G [ZZ 0,ZZ 0,ZZ 4])/\Fr [] h h':=by
 let⟨p,vk,pm,o,v1,ix,mk,e⟩:=a;refine ai ?_;simp[a_,o.J];refine aa (Nl w ix K Z) ?_;rintro _ h2 ⟨rfl,F2⟩;by_cases c:0<=x/\x<l.sum;simp[if_pos c];simp[a_];exact F2;simp[if_neg c];simp[a_];exact F2
def okF(view over:Int):Prop:=1<=view/\view<=2147483648/\0<=over/\over<=16
instance(view over:Int):Decidable (okF view over):=by unfold okF;infer_instance
theorem mI:∀{l:List Int}{x:Int},0≤x→x<l.sum→(aX l x).1<l.length
 |[],x,h0,h1=>by simp at h1;omega
 |s::l,x,h0,h1=>by simp only[aX];by_cases c:x<s;rw[if_pos c];simp;rw[if_neg c];have:=mI (l:=l) (x:=x-s) oM (by simp at h1;omega);simpa using this
def H?(l:List Int)(bs:List Bool)(s r e:Int):Prop:=
 if l=[]/\s=0 then r=0/\e=11 else if 0<=s/\s<l.sum then if(bs.take ((aX l s).1+1)).count true=0 then r=0/\e=11 else e=0/\∃p:Nat,r=p/\Sel bs ((bs.take ((aX l s).1+1)).count true-1) p else r=0/\e=4
theorem H?.c{l:List Int}{s r e:Int}(a:H? l bs s r e)(h:e=0):0<=s/\s<l.sum/\∃p:Nat,r=p/\p<bs.length:=by unfold H? at a;split at a;omega;split at a;rename_i c;split at a;omega;let⟨_,p,Z,K⟩:=a;exact⟨c.1,c.2,p,Z,K.1⟩;omega
structure FrF(b:Nat)(h h':b_):Prop where
 d:h.i<=h'.i
 o:WF h'
 f:∀x c,x≠b->(∀n m ws,ws.length=64->c≠R3 n m ws)->f_ h x c->f_ h' x c
 i:∀x c,x≠b->(∀n m ws,ws.length=64->c≠R3 n m ws)->Pl h x c->Pl h' x c
 l:∀x c,Rs h x c->Rs h' x c
theorem FrF.c{b:Nat}{h h1 h2:b_}(a:FrF b h h1)(c:FrF b h1 h2):FrF b h h2:=
 ⟨VC a.d c.d,c.o,fun x d hx hd o=>c.f x d hx hd (a.f x d hx hd o),fun x d hx hd o=>c.i x d hx hd (a.i x d hx hd o),fun x d r=>c.l x d (a.l x d r)⟩
theorem Lm{h:b_}(w:WF h):av go 43 [] h fun u h'=>∃b,u=.u b 0/\h.i<=b/\Lo h' b [] [] []/\f_ h' b [.K,.j,.K]/\Fr [] h h':=by refine ai ?_;simp only[a_,seval];refine⟨_,rfl,Ve _,⟨none,.j,none,Wi w _,rfl,⟨none,.j,[],rfl,⟨.D_,none,rfl,rfl,rfl,iS,iS,iS⟩,.inl ⟨rfl,rfl⟩,⟨trivial,iS,fun i=>by simp[L_]⟩,rfl,iS⟩,rfl,rfl⟩,Wi w _,VL w _⟩
theorem Ix.aI{h:b_}{v:V}{l:List Int}{b:Nat}{c:List V}(a:Ix h v l ks)(f:Fr [b] h h')(o:f_ h b c)(K:c.length≠6)(Z:∀L:List (Int×Int),0<L.length->c≠L.flatMap sp):Ix h' v l ks:=by let⟨p,vk,L,e,r,s,x⟩:=a;exact⟨p,vk,L,e,r.aI f o K,s.aI f o Z,x⟩
theorem Ix.bt{h:b_}{v:V}{l:List Int}{b:Nat}(a:Ix h v l ks)(f:Fr [b] h h')(fl:Fl h b bs):Ix h' v l ks:=by
 let⟨K,o,ok,_⟩:=fl;refine a.aI f o (by rw[dU,ok.A_];omega) fun L p e=>?_;have hm:∀x∈R3 (bs.length:Int) (bs.count true:Int) K,∃n,x=ZZ n:=by rw[e];intro x Z;simp only[List.mem_flatMap,sp]at Z;let⟨s,_,Z⟩:=Z;simp at Z;obtain rfl|rfl:=Z<;>exact⟨_,rfl⟩
 cases K with
 |nil=>have:=ok.A_;simp at this
 |cons y K=>let⟨n,hn⟩:=hm (uw y) (by simp[R3]);simp[uw]at hn
theorem wK{p:Option Nat}(Z:∀k n,vk≠.C k n):∀x∈[pv p,vk,pv pm],∀k n,x≠.C k n:=by
 intro x K k n;simp at K;obtain rfl|rfl|rfl:=K;cases p<;>simp[pv]
 exact Z k n;cases pm<;>simp[pv]
theorem Ix.aJ{h:b_}{p:Option Nat}{l:List Int}(a:Ix h (.B [pv p,vk]) l ks):∀k n,vk≠.C k n:=by let⟨K,Z,L,e,r,s,_⟩:=a;simp at e;obtain⟨_,rfl⟩:=e;exact s.aJ
theorem Ix.bg{h:b_}{c d:V}{l:List Int}(a:Ix h (.B [c,d]) l ks):∃p,c=pv p:=by let⟨Z,K,L,e,_⟩:=a;simp at e;exact⟨Z,e.1⟩
theorem Mk.aI{h:b_}{b:Nat}{c:List V}(a:Mk h pm bs)(f:Fr [b] h h')(o:f_ h b c)(Z:c.length=3):Mk h' pm bs:=by
 cases pm with
 |none=>exact a
 |some q=>let⟨ws,K,ok,hn⟩:=a;refine⟨ws,f.D _ _ ?_ K,ok,hn⟩;simp;rintro rfl;have:=K.ae o;subst this;rw[dU,ok.A_]at Z;omega
theorem J_.bR{h:b_}{v:V}{b:Nat}{c c':List V}(a:J_ h v bs)(f:Fr [b] h h')(o:f_ h b c)(K:f_ h' b c')(hc:∀x,V.h x∉c)(hl:c'.length=c.length):J_ h' v bs:=by
 refine Sl.aI a f o K hl fun Z=>?_;cases bs with
 |nil=>simp at Z
 |cons x bs=>exact⟨.h x,iS,hc x⟩
theorem R?{p:Option Nat}(h:∀x,vk≠V.h x):∀x,V.h x∉[pv p,vk,pv pm]:=by
 intro x Z;simp at Z;obtain e|e|e:=Z;cases p<;>simp[pv]at e
 exact h x e.symm;cases pm<;>simp[pv]at e
theorem T9.bC{h:b_}{v:V}{L:List (Int×Int)}(a:T9 h v L):∀x,v≠V.h x:=by obtain⟨rfl,_⟩|⟨b,rfl,_⟩:=a<;>simp
theorem Ix.bC{h:b_}{p:Option Nat}{l:List Int}(a:Ix h (.B [pv p,vk]) l ks):∀x,vk≠V.h x:=by let⟨K,Z,L,e,r,s,_⟩:=a;simp at e;obtain⟨_,rfl⟩:=e;exact s.bC
theorem Ki{st:List Bool}{i j:Nat}(hi:i<=bs.length)(x:Bool)(Z:st[j]? =some x):
 (bs.take i++(st.take j++List.replicate (st.length-j) false)++bs.drop i).set (i+j) x=bs.take i++(st.take (j+1)++List.replicate (st.length-(j+1)) false)++bs.drop i:=by
 have hj:j<st.length:=by grind
 have K:(bs.take i).length=i:=by simp;omega
 rw[VN,Yr,if_neg oM,K,XK,Yr,if_pos oO,C3 st j x Z,VN,VN,VN]
theorem EO{st:List Bool}{i j:Nat}(Z:st[j]? =some false):bs.take i++(st.take j++List.replicate (st.length-j) false)++bs.drop i=bs.take i++(st.take (j+1)++List.replicate (st.length-(j+1)) false)++bs.drop i:=by
 have K:j<st.length:=by grind
 rw[Vs,Z,(oM:st.length-j=(st.length-(j+1))+1),WX];simp
end Go.Ev.Lay
namespace Go.Ev.St
abbrev bu:=Nat×Nat×Nat
def U6(a n j:Nat):Nat:=(a+j)%n
theorem BR{a n j:Nat}(h:0<n):U6 a n j<n:=WN _ h
theorem Hg(a n j:Nat):(U6 a n j+1)%n=U6 a n (j+1):=by unfold U6;rw[Nat.mod_add_mod,WJ]
theorem He(a n:Nat):U6 a n 0=a%n:=by simp[U6]
theorem Hh{a n i:Nat}(h:i<n):∃j,j<n/\U6 a n j=i:=by refine⟨(i+(n-a%n))%n,WN _ (by omega),?_⟩;unfold U6;have Z:a%n<n:=WN _ (by omega);rw[Nat.add_mod_mod,<-Nat.mod_add_mod,show a%n+(i+(n-a%n))=i+n by omega,Nat.add_mod_right,XM h]
structure W_(mx:Nat->Nat)(sl:List bu):Prop where
 n:∀s∈sl,s.1=0\/s.1=1\/s.1=2
 c:∀i j k v w:Nat,sl[i]? =some (1,k,v)->sl[j]? =some (1,k,w)->i=j
 d:∀i k v:Nat,sl[i]? =some (1,k,v)->∃j,j<sl.length/\U6 (mx k) sl.length j=i/\∀j',j'<j->∀s,sl[U6 (mx k) sl.length j']? =some s->s.1≠0
 f:∃(i:Nat)(s:bu),sl[i]? =some s/\s.1=0
structure Zh(mx:Nat->Nat)(sl:List bu)(k at':Nat)(found:Bool):Prop where
 c:at'<sl.length
 d:found=true->∃v,sl[at']? =some (1,k,v)
 f:found=false->(∀i v:Nat,sl[i]? ≠some (1,k,v))/\(∃s:bu,sl[at']? =some s/\s.1≠1)/\∃j,j<sl.length/\U6 (mx k) sl.length j=at'/\∀j',j'<j->∀s,sl[U6 (mx k) sl.length j']? =some s->s.1≠0
structure W6(mx:Nat->Nat)(sl:List bu)(k j:Nat)(g:Option Nat):Prop where
 n:j<sl.length
 d:∀j',j'<j->∀s,sl[U6 (mx k) sl.length j']? =some s->s.1≠0/\¬(s.1=1/\s.2.1=k)
 f:∀x,g=some x->x<sl.length/\∃j0,j0<j/\U6 (mx k) sl.length j0=x/\∃s,sl[x]? =some s/\s.1=2
variable {mx : Nat -> Nat} {sl : List bu} {k j : Nat} {g : Option Nat}
theorem W_.l(o:W_ mx sl):0<sl.length:=by let⟨i,s,h,_⟩:=o.f;have:=(Vt.1 h).1;omega
theorem W6.l(o:W_ mx sl)(k:Nat):W6 mx sl k 0 none:=⟨o.l,fun _ h=>by omega,fun _ h=>by cases h⟩
theorem W6.i(q:W6 mx sl k j g){v:Nat}(h:sl[U6 (mx k) sl.length j]? =some (1,k,v)):Zh mx sl k (U6 (mx k) sl.length j) true:=
 ⟨BR (by have:=q.n;omega),fun _=>⟨v,h⟩,fun e=>by cases e⟩
theorem W6.c(o:W_ mx sl)(q:W6 mx sl k j g){s:bu}(h:sl[U6 (mx k) sl.length j]? =some s)(h0:s.1=0)(i v:Nat):sl[i]? ≠some (1,k,v):=by intro Z;let⟨K,l1,e1,p1⟩:=o.d i k v Z;obtain c|c|c:=Yw K j;have:=(q.d K c (1,k,v) (by rw[e1];exact Z)).2;exact this ⟨rfl,rfl⟩;grind;exact p1 j c s h h0
theorem W6.o(o:W_ mx sl)(q:W6 mx sl k j g){s:bu}(h:sl[U6 (mx k) sl.length j]? =some s)(h0:s.1=0):Zh mx sl k (g.getD (U6 (mx k) sl.length j)) false:=by
 cases g with
 |none=>exact⟨BR o.l,fun e=>(by cases e),fun _=>⟨q.c o h h0,⟨s,h,by omega⟩,j,q.n,rfl,fun j' hj s hs=>(q.d j' hj s hs).1⟩⟩
 |some x=>let⟨l1,j0,l2,e,K,Z,h2⟩:=q.f x rfl;have:=q.n;exact⟨l1,fun e=>(by cases e),fun _=>⟨q.c o h h0,⟨K,Z,by omega⟩,j0,by omega,e,fun j' hj s hs=>(q.d j' (by omega) s hs).1⟩⟩
theorem W6.p(o:W_ mx sl)(q:W6 mx sl k j g){s:bu}(h:sl[U6 (mx k) sl.length j]? =some s)(h0:s.1≠0)(h1:¬(s.1=1/\s.2.1=k)):
 W6 mx sl k (j+1) (if s.1=2/\g=none then some (U6 (mx k) sl.length j)else g):=by
 have jl:=q.n;have seen:∀Z,Z<j+1->∀s,sl[U6 (mx k) sl.length Z]? =some s->s.1≠0/\¬(s.1=1/\s.2.1=k):=by intro Z hj s' hs;by_cases c:Z=j;grind;exact q.d Z (by omega) s' hs
 refine⟨?_,seen,?_⟩;obtain c|c:=Wt (j+1) sl.length;exact c;exfalso;let⟨i,s',hi,h'⟩:=o.f;let⟨Z,l',e⟩:=Hh (a:=mx k) (Vt.1 hi).1;exact(seen Z (by omega) s' (by rw[e];exact hi)).1 h';intro x K;by_cases c:s.1=2/\g=none;grind;rw[if_neg c]at K;let⟨l1,j0,l2,e⟩:=q.f x K;exact⟨l1,j0,by omega,e⟩
theorem gy(sl:List bu)(a i:Nat)(x s:bu)(h:(sl.set a x)[i]? =some s):(i=a/\s=x/\a<sl.length)\/(i≠a/\sl[i]? =some s):=by grind
theorem jY{sl:List bu}{a:Nat}(x:bu)(h:a<sl.length):(sl.set a x)[a]? =some x:=Yt h
theorem W_.p(o:W_ mx sl){a:Nat}(q:Zh mx sl k a false)(v:Nat)(hr:∃(i:Nat)(s:bu),i≠a/\sl[i]? =some s/\s.1=0):W_ mx (sl.set a (1,k,v)):=by
 let⟨no,⟨s0,ac,h0⟩,j,jl,je,jp⟩:=q.f rfl;refine⟨?_,?_,?_,?_⟩;intro s Z;obtain h|rfl:=WH Z;exact o.n s h;omega;intro i i' k' v' w' K ab;obtain⟨e1,e,_⟩|⟨c,h1⟩:=gy _ _ _ _ _ K<;>obtain⟨e2,e',_⟩|⟨c',h2⟩:=gy _ _ _ _ _ ab
 rw[e1,e2];grind;grind;exact o.c _ _ _ _ _ h1 h2;intro i k' v' K;rw[VV];obtain⟨rfl,e,_⟩|⟨c,K⟩:=gy _ _ _ _ _ K;grind;let⟨j1,l1,e1,p1⟩:=o.d i k' v' K;refine⟨j1,l1,e1,fun j' hj s Z=>?_⟩;obtain⟨_,rfl,_⟩|⟨_,Z⟩:=gy _ _ _ _ _ Z;simp;exact p1 j' hj s Z;let⟨i,s,c,K,Z⟩:=hr;exact⟨i,s,by rw[Ws (WW c)];exact K,Z⟩
theorem W_.i(o:W_ mx sl){a w:Nat}(h:sl[a]? =some (1,k,w))(v:Nat):W_ mx (sl.set a (1,k,v)):=by
 have key:∀i k' v':Nat,(sl.set a (1,k,v))[i]? =some (1,k',v')->∃w',sl[i]? =some (1,k',w'):=by grind
 have nz:∀(i:Nat)(s:bu),(sl.set a (1,k,v))[i]? =some s->(∀s',sl[i]? =some s'->s'.1≠0)->s.1≠0:=by grind
 refine⟨?_,?_,?_,?_⟩;intro s K;obtain h|rfl:=WH K;exact o.n s h;omega;intro i i' k' v' w' Z ab;let⟨_,h1⟩:=key _ _ _ Z;let⟨_,h2⟩:=key _ _ _ ab;exact o.c _ _ _ _ _ h1 h2;intro i k' v' Z;rw[VV];let⟨_,h1⟩:=key _ _ _ Z;let⟨j1,l1,e1,p1⟩:=o.d _ _ _ h1;exact⟨j1,l1,e1,fun j' hj s K=>nz _ _ K (p1 j' hj)⟩;let⟨i,s,Z,K⟩:=o.f;refine⟨i,s,?_,K⟩;rw[Ws];exact Z;grind
theorem W_.o(o:W_ mx sl){a w:Nat}(h:sl[a]? =some (1,k,w))(x y:Nat):W_ mx (sl.set a (2,x,y)):=by
 have key:∀i k' v':Nat,(sl.set a (2,x,y))[i]? =some (1,k',v')->sl[i]? =some (1,k',v'):=by grind
 refine⟨?_,?_,?_,?_⟩;intro s Z;obtain h|rfl:=WH Z;exact o.n s h;omega;intro i i' k' v' w' K ab;exact o.c _ _ _ _ _ (key _ _ _ K) (key _ _ _ ab);intro i k' v' K;rw[VV];let⟨j1,l1,e1,p1⟩:=o.d _ _ _ (key _ _ _ K);refine⟨j1,l1,e1,fun j' hj s Z=>?_⟩;obtain⟨_,rfl,_⟩|⟨_,Z⟩:=gy _ _ _ _ _ Z;simp;exact p1 j' hj s Z;let⟨i,s,K,Z⟩:=o.f;refine⟨i,s,?_,Z⟩;rw[Ws];exact K;grind
theorem W_.q(mx:Nat->Nat)(n:Nat)(h:0<n):W_ mx (List.replicate n (0,0,0)):=by have e:∀(i:Nat)(s:bu),(List.replicate n ((0,0,0):bu))[i]? =some s->s=(0,0,0):=fun i s Z=>Ym (Vg Z);refine⟨fun s Z=>.inl (by rw[Ym Z]),fun i j k v w hi=>?_,fun i k v hi=>?_,⟨0,(0,0,0),by rw[Xl,if_pos h],rfl⟩⟩;grind;grind
def T3(c:Nat)(sl:List bu):Nat:=sl.countP fun s=>s.1==c
theorem gY{a c:Nat}{s x:bu}(h:sl[a]? =some s):T3 c (sl.set a x)+(if s.1=c then 1 else 0)=T3 c sl+(if x.1=c then 1 else 0):=by
 unfold T3;induction sl generalizing a with
 |nil=>simp at h
 |cons y l ih=>
  cases a with
  |zero=>simp at h;subst h;simp[List.countP_cons];split<;>split<;>omega
  |succ a=>simp[List.countP_cons];have:=ih (a:=a) (by simpa using h);omega
theorem Bf{n:Nat}(h:0<T3 0 sl):∃(i:Nat)(s:bu),sl[i]? =some s/\s.1=0:=by unfold T3 at h;rw[YM]at h;let⟨s,Z,e⟩:=h;let⟨i,K,e2⟩:=List.mem_iff_getElem.1 Z;exact⟨i,s,by rw[Vt];exact⟨K,e2⟩,by simpa using e⟩
theorem Dy(h:∀s∈sl,s.1=0\/s.1=1\/s.1=2):T3 0 sl+T3 1 sl+T3 2 sl=sl.length:=by
 unfold T3;induction sl with
 |nil=>rfl
 |cons y l ih=>have:=ih fun s hs=>h s (WI _ hs);simp[YD];obtain e|e|e:=h y (List.mem_cons_self ..)<;>simp only[e]<;>simp<;>omega
end Go.Ev.St
namespace Go.Ev.Lay
variable{h':b_}{env:T V}{key:Nat}{α:Type}
open Go.Ev.St
theorem Mo(x n m:Nat)(b:Int)(hb:b=n)(K:n<=64)(Z:m=2^n):aP (.F false) [ZX (x:Int),ZX b]=some (ZX ((x/m:Nat):Int)):=by subst hb;rw[CF _ _ _ _ oM];simp only[pi,IntKind.bits,WE K];rw[<-Z];congr 2;exact Int.fdiv_eq_ediv_of_nonneg _ (YQ _)
def NS(x:Nat):Nat:=x^^^(x/2147483648)
def JZ(x:Nat):Nat:=(x^^^(x/134217728)) *10723151780598845931%18446744073709551616
def J0(x:Nat):Nat:=(x^^^(x/1073741824)) *13787848793156543929%18446744073709551616
def q?(x:Nat):Nat:=NS (JZ (J0 x))
theorem MI{h:b_}{x:Nat}(hx:x<18446744073709551616):av go 179 [ZX (x:Int)] h fun u h'=>u=ZX (q? x:Nat)/\h'=h:=by have s1:=Mo x 30 1073741824 30 rfl oM dI;have x1:=sZ x (x/1073741824) _ _ rfl rfl hx oM;have m1:=NP (x^^^x/1073741824) 13787848793156543929 13787848793156543929 rfl;have K:J0 x<18446744073709551616:=WN _ oM;change _=some (ZX ((J0 x:Nat):Int))at m1;unfold q?;generalize J0 x=y at K m1;have s2:=Mo y 27 134217728 27 rfl oM dI;have x2:=sZ y (y/134217728) _ _ rfl rfl K oM;have m2:=NP (y^^^y/134217728) 10723151780598845931 10723151780598845931 rfl;have Z:JZ y<18446744073709551616:=WN _ oM;change _=some (ZX ((JZ y:Nat):Int))at m2;generalize JZ y=z at Z m2;have s3:=Mo z 31 2147483648 31 rfl oM dI;have x3:=sZ z (z/2147483648) _ _ rfl rfl Z oM;change _=some (ZX ((NS z:Nat):Int))at x3;refine ai ?_;simp only[a_,seval,s1,x1,m1,s2,x2,m2,s3,x3]
def sc(s:bu):List V:=[ZY (s.1:Int),ZX (s.2.1:Int),ZZ (s.2.2:Int)]
theorem tN(s:bu):(sc s).length=3:=rfl
def Tb(h:b_)(v:V)(S:Nat)(sl:List bu):Prop:=(v=.z S 0 sl.length sl.length\/v=.L S 0 sl.length 3)/\f_ h S (sl.flatMap sc)
theorem pU(sl:List bu):(sl.flatMap sc).length=sl.length*3:=aG tN sl
theorem Tb.ay{h:b_}{v:V}{S:Nat}{sl:List bu}(t:Tb h v S sl):o_ sc 3 h v sl:=by obtain⟨rfl|rfl,o⟩:=t;exact⟨pU sl,rfl,Ve _,_,o,by rw[pU];omega,by rw[Xo,Vm (by rw[pU];omega)]⟩;exact⟨pU sl,rfl,rfl,_,o,by rw[pU];omega,by rw[Xo,Vm (by rw[pU];omega)]⟩
theorem Tb.ix{h:b_}{v:V}{S:Nat}{sl:List bu}(t:Tb h v S sl)(i:Nat)(Z:i<sl.length):aP (.c 3) [v,ZZ (i:Int)]=some (.u S (i*3)):=by obtain⟨rfl|rfl,o⟩:=t;have:=eM 3 S 0 sl.length sl.length .i64 (i:Int) oM oM;simpa using this;have:=lZ 3 S 0 sl.length 3 .i64 (i:Int) oM oM;simpa using this
theorem Tb.fr{h:b_}{v:V}{S:Nat}{sl:List bu}(t:Tb h v S sl)(f:Fr [] h h'):Tb h' v S sl:=⟨t.1,f.c_ t.2⟩
def gi:Option Nat->Int
 |none=>-1
 |some x=>x
theorem GX(p n:Nat)(h:n≠0):aP (.h .rem) [ZZ ((p:Int)+1),ZZ (n:Int)]=some (ZZ (((p+1)%n:Nat):Int)):=by rw[jy _ _ _ oM];congr 2
theorem ut{mx:Nat->Nat}{h:b_}{b S j:Nat}{v M U:V}{sl:List bu}{g:Option Nat}{Q:Ex->T V->b_->Prop}(w:WF h)(ob:f_ h b [v,M,U])(tb:Tb h v S sl)(op:W_ mx sl)(q:W6 mx sl key j g)(hn:sl.length<1000000)
 (g0:env.c_ 0=some (.u b 0)) (g1:env.c_ 1=some (ZX (key:Int))) (g4:env.c_ 4=some (ZZ (U6 (mx key) sl.length j:Nat))) (g5:env.c_ 5=some (.h false)) (g6:env.c_ 6=some (ZZ (gi g)))
 (Ky:∀env' h' at' found,env'.c_ 4=some (ZZ ((at':Nat):Int))->env'.c_ 5=some (.h found)->Zh mx sl key at' found->Fr [] h h'->Q .d env' h')
 (Kg:∀env' h' g',W6 mx sl key (j+1) g'->env'.c_ 0=some (.u b 0)->env'.c_ 1=some (ZX (key:Int))->env'.c_ 4=some (ZZ (U6 (mx key) sl.length (j+1):Nat))->env'.c_ 5=some (.h false)->env'.c_ 6=some (ZZ (gi g'))->Fr [] h h'->Q (.b 0) env' h'):
 W go yD env h Q:=by
 have jl:=q.n;have hp:U6 (mx key) sl.length j<sl.length:=BR oM;have hx:=tb.ix _ hp;let⟨b1,o1,x,e1,_,e3,e4⟩:=Yj tN tb.ay .i64 (U6 (mx key) sl.length j:Nat) oM oM;rw[hx]at e1;obtain⟨rfl,rfl⟩:S=b1/\U6 (mx key) sl.length j*3=o1:=by simpa using e1
 simp only[pi]at e4;have l0:ag h b 0=some v:=ob.o 0;let⟨s,ky,vl⟩:=x;have Z:=op.n _ (Vg e4);simp[a_,yD,g0,g4,l0,hx,e3];apply u_ (w.a _) (Wi w _);rintro h1 o1 F1 n1;have F:Fr [] h h1:=(VL w _).P F1 w (fun _ hx=>by simp at hx) (fun x hx=>.inr (by simp at hx;omega));have K:ag h1 h.i 0=some (ZY (s:Int)):=o1.o 0;have q1:ag h1 h.i 1=some (ZX (ky:Int)):=o1.o 1;have l1:ag h1 b 0=some v:=(F.c_ ob).o 0;have len:=(tb.fr F).ay.M;have rm:=GX (U6 (mx key) sl.length j) sl.length oM;rw[Hg]at rm;have ab:(hz:s≠0)->(hk:¬(s=1/\ky=key))->∀env':T V,env'.c_ 0=some (.u b 0)->env'.c_ 1=some (ZX (key:Int))->env'.c_ 4=some (ZZ (U6 (mx key) sl.length (j+1):Nat))->env'.c_ 5=some (.h false)->
  env'.c_ 6=some (ZZ (gi (if s=2/\g=none then some (U6 (mx key) sl.length j)else g)))->Q (.b 0) env' h1:=fun hz hk env' a b c d e=>
  Kg env' h1 _ (q.p op e4 hz hk) a b c d e F
 obtain Z|Z|Z:=Z;have Z:s=0:=Z;subst Z;replace K:ag h1 h.i 0=some (ZY 0):=K;have fr:=q.o op e4 rfl;cases g with
 |none=>simp[a_,K,g4,g6,gi];refine Ky _ _ _ _ ?_ ?_ fr F<;>simp
 |some x=>simp[a_,K,g6,gi];refine Ky _ _ _ _ ?_ ?_ fr F<;>simp
 have Z:s=1:=Z;subst Z;replace K:ag h1 h.i 0=some (ZY 1):=K;by_cases hk:ky=key;subst hk;have fo:=q.i e4;simp[a_,K,q1,g1,g4];refine Ky _ _ _ _ ?_ ?_ fo F<;>simp
 have ac:¬(ky:Int)=(key:Int):=oM;have G:=ab oM (fun x=>hk x.2);rw[if_neg iS]at G;simp(disch:=omega)[a_,ah,K,q1,g0,g1,g4,eq_false ac,l1,len,rm];refine G _ ?_ ?_ ?_ ?_ ?_<;>simp[g0,g1,g5,g6,gi]
 have Z:s=2:=Z;subst Z;replace K:ag h1 h.i 0=some (ZY 2):=K;have G:=ab oM oM;cases g with
 |none=>rw[if_pos ⟨rfl,rfl⟩]at G;simp(disch:=omega)[a_,ah,K,g0,g4,g6,gi,l1,len,rm];refine G _ ?_ ?_ ?_ ?_ ?_<;>simp[g0,g1,g5,gi]
 |some x=>rw[if_neg iS]at G;simp(disch:=omega)[a_,ah,K,g0,g4,g6,gi,eq_false (oM:¬(x:Int)<0),l1,len,rm];refine G _ ?_ ?_ ?_ ?_ ?_<;>simp[g0,g1,g5,g6,gi]
theorem JG(a n:Nat)(b:Int)(Z:b=n)(h:n≠0):aP (.h .rem) [ZX (a:Int),ZX b]=some (ZX ((a%n:Nat):Int)):=by subst Z;rw[jy _ _ _ oM];congr 2
theorem pL{h:b_}{b S:Nat}{v M U:V}{sl:List bu}(w:WF h)(ob:f_ h b [v,M,U])(tb:Tb h v S sl)(op:W_ q? sl)(hn:sl.length<1000000)(hk:key<18446744073709551616):
 av go 108 [.u b 0,ZX (key:Int)] h fun u h'=>∃at' found,u=.G [ZZ ((at':Nat):Int),.h found]/\Zh q? sl key at' found/\Fr [] h h':=by
 have l0:ag h b 0=some v:=ob.o 0;have len:=tb.ay.M;have pos:=op.l;have ab:=MI (h:=h) hk;generalize q?=mx at op ab;have rm:=JG (mx key) sl.length (sl.length:Nat) rfl oM;have rl:mx key%sl.length<sl.length:=WN _ pos;refine ai ?_;simp only[a_];refine DY (fun k env K=>Fr [] h K/\∃j g,W6 mx sl key j g/\env.c_ 0=some (.u b 0)/\env.c_ 1=some (ZX (key:Int))/\env.c_ 4=some (ZZ (U6 (mx key) sl.length j:Nat))/\env.c_ 5=some (.h false)/\
  env.c_ 6=some (ZZ (gi g))/\k=sl.length-j) (sl.length-1) oM ?_ ?_
 simp only[a_,seval,g_];refine aa ab ?_;rintro _ _ ⟨rfl,K⟩;replace K:=K.symm;subst K;have ac:bF .u64 (sl.length:Int)=(sl.length:Int):=bY _ oM oM;simp(disch:=omega) only[a_,seval,DF,g_,ah,l0,len,ac,rm];refine ut w ob tb op (W6.l op key) hn ?_ ?_ ?_ ?_ ?_ ?_ ?_;simp;simp;rw[He];simp;simp;simp[gi];intro Z h' at' found e4 e5 L F;show jz _ _ _ _ _;simp only[a_,e4,e5];exact⟨_,_,rfl,L,F⟩;grind;rintro k env K ⟨F,j,g,q,g0,g1,g4,g5,g6,rfl⟩;have jl:=q.n;refine ut F.r (F.c_ ob) (tb.fr F) op q hn g0 g1 g4 g5 g6 ?_ ?_;intro Z h' at' found e4 e5 L F';show jz _ _ _ _ _;simp only[a_,e4,e5];exact⟨_,_,rfl,L,F.c F'⟩;intro Z h' g' q1 a0 a1 a4 a5 a6 F';exact⟨rfl,sl.length-(j+1),oM,F.c F',j+1,g',q1,a0,a1,a4,a5,a6,rfl⟩
structure Zm(h:b_)(b S:Nat)(v:V)(sl:List bu)(m:Nat->Option Nat)(c t:Nat):Prop where
 ob:f_ h b [v,ZZ (c:Int),ZZ (t:Int)]
 tb:Tb h v S sl
 op:W_ q? sl
 n8:8<=sl.length
 nb:sl.length<=20000
 c1:T3 1 sl=c
 c2:T3 2 sl=t
 mp:∀k x:Nat,m k=some x↔∃i:Nat,sl[i]? =some (1,k,x)
 kb:∀s∈sl,s.2.1<18446744073709551616/\s.2.2<4611686018427387904
def Km(h:b_)(b S:Nat)(m:Nat->Option Nat)(c:Nat):Prop:=
 (f_ h b [.j,ZZ 0,ZZ 0]/\c=0/\∀k,m k=none)\/∃v sl t,Zm h b S v sl m c t/\4*(c+t)<=3*sl.length
theorem Zm.fr{h:b_}{b S:Nat}{v:V}{sl:List bu}{m:Nat->Option Nat}{c t:Nat}(k:Zm h b S v sl m c t)(f:Fr [] h h'):Zm h' b S v sl m c t:={k with ob:=f.c_ k.ob,tb:=k.tb.fr f}
theorem Km.fr{h:b_}{b S:Nat}{m:Nat->Option Nat}{c:Nat}(k:Km h b S m c)(f:Fr [] h h'):Km h' b S m c:=by obtain⟨o,x⟩|⟨v,sl,t,k,x⟩:=k;exact .inl ⟨f.c_ o,x⟩;exact .inr ⟨v,sl,t,k.fr f,x⟩
theorem Zm.b?{h:b_}{b S:Nat}{v:V}{sl:List bu}{m:Nat->Option Nat}{c t:Nat}(k:Zm h b S v sl m c t):T3 0 sl+c+t=sl.length:=by have:=Dy k.op.n;rw[k.c1,k.c2]at this;exact this
theorem Zm.ne{h:b_}{b S:Nat}{v:V}{sl:List bu}{m:Nat->Option Nat}{c t:Nat}(k:Zm h b S v sl m c t):b≠S:=by rintro rfl;have e:=k.ob.ae k.tb.2;have:=congrArg List.length e;rw[pU]at this;have:=k.n8;simp at *;omega
theorem Zm.bj{h:b_}{b S:Nat}{v:V}{sl:List bu}{m:Nat->Option Nat}{c t:Nat}(k:Zm h b S v sl m c t){key x:Nat}(e:m key=some x):0<c:=by let⟨i,Z⟩:=(k.mp key x).1 e;rw[<-k.c1];unfold T3;rw[YM];exact⟨_,Vg Z,iS⟩
theorem Kd{h:b_}(w:WF h):av go 42 [] h fun u h'=>∃b,u=.u b 0/\h.i<=b/\Km h' b b (fun _=>none) 0/\Fr [] h h':=by refine ai ?_;simp only[a_,seval];exact⟨_,rfl,Ve _,.inl ⟨Wi w _,rfl,fun _=>rfl⟩,VL w _⟩
theorem Dg{h:b_}{b S:Nat}{m:Nat->Option Nat}{c:Nat}(k:Km h b S m c):av go 107 [.u b 0] h fun u h'=>u=ZZ (c:Int)/\h'=h:=by
 have q:ag h b 1=some (ZZ (c:Int)):=by obtain⟨o,rfl,_⟩|⟨v,sl,t,k,_⟩:=k;exact o.o 1;exact k.ob.o 1
 refine ai ?_;simp[a_,q]
def dh(o:Option Nat):V:=match o with
 |some x=>.G [ ZZ (x:Int),.h true]
 |none=>.G [ZZ 0,.h false]
theorem yI{h:b_}{b S:Nat}{m:Nat->Option Nat}{c:Nat}(w:WF h)(k:Km h b S m c)(hk:key<18446744073709551616):av go 51 [.u b 0,ZX (key:Int)] h fun u h'=>u=dh (m key)/\Fr [] h h':=by
 have k0:=k;refine ai ?_;simp[a_];refine aa (Dg k) ?_;rintro _ _ ⟨rfl,hh⟩;replace hh:=hh.symm;subst hh;by_cases K:(c:Int)=0;have e:m key=none:=by
  obtain⟨o,_,h1⟩|⟨v,sl,t,k,_⟩:=k;exact h1 key;cases e:m key with
  |none=>rfl
  |some x=>have:=k.bj e;omega
 rw[e];simp[a_,K];exact⟨rfl,Vk w⟩;obtain⟨o,h0,h1⟩|⟨v,sl,t,k,_⟩:=k;exact absurd oM K;simp only[a_,seval,eq_false K];refine aa (pL w k.ob k.tb k.op (by have:=k.nb;omega) hk) ?_;rintro _ h2 ⟨at',found,rfl,L,F⟩;cases found;have e:m key=none:=by
  cases e:m key with
  |none=>rfl
  |some x=>let⟨i,hi⟩:=(k.mp key x).1 e;exact absurd hi ((L.f rfl).1 i x)
 rw[e];simp[a_];exact⟨rfl,F⟩;let⟨x,hx⟩:=L.d rfl;have e:m key=some x:=(k.mp key x).2 ⟨_,hx⟩;have k2:=k.fr F;have ix:=k2.tb.ix _ L.c;have l0:ag h2 b 0=some v:=k2.ob.o 0;have l2:ag h2 S (at'*3+2)=some (ZZ (x:Int)):=by
  let⟨b1,o1,y,e1,e2,_,Z⟩:=Yj tN k2.tb.ay .i64 (at':Nat) oM (by have:=L.c;omega);rw[ix]at e1;obtain⟨rfl,rfl⟩:S=b1/\at'*3=o1:=by simpa using e1
  simp only[pi]at Z;rw[hx]at Z;cases Z;exact(e2 2 oM).trans rfl
 rw[e];simp[a_,l0,ix,l2];exact⟨rfl,F⟩
theorem lI(x:bu):∀(sl:List bu)(i:Nat),i<sl.length→bq (sl.flatMap sc) (i*3) (sc x)=some ((sl.set i x).flatMap sc)
 |[],i,h=>by simp at h
 |y::l,0,_=>by show bq (V.C .u8 (y.1:Int)::V.C .u64 (y.2.1:Int)::V.C .i64 (y.2.2:Int)::l.flatMap sc) 0 [V.C .u8 (x.1:Int),V.C .u64 (x.2.1:Int),V.C .i64 (x.2.2:Int)]=_;rw[aY,aY,aY,mq];rfl
 |y::l,i+1,h=>by have ih:=lI x l i (eV h);rw[(oM:(i+1) *3=i*3+1+1+1)];show bq (V.C .u8 (y.1:Int)::V.C .u64 (y.2.1:Int)::V.C .i64 (y.2.2:Int)::l.flatMap sc) (i*3+1+1+1) (sc x)=_;rw[bM,bM,bM,ih];rfl
theorem w9(k v v':Nat):∀(sl:List bu)(i:Nat),sl[i]? =some (1,k,v)→bq (sl.flatMap sc) (i*3+2) [V.C .i64 (v':Int)]=some ((sl.set i (1,k,v')).flatMap sc)
 |[],i,h=>by simp at h
 |y::l,0,h=>by simp at h;subst h;show bq (V.C .u8 ((1:Nat):Int)::V.C .u64 (k:Int)::V.C .i64 (v:Int)::l.flatMap sc) (0+1+1) [V.C .i64 (v':Int)]=_;rw[bM,bM,aY,mq];rfl
 |y::l,i+1,h=>by have ih:=w9 k v v' l i (eV h);rw[(oM:(i+1) *3+2=i*3+2+1+1+1)];show bq (V.C .u8 (y.1:Int)::V.C .u64 (y.2.1:Int)::V.C .i64 (y.2.2:Int)::l.flatMap sc) (i*3+2+1+1+1) [V.C .i64 (v':Int)]=_;rw[bM,bM,bM,ih];rfl
theorem Tb.ZK{h h1:b_}{v:V}{S i:Nat}{sl:List bu}{x:bu}(t:Tb h v S sl)(o:f_ h1 S ((sl.set i x).flatMap sc)):Tb h1 v S (sl.set i x):=⟨by rw[VV];exact t.1,o⟩
theorem j5{sl:List bu}{i:Nat}{x:bu}(kb:∀s∈sl,s.2.1<18446744073709551616/\s.2.2<4611686018427387904)(Z:x.2.1<18446744073709551616/\x.2.2<4611686018427387904):∀s∈sl.set i x,s.2.1<18446744073709551616/\s.2.2<4611686018427387904:=by grind
theorem Lz{sl:List bu}(h:2<=T3 0 sl)(a:Nat):∃(i:Nat)(s:bu),i≠a/\sl[i]? =some s/\s.1=0:=by
 by_cases ha:a<sl.length;have e:=gY (c:=0) (x:=((1,0,0):bu)) (Vp ha);have h2:0<T3 0 (sl.set a (1,0,0)):=by grind
 let⟨i,s,Z,K⟩:=Bf (n:=0) h2;obtain⟨_,rfl,_⟩|⟨ci,Z⟩:=gy _ _ _ _ _ Z;cases K;grind;let⟨i,s,Z,K⟩:=Bf (n:=0) (sl:=sl) oM;have:=(Vt.1 Z).1;exact⟨i,s,oM,Z,K⟩
theorem uU{c i:Nat}{sl:List bu}{s:bu}(h:sl[i]? =some s):T3 c (sl.take (i+1))=T3 c (sl.take i)+(if s.1=c then 1 else 0):=by unfold T3;rw[Vs,h,List.countP_append];simp
theorem Be(c i:Nat)(sl:List bu):T3 c (sl.take i)<=T3 c sl:=by unfold T3;exact List.Sublist.countP_le (XG i sl)
def W?(h:b_)(b S:Nat)(v:V)(ol:List bu):Prop:=(v=.j/\ol=[])\/(Tb h v S ol/\b≠S/\S<h.i)
theorem W?.ay{h:b_}{b S:Nat}{v:V}{ol:List bu}(o:W? h b S v ol):o_ sc 3 h v ol:=by obtain⟨rfl,rfl⟩|⟨t,_⟩:=o;exact Yo;exact t.ay
theorem W?.fr{h:b_}{b S:Nat}{v:V}{ol:List bu}(o:W? h b S v ol)(f:Fr [b] h h'):W? h' b S v ol:=by obtain o|⟨t,ne,lt⟩:=o;exact .inl o;exact .inr ⟨⟨t.1,f.D S _ (by simp;exact fun e=>ne e.symm) t.2⟩,ne,Wn lt f.i⟩
structure X9(sl ol:List bu)(i:Nat):Prop where
 n:W_ q? sl
 d:T3 1 sl=T3 1 (ol.take i)
 l:T3 2 sl=0
 c:∀k x:Nat,(∃j:Nat,sl[j]? =some (1,k,x))↔∃j:Nat,j<i/\ol[j]? =some (1,k,x)
 p:∀s∈sl,s.2.1<18446744073709551616/\s.2.2<4611686018427387904
theorem X9.i{sl ol:List bu}{i:Nat}{s:bu}(m:X9 sl ol i)(h:ol[i]? =some s)(Z:s.1≠1):X9 sl ol (i+1):=by refine{m with d:=by rw[uU h,if_neg Z];exact m.d,c:=fun k x=>(m.c k x).trans ⟨fun⟨j,a,b⟩=>⟨j,oM,b⟩,fun⟨j,a,b⟩=>?_⟩};refine⟨j,?_,b⟩;obtain q|q:=Wt j i;exact q;have:j=i:=oM;subst this;rw[h]at b;cases b;exact absurd rfl Z
theorem X9.o{sl ol:List bu}{i k x a:Nat}(m:X9 sl ol i)(h:ol[i]? =some (1,k,x))(L:Zh q? sl k a false)(hk:k<18446744073709551616)(hx:x<4611686018427387904)(rm:2<=T3 0 sl):X9 (sl.set a (1,k,x)) ol (i+1):=by
 let⟨no,⟨s0,ab,h0⟩,_⟩:=L.f rfl;have z2:s0.1≠2:=by intro e;have:=m.l;unfold T3 at this;rw[List.countP_eq_zero]at this;exact this s0 (Vg ab) iX
 have e1:=gY (c:=1) (x:=((1,k,x):bu)) ab;have K:=gY (c:=2) (x:=((1,k,x):bu)) ab;simp only[if_neg h0,if_neg z2,if_true]at e1 K;refine⟨m.n.p L x (Lz rm a),?_,?_,fun k' x'=>⟨?_,?_⟩,j5 m.p ⟨hk,hx⟩⟩;rw[uU h,if_pos rfl,<-m.d];omega;have:=m.l;simp at K;omega;rintro⟨j,Z⟩;obtain⟨_,e,_⟩|⟨cj,Z⟩:=gy _ _ _ _ _ Z;grind;let⟨j',l',e'⟩:=(m.c k' x').1 ⟨j,Z⟩;exact⟨j',oM,e'⟩;rintro⟨j,lj,Z⟩;by_cases c:j=i;subst c;rw[h]at Z;cases Z;exact⟨a,jY _ L.c⟩;let⟨j',ac⟩:=(m.c k' x').2 ⟨j,oM,Z⟩;refine⟨j',?_⟩;rw[Ws];exact ac;grind
theorem EA(n:Nat):aW [ZY 0,ZX 0,ZZ 0] n=(List.replicate n ((0,0,0):bu)).flatMap sc:=by
 induction n with
 |zero=>rfl
 |succ n ih=>show[ZY 0, ZX 0, ZZ 0]++aW _ n=_;rw[ih,WX];rfl
theorem Bd(c n:Nat)(K:c≠0):T3 c (List.replicate n (0,0,0))=0:=by unfold T3;rw[List.countP_eq_zero];intro s Z;rw[Ym Z];simp;omega
theorem zL{h:b_}{b S q c:Nat}{ov T0:V}{ol:List bu}(w:WF h)(ob:f_ h b [ov,ZZ (c:Int),T0])(old:W? h b S ov ol)(o1:ov.O=true)(t1:T0.O=true)(hl:ol.length<=20000)
 (uq:∀i j k v w:Nat,ol[i]? =some (1,k,v)->ol[j]? =some (1,k,w)->i=j) (oc:T3 1 ol=c) (kb:∀s∈ol,s.2.1<18446744073709551616/\s.2.2<4611686018427387904) (hc:c<=q) (q1:1<=q) (q2:q<=4097):
 av go 226 [.u b 0,ZZ (q:Int)] h fun u h'=>u=.G []/\∃n S' sl,h.i<=S'/\sl.length=n/\8<=n/\n<=20000/\2*q<=n/\f_ h' b [.z S' 0 n n,ZZ (c:Int),ZZ 0]/\Tb h' (.z S' 0 n n) S' sl/\X9 sl ol ol.length/\Fr [b] h h':=by
 have bl:=ob.lt w;refine ai ?_;simp only[a_];refine aC (fun k env K=>h=K/\∃n:Nat,env.c_ 0=some (.u b 0)/\env.c_ 1=some (ZZ (q:Int))/\env.c_ 4=some (ZZ (n:Int))/\8<=n/\n<=16388/\k=2*q-n) (2*q-8) oM ?_ ?_
 ·exact⟨rfl,8,iS,iS,iS,oM,oM,rfl⟩
 rintro k env K ⟨rfl,n,g0,g1,g4,n8,nb,rfl⟩;by_cases hn:(n:Int)<2*(q:Int)
 ·simp(disch:=omega) only[a_,seval,ah,g1,g4,eq_true hn];refine t_ ⟨2*q-n*2,oM,rfl,n*2,iX,iX,iS,oM,oM,rfl⟩
  done
 have l0:ag h b 0=some ov:=ob.o 0;have ms:=EA n;have mk:xI h [ZY 0,ZX 0,ZZ 0] 24 (ZZ (n:Int)) (ZZ (n:Int))=some (.z h.i 0 n n,k_ h ((List.replicate n ((0,0,0):bu)).flatMap sc)):=by
  rw[<-ms];show(bif Nat.ble n n&&Nat.blt n 9223372036854775808&&Nat.ble (24*n) 281474976710656 then some (V.z h.i 0 n n,k_ h (aW [ZY 0,ZX 0,ZZ 0] n))else none)=_;rw[show Nat.ble n n=true by rw[Xu];omega,show Nat.blt n 9223372036854775808=true by rw[VE];omega,show Nat.ble (24*n) 281474976710656=true by rw[Xu];omega];rfl
 simp(disch:=omega) only[a_,seval,ah,g0,g1,g4,eq_false hn,l0,mk];have w0:=w.a ((List.replicate n ((0,0,0):bu)).flatMap sc);refine u_ w0 (ob.aQ w _) ?_;rintro h1 ae F1 n1;simp only[a_,seval,g0];refine u_ F1.r ae ?_;rintro h2 af F2 n2;have bn:h.i≠b:=oM
 have ak:f_ h2 h.i ((List.replicate n ((0,0,0):bu)).flatMap sc):=F2.D _ _ (eV bn) (F1.D _ _ (eV bn) (Wi w _));have Fa:Fr [b] h h2:=((VL w _).P (F1.P F2 w0 (T:=[b]) (fun x Z=>.inl Z) (fun x Z=>.inl Z)) w (fun x Z=>by simp at Z) (fun x Z=>.inl Z));have len:=old.ay.M;simp only[a_,seval,len];refine aC (fun k env K=>∃(i:Nat)(sl:List bu),Fr [b] h K/\f_ K b [.z h.i 0 n n,ZZ (c:Int),ZZ 0]/\Tb K (.z h.i 0 n n) h.i sl/\sl.length=n/\X9 sl ol i/\env.c_ 0=some (.u b 0)/\env.c_ 28=some ov/\
  env.c_ 29=some (ZZ (ol.length:Int))/\env.c_ 30=some (ZZ (i:Int))/\i<=ol.length/\k=ol.length-i) ol.length oM ?_ ?_
 ·refine⟨0,List.replicate n (0,0,0),Fa,af,⟨.inl iS,ak⟩,iS,⟨W_.q _ _ oM,?_,Bd 2 n oM,fun k x=>⟨?_,?_⟩,?_⟩,iX,iS,iS,iS,oM,rfl⟩
  ·rw[Bd 1 n oM];simp[T3]
  ·grind
  ·omega
  ·grind
 clear ae F1 n1 af F2 n2 ak Fa w0 g0 g1 g4 l0 mk ms;rintro k env K ⟨i,sl,F,oB,tB,sn,mv,g0,an,aj,ab,hi,rfl⟩;by_cases ac:(i:Int)<(ol.length:Int)
 ·have wh:=F.r;let⟨b1,p1,⟨s,ky,vl⟩,e1,_,e3,e4⟩:=Yj tN (old.fr F).ay .i64 (i:Int) oM ac;simp at e4;have hk:=kb _ (Vg e4);simp only[a_,seval,an,aj,ab,eq_true ac,e1,e3];refine u_ (wh.a _) (Wi wh _) ?_;rintro h3 o3 F3 n3;have Fx:Fr [] K h3:=(VL wh _).P F3 wh (fun _ Z=>by simp at Z) (fun x Z=>.inr (by simp at Z;omega));by_cases hs:(s:Int)=1
  ·have ar:s=1:=oM
   subst ar;have q0:ag h3 K.i 0=some (ZY 1):=o3.o 0;have ax:ag h3 K.i 1=some (ZX (ky:Int)):=o3.o 1;simp only[a_,seval,q0,ax,g0];refine aa (pL Fx.r (Fx.c_ oB) (tB.fr Fx) mv.n oM hk.1) ?_;rintro _ h4 ⟨at',found,rfl,L,F4⟩;cases found;case true=>
    let⟨x,Z⟩:=L.d rfl;let⟨j,lj,hj⟩:=(mv.c ky x).1 ⟨_,Z⟩;have:=uq _ _ _ _ _ hj e4;omega
   have Fy:=Fx.c F4;have l0:ag h4 b 0=some (.z h.i 0 n n):=(Fy.c_ oB).o 0;have q3:aq h4 K.i 0 3=some (sc (1,ky,vl)):=by rw[(F4.c_ o3).J];rfl
   have ix:=(tB.fr Fy).ix at' L.c;simp only[a_,seval,g_,g0,l0,q3,ix];refine ao (c':=(sl.set at' (1,ky,vl)).flatMap sc) Fy.r (tB.fr Fy).2 rfl rfl (lI (1,ky,vl) sl at' L.c) ?_;rintro h5 o5 F5 n5;have room:2<=T3 0 sl:=by
    have e:=Dy mv.n.n;have:=mv.l;have a1:=mv.d;have a2:=uU (c:=1) e4;have a3:=Be 1 (i+1) ol;simp at a2;omega
   simp(disch:=omega) only[a_,seval,DF,ah,ab,l0,q3];refine t_ ⟨ol.length-(i+1),oM,i+1,sl.set at' (1,ky,vl),(F.P Fy w (fun x Z=>.inl Z) (fun x Z=>by simp at Z)).P F5 w (fun x Z=>.inl Z) (fun x Z=>.inr (by simp at Z;omega)),F5.D b _ (by simpa using WW bn) (Fy.c_ oB),⟨by rw[VV];exact tB.1,o5⟩,by rw[VV];exact sn,
    mv.o e4 L hk.1 hk.2 room,iX,iX,iX,iS,oM,rfl⟩
   done
  ·have q0:ag h3 K.i 0=some (ZY (s:Int)):=o3.o 0;simp(disch:=omega) only[a_,seval,ah,q0,eq_false hs,ab];refine t_ ⟨ol.length-(i+1),oM,i+1,sl,F.P Fx w (fun x Z=>.inl Z) (fun x Z=>by simp at Z),Fx.c_ oB,tB.fr Fx,sn,mv.i e4 (by simp only[];omega),iX,iX,iX,iS,oM,rfl⟩
   done
 ·have:i=ol.length:=oM
  subst this;simp only[a_,seval,aj,ab,eq_false ac];exact⟨n,h.i,sl,Ve _,sn,n8,oM,oM,oB,tB,mv,F⟩
def kW(m:Nat->Option Nat)(key x:Nat):Nat->Option Nat:=fun k=>if k=key then some x else m k
theorem Zm.ZK{h:b_}{b S x a K:Nat}{v:V}{sl:List bu}{m:Nat->Option Nat}{c t:Nat}(k:Zm h b S v sl m c t)(L:Zh q? sl key a false)(hk:key<18446744073709551616)(hx:x<4611686018427387904)(fill:4*(c+t+1)<=3*sl.length)
 (ob:f_ h' b [v,ZZ ((c+1:Nat):Int),ZZ (K:Int)]) (o:f_ h' S ((sl.set a (1,key,x)).flatMap sc)) (ht:∀s:bu,sl[a]? =some s->K+(if s.1=2 then 1 else 0)=t):Zm h' b S v (sl.set a (1,key,x)) (kW m key x) (c+1) K:=by
 let⟨no,⟨s0,ab,h0⟩,_⟩:=L.f rfl;have e1:=gY (c:=1) (x:=((1,key,x):bu)) ab;have e2:=gY (c:=2) (x:=((1,key,x):bu)) ab;simp only[if_neg h0,if_true]at e1;have ht:=ht s0 ab;have c1:=k.c1;have c2:=k.c2;have rm:2<=T3 0 sl:=by have:=k.b?;have:=k.n8;omega
 refine⟨ob,⟨by rw[VV];exact k.tb.1,o⟩,k.op.p L x (Lz rm a),by rw[VV];exact k.n8,by rw[VV];exact k.nb,oM,?_,fun k' x'=>⟨?_,?_⟩,j5 k.kb ⟨hk,hx⟩⟩;grind;intro e;unfold kW at e;by_cases ck:k'=key;rw[if_pos ck]at e;cases e;subst ck;exact⟨a,jY _ L.c⟩;rw[if_neg ck]at e;let⟨i,Z⟩:=(k.mp k' x').1 e;refine⟨i,?_⟩;rw[Ws];exact Z;grind;rintro⟨i,Z⟩;unfold kW;obtain⟨_,e,_⟩|⟨ci,hj⟩:=gy _ _ _ _ _ Z;grind;by_cases ck:k'=key;grind;rw[if_neg ck];exact(k.mp k' x').2 ⟨i,hj⟩
theorem C5{h:b_}{b S x:Nat}{v:V}{sl:List bu}{m:Nat->Option Nat}{c t:Nat}{R:V->b_->Prop}(w:WF h)(k:Zm h b S v sl m c t)(hk:key<18446744073709551616)(Z:x<4611686018427387904)(hm:m key=none)(fill:4*(c+t+1)<=3*sl.length)
 (g0:env.c_ 0=some (.u b 0)) (g1:env.c_ 1=some (ZX (key:Int))) (g2:env.c_ 2=some (ZZ (x:Int)))
 (K:∀h' sl' t',Zm h' b S v sl' (kW m key x) (c+1) t'->sl'.length=sl.length->t'<=t->Fr [b,S] h h'->R (ZZ 0) h'):W go JJ env h (jz [.t 6] R):=by
 have cb:=k.b?;have nb:=k.nb;have ne:=k.ne;simp[a_,JJ,g0,g1];apply aa (pL w k.ob k.tb k.op oM hk);rintro _ h2 ⟨at',found,rfl,L,F⟩;cases found;case true=>
  let⟨y,hy⟩:=L.d rfl;have:=(k.mp key y).2 ⟨_,hy⟩;rw[hm]at this;cases this
 have k2:=k.fr F;have ix:=k2.tb.ix _ L.c;have l0:ag h2 b 0=some v:=k2.ob.o 0;let⟨no,⟨s0,aj,h0⟩,_⟩:=L.f rfl;have l3:ag h2 S (at'*3)=some (ZY (s0.1:Int)):=by
  let⟨b1,o1,y,e1,e2,_,e4⟩:=Yj tN k2.tb.ay .i64 (at':Nat) oM (by have:=L.c;omega);rw[ix]at e1;obtain⟨rfl,rfl⟩:S=b1/\at'*3=o1:=by simpa using e1
  simp only[pi]at e4;rw[aj]at e4;cases e4;exact(e2 0 oM).trans rfl
 by_cases ht:(s0.1:Int)=2;have t1:1<=t:=by
  rw[<-k.c2];have:0<T3 2 sl:=by unfold T3;rw[YM];exact⟨s0,Vg aj,by simp;omega⟩
  exact this
 have l2:ag h2 b 2=some (ZZ (t:Int)):=k2.ob.o 2;simp(disch:=omega)[a_,ah,l0,ix,l3,eq_true ht,g0,l2];apply u_ F.r k2.ob;rintro h3 o3 F3 n3;have ac:Tb h3 v S sl:=⟨k2.tb.1,F3.D S _ (by simpa using WW ne) k2.tb.2⟩;have af:ag h3 b 0=some v:=o3.o 0;have ae:=ac.ix _ L.c;simp[a_,g0,g1,g2,af,ae];apply ao (c':=(sl.set at' (1,key,x)).flatMap sc) F3.r ac.2 rfl rfl (lI (1,key,x) sl at' L.c);rintro h4 o4 F4 n4;have ab:=F4.D b _ (eV ne) o3;have l1:ag h4 b 1=some (ZZ (c:Int)):=ab.o 1;simp(disch:=omega)[a_,ah,g0,l1];apply u_ F4.r ab;rintro h5 o5 F5 n5;simp[a_];refine K h5 (sl.set at' (1,key,x)) (t-1) (k.ZK L hk Z fill ?_ (F5.D S _ (by simpa using WW ne) o4) ?_) (VV ..) oM ?_;rw[(oM:((t-1:Nat):Int)=(t:Int)-1)];exact o5;intro s hs;rw[aj]at hs;cases hs;rw[if_pos oM];omega;have A:Fr [b,S] h2 h4:=F3.P F4 F.r (fun x Z=>.inl (by simp at Z;simp[Z])) (fun x Z=>.inl (by simp at Z;simp[Z]));have B:Fr [b,S] h2 h5:=A.P F5 F.r (fun x Z=>.inl Z) (fun x Z=>.inl (by simp at Z;simp[Z]));exact F.P B w (fun x Z=>by simp at Z) (fun x Z=>.inl Z);simp[a_,l0,ix,l3,eq_false ht,g0,g1,g2];apply ao (c':=(sl.set at' (1,key,x)).flatMap sc) F.r k2.tb.2 rfl rfl (lI (1,key,x) sl at' L.c);rintro h4 o4 F4 n4;have ab:=F4.D b _ (eV ne) k2.ob;have l1:ag h4 b 1=some (ZZ (c:Int)):=ab.o 1;simp(disch:=omega)[a_,ah,g0,l1];apply u_ F4.r ab;rintro h5 o5 F5 n5;simp[a_];refine K h5 (sl.set at' (1,key,x)) t (k.ZK L hk Z fill o5 (F5.D S _ (by simpa using WW ne) o4) ?_) (VV ..) oM ?_;intro s hs;rw[aj]at hs;cases hs;rw[if_neg oM];omega;have B:Fr [b,S] h2 h5:=F4.P F5 F.r (fun x Z=>.inl (by simp at Z;simp[Z])) (fun x Z=>.inl (by simp at Z;simp[Z]));exact F.P B w (fun x Z=>by simp at Z) (fun x Z=>.inl Z)
theorem X9.f{b S' n:Nat}{sl ol:List bu}{m:Nat->Option Nat}{c:Nat}(M:X9 sl ol ol.length)(Z:sl.length=n)(n8:8<=n)(nb:n<=20000)(ob:f_ h' b [.z S' 0 n n,ZZ (c:Int),ZZ 0])(tb:Tb h' (.z S' 0 n n) S' sl)
 (oc:T3 1 ol=c) (mp:∀k x:Nat,m k=some x↔∃i:Nat,ol[i]? =some (1,k,x)):Zm h' b S' (.z S' 0 n n) sl m c 0:=by
 refine⟨ob,tb,M.n,oM,oM,by rw[M.d,Wz];exact oc,M.l,fun k x=>(mp k x).trans ⟨fun⟨i,hi⟩=>(M.c k x).2 ⟨i,(Vt.1 hi).1,hi⟩,fun q=>?_⟩,M.p⟩;let⟨j,_,K⟩:=(M.c k x).1 q;exact⟨j,K⟩
theorem C6{h:b_}{b S x:Nat}{m:Nat->Option Nat}{c:Nat}{R:V->b_->Prop}(w:WF h)(k:Km h b S m c)(hc:c<4096)(hk:key<18446744073709551616)(hx:x<4611686018427387904)(hm:m key=none)
 (g0:env.c_ 0=some (.u b 0)) (g1:env.c_ 1=some (ZX (key:Int))) (g2:env.c_ 2=some (ZZ (x:Int)))
 (K:∀h' S',(S'=S\/h.i<=S')->Km h' b S' (kW m key x) (c+1)->Fr [b,S] h h'->R (ZZ 0) h'):W go Hc env h (jz [.t 6] R):=by
 have fin:∀{h2:b_}{Z:T V}{S':Nat}{v:V}{sl:List bu}{t:Nat},Fr [b] h h2->h.i<=S'->Zm h2 b S' v sl m c t->4*(c+t+1)<=3*sl.length->Z.c_ 0=some (.u b 0)->Z.c_ 1=some (ZX (key:Int))->Z.c_ 2=some (ZZ (x:Int))->W go JJ Z h2 (jz [.t 6] R):=by
  intro h2 Z S' v sl t F hS k2 fill a0 a1 a2;refine C5 F.r k2 hk hx hm fill a0 a1 a2 fun h' ab t' k' e1 e2 F'=>K h' S' (.inr hS) (.inr ⟨v,ab,t',k',oM⟩) ?_;exact F.P F' w (fun x hx=>.inl (by simp at hx;simp[hx])) (fun x hx=>by
   simp at hx;obtain rfl|rfl:=hx;exact .inl iS;exact .inr hS)
 obtain⟨o,rfl,h1⟩|⟨v,sl,t,k,_⟩:=k;have l0:ag h b 0=some .j:=o.o 0;have l1:ag h b 1=some (ZZ 0):=o.o 1;have l2:ag h b 2=some (ZZ 0):=o.o 2;simp[a_,DF,g_,ah,Hc,g0,l0,l1,l2,(oM:¬(0:Int)=4096)];apply aa (zL (S:=b) (q:=1) (c:=0) (ol:=[]) w o (.inl ⟨rfl,rfl⟩) rfl rfl iS iS rfl iS oM oM oM);rintro _ h2 ⟨rfl,n,S',sl,hS,sn,n8,nb,q2,ob,tb,M,F⟩;simp[a_];exact fin F hS (M.f sn n8 nb ob tb rfl (fun k x=>by rw[h1];simp)) oM iX iX iX;have cb:=k.b?;have nb:=k.nb;have l0:ag h b 0=some v:=k.ob.o 0;have l1:ag h b 1=some (ZZ (c:Int)):=k.ob.o 1;have l2:ag h b 2=some (ZZ (t:Int)):=k.ob.o 2;have len:=k.tb.ay.M;have c0:¬(c:Int)=4096:=oM;by_cases hf:3*(sl.length:Int)<4*((c:Int)+(t:Int)+1);simp(disch:=omega)[a_,DF,g_,ah,Hc,g0,l0,l1,l2,len,c0,eq_true hf];have o1:v.O=true:=by obtain rfl|rfl:=k.tb.1<;>rfl
 apply aa (zL (S:=S) (q:=c+1) w k.ob (.inr ⟨k.tb,k.ne,k.tb.2.lt w⟩) o1 rfl nb k.op.c k.c1 k.kb oM oM oM);rintro _ h2 ⟨rfl,n,S',ab,hS,sn,n8,ac,q2,ob,tb,M,F⟩;simp[a_];exact fin F hS (M.f sn n8 ac ob tb k.c1 k.mp) oM iX iX iX;simp(disch:=omega)[a_,DF,g_,ah,Hc,g0,l0,l1,l2,len,c0,eq_false hf];refine C5 w k hk hx hm oM ?_ ?_ ?_ fun h' ab t' k' e1 e2 F'=>K h' S (.inl rfl) (.inr ⟨v,ab,t',k',oM⟩) F';simp[g0];simp[g1];simp[g2]
theorem Kc{h:b_}{b S x:Nat}{m:Nat->Option Nat}{c:Nat}(w:WF h)(k:Km h b S m c)(hc:c<4096\/(m key).isSome=true)(k0:0<key)(hk:key<18446744073709551616)(Z:x<4611686018427387904):
 av go 168 [.u b 0,ZX (key:Int),ZZ (x:Int)] h fun u h'=>u=ZZ 0/\∃S',(S'=S\/h.i<=S')/\Km h' b S' (kW m key x) (if(m key).isSome=true then c else c+1)/\Fr [b,S] h h':=by
 have kz:¬(key:Int)=0:=oM;have ab:=k;refine ai ?_;obtain⟨o,rfl,h1⟩|⟨v,sl,t,k,fill⟩:=k;have l0:ag h b 0=some .j:=o.o 0;simp only[a_,seval,kz,l0];refine C6 w ab oM hk Z (h1 key) ?_ ?_ ?_ fun h' S' a b c=>?_;simp;simp;simp;rw[h1];exact⟨rfl,S',a,b,c⟩;have l0:ag h b 0=some v:=k.ob.o 0;have len:=k.tb.ay.M;have n8:=k.n8;have nb:=k.nb;simp only[a_,seval,kz,l0,len,eq_true (oM:(0:Int)<(sl.length:Int))];refine aa (pL w k.ob k.tb k.op oM hk) ?_;rintro _ h2 ⟨at',found,rfl,L,F⟩;cases found;have hm:m key=none:=by
  cases e:m key with
  |none=>rfl
  |some y=>let⟨i,K⟩:=(k.mp key y).1 e;exact absurd K ((L.f rfl).1 i y)
 rw[hm]at hc|-;simp only[a_,seval];refine C6 F.r (ab.fr F) (eV hc) hk Z hm ?_ ?_ ?_ fun h' S' a b' c'=>⟨rfl,S',a.imp id (fun q=>VC F.i q),by simpa using b',F.P c' w (fun x Z=>by simp at Z) (fun x Z=>.inl Z)⟩;simp;simp;simp;let⟨y,hy⟩:=L.d rfl;have hm:=(k.mp key y).2 ⟨_,hy⟩;have k2:=k.fr F;have ix:=k2.tb.ix _ L.c;have ne:=k2.ne;have ac:ag h2 b 0=some v:=k2.ob.o 0;rw[hm];simp only[a_,seval,ac,ix];apply ao (c':=(sl.set at' (1,key,x)).flatMap sc) F.r k2.tb.2 rfl rfl (w9 key y x sl at' hy);rintro h3 o3 F3 n3;simp only[a_,seval];have e1:=gY (c:=1) (x:=((1,key,x):bu)) hy;have e2:=gY (c:=2) (x:=((1,key,x):bu)) hy;simp at e1 e2;refine⟨S,.inl rfl,.inr ⟨v,sl.set at' (1,key,x),t,⟨F3.D b _ (eV ne) k2.ob,⟨by rw[VV];exact k.tb.1,o3⟩,k.op.i hy x,by rw[VV];exact n8,by rw[VV];exact nb,by have:=k.c1;first|omega|(simp;omega),by have:=k.c2;omega,?_,j5 k.kb ⟨hk,Z⟩⟩,by rw[VV];first|exact fill|simpa using fill⟩,?_⟩
 intro k' x';unfold kW;constructor;intro e;by_cases ck:k'=key;rw[if_pos ck]at e;cases e;subst ck;exact⟨at',jY _ L.c⟩;rw[if_neg ck]at e;let⟨i,K⟩:=(k.mp k' x').1 e;refine⟨i,?_⟩;rw[Ws];exact K;rintro rfl;rw[hy]at K;cases K;exact ck rfl;rintro⟨i,K⟩;obtain⟨_,e,_⟩|⟨ci,hj⟩:=gy _ _ _ _ _ K;cases e;rw[if_pos rfl];have ck:k'≠key:=by rintro rfl;exact ci (k.op.c _ _ _ _ _ hj hy)
 rw[if_neg ck];exact(k.mp k' x').2 ⟨i,hj⟩;exact F.P F3 w (fun x Z=>by simp at Z) (fun x Z=>.inl (by simp at Z;simp[Z]))
def U0(e:Nat)(h:b_)(v:V)(B:Nat)(C:List V)(N:Nat):Prop:=C.length=N*e/\((v=.j/\N=0)\/(v=.z B 0 N N/\f_ h B C))
def G?(e:Nat)(h:b_)(B:Nat)(C:List V)(u:V)(o n:Nat):Prop:=o+n*e<=C.length/\((n=0/\(u=.j\/∃b o c,u=.z b o 0 c))\/∃cap,u=.z B o n cap/\f_ h B C)
variable {e : Nat} {h : b_} {v u su : V} {B N : Nat} {C vs : List V}
theorem U0.sl(a:U0 e h v B C N):Sl h e v N C:=by obtain⟨Z,⟨rfl,rfl⟩|⟨rfl,o⟩⟩:=a;exact⟨Z,rfl⟩;exact Wy o Z
theorem U0.O(a:U0 e h v B C N):v.O=true:=a.sl.O
theorem U0.A_(a:U0 e h v B C N):aP .d [v]=some (ZZ N):=a.sl.A_
theorem U0.fr{S:List Nat}(a:U0 e h v B C N)(f:Fr S h h')(K:B∉S):U0 e h' v B C N:=by obtain⟨Z,⟨rfl,rfl⟩|⟨rfl,o⟩⟩:=a;exact⟨Z,.inl ⟨rfl,rfl⟩⟩;exact⟨Z,.inr ⟨rfl,f.D _ _ K o⟩⟩
theorem Sl.aF{h:b_}{e:Nat}{v:V}{n:Nat}{cs:List V}(a:Sl h e v n cs)(b:Sl h e v n vs):cs=vs:=by have:=a.al.symm.trans b.al;exact WU this
theorem U0.as(a:U0 e h v B C N)(lo hi:Bool)(bs:List V)(l r:Nat)(hr:r<=N)(hl:l<=r)
 (K:aZ N N lo hi false bs=some (l,r,none)) (he:0<e):
 ∃v',aP (.s none e lo hi false) (v::bs)=some v'/\Sl h e v' (r-l) ((C.drop (l*e)).take ((r-l) *e))/\G? e h B C v' (l*e) (r-l):=by
 have Z:l*e+(r-l) *e<=C.length:=by rw[a.1,<-Xs];exact Wb _ oM
 obtain⟨ab,⟨rfl,rfl⟩|⟨rfl,o⟩⟩:=a;have h0:l=0:=oM;have h1:r=0:=oM;subst h0 h1;refine⟨.j,by simp[aP,eJ,K],⟨iS,rfl⟩,⟨Z,.inl ⟨oM,.inl rfl⟩⟩⟩;refine⟨.z B (bif Nat.beq N l then 0 else 0+l*e) (r-l) (N-l),by simp[aP,eJ,K],⟨by simp;omega,rfl,oM,C,o,?_⟩,Z,?_⟩;by_cases c:N=l;have h0:r-l=0:=oM;rw[lV c,h0];simp;rw[fD c];simp only[cond_false,VR];exact⟨Z,trivial⟩;by_cases c:N=l;have h0:r-l=0:=oM;rw[lV c,h0];exact .inl ⟨rfl,.inr ⟨_,_,_,rfl⟩⟩;rw[fD c];simp only[cond_false,VR];exact .inr ⟨_,rfl,o⟩
theorem U0.aM(a:U0 e h v B C N)(Z:0<e)(k:IntKind)(i:Int)(l:Nat)(K:i=l)(hl:l<=N):
 ∃v',aP (.s none e true false false) [v,.C k i]=some v'/\Sl h e v' (N-l) ((C.drop (l*e)).take ((N-l) *e))/\G? e h B C v' (l*e) (N-l):=by
 subst K;exact a.as true false [.C k l] l N (Ve _) hl (by simp[aZ,bZ k l N oM oM]) Z
theorem U0.ba(a:U0 e h v B C N)(K:0<e)(k:IntKind)(i:Int)(r:Nat)(hi:i=r)(Z:r<=N):
 ∃v',aP (.s none e false true false) [v,.C k i]=some v'/\Sl h e v' r (C.take (r*e)):=by
 subst hi;let⟨v',a1,a2,_⟩:=a.as false true [.C k r] 0 r Z (Nat.zero_le _) (by simp[aZ,bZ k r N oM oM]) K;exact⟨v',a1,by simpa using a2⟩
theorem U0.aN(a:U0 e h v B C N)(he:0<e)(k k':IntKind)(i j:Int)(l r:Nat)(hi:i=l)(K:j=r)(Z:r<=N)(hl:l<=r):
 ∃v',aP (.s none e true true false) [v,.C k i,.C k' j]=some v'/\Sl h e v' (r-l) ((C.drop (l*e)).take ((r-l) *e))/\G? e h B C v' (l*e) (r-l):=by
 subst hi K;exact a.as true true [.C k l,.C k' r] l r Z hl (by
  simp[aZ,bZ k' r N oM oM,bZ k l r oM oM]) he
theorem ka{o n m:Nat}{K:V->b_->Prop}(he:0<e)(w:WF h)(d:G? e h B C u o n)(s:Sl h e su m vs)(Z:aw vs=true)(hm:m<=n)
 (t:U0 e h v B C N)
 (k:∀Z,U0 e Z v B (C.take o++vs++C.drop (o+m*e)) N->Fr [B] h Z->Z.i=h.i->K (ZZ (m:Int)) Z):OQ (nR h e u su) K:=by
 have hl:=s.1;have hd:iK u=some n:=by obtain⟨rfl,rfl|⟨_,_,_,rfl⟩⟩|⟨_,rfl,_⟩:=d.2<;>rfl
 have ht:(C.take o++vs++C.drop (o+m*e)).length=N*e:=by have:=d.1;have:=Wb e hm;rw[<-t.1];simp;omega
 unfold nR OQ;simp[hd,s.aH,Nat.min_def];rw[if_pos hm];by_cases c:m=0;subst c;have:vs=[]:=VH.1 oM;subst this;refine⟨_,_,rfl,k h ?_ (Vk w) rfl⟩;simpa using t;rw[fD c];obtain⟨h0,_⟩|⟨cap,rfl,ow⟩:=d.2;omega;obtain⟨_,⟨rfl,rfl⟩|⟨rfl,_⟩⟩:=t;exfalso;have:=d.1;have:C.length=0:=oM;have:n*e=0:=oM;obtain z|z:=Nat.mul_eq_zero.1 this<;>omega
 let⟨h',e1,o1,f1,n1⟩:=ig w ow Z (bN C o vs (by have:=d.1;have:=Wb e hm;omega));refine⟨_,h',?_,k h' ⟨ht,.inr ⟨rfl,?_⟩⟩ f1 n1⟩;simp[s.al,e1];grind
theorem c9(z:List V)(n:Nat):(aW z n).length=n*z.length:=by
 induction n with
 |zero=>simp[fU]
 |succ n ih=>rw[fG,Vv,ih];rw[Xy];omega
theorem aO(a b:List V):aw (a++b)=(aw a&&aw b):=by
 induction a with
 |nil=>simp[aw]
 |cons x l ih=>rw[Wq,aA,aA,ih,Bool.and_assoc]
theorem bQ{a:List V}(n:Nat)(x:aw a=true):aw (a.take n)=true:=by rw[<-VA n a,aO]at x;exact(Vd _ _▸x).1
theorem bH{a:List V}(n:Nat)(x:aw a=true):aw (a.drop n)=true:=by rw[<-VA n a,aO]at x;exact(Vd _ _▸x).2
theorem BS{z:List V}(n:Nat)(x:aw z=true):aw (aW z n)=true:=by
 induction n with
 |zero=>rfl
 |succ n ih=>rw[fG,aO,x,ih];rfl
theorem Cn{o n:Nat}{z:List V}{K:V->b_->Prop}(w:WF h)(d:G? e h B C u o n)(hz:z.length=e)(Z:aw z=true)(t:U0 e h v B C N)
 (k:∀Z,U0 e Z v B (C.take o++aW z n++C.drop (o+n*e)) N->Fr [B] h Z->Z.i=h.i->K (.G []) Z):OQ (CB h z u) K:=by
 have ht:(C.take o++aW z n++C.drop (o+n*e)).length=N*e:=by have:=d.1;rw[<-t.1];simp[c9,hz];omega
 unfold CB OQ;obtain⟨rfl,q⟩|⟨cap,rfl,ow⟩:=d.2;have:K (.G []) h:=k h (by simpa[fU]using t) (Vk w) rfl;obtain rfl|⟨_,_,_,rfl⟩:=q;grind;exact⟨_,_,rfl,this⟩;by_cases c:n=0;subst c;exact⟨_,_,rfl,k h (by simpa[fU]using t) (Vk w) rfl⟩;let⟨h',e1,o1,f1,n1⟩:=ig w ow (BS n Z) (bN C o (aW z n) (by rw[c9,hz];exact d.1));refine⟨_,h',?_,k h' ⟨ht,?_⟩ f1 n1⟩;simp[fD c,e1];obtain⟨hl,⟨rfl,rfl⟩|⟨rfl,_⟩⟩:=t;grind;rw[c9,hz]at o1;exact .inr ⟨rfl,o1⟩
abbrev Z4:List V:=[ZX 0,ZY 0,.f [],.j]
def R6(l:List V):Prop:=∀x∈l,∀n:Int,x≠ ZZ n
theorem R6.c{a b:List V}(h:R6 b)(s:∀x∈a,x∈b):R6 a:=fun x m=>h x (s x m)
theorem R6.d{a b:List V}(h:R6 a)(g:R6 b):R6 (a++b):=fun x m=>(Vc.1 m).elim (h x) (g x)
structure Y1(h:b_)(b B:Nat)(v:V)(c1 G c2:List V)(a g m:Nat):Prop where
 c:f_ h b [v,ZZ (a:Int),ZZ (g:Int)]
 d:U0 4 h v B (c1++G++c2) (a+g+m)
 i:c1.length=a*4
 o:G.length=g*4
 n:c2.length=m*4
 r:aw c1=true
 s:aw c2=true
 l:B≠b
 w:a+g+m<=8208
 q:a+m<=4096
 p:R6 (c1++G++c2)
def Gp(h:b_)(b B:Nat)(n:Nat)(l:List V):Prop:=∃v c1 G c2 a g m,Y1 h b B v c1 G c2 a g m/\l=c1++c2/\n=a+m
variable {h : b_} {b B : Nat} {v : V} {c1 G c2 : List V} {a g m : Nat}
theorem Y1.f(k:Y1 h b B v c1 G c2 a g m){S:List Nat}(f:Fr S h h')(hb:b∉S)(hB:B∉S):Y1 h' b B v c1 G c2 a g m:=
 ⟨f.D _ _ hb k.c,k.d.fr f hB,k.i,k.o,k.n,k.r,k.s,k.l,k.w,k.q,k.p⟩
theorem Gp.f{n:Nat}{l:List V}(k:Gp h b B n l){S:List Nat}(f:Fr S h h')(K:b∉S)(Z:B∉S):Gp h' b B n l:=by let⟨v,c1,G,c2,a,g,m,k,e⟩:=k;exact⟨v,c1,G,c2,a,g,m,k.f f K Z,e⟩
theorem Gp.t{n:Nat}{l:List V}(k:Gp h b B n l):l.length=n*4/\n<=4096/\aw l=true:=by obtain⟨v,c1,G,c2,a,g,m,k,rfl,rfl⟩:=k;have:=k.i;have:=k.n;have:=k.q;exact⟨by simp;omega,oM,by rw[aO,k.r,k.s];rfl⟩
theorem dE(k:Y1 h b B v c1 G c2 a g m):av go 52 [.u b 0] h fun u h'=>u=ZZ ((a+m:Nat):Int)/\h=h':=by have Z:=k.c.o 0;have l2:=k.c.o 2;have nb:=k.w;simp[bX,db]at Z l2;refine ai ?_;simp(disch:=omega)[a_,DF,g_,ah,Z,l2,k.d.A_];congr 1;omega
def yM(n:Nat)(at' k:Int):Int:=if at'<0\/k<0\/(n:Int)<at'\/(n:Int)-at'<k then 4 else 0
theorem eO(k:Y1 h b B v c1 G c2 a g m)(i n:Int):av go 137 [.u b 0,ZZ i,ZZ n] h fun u h'=>u=ZZ (yM (a+m) i n)/\h=h':=by unfold yM;by_cases x1:i<0;refine ai ?_;simp only[a_,seval,x1];simp;by_cases x2:n<0;refine ai ?_;simp only[a_,seval,x1,x2];simp;have am:=k.q;by_cases x3:((a+m:Nat):Int)<i;refine ai ?_;simp only[a_,seval,x1,x2];refine aa (dE k) ?_;rintro _ _ ⟨rfl,rfl⟩;simp only[a_,seval,x3];simp;by_cases x4:((a+m:Nat):Int)-i<n;refine ai ?_;simp only[a_,seval,x1,x2];refine aa (dE k) ?_;rintro _ _ ⟨rfl,rfl⟩;simp only[a_,seval,x3];refine aa (dE k) ?_;rintro _ _ ⟨rfl,rfl⟩;simp(disch:=omega) only[a_,seval,ah,x4];simp;refine ai ?_;simp only[a_,seval,x1,x2];refine aa (dE k) ?_;rintro _ _ ⟨rfl,rfl⟩;simp only[a_,seval,x3];apply aa (dE k);rintro _ _ ⟨rfl,rfl⟩;simp(disch:=omega) only[a_,seval,ah,x4];simp
theorem uf(k:Y1 h b B v c1 G c2 a g m)(i:Nat)(Z:i<=4096):av go 138 [.u b 0,ZZ (i:Int)] h fun u h'=>u=ZZ ((if a<=i then i+g else i:Nat):Int)/\h=h':=by have l1:=k.c.o 1;have l2:=k.c.o 2;have nb:=k.w;simp[bX,db]at l1 l2;by_cases c:a<=i;refine ai ?_;simp(disch:=omega)[a_,ah,l1,l2,(oM:(a:Int)<=(i:Int))];rw[if_pos c];simp;refine ai ?_;simp[a_,l1,(oM:¬(a:Int)<=(i:Int))];rw[if_neg c]
theorem Dn{n i:Nat}(h:i<n):yM n i 1=0:=by unfold yM;rw[if_neg];omega
theorem Mn(c1 G c2:List α)(a g i k:Nat)(l1:c1.length=a*k)(lg:G.length=g*k):
 ((c1++G++c2).drop ((if a<=i then i+g else i) *k)).take k=((c1++c2).drop (i*k)).take k:=by
 by_cases c:a<=i;rw[if_pos c];obtain⟨j,rfl⟩:∃j,i=a+j:=⟨i-a,oM⟩;have K:(a+j+g) *k=(c1++G).length+j*k:=by grind
 have Z:(a+j) *k=c1.length+j*k:=by rw[l1,Xs]
 rw[K,Z,Wa,Wa];rw[if_neg c];have e:i*k+k<=c1.length:=by rw[l1,<-Xy];exact Wb _ oM
 rw[VN,Wc oM,VI oO,Wc oM,VI oO]
theorem Y1.y(k:Y1 h b B v c1 G c2 a g m){i:Nat}(hi:i<a+m):
 aP (.c 4) [v,ZZ ((if a<=i then i+g else i:Nat):Int)]=some (.u B ((if a<=i then i+g else i) *4))/\aq h B ((if a<=i then i+g else i) *4) 4=some (((c1++c2).drop (i*4)).take 4):=by
 have K:(if a<=i then i+g else i)<a+g+m:=by split<;>omega
 obtain⟨Z,⟨rfl,z⟩|⟨rfl,o⟩⟩:=k.d;omega;refine⟨?_,?_⟩;rw[eM _ _ _ _ _ _ _ oM oM];simp;rw[o.J,bR,bO,Mn c1 G c2 a g i 4 k.i k.o];simp only[Xv,Z];omega
theorem Ol{l:List V}{n i:Nat}(hl:l.length=n*4)(hi:i<n)(K:aw l=true):∃x y z u,(l.drop (i*4)).take 4=[x,y,z,u]/\aw [x,y,z,u]=true:=by
 have e:((l.drop (i*4)).take 4).length=4:=by simp;omega
 have Z:=bQ 4 (bH (i*4) K);match q:(l.drop (i*4)).take 4,e with
 |[x,y,z,u],_=>exact⟨x,y,z,u,rfl,by rw[q]at Z;exact Z⟩
theorem Y1.x(k:Y1 h b B v c1 G c2 a g m):(c1++c2).length=(a+m) *4/\aw (c1++c2)=true:=by have:=k.i;have:=k.n;exact⟨by simp;omega,by rw[aO,k.r,k.s];rfl⟩
theorem uJ(w:WF h)(k:Y1 h b B v c1 G c2 a g m){i:Nat}(hi:i<a+m):av go 70 [.u b 0,ZZ (i:Int)] h fun u h'=>Fr [] h h'/\u=.G [.B (((c1++c2).drop (i*4)).take 4),ZZ 0]:=by
 have am:=k.q;let⟨x,y,z,u,ec,eo⟩:=Ol k.x.1 hi k.x.2;let⟨h1,af,ae,aj⟩:=au w [ZX 0,ZY 0,.f [],.j];have Z:=k.f ae iS iS;refine ai ?_;simp[a_,<-af];refine aa (eO Z i 1) ?_;rintro _ _ ⟨rfl,rfl⟩;simp[a_,g_,Dn hi];have l0:=Z.c.o 0;simp[bX]at l0;have nh:h.i≠b:=by have:=k.c.lt w;omega
 simp[a_,g_,l0];apply aa (uf Z i oM);rintro _ _ ⟨rfl,rfl⟩;have⟨a1,K⟩:=Z.y hi;rw[ec]at K;simp[a_,g_,a1,K];refine ao ae.r aj rfl eo rfl ?_;rintro h2 o2 F2 n2;have ac:ag h2 b 0=some v:=(F2.D b _ oO Z.c).o 0;have ab:aq h2 B ((if a<=i then i+g else i) *4) 4=some [x,y,z,u]:=by
  obtain⟨hl,⟨rfl,z⟩|⟨rfl,o⟩⟩:=Z.d;omega;have ne:B≠h.i:=by obtain⟨_,⟨q,_⟩|⟨_,q⟩⟩:=k.d;cases q;have:=q.lt w;omega
  have o':=F2.D B _ (eV ne) o;rw[o.J]at K;rw[o'.J];exact K
 simp[a_,DF,g_,l0,K,o2.J];exact⟨ae.y F2 w (Ve _),by rw[ec]⟩
variable {h : b_} {b B : Nat} {v : V} {c1 G c2 : List V} {a g m : Nat}
theorem KK{c1 G c2:List α}{p g a:Nat}(l1:c1.length=a*4)(lg:G.length=g*4)(hp:p<=a)(Z:List α)
 (e:Z=(c1++G++c2).take ((p+g) *4)++((c1++G++c2).drop (p*4)).take ((a-p) *4)++(c1++G++c2).drop ((p+g) *4+(a-p) *4)):
 Z.take (p*4)=c1.take (p*4)/\Z.drop (p*4+g*4)=c1.drop (p*4)++c2:=by
 have hl:(p+g) *4<=(c1++G++c2).length:=by simp;omega
 have h1:((c1++G++c2).take ((p+g) *4)).length=p*4+g*4:=by grind
 have K:((c1++G++c2).drop (p*4)).take ((a-p) *4)=c1.drop (p*4):=by rw[VN,Wc oM,VI oO];exact Vm oO
 have h3:(c1++G++c2).drop ((p+g) *4+(a-p) *4)=c2:=by rw[(oO:(p+g) *4+(a-p) *4=(c1++G).length)];exact Xn
 subst e;rw[K,h3];refine⟨?_,?_⟩;grind;grind
theorem KJ{c1 G c2:List α}{p g a m:Nat}(l1:c1.length=a*4)(lg:G.length=g*4)(l2:c2.length=m*4)(hp:a<=p)(hm:p<=a+m)(Z:List α)
 (e:Z=(c1++G++c2).take (a*4)++((c1++G++c2).drop ((a+g) *4)).take ((p+g-(a+g)) *4)++(c1++G++c2).drop (a*4+(p+g-(a+g)) *4)):
 Z.take (p*4)=c1++c2.take ((p-a) *4)/\Z.drop (p*4+g*4)=c2.drop ((p-a) *4):=by
 have h1:(c1++G++c2).take (a*4)=c1:=by grind
 have K:((c1++G++c2).drop ((a+g) *4)).take ((p+g-(a+g)) *4)=c2.take ((p-a) *4):=by rw[(oO:(a+g) *4=(c1++G).length),Xn,(oM:p+g-(a+g)=p-a)]
 have h3:(c1++c2.take ((p-a) *4)).length=p*4:=by simp;omega
 have h4:p+g-(a+g)=p-a:=oM;subst e;rw[h1,K];refine⟨?_,?_⟩;grind;rw[(oM:p*4+g*4=(c1++c2.take ((p-a) *4)).length+g*4),Wa,Wd,h4,(oO:a*4+(p-a) *4+g*4=(c1++G).length+(p-a) *4),Wa]
theorem R6.f{z:List V}(h:R6 z):∀n,R6 (aW z n)
 |0=>by rw[fU];intro x m;simp at m
 |n+1=>by rw[fG];exact h.d (R6.f h n)
theorem R6.i:R6 Z4:=by intro x m n;simp at m;obtain rfl|rfl|rfl|rfl:=m<;>simp
theorem Bp(w:WF h)(k:Y1 h b B v c1 G c2 a g m){p:Nat}(hp:p<=a+m):av go 165 [.u b 0,ZZ (p:Int)] h fun u h'=>u=.G []/\
 Y1 h' b B v ((c1++c2).take (p*4)) (aW Z4 g) ((c1++c2).drop (p*4)) p g (a+m-p)/\Fr [b,B] h h':=by
 have l0:ag h b 0=some v:=k.c.o 0;have l1:ag h b 1=some (ZZ (a:Int)):=k.c.o 1;have l2:ag h b 2=some (ZZ (g:Int)):=k.c.o 2;have nb:=k.w;have am:=k.q;have tot:=k.x;have af:R6 (c1++c2):=k.p.c fun x m=>by simp at m|-;obtain m|m:=m<;>simp[m]
 have tl:=k.i;have tg:=k.o;have ak:=k.n;by_cases c:p<a;let⟨u1,e1,s1,d1⟩:=k.d.aM oM .i64 ((p:Int)+g) (p+g) oM oM;let⟨u2,e2,s2,d2⟩:=k.d.aN oM .i64 .i64 p a p a rfl rfl oM oM;have⟨ab,ae⟩:=KK (c2:=c2) k.i k.o (Nat.le_of_lt c) _ rfl;have z1:(c1++c2).take (p*4)=c1.take (p*4):=VI oM;have z2:(c1++c2).drop (p*4)=c1.drop (p*4)++c2:=Wc oM;rw[<-z1]at ab;rw[<-z2]at ae;refine ai ?_;simp(disch:=omega)[a_,g_,ah,l0,l1,l2,e1,e2,(oM:(p:Int)<(a:Int))];refine ka oM w d1 s2 ?_ oM k.d ?_;rw[VN,Wc oM,VI oO];exact bQ _ (bH _ k.r);rintro h1 t1 F1 n1;have ac:=F1.D b _ (eV k.l.symm) k.c;have aj:ag h1 b 0=some v:=ac.o 0;simp[a_,DF,l0,l1,l2];apply u_ F1.r ac;rintro h2 o2 F2 n2;have t2:=t1.fr F2 (eV k.l);have K:ag h2 b 0=some v:=o2.o 0;have Z:ag h2 b 2=some (ZZ (g:Int)):=o2.o 2;let⟨u3,e3,s3,d3⟩:=t2.aN oM .i64 .i64 p ((p:Int)+g) p (p+g) rfl oM oM oM;simp(disch:=omega)[a_,g_,ah,K,Z,e3];apply Cn F2.r d3 rfl rfl t2;rintro h3 t3 F3 n3;rw[(oM:p+g-p=g),ab,ae]at t3;simp[a_,DF,K,Z];refine⟨⟨F3.D b _ (eV k.l.symm) o2,?_,by simp;omega,c9 _ _,by simp;omega,bQ _ tot.2,bH _ tot.2,k.l,oM,oM,((af.c fun x m=>Wl m).d (R6.f R6.i g)).d (af.c fun x m=>VU m)⟩,?_⟩;grind;refine Vn (T:=[b,B]) (Vn (T:=[b,B]) F1 F2 w ?_ ?_) F3 w ?_ ?_<;>intro x hx<;>simp at hx|- <;>omega
 let⟨u1,e1,s1,d1⟩:=k.d.aM oM .i64 (a:Int) a rfl oM;let⟨u2,e2,s2,d2⟩:=k.d.aN oM .i64 .i64 ((a:Int)+g) ((p:Int)+g) (a+g) (p+g) oM oM oM oM;have⟨ab,ae⟩:=KJ k.i k.o k.n (Nat.le_of_not_lt c) hp _ rfl;have z1:(c1++c2).take (p*4)=c1++c2.take ((p-a) *4):=by rw[(oM:p*4=c1.length+(p-a) *4),XV]
 have z2:(c1++c2).drop (p*4)=c2.drop ((p-a) *4):=by rw[(oM:p*4=c1.length+(p-a) *4),Wa]
 rw[<-z1]at ab;rw[<-z2]at ae;refine ai ?_;simp(disch:=omega)[a_,g_,ah,l0,l1,l2,e1,e2,(oM:¬(p:Int)<(a:Int))];refine ka oM w d1 s2 ?_ oM k.d ?_;rw[(oO:(a+g) *4=(c1++G).length),Xn];exact bQ _ k.s;rintro h1 t1 F1 n1;have ac:=F1.D b _ (eV k.l.symm) k.c;have aj:ag h1 b 0=some v:=ac.o 0;simp[a_,DF,l0,l1,l2];apply u_ F1.r ac;rintro h2 o2 F2 n2;have t2:=t1.fr F2 (eV k.l);have K:ag h2 b 0=some v:=o2.o 0;have Z:ag h2 b 2=some (ZZ (g:Int)):=o2.o 2;let⟨u3,e3,s3,d3⟩:=t2.aN oM .i64 .i64 p ((p:Int)+g) p (p+g) rfl oM oM oM;simp(disch:=omega)[a_,g_,ah,K,Z,e3];apply Cn F2.r d3 rfl rfl t2;rintro h3 t3 F3 n3;rw[(oM:p+g-p=g),ab,ae]at t3;simp[a_,DF,K,Z];refine⟨⟨F3.D b _ (eV k.l.symm) o2,?_,by simp;omega,c9 _ _,by simp;omega,bQ _ tot.2,bH _ tot.2,k.l,oM,oM,((af.c fun x m=>Wl m).d (R6.f R6.i g)).d (af.c fun x m=>VU m)⟩,?_⟩;rw[(oM:p+g+(a+m-p)=a+g+m)];exact t3;refine Vn (T:=[b,B]) (Vn (T:=[b,B]) F1 F2 w ?_ ?_) F3 w ?_ ?_<;>intro x hx<;>simp at hx|- <;>omega
variable {h : b_} {b B : Nat} {v : V} {c1 G c2 : List V} {a g m : Nat}
theorem Mg{c1 c2 Z:List α}{a g m:Nat}(l1:c1.length=a*4)(l2:c2.length=m*4)(lz:Z.length=(a+m+g) *4):
 (Z.take 0++c1++Z.drop (0+a*4)).take ((a+g) *4)++c2++(Z.take 0++c1++Z.drop (0+a*4)).drop ((a+g) *4+m*4)=c1++(Z.drop (a*4)).take (g*4)++c2:=by
 simp only[XN,Wv,VR];have K:(c1++Z.drop (a*4)).length=(a+g) *4+m*4:=by simp;omega
 rw[<-K,WV,Wk,(oM:(a+g) *4=c1.length+g*4),XV]
theorem U0.bY{e:Nat}{h:b_}{v:V}{B N:Nat}{C:List V}{S:List Nat}(a:U0 e h v B C N)(f:Fr S h h')(K:v=.j\/B∉S):U0 e h' v B C N:=by obtain⟨Z,⟨rfl,rfl⟩|⟨rfl,o⟩⟩:=a;exact⟨Z,.inl ⟨rfl,rfl⟩⟩;obtain q|q:=K;cases q;exact⟨Z,.inr ⟨rfl,f.D _ _ q o⟩⟩
theorem En(w:WF h)(k:Y1 h b B v c1 G c2 a g m){n:Nat}(hn:a+m+n<=4096):av go 166 [.u b 0,ZZ (n:Int)] h fun u h'=>u=.G []/\
 ∃B' v' G' g',(B'=B\/h.i<=B')/\Y1 h' b B' v' c1 G' c2 a g' m/\n<=g'/\Fr [b] h h':=by
 have l0:ag h b 0=some v:=k.c.o 0;have l1:ag h b 1=some (ZZ (a:Int)):=k.c.o 1;have l2:ag h b 2=some (ZZ (g:Int)):=k.c.o 2;have nb:=k.w;have am:=k.q;have blt:=k.c.lt w;by_cases c:n<=g;refine ai ?_;simp only[a_,seval,l2,(oM:(n:Int)<=(g:Int))];exact⟨B,v,G,g,.inl rfl,k,c,Vk w⟩;have hq:(a+g+m)/2<=4104:=oM;have q:aP (.h .quo) [ZZ ((a+g+m:Nat):Int),ZZ 2]=some (ZZ (((a+g+m)/2:Nat):Int)):=by rw[pp _ _ _ dI,(iR:(((a+g+m:Nat):Int)).tdiv 2=(((a+g+m)/2:Nat):Int)),ah _ oM oM]
 generalize(a+g+m)/2=d at q hq;refine ai ?_;simp(disch:=omega) only[a_,seval,ah,l0,l2,(oM:¬(n:Int)<=(g:Int)),k.d.A_,q];refine aa (dE k) ?_;rintro _ _ ⟨rfl,rfl⟩;simp(disch:=omega) only[a_,seval,ah];rw[(oM:((a+m:Nat):Int)+(↑n+ ↑d+8)=((a+m+(n+d+8):Nat):Int))];refine(dy _ _ _ _ _ _ _ _ oM oM oM oM).2 ?_;simp only[pi];have ln:(aW Z4 (a+m+(n+d+8))).length=(a+m+(n+d+8)) *4:=c9 _ _;obtain⟨h1,K⟩:∃h1,h1=k_ h (aW [ZX 0,ZY 0,.f [],.j] (a+m+(n+d+8))):=⟨_,rfl⟩;have ac:Fr [] h h1:=K▸VL w _;have ab:f_ h1 h.i (aW Z4 (a+m+(n+d+8))):=K▸Wi w _;rw[<-K];clear K;have nz:R6 (aW Z4 (a+m+(n+d+8))):=R6.f R6.i _;generalize aW Z4 (a+m+(n+d+8))=Z at ln ab nz;have k1:=k.f ac iS iS;have l0:ag h1 b 0=some v:=k1.c.o 0;have l1:ag h1 b 1=some (ZZ (a:Int)):=k1.c.o 1;have l2:ag h1 b 2=some (ZZ (g:Int)):=k1.c.o 2;have tz:U0 4 h1 (.z h.i 0 (a+m+(n+d+8)) (a+m+(n+d+8))) h.i Z (a+m+(n+d+8)):=⟨ln,.inr ⟨rfl,ab⟩⟩;have nB:v=.j\/B≠h.i:=by obtain⟨_,⟨q,_⟩|⟨_,q⟩⟩:=k.d;exact .inl q;right;have:=q.lt w;omega
 let⟨u2,e2,s2⟩:=k1.d.ba oM .i64 (a:Int) a rfl oM;rw[VN,<-k.i,XA]at s2;have d1:G? 4 h1 h.i Z (.z h.i 0 (a+m+(n+d+8)) (a+m+(n+d+8))) 0 (a+m+(n+d+8)):=⟨oM,.inr ⟨_,rfl,ab⟩⟩;simp only[a_,seval,g_,l0,l1,e2];apply ka oM ac.r d1 s2 k.r oM tz;rintro h2 t2 F2 n2;have ae:=F2.D b _ oO k1.c;have ax:U0 4 h2 v B (c1++G++c2) (a+g+m):=k1.d.bY F2 (nB.imp id iS);let⟨u3,e3,s3,_⟩:=ax.aM oM .i64 ((a:Int)+g) (a+g) oM oM;let⟨u4,e4,_,d4⟩:=t2.aM oM .i64 ((a:Int)+(n+d+8)) (a+(n+d+8)) oM oM;have ay:Sl h2 4 u3 m c2:=by rw[(oM:a+g+m-(a+g)=m),show(a+g) *4=(c1++G).length by simp[k.i,k.o];omega,Xn]at s3;rwa[Vm (by rw[k.n];omega)]at s3
 have ak:ag h2 b 0=some v:=ae.o 0;have an:ag h2 b 1=some (ZZ (a:Int)):=ae.o 1;have af:ag h2 b 2=some (ZZ (g:Int)):=ae.o 2;simp(disch:=omega) only[a_,seval,DF,g_,ah,l0,l1,ak,an,af,e3,e4];apply ka oM F2.r d4 ay k.s oM t2;rintro h3 t3 F3 n3;rw[Mg k.i k.n (by rw[ln])]at t3;have aj:=F3.D b _ oO ae;have a0:ag h3 b 0=some v:=aj.o 0;simp only[a_,seval,DF,ak,an,af];apply u_ F3.r aj;rintro h4 aH F4 n4;simp only[a_,seval];apply u_ F4.r aH;rintro h5 ar F5 n5;simp only[a_];refine⟨h.i,.z h.i 0 (a+m+(n+d+8)) (a+m+(n+d+8)),(Z.drop (a*4)).take ((n+d+8) *4),n+d+8,.inr (Ve _),⟨ar,?_,k.i,?_,k.n,k.r,k.s,oM,oM,oM,((k.p.c fun x m=>by simp[m]).d (nz.c fun x m=>VU (Wl m))).d (k.p.c fun x m=>by simp[m])⟩,oM,?_⟩;have t5:=(t3.fr F4 oO).fr F5 oO;rw[(oM:a+m+(n+d+8)=a+(n+d+8)+m)]at t5|-;exact t5;simp[ln];omega;have f1:Fr [h.i] h h2:=Vn ac F2 w iS iS;have f2:Fr [h.i] h h3:=Vn f1 F3 w iS iS;have f3:Fr [b] h h3:=⟨f2.i,f2.r,fun x c hx o=>f2.D x c (by have:=o.lt w;simp;omega) o,fun x c hx o=>f2.pl x c (by have:=o.a.lt w;simp;omega) o,f2.lp,f2.ro⟩;exact Vn (Vn f3 F4 w (fun x hx=>.inl hx) (fun x hx=>.inl hx)) F5 w (fun x hx=>.inl hx) (fun x hx=>.inl hx)
variable {h : b_} {b B : Nat}
theorem Do{n p:Nat}(h:p<=n):yM n p 0=0:=by unfold yM;rw[if_neg];omega
theorem OU{c1 G c2 xs:List α}{p q:Nat}(l1:c1.length=p*4)(Z:xs.length=q*4)(lg:q*4<=G.length):
 (c1++G++c2).take (p*4)++xs++(c1++G++c2).drop (p*4+q*4)=(c1++xs)++G.drop (q*4)++c2:=by
 rw[<-l1,VN c1 G c2,XA,Wa,Wc lg];simp
theorem oX{n q p:Nat}{l xs:List V}{u:V}(w:WF h)(k:Gp h b B n l)(s:∀h',Fr [b,B] h h'->Sl h' 4 u q xs)(ox:aw xs=true)(nx:R6 xs)(hp:p<=n)(hq:n+q<=4096):
 av go 91 [.u b 0,ZZ (p:Int),u] h fun z h'=>z=ZZ 0/\∃B',(B'=B\/h.i<=B')/\Gp h' b B' (n+q) (l.take (p*4)++xs++l.drop (p*4))/\Fr [b,B] h h':=by
 obtain⟨v,c1,G,c2,a,g,m,k,rfl,rfl⟩:=k;have s0:=s h (Vk w);have lx:=s0.1;have am:=k.q;by_cases c0:q=0;subst c0;refine ai ?_;simp only[a_,↓reduceIte,Nat.reduceEqDiff,Nat.reduceAdd];refine aa (eO k (p:Int) 0) ?_;rintro _ _ ⟨rfl,rfl⟩;simp only[a_,↓reduceIte,Nat.reduceEqDiff,Do hp,s0.A_];apply aa (dE k);rintro _ _ ⟨rfl,rfl⟩;simp(disch:=omega) only[a_,↓reduceIte,Nat.reduceEqDiff,ah,(oM:¬(4096-((a+m:Nat):Int)<((0:Nat):Int))),s0.A_,(iS:(((0:Nat):Int)=0)=True)];have Z:xs=[]:=VH.1 oM;subst Z;refine⟨B,.inl rfl,⟨v,c1,G,c2,a,g,m,k,iS,oM⟩,Vk w⟩;have nh:4096-((a+m:Nat):Int)<(q:Int)↔False:=by simp;omega
 have nz:(q:Int)=0↔False:=by simp;omega
 have sl:=s0.A_;refine ai ?_;simp only[a_,↓reduceIte,Nat.reduceEqDiff,Nat.reduceAdd];refine aa (eO k (p:Int) 0) ?_;rintro _ _ ⟨rfl,rfl⟩;simp only[a_,↓reduceIte,Nat.reduceEqDiff,Do hp,sl];apply aa (dE k);rintro _ _ ⟨rfl,rfl⟩;simp(disch:=omega) only[a_,↓reduceIte,Nat.reduceEqDiff,ah,nh,sl,nz];apply aa (Bp w k hp);rintro _ h1 ⟨rfl,k1,F1⟩;simp only[a_,↓reduceIte,Nat.reduceEqDiff,sl];apply aa (En F1.r k1 (n:=q) oM);rintro _ h2 ⟨rfl,B',v',G',g',hB,K,hg,F2⟩;have ac:Fr [b,B] h h2:=Vn F1 F2 w (fun x Z=>.inl Z) (fun x Z=>.inl (by simp at Z;simp[Z]));have s2:=s h2 ac;have l0:ag h2 b 0=some v':=K.c.o 0;have l1:ag h2 b 1=some (ZZ (p:Int)):=K.c.o 1;have ak:=K.w;let⟨u1,e1,_,d1⟩:=K.d.aM oM .i64 (p:Int) p rfl oM;simp only[a_,↓reduceIte,Nat.reduceEqDiff,g_,l0,l1,e1];apply ka oM F2.r d1 s2 ox oM K.d;rintro h3 t3 F3 n3;rw[OU K.i lx (by rw[K.o];omega)]at t3;have ab:=F3.D b _ (eV K.l.symm) K.c;have aj:ag h3 b 1=some (ZZ (p:Int)):=ab.o 1;simp(disch:=omega) only[a_,g_,ah];apply u_ F3.r ab;rintro h4 ae F4 n4;have l2:ag h4 b 2=some (ZZ (g':Int)):=ae.o 2;simp(disch:=omega) only[a_,↓reduceIte,Nat.reduceEqDiff,DF,ah,l0,l1,aj,l2,sl];refine ao (c':=[v',ZZ ((p+q:Nat):Int),ZZ ((g'-q:Nat):Int)]) F4.r ae rfl rfl (by rw[(oM:((g'-q:Nat):Int)=(g':Int)-q)];rfl) ?_;rintro h5 af F5 n5;simp only[a_,↓reduceIte];have ne:=K.l;have tl:=K.i;have tg:=K.o;have t2:=K.n;refine⟨B',hB.imp id (fun q=>VC F1.i q),⟨v',(c1++c2).take (p*4)++xs,G'.drop (q*4),(c1++c2).drop (p*4),p+q,g'-q,a+m-p,⟨af,?_,?_,?_,t2,?_,K.s,ne,oM,oM,((R6.d (K.p.c fun x m=>by simp[m]) nx).d (K.p.c fun x m=>by simp[VU m])).d (K.p.c fun x m=>by simp[m])⟩,iS,oM⟩,?_⟩;exact(oM:p+g'+(a+m-p)=p+q+(g'-q)+(a+m-p))▸(t3.fr F4 (eV ne)).fr F5 (eV ne);rw[Vv];omega;rw[Xv];omega;rw[aO,K.r,ox];rfl;have f3:Fr [b,B] h h3:=Vn ac F3 w (fun x Z=>.inl Z) (fun x Z=>by
  simp at Z;subst Z;obtain rfl|hB:=hB;exact .inl iS;exact .inr (VC F1.i hB))
 exact Vn (Vn f3 F4 w (fun x Z=>.inl Z) (fun x Z=>.inl (by simp at Z;simp[Z]))) F5 w (fun x Z=>.inl Z) (fun x Z=>.inl (by simp at Z;simp[Z]))
theorem Fr.bB{h h1 h2:b_}{S:List Nat}(w:WF h)(f1:Fr [] h h1)(f2:Fr S h1 h2)(hs:∀x∈S,h.i<=x):Fr [] h h2:=
 Vn f1 f2 w (fun x hx=>.inl hx) (fun x hx=>.inr (hs x hx))
theorem Kp{q:Nat}{xs:List V}{u:V}(w:WF h)(s:Sl h 4 u q xs)(ox:aw xs=true)(nx:R6 xs)(hq:q<=4096):
 av go 39 [u] h fun z h'=>∃b B,z=.G [.u b 0,ZZ 0]/\h.i<=b/\h.i<=B/\Gp h' b B q xs/\Fr [] h h':=by
 let⟨K,ab,Z,ac⟩:=au w [.j,ZZ 0,ZZ 0];refine ai ?_;simp only[a_,seval,<-ab];have k1:Gp K h.i (h.i+1) 0 []:=⟨.j,[],[],[],0,0,0,⟨ac,⟨rfl,.inl ⟨rfl,rfl⟩⟩,rfl,rfl,rfl,rfl,rfl,oM,oM,oM,fun x m=>by simp at m⟩,rfl,rfl⟩;have st:∀h',Fr [h.i,h.i+1] K h'->Sl h' 4 u q xs:=fun h' f=>s.fr (Fr.bB w Z f iS);refine aa (oX (p:=0) Z.r k1 st ox nx oM oM) ?_;rintro _ h2 ⟨rfl,B',hB,k2,F2⟩;simp only[a_,seval];have hn:=s_ ab;refine⟨h.i,B',rfl,Ve _,oM,?_,Fr.bB w Z F2 iS⟩;simpa using k2
variable {h : b_} {b B : Nat}
theorem AL{n:Nat}{l:List V}(k:Gp h b B n l):av go 52 [.u b 0] h fun u h'=>u=ZZ (n:Int)/\h=h':=by obtain⟨v,c1,G,c2,a,g,m,k,rfl,rfl⟩:=k;exact dE k
theorem NX{c1 c2 Z:List α}{a m:Nat}(l1:c1.length=a*4)(l2:c2.length=m*4)(lz:Z.length=(a+m) *4):
 (Z.take 0++c1++Z.drop (0+a*4)).take (a*4)++c2++(Z.take 0++c1++Z.drop (0+a*4)).drop (a*4+m*4)=c1++c2:=by
 simp only[XN,Wv,VR];have K:(c1++Z.drop (a*4)).length=a*4+m*4:=by simp;omega
 rw[<-K,WV,Wk,<-l1,XA]
theorem AK{n:Nat}{l:List V}(w:WF h)(k:Gp h b B n l):av go 65 [.u b 0] h fun u h'=>∃b',h.i<=b'/\U0 4 h' u b' l n/\Fr [] h h':=by
 obtain⟨v,c1,G,c2,a,g,m,k,rfl,rfl⟩:=k;have am:=k.q;have nb:=k.w;have blt:=k.c.lt w;have tot:=k.x;by_cases c0:a+m=0;refine ai ?_;simp[a_];refine aa (dE k) ?_;rintro _ _ ⟨rfl,rfl⟩;simp only[a_,seval,(oO:(((a+m:Nat):Int)=0)↔True)];exact⟨h.i,Ve _,⟨by rw[tot.1],.inl ⟨rfl,c0⟩⟩,Vk w⟩;have nz:(((a+m:Nat):Int)=0)↔False:=by simp;omega
 refine ai ?_;simp[a_];refine aa (dE k) ?_;rintro _ _ ⟨rfl,rfl⟩;simp only[a_,seval,nz];apply aa (dE k);rintro _ _ ⟨rfl,rfl⟩;simp only[a_];refine(dy _ _ _ _ _ _ _ _ oM oM oM oM).2 ?_;simp only[pi];have ln:(aW Z4 (a+m)).length=(a+m) *4:=c9 _ _;obtain⟨h1,K⟩:∃h1,h1=k_ h (aW [ZX 0,ZY 0,.f [],.j] (a+m)):=⟨_,rfl⟩;have ab:Fr [] h h1:=K▸VL w _;have ac:f_ h1 h.i (aW Z4 (a+m)):=K▸Wi w _;rw[<-K];clear K;generalize aW Z4 (a+m)=Z at ln ac;have k1:=k.f ab iS iS;have l0:ag h1 b 0=some v:=k1.c.o 0;have l1:ag h1 b 1=some (ZZ (a:Int)):=k1.c.o 1;have l2:ag h1 b 2=some (ZZ (g:Int)):=k1.c.o 2;have tz:U0 4 h1 (.z h.i 0 (a+m) (a+m)) h.i Z (a+m):=⟨ln,.inr ⟨rfl,ac⟩⟩;have nB:v=.j\/B≠h.i:=by obtain⟨_,⟨q,_⟩|⟨_,q⟩⟩:=k.d;exact .inl q;right;have:=q.lt w;omega
 let⟨u2,e2,s2⟩:=k1.d.ba oM .i64 (a:Int) a rfl oM;rw[VN,<-k.i,XA]at s2;have d1:G? 4 h1 h.i Z (.z h.i 0 (a+m) (a+m)) 0 (a+m):=⟨oM,.inr ⟨_,rfl,ac⟩⟩;simp[a_,g_,l0,l1,e2];apply ka oM ab.r d1 s2 k.r oM tz;rintro h2 t2 F2 n2;have ae:=F2.D b _ oO k1.c;have an:U0 4 h2 v B (c1++G++c2) (a+g+m):=k1.d.bY F2 (nB.imp id iS);let⟨u3,e3,s3,_⟩:=an.aM oM .i64 ((a:Int)+g) (a+g) oM oM;let⟨u4,e4,_,d4⟩:=t2.aM oM .i64 (a:Int) a rfl oM;have ar:Sl h2 4 u3 m c2:=by rw[(oM:a+g+m-(a+g)=m),show(a+g) *4=(c1++G).length by simp[k.i,k.o];omega,Xn]at s3;rwa[Vm (by rw[k.n];omega)]at s3
 have aj:ag h2 b 0=some v:=ae.o 0;have ak:ag h2 b 1=some (ZZ (a:Int)):=ae.o 1;have af:ag h2 b 2=some (ZZ (g:Int)):=ae.o 2;simp(disch:=omega)[a_,DF,g_,ah,l0,l1,aj,ak,af,e3,e4];apply ka oM F2.r d4 ar k.s oM t2;rintro h3 t3 F3 n3;rw[NX k.i k.n (by rw[ln])]at t3;simp[a_,DF,aj,ak,af];exact⟨h.i,Ve _,t3,Fr.bB w ab (Vn F2 F3 ab.r (fun x hx=>.inl hx) (fun x hx=>.inl hx)) iS⟩
end Go.Ev.Lay
namespace Go.Ev
abbrev Ww:=@Go.Ev.Lay.Fr.bB
abbrev Yx:=@Go.Ev.Lay.R6.d
end Go.Ev
