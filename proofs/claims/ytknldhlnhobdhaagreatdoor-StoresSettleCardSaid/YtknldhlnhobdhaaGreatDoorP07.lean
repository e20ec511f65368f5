/- An evaluator of the program, and contracts over it: LayP to StK. -/
import Derived.Test.YtknldhlnhobdhaaGreatDoorP04
import Derived.Test.YtknldhlnhobdhaaGreatDoorP06
set_option linter.unusedSimpArgs false
set_option linter.unusedVariables false
set_option linter.constructorNameAsVariable false
set_option linter.unnecessarySimpa false
set_option maxRecDepth 4000
namespace Go.Ev.Lay
variable{h':a_}{bs ks:List Bool}{ws:List Nat}{pm:Option Nat}{vk:V}{view over:Int}{lo:Bool}
theorem gX(k:IntKind)(x:Nat)(b:Int)(n:Nat)(h:b=n)(Z:n<=64):aP (.E false) [ZX (x:Int),.A k b]=some (ZX ((x/2^n:Nat):Int)):=by subst h;rw[B9 _ _ _ _ oM];simp only[pi,IntKind.bits,XN Z];congr 2;rw[Int.fdiv_eq_ediv_of_nonneg _ (ZJ _),Int.natCast_ediv]
theorem Md(w x y:Nat):(BitVec.ofInt w (x:Int)&&&BitVec.ofInt w (y:Int)).toNat=(x%2^w)&&&(y%2^w):=by simp
theorem OP(w x y:Nat):(BitVec.ofInt w (x:Int)^^^BitVec.ofInt w (y:Int)).toNat=(x%2^w)^^^(y%2^w):=by simp
theorem Cc(k:IntKind)(a b:Int):aP (.e .and) [.A k a,.A k b]=some (.A k (bP k (BitVec.toNat (BitVec.ofInt k.bits a&&&BitVec.ofInt k.bits b)))):=by simp[aP,bR,cond_true,jz]
theorem Nw(k:IntKind)(a b:Int):aP (.e .xor) [.A k a,.A k b]=some (.A k (bP k (BitVec.toNat (BitVec.ofInt k.bits a^^^BitVec.ofInt k.bits b)))):=by simp[aP,bR,cond_true,jz]
theorem p64:2^IntKind.u64.bits=18446744073709551616:=rfl
theorem q64:2^IntKind.i64.bits=18446744073709551616:=rfl
theorem jv(x y:Nat)(a b:Int)(ha:a=x)(hb:b=y)(Z:x<18446744073709551616)(hy:y<18446744073709551616):aP (.e .and) [ZX a,ZX b]=some (ZX ((x&&&y:Nat):Int)):=by subst ha hb;have K:x&&&y<18446744073709551616:=ZK Nat.and_le_left Z;rw[Cc,Md,p64,XP Z,XP hy,bS _ oM oM]
theorem r9(x y:Nat)(a b:Int)(ha:a=x)(hb:b=y)(K:x<18446744073709551616)(Z:y<18446744073709551616):aP (.e .xor) [ZX a,ZX b]=some (ZX ((x^^^y:Nat):Int)):=by subst ha hb;have ac:x^^^y<2^64:=Nat.xor_lt_two_pow (eV K) (eV Z);rw[Nw,OP,p64,XP K,XP Z,bS _ oM oM]
theorem Ft(x y:Nat)(h:x+y<18446744073709551616):aP (.e .add) [ZX (x:Int),ZX (y:Int)]=some (ZX ((x+y:Nat):Int)):=by rw[Cd,bS _ oM oM];simp
theorem Ns(w:Nat)(Z:w<9223372036854775808):aP (.e .and) [ZZ (w:Int),ZZ 127]=some (ZZ ((w%128:Nat):Int)):=by have e:(127:Int)=((127:Nat):Int):=rfl;rw[Cc,e,Md,q64,XP (oM:w<18446744073709551616),(iR:127%18446744073709551616=2^7-1),Nat.and_two_pow_sub_one_eq_mod,ag _ oM oM]
theorem yJ{h:a_}{x:Nat}(hx:x<18446744073709551616):ao go 288 [ZX (x:Int)] h fun u h'=>u=ZZ (R8 64 x)/\h'=h:=by
 obtain⟨y,hy⟩:∃y,y=((x/2)&&&6148914691236517205)+(x&&&6148914691236517205):=⟨_,rfl⟩;obtain⟨z,hz⟩:∃z,z=((y/4)&&&3689348814741910323)+(y&&&3689348814741910323):=⟨_,rfl⟩;obtain⟨t,ht⟩:∃t,t=(z/16+z)&&&1085102592571150095:=⟨_,rfl⟩;let⟨K,Z,bz,bt,u,hu,bu,v,hv,bv,w,hw,bw,e⟩:=Pd x hx y hy z hz t ht;have s1:=gX .u64 x 1 1 rfl oM;have a1:=jv (x/2) 6148914691236517205 _ 6148914691236517205 rfl rfl oM oM;have a2:=jv x 6148914691236517205 _ 6148914691236517205 rfl rfl oM oM;have d1:=Ft (x/2&&&6148914691236517205) (x&&&6148914691236517205) (by rw[<-hy];exact K);rw[<-hy]at d1;have s2:=gX .u64 y 2 2 rfl oM;have a3:=jv (y/4) 3689348814741910323 _ 3689348814741910323 rfl rfl oM oM;have a4:=jv y 3689348814741910323 _ 3689348814741910323 rfl rfl oM oM;have d2:=Ft (y/4&&&3689348814741910323) (y&&&3689348814741910323) (by rw[<-hz];exact bz);rw[<-hz]at d2;have s3:=gX .u64 z 4 4 rfl oM;have d3:=Ft (z/16) z Z;have a5:=jv (z/16+z) 1085102592571150095 _ 1085102592571150095 rfl rfl Z oM;rw[<-ht]at a5;have s4:=gX .u64 t 8 8 rfl oM;have d4:=Ft t (t/256) oM;rw[<-hu]at d4;have s5:=gX .u64 u 16 16 rfl oM;have d5:=Ft u (u/65536) oM;rw[<-hv]at d5;have s6:=gX .u64 v 32 32 rfl oM;have d6:=Ft v (v/4294967296) oM;rw[<-hw]at d6;have cv:aP (.q .i64) [ZX (w:Int)]=some (ZZ (w:Int)):=by rw[sj,ag _ oM oM]
 have a6:=Ns w oM;rw[e]at a6;simp only[seval]at s1 s2 s3 s4 s5 s6;refine ah ?_;simp only[xf,xe,xi,fT,qM,FB,FA,Ek,mU,mR,qA,qz,nD,iI,wD,cW,fP,cC,bO,cL,iw,fu,Xr,dJ,jS,jL,qD,hJ,wY,seval,s1,a1,a2,d1,s2,a3,a4,d2,s3,d3,a5,s4,d4,s5,d5,s6,d6,cv,a6];exact⟨trivial,trivial⟩
def uw(x:Nat):V:=ZX (x:Int)
def P7(n m:Int)(ws:List Nat):List V:=ZZ n::ZZ m::ws.map uw
structure WOK(ws:List Nat)(bs:List Bool):Prop where
 t_:ws.length=64
 w:∀k,k<64->∃x,ws[k]? =some x/\x<18446744073709551616/\∀j,j<64->x.testBit j=bs.getD (64*k+j) false
def Fl(h:a_)(b:Nat)(bs:List Bool):Prop:=∃ws,e_ h b (P7 bs.length (bs.count true) ws)/\WOK ws bs/\bs.length<=4096
theorem Fl.fr{h:a_}{b:Nat}(a:Fl h b bs)(f:Fr [] h h'):Fl h' b bs:=by let⟨Z,o,x⟩:=a;exact⟨Z,f.i o,x⟩
theorem ye(n m:Int)(Z:List Nat)(k:Nat):X8 (P7 n m Z) (2+k)=(Z[k]?).map uw:=by rw[eZ,Yz];simp[P7]
theorem Hk(i:Nat):aP (.e .quo) [ZZ (i:Int),ZZ 64]=some (ZZ ((i/64:Nat):Int))\/i>9000000:=by by_cases h:i>9000000;exact .inr h;left;rw[qL _ _ 64 dI,show Int.tdiv (i:Int) 64=((i/64:Nat):Int)from(Int.ofNat_tdiv i 64).symm,ag _ oM oM]
theorem Hc(i:Nat):aP (.e .rem) [ZZ (i:Int),ZZ 64]=some (ZZ ((i%64:Nat):Int)):=by rw[jD _ _ 64 dI,show Int.tmod (i:Int) 64=((i%64:Nat):Int)from(Int.ofNat_tmod i 64).symm]
theorem PB(x j:Nat):decide (((x/2^j&&&1:Nat):Int)=1)=x.testBit j:=by grind
theorem H5{h:a_}{b:Nat}{i:Nat}(f:Fl h b bs)(hi:i<bs.length):ao go 280 [.u b 0,ZZ (i:Int)] h fun u h'=>u=.h (bs.getD i false)/\h'=h:=by
 let⟨ws,o,ok,hn⟩:=f;let⟨x,e1,e2,e3⟩:=ok.w (i/64) oM;have q1:=(Hk i).resolve_right oM;have q2:=Hc i;have Z:=iU 1 b 2 64 .i64 ((i/64:Nat):Int) oM oM;have q4:ab h b (2+(i/64) *1)=some (ZX (x:Int)):=by rw[o.j,Xv,ye,e1];rfl
 have q5:=gX .i64 x ((i%64:Nat):Int) (i%64) rfl oM;have K:=jv (x/2^(i%64)) 1 _ 1 rfl rfl (ZK (Nat.div_le_self _ _) e2) oM;simp only[pi]at Z;refine ah ?_;simp only[xf,xe,xi,fT,qM,FB,FA,Ek,mU,mR,CI,sA,fE,qA,qz,nD,iI,wD,cW,fP,cC,bO,cL,iw,fu,Xr,dJ,jS,jL,qD,hJ,wY,uR,jR,yH,seval,WG,q1,q2,Z,q4,q5,K,PB];rw[e3 (i%64) oM,(oM:64*(i/64)+i%64=i)];exact⟨rfl,trivial⟩
theorem count_set:∀(bs:List Bool)(i:Nat)(v:Bool),i<bs.length->bs.getD i false≠v->((bs.set i v).count true:Int)=bs.count true+if v=true then 1 else-1
 |b::bs,0,v,_,h=>by cases b<;>cases v<;>simp at h|- <;>omega
 |b::bs,i+1,v,hi,h=>by grind
theorem zd:∀(bs:List Bool)(i:Nat),bs.set i (bs.getD i false)=bs
 |[],_=>rfl
 |b::bs,0=>by simp
 |b::bs,i+1=>by have:=zd bs i;simp at this⊢;exact this
theorem WOK.flip(ok:WOK ws bs){i x:Nat}{v:Bool}(hi:i<bs.length)(h4:bs.length<=4096)(hx:ws[i/64]? =some x)(hv:bs.getD i false≠v):WOK (ws.set (i/64) (x^^^2^(i%64))) (bs.set i v):=by refine⟨by rw[WV];exact ok.t_,fun k Z=>?_⟩;let⟨y,K,e2,e3⟩:=ok.w k Z;by_cases c:k=i/64;subst c;rw[hx]at K;cases K;refine⟨x^^^2^(i%64),by simp[ok.t_,Z],?_,fun j hj=>?_⟩;have:=Nat.xor_lt_two_pow (n:=64) (x:=x) (y:=2^(i%64)) (eV e2) (Zy oM oM);simpa using this;grind;grind
theorem KJ(n m:Int)(Z:List Nat)(k y:Nat):(P7 n m Z).set (2+k) (ZX (y:Int))=P7 n m (Z.set k y):=by rw[Yz];simp[P7,uw]
theorem c7(n m:Int)(Z:List Nat):(P7 n m Z).length=Z.length+2:=by simp[P7]
theorem ma(l:List V):bG l 0 []=some l:=by cases l<;>rfl
theorem Ae(n m m':Int)(Z:List Nat):bG (P7 n m Z) 1 [ZZ m']=some (P7 n m' Z):=by show bG (ZZ n::ZZ m::Z.map uw) (0+1) [ZZ m']=_;rw[bM,aY,ma];rfl
theorem If(n K m:Int)(Z:List Nat):bG (P7 n m Z) 0 [ZZ K]=some (P7 K m Z):=by show bG (ZZ n::ZZ m::Z.map uw) 0 [ZZ K]=_;rw[aY,ma];rfl
theorem J0(k:IntKind)(j:Nat)(Z:j<64):aP (.E true) [ZX 1,.A k (j:Int)]=some (ZX ((2^j:Nat):Int)):=by have K:2^j<2^64:=Zy oM Z;rw[IW _ _ _ _ oM];simp only[pi,IntKind.bits,XN (oM:j<=64),Int.one_mul];rw[bS _ (ZJ _) (Int.ofNat_le.2 (Nat.le_of_lt_succ (eV K)))]
theorem CY{h:a_}{b:Nat}{i:Nat}{v:Bool}(w:WF h)(f:Fl h b bs)(hi:i<bs.length):ao go 242 [.u b 0,ZZ (i:Int),.h v] h fun u h'=>u=.D []/\Fl h' b (bs.set i v)/\Fr [b] h h'/\h'.e=h.e:=by
 have f0:=f;let⟨ws,o,ok,hn⟩:=f;let⟨x,e1,e2,e3⟩:=ok.w (i/64) oM;have q1:=(Hk i).resolve_right oM;have q2:=Hc i;have q3:=iU 1 b 2 64 .i64 ((i/64:Nat):Int) oM oM;simp only[pi,Xv]at q3;have q4:ab h b (2+i/64)=some (ZX (x:Int)):=by rw[o.j,ye,e1];rfl
 have q5:=J0 .i64 (i%64) oM;have h2:2^(i%64)<2^64:=Zy oM oM;have q6:=r9 x (2^(i%64)) _ _ rfl rfl e2 (eV h2);have oR:bs.count true<=bs.length:=XE;refine ah ?_;simp[b_];refine aa (H5 f0 hi) ?_;rintro _ _ ⟨rfl,hh⟩;subst hh;by_cases hv:bs.getD i false=v;simp only[b_,seval,eq_true hv];rw[<-hv,zd];exact⟨f0,Wl w⟩;simp only[b_,seval,j_,eq_false hv,q1,q2,q3,q4,q5,q6];refine ai (c':=P7 bs.length (bs.count true) (ws.set (i/64) (x^^^2^(i%64)))) w o rfl rfl ?_ ?_;rw[(iR:V.s (ZX ((x^^^2^(i%64):Nat):Int))=[ZX ((x^^^2^(i%64):Nat):Int)]),fF _ _ _ (by rw[c7,ok.t_];omega),KJ];rintro h1 o1 F1 n1;have cs:=count_set bs i v hi hv;have K:=ok.flip hi hn e1 hv;have ln:((bs.set i v).length:Int)=bs.length:=by simp
 cases v;simp(disch:=omega)[b_,DF,ag,q4,o1.j,P7];apply ai (c':=P7 bs.length ((bs.count true:Int)-1) (ws.set (i/64) (x^^^2^(i%64)))) F1.o o1 rfl rfl (Ae _ _ _ _);rintro h2 o2 F2 n2;simp[b_];simp at cs;refine⟨⟨_,by rw[ln,cs,(oM:(bs.count true:Int)+-1=bs.count true-1)];exact o2,K,by simpa using hn⟩,F1.trans F2 w (fun x Z=>.inl Z) (fun x Z=>.inl Z),n2.trans n1⟩;simp(disch:=omega)[b_,DF,ag,q4,o1.j,P7];apply ai (c':=P7 bs.length ((bs.count true:Int)+1) (ws.set (i/64) (x^^^2^(i%64)))) F1.o o1 rfl rfl (Ae _ _ _ _);rintro h2 o2 F2 n2;simp[b_];simp at cs;refine⟨⟨_,by rw[ln,cs];exact o2,K,by simpa using hn⟩,F1.trans F2 w (fun x Z=>.inl Z) (fun x Z=>.inl Z),n2.trans n1⟩
def u9(n:Nat)(a k:Int):Int:=if a<0\/k<0\/n<a\/n-a<k then 4 else 0
theorem qC{h:a_}{b:Nat}{a k:Int}(f:Fl h b bs)(a0:-9223372036854775808<=a)(K:a<=9223372036854775807):ao go 236 [.u b 0,ZZ a,ZZ k] h fun u h'=>u=ZZ (u9 bs.length a k)/\h'=h:=by let⟨Z,o,ok,hn⟩:=f;have q:ab h b 0=some (ZZ (bs.length:Int)):=o.j 0;unfold u9;by_cases c1:a<0;refine ah ?_;simp only[b_,seval,c1];simp;by_cases c2:k<0;refine ah ?_;simp only[b_,seval,c1,c2];simp;by_cases c3:(bs.length:Int)<a;refine ah ?_;simp only[b_,seval,q,c1,c2,c3];simp;by_cases c4:(bs.length:Int)-a<k;refine ah ?_;simp(disch:=omega) only[b_,seval,ag,q,c1,c2,c3,c4];simp;refine ah ?_;simp(disch:=omega) only[b_,seval,ag,q,c1,c2,c3,c4];simp
theorem KN{h:a_}{b:Nat}{i:Int}{v:Bool}(w:WF h)(f:Fl h b bs)(a0:-9223372036854775808<=i)(a1:i<=9223372036854775807):ao go 182 [.u b 0,ZZ i,.h v] h fun u h'=>
 (u=ZZ (if 0<=i/\i<bs.length then 0 else 4))/\Fl h' b (if 0<=i/\i<bs.length then bs.set i.toNat v else bs)/\Fr [b] h h'/\h'.e=h.e:=by
 refine ah ?_;simp[b_];refine aa (qC f a0 a1) ?_;rintro _ _ ⟨rfl,Z⟩;subst Z;by_cases c:0<=i/\i<bs.length;have e:u9 bs.length i 1=0:=by unfold u9;rw[if_neg oM]
 obtain⟨j,rfl⟩:∃j:Nat,i=j:=⟨i.toNat,oM⟩;rw[e,if_pos c,if_pos c];simp only[b_,seval];apply aa (CY w f oM);rintro _ h1 ⟨rfl,f1,F1,K⟩;simp[b_];exact⟨f1,F1,K⟩;have e:u9 bs.length i 1=4:=by unfold u9;rw[if_pos oM]
 rw[e,if_neg c,if_neg c];simp[b_];exact⟨f,Wl w⟩
theorem NY(h:a_):WOK (List.replicate 64 0) []:=⟨iS,fun k hk=>⟨0,by rw[Yd,if_pos hk],oM,fun j _=>by simp⟩⟩
theorem KO{h:a_}(w:WF h):ao go 232 [ZZ 0] h fun u h'=>∃b,u=.D [.u b 0,ZZ 0]/\h.e<=b/\Fl h' b []/\Fr [] h h':=by refine ah ?_;simp only[b_,seval];exact⟨_,rfl,VZ _,⟨List.replicate 64 0,Xc w _,NY h,iS⟩,WA w _⟩
theorem Sl.frb{h:a_}{esz:Nat}{v:V}{n:Nat}{cs:List V}{b:Nat}{c c':List V}(a:Sl h esz v n cs)(f:Fr [b] h h')(o:e_ h b c)(o':e_ h' b c')(hl:c'.length=c.length)(hd:cs≠[]->∃x∈cs,x∉c):Sl h' esz v n cs:=by
 let⟨e1,e2⟩:=a;have K:∀(bb Z:Nat),(∃d,e_ h bb d/\Z+n*esz<=d.length/\cs=(d.drop Z).take (n*esz))->∃d,e_ h' bb d/\Z+n*esz<=d.length/\cs=(d.drop Z).take (n*esz):=by rintro bb Z ⟨d,od,h1,h2⟩;by_cases e:bb=b;subst e;have:=od.uniq o;subst this;by_cases hL:cs=[];grind;grind;exact⟨d,f.I _ _ (eV e) od,h1,h2⟩
 refine⟨e1,?_⟩;cases v with
 |y bb Z len cap=>let⟨x1,x2,x3⟩:=e2;exact⟨x1,x2,K bb Z x3⟩
 |G bb Z len cap=>let⟨x1,x2,x3⟩:=e2;exact⟨x1,x2,K bb Z x3⟩
 |_=>exact e2
theorem P9.frb{h:a_}{v:V}{b:Nat}{n m n' m':Int}{Z:List Nat}(a:P9 h v bs)(f:Fr [b] h h')(o:e_ h b (P7 n m ws))(o':e_ h' b (P7 n' m' Z))(hl:Z.length=ws.length):P9 h' v bs:=by
 refine Sl.frb a f o o' (by simp[c7,hl]) fun K=>?_;cases bs with
 |nil=>simp at K
 |cons x bs=>exact⟨.h x,iS,by simp[P7,uw]⟩
theorem JL(bs:List Bool)(i:Nat)(x:Bool)(h:bs[i]? =some x):((bs.take i).map V.h++List.replicate (bs.length-i) (V.h false)).set i (V.h x)=(bs.take (i+1)).map V.h++List.replicate (bs.length-(i+1)) (V.h false):=by
 have K:i<bs.length:=by grind
 have Z:((bs.take i).map V.h).length=i:=by simp;omega
 rw[YP,if_neg oM,Z,Yf,(oM:bs.length-i=(bs.length-(i+1))+1),XI,Yt,Wn,h];simp
theorem Ie{h:a_}{b:Nat}(w:WF h)(f:Fl h b bs):ao go 237 [.u b 0] h fun u h'=>P9 h' u bs/\(∃c,u=.y c 0 bs.length bs.length/\h.e<=c)/\Fr [] h h':=by
 have f0:=f;let⟨ws,o,ok,hn⟩:=f;have q:ab h b 0=some (ZZ (bs.length:Int)):=o.j 0;refine ah ?_;simp[b_,q];refine(bV _ _ _ _ _ _ _ _ oM oM oM oM).2 ?_;simp;rw[iC];obtain⟨h1,Z⟩:∃h1,h1=h_ h (List.replicate bs.length (.h false)):=⟨_,rfl⟩;have ac:Fr [] h h1:=Z▸WA w _;have ae:e_ h1 h.e (List.replicate bs.length (.h false)):=Z▸Xc w _;simp[b_,<-Z];refine aA (fun k env hh=>∃i:Nat,env.c_ 12=some (ZZ i)/\env.c_ 11=some (ZZ bs.length)/\env.c_ 3=some (.y h.e 0 bs.length bs.length)/\env.c_ 0=some (.u b 0)/\i<=bs.length/\Fr [] h hh/\
  e_ hh h.e ((bs.take i).map V.h++List.replicate (bs.length-i) (.h false))/\k=bs.length-i) bs.length oM ?_ ?_
 ·exact⟨0,iS,iS,iS,iS,oM,ac,by simpa using ae,rfl⟩
 ·rintro k env hh ⟨i,g12,g11,g3,g0,hi,F,oo,rfl⟩;by_cases K:(i:Int)<bs.length
  ·have ei:bs[i]? =some (bs.getD i false):=by simp[(oM:i<bs.length)]
   simp only[b_,seval,g12,g11,g0,K];apply aa (H5 (f0.fr F) oM);rintro _ _ ⟨rfl,af⟩;subst af;have ix:=dh 1 h.e 0 bs.length bs.length .i64 i oM K;simp at ix;simp only[b_,seval,g3,ix];refine ai (c':=(bs.take (i+1)).map V.h++List.replicate (bs.length-(i+1)) (.h false)) F.o oo rfl rfl ?_ ?_
   ·show bG _ i [.h (bs.getD i false)]=_;rw[fF _ _ _ oO,JL bs i _ ei]
   rintro h2 o2 F2 n2;simp(disch:=omega) only[b_,seval,ag,g12];refine s_ ⟨bs.length-(i+1),oM,i+1,iS,iX,iX,iX,oM,F.z F2 w (VZ _),o2,rfl⟩
   done
  ·simp only[b_,seval,g12,g11,g3,K];have:i=bs.length:=oM
   subst this;simp at oo;exact⟨Xy oo iS,⟨_,rfl,VZ _⟩,F⟩
theorem CB(B:List Bool)(k:Nat)(x:Bool)(h:B[k]? =some x):(B.take k++List.replicate (B.length-k) false).set k x=B.take (k+1)++List.replicate (B.length-(k+1)) false:=by
 have K:k<B.length:=by grind
 have Z:(B.take k).length=k:=by simp;omega
 rw[YP,if_neg oM,Z,Yf,(oM:B.length-k=(B.length-(k+1))+1),XI,Yt,Wn,h];simp
theorem Fl.falses{h:a_}{b N:Nat}(o:e_ h b (P7 N 0 (List.replicate 64 0)))(hN:N<=4096):Fl h b (List.replicate N false):=by refine⟨List.replicate 64 0,by simpa[List.count_replicate]using o,⟨iS,fun k Z=>⟨0,by rw[Yd,if_pos Z],oM,fun j _=>?_⟩⟩,by simpa using hN⟩;simp only[Nat.zero_testBit,Xo,Yd];split<;>rfl
theorem P9.noint{h:a_}{v:V}(a:P9 h v bs):∀k n,v≠.A k n:=by rintro k n rfl;exact a.2
theorem E8{h:a_}{b:Nat}{a7:List Bool}{vl:V}{Ls:List (V×List Bool)}(w:WF h)(f:Fl h b a7)(a:Q5 Prod.fst h vl Ls)(al:∀p∈Ls,P9 h p.1 p.2)(hN:(Ls.flatMap Prod.snd).length<=4096)(hl:Ls.length<=100):
 ao go 238 [.u b 0,vl] h fun u h'=>u=.D []/\Fl h' b (Ls.flatMap Prod.snd)/\Fr [b] h h':=by
 let⟨ws,o,ok,hn⟩:=f;obtain⟨B,hB⟩:∃B,B=Ls.flatMap Prod.snd:=⟨_,rfl⟩;rw[<-hB]at hN|-;have af:∀{Z:a_}{n' m':Int}{az:List Nat},Fr [b] h Z->e_ Z b (P7 n' m' az)->az.length=64->Q5 Prod.fst Z vl Ls/\∀p∈Ls,P9 Z p.1 p.2:=by
  intro Z n' m' az F o' a0;refine⟨Sl.frb a F o o' (by rw[c7,c7,a0,ok.t_]) fun a6=>?_,fun p hp=>P9.frb (al p hp) F o o' (by rw[a0,ok.t_])⟩;cases Ls with
  |nil=>simp at a6
  |cons p Ls=>
   refine⟨p.1,iS,?_⟩;have:=(al p iS).noint;simp[P7];exact⟨this _ _,this _ _,fun x _ hx=>this _ _ hx.symm⟩
 have an:∀{Z:a_}{bs:List Bool},Fr [b] h Z->Fl Z b bs->Q5 Prod.fst Z vl Ls/\∀p∈Ls,P9 Z p.1 p.2:=fun F ⟨_,o',ok',_⟩=>af F o' ok'.t_;refine ah ?_;simp[b_];refine ai (c':=P7 0 0 (List.replicate 64 0)) w o rfl rfl ?_ ?_
 ·rw[cD _ _ _ (by rw[c7,ok.t_];simp[V.s])];simp only[YZ,XO,V.s];rw[Wo (by rw[c7,ok.t_];simp)];rfl
 rintro h1 o1 F1 n1;let⟨a1,bt⟩:=af F1 o1 iS;simp[b_,a1.t_];refine aA (fun k env Z=>∃i:Nat,env.c_ 16=some (ZZ i)/\env.c_ 15=some (ZZ Ls.length)/\env.c_ 14=some vl/\env.c_ 0=some (.u b 0)/\env.c_ 1=some vl/\i<=Ls.length/\Fr [b] h Z/\
  e_ Z b (P7 ((Ls.take i).flatMap Prod.snd).length 0 (List.replicate 64 0))/\k=Ls.length-i) Ls.length oM ?_ ?_
 ·exact⟨0,iS,iS,iS,iS,iS,oM,F1,by simpa using o1,rfl⟩
 rintro k env Z ⟨i,aH,aT,bk,g0,g1,hi,F,oo,rfl⟩;let⟨a2,bi⟩:=af F oo iS;by_cases ae:(i:Int)<Ls.length
 ·let⟨bb,po,p,e1,e2,e3⟩:=a2.ix .i64 i oM ae;simp at e3;have lp:=bi p (Wc e3);have tk:(Ls.take (i+1)).flatMap Prod.snd=(Ls.take i).flatMap Prod.snd++p.2:=by rw[Wn,e3];simp
  have bj:((Ls.take (i+1)).flatMap Prod.snd).length<=B.length:=by
   rw[hB];conv=>rhs;rw[<-WO (i+1) Ls]
   rw[XS,Wq];omega
  rw[tk,Wq]at bj;simp(disch:=omega) only[b_,seval,ag,aH,aT,bk,g0,ae,e1,e2,oo.j,P7,lp.t_];refine ai (c':=P7 ((Ls.take (i+1)).flatMap Prod.snd).length 0 (List.replicate 64 0)) F.o oo rfl rfl ?_ ?_
  ·rw[tk,Wq,ZD];exact If _ _ _ _
  rintro h2 o2 F2 n2;simp(disch:=omega) only[b_,seval,ag,aH];refine s_ ⟨Ls.length-(i+1),oM,i+1,iS,iX,iX,iX,iX,oM,F.trans F2 w (fun x hx=>.inl hx) (fun x hx=>.inl hx),o2,rfl⟩
  done
 ·have:i=Ls.length:=oM
  subst this;rw[Xq,<-hB]at oo;have bf:=Fl.falses oo hN;simp[b_,aH,aT,g1,a2.t_];refine aA (fun k env Z=>∃j:Nat,env.c_ 32=some (ZZ j)/\env.c_ 31=some (ZZ Ls.length)/\env.c_ 30=some vl/\env.c_ 0=some (.u b 0)/\
   env.c_ 6=some (ZZ ((Ls.take j).flatMap Prod.snd).length)/\j<=Ls.length/\Fr [b] h Z/\Fl Z b (B.take ((Ls.take j).flatMap Prod.snd).length++List.replicate (B.length-((Ls.take j).flatMap Prod.snd).length) false)/\k=Ls.length-j) Ls.length oM ?_ ?_
  ·exact⟨0,iS,iS,iS,iX,iS,oM,F,by simpa using bf,rfl⟩
  rintro k env Z ⟨j,ax,ar,ay,g0,g6,hj,F,fj,rfl⟩;let⟨a3,bh⟩:=an F fj;by_cases ae:(j:Int)<Ls.length
  ·let⟨bb,po,p,e1,e2,e3⟩:=a3.ix .i64 j oM ae;simp at e3;have lp:=bh p (Wc e3);obtain⟨K,hK⟩:∃K,K=((Ls.take j).flatMap Prod.snd).length:=⟨_,rfl⟩;rw[<-hK]at g6 fj;have tk:((Ls.take (j+1)).flatMap Prod.snd).length=K+p.2.length:=by rw[Wn,e3,hK];simp
   have eB:B=(Ls.take j).flatMap Prod.snd++(p.2++(Ls.drop (j+1)).flatMap Prod.snd):=by
    rw[hB];conv=>lhs;rw[<-WO j Ls,aL e3]
    rw[XS,WH]
   have lB:K+p.2.length<=B.length:=by grind
   have nB:∀q,q<p.2.length->B[K+q]? =p.2[q]? :=fun q hq=>by grind
   simp only[b_,seval,ax,ar,ay,ae,e1,e2,lp.t_];refine aA (fun k ac Z=>(∀s,s=32\/s=31\/s=30\/s=0->ac.c_ s=env.c_ s)/\∃q:Nat,ac.c_ 38=some (ZZ q)/\ac.c_ 37=some (ZZ p.2.length)/\ac.c_ 36=some p.1/\ac.c_ 6=some (ZZ ((K+q:Nat):Int))/\q<=p.2.length/\Fr [b] h Z/\
    Fl Z b (B.take (K+q)++List.replicate (B.length-(K+q)) false)/\k=p.2.length-q) p.2.length oM ?_ ?_
   ·exact⟨fun s hs=>by obtain rfl|rfl|rfl|rfl:=hs<;>simp,0,iS,iS,iS,iX,oM,F,by simpa using fj,rfl⟩
   rintro k bn Z ⟨same,q,aJ,a5,a9,aN,hq,F,fq,rfl⟩;have aR:=(same 32 iS).trans ax;have a8:=(same 31 iS).trans ar;have ba:=(same 30 iS).trans ay;have n0:=(same 0 iS).trans g0;let⟨a4,bg⟩:=an F fq;have bm:=bg p (Wc e3);by_cases ak:(q:Int)<p.2.length
   ·let⟨b5,p5,x,d1,d2,d3⟩:=bm.ix .i64 q oM ak;simp at d3;simp only[b_,seval,n0,aJ,a5,a9,aN,ak,d1,d2];apply aa (CY F.o fq oO);rintro _ h5 ⟨rfl,f5,F5,n5⟩;rw[CB B (K+q) x ((nB q oM).trans d3)]at f5;simp(disch:=omega) only[b_,seval,ag,aJ,aN];refine s_ ⟨p.2.length-(q+1),oM,fun s hs=>by obtain rfl|rfl|rfl|rfl:=hs<;>simp[aR,a8,ba,n0,ax,ar,ay,g0],q+1,iS,iX,iX,oO,oM,F.trans F5 w (fun x hx=>.inl hx) (fun x hx=>.inl hx),f5,rfl⟩
    done
   ·have:q=p.2.length:=oM
    subst this;simp(disch:=omega) only[b_,seval,ag,aR,aJ,a5,ak];refine s_ ⟨Ls.length-(j+1),oM,j+1,iS,iX,iX,iX,iX,oM,F,by rw[tk];exact fq,rfl⟩
    done
  ·have:j=Ls.length:=oM
   subst this;rw[Xq,<-hB]at fj;simp at fj;simp[b_,ax,ar];exact⟨fj,F⟩
theorem GW(n i:Nat)(v:Bool)(K:i<n):((List.replicate i v).map V.h++List.replicate (n-i) (V.h false)).set i (V.h v)=(List.replicate (i+1) v).map V.h++List.replicate (n-(i+1)) (V.h false):=by
 have Z:((List.replicate i v).map V.h).length=i:=by simp
 rw[YP,if_neg oM,Z,Yf,(oM:n-i=(n-(i+1))+1),XI,Yt,List.replicate_succ'];simp
theorem Q5.U{α:Type}{f:α->V}{h:a_}{v:V}{l:List α}(a:Q5 f h v l):v.U=true:=Xs a
theorem KR{h:a_}{b:Nat}{a n:Nat}{v:Bool}(w:WF h)(f:Fl h b bs)(ha:a<=bs.length)(hn:n+bs.length<=4096):
 ao go 233 [.u b 0,ZZ (a:Int),ZZ (n:Int),.h v] h fun u h'=>u=ZZ 0/\Fl h' b (bs.take a++List.replicate n v++bs.drop a)/\Fr [b] h h':=by
 have f0:=f;let⟨ws,o,ok,aJ⟩:=f;have q:ab h b 0=some (ZZ (bs.length:Int)):=o.j 0;refine ah ?_;simp only[b_,seval];refine aa (qC f0 oM oM) ?_;rintro _ _ ⟨rfl,hh⟩;replace hh:=hh.symm;subst hh;have e:u9 bs.length a 0=0:=by unfold u9;rw[if_neg oM]
 rw[e];simp(disch:=omega) only[b_,seval,ag,(oM:¬(n:Int)<0),q,(oM:¬4096-(bs.length:Int)<n)];refine(bV _ _ _ _ _ _ _ _ oM oM oM oM).2 ?_;simp only[pi];rw[iC];obtain⟨h0,e0⟩:∃h0,h0=h:=⟨h,rfl⟩;subst e0;obtain⟨h1,K⟩:∃h1,h1=h_ h0 (List.replicate n (V.h false)):=⟨_,rfl⟩;have ar:Fr [] h0 h1:=K▸WA w _;have az:e_ h1 h0.e (List.replicate n (V.h false)):=K▸Xc w _;rw[<-K];simp only[b_,seval];refine aA (fun k env hh=>∃i:Nat,env.c_ 34=some (ZZ i)/\env.c_ 33=some (ZZ n)/\env.c_ 10=some (.y h0.e 0 n n)/\env.c_ 0=some (.u b 0)/\env.c_ 1=some (ZZ a)/\env.c_ 3=some (.h v)/\i<=n/\Fr [] h0 hh/\
  e_ hh h0.e ((List.replicate i v).map V.h++List.replicate (n-i) (V.h false))/\k=n-i) n oM ?_ ?_
 ·exact⟨0,iS,iS,iS,iS,iS,iS,oM,ar,by simpa using az,rfl⟩
 ·rintro k env hh ⟨i,ae,af,ay,g0,g1,g3,hi,F,oo,rfl⟩;by_cases ac:(i:Int)<n
  ·have ix:=dh 1 h0.e 0 n n .i64 i oM ac;simp at ix;simp only[b_,seval,ae,af,ay,g3,ac,ix];refine ai (c':=(List.replicate (i+1) v).map V.h++List.replicate (n-(i+1)) (V.h false)) F.o oo rfl rfl ?_ ?_
   ·show bG _ i [.h v]=_;rw[fF _ _ _ oO,GW _ _ _ oM]
   rintro h2 o2 F2 n2;simp(disch:=omega) only[b_,seval,ag,ae];refine s_ ⟨n-(i+1),oM,i+1,iS,iX,iX,iX,iX,iX,oM,F.z F2 w (VZ _),o2,rfl⟩
   done
  ·have:i=n:=oM
   subst this;simp only[Yf,YE,Xg]at oo;have bm:P9 hh (.y h0.e 0 i i) (List.replicate i v):=by
    have:=Xy (esz:=1) (n:=i) oo iS;show Sl hh 1 _ _ _;simpa using this
   simp only[b_,seval,ae,af,g0,ac];apply aa (Ie F.o (f0.fr F));rintro _ h2 ⟨bl,⟨c,rfl,aH⟩,F2⟩;let⟨v1,s1,b1⟩:=bl.upto iS .i64 a oM oM;let⟨v3,s3,b3⟩:=bl.from' iS .i64 a oM oM;simp only[pi]at b1 b3;have c1:=aF (Q5.U b1);have c3:=aF (Q5.U b3);let⟨h3,an,Z,ak⟩:=aq F2.o [v1,.y h0.e 0 i i,v3];have e3:h_ h2 [v1,.y h0.e 0 i i,v3]=h3:=an.symm;simp only[b_,seval,j_,ay,g0,g1,s1,s3,c1,c3,e3];have ax:=(F.c F2).c Z;refine aa (E8 (Ls:=[(v1,bs.take a),(.y h0.e 0 i i,List.replicate i v),(v3,bs.drop a)]) Z.o (f0.fr ax) (Xy (n:=3) ak rfl) ?_ ?_ iS) ?_
   ·intro p hp;simp at hp;obtain rfl|rfl|rfl:=hp
    ·exact b1.fr Z
    ·exact bm.fr (F2.c Z)
    ·exact b3.fr Z
   ·simp;omega
   rintro _ h4 ⟨rfl,f4,F4⟩;simp only[b_,seval,DF];refine⟨by simpa[WH]using f4,ax.trans F4 w iS (fun x hx=>.inl hx)⟩
theorem Pe(k:IntKind)(x n:Nat)(Z:n<=64):aP (.E true) [ZX (x:Int),.A k (n:Int)]=some (ZX ((x*2^n%18446744073709551616:Nat):Int)):=by rw[IW _ _ _ _ oM];simp only[pi,IntKind.bits,XN Z];rw[dg,<-Int.natCast_mul];simp only[IntKind.wrap,IntKind.bits,IntKind.signed];simp
theorem EO{h:a_}{b:Nat}{n m:Int}(o:e_ h b (P7 n m ws))(Z:ws.length=64)(k:Nat)(K:k<=64):Q5 uw h (.y b 2 k 64) (ws.take k):=by
 have e:(ws.take k).length=k:=by simp;omega
 refine⟨iS,?_⟩;rw[e];exact⟨rfl,K,_,o,by rw[c7,Z];omega,by simp[P7]⟩
theorem Lh{h:a_}{b:Nat}{i:Nat}(f:Fl h b bs)(hi:i<=bs.length):ao go 256 [.u b 0,ZZ (i:Int)] h fun u h'=>u=.D [ZZ ((bs.take i).count true:Nat),ZZ 0]/\h'=h:=by
 have f0:=f;let⟨ws,o,ok,hn⟩:=f;have q1:=(Hk i).resolve_right oM;have q2:=Hc i;have ak:∀n,(bs.take n).count true<=4096:=fun n=>Wy XE oO;have sl:aP (.s (some 64) 1 false true false) [.u b 2,ZZ ((i/64:Nat):Int)]=some (.y b 2 (i/64) 64):=by
  have hb:=bU .i64 ((i/64:Nat):Int) 64 oM oM;simp only[pi]at hb;simp only[aP,uN,aZ,hb,Ws,Zc,fC (oM:(64:Nat)≠0),cond_false,Zq,Yp,YK]
 refine ah ?_;simp[b_];refine aa (qC f0 oM oM) ?_;rintro _ _ ⟨rfl,Z⟩;replace Z:=Z.symm;subst Z;have e:u9 bs.length i 0=0:=by unfold u9;rw[if_neg oM]
 rw[e];have vw:=EO o ok.t_ (i/64) oM;have el:((ws.take (i/64)).length:Int)=((i/64:Nat):Int):=by simp[ok.t_];omega
 simp only[b_,seval,q1,sl];refine aA (fun k env Z=>h=Z/\∃j:Nat,env.c_ 24=some (ZZ j)/\env.c_ 23=some (ZZ ((i/64:Nat):Int))/\env.c_ 22=some (.y b 2 (i/64) 64)/\env.c_ 0=some (.u b 0)/\env.c_ 1=some (ZZ i)/\
  env.c_ 7=some (ZZ ((bs.take (64*j)).count true:Nat))/\j<=i/64/\k=i/64-j) (i/64) oM ?_ ?_
 ·exact⟨rfl,0,iS,iS,iS,iS,iS,iS,oM,rfl⟩
 rintro k env Z ⟨rfl,j,K,ae,ax,g0,g1,g7,hj,rfl⟩;by_cases ac:(j:Int)<((i/64:Nat):Int)
 ·let⟨b',o',x,e1,e2,e3⟩:=vw.ix .i64 j oM oM;simp at e3;rw[XW,if_pos oM]at e3;let⟨y,d1,d2,d3⟩:=ok.w j oM;rw[e3]at d1;cases d1;have an:ab h b' o'=some (ZX (x:Int)):=e2;have hp:=pj (n:=64) oM d3;have hs:(bs.take (64*(j+1))).count true=(bs.take (64*j)).count true+R8 64 x:=by
   rw[hp,<-YS,(oM:64*(j+1)=64*j+64),ZS]
  have c1:=ak (64*(j+1));have ar:=eq_true ac;simp only[b_,seval,K,ae,ax,g7,ar,e1,an];apply aa (yJ d2);rintro _ _ ⟨rfl,Z⟩;replace Z:=Z.symm;subst Z;simp(disch:=omega) only[b_,seval,ag,K];refine s_ ⟨i/64-(j+1),oM,rfl,j+1,iS,iX,iX,iX,iX,iX,oM,rfl⟩
  done
 ·have:j=i/64:=oM
  subst this;obtain⟨x,d1,d2,d3⟩|hq:(∃x,ws[i/64]? =some x/\x<18446744073709551616/\∀j,j<64->x.testBit j=bs.getD (64*(i/64)+j) false)\/i/64=64:=by
   by_cases Z:i/64<64
   ·exact .inl (ok.w _ Z)
   ·right;omega
  ·by_cases hr:(0:Int)<((i%64:Nat):Int)
   ·have q3:=iU 1 b 2 64 .i64 ((i/64:Nat):Int) oM (by have:=(Wk.1 d1).1;rw[ok.t_]at this;omega);simp only[pi,Xv]at q3;have q4:ab h b (2+i/64)=some (ZX (x:Int)):=by rw[o.j,ye,d1];rfl
    have q5:aP (.e .sub) [ZZ 64,ZZ ((i%64:Nat):Int)]=some (ZZ ((64-i%64:Nat):Int)):=by
     rw[yG,ag _ oM oM];congr 2;omega
    have q6:=Pe .i64 x (64-i%64) oM;have hp:=JY (x:=x) (r:=i%64) oM;have hb:=pj (n:=i%64) oM d3;have hs:(bs.take i).count true=(bs.take (64*(i/64))).count true+R8 (i%64) x:=by
     rw[hb,<-YS,<-ZS];congr 2;omega
    have c1:=ak i;simp only[b_,seval,K,ae,g0,g1,g7,ac,q1,q2,hr,q3,q4,q5,q6];apply aa (yJ (XC _ oM));rintro _ _ ⟨rfl,Z⟩;replace Z:=Z.symm;subst Z;rw[hp];simp(disch:=omega) only[b_,seval,ag];rw[hs];simp
   ·have af:i%64=0:=oM
    simp only[b_,seval,K,ae,g1,g7,ac,q2,hr];rw[(oM:64*(i/64)=i)]
  ·have af:¬(0:Int)<((i%64:Nat):Int):=oM
   simp only[b_,seval,K,ae,g1,g7,ac,q2,af];rw[(oM:64*(i/64)=i)]
def R_(h:a_):Prop:=Pl h 0 gq
theorem Nb(n:Nat):bP .u64 (n:Int)=((n%18446744073709551616:Nat):Int):=by rw[dg];simp only[IntKind.wrap,IntKind.bits,IntKind.signed];simp
theorem Pj(x:Nat)(h0:0<x)(Z:x<18446744073709551616):aP .G [ZX (x:Int)]=some (ZX ((18446744073709551616-x:Nat):Int)):=by rw[Ca,dg];simp only[IntKind.wrap,IntKind.bits,IntKind.signed];congr 2;simp;omega
theorem MR(x y:Nat)(b:Int)(Z:b=y):aP (.e .mul) [ZX (x:Int),ZX b]=some (ZX ((x*y%18446744073709551616:Nat):Int)):=by subst Z;rw[Cb,<-Int.natCast_mul,Nb]
theorem Pq(I:Nat)(h:I<64):aP (.l 64 1) [.u 0 0,ZX (I:Int)]=some (.u 0 I):=by have Z:=iU 1 0 0 64 .u64 (I:Int) oM oM;simpa using Z
theorem OW{h:a_}{x t:Nat}(g:R_ h)(lo:Low x t)(hx:x<18446744073709551616)(ht:t<64):ao go 289 [ZX (x:Int)] h fun u h'=>u=ZZ (t:Int)/\h'=h:=by
 have ac:x≠0:=by rintro rfl;simp[Low]at lo
 have Z:=No t ht;obtain⟨M,hM⟩:∃M,M=2^t*285870213051353865%18446744073709551616:=⟨_,rfl⟩;rw[<-hM]at Z;obtain⟨I,hI⟩:∃I,I=M/288230376151711744:=⟨_,rfl⟩;rw[<-hI]at Z;have q0:¬(x:Int)=0:=oM;have q1:=Pj x oM hx;have K:=jv x (18446744073709551616-x) _ _ rfl rfl hx oM;rw[Ki lo hx ht]at K;have q3:=MR (2^t) 285870213051353865 285870213051353865 rfl;rw[<-hM]at q3;have q4:=gX .u64 M 58 58 rfl oM;rw[(iR:(2:Nat)^58=288230376151711744),<-hI]at q4;have q5:=Pq I Z.2;have q6:ab h 0 I=some (ZY (t:Int)):=by rw[e_.j (Pl.I g),eZ,gq,WM,Z.1];rfl
 have q7:aP (.q .i64) [ZY (t:Int)]=some (ZZ (t:Int)):=by rw[sj,ag _ oM oM]
 obtain⟨P,hP⟩:∃P,P=2^t:=⟨_,rfl⟩;rw[<-hP]at K q3;obtain⟨N,hN⟩:∃N,N=18446744073709551616-x:=⟨_,rfl⟩;rw[<-hN]at q1 K;clear Z hM hI hP hN;refine ah ?_;simp only[Cg,Ch,oQ,xf,xe,xi,fT,qM,FB,FA,Ek,mU,mR,CI,sA,fE,qA,qz,nD,iI,wD,Io,cW,fP,cC,bO,iw,fu,Xr,dJ,jS,jL,qD,hJ,wY,yH,seval,WG,decide_false,WE,q0,q1,K,q3,q4,q5,q6,q7];exact⟨trivial,trivial⟩
theorem AP(l:List V)(k:IntKind)(n i:Nat)(Z:i<n):aP (.f n 1 false) [.B l,.A k (i:Int)]=X8 l i:=by
 have:lI (.A k (i:Int)) n=some i:=by show(bif Nat.blt i n then some i else none)=_;rw[(WB ..).mpr Z];rfl
 simp[aP,this]
theorem zA(x n:Nat):R8 (n+1) x=R8 n x+if x.testBit n then 1 else 0:=by unfold R8;rw[YM,YJ];simp
theorem CG{x c t:Nat}(h:c<=t)(Z:∀j,c<=j->j<t->x.testBit j=false):R8 t x=R8 c x:=by
 obtain⟨k,rfl⟩:∃k,t=c+k:=⟨t-c,oM⟩;induction k with
 |zero=>rfl
 |succ k ih=>rw[(oM:c+(k+1)=(c+k)+1),zA,Z (c+k) oM oM,ih oM (fun j a b=>Z j a oM)];simp
theorem Np{x j:Nat}(Z:x<18446744073709551616)(h:x.testBit j=true):j<64:=by obtain y|y:=WY j 64;exact y;have:x<2^j:=Xh Z (show 2^64<=2^j from Nat.pow_le_pow_right oM y);rw[Nat.testBit_lt_two_pow this]at h;cases h
def Sel(bs:List Bool)(k p:Nat):Prop:=p<bs.length/\bs.getD p false=true/\(bs.take p).count true=k
theorem FD{h:a_}{b:Nat}{k:Nat}(g:R_ h)(f:Fl h b bs)(hk:k<bs.count true):ao go 257 [.u b 0,ZZ (k:Int)] h fun u h'=>(∃p,u=.D [ZZ (p:Nat),ZZ 0]/\Sel bs k p)/\h'=h:=by
 let⟨ws,o,ok,hn⟩:=f;have cl:bs.count true<=bs.length:=XE;have q1:ab h b 1=some (ZZ (bs.count true:Int)):=o.j 1;have q2:aj h b 2 64=some (ws.map uw):=by
  rw[o.N,bQ,bN _ _ (by simp[c7,ok.t_])];simp[P7,<-ok.t_];rw[Wj iS]
 refine ah ?_;simp[b_,(oM:¬(k:Int)<0),(oM:¬(bs.count true:Int)<=k),q1,q2];refine aA (fun m env Z=>h=Z/\∃i k':Nat,env.c_ 27=some (ZZ i)/\env.c_ 26=some (.B (ws.map uw))/\env.c_ 1=some (ZZ k')/\i<=64/\(bs.take (64*i)).count true+k'=k/\m=64-i) 64 oM ?_ ?_
 ·exact⟨rfl,0,k,iS,iS,iS,oM,iS,rfl⟩
 rintro m env Z ⟨rfl,i,k',ac,aH,g1,hi,hs,rfl⟩;by_cases ay:(i:Int)<64
 ·let⟨x,d1,d2,d3⟩:=ok.w i oM;have ix:=AP (ws.map uw) .i64 64 i oM;have nx:X8 (ws.map uw) i=some (ZX (x:Int)):=by rw[eZ,WM,d1];rfl
  have hp:=pj (n:=64) oM d3;have aN:(bs.take (64*(i+1))).count true=(bs.take (64*i)).count true+R8 64 x:=by
   rw[hp,<-YS,(oM:64*(i+1)=64*i+64),ZS]
  have c1:(bs.take (64*(i+1))).count true<=4096:=Wy XE oO;simp only[b_,seval,ac,aH,ay,ix,nx];refine aa (yJ d2) ?_;rintro _ _ ⟨rfl,Z⟩;replace Z:=Z.symm;subst Z;by_cases hc:((R8 64 x:Nat):Int)<=k'
  ·simp(disch:=omega) only[b_,seval,ag,ac,g1,hc];refine s_ ⟨64-(i+1),oM,rfl,i+1,k'-R8 64 x,iS,iX,oO,oM,oM,rfl⟩
   done
  ·simp only[b_,seval,g1,hc];refine aA (fun m K Z=>h=Z/\K.c_ 6=some (ZZ i)/\∃(y c r:Nat),K.c_ 7=some (ZX (y:Int))/\K.c_ 1=some (ZZ r)/\y<18446744073709551616/\c<=64/\(∀j,j<64->y.testBit j=(decide (c<=j)&&x.testBit j))/\R8 c x+r=k'/\r=m) k' oM ?_ ?_
   ·exact⟨rfl,iS,x,0,k',iS,iX,d2,oM,iS,by simp[R8],rfl⟩
   rintro m aJ Z ⟨rfl,g6,y,c,r,g7,ae,hy,ax,hb,hr,rfl⟩;have az:y≠0:=by
    rintro rfl;have:R8 64 x=R8 c x:=CG ax (fun j a b=>by have:=hb j b;simp[a]at this;exact this);omega
   let⟨t,lo⟩:=Bw az;have ht:t<64:=Np hy lo.1;have h1:=hb t ht;rw[lo.1]at h1;have af:c<=t:=by
    by_cases cc:c<=t
    ·exact cc
    ·simp[cc]at h1
   have ar:x.testBit t=true:=by simpa[af]using h1.symm
   have an:R8 t x=R8 c x:=CG af (fun j a b=>by have:=hb j oM;rw[lo.2 j b]at this;simpa[a]using this.symm);by_cases ak:(0:Int)<r
   ·have q5:aP (.e .sub) [ZX (y:Int),ZX 1]=some (ZX ((y-1:Nat):Int)):=by
     rw[yG,bS _ oM oM];congr 2;omega
    have q6:=jv y (y-1) _ _ rfl rfl hy oM;simp(disch:=omega) only[b_,seval,ag,g7,ae,ak,q5,q6];refine s_ ⟨r-1,oM,rfl,(eG g6),y&&&(y-1),t+1,r-1,iS,oO,ZK Nat.and_le_left hy,oM,?_,?_,rfl⟩
    ·intro j hj;rw[Es lo,hb j hj];by_cases c1:t+1<=j
     ·have:c<=j:=oM
      simp[c1,this];omega
     ·by_cases c2:j=t
      ·subst c2;simp[c1]
      ·have:j<t:=oM
       have:=hb j hj;rw[lo.2 j oM]at this;simp[c1];intro a b;simp[a,b]at this
    ·rw[zA,an,ar];simp;omega
   ·simp(disch:=omega) only[b_,seval,ag,g6,g7,ae,ak];refine aa (OW g lo hy ht) ?_;rintro _ _ ⟨rfl,Z⟩;replace Z:=Z.symm;subst Z;simp(disch:=omega) only[b_,seval,ag];have e3:=d3 t ht;rw[ar]at e3;refine⟨64*i+t,?_,?_,e3.symm,?_⟩
    ·congr 2;congr 1;omega
    ·obtain z|z:=WY (64*i+t) bs.length
     ·exact z
     ·rw[Xo,Xa z]at e3;simp at e3
    ·rw[ZS,YS,<-pj (n:=t) oM d3,an];omega
 ·exfalso;have:i=64:=oM
  subst this;rw[Wj oM]at hs;omega
def Mk(h:a_)(pm:Option Nat)(bs:List Bool):Prop:=match pm with
 |none=>bs=[]
 |some c=>Fl h c bs
theorem Mk.fr{h:a_}(a:Mk h pm bs)(f:Fr [] h h'):Mk h' pm bs:=by
 cases pm with
 |none=>exact a
 |some c=>exact Fl.fr a f
def Lo(h:a_)(b:Nat)(l:List Int)(ks bs:List Bool):Prop:=∃p vk pm,e_ h b [pv p,vk,pv pm]/\vk.U=true/\Ix h (.B [pv p,vk]) l ks/\Mk h pm bs/\bs.length=l.length
theorem Lo.fr{h:a_}{b:Nat}{l:List Int}(a:Lo h b l ks bs)(f:Fr [] h h'):Lo h' b l ks bs:=by let⟨p,Z,pm,o,v1,ix,mk,e⟩:=a;exact⟨p,Z,pm,f.i o,v1,ix.fr f,mk.fr f,e⟩
theorem R_.fr{h:a_}(a:R_ h)(f:Fr [] h h'):R_ h':=f.pl _ _ iS a
theorem ku{h:a_}{b:Nat}{l:List Int}(w:WF h)(a:Lo h b l ks bs):ao go 70 [.u b 0] h fun u h'=>u=ZZ l.length/\Fr [] h h':=by let⟨p,vk,pm,o,v1,ix,mk,e⟩:=a;refine ah ?_;simp[b_,o.N];refine aa (ko w ix) ?_;rintro _ K ⟨rfl,Z⟩;simp[b_];exact Z
theorem Ix.rp{h:a_}{p:Option Nat}{l:List Int}(a:Ix h (.B [pv p,vk]) l ks):Rp h (.B [pv p]) l:=by let⟨K,Z,L,e,r,_⟩:=a;simp at e;rw[e.1];exact r
theorem qP{h:a_}{b:Nat}{l:List Int}(w:WF h)(a:Lo h b l ks bs):ao go 28 [.u b 0] h fun u h'=>u=ZZ l.sum/\Fr [] h h':=by let⟨p,vk,pm,o,v1,ix,mk,e⟩:=a;have r:=ix.rp;refine ah ?_;simp[b_,o.N];refine aa (lO w r) ?_;rintro _ K ⟨rfl,Z⟩;simp[b_];exact Z
theorem Ju{h:a_}{b:Nat}{l:List Int}{i:Int}(w:WF h)(a:Lo h b l ks bs):
 ao go 65 [.u b 0,ZZ i] h fun u h'=>(u=if 0<=i/\i<l.length then .D [ZZ (l.getD i.toNat 0),ZZ 0]else .D [ZZ 0,ZZ 4])/\Fr [] h h':=by
 let⟨p,vk,pm,o,v1,ix,mk,e⟩:=a;refine ah ?_;simp only[b_,seval,o.N];refine aa (Ja w ix) ?_;rintro _ K ⟨rfl,Z⟩;by_cases c:0<=i/\i<l.length;simp only[if_pos c];simp[b_];exact Z;simp[if_neg c];simp[b_];exact Z
theorem Ioa{h:a_}{b:Nat}{l:List Int}{i:Int}(w:WF h)(a:Lo h b l ks bs):
 ao go 66 [.u b 0,ZZ i] h fun u h'=>(u=if 0<=i/\i<l.length then .D [.h (ks.getD i.toNat false),ZZ 0]else .D [.h false,ZZ 4])/\Fr [] h h':=by
 let⟨p,vk,pm,o,v1,ix,mk,e⟩:=a;refine ah ?_;simp only[b_,seval,o.N];refine aa (xd w ix) ?_;rintro _ K ⟨rfl,Z⟩;by_cases c:0<=i/\i<l.length;simp only[if_pos c];simp[b_];exact Z;simp[if_neg c];simp[b_];exact Z
def T7(view over:Int):Prop:=1<=view/\view<=2147483648/\0<=over/\over<=16
instance(view over:Int):Decidable (T7 view over):=by unfold T7;infer_instance
theorem yO{h:a_}(w:WF h):ao go 82 [.B [ZZ view,ZZ over,.h lo]] h fun u h'=>u=.h (decide (T7 view over))/\Fr [] h h':=by
 let⟨h1,ac,Z,K⟩:=aq w [ZZ view,ZZ over,.h lo];unfold T7;by_cases c1:1<=view;by_cases c2:view<=2147483648;by_cases c3:0<=over;refine ah ?_;simp[b_,<-ac,K.j,c1,c2,c3];first|exact Z|exact⟨iS,Z⟩
 refine ah ?_;simp only[b_,seval,<-ac,K.j,c1,c2,c3];first|exact Z|exact⟨iS,Z⟩
 refine ah ?_;simp only[b_,seval,<-ac,K.j,c1,c2];first|exact Z|exact⟨iS,Z⟩
 refine ah ?_;simp only[b_,seval,<-ac,K.j,c1];first|exact Z|exact⟨iS,Z⟩
theorem En{h:a_}{x t:Int}(Z:0<=t)(K:t<=4611686018427387904)(h3:1<=view)(h4:view<=2147483648):ao go 83 [ZZ x,ZZ t,ZZ view] h fun u h'=>u=.D [ZZ (min (max x 0) (max 0 (t-view))),ZZ 0]/\h'=h:=by refine ah ?_;simp(disch:=omega)[b_,ag,(oM:¬t<0),(oM:¬4611686018427387904<t),(oM:¬view<1),(oM:¬2147483648<view)]
def aX(l:List Int)(view x:Int):Int:=min (max x 0) (max 0 (l.sum-view))
theorem qQ{h:a_}{b:Nat}{l:List Int}{x:Int}(w:WF h)(a:Lo h b l ks bs):
 ao go 34 [.u b 0,.B [ZZ view,ZZ over,.h lo],ZZ x] h fun u h'=>(u=if T7 view over then .D [ZZ (aX l view x),ZZ 0]else .D [ZZ 0,ZZ 1])/\Fr [] h h':=by
 have fit:I_ l:=by let⟨p,vk,pm,o,v1,ix,_⟩:=a;exact ix.fit
 have f1:=fit.nn;have f2:=fit.2.1;let⟨h1,ae,K,Z⟩:=aq w [ZZ view,ZZ over,.h lo];refine ah ?_;simp[b_,<-ae,Z.N];refine aa (yO K.o) ?_;rintro _ h2 ⟨rfl,F2⟩;have ac:=K.c F2;by_cases c:T7 view over;simp[b_,j_,eq_true c];apply aa (qP F2.o (a.fr ac));rintro _ h3 ⟨rfl,F3⟩;have af:=ac.c F3;simp[b_,j_,((F2.c F3).i Z).j];apply aa (En f1 f2 c.1 c.2.1);rintro _ _ ⟨rfl,hh⟩;replace hh:=hh.symm;subst hh;simp only[b_,seval,DF,j_,(F2.i Z).j,((F2.c F3).i Z).j];exact⟨rfl,af⟩;simp[b_,eq_false c];exact ac
theorem bH:∀{l:List Int}{x:Int},0≤x→x<l.sum→(aG l x).1<l.length
 |[],x,h0,h1=>by simp at h1;omega
 |s::l,x,h0,h1=>by simp only[aG];by_cases c:x<s;rw[if_pos c];simp;rw[if_neg c];have:=bH (l:=l) (x:=x-s) oM (by simp at h1;omega);simpa using this
def cR(l:List Int)(view s:Int):Int:=if s+view-1<l.sum then(aG l (s+view-1)).1 else(l.length:Int)-1
def cN(l:List Int)(view over s:Int):Int×Int:=(max 0 (((aG l s).1:Int)-over),min (l.length:Int) (cR l view s+1+over))
def Mj(l:List Int)(view over s:Int):V:=if T7 view over then if aX l view s=s then if l=[]then .D [ZZ 0,ZZ 0,ZZ 0]else .D [ZZ (cN l view over s).1,ZZ (cN l view over s).2,ZZ 0]
 else .D [ZZ 0,ZZ 0,ZZ 4]else .D [ZZ 0,ZZ 0,ZZ 1]
theorem gW{l:List Int}(h:∀x∈l,1<=x)(Z:l≠[]):1<=l.sum:=by
 cases l with
 |nil=>exact absurd rfl Z
 |cons x l=>
  have:=i? (l:=l) fun y hy=>by have:=h y iX;omega
  have:=h x iS;simp;omega
theorem Ck{h:a_}{b:Nat}{l:List Int}{s:Int}(w:WF h)(a:Lo h b l ks bs)(pos:∀x∈l,1<=x)(s0:-9223372036854775808<=s)(s1:s<=9223372036854775807):
 ao go 207 [.u b 0,.B [ZZ view,ZZ over,.h lo],ZZ s] h fun u h'=>u=Mj l view over s/\Fr [] h h':=by
 have al:=a;let⟨p,vk,pm,o,v1,ix,mk,e⟩:=a;have fit:=ix.fit;have f1:=fit.nn;have f2:=fit.2.1;have f3:=fit.2.2;let⟨h1,ay,K,Z⟩:=aq w [ZZ view,ZZ over,.h lo];refine ah ?_;simp[b_,<-ay,Z.N];refine aa (qQ K.o (al.fr K)) ?_;rintro _ h2 ⟨rfl,F2⟩;have ae:=K.c F2;unfold Mj;by_cases c:T7 view over;rw[if_pos c,if_pos c];by_cases c2:aX l view s=s;rw[if_pos c2];have hs:0<=s/\s<=max 0 (l.sum-view):=by unfold aX at c2;omega
 simp[b_,eq_true c2];apply aa (ku F2.o (al.fr ae));rintro _ h3 ⟨rfl,F3⟩;have an:=ae.c F3;by_cases c3:l=[];subst c3;simp[b_];exact an;have hl:¬(l.length:Int)=0:=by have:=XT.2 c3;omega
 have hp:=gW pos c3;have aN:=c;let⟨k1,k2,k3,k4⟩:=c;have ak:s<l.sum:=oM;have aT:=bH hs.1 ak;rw[if_neg c3];simp only[b_,seval,eq_false hl,(((K.c F2).c F3).i o).N];apply aa (yI F3.o (ix.fr an) s0 s1);rintro _ h4 ⟨rfl,F4⟩;rw[if_pos ⟨hs.1,ak⟩];have aJ:=an.c F4;simp[b_];apply aa (ku F4.o (al.fr aJ));rintro _ h5 ⟨rfl,F5⟩;have ax:=aJ.c F5;have aH:=(F2.c F3).c (F4.c F5);simp(disch:=omega)[b_,ag,(aH.i Z).j];apply aa (qP F5.o (al.fr ax));rintro _ h6 ⟨rfl,F6⟩;have ac:=ax.c F6;have af:=aH.c F6;unfold cN cR;by_cases c4:s+view-1<l.sum;have aR:=bH (x:=s+view-1) oM c4;rw[if_pos c4];simp[b_,c4,(ac.i o).N];apply aa (yI F6.o (ix.fr ac) oM oM);rintro _ h7 ⟨rfl,F7⟩;rw[if_pos ⟨oM,c4⟩];have az:=ac.c F7;have ar:=af.c F7;simp(disch:=omega)[b_,j_,ag,(ar.i Z).j];apply aa (ku F7.o (al.fr az));rintro _ h8 ⟨rfl,F8⟩;simp(disch:=omega)[b_,DF,j_,ag,(ar.i Z).j,((ar.c F8).i Z).j];exact az.c F8;rw[if_neg c4];simp(disch:=omega) only[b_,seval,j_,ag,c4,(af.i Z).j];apply aa (ku F6.o (al.fr ac));rintro _ h8 ⟨rfl,F8⟩;simp(disch:=omega)[b_,DF,j_,ag,(af.i Z).j,((af.c F8).i Z).j];exact ac.c F8;rw[if_neg c2];simp[b_,eq_false c2];exact ae;rw[if_neg c,if_neg c];simp[b_];exact ae
def V9(l:List Int)(bs:List Bool)(s r e:Int):Prop:=
 if l=[]/\s=0 then r=0/\e=11 else if 0<=s/\s<l.sum then if(bs.take ((aG l s).1+1)).count true=0 then r=0/\e=11 else e=0/\∃p:Nat,r=p/\Sel bs ((bs.take ((aG l s).1+1)).count true-1) p else r=0/\e=4
theorem Jw{h:a_}{b:Nat}{l:List Int}{s:Int}(w:WF h)(g:R_ h)(a:Lo h b l ks bs)(s0:-9223372036854775808<=s)(s1:s<=9223372036854775807):
 ao go 208 [.u b 0,ZZ s] h fun u h'=>(∃r e,u=.D [ZZ r,ZZ e]/\V9 l bs s r e)/\Fr [] h h':=by
 have al:=a;let⟨p,vk,pm,o,v1,ix,mk,e⟩:=a;have f3:=ix.fit.2.2;refine ah ?_;simp[b_];refine aa (ku w al) ?_;rintro _ h1 ⟨rfl,K⟩;by_cases c0:(l.length:Int)=0;have hl:l=[]:=Wu.1 oM;by_cases c1:s=0;simp only[b_,seval,eq_true c0,eq_true c1];exact⟨⟨0,11,rfl,by unfold V9;rw[if_pos ⟨hl,c1⟩];exact⟨rfl,rfl⟩⟩,K⟩;simp only[b_,seval,eq_true c0,eq_false c1,(K.i o).N];apply aa (yI K.o (ix.fr K) s0 s1);rintro _ h2 ⟨rfl,F2⟩;have:¬(0<=s/\s<l.sum):=by grind
 rw[if_neg this];simp only[b_,seval];exact⟨⟨0,4,rfl,by unfold V9;rw[if_neg (fun hh=>c1 hh.2),if_neg this];exact⟨rfl,rfl⟩⟩,K.c F2⟩;have hl:l≠[]:=by rintro rfl;simp at c0
 simp only[b_,seval,eq_false c0,(K.i o).N];apply aa (yI K.o (ix.fr K) s0 s1);rintro _ h2 ⟨rfl,F2⟩;have Z:=K.c F2;by_cases c1:0<=s/\s<l.sum;have af:=bH c1.1 c1.2;rw[if_pos c1];cases pm with
 |none=>have mk:bs=[]:=mk;subst mk;simp at e;omega
 |some q=>
  have fl:Fl h q bs:=mk;have rk:=Lh (i:=(aG l s).1+1) (fl.fr Z) oM;rw[ZD]at rk;simp(disch:=omega)[b_,ag,(Z.i o).j,aO];apply aa rk;rintro _ _ ⟨rfl,hh⟩;replace hh:=hh.symm;subst hh;obtain⟨n,hn⟩:∃n,n=(bs.take ((aG l s).1+1)).count true:=⟨_,rfl⟩;rw[<-hn];have ae:n<=bs.count true:=by rw[hn];exact List.Sublist.count_le _ (Xp _ _)
  have cl:bs.count true<=bs.length:=XE;by_cases c2:(n:Int)=0;simp only[b_,seval,eq_true c2];exact⟨⟨0,11,rfl,by unfold V9;rw[if_neg iX,if_pos c1,if_pos (by rw[<-hn];omega)];exact⟨rfl,rfl⟩⟩,Z⟩;simp(disch:=omega) only[b_,seval,ag,eq_false c2,(Z.i o).j,aO];have sk:=FD (k:=n-1) (g.fr Z) (fl.fr Z) oM;rw[(oM:((n-1:Nat):Int)=(n:Int)-1)]at sk;apply aa sk;rintro _ _ ⟨⟨p',rfl,ac⟩,hh⟩;replace hh:=hh.symm;subst hh;simp only[b_,seval];refine⟨⟨p',0,rfl,?_⟩,Z⟩;unfold V9;rw[if_neg iX,if_pos c1,if_neg (by rw[<-hn];omega),<-hn];exact⟨rfl,p',rfl,ac⟩
 rw[if_neg c1];simp only[b_,seval];exact⟨⟨0,4,rfl,by unfold V9;rw[if_neg iX,if_neg c1];exact⟨rfl,rfl⟩⟩,Z⟩
theorem V9.a{l:List Int}{s r e:Int}(a:V9 l bs s r e)(h:e=0):0<=s/\s<l.sum/\∃p:Nat,r=p/\p<bs.length:=by unfold V9 at a;split at a;omega;split at a;rename_i c;split at a;omega;let⟨_,p,K,Z⟩:=a;exact⟨c.1,c.2,p,K,Z.1⟩;omega
theorem rZ{h:a_}{b Z len cap bytes:Nat}{c:List V}{x:V}{K:V->a_->Prop}(w:WF h)(o:e_ h b c)(o':e_ h Z [x])(hc:c.length=cap)(hl:len<cap)(h1:x.U=true)
 (k:∀h',e_ h' b (c.set len x)->Fr [b] h h'->h'.e=h.e->K (.y b 0 (len+1) cap) h'):OQ (jQ h 1 bytes (.y b 0 len cap) (.y Z 0 1 1)) K:=by
 have s:Sl h 1 (.y Z 0 1 1) 1 [x]:=Xy o' rfl;unfold jQ;rw[s.srcLen];simp only[];rw[fC oM,cond_false,s.srcCells];simp only[];rw[(Yg ..).mpr (oM:len+1<=cap),cond_true];let⟨h',e1,o1,f1,n1⟩:=ig (o:=0+len*1) (vs:=[x]) w o (by simp[aw,h1]) (fF c (0+len*1) x oM);rw[e1];simp;rw[WG,Xv]at o1;exact(cF _ _ _).2 (k h' o1 f1 n1)
def X6(f:Int)(n:Nat):List Int:=(List.range n).map fun(j:Nat)=>f+(j:Int)
theorem ga(f:Int)(n:Nat):(X6 f n).length=n:=by simp[X6]
theorem tr(f:Int)(n:Nat):X6 f (n+1)=X6 f n++[f+n]:=by simp[X6,YM]
theorem pJ(A:List Int)(x:Int)(m:Nat)(h:0<m):(A.map (V.A .i64)++List.replicate m (ZZ 0)).set A.length (ZZ x)=(A++[x]).map (V.A .i64)++List.replicate (m-1) (ZZ 0):=by
 have Z:(A.map (V.A .i64)).length=A.length:=by simp
 rw[YP,if_neg oM,Z,Yf];obtain⟨k,rfl⟩:∃k,m=k+1:=⟨m-1,oM⟩;rw[XI,Yt];simp
theorem fH:∀(l:List Int){x y:Int},x≤y→(aG l x).1≤(aG l y).1
 |[],_,_,_=>Nat.le_refl _
 |s::l,x,y,h=>by simp only[aG];by_cases c:y<s;grind;rw[if_neg c];by_cases c2:x<s;grind;rw[if_neg c2];have:=fH l (x:=x-s) (y:=y-s) oM;simp;omega
def NW(l:List Int)(bs:List Bool)(view over s:Int)(A:List Int):Prop:=∃hr he,V9 l bs s hr he/\
 A=(if he=0/\hr<(cN l view over s).1 then[hr]else[])++X6 (cN l view over s).1 ((cN l view over s).2-(cN l view over s).1).toNat
theorem Lq{h:a_}{b:Nat}{l:List Int}{s:Int}(w:WF h)(g:R_ h)(a:Lo h b l ks bs)(pos:∀x∈l,1<=x)(s0:-9223372036854775808<=s)(s1:s<=9223372036854775807):
 ao go 148 [.u b 0,.B [ZZ view,ZZ over,.h lo],ZZ s] h fun u h'=>Fr [] h h'/\if T7 view over then if aX l view s=s then if l=[]then u=.D [.r,ZZ 0]else
  ∃A c,u=.D [.y c 0 A.length A.length,ZZ 0]/\e_ h' c (A.map (V.A .i64))/\h.e<=c/\NW l bs view over s A
  else u=.D [.r,ZZ 4]else u=.D [.r,ZZ 1]:=by
 have al:=a;let⟨p,vk,pm,o,v1,ix,mk,e⟩:=a;have lm:=ix.t_.2;let⟨h1,a4,ax,bj⟩:=aq w [ZZ view,ZZ over,.h lo];refine ah ?_;simp[b_,<-a4,bj.N];refine aa (Ck ax.o (al.fr ax) pos s0 s1) ?_;rintro _ h2 ⟨rfl,F2⟩;have ac:=ax.c F2;unfold Mj;by_cases c:T7 view over
 ·rw[if_pos c];by_cases c2:aX l view s=s
  ·rw[if_pos c2];by_cases c3:l=[]
   ·rw[if_pos c3];simp only[b_,seval];rw[if_pos c,if_pos c2,if_pos c3];exact⟨ac,trivial⟩
   ·rw[if_neg c3];have hs:0<=s/\s<=max 0 (l.sum-view):=by unfold aX at c2;omega
    have hp:=gW pos c3;let⟨k1,k2,k3,k4⟩:=c;have az:s<l.sum:=oM
    have bn:=bH hs.1 az;have ll:0<=cR l view s/\cR l view s<l.length:=by
     unfold cR;split
     ·have:=bH (l:=l) (x:=s+view-1) oM (by assumption);omega
     ·omega
    have bm:((aG l s).1:Int)<=cR l view s:=by
     unfold cR;split
     ·have:=fH l (x:=s) (y:=s+view-1) oM;omega
     ·omega
    obtain⟨f,hf⟩:∃f,f=(cN l view over s).1:=⟨_,rfl⟩;obtain⟨t,ht⟩:∃t,t=(cN l view over s).2:=⟨_,rfl⟩;have bf:0<=f/\f<t/\t<=l.length:=by
     have e1:f=max 0 (((aG l s).1:Int)-over):=hf;have e2:t=min (l.length:Int) (cR l view s+1+over):=ht;omega
    rw[<-hf,<-ht];simp[b_,(oM:¬t=0)];apply aa (Jw F2.o (g.fr ac) (al.fr ac) s0 s1);rintro _ h3 ⟨⟨hr,he,rfl,aN⟩,F3⟩;have ae:=ac.c F3;have bk:he=0\/he=11:=by
     have h0:=aN;unfold V9 at h0;rw[if_neg iX,if_pos ⟨hs.1,az⟩]at h0;split at h0<;>omega
    have a1:he=0->0<=hr/\hr<l.length:=fun h0=>by
     obtain⟨_,_,q,rfl,hq⟩:=aN.a h0;omega
    have sG:(he=0/\hr<f)\/(he=0/\¬hr<f)\/he=11:=oM
    obtain⟨ak,a0⟩|⟨ak,a0⟩|ak:=sG
    case' inl=>
     subst ak;have a1:=a1 rfl;simp(disch:=omega)[b_,ag,a0];refine(bV _ _ _ _ _ _ _ _ oM oM oM oM).2 ?_;rw[iC];obtain⟨n,hn⟩:∃n:Nat,n=(t-f+1).toNat:=⟨_,rfl⟩;rw[<-hn,(iR:(0:Int).toNat=0)];obtain⟨h4,af⟩:∃h4,h4=h_ h3 (List.replicate n (ZZ 0)):=⟨_,rfl⟩;have aH:Fr [] h3 h4:=af▸WA F3.o _;have a6:e_ h4 h3.e (List.replicate n (ZZ 0)):=af▸Xc F3.o _;let⟨h5,a7,an,a8⟩:=aq aH.o [ZZ hr];simp[b_,<-af,<-a7];apply rZ an.o (an.i a6) a8 iS oM rfl;intro h6 o6 F6 n6;obtain⟨pre,Z⟩:∃pre:List Int,pre=[hr]:=⟨_,rfl⟩;have a2:e_ h6 h3.e (pre.map (V.A .i64)++List.replicate (n-pre.length) (ZZ 0)):=by
      have:=pJ [] hr n oM;simp only[XQ,XO,XM]at this;rw[Z];show e_ h6 h3.e ([hr].map (V.A .i64)++List.replicate (n-1) (ZZ 0));rw[<-this];exact o6
     have aJ:Fr [] h h6:=(ae.c (aH.c an)).z F6 w ae.e;have aR:pre.length=1:=by rw[Z];rfl
     have a5:pre=if(0:Int)=0/\hr<f then[hr]else[]:=by grind
     have bg:(n:Int)=pre.length+(t-f):=oM
     simp[b_]
    case' inr.inl=>
     subst ak;simp(disch:=omega)[b_,ag,a0];refine(bV _ _ _ _ _ _ _ _ oM oM oM oM).2 ?_;rw[iC];obtain⟨n,hn⟩:∃n:Nat,n=(t-f).toNat:=⟨_,rfl⟩;rw[<-hn,(iR:(0:Int).toNat=0)];obtain⟨h6,K⟩:∃h6,h6=h_ h3 (List.replicate n (ZZ 0)):=⟨_,rfl⟩;have ar:Fr [] h3 h6:=K▸WA F3.o _;have bi:e_ h6 h3.e (List.replicate n (ZZ 0)):=K▸Xc F3.o _;obtain⟨pre,Z⟩:∃pre:List Int,pre=[]:=⟨_,rfl⟩;have a2:e_ h6 h3.e (pre.map (V.A .i64)++List.replicate (n-pre.length) (ZZ 0)):=by grind
     have aJ:Fr [] h h6:=ae.c ar;have aR:pre.length=0:=by rw[Z];rfl
     have a5:pre=if(0:Int)=0/\hr<f then[hr]else[]:=by grind
     have bg:(n:Int)=pre.length+(t-f):=oM
     simp[b_,<-K]
    case' inr.inr=>
     subst ak;simp(disch:=omega)[b_,ag];refine(bV _ _ _ _ _ _ _ _ oM oM oM oM).2 ?_;rw[iC];obtain⟨n,hn⟩:∃n:Nat,n=(t-f).toNat:=⟨_,rfl⟩;rw[<-hn,(iR:(0:Int).toNat=0)];obtain⟨h6,K⟩:∃h6,h6=h_ h3 (List.replicate n (ZZ 0)):=⟨_,rfl⟩;have ar:Fr [] h3 h6:=K▸WA F3.o _;have bi:e_ h6 h3.e (List.replicate n (ZZ 0)):=K▸Xc F3.o _;obtain⟨pre,Z⟩:∃pre:List Int,pre=[]:=⟨_,rfl⟩;have a2:e_ h6 h3.e (pre.map (V.A .i64)++List.replicate (n-pre.length) (ZZ 0)):=by grind
     have aJ:Fr [] h h6:=ae.c ar;have aR:pre.length=0:=by rw[Z];rfl
     have a5:pre=if(11:Int)=0/\hr<f then[hr]else[]:=by grind
     have bg:(n:Int)=pre.length+(t-f):=oM
     simp[b_,<-K]
    all_goals
     clear bk a1 hn Z;refine aA (fun k env hh=>∃j:Nat,Fr [] h hh/\env.c_ 15=some (ZZ (f+j))/\env.c_ 9=some (ZZ t)/\env.c_ 14=some (.y h3.e 0 (pre.length+j) n)/\f+j<=t/\
      e_ hh h3.e ((pre++X6 f j).map (V.A .i64)++List.replicate (n-(pre.length+j)) (ZZ 0))/\k=(t-f).toNat-j) (t-f).toNat oM ?_ ?_
     ·exact⟨0,aJ,iS,iS,(by simp[aR]),oM,by simpa[X6]using a2,rfl⟩
     ·rintro k env hh ⟨j,F,aT,g9,bh,hj,oo,rfl⟩;by_cases a3:f+(j:Int)<t
      ·let⟨h7,a9,ay,ba⟩:=aq F.o [ZZ (f+j)];simp only[b_,seval,aT,g9,bh,a3,<-a9];refine rZ ay.o (ay.i oo) ba (by simp[ga];omega) oM rfl ?_;intro h8 o8 F8 n8;have e8:=pJ (pre++X6 f j) (f+j) (n-(pre.length+j)) oM;rw[show(pre++X6 f j).length=pre.length+j by simp[ga]]at e8;rw[e8,WU,<-tr]at o8;simp(disch:=omega) only[b_,seval,ag,aT];refine s_ ⟨(t-f).toNat-(j+1),oM,j+1,(F.c ay).z F8 w ae.e,oO,iX,oO,oM,by rw[(oM:n-(pre.length+(j+1))=n-(pre.length+j)-1)];exact o8,rfl⟩
       done
      ·simp only[b_,seval,aT,g9,bh,a3];rw[if_pos ⟨k1,k2,k3,k4⟩,if_pos c2,if_neg c3];have ej:j=(t-f).toNat:=oM
       have en:n=pre.length+j:=oM
       rw[(oM:n-(pre.length+j)=0),YE,Xg]at oo;refine⟨F,pre++X6 f j,h3.e,?_,oo,ae.e,hr,_,aN,?_⟩
       ·rw[en];simp[ga]
       ·grind
  ·rw[if_neg c2];simp only[b_,seval];rw[if_pos c,if_neg c2];exact⟨ac,trivial⟩
 ·rw[if_neg c];simp only[b_,seval];rw[if_neg c];exact⟨ac,trivial⟩
structure Z3(b:Nat)(h h':a_):Prop where
 d:h.e<=h'.e
 f:WF h'
 a:∀x c,x≠b->(∀n m ws,ws.length=64->c≠P7 n m ws)->e_ h x c->e_ h' x c
 l:∀x c,x≠b->(∀n m ws,ws.length=64->c≠P7 n m ws)->Pl h x c->Pl h' x c
 i:∀x c,Rs h x c->Rs h' x c
theorem frF{h:a_}{b:Nat}(f:Fr [] h h'):Z3 b h h':=⟨f.e,f.o,fun _ _ _ _ o=>f.i o,fun _ _ _ _ o=>f.pl _ _ iS o,f.ro⟩
theorem Oy{h:a_}{b:Nat}(f:Fr [b] h h'):Z3 b h h':=⟨f.e,f.o,fun _ _ hx _ o=>f.I _ _ (eV hx) o,fun _ _ hx _ o=>f.pl _ _ (eV hx) o,f.ro⟩
theorem Z3.b{b:Nat}{h h1 h2:a_}(a:Z3 b h h1)(c:Z3 b h1 h2):Z3 b h h2:=
 ⟨Wy a.d c.d,c.f,fun x d hx hd o=>c.a x d hx hd (a.a x d hx hd o),fun x d hx hd o=>c.l x d hx hd (a.l x d hx hd o),fun x d r=>c.i x d (a.i x d r)⟩
theorem Lp{h:a_}(w:WF h):ao go 50 [] h fun u h'=>∃b,u=.u b 0/\h.e<=b/\Lo h' b [] [] []/\e_ h' b [.O,.r,.O]/\Fr [] h h':=by refine ah ?_;simp only[b_,seval];refine⟨_,rfl,VZ _,⟨none,.r,none,Xc w _,rfl,⟨none,.r,[],rfl,⟨.w_,none,rfl,rfl,rfl,iS,iS,iS⟩,.inl ⟨rfl,rfl⟩,⟨trivial,iS,fun i=>by simp[P4]⟩,rfl,iS⟩,rfl,rfl⟩,Xc w _,WA w _⟩
theorem Ix.frb{h:a_}{v:V}{l:List Int}{b:Nat}{c:List V}(a:Ix h v l ks)(f:Fr [b] h h')(o:e_ h b c)(K:c.length≠6)(hc:∀L:List (Int×Int),0<L.length->c≠L.flatMap sp):Ix h' v l ks:=by let⟨p,Z,L,e,r,s,x⟩:=a;exact⟨p,Z,L,e,r.frb f o K,s.frb f o hc,x⟩
theorem Ix.frf{h:a_}{v:V}{l:List Int}{b:Nat}(a:Ix h v l ks)(f:Fr [b] h h')(fl:Fl h b bs):Ix h' v l ks:=by
 let⟨K,o,ok,_⟩:=fl;refine a.frb f o (by rw[c7,ok.t_];omega) fun L p e=>?_;have hm:∀x∈P7 (bs.length:Int) (bs.count true:Int) K,∃n,x=ZZ n:=by rw[e];intro x Z;simp only[List.mem_flatMap,sp]at Z;let⟨s,_,Z⟩:=Z;simp at Z;obtain rfl|rfl:=Z<;>exact⟨_,rfl⟩
 cases K with
 |nil=>have:=ok.t_;simp at this
 |cons y K=>let⟨n,hn⟩:=hm (uw y) (by simp[P7]);simp[uw]at hn
theorem CJ{p:Option Nat}(Z:∀k n,vk≠.A k n):∀x∈[pv p,vk,pv pm],∀k n,x≠.A k n:=by
 intro x K k n;simp at K;obtain rfl|rfl|rfl:=K;cases p<;>simp[pv]
 exact Z k n;cases pm<;>simp[pv]
theorem Ix.noint{h:a_}{p:Option Nat}{l:List Int}(a:Ix h (.B [pv p,vk]) l ks):∀k n,vk≠.A k n:=by let⟨K,Z,L,e,r,s,_⟩:=a;simp at e;obtain⟨_,rfl⟩:=e;exact s.noint
theorem Ix.form{h:a_}{c d:V}{l:List Int}(a:Ix h (.B [c,d]) l ks):∃p,c=pv p:=by let⟨K,Z,L,e,_⟩:=a;simp at e;exact⟨K,e.1⟩
theorem Mk.frb{h:a_}{b:Nat}{c:List V}(a:Mk h pm bs)(f:Fr [b] h h')(o:e_ h b c)(h3:c.length=3):Mk h' pm bs:=by
 cases pm with
 |none=>exact a
 |some q=>let⟨K,Z,ok,hn⟩:=a;refine⟨K,f.I _ _ ?_ Z,ok,hn⟩;simp;rintro rfl;have:=Z.uniq o;subst this;rw[c7,ok.t_]at h3;omega
theorem P9.frl{h:a_}{v:V}{b:Nat}{c c':List V}(a:P9 h v bs)(f:Fr [b] h h')(o:e_ h b c)(o':e_ h' b c')(hc:∀x,V.h x∉c)(K:c'.length=c.length):P9 h' v bs:=by
 refine Sl.frb a f o o' K fun Z=>?_;cases bs with
 |nil=>simp at Z
 |cons x bs=>exact⟨.h x,iS,hc x⟩
theorem nobool{p:Option Nat}(h:∀x,vk≠V.h x):∀x,V.h x∉[pv p,vk,pv pm]:=by
 intro x Z;simp at Z;obtain e|e|e:=Z;cases p<;>simp[pv]at e
 exact h x e.symm;cases pm<;>simp[pv]at e
theorem X2.nobool{h:a_}{v:V}{L:List (Int×Int)}(a:X2 h v L):∀x,v≠V.h x:=by obtain⟨rfl,_⟩|⟨b,rfl,_⟩:=a<;>simp
theorem Ix.nobool{h:a_}{p:Option Nat}{l:List Int}(a:Ix h (.B [pv p,vk]) l ks):∀x,vk≠V.h x:=by let⟨K,Z,L,e,r,s,_⟩:=a;simp at e;obtain⟨_,rfl⟩:=e;exact s.nobool
theorem Kw{st:List Bool}{i j:Nat}(hi:i<=bs.length)(x:Bool)(K:st[j]? =some x):
 (bs.take i++(st.take j++List.replicate (st.length-j) false)++bs.drop i).set (i+j) x=bs.take i++(st.take (j+1)++List.replicate (st.length-(j+1)) false)++bs.drop i:=by
 have hj:j<st.length:=by grind
 have Z:(bs.take i).length=i:=by simp;omega
 rw[WU,YP,if_neg oM,Z,Zh,YP,if_pos oO,CB st j x K,WU,WU,WU]
theorem EE{st:List Bool}{i j:Nat}(Z:st[j]? =some false):bs.take i++(st.take j++List.replicate (st.length-j) false)++bs.drop i=bs.take i++(st.take (j+1)++List.replicate (st.length-(j+1)) false)++bs.drop i:=by
 have K:j<st.length:=by grind
 rw[Wn,Z,(oM:st.length-j=(st.length-(j+1))+1),XI];simp
end Go.Ev.Lay
namespace Go.Ev.St
abbrev bF:=Nat×Nat×Nat
def U8(a n j:Nat):Nat:=(a+j)%n
theorem Bn{a n j:Nat}(h:0<n):U8 a n j<n:=XC _ h
theorem Ho(a n j:Nat):(U8 a n j+1)%n=U8 a n (j+1):=by unfold U8;rw[Nat.mod_add_mod,XA]
theorem Hn(a n:Nat):U8 a n 0=a%n:=by simp[U8]
theorem Hq{a n i:Nat}(h:i<n):∃j,j<n/\U8 a n j=i:=by refine⟨(i+(n-a%n))%n,XC _ (by omega),?_⟩;unfold U8;have Z:a%n<n:=XC _ (by omega);rw[Nat.add_mod_mod,<-Nat.mod_add_mod,show a%n+(i+(n-a%n))=i+n by omega,Nat.add_mod_right,XP h]
structure Y2(mx:Nat->Nat)(sl:List bF):Prop where
 l:∀s∈sl,s.1=0\/s.1=1\/s.1=2
 a:∀i j k v w:Nat,sl[i]? =some (1,k,v)->sl[j]? =some (1,k,w)->i=j
 b:∀i k v:Nat,sl[i]? =some (1,k,v)->∃j,j<sl.length/\U8 (mx k) sl.length j=i/\∀j',j'<j->∀s,sl[U8 (mx k) sl.length j']? =some s->s.1≠0
 c:∃(i:Nat)(s:bF),sl[i]? =some s/\s.1=0
structure j?(mx:Nat->Nat)(sl:List bF)(k at':Nat)(found:Bool):Prop where
 a:at'<sl.length
 b:found=true->∃v,sl[at']? =some (1,k,v)
 c:found=false->(∀i v:Nat,sl[i]? ≠some (1,k,v))/\(∃s:bF,sl[at']? =some s/\s.1≠1)/\∃j,j<sl.length/\U8 (mx k) sl.length j=at'/\∀j',j'<j->∀s,sl[U8 (mx k) sl.length j']? =some s->s.1≠0
structure X7(mx:Nat->Nat)(sl:List bF)(k j:Nat)(g:Option Nat):Prop where
 i:j<sl.length
 b:∀j',j'<j->∀s,sl[U8 (mx k) sl.length j']? =some s->s.1≠0/\¬(s.1=1/\s.2.1=k)
 c:∀x,g=some x->x<sl.length/\∃j0,j0<j/\U8 (mx k) sl.length j0=x/\∃s,sl[x]? =some s/\s.1=2
variable {mx : Nat -> Nat} {sl : List bF} {k j : Nat} {g : Option Nat}
theorem Y2.f(o:Y2 mx sl):0<sl.length:=by let⟨i,s,h,_⟩:=o.c;have:=(Wk.1 h).1;omega
theorem X7.f(o:Y2 mx sl)(k:Nat):X7 mx sl k 0 none:=⟨o.f,fun _ h=>by omega,fun _ h=>by cases h⟩
theorem X7.d(q:X7 mx sl k j g){v:Nat}(h:sl[U8 (mx k) sl.length j]? =some (1,k,v)):j? mx sl k (U8 (mx k) sl.length j) true:=
 ⟨Bn (by have:=q.i;omega),fun _=>⟨v,h⟩,fun e=>by cases e⟩
theorem X7.a(o:Y2 mx sl)(q:X7 mx sl k j g){s:bF}(h:sl[U8 (mx k) sl.length j]? =some s)(h0:s.1=0)(i v:Nat):sl[i]? ≠some (1,k,v):=by intro Z;let⟨K,l1,e1,p1⟩:=o.b i k v Z;obtain c|c|c:=ZP K j;have:=(q.b K c (1,k,v) (by rw[e1];exact Z)).2;exact this ⟨rfl,rfl⟩;grind;exact p1 j c s h h0
theorem X7.l(o:Y2 mx sl)(q:X7 mx sl k j g){s:bF}(h:sl[U8 (mx k) sl.length j]? =some s)(h0:s.1=0):j? mx sl k (g.getD (U8 (mx k) sl.length j)) false:=by
 cases g with
 |none=>exact⟨Bn o.f,fun e=>(by cases e),fun _=>⟨q.a o h h0,⟨s,h,by omega⟩,j,q.i,rfl,fun j' hj s hs=>(q.b j' hj s hs).1⟩⟩
 |some x=>let⟨l1,j0,l2,e,Z,K,h2⟩:=q.c x rfl;have:=q.i;exact⟨l1,fun e=>(by cases e),fun _=>⟨q.a o h h0,⟨Z,K,by omega⟩,j0,by omega,e,fun j' hj s hs=>(q.b j' (by omega) s hs).1⟩⟩
theorem X7.m(o:Y2 mx sl)(q:X7 mx sl k j g){s:bF}(h:sl[U8 (mx k) sl.length j]? =some s)(h0:s.1≠0)(h1:¬(s.1=1/\s.2.1=k)):
 X7 mx sl k (j+1) (if s.1=2/\g=none then some (U8 (mx k) sl.length j)else g):=by
 have jl:=q.i;have seen:∀Z,Z<j+1->∀s,sl[U8 (mx k) sl.length Z]? =some s->s.1≠0/\¬(s.1=1/\s.2.1=k):=by intro Z hj K hs;by_cases c:Z=j;grind;exact q.b Z (by omega) K hs
 refine⟨?_,seen,?_⟩;obtain c|c:=WY (j+1) sl.length;exact c;exfalso;let⟨i,K,hi,h'⟩:=o.c;let⟨Z,l',e⟩:=Hq (a:=mx k) (Wk.1 hi).1;exact(seen Z (by omega) K (by rw[e];exact hi)).1 h';intro x hx;by_cases c:s.1=2/\g=none;grind;rw[if_neg c]at hx;let⟨l1,j0,l2,e⟩:=q.c x hx;exact⟨l1,j0,by omega,e⟩
theorem gU(sl:List bF)(a i:Nat)(x s:bF)(h:(sl.set a x)[i]? =some s):(i=a/\s=x/\a<sl.length)\/(i≠a/\sl[i]? =some s):=by grind
theorem jZ{sl:List bF}{a:Nat}(x:bF)(h:a<sl.length):(sl.set a x)[a]? =some x:=List.getElem?_set_self h
theorem Y2.i(o:Y2 mx sl){a:Nat}(q:j? mx sl k a false)(v:Nat)(hr:∃(i:Nat)(s:bF),i≠a/\sl[i]? =some s/\s.1=0):Y2 mx (sl.set a (1,k,v)):=by
 let⟨no,⟨s0,ae,h0⟩,j,jl,je,jp⟩:=q.c rfl;refine⟨?_,?_,?_,?_⟩;intro s K;obtain h|rfl:=WQ K;exact o.l s h;omega;intro i i' k' v' w' Z ac;obtain⟨e1,e,_⟩|⟨c,h1⟩:=gU _ _ _ _ _ Z<;>obtain⟨e2,e',_⟩|⟨c',h2⟩:=gU _ _ _ _ _ ac
 rw[e1,e2];grind;grind;exact o.a _ _ _ _ _ h1 h2;intro i k' v' Z;rw[WV];obtain⟨rfl,e,_⟩|⟨c,Z⟩:=gU _ _ _ _ _ Z;grind;let⟨j1,l1,e1,p1⟩:=o.b i k' v' Z;refine⟨j1,l1,e1,fun j' hj s K=>?_⟩;obtain⟨_,rfl,_⟩|⟨_,K⟩:=gU _ _ _ _ _ K;simp;exact p1 j' hj s K;let⟨i,s,c,Z,K⟩:=hr;exact⟨i,s,by rw[XY (XK c)];exact Z,K⟩
theorem Y2.d(o:Y2 mx sl){a w:Nat}(h:sl[a]? =some (1,k,w))(v:Nat):Y2 mx (sl.set a (1,k,v)):=by
 have key:∀i k' v':Nat,(sl.set a (1,k,v))[i]? =some (1,k',v')->∃w',sl[i]? =some (1,k',w'):=by grind
 have nz:∀(i:Nat)(s:bF),(sl.set a (1,k,v))[i]? =some s->(∀s',sl[i]? =some s'->s'.1≠0)->s.1≠0:=by grind
 refine⟨?_,?_,?_,?_⟩;intro s Z;obtain h|rfl:=WQ Z;exact o.l s h;omega;intro i i' k' v' w' K ac;let⟨_,h1⟩:=key _ _ _ K;let⟨_,h2⟩:=key _ _ _ ac;exact o.a _ _ _ _ _ h1 h2;intro i k' v' K;rw[WV];let⟨_,h1⟩:=key _ _ _ K;let⟨j1,l1,e1,p1⟩:=o.b _ _ _ h1;exact⟨j1,l1,e1,fun j' hj s Z=>nz _ _ Z (p1 j' hj)⟩;let⟨i,s,K,Z⟩:=o.c;refine⟨i,s,?_,Z⟩;rw[XY];exact K;grind
theorem Y2.n(o:Y2 mx sl){a w:Nat}(h:sl[a]? =some (1,k,w))(x y:Nat):Y2 mx (sl.set a (2,x,y)):=by
 have key:∀i k' v':Nat,(sl.set a (2,x,y))[i]? =some (1,k',v')->sl[i]? =some (1,k',v'):=by grind
 refine⟨?_,?_,?_,?_⟩;intro s Z;obtain h|rfl:=WQ Z;exact o.l s h;omega;intro i i' k' v' w' K ac;exact o.a _ _ _ _ _ (key _ _ _ K) (key _ _ _ ac);intro i k' v' K;rw[WV];let⟨j1,l1,e1,p1⟩:=o.b _ _ _ (key _ _ _ K);refine⟨j1,l1,e1,fun j' hj s Z=>?_⟩;obtain⟨_,rfl,_⟩|⟨_,Z⟩:=gU _ _ _ _ _ Z;simp;exact p1 j' hj s Z;let⟨i,s,K,Z⟩:=o.c;refine⟨i,s,?_,Z⟩;rw[XY];exact K;grind
theorem Y2.m(mx:Nat->Nat)(n:Nat)(h:0<n):Y2 mx (List.replicate n (0,0,0)):=by have e:∀(i:Nat)(s:bF),(List.replicate n ((0,0,0):bF))[i]? =some s->s=(0,0,0):=fun i s Z=>Zf (Wc Z);refine⟨fun s Z=>.inl (by rw[Zf Z]),fun i j k v w hi=>?_,fun i k v hi=>?_,⟨0,(0,0,0),by rw[Yd,if_pos h],rfl⟩⟩;grind;grind
def T8(c:Nat)(sl:List bF):Nat:=sl.countP fun s=>s.1==c
theorem ka{a c:Nat}{s x:bF}(h:sl[a]? =some s):T8 c (sl.set a x)+(if s.1=c then 1 else 0)=T8 c sl+(if x.1=c then 1 else 0):=by
 unfold T8;induction sl generalizing a with
 |nil=>simp at h
 |cons y l ih=>
  cases a with
  |zero=>simp at h;subst h;simp[List.countP_cons];split<;>split<;>omega
  |succ a=>simp[List.countP_cons];have:=ih (a:=a) (by simpa using h);omega
theorem AA{n:Nat}(h:0<T8 0 sl):∃(i:Nat)(s:bF),sl[i]? =some s/\s.1=0:=by unfold T8 at h;rw[ZE]at h;let⟨s,Z,e⟩:=h;let⟨i,K,e2⟩:=List.mem_iff_getElem.1 Z;exact⟨i,s,by rw[Wk];exact⟨K,e2⟩,by simpa using e⟩
theorem C9(h:∀s∈sl,s.1=0\/s.1=1\/s.1=2):T8 0 sl+T8 1 sl+T8 2 sl=sl.length:=by
 unfold T8;induction sl with
 |nil=>rfl
 |cons y l ih=>have:=ih fun s hs=>h s (YY _ hs);simp[Zd];obtain e|e|e:=h y (List.mem_cons_self ..)<;>simp only[e]<;>simp<;>omega
end Go.Ev.St
namespace Go.Ev.Lay
variable{h':a_}{env:T V}{key:Nat}
open Go.Ev.St
theorem My(x n m:Nat)(b:Int)(hb:b=n)(K:n<=64)(Z:m=2^n):aP (.E false) [ZX (x:Int),ZX b]=some (ZX ((x/m:Nat):Int)):=by subst hb;rw[B9 _ _ _ _ oM];simp only[pi,IntKind.bits,XN K];rw[<-Z];congr 2;exact Int.fdiv_eq_ediv_of_nonneg _ (ZJ _)
def N4(x:Nat):Nat:=x^^^(x/2147483648)
def Kc(x:Nat):Nat:=(x^^^(x/134217728)) *10723151780598845931%18446744073709551616
def Ke(x:Nat):Nat:=(x^^^(x/1073741824)) *13787848793156543929%18446744073709551616
def mix(x:Nat):Nat:=N4 (Kc (Ke x))
theorem MT{h:a_}{x:Nat}(hx:x<18446744073709551616):ao go 146 [ZX (x:Int)] h fun u h'=>u=ZX (mix x:Nat)/\h'=h:=by have s1:=My x 30 1073741824 30 rfl oM dI;have x1:=r9 x (x/1073741824) _ _ rfl rfl hx oM;have m1:=MR (x^^^x/1073741824) 13787848793156543929 13787848793156543929 rfl;have K:Ke x<18446744073709551616:=XC _ oM;change _=some (ZX ((Ke x:Nat):Int))at m1;unfold mix;generalize Ke x=y at K m1;have s2:=My y 27 134217728 27 rfl oM dI;have x2:=r9 y (y/134217728) _ _ rfl rfl K oM;have m2:=MR (y^^^y/134217728) 10723151780598845931 10723151780598845931 rfl;have Z:Kc y<18446744073709551616:=XC _ oM;change _=some (ZX ((Kc y:Nat):Int))at m2;generalize Kc y=z at Z m2;have s3:=My z 31 2147483648 31 rfl oM dI;have x3:=r9 z (z/2147483648) _ _ rfl rfl Z oM;change _=some (ZX ((N4 z:Nat):Int))at x3;refine ah ?_;simp only[b_,seval,s1,x1,m1,s2,x2,m2,s3,x3]
def sc(s:bF):List V:=[ZY (s.1:Int),ZX (s.2.1:Int),ZZ (s.2.2:Int)]
theorem tc(s:bF):(sc s).length=3:=rfl
def Tb(h:a_)(v:V)(S:Nat)(sl:List bF):Prop:=(v=.y S 0 sl.length sl.length\/v=.G S 0 sl.length 3)/\e_ h S (sl.flatMap sc)
theorem qY(sl:List bF):(sl.flatMap sc).length=sl.length*3:=aC tc sl
theorem Tb.recs{h:a_}{v:V}{S:Nat}{sl:List bF}(t:Tb h v S sl):q_ sc 3 h v sl:=by obtain⟨rfl|rfl,o⟩:=t;exact⟨qY sl,rfl,VZ _,_,o,by rw[qY];omega,by rw[YG,Wj (by rw[qY];omega)]⟩;exact⟨qY sl,rfl,rfl,_,o,by rw[qY];omega,by rw[YG,Wj (by rw[qY];omega)]⟩
theorem Tb.ix{h:a_}{v:V}{S:Nat}{sl:List bF}(t:Tb h v S sl)(i:Nat)(Z:i<sl.length):aP (.c 3) [v,ZZ (i:Int)]=some (.u S (i*3)):=by obtain⟨rfl|rfl,o⟩:=t;have:=dh 3 S 0 sl.length sl.length .i64 (i:Int) oM oM;simpa using this;have:=lK 3 S 0 sl.length 3 .i64 (i:Int) oM oM;simpa using this
theorem Tb.fr{h:a_}{v:V}{S:Nat}{sl:List bF}(t:Tb h v S sl)(f:Fr [] h h'):Tb h' v S sl:=⟨t.1,f.i t.2⟩
def gi:Option Nat->Int
 |none=>-1
 |some x=>x
theorem GZ(p n:Nat)(h:n≠0):aP (.e .rem) [ZZ ((p:Int)+1),ZZ (n:Int)]=some (ZZ (((p+1)%n:Nat):Int)):=by rw[jD _ _ _ oM];congr 2
theorem tN{mx:Nat->Nat}{h:a_}{b S j:Nat}{v M U:V}{sl:List bF}{g:Option Nat}{Q:Ex->T V->a_->Prop}(w:WF h)(ob:e_ h b [v,M,U])(tb:Tb h v S sl)(op:Y2 mx sl)(q:X7 mx sl key j g)(hn:sl.length<1000000)
 (g0:env.c_ 0=some (.u b 0)) (g1:env.c_ 1=some (ZX (key:Int))) (g4:env.c_ 4=some (ZZ (U8 (mx key) sl.length j:Nat))) (g5:env.c_ 5=some (.h false)) (g6:env.c_ 6=some (ZZ (gi g)))
 (Ky:∀env' h' at' found,env'.c_ 4=some (ZZ ((at':Nat):Int))->env'.c_ 5=some (.h found)->j? mx sl key at' found->Fr [] h h'->Q .d env' h')
 (Kg:∀env' h' g',X7 mx sl key (j+1) g'->env'.c_ 0=some (.u b 0)->env'.c_ 1=some (ZX (key:Int))->env'.c_ 4=some (ZZ (U8 (mx key) sl.length (j+1):Nat))->env'.c_ 5=some (.h false)->env'.c_ 6=some (ZZ (gi g'))->Fr [] h h'->Q (.b 0) env' h'):
 W go xQ env h Q:=by
 have jl:=q.i;have hp:U8 (mx key) sl.length j<sl.length:=Bn oM;have hx:=tb.ix _ hp;let⟨b1,o1,x,e1,_,e3,e4⟩:=YX tc tb.recs .i64 (U8 (mx key) sl.length j:Nat) oM oM;rw[hx]at e1;obtain⟨rfl,rfl⟩:S=b1/\U8 (mx key) sl.length j*3=o1:=by simpa using e1
 simp only[pi]at e4;have l0:ab h b 0=some v:=ob.j 0;let⟨s,ky,vl⟩:=x;have Z:=op.l _ (Wc e4);simp[b_,xQ,g0,g4,l0,hx,e3];apply B_ (w.a _) (Xc w _);rintro h1 o1 F1 n1;have F:Fr [] h h1:=(WA w _).trans F1 w (fun _ hx=>by simp at hx) (fun x hx=>.inr (by simp at hx;omega));have K:ab h1 h.e 0=some (ZY (s:Int)):=o1.j 0;have q1:ab h1 h.e 1=some (ZX (ky:Int)):=o1.j 1;have l1:ab h1 b 0=some v:=(F.i ob).j 0;have len:=(tb.fr F).recs.t_;have rm:=GZ (U8 (mx key) sl.length j) sl.length oM;rw[Ho]at rm;have ac:(hz:s≠0)->(hk:¬(s=1/\ky=key))->∀env':T V,env'.c_ 0=some (.u b 0)->env'.c_ 1=some (ZX (key:Int))->env'.c_ 4=some (ZZ (U8 (mx key) sl.length (j+1):Nat))->env'.c_ 5=some (.h false)->
  env'.c_ 6=some (ZZ (gi (if s=2/\g=none then some (U8 (mx key) sl.length j)else g)))->Q (.b 0) env' h1:=fun hz hk env' a b c d e=>
  Kg env' h1 _ (q.m op e4 hz hk) a b c d e F
 obtain Z|Z|Z:=Z;have Z:s=0:=Z;subst Z;replace K:ab h1 h.e 0=some (ZY 0):=K;have fr:=q.l op e4 rfl;cases g with
 |none=>simp[b_,K,g4,g6,gi];refine Ky _ _ _ _ ?_ ?_ fr F<;>simp
 |some x=>simp[b_,K,g6,gi];refine Ky _ _ _ _ ?_ ?_ fr F<;>simp
 have Z:s=1:=Z;subst Z;replace K:ab h1 h.e 0=some (ZY 1):=K;by_cases hk:ky=key;subst hk;have fo:=q.d e4;simp[b_,K,q1,g1,g4];refine Ky _ _ _ _ ?_ ?_ fo F<;>simp
 have ae:¬(ky:Int)=(key:Int):=oM;have G:=ac oM (fun x=>hk x.2);rw[if_neg iS]at G;simp(disch:=omega)[b_,ag,K,q1,g0,g1,g4,eq_false ae,l1,len,rm];refine G _ ?_ ?_ ?_ ?_ ?_<;>simp[g0,g1,g5,g6,gi]
 have Z:s=2:=Z;subst Z;replace K:ab h1 h.e 0=some (ZY 2):=K;have G:=ac oM oM;cases g with
 |none=>rw[if_pos ⟨rfl,rfl⟩]at G;simp(disch:=omega)[b_,ag,K,g0,g4,g6,gi,l1,len,rm];refine G _ ?_ ?_ ?_ ?_ ?_<;>simp[g0,g1,g5,gi]
 |some x=>rw[if_neg iS]at G;simp(disch:=omega)[b_,ag,K,g0,g4,g6,gi,eq_false (oM:¬(x:Int)<0),l1,len,rm];refine G _ ?_ ?_ ?_ ?_ ?_<;>simp[g0,g1,g5,g6,gi]
theorem JS(a n:Nat)(b:Int)(Z:b=n)(h:n≠0):aP (.e .rem) [ZX (a:Int),ZX b]=some (ZX ((a%n:Nat):Int)):=by subst Z;rw[jD _ _ _ oM];congr 2
theorem mD{h:a_}{b S:Nat}{v M U:V}{sl:List bF}(w:WF h)(ob:e_ h b [v,M,U])(tb:Tb h v S sl)(op:Y2 mix sl)(hn:sl.length<1000000)(hk:key<18446744073709551616):
 ao go 86 [.u b 0,ZX (key:Int)] h fun u h'=>∃at' found,u=.D [ZZ ((at':Nat):Int),.h found]/\j? mix sl key at' found/\Fr [] h h':=by
 have l0:ab h b 0=some v:=ob.j 0;have len:=tb.recs.t_;have pos:=op.f;have ac:=MT (h:=h) hk;generalize mix=mx at op ac;have rm:=JS (mx key) sl.length (sl.length:Nat) rfl oM;have rl:mx key%sl.length<sl.length:=XC _ pos;refine ah ?_;simp only[b_];refine sw (fun k env K=>Fr [] h K/\∃j g,X7 mx sl key j g/\env.c_ 0=some (.u b 0)/\env.c_ 1=some (ZX (key:Int))/\env.c_ 4=some (ZZ (U8 (mx key) sl.length j:Nat))/\env.c_ 5=some (.h false)/\
  env.c_ 6=some (ZZ (gi g))/\k=sl.length-j) (sl.length-1) oM ?_ ?_
 simp only[b_,seval,j_];refine aa ac ?_;rintro _ _ ⟨rfl,K⟩;replace K:=K.symm;subst K;have ae:bP .u64 (sl.length:Int)=(sl.length:Int):=bS _ oM oM;simp(disch:=omega) only[b_,seval,DF,j_,ag,l0,len,ae,rm];refine tN w ob tb op (X7.f op key) hn ?_ ?_ ?_ ?_ ?_ ?_ ?_;simp;simp;rw[Hn];simp;simp;simp[gi];intro Z h' at' found e4 e5 L F;show i9 _ _ _ _ _;simp only[b_,e4,e5];exact⟨_,_,rfl,L,F⟩;grind;rintro k env K ⟨F,j,g,q,g0,g1,g4,g5,g6,rfl⟩;have jl:=q.i;refine tN F.o (F.i ob) (tb.fr F) op q hn g0 g1 g4 g5 g6 ?_ ?_;intro Z h' at' found e4 e5 L F';show i9 _ _ _ _ _;simp only[b_,e4,e5];exact⟨_,_,rfl,L,F.c F'⟩;intro Z h' g' q1 a0 a1 a4 a5 a6 F';exact⟨rfl,sl.length-(j+1),oM,F.c F',j+1,g',q1,a0,a1,a4,a5,a6,rfl⟩
structure o?(h:a_)(b S:Nat)(v:V)(sl:List bF)(m:Nat->Option Nat)(c t:Nat):Prop where
 ob:e_ h b [v,ZZ (c:Int),ZZ (t:Int)]
 tb:Tb h v S sl
 op:Y2 mix sl
 n8:8<=sl.length
 nb:sl.length<=20000
 c1:T8 1 sl=c
 c2:T8 2 sl=t
 mp:∀k x:Nat,m k=some x↔∃i:Nat,sl[i]? =some (1,k,x)
 kb:∀s∈sl,s.2.1<18446744073709551616/\s.2.2<4611686018427387904
def Km(h:a_)(b S:Nat)(m:Nat->Option Nat)(c:Nat):Prop:=
 (e_ h b [.r,ZZ 0,ZZ 0]/\c=0/\∀k,m k=none)\/∃v sl t,o? h b S v sl m c t/\4*(c+t)<=3*sl.length
theorem o?.fr{h:a_}{b S:Nat}{v:V}{sl:List bF}{m:Nat->Option Nat}{c t:Nat}(k:o? h b S v sl m c t)(f:Fr [] h h'):o? h' b S v sl m c t:={k with ob:=f.i k.ob,tb:=k.tb.fr f}
theorem Km.fr{h:a_}{b S:Nat}{m:Nat->Option Nat}{c:Nat}(k:Km h b S m c)(f:Fr [] h h'):Km h' b S m c:=by obtain⟨o,x⟩|⟨v,sl,t,k,x⟩:=k;exact .inl ⟨f.i o,x⟩;exact .inr ⟨v,sl,t,k.fr f,x⟩
theorem o?.U?{h:a_}{b S:Nat}{v:V}{sl:List bF}{m:Nat->Option Nat}{c t:Nat}(k:o? h b S v sl m c t):T8 0 sl+c+t=sl.length:=by have:=C9 k.op.l;rw[k.c1,k.c2]at this;exact this
theorem o?.ne{h:a_}{b S:Nat}{v:V}{sl:List bF}{m:Nat->Option Nat}{c t:Nat}(k:o? h b S v sl m c t):b≠S:=by rintro rfl;have e:=k.ob.uniq k.tb.2;have:=congrArg List.length e;rw[qY]at this;have:=k.n8;simp at *;omega
theorem o?.some_c{h:a_}{b S:Nat}{v:V}{sl:List bF}{m:Nat->Option Nat}{c t:Nat}(k:o? h b S v sl m c t){key x:Nat}(e:m key=some x):0<c:=by let⟨i,Z⟩:=(k.mp key x).1 e;rw[<-k.c1];unfold T8;rw[ZE];exact⟨_,Wc Z,iS⟩
theorem xX{h:a_}(w:WF h):ao go 49 [] h fun u h'=>∃b,u=.u b 0/\h.e<=b/\Km h' b b (fun _=>none) 0/\Fr [] h h':=by refine ah ?_;simp only[b_,seval];exact⟨_,rfl,VZ _,.inl ⟨Xc w _,rfl,fun _=>rfl⟩,WA w _⟩
theorem Kr{h:a_}{b S:Nat}{m:Nat->Option Nat}{c:Nat}(k:Km h b S m c):ao go 85 [.u b 0] h fun u h'=>u=ZZ (c:Int)/\h'=h:=by
 have q:ab h b 1=some (ZZ (c:Int)):=by obtain⟨o,rfl,_⟩|⟨v,sl,t,k,_⟩:=k;exact o.j 1;exact k.ob.j 1
 refine ah ?_;simp[b_,q]
def fJ(o:Option Nat):V:=match o with
 |some x=>.D [ ZZ (x:Int),.h true]
 |none=>.D [ZZ 0,.h false]
theorem mG{h:a_}{b S:Nat}{m:Nat->Option Nat}{c:Nat}(w:WF h)(k:Km h b S m c)(hk:key<18446744073709551616):ao go 37 [.u b 0,ZX (key:Int)] h fun u h'=>u=fJ (m key)/\Fr [] h h':=by
 have k0:=k;refine ah ?_;simp[b_];refine aa (Kr k) ?_;rintro _ _ ⟨rfl,K⟩;replace K:=K.symm;subst K;by_cases hc:(c:Int)=0;have e:m key=none:=by
  obtain⟨o,_,h1⟩|⟨v,sl,t,k,_⟩:=k;exact h1 key;cases e:m key with
  |none=>rfl
  |some x=>have:=k.some_c e;omega
 rw[e];simp[b_,hc];exact⟨rfl,Wl w⟩;obtain⟨o,h0,h1⟩|⟨v,sl,t,k,_⟩:=k;exact absurd oM hc;simp only[b_,seval,eq_false hc];refine aa (mD w k.ob k.tb k.op (by have:=k.nb;omega) hk) ?_;rintro _ h2 ⟨at',found,rfl,L,F⟩;cases found;have e:m key=none:=by
  cases e:m key with
  |none=>rfl
  |some x=>let⟨i,hi⟩:=(k.mp key x).1 e;exact absurd hi ((L.c rfl).1 i x)
 rw[e];simp[b_];exact⟨rfl,F⟩;let⟨x,hx⟩:=L.b rfl;have e:m key=some x:=(k.mp key x).2 ⟨_,hx⟩;have Z:=k.fr F;have ix:=Z.tb.ix _ L.a;have l0:ab h2 b 0=some v:=Z.ob.j 0;have l2:ab h2 S (at'*3+2)=some (ZZ (x:Int)):=by
  let⟨b1,o1,y,e1,e2,_,e4⟩:=YX tc Z.tb.recs .i64 (at':Nat) oM (by have:=L.a;omega);rw[ix]at e1;obtain⟨rfl,rfl⟩:S=b1/\at'*3=o1:=by simpa using e1
  simp only[pi]at e4;rw[hx]at e4;cases e4;exact(e2 2 oM).trans rfl
 rw[e];simp[b_,l0,ix,l2];exact⟨rfl,F⟩
theorem pH(x:bF):∀(sl:List bF)(i:Nat),i<sl.length→bG (sl.flatMap sc) (i*3) (sc x)=some ((sl.set i x).flatMap sc)
 |[],i,h=>by simp at h
 |y::l,0,_=>by show bG (V.A .u8 (y.1:Int)::V.A .u64 (y.2.1:Int)::V.A .i64 (y.2.2:Int)::l.flatMap sc) 0 [V.A .u8 (x.1:Int),V.A .u64 (x.2.1:Int),V.A .i64 (x.2.2:Int)]=_;rw[aY,aY,aY,ma];rfl
 |y::l,i+1,h=>by have ih:=pH x l i (eV h);rw[(oM:(i+1) *3=i*3+1+1+1)];show bG (V.A .u8 (y.1:Int)::V.A .u64 (y.2.1:Int)::V.A .i64 (y.2.2:Int)::l.flatMap sc) (i*3+1+1+1) (sc x)=_;rw[bM,bM,bM,ih];rfl
theorem wA(k v v':Nat):∀(sl:List bF)(i:Nat),sl[i]? =some (1,k,v)→bG (sl.flatMap sc) (i*3+2) [V.A .i64 (v':Int)]=some ((sl.set i (1,k,v')).flatMap sc)
 |[],i,h=>by simp at h
 |y::l,0,h=>by simp at h;subst h;show bG (V.A .u8 ((1:Nat):Int)::V.A .u64 (k:Int)::V.A .i64 (v:Int)::l.flatMap sc) (0+1+1) [V.A .i64 (v':Int)]=_;rw[bM,bM,aY,ma];rfl
 |y::l,i+1,h=>by have ih:=wA k v v' l i (eV h);rw[(oM:(i+1) *3+2=i*3+2+1+1+1)];show bG (V.A .u8 (y.1:Int)::V.A .u64 (y.2.1:Int)::V.A .i64 (y.2.2:Int)::l.flatMap sc) (i*3+2+1+1+1) [V.A .i64 (v':Int)]=_;rw[bM,bM,bM,ih];rfl
theorem Tb.put{h h1:a_}{v:V}{S i:Nat}{sl:List bF}{x:bF}(t:Tb h v S sl)(o:e_ h1 S ((sl.set i x).flatMap sc)):Tb h1 v S (sl.set i x):=⟨by rw[WV];exact t.1,o⟩
theorem nY{sl:List bF}{i:Nat}{x:bF}(kb:∀s∈sl,s.2.1<18446744073709551616/\s.2.2<4611686018427387904)(Z:x.2.1<18446744073709551616/\x.2.2<4611686018427387904):∀s∈sl.set i x,s.2.1<18446744073709551616/\s.2.2<4611686018427387904:=by grind
theorem LB{sl:List bF}(h:2<=T8 0 sl)(a:Nat):∃(i:Nat)(s:bF),i≠a/\sl[i]? =some s/\s.1=0:=by
 by_cases ha:a<sl.length;have e:=ka (c:=0) (x:=((1,0,0):bF)) (Wf ha);have h2:0<T8 0 (sl.set a (1,0,0)):=by grind
 let⟨i,s,Z,K⟩:=AA (n:=0) h2;obtain⟨_,rfl,_⟩|⟨ci,Z⟩:=gU _ _ _ _ _ Z;cases K;grind;let⟨i,s,Z,K⟩:=AA (n:=0) (sl:=sl) oM;have:=(Wk.1 Z).1;exact⟨i,s,oM,Z,K⟩
theorem uy{c i:Nat}{sl:List bF}{s:bF}(h:sl[i]? =some s):T8 c (sl.take (i+1))=T8 c (sl.take i)+(if s.1=c then 1 else 0):=by unfold T8;rw[Wn,h,YJ];simp
theorem Az(c i:Nat)(sl:List bF):T8 c (sl.take i)<=T8 c sl:=by unfold T8;exact List.Sublist.countP_le (Xp i sl)
def Old(h:a_)(b S:Nat)(v:V)(ol:List bF):Prop:=(v=.r/\ol=[])\/(Tb h v S ol/\b≠S/\S<h.e)
theorem Old.recs{h:a_}{b S:Nat}{v:V}{ol:List bF}(o:Old h b S v ol):q_ sc 3 h v ol:=by obtain⟨rfl,rfl⟩|⟨t,_⟩:=o;exact ZI;exact t.recs
theorem Old.fr{h:a_}{b S:Nat}{v:V}{ol:List bF}(o:Old h b S v ol)(f:Fr [b] h h'):Old h' b S v ol:=by obtain o|⟨t,ne,lt⟩:=o;exact .inl o;exact .inr ⟨⟨t.1,f.I S _ (by simp;exact fun e=>ne e.symm) t.2⟩,ne,Xh lt f.e⟩
structure Y8(sl ol:List bF)(i:Nat):Prop where
 l:Y2 mix sl
 b:T8 1 sl=T8 1 (ol.take i)
 f:T8 2 sl=0
 a:∀k x:Nat,(∃j:Nat,sl[j]? =some (1,k,x))↔∃j:Nat,j<i/\ol[j]? =some (1,k,x)
 m:∀s∈sl,s.2.1<18446744073709551616/\s.2.2<4611686018427387904
theorem Y8.d{sl ol:List bF}{i:Nat}{s:bF}(m:Y8 sl ol i)(h:ol[i]? =some s)(Z:s.1≠1):Y8 sl ol (i+1):=by refine{m with b:=by rw[uy h,if_neg Z];exact m.b,a:=fun k x=>(m.a k x).trans ⟨fun⟨j,a,b⟩=>⟨j,oM,b⟩,fun⟨j,a,b⟩=>?_⟩};refine⟨j,?_,b⟩;obtain q|q:=WY j i;exact q;have:j=i:=oM;subst this;rw[h]at b;cases b;exact absurd rfl Z
theorem Y8.i{sl ol:List bF}{i k x a:Nat}(m:Y8 sl ol i)(h:ol[i]? =some (1,k,x))(L:j? mix sl k a false)(hk:k<18446744073709551616)(hx:x<4611686018427387904)(rm:2<=T8 0 sl):Y8 (sl.set a (1,k,x)) ol (i+1):=by
 let⟨no,⟨s0,Z,h0⟩,_⟩:=L.c rfl;have z2:s0.1≠2:=by intro e;have:=m.f;unfold T8 at this;rw[List.countP_eq_zero]at this;exact this s0 (Wc Z) iX
 have e1:=ka (c:=1) (x:=((1,k,x):bF)) Z;have e2:=ka (c:=2) (x:=((1,k,x):bF)) Z;simp only[if_neg h0,if_neg z2,if_true]at e1 e2;refine⟨m.l.i L x (LB rm a),?_,?_,fun k' x'=>⟨?_,?_⟩,nY m.m ⟨hk,hx⟩⟩;rw[uy h,if_pos rfl,<-m.b];omega;have:=m.f;simp at e2;omega;rintro⟨j,K⟩;obtain⟨_,e,_⟩|⟨cj,K⟩:=gU _ _ _ _ _ K;grind;let⟨j',l',e'⟩:=(m.a k' x').1 ⟨j,K⟩;exact⟨j',oM,e'⟩;rintro⟨j,lj,K⟩;by_cases c:j=i;subst c;rw[h]at K;cases K;exact⟨a,jZ _ L.a⟩;let⟨j',ac⟩:=(m.a k' x').2 ⟨j,oM,K⟩;refine⟨j',?_⟩;rw[XY];exact ac;grind
theorem Ec(n:Nat):bq [ZY 0,ZX 0,ZZ 0] n=(List.replicate n ((0,0,0):bF)).flatMap sc:=by
 induction n with
 |zero=>rfl
 |succ n ih=>show[ZY 0, ZX 0, ZZ 0]++bq _ n=_;rw[ih,XI];rfl
theorem Ay(c n:Nat)(hc:c≠0):T8 c (List.replicate n (0,0,0))=0:=by unfold T8;rw[List.countP_eq_zero];intro s Z;rw[Zf Z];simp;omega
theorem yM{h:a_}{b S q c:Nat}{ov T0:V}{ol:List bF}(w:WF h)(ob:e_ h b [ov,ZZ (c:Int),T0])(old:Old h b S ov ol)(o1:ov.U=true)(t1:T0.U=true)(hl:ol.length<=20000)
 (uq:∀i j k v w:Nat,ol[i]? =some (1,k,v)->ol[j]? =some (1,k,w)->i=j) (oc:T8 1 ol=c) (kb:∀s∈ol,s.2.1<18446744073709551616/\s.2.2<4611686018427387904) (hc:c<=q) (q1:1<=q) (q2:q<=4097):
 ao go 205 [.u b 0,ZZ (q:Int)] h fun u h'=>u=.D []/\∃n S' sl,h.e<=S'/\sl.length=n/\8<=n/\n<=20000/\2*q<=n/\e_ h' b [.y S' 0 n n,ZZ (c:Int),ZZ 0]/\Tb h' (.y S' 0 n n) S' sl/\Y8 sl ol ol.length/\Fr [b] h h':=by
 have bl:=ob.lt w;refine ah ?_;simp only[b_];refine aA (fun k env K=>h=K/\∃n:Nat,env.c_ 0=some (.u b 0)/\env.c_ 1=some (ZZ (q:Int))/\env.c_ 4=some (ZZ (n:Int))/\8<=n/\n<=16388/\k=2*q-n) (2*q-8) oM ?_ ?_
 ·exact⟨rfl,8,iS,iS,iS,oM,oM,rfl⟩
 rintro k env K ⟨rfl,n,g0,g1,g4,n8,nb,rfl⟩;by_cases hn:(n:Int)<2*(q:Int)
 ·simp(disch:=omega) only[b_,seval,ag,g1,g4,eq_true hn];refine s_ ⟨2*q-n*2,oM,rfl,n*2,iX,iX,iS,oM,oM,rfl⟩
  done
 have l0:ab h b 0=some ov:=ob.j 0;have ms:=Ec n;have mk:wS h [ZY 0,ZX 0,ZZ 0] 24 (ZZ (n:Int)) (ZZ (n:Int))=some (.y h.e 0 n n,h_ h ((List.replicate n ((0,0,0):bF)).flatMap sc)):=by
  rw[<-ms];show(bif Nat.ble n n&&Nat.blt n 9223372036854775808&&Nat.ble (24*n) 281474976710656 then some (V.y h.e 0 n n,h_ h (bq [ZY 0,ZX 0,ZZ 0] n))else none)=_;rw[show Nat.ble n n=true by rw[Yg];omega,show Nat.blt n 9223372036854775808=true by rw[WB];omega,show Nat.ble (24*n) 281474976710656=true by rw[Yg];omega];rfl
 simp(disch:=omega) only[b_,seval,ag,g0,g1,g4,eq_false hn,l0,mk];have w0:=w.a ((List.replicate n ((0,0,0):bF)).flatMap sc);refine B_ w0 (ob.halloc w _) ?_;rintro h1 ar F1 n1;simp only[b_,seval,g0];refine B_ F1.o ar ?_;rintro h2 an F2 n2;have bn:h.e≠b:=oM
 have af:e_ h2 h.e ((List.replicate n ((0,0,0):bF)).flatMap sc):=F2.I _ _ (eV bn) (F1.I _ _ (eV bn) (Xc w _));have Fa:Fr [b] h h2:=((WA w _).trans (F1.trans F2 w0 (T:=[b]) (fun x Z=>.inl Z) (fun x Z=>.inl Z)) w (fun x Z=>by simp at Z) (fun x Z=>.inl Z));have len:=old.recs.t_;simp only[b_,seval,len];refine aA (fun k env K=>∃(i:Nat)(sl:List bF),Fr [b] h K/\e_ K b [.y h.e 0 n n,ZZ (c:Int),ZZ 0]/\Tb K (.y h.e 0 n n) h.e sl/\sl.length=n/\Y8 sl ol i/\env.c_ 0=some (.u b 0)/\env.c_ 28=some ov/\
  env.c_ 29=some (ZZ (ol.length:Int))/\env.c_ 30=some (ZZ (i:Int))/\i<=ol.length/\k=ol.length-i) ol.length oM ?_ ?_
 ·refine⟨0,List.replicate n (0,0,0),Fa,an,⟨.inl iS,af⟩,iS,⟨Y2.m _ _ oM,?_,Ay 2 n oM,fun k x=>⟨?_,?_⟩,?_⟩,iX,iS,iS,iS,oM,rfl⟩
  ·rw[Ay 1 n oM];simp[T8]
  ·grind
  ·omega
  ·grind
 clear ar F1 n1 an F2 n2 af Fa w0 g0 g1 g4 l0 mk ms;rintro k env K ⟨i,sl,F,oB,tB,sn,mv,g0,az,ak,ac,hi,rfl⟩;by_cases ae:(i:Int)<(ol.length:Int)
 ·have wh:=F.o;let⟨b1,p1,⟨s,ky,vl⟩,e1,_,e3,e4⟩:=YX tc (old.fr F).recs .i64 (i:Int) oM ae;simp at e4;have hk:=kb _ (Wc e4);simp only[b_,seval,az,ak,ac,eq_true ae,e1,e3];refine B_ (wh.a _) (Xc wh _) ?_;rintro h3 o3 F3 n3;have Fx:Fr [] K h3:=(WA wh _).trans F3 wh (fun _ Z=>by simp at Z) (fun x Z=>.inr (by simp at Z;omega));by_cases hs:(s:Int)=1
  ·have ay:s=1:=oM
   subst ay;have q0:ab h3 K.e 0=some (ZY 1):=o3.j 0;have ax:ab h3 K.e 1=some (ZX (ky:Int)):=o3.j 1;simp only[b_,seval,q0,ax,g0];refine aa (mD Fx.o (Fx.i oB) (tB.fr Fx) mv.l oM hk.1) ?_;rintro _ h4 ⟨at',found,rfl,L,F4⟩;cases found;case true=>
    let⟨x,Z⟩:=L.b rfl;let⟨j,lj,hj⟩:=(mv.a ky x).1 ⟨_,Z⟩;have:=uq _ _ _ _ _ hj e4;omega
   have Fy:=Fx.c F4;have l0:ab h4 b 0=some (.y h.e 0 n n):=(Fy.i oB).j 0;have q3:aj h4 K.e 0 3=some (sc (1,ky,vl)):=by rw[(F4.i o3).N];rfl
   have ix:=(tB.fr Fy).ix at' L.a;simp only[b_,seval,j_,g0,l0,q3,ix];refine ai (c':=(sl.set at' (1,ky,vl)).flatMap sc) Fy.o (tB.fr Fy).2 rfl rfl (pH (1,ky,vl) sl at' L.a) ?_;rintro h5 o5 F5 n5;have room:2<=T8 0 sl:=by
    have e:=C9 mv.l.l;have:=mv.f;have a1:=mv.b;have a2:=uy (c:=1) e4;have a3:=Az 1 (i+1) ol;simp at a2;omega
   simp(disch:=omega) only[b_,seval,DF,ag,ac,l0,q3];refine s_ ⟨ol.length-(i+1),oM,i+1,sl.set at' (1,ky,vl),(F.trans Fy w (fun x Z=>.inl Z) (fun x Z=>by simp at Z)).trans F5 w (fun x Z=>.inl Z) (fun x Z=>.inr (by simp at Z;omega)),F5.I b _ (by simpa using XK bn) (Fy.i oB),⟨by rw[WV];exact tB.1,o5⟩,by rw[WV];exact sn,
    mv.i e4 L hk.1 hk.2 room,iX,iX,iX,iS,oM,rfl⟩
   done
  ·have q0:ab h3 K.e 0=some (ZY (s:Int)):=o3.j 0;simp(disch:=omega) only[b_,seval,ag,q0,eq_false hs,ac];refine s_ ⟨ol.length-(i+1),oM,i+1,sl,F.trans Fx w (fun x Z=>.inl Z) (fun x Z=>by simp at Z),Fx.i oB,tB.fr Fx,sn,mv.d e4 (by simp only[];omega),iX,iX,iX,iS,oM,rfl⟩
   done
 ·have:i=ol.length:=oM
  subst this;simp only[b_,seval,ak,ac,eq_false ae];exact⟨n,h.e,sl,VZ _,sn,n8,oM,oM,oB,tB,mv,F⟩
def gy(m:Nat->Option Nat)(key x:Nat):Nat->Option Nat:=fun k=>if k=key then some x else m k
theorem o?.put{h:a_}{b S x a K:Nat}{v:V}{sl:List bF}{m:Nat->Option Nat}{c t:Nat}(k:o? h b S v sl m c t)(L:j? mix sl key a false)(hk:key<18446744073709551616)(hx:x<4611686018427387904)(fill:4*(c+t+1)<=3*sl.length)
 (ob:e_ h' b [v,ZZ ((c+1:Nat):Int),ZZ (K:Int)]) (o:e_ h' S ((sl.set a (1,key,x)).flatMap sc)) (ht:∀s:bF,sl[a]? =some s->K+(if s.1=2 then 1 else 0)=t):o? h' b S v (sl.set a (1,key,x)) (gy m key x) (c+1) K:=by
 let⟨no,⟨s0,Z,h0⟩,_⟩:=L.c rfl;have e1:=ka (c:=1) (x:=((1,key,x):bF)) Z;have e2:=ka (c:=2) (x:=((1,key,x):bF)) Z;simp only[if_neg h0,if_true]at e1;have ht:=ht s0 Z;have c1:=k.c1;have c2:=k.c2;have rm:2<=T8 0 sl:=by have:=k.U?;have:=k.n8;omega
 refine⟨ob,⟨by rw[WV];exact k.tb.1,o⟩,k.op.i L x (LB rm a),by rw[WV];exact k.n8,by rw[WV];exact k.nb,oM,?_,fun k' x'=>⟨?_,?_⟩,nY k.kb ⟨hk,hx⟩⟩;grind;intro e;unfold gy at e;by_cases ck:k'=key;rw[if_pos ck]at e;cases e;subst ck;exact⟨a,jZ _ L.a⟩;rw[if_neg ck]at e;let⟨i,hi⟩:=(k.mp k' x').1 e;refine⟨i,?_⟩;rw[XY];exact hi;grind;rintro⟨i,hi⟩;unfold gy;obtain⟨_,e,_⟩|⟨ci,hj⟩:=gU _ _ _ _ _ hi;grind;by_cases ck:k'=key;grind;rw[if_neg ck];exact(k.mp k' x').2 ⟨i,hj⟩
theorem CD{h:a_}{b S x:Nat}{v:V}{sl:List bF}{m:Nat->Option Nat}{c t:Nat}{R:V->a_->Prop}(w:WF h)(k:o? h b S v sl m c t)(hk:key<18446744073709551616)(Z:x<4611686018427387904)(hm:m key=none)(fill:4*(c+t+1)<=3*sl.length)
 (g0:env.c_ 0=some (.u b 0)) (g1:env.c_ 1=some (ZX (key:Int))) (g2:env.c_ 2=some (ZZ (x:Int)))
 (K:∀h' sl' t',o? h' b S v sl' (gy m key x) (c+1) t'->sl'.length=sl.length->t'<=t->Fr [b,S] h h'->R (ZZ 0) h'):W go JX env h (i9 [.t 6] R):=by
 have cb:=k.U?;have nb:=k.nb;have ne:=k.ne;simp[b_,JX,g0,g1];apply aa (mD w k.ob k.tb k.op oM hk);rintro _ h2 ⟨at',found,rfl,L,F⟩;cases found;case true=>
  let⟨y,hy⟩:=L.b rfl;have:=(k.mp key y).2 ⟨_,hy⟩;rw[hm]at this;cases this
 have k2:=k.fr F;have ix:=k2.tb.ix _ L.a;have l0:ab h2 b 0=some v:=k2.ob.j 0;let⟨no,⟨s0,ae,h0⟩,_⟩:=L.c rfl;have l3:ab h2 S (at'*3)=some (ZY (s0.1:Int)):=by
  let⟨b1,o1,y,e1,e2,_,e4⟩:=YX tc k2.tb.recs .i64 (at':Nat) oM (by have:=L.a;omega);rw[ix]at e1;obtain⟨rfl,rfl⟩:S=b1/\at'*3=o1:=by simpa using e1
  simp only[pi]at e4;rw[ae]at e4;cases e4;exact(e2 0 oM).trans rfl
 by_cases ht:(s0.1:Int)=2;have t1:1<=t:=by
  rw[<-k.c2];have:0<T8 2 sl:=by unfold T8;rw[ZE];exact⟨s0,Wc ae,by simp;omega⟩
  exact this
 have l2:ab h2 b 2=some (ZZ (t:Int)):=k2.ob.j 2;simp(disch:=omega)[b_,ag,l0,ix,l3,eq_true ht,g0,l2];apply B_ F.o k2.ob;rintro h3 o3 F3 n3;have af:Tb h3 v S sl:=⟨k2.tb.1,F3.I S _ (by simpa using XK ne) k2.tb.2⟩;have ak:ab h3 b 0=some v:=o3.j 0;have an:=af.ix _ L.a;simp[b_,g0,g1,g2,ak,an];apply ai (c':=(sl.set at' (1,key,x)).flatMap sc) F3.o af.2 rfl rfl (pH (1,key,x) sl at' L.a);rintro h4 o4 F4 n4;have ac:=F4.I b _ (eV ne) o3;have l1:ab h4 b 1=some (ZZ (c:Int)):=ac.j 1;simp(disch:=omega)[b_,ag,g0,l1];apply B_ F4.o ac;rintro h5 o5 F5 n5;simp[b_];refine K h5 (sl.set at' (1,key,x)) (t-1) (k.put L hk Z fill ?_ (F5.I S _ (by simpa using XK ne) o4) ?_) (WV ..) oM ?_;rw[(oM:((t-1:Nat):Int)=(t:Int)-1)];exact o5;intro s hs;rw[ae]at hs;cases hs;rw[if_pos oM];omega;have A:Fr [b,S] h2 h4:=F3.trans F4 F.o (fun x Z=>.inl (by simp at Z;simp[Z])) (fun x Z=>.inl (by simp at Z;simp[Z]));have B:Fr [b,S] h2 h5:=A.trans F5 F.o (fun x Z=>.inl Z) (fun x Z=>.inl (by simp at Z;simp[Z]));exact F.trans B w (fun x Z=>by simp at Z) (fun x Z=>.inl Z);simp[b_,l0,ix,l3,eq_false ht,g0,g1,g2];apply ai (c':=(sl.set at' (1,key,x)).flatMap sc) F.o k2.tb.2 rfl rfl (pH (1,key,x) sl at' L.a);rintro h4 o4 F4 n4;have ac:=F4.I b _ (eV ne) k2.ob;have l1:ab h4 b 1=some (ZZ (c:Int)):=ac.j 1;simp(disch:=omega)[b_,ag,g0,l1];apply B_ F4.o ac;rintro h5 o5 F5 n5;simp[b_];refine K h5 (sl.set at' (1,key,x)) t (k.put L hk Z fill o5 (F5.I S _ (by simpa using XK ne) o4) ?_) (WV ..) oM ?_;intro s hs;rw[ae]at hs;cases hs;rw[if_neg oM];omega;have B:Fr [b,S] h2 h5:=F4.trans F5 F.o (fun x Z=>.inl (by simp at Z;simp[Z])) (fun x Z=>.inl (by simp at Z;simp[Z]));exact F.trans B w (fun x Z=>by simp at Z) (fun x Z=>.inl Z)
theorem Y8.c{b S' n:Nat}{sl ol:List bF}{m:Nat->Option Nat}{c:Nat}(M:Y8 sl ol ol.length)(K:sl.length=n)(n8:8<=n)(nb:n<=20000)(ob:e_ h' b [.y S' 0 n n,ZZ (c:Int),ZZ 0])(tb:Tb h' (.y S' 0 n n) S' sl)
 (oc:T8 1 ol=c) (mp:∀k x:Nat,m k=some x↔∃i:Nat,ol[i]? =some (1,k,x)):o? h' b S' (.y S' 0 n n) sl m c 0:=by
 refine⟨ob,tb,M.l,oM,oM,by rw[M.b,Xq];exact oc,M.f,fun k x=>(mp k x).trans ⟨fun⟨i,hi⟩=>(M.a k x).2 ⟨i,(Wk.1 hi).1,hi⟩,fun q=>?_⟩,M.m⟩;let⟨j,_,Z⟩:=(M.a k x).1 q;exact⟨j,Z⟩
theorem CE{h:a_}{b S x:Nat}{m:Nat->Option Nat}{c:Nat}{R:V->a_->Prop}(w:WF h)(k:Km h b S m c)(hc:c<4096)(hk:key<18446744073709551616)(hx:x<4611686018427387904)(hm:m key=none)
 (g0:env.c_ 0=some (.u b 0)) (g1:env.c_ 1=some (ZX (key:Int))) (g2:env.c_ 2=some (ZZ (x:Int)))
 (K:∀h' S',(S'=S\/h.e<=S')->Km h' b S' (gy m key x) (c+1)->Fr [b,S] h h'->R (ZZ 0) h'):W go Hl env h (i9 [.t 6] R):=by
 have fin:∀{h2:a_}{Z:T V}{S':Nat}{v:V}{sl:List bF}{t:Nat},Fr [b] h h2->h.e<=S'->o? h2 b S' v sl m c t->4*(c+t+1)<=3*sl.length->Z.c_ 0=some (.u b 0)->Z.c_ 1=some (ZX (key:Int))->Z.c_ 2=some (ZZ (x:Int))->W go JX Z h2 (i9 [.t 6] R):=by
  intro h2 Z S' v sl t F hS k2 fill a0 a1 a2;refine CD F.o k2 hk hx hm fill a0 a1 a2 fun h' ac t' k' e1 e2 F'=>K h' S' (.inr hS) (.inr ⟨v,ac,t',k',oM⟩) ?_;exact F.trans F' w (fun x hx=>.inl (by simp at hx;simp[hx])) (fun x hx=>by
   simp at hx;obtain rfl|rfl:=hx;exact .inl iS;exact .inr hS)
 obtain⟨o,rfl,h1⟩|⟨v,sl,t,k,_⟩:=k;have l0:ab h b 0=some .r:=o.j 0;have l1:ab h b 1=some (ZZ 0):=o.j 1;have l2:ab h b 2=some (ZZ 0):=o.j 2;simp[b_,DF,j_,ag,Hl,g0,l0,l1,l2];apply aa (yM (S:=b) (q:=1) (c:=0) (ol:=[]) w o (.inl ⟨rfl,rfl⟩) rfl rfl iS iS rfl iS oM oM oM);rintro _ h2 ⟨rfl,n,S',sl,hS,sn,n8,nb,q2,ob,tb,M,F⟩;simp[b_];exact fin F hS (M.c sn n8 nb ob tb rfl (fun k x=>by rw[h1];simp)) oM iX iX iX;have cb:=k.U?;have nb:=k.nb;have l0:ab h b 0=some v:=k.ob.j 0;have l1:ab h b 1=some (ZZ (c:Int)):=k.ob.j 1;have l2:ab h b 2=some (ZZ (t:Int)):=k.ob.j 2;have len:=k.tb.recs.t_;have c0:¬(c:Int)=4096:=oM;by_cases hf:3*(sl.length:Int)<4*((c:Int)+(t:Int)+1);simp(disch:=omega)[b_,DF,j_,ag,Hl,g0,l0,l1,l2,len,c0,eq_true hf];have o1:v.U=true:=by obtain rfl|rfl:=k.tb.1<;>rfl
 apply aa (yM (S:=S) (q:=c+1) w k.ob (.inr ⟨k.tb,k.ne,k.tb.2.lt w⟩) o1 rfl nb k.op.a k.c1 k.kb oM oM oM);rintro _ h2 ⟨rfl,n,S',ac,hS,sn,n8,ae,q2,ob,tb,M,F⟩;simp[b_];exact fin F hS (M.c sn n8 ae ob tb k.c1 k.mp) oM iX iX iX;simp(disch:=omega)[b_,DF,j_,ag,Hl,g0,l0,l1,l2,len,c0,eq_false hf];refine CD w k hk hx hm oM ?_ ?_ ?_ fun h' ac t' k' e1 e2 F'=>K h' S (.inl rfl) (.inr ⟨v,ac,t',k',oM⟩) F';simp[g0];simp[g1];simp[g2]
theorem xW{h:a_}{b S x:Nat}{m:Nat->Option Nat}{c:Nat}(w:WF h)(k:Km h b S m c)(hc:c<4096\/(m key).isSome=true)(k0:0<key)(hk:key<18446744073709551616)(Z:x<4611686018427387904):
 ao go 145 [.u b 0,ZX (key:Int),ZZ (x:Int)] h fun u h'=>u=ZZ 0/\∃S',(S'=S\/h.e<=S')/\Km h' b S' (gy m key x) (if(m key).isSome=true then c else c+1)/\Fr [b,S] h h':=by
 have kz:¬(key:Int)=0:=oM;have ac:=k;refine ah ?_;obtain⟨o,rfl,h1⟩|⟨v,sl,t,k,fill⟩:=k;have l0:ab h b 0=some .r:=o.j 0;simp only[b_,seval,kz,l0];refine CE w ac oM hk Z (h1 key) ?_ ?_ ?_ fun h' S' a b c=>?_;simp;simp;simp;rw[h1];exact⟨rfl,S',a,b,c⟩;have l0:ab h b 0=some v:=k.ob.j 0;have len:=k.tb.recs.t_;have n8:=k.n8;have nb:=k.nb;simp only[b_,seval,kz,l0,len,eq_true (oM:(0:Int)<(sl.length:Int))];refine aa (mD w k.ob k.tb k.op oM hk) ?_;rintro _ h2 ⟨at',found,rfl,L,F⟩;cases found;have hm:m key=none:=by
  cases e:m key with
  |none=>rfl
  |some y=>let⟨i,hi⟩:=(k.mp key y).1 e;exact absurd hi ((L.c rfl).1 i y)
 rw[hm]at hc|-;simp only[b_,seval];refine CE F.o (ac.fr F) (eV hc) hk Z hm ?_ ?_ ?_ fun h' S' a b' c'=>⟨rfl,S',a.imp id (fun q=>Wy F.e q),by simpa using b',F.trans c' w (fun x Z=>by simp at Z) (fun x Z=>.inl Z)⟩;simp;simp;simp;let⟨y,K⟩:=L.b rfl;have hm:=(k.mp key y).2 ⟨_,K⟩;have k2:=k.fr F;have ix:=k2.tb.ix _ L.a;have ne:=k2.ne;have ae:ab h2 b 0=some v:=k2.ob.j 0;rw[hm];simp only[b_,seval,ae,ix];apply ai (c':=(sl.set at' (1,key,x)).flatMap sc) F.o k2.tb.2 rfl rfl (wA key y x sl at' K);rintro h3 o3 F3 n3;simp only[b_,seval];have e1:=ka (c:=1) (x:=((1,key,x):bF)) K;have e2:=ka (c:=2) (x:=((1,key,x):bF)) K;simp at e1 e2;refine⟨S,.inl rfl,.inr ⟨v,sl.set at' (1,key,x),t,⟨F3.I b _ (eV ne) k2.ob,⟨by rw[WV];exact k.tb.1,o3⟩,k.op.d K x,by rw[WV];exact n8,by rw[WV];exact nb,by have:=k.c1;first|omega|(simp;omega),by have:=k.c2;omega,?_,nY k.kb ⟨hk,Z⟩⟩,by rw[WV];first|exact fill|simpa using fill⟩,?_⟩
 intro k' x';unfold gy;constructor;intro e;by_cases ck:k'=key;rw[if_pos ck]at e;cases e;subst ck;exact⟨at',jZ _ L.a⟩;rw[if_neg ck]at e;let⟨i,hi⟩:=(k.mp k' x').1 e;refine⟨i,?_⟩;rw[XY];exact hi;rintro rfl;rw[K]at hi;cases hi;exact ck rfl;rintro⟨i,hi⟩;obtain⟨_,e,_⟩|⟨ci,hj⟩:=gU _ _ _ _ _ hi;cases e;rw[if_pos rfl];have ck:k'≠key:=by rintro rfl;exact ci (k.op.a _ _ _ _ _ hj K)
 rw[if_neg ck];exact(k.mp k' x').2 ⟨i,hj⟩;exact F.trans F3 w (fun x Z=>by simp at Z) (fun x Z=>.inl (by simp at Z;simp[Z]))
def S6(e:Nat)(h:a_)(v:V)(B:Nat)(C:List V)(N:Nat):Prop:=C.length=N*e/\((v=.r/\N=0)\/(v=.y B 0 N N/\e_ h B C))
def Dst(e:Nat)(h:a_)(B:Nat)(C:List V)(u:V)(o n:Nat):Prop:=o+n*e<=C.length/\((n=0/\(u=.r\/∃b o c,u=.y b o 0 c))\/∃cap,u=.y B o n cap/\e_ h B C)
variable {e : Nat} {h : a_} {v u su : V} {B N : Nat} {C vs : List V}
theorem S6.sl(a:S6 e h v B C N):Sl h e v N C:=by obtain⟨Z,⟨rfl,rfl⟩|⟨rfl,o⟩⟩:=a;exact⟨Z,rfl⟩;exact Xy o Z
theorem S6.U(a:S6 e h v B C N):v.U=true:=a.sl.U
theorem S6.t_(a:S6 e h v B C N):aP .d [v]=some (ZZ N):=a.sl.t_
theorem S6.fr{S:List Nat}(a:S6 e h v B C N)(f:Fr S h h')(K:B∉S):S6 e h' v B C N:=by obtain⟨Z,⟨rfl,rfl⟩|⟨rfl,o⟩⟩:=a;exact⟨Z,.inl ⟨rfl,rfl⟩⟩;exact⟨Z,.inr ⟨rfl,f.I _ _ K o⟩⟩
theorem Sl.ones{h:a_}{e:Nat}{v:V}{n:Nat}{cs:List V}(a:Sl h e v n cs)(b:Sl h e v n vs):cs=vs:=by have:=a.srcCells.symm.trans b.srcCells;exact Xl this
theorem S6.part(a:S6 e h v B C N)(lo hi:Bool)(bs:List V)(l r:Nat)(hr:r<=N)(hl:l<=r)
 (K:aZ N N lo hi false bs=some (l,r,none)) (he:0<e):
 ∃v',aP (.s none e lo hi false) (v::bs)=some v'/\Sl h e v' (r-l) ((C.drop (l*e)).take ((r-l) *e))/\Dst e h B C v' (l*e) (r-l):=by
 have Z:l*e+(r-l) *e<=C.length:=by rw[a.1,<-Yi];exact WW _ oM
 obtain⟨ac,⟨rfl,rfl⟩|⟨rfl,o⟩⟩:=a;have h0:l=0:=oM;have h1:r=0:=oM;subst h0 h1;refine⟨.r,by simp[aP,eJ,K],⟨iS,rfl⟩,⟨Z,.inl ⟨oM,.inl rfl⟩⟩⟩;refine⟨.y B (bif Nat.beq N l then 0 else 0+l*e) (r-l) (N-l),by simp[aP,eJ,K],⟨by simp;omega,rfl,oM,C,o,?_⟩,Z,?_⟩;by_cases c:N=l;have h0:r-l=0:=oM;rw[lF c,h0];simp;rw[fC c];simp only[cond_false,WG];exact⟨Z,trivial⟩;by_cases c:N=l;have h0:r-l=0:=oM;rw[lF c,h0];exact .inl ⟨rfl,.inr ⟨_,_,_,rfl⟩⟩;rw[fC c];simp only[cond_false,WG];exact .inr ⟨_,rfl,o⟩
theorem S6.from(a:S6 e h v B C N)(Z:0<e)(k:IntKind)(i:Int)(l:Nat)(hi:i=l)(K:l<=N):
 ∃v',aP (.s none e true false false) [v,.A k i]=some v'/\Sl h e v' (N-l) ((C.drop (l*e)).take ((N-l) *e))/\Dst e h B C v' (l*e) (N-l):=by
 subst hi;exact a.part true false [.A k l] l N (VZ _) K (by simp[aZ,bU k l N oM oM]) Z
theorem S6.upto(a:S6 e h v B C N)(Z:0<e)(k:IntKind)(i:Int)(r:Nat)(hi:i=r)(hr:r<=N):
 ∃v',aP (.s none e false true false) [v,.A k i]=some v'/\Sl h e v' r (C.take (r*e)):=by
 subst hi;let⟨v',K,a2,_⟩:=a.part false true [.A k r] 0 r hr (Nat.zero_le _) (by simp[aZ,bU k r N oM oM]) Z;exact⟨v',K,by simpa using a2⟩
theorem S6.range(a:S6 e h v B C N)(K:0<e)(k k':IntKind)(i j:Int)(l r:Nat)(hi:i=l)(Z:j=r)(hr:r<=N)(hl:l<=r):
 ∃v',aP (.s none e true true false) [v,.A k i,.A k' j]=some v'/\Sl h e v' (r-l) ((C.drop (l*e)).take ((r-l) *e))/\Dst e h B C v' (l*e) (r-l):=by
 subst hi Z;exact a.part true true [.A k l,.A k' r] l r hr hl (by
  simp[aZ,bU k' r N oM oM,bU k l r oM oM]) K
theorem j8{o n m:Nat}{K:V->a_->Prop}(he:0<e)(w:WF h)(d:Dst e h B C u o n)(s:Sl h e su m vs)(Z:aw vs=true)(hm:m<=n)
 (t:S6 e h v B C N)
 (k:∀Z,S6 e Z v B (C.take o++vs++C.drop (o+m*e)) N->Fr [B] h Z->Z.e=h.e->K (ZZ (m:Int)) Z):OQ (rP h e u su) K:=by
 have hl:=s.1;have hd:jB u=some n:=by obtain⟨rfl,rfl|⟨_,_,_,rfl⟩⟩|⟨_,rfl,_⟩:=d.2<;>rfl
 have ht:(C.take o++vs++C.drop (o+m*e)).length=N*e:=by have:=d.1;have:=WW e hm;rw[<-t.1];simp;omega
 unfold rP OQ;simp[hd,s.srcLen,Nat.min_def];rw[if_pos hm];by_cases c:m=0;subst c;have:vs=[]:=Wu.1 oM;subst this;refine⟨_,_,rfl,k h ?_ (Wl w) rfl⟩;simpa using t;rw[fC c];obtain⟨h0,_⟩|⟨cap,rfl,ow⟩:=d.2;omega;obtain⟨_,⟨rfl,rfl⟩|⟨rfl,_⟩⟩:=t;exfalso;have:=d.1;have:C.length=0:=oM;have:n*e=0:=oM;obtain z|z:=Nat.mul_eq_zero.1 this<;>omega
 let⟨h',e1,o1,f1,n1⟩:=ig w ow Z (cD C o vs (by have:=d.1;have:=WW e hm;omega));refine⟨_,h',?_,k h' ⟨ht,.inr ⟨rfl,?_⟩⟩ f1 n1⟩;simp[s.srcCells,e1];grind
theorem dV(z:List V)(n:Nat):(bq z n).length=n*z.length:=by
 induction n with
 |zero=>simp[gZ]
 |succ n ih=>rw[fX,Wq,ih];rw[Yq];omega
theorem aW(a b:List V):aw (a++b)=(aw a&&aw b):=by
 induction a with
 |nil=>simp[aw]
 |cons x l ih=>rw[Xz,au,au,ih,Bool.and_assoc]
theorem eY{a:List V}(n:Nat)(x:aw a=true):aw (a.take n)=true:=by rw[<-WO n a,aW]at x;exact(VY _ _▸x).1
theorem dY{a:List V}(n:Nat)(x:aw a=true):aw (a.drop n)=true:=by rw[<-WO n a,aW]at x;exact(VY _ _▸x).2
theorem Bo{z:List V}(n:Nat)(x:aw z=true):aw (bq z n)=true:=by
 induction n with
 |zero=>rfl
 |succ n ih=>rw[fX,aW,x,ih];rfl
theorem BR{o n:Nat}{z:List V}{K:V->a_->Prop}(w:WF h)(d:Dst e h B C u o n)(hz:z.length=e)(Z:aw z=true)(t:S6 e h v B C N)
 (k:∀Z,S6 e Z v B (C.take o++bq z n++C.drop (o+n*e)) N->Fr [B] h Z->Z.e=h.e->K (.D []) Z):OQ (B3 h z u) K:=by
 have ht:(C.take o++bq z n++C.drop (o+n*e)).length=N*e:=by have:=d.1;rw[<-t.1];simp[dV,hz];omega
 unfold B3 OQ;obtain⟨rfl,q⟩|⟨cap,rfl,ow⟩:=d.2;have:K (.D []) h:=k h (by simpa[gZ]using t) (Wl w) rfl;obtain rfl|⟨_,_,_,rfl⟩:=q;grind;exact⟨_,_,rfl,this⟩;by_cases c:n=0;subst c;exact⟨_,_,rfl,k h (by simpa[gZ]using t) (Wl w) rfl⟩;let⟨h',e1,o1,f1,n1⟩:=ig w ow (Bo n Z) (cD C o (bq z n) (by rw[dV,hz];exact d.1));refine⟨_,h',?_,k h' ⟨ht,?_⟩ f1 n1⟩;simp[fC c,e1];obtain⟨hl,⟨rfl,rfl⟩|⟨rfl,_⟩⟩:=t;grind;rw[dV,hz]at o1;exact .inr ⟨rfl,o1⟩
end Go.Ev.Lay
