/- An evaluator of the program, and contracts over it: StL to StaA. -/
import Derived.Laws.RangeString
import Derived.Laws.RangeAny
import Derived.Test.YtknldhlnhobdhaaGreatDoorP04
import Derived.Test.YtknldhlnhobdhaaGreatDoorP07
set_option linter.unusedSimpArgs false
set_option linter.unusedVariables false
set_option linter.constructorNameAsVariable false
set_option linter.unnecessarySimpa false
set_option maxRecDepth 4000
namespace Go.Ev.Lay
variable{h':a_}{α:Type}
abbrev Z4:List V:=[ZX 0,ZY 0,.f [],.r]
def V_(l:List V):Prop:=∀x∈l,∀n:Int,x≠ ZZ n
theorem V_.c{a b:List V}(h:V_ b)(s:∀x∈a,x∈b):V_ a:=fun x m=>h x (s x m)
theorem V_.d{a b:List V}(h:V_ a)(g:V_ b):V_ (a++b):=fun x m=>(Wa.1 m).elim (h x) (g x)
structure Y6(h:a_)(b B:Nat)(v:V)(c1 G c2:List V)(a g m:Nat):Prop where
 c:e_ h b [v,ZZ (a:Int),ZZ (g:Int)]
 d:S6 4 h v B (c1++G++c2) (a+g+m)
 e:c1.length=a*4
 n:G.length=g*4
 j:c2.length=m*4
 q:aw c1=true
 r:aw c2=true
 i:B≠b
 t:a+g+m<=8208
 p:a+m<=4096
 o:V_ (c1++G++c2)
def Gp(h:a_)(b B:Nat)(n:Nat)(l:List V):Prop:=∃v c1 G c2 a g m,Y6 h b B v c1 G c2 a g m/\l=c1++c2/\n=a+m
variable {h : a_} {b B : Nat} {v : V} {c1 G c2 : List V} {a g m : Nat}
theorem Y6.l(k:Y6 h b B v c1 G c2 a g m){S:List Nat}(f:Fr S h h')(hb:b∉S)(hB:B∉S):Y6 h' b B v c1 G c2 a g m:=
 ⟨f.I _ _ hb k.c,k.d.fr f hB,k.e,k.n,k.j,k.q,k.r,k.i,k.t,k.p,k.o⟩
theorem Gp.l{n:Nat}{l:List V}(k:Gp h b B n l){S:List Nat}(f:Fr S h h')(K:b∉S)(Z:B∉S):Gp h' b B n l:=by let⟨v,c1,G,c2,a,g,m,k,e⟩:=k;exact⟨v,c1,G,c2,a,g,m,k.l f K Z,e⟩
theorem Gp.u{n:Nat}{l:List V}(k:Gp h b B n l):l.length=n*4/\n<=4096/\aw l=true:=by obtain⟨v,c1,G,c2,a,g,m,k,rfl,rfl⟩:=k;have:=k.e;have:=k.j;have:=k.p;exact⟨by simp;omega,oM,by rw[aW,k.q,k.r];rfl⟩
theorem d9(k:Y6 h b B v c1 G c2 a g m):ao go 64 [.u b 0] h fun u h'=>u=ZZ ((a+m:Nat):Int)/\h=h':=by have Z:=k.c.j 0;have l2:=k.c.j 2;have nb:=k.t;simp[bO,cL]at Z l2;refine ah ?_;simp(disch:=omega) only[b_,seval,DF,j_,ag,Z,l2,k.d.t_];congr 1;omega
def BF(n:Nat)(at' k:Int):Int:=if at'<0\/k<0\/(n:Int)<at'\/(n:Int)-at'<k then 4 else 0
theorem mK(k:Y6 h b B v c1 G c2 a g m)(i n:Int):ao go 89 [.u b 0,ZZ i,ZZ n] h fun u h'=>u=ZZ (BF (a+m) i n)/\h=h':=by unfold BF;by_cases x1:i<0;refine ah ?_;simp only[b_,seval,x1];simp;by_cases x2:n<0;refine ah ?_;simp only[b_,seval,x1,x2];simp;have am:=k.p;by_cases x3:((a+m:Nat):Int)<i;refine ah ?_;simp only[b_,seval,x1,x2];refine aa (d9 k) ?_;rintro _ _ ⟨rfl,rfl⟩;simp only[b_,seval,x3];simp;by_cases x4:((a+m:Nat):Int)-i<n;refine ah ?_;simp only[b_,seval,x1,x2];refine aa (d9 k) ?_;rintro _ _ ⟨rfl,rfl⟩;simp only[b_,seval,x3];refine aa (d9 k) ?_;rintro _ _ ⟨rfl,rfl⟩;simp(disch:=omega) only[b_,seval,ag,x4];simp;refine ah ?_;simp only[b_,seval,x1,x2];refine aa (d9 k) ?_;rintro _ _ ⟨rfl,rfl⟩;simp only[b_,seval,x3];apply aa (d9 k);rintro _ _ ⟨rfl,rfl⟩;simp(disch:=omega) only[b_,seval,ag,x4];simp
theorem Hr(k:Y6 h b B v c1 G c2 a g m)(i:Nat)(Z:i<=4096):ao go 90 [.u b 0,ZZ (i:Int)] h fun u h'=>u=ZZ ((if a<=i then i+g else i:Nat):Int)/\h=h':=by have l1:=k.c.j 1;have l2:=k.c.j 2;have nb:=k.t;simp[bO,cL]at l1 l2;by_cases c:a<=i;refine ah ?_;simp(disch:=omega) only[b_,seval,ag,l1,l2,(oM:(a:Int)<=(i:Int))];rw[if_pos c];simp;refine ah ?_;simp only[b_,seval,l1,(oM:¬(a:Int)<=(i:Int))];rw[if_neg c]
theorem KB{n i:Nat}(h:i<n):BF n i 1=0:=by unfold BF;rw[if_neg];omega
theorem Mx(c1 G c2:List α)(a g i k:Nat)(l1:c1.length=a*k)(lg:G.length=g*k):
 ((c1++G++c2).drop ((if a<=i then i+g else i) *k)).take k=((c1++c2).drop (i*k)).take k:=by
 by_cases c:a<=i;rw[if_pos c];obtain⟨j,rfl⟩:∃j,i=a+j:=⟨i-a,oM⟩;have K:(a+j+g) *k=(c1++G).length+j*k:=by grind
 have Z:(a+j) *k=c1.length+j*k:=by rw[l1,Yi]
 rw[K,Z,Xm,Xm];rw[if_neg c];have e:i*k+k<=c1.length:=by rw[l1,<-Yq];exact WW _ oM
 rw[WU,Xj oM,Xi oO,Xj oM,Xi oO]
theorem Y6.w(k:Y6 h b B v c1 G c2 a g m){i:Nat}(hi:i<a+m):
 aP (.c 4) [v,ZZ ((if a<=i then i+g else i:Nat):Int)]=some (.u B ((if a<=i then i+g else i) *4))/\aj h B ((if a<=i then i+g else i) *4) 4=some (((c1++c2).drop (i*4)).take 4):=by
 have K:(if a<=i then i+g else i)<a+g+m:=by split<;>omega
 obtain⟨Z,⟨rfl,z⟩|⟨rfl,o⟩⟩:=k.d;omega;refine⟨?_,?_⟩;rw[dh _ _ _ _ _ _ _ oM oM];simp;rw[o.N,bQ,bN,Mx c1 G c2 a g i 4 k.e k.n];simp only[Yl,Z];omega
theorem OJ{l:List V}{n i:Nat}(hl:l.length=n*4)(hi:i<n)(K:aw l=true):∃x y z u,(l.drop (i*4)).take 4=[x,y,z,u]/\aw [x,y,z,u]=true:=by
 have e:((l.drop (i*4)).take 4).length=4:=by simp;omega
 have Z:=eY 4 (dY (i*4) K);match q:(l.drop (i*4)).take 4,e with
 |[x,y,z,u],_=>exact⟨x,y,z,u,rfl,by rw[q]at Z;exact Z⟩
theorem Y6.s(k:Y6 h b B v c1 G c2 a g m):(c1++c2).length=(a+m) *4/\aw (c1++c2)=true:=by have:=k.e;have:=k.j;exact⟨by simp;omega,by rw[aW,k.q,k.r];rfl⟩
theorem Ia(w:WF h)(k:Y6 h b B v c1 G c2 a g m){i:Nat}(hi:i<a+m):ao go 40 [.u b 0,ZZ (i:Int)] h fun u h'=>Fr [] h h'/\u=.D [.B (((c1++c2).drop (i*4)).take 4),ZZ 0]:=by
 have am:=k.p;let⟨x,y,z,u,ec,eo⟩:=OJ k.s.1 hi k.s.2;let⟨h1,ae,Z,ac⟩:=aq w [ZX 0,ZY 0,.f [],.r];have K:=k.l Z iS iS;refine ah ?_;simp[b_,<-ae];refine aa (mK K i 1) ?_;rintro _ _ ⟨rfl,rfl⟩;simp[b_,j_,KB hi];have l0:=K.c.j 0;simp[bO]at l0;have nh:h.e≠b:=by have:=k.c.lt w;omega
 simp[b_,j_,l0];apply aa (Hr K i oM);rintro _ _ ⟨rfl,rfl⟩;have⟨a1,a2⟩:=K.w hi;rw[ec]at a2;simp[b_,j_,a1,a2];refine ai Z.o ac rfl eo rfl ?_;rintro h2 o2 F2 n2;have af:ab h2 b 0=some v:=(F2.I b _ oO K.c).j 0;have ak:aj h2 B ((if a<=i then i+g else i) *4) 4=some [x,y,z,u]:=by
  obtain⟨hl,⟨rfl,z⟩|⟨rfl,o⟩⟩:=K.d;omega;have ne:B≠h.e:=by obtain⟨_,⟨q,_⟩|⟨_,q⟩⟩:=k.d;cases q;have:=q.lt w;omega
  have o':=F2.I B _ (eV ne) o;rw[o.N]at a2;rw[o'.N];exact a2
 simp only[b_,seval,DF,j_,l0,a2,o2.N];exact⟨Z.z F2 w (VZ _),by rw[ec]⟩
variable {h : a_} {b B : Nat} {v : V} {c1 G c2 : List V} {a g m : Nat}
theorem K2{c1 G c2:List α}{p g a:Nat}(l1:c1.length=a*4)(lg:G.length=g*4)(hp:p<=a)(Z:List α)
 (e:Z=(c1++G++c2).take ((p+g) *4)++((c1++G++c2).drop (p*4)).take ((a-p) *4)++(c1++G++c2).drop ((p+g) *4+(a-p) *4)):
 Z.take (p*4)=c1.take (p*4)/\Z.drop (p*4+g*4)=c1.drop (p*4)++c2:=by
 have hl:(p+g) *4<=(c1++G++c2).length:=by simp;omega
 have h1:((c1++G++c2).take ((p+g) *4)).length=p*4+g*4:=by grind
 have h2:((c1++G++c2).drop (p*4)).take ((a-p) *4)=c1.drop (p*4):=by rw[WU,Xj oM,Xi oO];exact Wj oO
 have K:(c1++G++c2).drop ((p+g) *4+(a-p) *4)=c2:=by rw[(oO:(p+g) *4+(a-p) *4=(c1++G).length)];exact Ye
 subst e;rw[h2,K];refine⟨?_,?_⟩;grind;grind
theorem K1{c1 G c2:List α}{p g a m:Nat}(l1:c1.length=a*4)(lg:G.length=g*4)(l2:c2.length=m*4)(hp:a<=p)(hm:p<=a+m)(Z:List α)
 (e:Z=(c1++G++c2).take (a*4)++((c1++G++c2).drop ((a+g) *4)).take ((p+g-(a+g)) *4)++(c1++G++c2).drop (a*4+(p+g-(a+g)) *4)):
 Z.take (p*4)=c1++c2.take ((p-a) *4)/\Z.drop (p*4+g*4)=c2.drop ((p-a) *4):=by
 have K:(c1++G++c2).take (a*4)=c1:=by grind
 have h2:((c1++G++c2).drop ((a+g) *4)).take ((p+g-(a+g)) *4)=c2.take ((p-a) *4):=by rw[(oO:(a+g) *4=(c1++G).length),Ye,(oM:p+g-(a+g)=p-a)]
 have h3:(c1++c2.take ((p-a) *4)).length=p*4:=by simp;omega
 have h4:p+g-(a+g)=p-a:=oM;subst e;rw[K,h2];refine⟨?_,?_⟩;grind;rw[(oM:p*4+g*4=(c1++c2.take ((p-a) *4)).length+g*4),Xm,Xx,h4,(oO:a*4+(p-a) *4+g*4=(c1++G).length+(p-a) *4),Xm]
theorem V_.e{z:List V}(h:V_ z):∀n,V_ (bq z n)
 |0=>by rw[gZ];intro x m;simp at m
 |n+1=>by rw[fX];exact h.d (V_.e h n)
theorem V_.i:V_ Z4:=by intro x m n;simp at m;obtain rfl|rfl|rfl|rfl:=m<;>simp
theorem IJ(w:WF h)(k:Y6 h b B v c1 G c2 a g m){p:Nat}(hp:p<=a+m):ao go 158 [.u b 0,ZZ (p:Int)] h fun u h'=>u=.D []/\
 Y6 h' b B v ((c1++c2).take (p*4)) (bq Z4 g) ((c1++c2).drop (p*4)) p g (a+m-p)/\Fr [b,B] h h':=by
 have l0:ab h b 0=some v:=k.c.j 0;have l1:ab h b 1=some (ZZ (a:Int)):=k.c.j 1;have l2:ab h b 2=some (ZZ (g:Int)):=k.c.j 2;have nb:=k.t;have am:=k.p;have tot:=k.s;have ak:V_ (c1++c2):=k.o.c fun x m=>by simp at m|-;obtain m|m:=m<;>simp[m]
 have tl:=k.e;have tg:=k.n;have ar:=k.j;by_cases c:p<a;let⟨u1,e1,s1,d1⟩:=k.d.from oM .i64 ((p:Int)+g) (p+g) oM oM;let⟨u2,e2,s2,d2⟩:=k.d.range oM .i64 .i64 p a p a rfl rfl oM oM;have⟨ac,ae⟩:=K2 (c2:=c2) k.e k.n (Nat.le_of_lt c) _ rfl;have z1:(c1++c2).take (p*4)=c1.take (p*4):=Xi oM;have z2:(c1++c2).drop (p*4)=c1.drop (p*4)++c2:=Xj oM;rw[<-z1]at ac;rw[<-z2]at ae;refine ah ?_;simp(disch:=omega)[b_,j_,ag,l0,l1,l2,e1,e2,(oM:(p:Int)<(a:Int))];refine j8 oM w d1 s2 ?_ oM k.d ?_;rw[WU,Xj oM,Xi oO];exact eY _ (dY _ k.q);rintro h1 t1 F1 n1;have af:=F1.I b _ (eV k.i.symm) k.c;have an:ab h1 b 0=some v:=af.j 0;simp[b_,DF,l0,l1,l2];apply B_ F1.o af;rintro h2 o2 F2 n2;have t2:=t1.fr F2 (eV k.i);have K:ab h2 b 0=some v:=o2.j 0;have Z:ab h2 b 2=some (ZZ (g:Int)):=o2.j 2;let⟨u3,e3,s3,d3⟩:=t2.range oM .i64 .i64 p ((p:Int)+g) p (p+g) rfl oM oM oM;simp(disch:=omega)[b_,j_,ag,K,Z,e3];apply BR F2.o d3 rfl rfl t2;rintro h3 t3 F3 n3;rw[(oM:p+g-p=g),ac,ae]at t3;simp[b_,DF,K,Z];refine⟨⟨F3.I b _ (eV k.i.symm) o2,?_,by simp;omega,dV _ _,by simp;omega,eY _ tot.2,dY _ tot.2,k.i,oM,oM,((ak.c fun x m=>WX m).d (V_.e V_.i g)).d (ak.c fun x m=>WR m)⟩,?_⟩;grind;refine Wp (T:=[b,B]) (Wp (T:=[b,B]) F1 F2 w ?_ ?_) F3 w ?_ ?_<;>intro x hx<;>simp at hx|- <;>omega
 let⟨u1,e1,s1,d1⟩:=k.d.from oM .i64 (a:Int) a rfl oM;let⟨u2,e2,s2,d2⟩:=k.d.range oM .i64 .i64 ((a:Int)+g) ((p:Int)+g) (a+g) (p+g) oM oM oM oM;have⟨ac,ae⟩:=K1 k.e k.n k.j (Nat.le_of_not_lt c) hp _ rfl;have z1:(c1++c2).take (p*4)=c1++c2.take ((p-a) *4):=by rw[(oM:p*4=c1.length+(p-a) *4),YQ]
 have z2:(c1++c2).drop (p*4)=c2.drop ((p-a) *4):=by rw[(oM:p*4=c1.length+(p-a) *4),Xm]
 rw[<-z1]at ac;rw[<-z2]at ae;refine ah ?_;simp(disch:=omega)[b_,j_,ag,l0,l1,l2,e1,e2,(oM:¬(p:Int)<(a:Int))];refine j8 oM w d1 s2 ?_ oM k.d ?_;rw[(oO:(a+g) *4=(c1++G).length),Ye];exact eY _ k.r;rintro h1 t1 F1 n1;have af:=F1.I b _ (eV k.i.symm) k.c;have an:ab h1 b 0=some v:=af.j 0;simp[b_,DF,l0,l1,l2];apply B_ F1.o af;rintro h2 o2 F2 n2;have t2:=t1.fr F2 (eV k.i);have K:ab h2 b 0=some v:=o2.j 0;have Z:ab h2 b 2=some (ZZ (g:Int)):=o2.j 2;let⟨u3,e3,s3,d3⟩:=t2.range oM .i64 .i64 p ((p:Int)+g) p (p+g) rfl oM oM oM;simp(disch:=omega)[b_,j_,ag,K,Z,e3];apply BR F2.o d3 rfl rfl t2;rintro h3 t3 F3 n3;rw[(oM:p+g-p=g),ac,ae]at t3;simp[b_,DF,K,Z];refine⟨⟨F3.I b _ (eV k.i.symm) o2,?_,by simp;omega,dV _ _,by simp;omega,eY _ tot.2,dY _ tot.2,k.i,oM,oM,((ak.c fun x m=>WX m).d (V_.e V_.i g)).d (ak.c fun x m=>WR m)⟩,?_⟩;rw[(oM:p+g+(a+m-p)=a+g+m)];exact t3;refine Wp (T:=[b,B]) (Wp (T:=[b,B]) F1 F2 w ?_ ?_) F3 w ?_ ?_<;>intro x hx<;>simp at hx|- <;>omega
variable {h : a_} {b B : Nat} {v : V} {c1 G c2 : List V} {a g m : Nat}
theorem Ml{c1 c2 Z:List α}{a g m:Nat}(l1:c1.length=a*4)(l2:c2.length=m*4)(lz:Z.length=(a+m+g) *4):
 (Z.take 0++c1++Z.drop (0+a*4)).take ((a+g) *4)++c2++(Z.take 0++c1++Z.drop (0+a*4)).drop ((a+g) *4+m*4)=c1++(Z.drop (a*4)).take (g*4)++c2:=by
 simp only[YZ,XO,WG];have K:(c1++Z.drop (a*4)).length=(a+g) *4+m*4:=by simp;omega
 rw[<-K,XR,Xg,(oM:(a+g) *4=c1.length+g*4),YQ]
theorem S6.fr'{e:Nat}{h:a_}{v:V}{B N:Nat}{C:List V}{S:List Nat}(a:S6 e h v B C N)(f:Fr S h h')(K:v=.r\/B∉S):S6 e h' v B C N:=by obtain⟨Z,⟨rfl,rfl⟩|⟨rfl,o⟩⟩:=a;exact⟨Z,.inl ⟨rfl,rfl⟩⟩;obtain q|q:=K;cases q;exact⟨Z,.inr ⟨rfl,f.I _ _ q o⟩⟩
theorem DQ(w:WF h)(k:Y6 h b B v c1 G c2 a g m){n:Nat}(hn:a+m+n<=4096):ao go 159 [.u b 0,ZZ (n:Int)] h fun u h'=>u=.D []/\
 ∃B' v' G' g',(B'=B\/h.e<=B')/\Y6 h' b B' v' c1 G' c2 a g' m/\n<=g'/\Fr [b] h h':=by
 have l0:ab h b 0=some v:=k.c.j 0;have l1:ab h b 1=some (ZZ (a:Int)):=k.c.j 1;have l2:ab h b 2=some (ZZ (g:Int)):=k.c.j 2;have nb:=k.t;have am:=k.p;have blt:=k.c.lt w;by_cases c:n<=g;refine ah ?_;simp only[b_,seval,l2,(oM:(n:Int)<=(g:Int))];exact⟨B,v,G,g,.inl rfl,k,c,Wl w⟩;have hq:(a+g+m)/2<=4104:=oM;have q:aP (.e .quo) [ZZ ((a+g+m:Nat):Int),ZZ 2]=some (ZZ (((a+g+m)/2:Nat):Int)):=by rw[qL _ _ _ dI,(iR:(((a+g+m:Nat):Int)).tdiv 2=(((a+g+m)/2:Nat):Int)),ag _ oM oM]
 generalize(a+g+m)/2=d at q hq;refine ah ?_;simp(disch:=omega) only[b_,seval,ag,l0,l2,(oM:¬(n:Int)<=(g:Int)),k.d.t_,q];refine aa (d9 k) ?_;rintro _ _ ⟨rfl,rfl⟩;simp(disch:=omega) only[b_,seval,ag];rw[(oM:((a+m:Nat):Int)+(↑n+ ↑d+8)=((a+m+(n+d+8):Nat):Int))];refine(bV _ _ _ _ _ _ _ _ oM oM oM oM).2 ?_;simp only[pi];have ln:(bq Z4 (a+m+(n+d+8))).length=(a+m+(n+d+8)) *4:=dV _ _;obtain⟨h1,K⟩:∃h1,h1=h_ h (bq [ZX 0,ZY 0,.f [],.r] (a+m+(n+d+8))):=⟨_,rfl⟩;have ac:Fr [] h h1:=K▸WA w _;have ae:e_ h1 h.e (bq Z4 (a+m+(n+d+8))):=K▸Xc w _;rw[<-K];clear K;have nz:V_ (bq Z4 (a+m+(n+d+8))):=V_.e V_.i _;generalize bq Z4 (a+m+(n+d+8))=Z at ln ae nz;have k1:=k.l ac iS iS;have l0:ab h1 b 0=some v:=k1.c.j 0;have l1:ab h1 b 1=some (ZZ (a:Int)):=k1.c.j 1;have l2:ab h1 b 2=some (ZZ (g:Int)):=k1.c.j 2;have tz:S6 4 h1 (.y h.e 0 (a+m+(n+d+8)) (a+m+(n+d+8))) h.e Z (a+m+(n+d+8)):=⟨ln,.inr ⟨rfl,ae⟩⟩;have nB:v=.r\/B≠h.e:=by obtain⟨_,⟨q,_⟩|⟨_,q⟩⟩:=k.d;exact .inl q;right;have:=q.lt w;omega
 let⟨u2,e2,s2⟩:=k1.d.upto oM .i64 (a:Int) a rfl oM;rw[WU,<-k.e,YH]at s2;have d1:Dst 4 h1 h.e Z (.y h.e 0 (a+m+(n+d+8)) (a+m+(n+d+8))) 0 (a+m+(n+d+8)):=⟨oM,.inr ⟨_,rfl,ae⟩⟩;simp only[b_,seval,j_,l0,l1,e2];apply j8 oM ac.o d1 s2 k.q oM tz;rintro h2 t2 F2 n2;have af:=F2.I b _ oO k1.c;have aJ:S6 4 h2 v B (c1++G++c2) (a+g+m):=k1.d.fr' F2 (nB.imp id iS);let⟨u3,e3,s3,_⟩:=aJ.from oM .i64 ((a:Int)+g) (a+g) oM oM;let⟨u4,e4,_,d4⟩:=t2.from oM .i64 ((a:Int)+(n+d+8)) (a+(n+d+8)) oM oM;have az:Sl h2 4 u3 m c2:=by rw[(oM:a+g+m-(a+g)=m),show(a+g) *4=(c1++G).length by simp[k.e,k.n];omega,Ye]at s3;rwa[Wj (by rw[k.j];omega)]at s3
 have an:ab h2 b 0=some v:=af.j 0;have ak:ab h2 b 1=some (ZZ (a:Int)):=af.j 1;have ax:ab h2 b 2=some (ZZ (g:Int)):=af.j 2;simp(disch:=omega) only[b_,seval,DF,j_,ag,l0,l1,an,ak,ax,e3,e4];apply j8 oM F2.o d4 az k.r oM t2;rintro h3 t3 F3 n3;rw[Ml k.e k.j (by rw[ln])]at t3;have ar:=F3.I b _ oO af;have aN:ab h3 b 0=some v:=ar.j 0;simp only[b_,seval,DF,an,ak,ax];apply B_ F3.o ar;rintro h4 ay F4 n4;simp only[b_,seval];apply B_ F4.o ay;rintro h5 aH F5 n5;simp only[b_];refine⟨h.e,.y h.e 0 (a+m+(n+d+8)) (a+m+(n+d+8)),(Z.drop (a*4)).take ((n+d+8) *4),n+d+8,.inr (VZ _),⟨aH,?_,k.e,?_,k.j,k.q,k.r,oM,oM,oM,((k.o.c fun x m=>by simp[m]).d (nz.c fun x m=>WR (WX m))).d (k.o.c fun x m=>by simp[m])⟩,oM,?_⟩;have t5:=(t3.fr F4 oO).fr F5 oO;rw[(oM:a+m+(n+d+8)=a+(n+d+8)+m)]at t5|-;exact t5;simp[ln];omega;have f1:Fr [h.e] h h2:=Wp ac F2 w iS iS;have f2:Fr [h.e] h h3:=Wp f1 F3 w iS iS;have f3:Fr [b] h h3:=⟨f2.e,f2.o,fun x c hx o=>f2.I x c (by have:=o.lt w;simp;omega) o,fun x c hx o=>f2.pl x c (by have:=o.I.lt w;simp;omega) o,f2.lp,f2.ro⟩;exact Wp (Wp f3 F4 w (fun x hx=>.inl hx) (fun x hx=>.inl hx)) F5 w (fun x hx=>.inl hx) (fun x hx=>.inl hx)
variable {h : a_} {b B : Nat}
theorem CW{n p:Nat}(h:p<=n):BF n p 0=0:=by unfold BF;rw[if_neg];omega
theorem Pr{c1 G c2 Z:List α}{p q:Nat}(l1:c1.length=p*4)(K:Z.length=q*4)(lg:q*4<=G.length):
 (c1++G++c2).take (p*4)++Z++(c1++G++c2).drop (p*4+q*4)=(c1++Z)++G.drop (q*4)++c2:=by
 rw[<-l1,WU c1 G c2,YH,Xm,Xj lg];simp
theorem BG{n q p:Nat}{l xs:List V}{u:V}(w:WF h)(k:Gp h b B n l)(s:∀h',Fr [b,B] h h'->Sl h' 4 u q xs)(ox:aw xs=true)(nx:V_ xs)(hp:p<=n)(hq:n+q<=4096):
 ao go 100 [.u b 0,ZZ (p:Int),u] h fun z h'=>z=ZZ 0/\∃B',(B'=B\/h.e<=B')/\Gp h' b B' (n+q) (l.take (p*4)++xs++l.drop (p*4))/\Fr [b,B] h h':=by
 obtain⟨v,c1,G,c2,a,g,m,k,rfl,rfl⟩:=k;have s0:=s h (Wl w);have lx:=s0.1;have am:=k.p;by_cases c0:q=0;subst c0;refine ah ?_;simp only[b_,↓reduceIte,Nat.reduceEqDiff,Nat.reduceAdd];refine aa (mK k (p:Int) 0) ?_;rintro _ _ ⟨rfl,rfl⟩;simp only[b_,↓reduceIte,Nat.reduceEqDiff,CW hp,s0.t_];apply aa (d9 k);rintro _ _ ⟨rfl,rfl⟩;simp(disch:=omega) only[b_,↓reduceIte,Nat.reduceEqDiff,ag,(oM:¬(4096-((a+m:Nat):Int)<((0:Nat):Int))),s0.t_,(iS:(((0:Nat):Int)=0)=True)];have Z:xs=[]:=Wu.1 oM;subst Z;refine⟨B,.inl rfl,⟨v,c1,G,c2,a,g,m,k,iS,oM⟩,Wl w⟩;have nh:4096-((a+m:Nat):Int)<(q:Int)↔False:=by simp;omega
 have nz:(q:Int)=0↔False:=by simp;omega
 have sl:=s0.t_;refine ah ?_;simp only[b_,↓reduceIte,Nat.reduceEqDiff,Nat.reduceAdd];refine aa (mK k (p:Int) 0) ?_;rintro _ _ ⟨rfl,rfl⟩;simp only[b_,↓reduceIte,Nat.reduceEqDiff,CW hp,sl];apply aa (d9 k);rintro _ _ ⟨rfl,rfl⟩;simp(disch:=omega) only[b_,↓reduceIte,Nat.reduceEqDiff,ag,nh,sl,nz];apply aa (IJ w k hp);rintro _ h1 ⟨rfl,k1,F1⟩;simp only[b_,↓reduceIte,Nat.reduceEqDiff,sl];apply aa (DQ F1.o k1 (n:=q) oM);rintro _ h2 ⟨rfl,B',v',G',g',hB,K,hg,F2⟩;have ae:Fr [b,B] h h2:=Wp F1 F2 w (fun x Z=>.inl Z) (fun x Z=>.inl (by simp at Z;simp[Z]));have s2:=s h2 ae;have l0:ab h2 b 0=some v':=K.c.j 0;have l1:ab h2 b 1=some (ZZ (p:Int)):=K.c.j 1;have ar:=K.t;let⟨u1,e1,_,d1⟩:=K.d.from oM .i64 (p:Int) p rfl oM;simp only[b_,↓reduceIte,Nat.reduceEqDiff,j_,l0,l1,e1];apply j8 oM F2.o d1 s2 ox oM K.d;rintro h3 t3 F3 n3;rw[Pr K.e lx (by rw[K.n];omega)]at t3;have af:=F3.I b _ (eV K.i.symm) K.c;have an:ab h3 b 1=some (ZZ (p:Int)):=af.j 1;simp(disch:=omega) only[b_,j_,ag];apply B_ F3.o af;rintro h4 ac F4 n4;have l2:ab h4 b 2=some (ZZ (g':Int)):=ac.j 2;simp(disch:=omega) only[b_,↓reduceIte,Nat.reduceEqDiff,DF,ag,l0,l1,an,l2,sl];refine ai (c':=[v',ZZ ((p+q:Nat):Int),ZZ ((g'-q:Nat):Int)]) F4.o ac rfl rfl (by rw[(oM:((g'-q:Nat):Int)=(g':Int)-q)];rfl) ?_;rintro h5 ak F5 n5;simp only[b_,↓reduceIte];have ne:=K.i;have tl:=K.e;have tg:=K.n;have t2:=K.j;refine⟨B',hB.imp id (fun q=>Wy F1.e q),⟨v',(c1++c2).take (p*4)++xs,G'.drop (q*4),(c1++c2).drop (p*4),p+q,g'-q,a+m-p,⟨ak,?_,?_,?_,t2,?_,K.r,ne,oM,oM,((V_.d (K.o.c fun x m=>by simp[m]) nx).d (K.o.c fun x m=>by simp[WR m])).d (K.o.c fun x m=>by simp[m])⟩,iS,oM⟩,?_⟩;exact(oM:p+g'+(a+m-p)=p+q+(g'-q)+(a+m-p))▸(t3.fr F4 (eV ne)).fr F5 (eV ne);rw[Wq];omega;rw[Yl];omega;rw[aW,K.q,ox];rfl;have f3:Fr [b,B] h h3:=Wp ae F3 w (fun x Z=>.inl Z) (fun x Z=>by
  simp at Z;subst Z;obtain rfl|hB:=hB;exact .inl iS;exact .inr (Wy F1.e hB))
 exact Wp (Wp f3 F4 w (fun x Z=>.inl Z) (fun x Z=>.inl (by simp at Z;simp[Z]))) F5 w (fun x Z=>.inl Z) (fun x Z=>.inl (by simp at Z;simp[Z]))
theorem Fr.new{h h1 h2:a_}{S:List Nat}(w:WF h)(f1:Fr [] h h1)(f2:Fr S h1 h2)(hs:∀x∈S,h.e<=x):Fr [] h h2:=
 Wp f1 f2 w (fun x hx=>.inl hx) (fun x hx=>.inr (hs x hx))
variable {h : a_} {b B : Nat}
theorem Ad{n:Nat}{l:List V}(k:Gp h b B n l):ao go 64 [.u b 0] h fun u h'=>u=ZZ (n:Int)/\h=h':=by obtain⟨v,c1,G,c2,a,g,m,k,rfl,rfl⟩:=k;exact d9 k
theorem N8{c1 c2 Z:List α}{a m:Nat}(l1:c1.length=a*4)(l2:c2.length=m*4)(lz:Z.length=(a+m) *4):
 (Z.take 0++c1++Z.drop (0+a*4)).take (a*4)++c2++(Z.take 0++c1++Z.drop (0+a*4)).drop (a*4+m*4)=c1++c2:=by
 simp only[YZ,XO,WG];have K:(c1++Z.drop (a*4)).length=a*4+m*4:=by simp;omega
 rw[<-K,XR,Xg,<-l1,YH]
theorem H8{n:Nat}{l:List V}(w:WF h)(k:Gp h b B n l):ao go 62 [.u b 0] h fun u h'=>∃b',h.e<=b'/\S6 4 h' u b' l n/\Fr [] h h':=by
 obtain⟨v,c1,G,c2,a,g,m,k,rfl,rfl⟩:=k;have am:=k.p;have nb:=k.t;have blt:=k.c.lt w;have tot:=k.s;by_cases c0:a+m=0;refine ah ?_;simp[b_];refine aa (d9 k) ?_;rintro _ _ ⟨rfl,rfl⟩;simp only[b_,seval,(oO:(((a+m:Nat):Int)=0)↔True)];exact⟨h.e,VZ _,⟨by rw[tot.1],.inl ⟨rfl,c0⟩⟩,Wl w⟩;have nz:(((a+m:Nat):Int)=0)↔False:=by simp;omega
 refine ah ?_;simp[b_];refine aa (d9 k) ?_;rintro _ _ ⟨rfl,rfl⟩;simp only[b_,seval,nz];apply aa (d9 k);rintro _ _ ⟨rfl,rfl⟩;simp only[b_];refine(bV _ _ _ _ _ _ _ _ oM oM oM oM).2 ?_;simp only[pi];have ln:(bq Z4 (a+m)).length=(a+m) *4:=dV _ _;obtain⟨h1,K⟩:∃h1,h1=h_ h (bq [ZX 0,ZY 0,.f [],.r] (a+m)):=⟨_,rfl⟩;have ac:Fr [] h h1:=K▸WA w _;have ae:e_ h1 h.e (bq Z4 (a+m)):=K▸Xc w _;rw[<-K];clear K;generalize bq Z4 (a+m)=Z at ln ae;have k1:=k.l ac iS iS;have l0:ab h1 b 0=some v:=k1.c.j 0;have l1:ab h1 b 1=some (ZZ (a:Int)):=k1.c.j 1;have l2:ab h1 b 2=some (ZZ (g:Int)):=k1.c.j 2;have tz:S6 4 h1 (.y h.e 0 (a+m) (a+m)) h.e Z (a+m):=⟨ln,.inr ⟨rfl,ae⟩⟩;have nB:v=.r\/B≠h.e:=by obtain⟨_,⟨q,_⟩|⟨_,q⟩⟩:=k.d;exact .inl q;right;have:=q.lt w;omega
 let⟨u2,e2,s2⟩:=k1.d.upto oM .i64 (a:Int) a rfl oM;rw[WU,<-k.e,YH]at s2;have d1:Dst 4 h1 h.e Z (.y h.e 0 (a+m) (a+m)) 0 (a+m):=⟨oM,.inr ⟨_,rfl,ae⟩⟩;simp[b_,j_,l0,l1,e2];apply j8 oM ac.o d1 s2 k.q oM tz;rintro h2 t2 F2 n2;have af:=F2.I b _ oO k1.c;have ay:S6 4 h2 v B (c1++G++c2) (a+g+m):=k1.d.fr' F2 (nB.imp id iS);let⟨u3,e3,s3,_⟩:=ay.from oM .i64 ((a:Int)+g) (a+g) oM oM;let⟨u4,e4,_,d4⟩:=t2.from oM .i64 (a:Int) a rfl oM;have ax:Sl h2 4 u3 m c2:=by rw[(oM:a+g+m-(a+g)=m),show(a+g) *4=(c1++G).length by simp[k.e,k.n];omega,Ye]at s3;rwa[Wj (by rw[k.j];omega)]at s3
 have an:ab h2 b 0=some v:=af.j 0;have ak:ab h2 b 1=some (ZZ (a:Int)):=af.j 1;have ar:ab h2 b 2=some (ZZ (g:Int)):=af.j 2;simp(disch:=omega)[b_,DF,j_,ag,l0,l1,an,ak,ar,e3,e4];apply j8 oM F2.o d4 ax k.r oM t2;rintro h3 t3 F3 n3;rw[N8 k.e k.j (by rw[ln])]at t3;simp[b_,DF,an,ak,ar];exact⟨h.e,VZ _,t3,Fr.new w ac (Wp F2 F3 ac.o (fun x hx=>.inl hx) (fun x hx=>.inl hx)) iS⟩
end Go.Ev.Lay
namespace Go.Ev
variable{h':a_}{esz:Nat}{cs:List V}
variable {call : aI}
theorem WF.c{h:a_}(w:WF h)(k:Y5):WF (V4 h k):=by intro p Z;have K:h.e+1<=p:=Z;have:=w p oM;exact⟨by show(h.S.A_ _ _).c_ p=none;rw[We _ _ oM];exact this.1,this.2⟩
theorem Fr.hnew{h:a_}(w:WF h)(k:Y5):Fr [] h (V4 h k) where
 e:=Nat.le_succ _
 o:=w.c k
 I:=fun b c _ o=>by have:=o.lt w;let⟨f,k',e,x⟩:=o;exact⟨f,k',by show(h.S.A_ _ _).c_ b=_;rw[T.v_ _ _ oM];exact e,x⟩
 pl:=fun b c _ o=>by have:=o.I.lt w;let⟨⟨k',e⟩,f⟩:=o;exact⟨⟨k',by show(h.S.A_ _ _).c_ b=_;rw[T.v_ _ _ oM];exact e⟩,f⟩
 lp:=fun b x _ e=>by
  have:b≠h.e:=by rintro rfl;rw[(w _ (Nat.le_refl _)).1]at e;cases e
  show(h.S.A_ _ _).c_ b=_;rw[T.v_ _ _ this];exact e
 ro:=fun b c r=>r.new w _
structure V5(S:List Nat)(B:Nat)(h h':a_):Prop where
 e:h.e<=h'.e
 i:WF h'
 d:∀b c,b∉S->e_ h b c->e_ h' b c
 o:∀b c,b∉S->Pl h b c->Pl h' b c
 n:∀b x,b≠B->Kv x=true->h.S.c_ b=some x->h'.S.c_ b=some x
 p:∀b c,Rs h b c->Rs h' b c
theorem Fr.b{S S':List Nat}{h:a_}{B:Nat}(f:Fr S' h h')(hs:∀x∈S',x∈S):V5 S B h h':=⟨f.e,f.o,fun b c hb o=>f.I b c (fun q=>hb (hs b q)) o,fun b c hb o=>f.pl b c (fun q=>hb (hs b q)) o,fun b x _ hx e=>f.lp b x hx e,f.ro⟩
theorem V5.c{S:List Nat}{h h1 h2:a_}{B:Nat}(a:V5 S B h h1)(b:V5 S B h1 h2):V5 S B h h2:=
 ⟨Wy a.e b.e,b.i,fun x c hx o=>b.d x c hx (a.d x c hx o),fun x c hx o=>b.o x c hx (a.o x c hx o),fun x k hx hk o=>b.n x k hx hk (a.n x k hx hk o),fun x c r=>b.p x c (a.p x c r)⟩
theorem V5.l{S:List Nat}{h:a_}(w:WF h){B:Nat}{x:Y5}(e:h.S.c_ B=some x)(hx:Kv x=true)(k:Y5):V5 S B h (Q6 h B k):=by
 have hB:B<h.e:=by obtain q|q:=WY B h.e;exact q;rw[(w B q).1]at e;cases e
 refine⟨VZ _,?_,?_,?_,?_,?_⟩;intro p hp;have K:h.e<=p:=hp;have:=w p K;exact⟨by show(h.S.A_ _ _).c_ p=none;rw[We _ _ oM];exact this.1,this.2⟩;rintro b c _ ⟨f,k',Z,y⟩;have:b≠B:=by rintro rfl;rw[e]at Z;cases Z;cases hx
 exact⟨f,k',by show(h.S.A_ _ _).c_ b=_;rw[We _ _ this];exact Z,y⟩;rintro b c _ ⟨⟨k',Z⟩,y⟩;have:b≠B:=by rintro rfl;rw[e]at Z;cases Z;cases hx
 exact⟨⟨k',by show(h.S.A_ _ _).c_ b=_;rw[We _ _ this];exact Z⟩,y⟩;intro b y hb hy Z;show(h.S.A_ _ _).c_ b=_;rw[We _ _ hb];exact Z;rintro b c ⟨f,k',ow,e1,e2,e3,e4⟩;have h1:b≠B:=by rintro rfl;rw[e]at e1;cases e1;cases hx
 have h2:ow≠B:=by grind
 exact⟨f,k',ow,by show(h.S.A_ _ _).c_ b=_;rw[We _ _ h1];exact e1,e2,by show(h.S.A_ _ _).c_ ow=_;rw[We _ _ h2];exact e3,e4⟩
theorem V5.j{S:List Nat}{B:Nat}{h h1 h2:a_}(w:WF h)(f:Fr [] h h1)(a:V5 S B h1 h2)(hs:∀x∈S,h.e<=x)(hB:h.e<=B):Fr [] h h2:=
 ⟨Wy f.e a.e,a.i,fun b c _ o=>a.d b c (fun q=>by have:=hs b q;have:=o.lt w;omega) (f.i o),fun b c _ o=>a.o b c (fun q=>by have:=hs b q;have:=o.I.lt w;omega) (f.pl b c iS o),
  fun b x hx e=>a.n b x (by rintro rfl;rw[(w _ hB).1]at e;cases e) hx (f.lp b x hx e),fun b c r=>a.p b c (f.ro b c r)⟩
theorem HX(h:a_)(B:Nat)(k:Y5):(Q6 h B k).S.c_ B=some k:=WI _ _ _
theorem ua(h:a_)(k:Y5):(V4 h k).S.c_ h.e=some k:=WI _ _ _
def A?(h:a_)(b:Nat)(c:List V):Prop:=e_ h b c\/Rs h b c
theorem A?.J_{h:a_}{b:Nat}{c:List V}(a:A? h b c):dR h b=some c:=by obtain o|⟨f,k,ow,K,Z,_⟩:=a;exact o.J_;simp only[dR,K,rd,Z,XU,Bool.or_true];rfl
theorem A?.j{h:a_}{b:Nat}{c:List V}(a:A? h b c)(o:Nat):ab h b o=X8 c o:=by simp[ab,a.J_]
theorem A?.N{h:a_}{b:Nat}{c:List V}(a:A? h b c)(o n:Nat):aj h b o n=dG n (gC c o):=by simp[aj,a.J_]
def T5(h:a_)(esz:Nat)(v:V)(n:Nat)(cs:List V):Prop:=
 cs.length=n*esz/\match v with
 |.r=>n=0
 |.L=>n=0
 |.sliceZ _ _=>n=0
 |.y b o len cap=>len=n/\n<=cap/\∃c,A? h b c/\o+n*esz<=c.length/\cs=(c.drop o).take (n*esz)
 |.G b o len e=>len=n/\e=esz/\∃c,A? h b c/\o+n*esz<=c.length/\cs=(c.drop o).take (n*esz)
 |_=>False
theorem Sl.a{h:a_}{v:V}{n:Nat}(a:Sl h esz v n cs):T5 h esz v n cs:=by
 let⟨hl,a⟩:=a;refine⟨hl,?_⟩;cases v with
 |y b o l k=>let⟨Z,K,c,o,x⟩:=a;exact⟨Z,K,c,.inl o,x⟩
 |G b o l k=>let⟨Z,K,c,o,x⟩:=a;exact⟨Z,K,c,.inl o,x⟩
 |sliceZ _ _=>exact a.elim
 |_=>exact a
theorem T5.map{h:a_}{v:V}{n:Nat}(a:T5 h esz v n cs)(f:∀b c,A? h b c->(cs≠[]->∃x∈cs,x∈c)->A? h' b c):T5 h' esz v n cs:=by
 let⟨hl,a⟩:=a;refine⟨hl,?_⟩;have key:∀(o:Nat)(c:List V),cs=(c.drop o).take (n*esz)->cs≠[]->∃x∈cs,x∈c:=by intro o c e hne;let⟨x,hx⟩:=List.exists_mem_of_ne_nil cs hne;exact⟨x,hx,WR (WX (e▸hx))⟩
 cases v with
 |y b o l k=>let⟨Z,K,c,oc,x1,x2⟩:=a;exact⟨Z,K,c,f b c oc (key o c x2),x1,x2⟩
 |G b o l k=>let⟨Z,K,c,oc,x1,x2⟩:=a;exact⟨Z,K,c,f b c oc (key o c x2),x1,x2⟩
 |_=>exact a
theorem T5.fr{h:a_}{v:V}{n:Nat}(a:T5 h esz v n cs)(f:Fr [] h h'):T5 h' esz v n cs:=a.map fun b c r _=>r.imp (fun o=>f.i o) (f.ro b c)
theorem T5.t_{h:a_}{v:V}{n:Nat}(a:T5 h esz v n cs):aP .d [v]=some (ZZ n):=by
 let⟨Z,a⟩:=a;cases v with
 |y b o l k=>obtain⟨rfl,_⟩:=a;rfl
 |G b o l k=>obtain⟨rfl,_⟩:=a;rfl
 |r=>have a:n=0:=a;subst a;rfl
 |L=>have a:n=0:=a;subst a;rfl
 |sliceZ _ _=>have a:n=0:=a;subst a;rfl
 |_=>exact a.elim
theorem T5.U{h:a_}{v:V}{n:Nat}(a:T5 h esz v n cs):v.U=true:=by
 let⟨Z,a⟩:=a;cases v with
 |y b o l k=>rfl
 |G b o l k=>rfl
 |r=>rfl
 |L=>rfl
 |sliceZ _ _=>rfl
 |_=>exact a.elim
theorem T5.ix{h:a_}{v:V}{n:Nat}(a:T5 h esz v n cs)(k:IntKind)(i:Int)(h0:0<=i)(h1:i<n):
 ∃b o,aP (.c esz) [v,.A k i]=some (.u b o)/\(∀j,j<esz->ab h b (o+j)=cs[i.toNat*esz+j]?)/\aj h b o esz=some ((cs.drop (i.toNat*esz)).take esz):=by
 let⟨hl,a⟩:=a;obtain⟨m,rfl⟩:∃m:Nat,i=m:=⟨i.toNat,oM⟩;have hm:m<n:=oM;have ac:m*esz+esz<=n*esz:=by rw[<-Yq];exact WW _ hm
 have K:∀(b o:Nat)(c:List V),A? h b c->o+n*esz<=c.length->cs=(c.drop o).take (n*esz)->
  (∀j,j<esz->ab h b (o+m*esz+j)=cs[m*esz+j]?)/\aj h b (o+m*esz) esz=some ((cs.drop (m*esz)).take esz):=by
  intro b o c hc Z e;subst e;constructor;intro j hj;rw[hc.j,eZ,XW,if_pos oM,Xk];congr 1;omega;rw[hc.N,bQ,bN _ _ oO,ZM,Xx,Yu];congr 2;omega
 cases v with
 |y b o l q=>obtain⟨rfl,_,c,hc,Z,e⟩:=a;exact⟨b,o+m*esz,dh _ _ _ _ _ _ _ h0 h1,K b o c hc Z e⟩
 |G b o l q=>obtain⟨rfl,rfl,c,hc,Z,e⟩:=a;exact⟨b,o+m*q,lK _ _ _ _ _ _ _ h0 h1,K b o c hc Z e⟩
 |r=>have a:n=0:=a;omega
 |L=>have a:n=0:=a;omega
 |sliceZ _ _=>have a:n=0:=a;omega
 |_=>exact a.elim
section
variable {α : Type} {f : α -> List V} {k : Nat}
def C_(f:α->List V)(k:Nat)(h:a_)(v:V)(L:List α):Prop:=T5 h k v L.length (L.flatMap f)
theorem q_.a{h:a_}{v:V}{L:List α}(a:q_ f k h v L):C_ f k h v L:=Sl.a a
theorem C_.fr{h:a_}{v:V}{L:List α}(a:C_ f k h v L)(r:Fr [] h h'):C_ f k h' v L:=T5.fr a r
theorem C_.t_{h:a_}{v:V}{L:List α}(a:C_ f k h v L):aP .d [v]=some (ZZ L.length):=T5.t_ a
theorem C_.U{h:a_}{v:V}{L:List α}(a:C_ f k h v L):v.U=true:=T5.U a
theorem C_.ix{h:a_}{v:V}{L:List α}(hf:∀x,(f x).length=k)(a:C_ f k h v L)(kd:IntKind)(i:Int)(h0:0<=i)(h1:i<L.length):
 ∃b o x,aP (.c k) [v,.A kd i]=some (.u b o)/\(∀j,j<k->ab h b (o+j)=(f x)[j]?)/\aj h b o k=some (f x)/\L[i.toNat]? =some x:=by
 let⟨b,o,e,g,g2⟩:=T5.ix a kd i h0 h1;have K:i.toNat<L.length:=oM;have e3:L[i.toNat]? =some L[i.toNat]:=by simp
 have ed:L.drop i.toNat=L[i.toNat]::L.drop (i.toNat+1):=Xf K;refine⟨b,o,L[i.toNat],e,fun j Z=>?_,?_,e3⟩;rw[g j Z,<-Xk,ef hf,ed,WH,XF (by rw[hf];exact Z)];rw[g2,ef hf,ed,WH];have:=hf L[i.toNat];rw[Zw,Wj oM,this];simp
end
end Go.Ev
namespace Go.Ev.Lay
variable{env:T V}{h':a_}{x0 x1 x2 x3 x4 vc va:V}
def ItQ(h:a_)(nx:Bool)(o:Option V)(K:V->a_->Prop):Prop:=∃d,o=some d/\OQ (ait h nx d) K
theorem uU{h:a_}(nx:Bool)(d:V)(K:V->a_->Prop):ItQ h nx (some d) K↔OQ (ait h nx d) K:=
 ⟨fun⟨_,e,k⟩=>by cases e;exact k,fun k=>⟨d,rfl,k⟩⟩
theorem Hu{call:aI}{Z:List V}{h:a_}(nx:Bool)(x:H_)(K:V->a_->Prop):OQ (aU call Z env h (.v nx x)) K↔ItQ h nx (E_ Z env x) K:=by
 simp[aU,OQ,ItQ];cases E_ Z env x with
 |none=>simp
 |some d=>simp
theorem M0{h:a_}(z:List UInt8)(K:V->a_->Prop):OQ (ait h false (.f z)) K↔K (.u h.e 0) (V4 h (.e z 0)):=cF _ _ _
theorem M1{h:a_}{b pos:Nat}{z:List UInt8}(hb:h.S.c_ b=some (.e z pos))(Z:¬pos<z.length)(K:V->a_->Prop):OQ (ait h true (.u b 0)) K↔K (.D [.h false]) h:=by
 show OQ (match h.S.c_ b with|some (.e z pos)=>_|_=>_) K↔_
 rw[hb];simp[if_neg Z];exact cF _ _ _
theorem Ku{h:a_}{b pos:Nat}{z:List UInt8}(hb:h.S.c_ b=some (.e z pos))(Z:pos<z.length)(K:V->a_->Prop):OQ (ait h true (.u b 0)) K↔
 K (.D [.h true,ZZ (pos:Int),.A .i32 ((Utf8.decode ⟨z.toArray⟩ pos).1:Int)]) (Q6 h b (.e z (pos+(Utf8.decode ⟨z.toArray⟩ pos).2))):=by
 show OQ (match h.S.c_ b with|some (.e z pos)=>_|_=>_) K↔_
 rw[hb];simp[if_pos Z];exact cF _ _ _
theorem _root_.Go.Ev.WF.d{h:a_}(w:WF h){b:Nat}{x:Y5}(hb:h.S.c_ b=some x)(y:Y5):WF (Q6 h b y):=by intro p K;let⟨Z,q2⟩:=w p K;refine⟨?_,q2⟩;show(h.S.A_ b y).c_ p=none;rw[Xr,if_neg (by rintro rfl;rw[hb]at Z;cases Z)];exact Z
theorem Fr.si{h:a_}(w:WF h){b pos pos':Nat}{z:List UInt8}(hb:h.S.c_ b=some (.e z pos)):Fr [] h (Q6 h b (.e z pos')) where
 e:=Nat.le_refl _
 o:=WF.d w hb _
 I:=fun x c _ ⟨f,k,e,q⟩=>⟨f,k,by
  show(h.S.A_ b _).c_ x=_;rw[T.Q0,if_neg (by rintro rfl;rw[hb]at e;cases e)];exact e,q⟩
 pl:=fun x c _ ⟨⟨k,e⟩,q⟩=>⟨⟨k,by
  show(h.S.A_ b _).c_ x=_;rw[T.Q0,if_neg (by rintro rfl;rw[hb]at e;cases e)];exact e⟩,q⟩
 lp:=fun x k hk e=>by show(h.S.A_ b _).c_ x=_;rw[T.Q0,if_neg (by rintro rfl;rw[hb]at e;cases e;cases hk)];exact e
 ro:=fun x c ⟨f,k,ow,e,q1,q2,q3⟩=>⟨f,k,ow,by
  show(h.S.A_ b _).c_ x=_;rw[T.Q0,if_neg (by rintro rfl;rw[hb]at e;cases e)];exact e,q1,by
  show(h.S.A_ b _).c_ ow=_;rw[T.Q0,if_neg (by rintro rfl;rw[hb]at q2;cases q2)];exact q2,q3⟩
def Ji(g:Nat)(p:Int->Bool):Prop:=g<1099511627776/\(∀(r:Int)(h:a_),ao go g [.A .i32 r] h fun u h'=>u=.h (p r)/\h=h')/\∀r:Int,128<=r->p r=true
def fD(p:Int->Bool)(z:List UInt8):Bool:=z.any fun b=>p (b.toNat:Int)
theorem Nj(z:List UInt8)(pos:Nat)(hp:pos<z.length)(p:Int->Bool)(Z:∀r:Int,128<=r->p r=true):
 (p ((Utf8.decode ⟨z.toArray⟩ pos).1:Int)=p ((z[pos]).toNat:Int))/\(p ((z[pos]).toNat:Int)=false->(Utf8.decode ⟨z.toArray⟩ pos).2=1):=by
 have K:pos<(ByteArray.mk z.toArray).size:=hp;have he:(ByteArray.mk z.toArray)[pos]'K=z[pos]:=rfl;by_cases c:(z[pos]).toNat<128;have:=Go.decode_ascii ⟨z.toArray⟩ pos K (by rw[he];exact c);rw[this,he];exact⟨rfl,fun _=>rfl⟩;have:=Go.decode_high ⟨z.toArray⟩ pos K (by rw[he];omega);rw[Z _ oM,Z _ oM];exact⟨rfl,fun e=>by cases e⟩
theorem wu{h:a_}{z:List UInt8}{g:Nat}{p:Int->Bool}(w:WF h)(P:Ji g p)(hz:z.length<16777216):
 ao go 258 [.f z,.E (.func g) [] [],.h true] h fun u h'=>∃r:Int,u=ZZ r/\(decide (0<=r)=fD p z)/\Fr [] h h':=by
 let⟨hg,hp,af⟩:=P;obtain⟨h1,Z⟩:∃h1,h1=V4 h (.e z 0):=⟨_,rfl⟩;have ac:Fr [] h h1:=Z▸Fr.hnew w _;have b1:h1.S.c_ h.e=some (.e z 0):=by rw[Z];exact ua _ _
 refine ah ?_;simp[b_,Hu,uU,M0,<-Z];refine aA (fun k env hh=>Fr [] h hh/\∃(i:Nat),env.c_ 10=some (.u h.e 0)/\env.c_ 1=some (.E (.func g) [] [])/\env.c_ 2=some (.h true)/\hh.S.c_ h.e=some (.e z i)/\
  i<=z.length/\fD p (z.drop i)=fD p z/\k=z.length-i) z.length oM ?_ ?_
 ·exact⟨ac,0,iS,iS,iS,b1,oM,rfl,rfl⟩
 ·rintro k env hh ⟨F,i,ae,g1,g2,bb,hi,e,rfl⟩;by_cases K:i<z.length
  ·have⟨d1,d2⟩:=Nj z i K p af;have F1:Fr [] hh (Q6 hh h.e (.e z (i+(Utf8.decode ⟨z.toArray⟩ i).2))):=Fr.si F.o bb;have b2:=HX hh h.e (.e z (i+(Utf8.decode ⟨z.toArray⟩ i).2));rw[Xf K]at e;simp only[b_,seval,ae,g1,Hu,uU,Ku bb K,hg];refine aa (hp _ _) ?_;rintro _ h2 ⟨rfl,rfl⟩;cases c:p ((z[i]).toNat:Int)
   ·have w1:=d2 c;rw[c]at d1;rw[w1]at F1 b2|-;simp only[b_,seval,d1,g2];unfold fD at e;rw[ZA,c,Yr]at e;refine s_ ⟨z.length-(i+1),oM,F.c F1,i+1,iX,iX,iX,b2,oM,e,rfl⟩
    done
   ·rw[c]at d1;simp only[b_,seval,d1,g2];unfold fD at e|-;rw[ZA,c,Bool.true_or]at e;exact⟨i,rfl,by rw[<-e];simp,F.c F1⟩
  ·simp only[b_,seval,ae,Hu,uU,M1 bb K];rw[Wo oM]at e;exact⟨-1,rfl,by rw[<-e];rfl,F⟩
theorem rA{h:a_}{z:List UInt8}{g:Nat}{p:Int->Bool}(w:WF h)(P:Ji g p)(K:z.length<16777216):
 ao go 150 [.f z,.E (.func g) [] []] h fun u h'=>u=.h (fD p z)/\Fr [] h h':=by
 refine ah ?_;simp[b_];refine aa (?_:ao go 209 _ _ (fun u h'=>∃r:Int,u=ZZ r/\(decide (0<=r)=fD p z)/\Fr [] h h')) ?_;refine ah ?_;simp[b_];refine aa (wu w P K) ?_;rintro _ Z ⟨r,rfl,e,F⟩;simp only[b_,seval];exact⟨r,rfl,e,F⟩;rintro _ Z ⟨r,rfl,e,F⟩;simp only[b_,seval];exact⟨by rw[e],F⟩
def i7(r:Int):Bool:=decide (r<32)||decide (126<r)
def dA(r:Int):Bool:=(decide (r<97)||decide (122<r))&&(decide (r<48)||decide (57<r))
theorem PF:Ji 151 i7:=⟨dI,fun r h=>by
 by_cases c:r<32;refine ah ?_;simp only[b_,seval,c];simp[i7,c];refine ah ?_;simp only[b_,seval,c];simp[i7,c],fun r hr=>by simp[i7];omega⟩
theorem PE:Ji 211 dA:=⟨dI,fun r h=>by
 by_cases c:r<97;by_cases d:r<48;refine ah ?_;simp only[b_,seval,c,d];simp[dA,c,d];refine ah ?_;simp only[b_,seval,c,d];simp[dA,c,d];by_cases c':(122:Int)<r;by_cases d:r<48;omega;refine ah ?_;simp only[b_,seval,c,d,c'];simp[dA,d,c'];refine ah ?_;simp only[b_,seval,c,c'];simp[dA,c,c'],fun r hr=>by simp[dA];omega⟩
def P8(z:List UInt8):Bool:=decide (z.length<=64)&& !fD i7 z
def G_(z:List UInt8):Bool:=decide (0<z.length)&&(decide (z.length<=16)&& !fD dA z)
theorem aK(a:List UInt8):aP .g [.f a]=some (ZZ (a.length:Nat)):=rfl
theorem bD(a b:List UInt8):aP (.B .neq) [.f a,.f b]=some (.h (!(a==b))):=rfl
theorem aS(a b:List UInt8):aP (.B .eql) [.f a,.f b]=some (.h (a==b)):=rfl
theorem lG(z:List UInt8):(z==[])=decide (z.length=0):=by cases z<;>rfl
theorem J9{h:a_}{z:List UInt8}(w:WF h):ao go 155 [.f z] h fun u h'=>u=.h (G_ z)/\Fr [] h h':=by by_cases Z:z.length=0;refine ah ?_;simp only[b_,seval,bD,lG,Z];exact⟨by simp[G_,Z],Wl w⟩;by_cases c1:z.length<=16;refine ah ?_;simp only[b_,seval,aK,bD,lG,Z,(oM:(z.length:Int)<=16)];refine aa (rA w PE oM) ?_;rintro _ K ⟨rfl,F⟩;simp only[b_,seval];exact⟨by simp[G_,c1];intro _;omega,F⟩;refine ah ?_;simp only[b_,seval,aK,bD,lG,Z,(oM:¬(z.length:Int)<=16)];exact⟨by simp[G_,c1],Wl w⟩
abbrev sS(s:List UInt8):List V:=[.f s]
theorem fW(s:List UInt8):(sS s).length=1:=rfl
theorem HA{h:a_}{z:List UInt8}(w:WF h):ao go 154 [.f z] h fun u h'=>u=.h (!G_ z)/\Fr [] h h':=by refine ah ?_;simp[b_];refine aa (J9 w) ?_;rintro _ Z ⟨rfl,F⟩;simp[b_];exact F
def Ln(g:Nat):Prop:=g<1099511627776/\∀(z:List UInt8)(h:a_),WF h->ao go g [.f z] h fun u h'=>u=.h (!G_ z)/\Fr [] h h'
theorem PJ:Ln 154:=⟨dI,fun _ _ w=>HA w⟩
theorem EF{h:a_}{v:V}{g:Nat}{L:List (List UInt8)}(P:Ln g)(w:WF h)(a:C_ sS 1 h v L)(hn:L.length<=4096):
 ao go 210 [v,.E (.func g) [] []] h fun u h'=>∃r:Int,u=ZZ r/\(decide (0<=r)= !L.all G_)/\Fr [] h h':=by
 refine ah ?_;simp[b_,a.t_];refine aA (fun k env K=>Fr [] h K/\∃(i:Nat),env.c_ 8=some (ZZ i)/\env.c_ 7=some (ZZ L.length)/\env.c_ 0=some v/\env.c_ 1=some (.E (.func g) [] [])/\
  i<=L.length/\(L.drop i).all G_=L.all G_/\k=L.length-i) L.length oM ?_ ?_
 ·exact⟨Wl w,0,iS,iS,iS,iS,oM,rfl,rfl⟩
 ·rintro k env K ⟨F,i,g8,g7,g0,g1,hi,e,rfl⟩;by_cases ac:i<L.length
  ·have Z:(i:Int)<L.length:=oM
   let⟨b,o,s,e1,e2,_,e5⟩:=(a.fr F).ix fW .i64 i oM Z;have e4:ab K b o=some (.f s):=e2 0 oM;rw[pi]at e5;rw[aL e5,Yb]at e;simp[b_,g8,g7,g0,g1,Z,e1,e4,P.1];refine aa (P.2 _ _ F.o) ?_;rintro _ h1 ⟨rfl,F1⟩;cases c:G_ s
   ·simp only[b_,seval];rw[c]at e;exact⟨i,rfl,by rw[<-e];simp,F.c F1⟩
   ·simp(disch:=omega)[b_,ag,g8];rw[c]at e;refine s_ ⟨L.length-(i+1),oM,F.c F1,i+1,iS,iX,iX,iX,oM,by simpa using e,rfl⟩
    done
  ·simp only[b_,seval,g8,g7,(oM:¬(i:Int)<L.length)];rw[Wo oM]at e;exact⟨-1,rfl,by rw[<-e];rfl,F⟩
theorem pN{h:a_}{v:V}{g:Nat}{L:List (List UInt8)}(P:Ln g)(w:WF h)(a:C_ sS 1 h v L)(Z:L.length<=4096):
 ao go 153 [v,.E (.func g) [] []] h fun u h'=>u=.h (!L.all G_)/\Fr [] h h':=by
 refine ah ?_;simp[b_];refine aa (EF P w a Z) ?_;rintro _ K ⟨r,rfl,e,F⟩;simp only[b_,seval];exact⟨by rw[e],F⟩
structure m_ where
 J:Nat
 K:Nat
 X:List UInt8
 C:List (List UInt8)
 vm:V
def m_.s(x:m_):List V:=[ZX (x.J:Int),ZY (x.K:Int),.f x.X,x.vm]
structure u_(h:a_)(x:m_):Prop where
 k:x.J<18446744073709551616
 t:x.K<256
 m:C_ sS 1 h x.vm x.C
 n:x.C.length<=4096
 l:x.X.length<16777216
theorem u_.fr{h:a_}{x:m_}(a:u_ h x)(f:Fr [] h h'):u_ h' x:=⟨a.k,a.t,a.m.fr f,a.n,a.l⟩
theorem u_.U{h:a_}{x:m_}(a:u_ h x):aw x.s=true:=by show aw [ZX (x.J:Int),ZY (x.K:Int),.f x.X,x.vm]=true;simp only[au,aB,a.m.U];rfl
def x?(ms:List (List UInt8)):Bool:=decide (ms.length<=8)&&ms.all G_
def Q2(x:m_)(types:Nat):Bool:=decide (x.J≠0)&&(decide (x.K<types)&&(P8 x.X&&x? x.C))
theorem JG{h:a_}{x:m_}{b:Nat}(w:WF h)(a:u_ h x)(o:e_ h b x.s):ao go 149 [.u b 0] h fun u h'=>u=.h (P8 x.X)/\Fr [] h h':=by have l2:ab h b 2=some (.f x.X):=o.j 2;by_cases c:x.X.length<=64;refine ah ?_;simp[b_,l2,aK,(oM:(x.X.length:Int)<=64)];refine aa (rA w PF a.l) ?_;rintro _ Z ⟨rfl,F⟩;simp only[b_,seval];exact⟨by simp[P8,c],F⟩;refine ah ?_;simp only[b_,seval,l2,aK,(oM:¬(x.X.length:Int)<=64)];exact⟨by simp[P8,c],Wl w⟩
theorem HE{h:a_}{x:m_}{b:Nat}(w:WF h)(a:u_ h x)(o:e_ h b x.s):ao go 152 [.u b 0] h fun u h'=>u=.h (x? x.C)/\Fr [] h h':=by have l2:ab h b 3=some x.vm:=o.j 3;by_cases c:x.C.length<=8;refine ah ?_;simp[b_,l2,a.m.t_,(oM:(x.C.length:Int)<=8)];refine aa (pN PJ w a.m a.n) ?_;rintro _ Z ⟨rfl,F⟩;simp only[b_,seval];exact⟨by simp[x?,c],F⟩;refine ah ?_;simp only[b_,seval,l2,a.m.t_,(oM:¬(x.C.length:Int)<=8)];exact⟨by simp[x?,c],Wl w⟩
theorem uC{h:a_}{x:m_}{Z:Nat}(w:WF h)(a:u_ h x)(ht:Z<256):ao go 91 [.B x.s,ZZ (Z:Int)] h fun u h'=>u=ZZ (if Q2 x Z then 0 else 6)/\Fr [] h h':=by let⟨h1,ae,K,ac⟩:=aq w x.s;have l0:ab h1 h.e 0=some (ZX (x.J:Int)):=ac.j 0;have l1:ab h1 h.e 1=some (ZY (x.K:Int)):=ac.j 1;have xt:=a.t;by_cases c0:x.J=0;refine ah ?_;simp only[b_,seval,<-ae,l0,(oM:(x.J:Int)=0)];exact⟨by simp[Q2,c0],K⟩;by_cases c1:x.K<Z;refine ah ?_;simp(disch:=omega) only[b_,seval,ag,<-ae,l0,(oM:¬(x.J:Int)=0),l1,(oM:¬(Z:Int)<=x.K)];refine aa (JG K.o (a.fr K) ac) ?_;rintro _ h2 ⟨rfl,F2⟩;cases c2:P8 x.X;simp only[b_,seval];exact⟨by simp[Q2,c2],K.c F2⟩;simp[b_];refine aa (HE F2.o (a.fr (K.c F2)) (F2.i ac)) ?_;rintro _ h3 ⟨rfl,F3⟩;cases c3:x? x.C;simp only[b_,seval];exact⟨by simp[Q2,c3],(K.c F2).c F3⟩;simp only[b_,seval];exact⟨by simp[Q2,c0,c1,c2,c3],(K.c F2).c F3⟩;refine ah ?_;simp(disch:=omega) only[b_,seval,ag,<-ae,l0,(oM:¬(x.J:Int)=0),l1,(oM:(Z:Int)<=x.K)];exact⟨by simp[Q2,c1],K⟩
theorem EH{h:a_}(r:Nat):ao go 310 [ZY (r:Int)] h fun u h'=>u=.h (!dA r)/\h=h':=by by_cases c:(97:Int)<=r;by_cases d:(r:Int)<=122;refine ah ?_;simp only[b_,seval,c,d];simp[dA];omega;by_cases e:(48:Int)<=r;by_cases f:(r:Int)<=57;omega;refine ah ?_;simp only[b_,seval,c,d,e,f];simp[dA];omega;omega;by_cases e:(48:Int)<=r;by_cases f:(r:Int)<=57;refine ah ?_;simp only[b_,seval,c,e,f];simp[dA];omega;refine ah ?_;simp only[b_,seval,c,e,f];simp[dA];omega;refine ah ?_;simp only[b_,seval,c,e];simp[dA];omega
theorem bW{z:List UInt8}{i:Nat}(h:i<z.length)(k:IntKind):aP .p [.f z,.A k (i:Int)]=some (ZY ((z[i]).toNat:Nat)):=by show(z[i]?).map _=_;rw[Wf h];rfl
theorem tJ{h:a_}{z:List UInt8}:ao go 292 [.f z] h fun u h'=>u=.h (G_ z)/\h=h':=by
 by_cases c0:z.length<1
 ·refine ah ?_;simp only[b_,seval,aK,(oM:(z.length:Int)<1)];simp[G_];intro _;omega
 by_cases c1:16<z.length
 ·refine ah ?_;simp only[b_,seval,aK,(oM:¬(z.length:Int)<1),(oM:(16:Int)<z.length)];simp[G_];intro _ _;omega
 ·have e0:G_ z= !fD dA z:=by simp[G_,(oM:0<z.length),(oM:z.length<=16)]
  rw[e0];refine ah ?_;simp[b_,aK,(oM:¬(z.length:Int)<1),(oM:¬(16:Int)<z.length)];refine aA (fun k env hh=>h=hh/\∃(i:Nat),env.c_ 14=some (ZZ i)/\env.c_ 13=some (ZZ z.length)/\env.c_ 0=some (.f z)/\
   i<=z.length/\fD dA (z.drop i)=fD dA z/\k=z.length-i) z.length oM ?_ ?_
  ·exact⟨rfl,0,iS,iS,iS,oM,rfl,rfl⟩
  ·rintro k env hh ⟨rfl,i,Z,g13,g0,hi,e,rfl⟩;by_cases K:i<z.length
   ·unfold fD at e;rw[Xf K,ZA]at e;simp[b_,Z,g13,g0,(oM:(i:Int)<z.length),bW K];refine aa (EH _) ?_;rintro _ _ ⟨rfl,rfl⟩;cases c:dA ((z[i]).toNat:Int)
    ·simp(disch:=omega)[b_,ag,Z];rw[c,Yr]at e;refine s_ ⟨z.length-(i+1),oM,rfl,i+1,iS,iX,iX,oM,e,rfl⟩
     done
    ·simp only[b_,seval];rw[c,Bool.true_or]at e;unfold fD;rw[<-e];simp
   ·simp only[b_,seval,Z,g13,(oM:¬(i:Int)<z.length)];rw[Wo oM]at e;rw[<-e];rfl
theorem PD:Ji 309 i7:=⟨dI,fun r h=>by
 by_cases c:r<32;refine ah ?_;simp only[b_,seval,c];simp[i7,c];refine ah ?_;simp only[b_,seval,c];simp[i7,c],fun r hr=>by simp[i7];omega⟩
theorem zC{h:a_}{z:List UInt8}(w:WF h):ao go 291 [.f z] h fun u h'=>u=.h (P8 z)/\Fr [] h h':=by
 by_cases c:z.length<=64;refine ah ?_;simp[b_,aK,(oM:(z.length:Int)<=64)];refine aa (?_:ao go 209 _ _ (fun u h'=>∃r:Int,u=ZZ r/\(decide (0<=r)=fD i7 z)/\Fr [] h h')) ?_;refine ah ?_;simp[b_];refine aa (wu w PD oM) ?_;rintro _ Z ⟨r,rfl,e,F⟩;simp only[b_,seval];exact⟨r,rfl,e,F⟩;rintro _ Z ⟨r,rfl,e,F⟩;simp only[b_,seval];refine⟨?_,F⟩;have:decide (r<0)= !decide (0<=r):=by grind
 simp[P8,c,<-e];exact this;refine ah ?_;simp only[b_,seval,aK,(oM:¬(z.length:Int)<=64)];exact⟨by simp[P8,c],Wl w⟩
abbrev g_:=List UInt8
inductive NT where
 |D_
 |z_ (kind:Nat) (tag key:g_) (attrs:List (g_×g_)) (text:g_) (va vc:V) (sub next:NT)
def gG(a:g_×g_):List V:=[.f a.1,.f a.2]
theorem eQ(a:g_×g_):(gG a).length=2:=rfl
namespace NT
def y_:NT->Nat
 |D_=>0
 |z_ _ _ _ _ _ _ _ _ nx=>nx.y_+1
def J_:NT->List V
 |D_=>[]
 |z_ k tg ky _ tx va vc _ nx=>[ ZY (k:Int),.f tg,.f ky,va,.f tx,vc]++nx.J_
def P2:NT->List g_
 |D_=>[]
 |z_ _ _ ky _ _ _ _ _ nx=>ky::nx.P2
theorem R6:∀t:NT,t.J_.length=t.y_*6
 |D_=>rfl
 |z_ _ _ _ _ _ _ _ _ nx=>by simp[J_,y_,R6 nx];omega
theorem L?:∀t:NT,t.P2.length=t.y_
 |D_=>rfl
 |z_ _ _ _ _ _ _ _ _ nx=>by simp[P2,y_,L? nx]
def at':NT->Nat->NT
 |t,0=>t
 |D_,_+1=>D_
 |z_ _ _ _ _ _ _ _ _ nx,i+1=>nx.at' i
end NT
def NH(h:a_):NT->Prop
 |.D_=>True
 |.z_ k _ _ at' _ va vc sub nx=>k<256/\q_ gG 2 h va at'/\at'.length<=4096/\Sl h 6 vc sub.y_ sub.J_/\sub.y_<=4096/\NH h sub/\NH h nx
theorem NH.fr{h:a_}(f:Fr [] h h'):∀{t:NT},NH h t->NH h' t
 |.D_,_=>trivial
 |.z_ _ _ _ _ _ _ _ _ _,⟨a,b,c,d,e,g,i⟩=>⟨a,b.fr f,c,d.fr f,e,NH.fr f g,NH.fr f i⟩
namespace NT
theorem M?:∀(t:NT)(i:Nat),i<t.y_→∃k tg ky at' tx va vc sub nx,t.at' i=.z_ k tg ky at' tx va vc sub nx∧t.J_.drop (i*6)=[.A .u8 ((k:Nat):Int),.f tg,.f ky,va,.f tx,vc]++nx.J_∧t.at' (i+1)=nx∧t.P2.drop i=ky::nx.P2∧t.P2[i]? =some ky∧nx.y_+(i+1)=t.y_
 |.D_,_,h=>by cases h
 |.z_ k tg ky at' tx va vc sub nx,0,_=>⟨k,tg,ky,at',tx,va,vc,sub,nx,rfl,rfl,by cases nx<;>rfl,rfl,rfl,rfl⟩
 |.z_ _ _ _ _ _ _ _ _ nx,i+1,h=>by let⟨k,tg,ky,at',tx,va,vc,sub,n,e1,e2,e3,e4,e5,e6⟩:=M? nx i (by simp[y_]at h;omega);refine⟨k,tg,ky,at',tx,va,vc,sub,n,e1,?_,e3,e4,?_,by simp only[y_];omega⟩;rw[(oM:(i+1) *6=6+i*6),←List.drop_drop];exact e2;simpa[P2]using e5
theorem at_end:∀(t:NT)(i:Nat),t.y_<=i->t.at' i=.D_
 |.D_,0,_=>rfl
 |.D_,_+1,_=>rfl
 |.z_ _ _ _ _ _ _ _ _ nx,0,h=>by simp[y_]at h
 |.z_ _ _ _ _ _ _ _ _ nx,i+1,h=>at_end nx i (by simp[y_]at h;omega)
end NT
theorem NH.Z5{h:a_}:∀{t:NT}(i:Nat),NH h t->NH h (t.at' i)
 |.D_,0,_=>trivial
 |.D_,_+1,_=>trivial
 |.z_ _ _ _ _ _ _ _ _ _,0,a=>a
 |.z_ _ _ _ _ _ _ _ _ _,i+1,⟨_,_,_,_,_,_,g⟩=>NH.Z5 i g
def Z?(h:a_)(b o:Nat)(x0 x1 x2 x3 x4 x5:V):Prop:=ab h b o=some x0/\ab h b (o+1)=some x1/\ab h b (o+2)=some x2/\ab h b (o+3)=some x3/\ab h b (o+4)=some x4/\ab h b (o+5)=some x5/\aj h b o 6=some [x0,x1,x2,x3,x4,x5]
theorem _root_.Go.Ev.Sl.ix6{h:a_}{v:V}{n:Nat}{cs:List V}(a:Sl h 6 v n cs){i:Nat}(hi:i<n){x0 x1 x2 x3 x4 x5:V}{r:List V}(e:cs.drop (i*6)=[x0,x1,x2,x3,x4,x5]++r):
 ∃b o,aP (.c 6) [v,ZZ (i:Int)]=some (.u b o)/\Z? h b o x0 x1 x2 x3 x4 x5:=by
 let⟨b,o,e1,K,Z⟩:=Sl.ix a .i64 (i:Int) oM oM;rw[pi]at K Z;rw[e]at Z;have g:∀j,cs[i*6+j]? =([x0,x1,x2,x3,x4,x5]++r)[j]? :=fun j=>by rw[<-e,Xk]
 refine⟨b,o,e1,?_,?_,?_,?_,?_,?_,Z⟩;have:=K 0 oM;rw[g]at this;exact this;grind;grind;grind;grind;grind
theorem _root_.Go.Ev.e_.at6{h:a_}{b:Nat}{x5:V}(o:e_ h b [x0,x1,x2,x3,x4,x5]):Z? h b 0 x0 x1 x2 x3 x4 x5:=⟨o.j 0,o.j 1,o.j 2,o.j 3,o.j 4,o.j 5,by rw[o.N];rfl⟩
theorem Be{h:a_}{x5:V}{ky k0:g_}{bk:Nat}(w:WF h)(hk:∀h',Fr [] h h'->ab h' bk 2=some (.f k0))(ones:aw [x0,x1,.f ky,x3,x4,x5]=true):
 ao go 294 [.B [x0,x1,.f ky,x3,x4,x5],.u bk 0] h fun u h'=>u=.h (ky==k0)/\Fr [] h h':=by
 let⟨h1,K,Z,ac⟩:=aq w [x0,x1,.f ky,x3,x4,x5];have l2:ab h1 h.e 2=some (.f ky):=ac.j 2;refine ah ?_;simp[b_,<-K,l2,hk h1 Z,aS];exact Z
theorem EG{h:a_}{u:V}{t:NT}{i bk:Nat}{Z:g_}(w:WF h)(a:Sl h 6 u i (t.J_.take (i*6)))(hi:i<=t.y_)(hn:i<=4096)(ones:aw t.J_=true)(hk:∀h',Fr [] h h'->ab h' bk 2=some (.f Z)):
 ao go 293 [u,.E (.func 294) [] [.u bk 0]] h fun z h'=>z=.h ((t.P2.take i).any (· ==Z))/\Fr [] h h':=by
 refine ah ?_;simp[b_];refine aa (?_:ao go 311 _ _ (fun z h'=>∃r:Int,z=ZZ r/\(decide (0<=r)=(t.P2.take i).any (· ==Z))/\Fr [] h h')) ?_
 ·refine ah ?_;simp[b_,a.t_];refine aA (fun k env hh=>Fr [] h hh/\∃(j:Nat),env.c_ 8=some (ZZ j)/\env.c_ 7=some (ZZ i)/\env.c_ 0=some u/\env.c_ 1=some (.E (.func 294) [] [.u bk 0])/\
   j<=i/\((t.P2.take i).drop j).any (· ==Z)=(t.P2.take i).any (· ==Z)/\k=i-j) i oM ?_ ?_
  ·exact⟨Wl w,0,iS,iS,iS,iS,oM,rfl,rfl⟩
  ·rintro k env hh ⟨F,j,g8,g7,g0,g1,hj,e,rfl⟩;by_cases K:j<i
   ·let⟨kd,tg,ky,at',tx,va,vc,sub,nx,e1,e2,e3,e4,e5,_⟩:=t.M? j oM;have q:(t.J_.take (i*6)).drop (j*6)=[ZY (kd:Int),.f tg,.f ky,va,.f tx,vc]++nx.J_.take (i*6-j*6-6):=by
     rw[ZM,e2,(oO:i*6-j*6=([ZY (kd:Int),.f tg,.f ky,va,.f tx,vc]:List V).length+(i*6-j*6-6)),YQ];simp
    let⟨b,o,p1,p2⟩:=(a.fr F).ix6 K q;have on:aw [ZY (kd:Int),.f tg,.f ky,va,.f tx,vc]=true:=by
     have:=dY (j*6) ones;rw[e2,aW]at this;exact(VY _ _▸this).1
    have ek:(t.P2.take i)[j]? =some ky:=by grind
    rw[aL ek,ZA]at e;simp[b_,g8,g7,g0,g1,(oM:(j:Int)<(i:Int)),p1,p2.2.2.2.2.2.2];refine aa (Be F.o (fun h' f=>hk h' (F.c f)) on) ?_;rintro _ h1 ⟨rfl,F1⟩;cases c:ky==Z
    ·simp(disch:=omega)[b_,ag,g8];rw[c]at e;refine s_ ⟨i-(j+1),oM,F.c F1,j+1,iS,iX,iX,iX,oM,by simpa using e,rfl⟩
     done
    ·simp only[b_,seval];rw[c]at e;exact⟨j,rfl,by rw[<-e];simp,F.c F1⟩
   ·simp only[b_,seval,g8,g7,(oM:¬(j:Int)<(i:Int))];rw[Wo oO]at e;exact⟨-1,rfl,by rw[<-e];rfl,F⟩
 ·rintro _ h1 ⟨r,rfl,e,F⟩;simp only[b_,seval];exact⟨by rw[e],F⟩
def r?(a b:g_):Bool:=Op.bytesLess a b||a==b
theorem mP(a b:g_):aP (.B .leq) [.f a,.f b]=some (.h (r? a b)):=rfl
def cP(p:Option g_)(n:g_):Bool:=match p with
 |none=>true
 |some q=> !r? n q
def dS:Option g_->List (g_×g_)->Bool
 |_,[]=>true
 |p,(n,v)::r=>(G_ n&&(P8 v&&cP p n))&&dS (some n) r
def gK:List g_->List g_->Bool
 |_,[]=>true
 |pr,k::r=>(k==[]|| !(pr.any (· ==k)))&&gK (pr++[k]) r
theorem qX(pr:List g_)(k:g_)(r:List g_):gK pr (k::r)=((k==[]|| !(pr.any (· ==k)))&&gK (pr++[k]) r):=rfl
theorem pU(p:Option g_)(a:g_×g_)(r:List (g_×g_)):dS p (a::r)=((G_ a.1&&(P8 a.2&&cP p a.1))&&dS (some a.1) r):=rfl
def iQ(k:Nat)(tg ky:g_)(at':List (g_×g_))(tx:g_)(sub:NT):Bool:=
 if k=2 then P8 tx&&(tg==[]&&(ky==[]&&(decide (at'.length=0)&&decide (sub.y_=0))))
 else decide (k=1)&&(G_ tg&&((ky==[]||G_ ky)&&(tx==[]&&(decide (at'.length<=8)&&(decide (sub.y_<=16)&&(dS none at'&&gK [] sub.P2))))))
def kB(at':List (g_×g_))(i:Nat):Option g_:=if i=0 then none else(at'[i-1]?).map (·.1)
theorem tC{at':List (g_×g_)}{i:Nat}{a:g_×g_}(h:at'[i]? =some a):kB at' (i+1)=some a.1:=by simp[kB,h]
theorem Nv{h:a_}{b o:Nat}{sub:NT}{R:V->a_->Prop}(w:WF h)(hA:∀h',Fr [] h h'->Z? h' b o x0 x1 x2 x3 x4 vc)
 (rc:Sl h 6 vc sub.y_ sub.J_) (nc:sub.y_<=4096) (ones:aw sub.J_=true) (g0:env.c_ 0=some (.u b o))
 (k:∀h',Fr [] h h'->R (.h (gK [] sub.P2)) h'):W go alC env h (i9 [.t 2] R):=by
 have q5:=(hA h (Wl w)).2.2.2.2.2.1;simp[b_,alC,g0,q5,rc.t_];refine aA (fun n env hh=>Fr [] h hh/\∃(i:Nat),env.c_ 142=some (ZZ i)/\env.c_ 141=some (ZZ sub.y_)/\env.c_ 140=some vc/\env.c_ 0=some (.u b o)/\
  i<=sub.y_/\gK (sub.P2.take i) (sub.P2.drop i)=gK [] sub.P2/\n=sub.y_-i) sub.y_ oM ?_ ?_
 ·exact⟨Wl w,0,iS,iS,iS,iX,oM,rfl,rfl⟩
 ·rintro n env hh ⟨F,i,K,ac,ak,g0,hi,e,rfl⟩;by_cases af:i<sub.y_
  ·let⟨kd,tg,ky,at',tx,va,vc',sb,nx,e1,e2,e3,e4,e5,_⟩:=sub.M? i af;let⟨b',o',p1,p2⟩:=(rc.fr F).ix6 af e2;have on:aw [ZY (kd:Int),.f tg,.f ky,va,.f tx,vc']=true:=by
    have:=dY (i*6) ones;rw[e2,aW]at this;exact(VY _ _▸this).1
   have ar:(i:Int)<sub.y_:=oM
   rw[e4]at e;rw[qX]at e;have ek:(sub.P2.take i)++[ky]=sub.P2.take (i+1):=by grind
   have ed:nx.P2=sub.P2.drop (i+1):=by
    rw[<-Xx (i:=1),e4];rfl
   rw[ek,ed]at e;let⟨h1,an,ae,ax⟩:=aq F.o [ZY 0,.f [],.f [],.r,.f [],.r];simp[b_,K,ac,ak,ar,p1,p2.2.2.2.2.2.2,<-an];refine ai (c':=[ZY (kd:Int),.f tg,.f ky,va,.f tx,vc']) ae.o ax rfl on rfl ?_;rintro h2 o2 F2 n2;have Z:Fr [] hh h2:=ae.z F2 F.o (VZ _);have q2:ab h2 hh.e 2=some (.f ky):=o2.j 2;have q5:=(hA h2 (F.c Z)).2.2.2.2.2.1;cases c:ky==[]
   ·let⟨u,s1,s2⟩:=(rc.fr (F.c Z)).upto oM (Sl.ne (rc.fr (F.c Z)) oM) .i64 (i:Int) oM oM;rw[pi]at s2;simp[b_,g0,q2,bD,c,q5,s1];apply aa (EG Z.o s2 oM oM ones (fun h' f=>(f.i o2).j 2));rintro _ h3 ⟨rfl,F3⟩;cases c2:(sub.P2.take i).any (· ==ky)
    ·simp(disch:=omega)[b_,ag,K];rw[c,c2]at e;refine s_ ⟨sub.y_-(i+1),oM,(F.c Z).c F3,i+1,iS,iX,iX,iX,oM,by simpa using e,rfl⟩
     done
    ·simp[b_];have:=k _ ((F.c Z).c F3);rw[<-e,c,c2]at this;simpa using this
   ·simp(disch:=omega)[b_,ag,K,q2,bD,c];rw[c]at e;refine s_ ⟨sub.y_-(i+1),oM,F.c Z,i+1,iS,iX,iX,iX,oM,by simpa using e,rfl⟩
    done
  ·simp[b_,K,ac,(oM:¬(i:Int)<sub.y_)];rw[Wo (by rw[NT.L?];omega)]at e;have:=k _ F;rw[<-e]at this;exact this
theorem IQ{h:a_}{b o:Nat}{at':List (g_×g_)}{sub:NT}{R:V->a_->Prop}(w:WF h)(hA:∀h',Fr [] h h'->Z? h' b o x0 x1 x2 va x4 vc)
 (ra:q_ gG 2 h va at') (na:at'.length<=4096) (rc:Sl h 6 vc sub.y_ sub.J_) (nc:sub.y_<=4096) (ones:aw sub.J_=true) (g0:env.c_ 0=some (.u b o))
 (k:∀h',Fr [] h h'->R (.h (dS none at'&&gK [] sub.P2)) h'):W go alA env h (i9 [.t 2] R):=by
 have q3:=(hA h (Wl w)).2.2.2.1;simp[b_,alA,g0,q3,ra.t_];refine aA (fun n env hh=>Fr [] h hh/\∃(i:Nat),env.c_ 103=some (ZZ i)/\env.c_ 102=some (ZZ at'.length)/\env.c_ 101=some va/\env.c_ 0=some (.u b o)/\
  i<=at'.length/\dS (kB at' i) (at'.drop i)=dS none at'/\n=at'.length-i) at'.length oM ?_ ?_
 ·exact⟨Wl w,0,iS,iS,iS,iX,oM,rfl,rfl⟩
 ·rintro n env hh ⟨F,i,Z,af,ay,g0,hi,e,rfl⟩;by_cases aN:i<at'.length
  ·have ac:(i:Int)<at'.length:=oM
   let⟨b',o',a,p1,p2,p3,p4⟩:=(ra.fr F).ix eQ .i64 (i:Int) oM ac;rw[pi]at p4;rw[aL p4,pU]at e;have en:=tC p4;let⟨h1,ar,ae,az⟩:=aq F.o [.f [],.f []];simp[b_,Z,af,ay,ac,p1,p3,<-ar];apply B_ ae.o az;rintro h2 o2 F2 n2;have ak:Fr [] hh h2:=ae.z F2 F.o (VZ _);have q0:ab h2 hh.e 0=some (.f a.1):=o2.j 0;have q1:ab h2 hh.e 1=some (.f a.2):=o2.j 1;simp[b_,j_,q0];apply aa tJ;rintro _ _ ⟨rfl,rfl⟩;cases c1:G_ a.1
   ·simp[b_,DF,j_,q0];have:=k _ (F.c ak);rw[<-e,c1]at this;simpa using this
   simp[b_,j_,q1];apply aa (zC ak.o);rintro _ h3 ⟨rfl,F3⟩;have K:=(F.c ak).c F3;have an:ab h3 hh.e 0=some (.f a.1):=(F3.i o2).j 0;cases c2:P8 a.2
   ·simp[b_,DF,j_,q0,q1];have:=k _ K;rw[<-e,c1,c2]at this;simpa using this
   have fin:cP (kB at' i) a.1=true->dS (kB at' (i+1)) (at'.drop (i+1))=dS none at':=fun c=>by grind
   by_cases c3:i=0
   ·simp(disch:=omega) only[b_,seval,DF,j_,ag,Z,q0,q1,(oM:¬(0:Int)<(i:Int))];refine s_ ⟨at'.length-(i+1),oM,K,i+1,iS,iX,iX,iX,oM,fin (by rw[c3];rfl),rfl⟩
    done
   ·let⟨b2,aH,a2,r1,r2,r3,r4⟩:=(ra.fr K).ix eQ .i64 ((i:Int)-1) oM oM;have aJ:at'[i-1]? =some a2:=by rw[<-r4];congr 1;omega
    have ax:ab h3 b2 aH=some (.f a2.1):=r2 0 oM;have q3:=(hA h3 K).2.2.2.1;have pe:kB at' i=some a2.1:=by simp[kB,c3,aJ]
    cases c4:r? a.1 a2.1
    ·simp(disch:=omega) only[b_,seval,DF,j_,ag,c4,Z,g0,q0,q1,an,q3,r1,ax,mP,(oM:(0:Int)<(i:Int))];refine s_ ⟨at'.length-(i+1),oM,K,i+1,iS,iX,iX,iX,oM,fin (by rw[pe];simp[cP,c4]),rfl⟩
     done
    ·simp(disch:=omega) only[b_,seval,DF,j_,ag,c4,g0,q0,q1,an,q3,r1,ax,mP,(oM:(0:Int)<(i:Int))];have:=k _ K;rw[<-e,pe,c1,c2]at this;simpa[cP,c4]using this
  ·simp[b_,Z,af,(oM:¬(i:Int)<at'.length)];rw[Wo oM]at e;refine Nv F.o (fun h' f=>hA h' (F.c f)) (rc.fr F) nc ones iX fun h' f=>?_;have:=k h' (F.c f);rw[<-e]at this;simpa[dS]using this
theorem Ioz{h:a_}{b o k:Nat}{tg ky tx:g_}{at':List (g_×g_)}{sub:NT}(w:WF h)(hA:∀h',Fr [] h h'->Z? h' b o (ZY (k:Int)) (.f tg) (.f ky) va (.f tx) vc)
 (ra:q_ gG 2 h va at') (na:at'.length<=4096) (rc:Sl h 6 vc sub.y_ sub.J_) (nc:sub.y_<=4096) (ones:aw sub.J_=true):
 ao go 265 [.u b o] h fun u h'=>u=.h (iQ k tg ky at' tx sub)/\Fr [] h h':=by
 have q0:ab h b o=some (ZY (k:Int)):=(hA h (Wl w)).1;by_cases c0:k=2;have q4:ab h b (o+4)=some (.f tx):=(hA h (Wl w)).2.2.2.2.1;unfold iQ;rw[if_pos c0];refine ah ?_;simp only[b_,seval,q0,(oM:(k:Int)=2),q4];refine aa (zC w) ?_;rintro _ h1 ⟨rfl,F1⟩;let⟨_,q1,K,Z,_,q5,_⟩:=hA h1 F1;have l1:=(ra.fr F1).t_;have l2:=(rc.fr F1).t_;cases c1:P8 tx;simp only[b_,seval];exact⟨rfl,F1⟩;cases c2:tg==[];simp only[b_,seval,q1,aS,c2];exact⟨rfl,F1⟩;cases c3:ky==[];simp only[b_,seval,q1,aS,c2,K,c3];exact⟨rfl,F1⟩;by_cases c4:at'.length=0;by_cases c5:sub.y_=0;simp only[b_,seval,q1,aS,c2,K,c3,Z,l1,(oM:((at'.length:Nat):Int)=0),q5,l2,(oM:((sub.y_:Nat):Int)=0)];exact⟨by simp[c4,c5],F1⟩;simp only[b_,seval,q1,aS,c2,K,c3,Z,l1,(oM:((at'.length:Nat):Int)=0),q5,l2,(oM:¬((sub.y_:Nat):Int)=0)];exact⟨by simp[c5],F1⟩;simp only[b_,seval,q1,aS,c2,K,c3,Z,l1,(oM:¬((at'.length:Nat):Int)=0)];exact⟨by simp[c4],F1⟩;unfold iQ;rw[if_neg c0];by_cases c1:k=1;let⟨_,q1,K,Z,q4,q5,_⟩:=hA h (Wl w);have l1:=ra.t_;have l2:=rc.t_;refine ah ?_;simp only[b_,seval,q0,(oM:(k:Int)=1),q1];refine aa tJ ?_;rintro _ _ ⟨rfl,rfl⟩;cases c2:G_ tg;simp only[b_,seval];exact⟨iS,Wl w⟩;cases ck:ky==[];simp only[b_,seval,K,bD,ck];refine aa tJ ?_;rintro _ _ ⟨rfl,rfl⟩;cases cn:G_ ky;simp only[b_,seval];exact⟨iS,Wl w⟩;cases ct:tx==[];simp only[b_,seval,bD,q4,ct];exact⟨iS,Wl w⟩;by_cases ca:at'.length<=8;by_cases cs:sub.y_<=16;simp only[b_,seval,bD,q4,ct,Z,l1,(oM:¬(8:Int)<(at'.length:Nat)),q5,l2,(oM:¬(16:Int)<(sub.y_:Nat))];refine IQ w hA ra na rc nc ones iS fun h' f=>⟨by simp[c1,ca,cs],f⟩;simp only[b_,seval,bD,q4,ct,Z,l1,(oM:¬(8:Int)<(at'.length:Nat)),q5,l2,(oM:(16:Int)<(sub.y_:Nat))];exact⟨by simp[cs],Wl w⟩;simp only[b_,seval,bD,q4,ct,Z,l1,(oM:(8:Int)<(at'.length:Nat))];exact⟨by simp[ca],Wl w⟩;cases ct:tx==[];simp only[b_,seval,K,bD,ck,q4,ct];exact⟨iS,Wl w⟩;by_cases ca:at'.length<=8;by_cases cs:sub.y_<=16;simp only[b_,seval,K,bD,ck,q4,ct,Z,l1,(oM:¬(8:Int)<(at'.length:Nat)),q5,l2,(oM:¬(16:Int)<(sub.y_:Nat))];refine IQ w hA ra na rc nc ones iS fun h' f=>⟨by simp[c1,ca,cs],f⟩;simp only[b_,seval,K,bD,ck,q4,ct,Z,l1,(oM:¬(8:Int)<(at'.length:Nat)),q5,l2,(oM:(16:Int)<(sub.y_:Nat))];exact⟨by simp[cs],Wl w⟩;simp only[b_,seval,K,bD,ck,q4,ct,Z,l1,(oM:(8:Int)<(at'.length:Nat))];exact⟨by simp[ca],Wl w⟩;refine ah ?_;simp only[b_,seval,q0,(oM:¬(k:Int)=2),(oM:¬(k:Int)=1)];exact⟨by simp[c1],Wl w⟩
theorem NH.ones{h:a_}:∀{t:NT},NH h t->aw t.J_=true
 |.D_,_=>rfl
 |.z_ k tg ky _ tx va vc _ nx,⟨_,b,_,d,_,_,g⟩=>by show aw ([ ZY (k:Int),.f tg,.f ky,va,.f tx,vc]++nx.J_)=true;rw[aW,NH.ones g];simp only[au,aB,Xs b,Xs d];rfl
namespace NT
def Q_(k:Nat)(tg ky:g_)(at':List (g_×g_))(tx:g_)(sub:NT)(w:Nat->Nat->Nat×Bool)(l c:Nat):Nat×Bool:=
 if 6<l\/64<c+1\/iQ k tg ky at' tx sub=false then(c+1,false)else w (l+1) (c+1)
def P_:NT->Nat->Nat->Nat×Bool
 |D_,_,c=>(c,true)
 |z_ k tg ky at' tx _ _ sub nx,l,c=>let r:=Q_ k tg ky at' tx sub sub.P_ l c;if r.2=true then nx.P_ l r.1 else r
theorem jW:∀(t:NT)(l c:Nat),c≤64→(t.P_ l c).1≤65∧((t.P_ l c).2=true→(t.P_ l c).1≤64)
 |D_,_,c,h=>⟨by simp[P_];omega,fun _=>h⟩
 |z_ k tg ky at' tx _ _ sub nx,l,c,h=>by
  have q:(Q_ k tg ky at' tx sub sub.P_ l c).1≤65∧((Q_ k tg ky at' tx sub sub.P_ l c).2=true→(Q_ k tg ky at' tx sub sub.P_ l c).1≤64):=by unfold Q_;split;grind;rename_i x;exact jW sub (l+1) (c+1) oM
  simp only[P_];split;rename_i x;exact jW nx l _ (q.2 x);exact q
theorem node_le(k:Nat)(tg ky:g_)(at':List (g_×g_))(tx:g_)(sub:NT)(l c:Nat)(h:c<=64):(Q_ k tg ky at' tx sub sub.P_ l c).1<=65/\((Q_ k tg ky at' tx sub sub.P_ l c).2=true->(Q_ k tg ky at' tx sub sub.P_ l c).1<=64):=by unfold Q_;split;grind;exact jW sub (l+1) (c+1) oM
end NT
structure Ms(h0 h:a_)(bc bd bw:Nat)(c d:Nat):Prop where
 f:Fr [] h0 h
 e:e_ h bc [ZZ (c:Int)]
 i:e_ h bd [ZZ (d:Int)]
 j:e_ h bw [.E (.func 264) [] [.u bc 0,.u bd 0,.u bw 0]]
 l:d<=7
structure MsB(h0:a_)(bc bd bw:Nat):Prop where
 w:WF h0
 c:h0.e<=bc
 d:h0.e<=bd
 b:h0.e<=bw
 e:bc≠bd
 i:bc≠bw
 j:bd≠bw
theorem Ms.c{h0 h:a_}{bc bd bw c d:Nat}(m:Ms h0 h bc bd bw c d)(f:Fr [] h h'):Ms h0 h' bc bd bw c d:=⟨m.f.c f,f.i m.e,f.i m.i,f.i m.j,m.l⟩
def JB(h0:a_)(k:Nat)(tg ky:g_)(at':List (g_×g_))(tx:g_)(va vc:V)(sub:NT):Prop:=
 ∀(h:a_)(b o bc bd bw l c d:Nat),MsB h0 bc bd bw->Ms h0 h bc bd bw c d->(∀h',Fr [] h0 h'->Z? h' b o (ZY (k:Int)) (.f tg) (.f ky) va (.f tx) vc)->l<=7->c<=64->
  ao go 264 [.u b o,ZZ (l:Int),.u bc 0,.u bd 0,.u bw 0] h fun u h'=>u=.h (NT.Q_ k tg ky at' tx sub sub.P_ l c).2/\∃d',Ms h0 h' bc bd bw (NT.Q_ k tg ky at' tx sub sub.P_ l c).1 d'
def Y?(h0:a_):NT->Prop
 |.D_=>True
 |.z_ k tg ky at' tx va vc sub nx=>JB h0 k tg ky at' tx va vc sub/\Y? h0 nx
theorem Y?.Z5{h:a_}:∀{t:NT}(i:Nat),Y? h t->Y? h (t.at' i)
 |.D_,0,_=>trivial
 |.D_,_+1,_=>trivial
 |.z_ _ _ _ _ _ _ _ _ _,0,a=>a
 |.z_ _ _ _ _ _ _ _ _ _,i+1,⟨_,g⟩=>Y?.Z5 i g
theorem KW{h0:a_}{k:Nat}{tg ky:g_}{at':List (g_×g_)}{tx:g_}{sub:NT}
 (ra:q_ gG 2 h0 va at') (na:at'.length<=4096) (rc:Sl h0 6 vc sub.y_ sub.J_) (nc:sub.y_<=4096) (ns:NH h0 sub) (A:Y? h0 sub):JB h0 k tg ky at' tx va vc sub:=by
 intro h b o bc bd bw l c d B M hA hl hc;have lc:ab h bc 0=some (ZZ (c:Int)):=M.e.j 0;refine ah ?_;simp(disch:=omega)[b_,ag,lc];refine B_ M.f.o M.e ?_;rintro h1 o1 F1 n1;have aH:e_ h1 bd [ZZ (d:Int)]:=F1.I _ _ (eV B.e.symm) M.i;have ld:ab h1 bd 0=some (ZZ (d:Int)):=aH.j 0;simp[b_,ld];have dl:=M.l;refine ai (c':=[ZZ ((max d l:Nat):Int)]) F1.o aH rfl rfl (by rw[(oM:((max d l:Nat):Int)=max (d:Int) (l:Int))];rfl) ?_;rintro h2 o2 F2 n2;have M2:Ms h0 h2 bc bd bw (c+1) (max d l):=by refine⟨?_,F2.I _ _ (eV B.e) o1,o2,F2.I _ _ (eV B.j.symm) (F1.I _ _ (eV B.i.symm) M.j),oM⟩;exact Wp (Wp M.f F1 B.w (fun x Z=>.inl Z) (fun x Z=>.inr (by simp at Z;subst Z;exact B.c))) F2 B.w (fun x Z=>.inl Z) (fun x Z=>.inr (by simp at Z;subst Z;exact B.d))
 have aJ:ab h2 bc 0=some (ZZ ((c+1:Nat):Int)):=M2.e.j 0;by_cases c1:6<l;have e:NT.Q_ k tg ky at' tx sub sub.P_ l c=(c+1,false):=if_pos (.inl c1);simp only[b_,seval,(oM:(6:Int)<(l:Int))];rw[e];exact⟨rfl,_,M2⟩;by_cases c2:64<c+1;have e:NT.Q_ k tg ky at' tx sub sub.P_ l c=(c+1,false):=if_pos (.inr (.inl c2));simp only[b_,seval,(oM:¬(6:Int)<(l:Int)),aJ,(oM:(64:Int)<((c+1:Nat):Int))];rw[e];exact⟨rfl,_,M2⟩;simp only[b_,seval,(oM:¬(6:Int)<(l:Int)),aJ,(oM:¬(64:Int)<((c+1:Nat):Int))];apply aa (Ioz M2.f.o (fun h' f=>hA h' (M2.f.c f)) (ra.fr M2.f) na (rc.fr M2.f) nc ns.ones);rintro _ h3 ⟨rfl,F3⟩;have M3:=M2.c F3;cases c3:iQ k tg ky at' tx sub;have e:NT.Q_ k tg ky at' tx sub sub.P_ l c=(c+1,false):=if_pos (.inr (.inr c3));simp only[b_,seval];rw[e];exact⟨rfl,_,M3⟩;have e:NT.Q_ k tg ky at' tx sub sub.P_ l c=sub.P_ (l+1) (c+1):=if_neg (by simp[c3];omega);rw[e];have q5:=(hA h3 M3.f).2.2.2.2.2.1;simp[b_,q5,(rc.fr M3.f).t_];refine aA (fun n env hh=>∃(i c' d':Nat),Ms h0 hh bc bd bw c' d'/\env.c_ 30=some (ZZ i)/\env.c_ 29=some (ZZ sub.y_)/\env.c_ 0=some (.u b o)/\env.c_ 1=some (ZZ l)/\env.c_ 4=some (.u bw 0)/\
  i<=sub.y_/\c'<=64/\(sub.at' i).P_ (l+1) c'=sub.P_ (l+1) (c+1)/\n=sub.y_-i) sub.y_ oM ?_ ?_
 exact⟨0,c+1,max d l,M3,iS,iS,iS,iS,iS,oM,oM,by cases sub<;>rfl,rfl⟩;rintro n env hh ⟨i,c',d',M',ac,ay,g0,g1,g4,hi,az,K,rfl⟩;by_cases ae:i<sub.y_;let⟨kd,af,an,ar,ak,aR,aT,sb,nx,e1,e2,e3,e4,e5,e6⟩:=sub.M? i ae;have ax:(i:Int)<sub.y_:=oM;have a:=A.Z5 i;rw[e1]at a K;let⟨b',o',p1,_⟩:=(rc.fr M'.f).ix6 ae e2;have a0:∀h',Fr [] h0 h'->Z? h' b' o' (ZY (kd:Int)) (.f af) (.f an) aR (.f ak) aT:=fun h' f=>by let⟨b2,o2,aN,p2'⟩:=(rc.fr f).ix6 ae e2;rw[p1]at aN;cases aN;exact p2'
 have q5:=(hA hh M'.f).2.2.2.2.2.1;have lw:ab hh bw 0=some (.E (.func 264) [] [.u bc 0,.u bd 0,.u bw 0]):=M'.j.j 0;simp(disch:=omega) only[b_,seval,j_,ag,ac,ay,g0,g1,g4,ax,lw,q5,p1];apply aa (a.1 hh b' o' bc bd bw (l+1) c' d' B M' a0 oM az);rintro _ h4 ⟨rfl,d4,M4⟩;simp[NT.P_]at K;have nl:=NT.node_le kd af an ar ak sb (l+1) c' az;cases c4:(NT.Q_ kd af an ar ak sb sb.P_ (l+1) c').2;rw[c4]at K;simp only[b_,seval,DF,j_,g4,lw,q5];rw[<-K];exact⟨by simp[c4],d4,by simpa using M4⟩;rw[c4]at K;simp(disch:=omega) only[b_,seval,DF,j_,ag,ac,g4,lw,q5];refine s_ ⟨sub.y_-(i+1),oM,i+1,_,d4,M4,iS,iX,iX,iX,iX,oM,nl.2 c4,?_,rfl⟩;rw[e3];simpa using K;simp only[b_,seval,ac,ay,(oM:¬(i:Int)<sub.y_)];rw[NT.at_end _ _ oM]at K;rw[<-K];exact⟨rfl,d',M'⟩
theorem Nu{h:a_}:∀{t:NT},NH h t->Y? h t
 |.D_,_=>trivial
 |.z_ _ _ _ _ _ _ _ _ _,⟨_,b,c,d,e,f,g⟩=>⟨KW b c d e f (Nu f),Nu g⟩
def NT.R7(k:Nat)(tg ky:g_)(at':List (g_×g_))(tx:g_)(sub:NT):Nat:=
 if(Q_ k tg ky at' tx sub sub.P_ 1 0).2=true then(Q_ k tg ky at' tx sub sub.P_ 1 0).1 else 0
theorem Bv{h:a_}{k:Nat}{tg ky:g_}{at':List (g_×g_)}{tx:g_}{sub:NT}(w:WF h)(n:NH h (.z_ k tg ky at' tx va vc sub .D_)):
 ao go 220 [.B [ZY (k:Int),.f tg,.f ky,va,.f tx,vc]] h fun u h'=>∃d:Nat,u=.D [ZZ (NT.R7 k tg ky at' tx sub:Nat),ZZ (d:Int)]/\Fr [] h h':=by
 let⟨K,ak,Z,ay⟩:=aq w [ZY (k:Int),.f tg,.f ky,va,.f tx,vc];let⟨h2,an,ar,aR⟩:=aq Z.o [ZZ 0];let⟨h3,ax,ae,aJ⟩:=aq ar.o [ZZ 0];let⟨h4,aH,ac,aN⟩:=aq ae.o [.R];have n1:=x_ ak;have n2:=x_ an;have n3:=x_ ax;refine ah ?_;simp only[b_,seval,<-ak,<-an,<-ax,<-aH];refine B_ ac.o aN ?_;rintro h5 o5 F5 n5;have az:Fr [] K h5:=Fr.new Z.o (ar.c (ae.c ac)) F5 oO;have ob:=az.i ay;have B:MsB K K.e h2.e h3.e:=⟨Z.o,VZ _,oM,oM,oM,oM,oM⟩;have M:Ms K h5 K.e h2.e h3.e 0 0:=⟨az,F5.I _ _ oO (ac.i (ae.i aR)),F5.I _ _ oO (ac.i aJ),o5,oM⟩;have lw:ab h5 h3.e 0=some (.E (.func 264) [] [.u K.e 0,.u h2.e 0,.u h3.e 0]):=o5.j 0;have A:=(Nu (n.fr Z)).1;simp only[b_,seval,lw];apply aa (A h5 h.e 0 K.e h2.e h3.e 1 0 0 B M (fun h' f=>(f.i ay).at6) oM oM);rintro _ h6 ⟨rfl,d,M6⟩;unfold NT.R7;cases c:(NT.Q_ k tg ky at' tx sub sub.P_ 1 0).2;simp only[b_,seval];apply B_ M6.f.o M6.e;rintro h7 o7 F7 n7;have af:=F7.I _ _ oO M6.i;simp only[b_,seval];apply B_ F7.o af;rintro h8 o8 F8 n8;have a7:ab h8 K.e 0=some (ZZ 0):=(F8.I _ _ oO o7).j 0;have a8:ab h8 h2.e 0=some (ZZ 0):=o8.j 0;simp only[b_,seval,a7,a8];refine⟨0,iS,?_⟩;exact Fr.new w Z (Wp (T:=[K.e,h2.e]) (Wp (T:=[K.e,h2.e]) M6.f F7 Z.o iS iS) F8 Z.o iS iS) oO;have lc:ab h6 K.e 0=some (ZZ ((NT.Q_ k tg ky at' tx sub sub.P_ 1 0).1:Int)):=M6.e.j 0;have ld:ab h6 h2.e 0=some (ZZ (d:Int)):=M6.i.j 0;simp only[b_,seval,j_,lc,ld];apply B_ M6.f.o M6.e;rintro h7 o7 F7 n7;have af:=F7.I _ _ oO M6.i;have aT:ab h7 h2.e 0=some (ZZ (d:Int)):=af.j 0;simp only[b_,seval,j_];apply B_ F7.o af;rintro h8 o8 F8 n8;have a7:ab h8 K.e 0=some (ZZ ((NT.Q_ k tg ky at' tx sub sub.P_ 1 0).1:Int)):=(F8.I _ _ oO o7).j 0;have a8:ab h8 h2.e 0=some (ZZ (d:Int)):=o8.j 0;simp only[b_,seval,DF,lc,ld,aT,a7,a8];refine⟨d,iS,?_⟩;exact Fr.new w Z (Wp (T:=[K.e,h2.e]) (Wp (T:=[K.e,h2.e]) M6.f F7 Z.o iS iS) F8 Z.o iS iS) oO
theorem qr{h:a_}{k:Nat}{tg ky:g_}{at':List (g_×g_)}{tx:g_}{sub:NT}(w:WF h)(n:NH h (.z_ k tg ky at' tx va vc sub .D_)):
 ao go 162 [.B [ZY (k:Int),.f tg,.f ky,va,.f tx,vc]] h fun u h'=>u=ZZ (NT.R7 k tg ky at' tx sub:Nat)/\Fr [] h h':=by
 let⟨h1,K,Z,ac⟩:=aq w [ZY (k:Int),.f tg,.f ky,va,.f tx,vc];refine ah ?_;simp[b_,<-K,ac.at6.2.2.2.2.2.2];refine aa (Bv Z.o (n.fr Z)) ?_;rintro _ h2 ⟨d,rfl,F2⟩;simp[b_];exact Z.c F2
theorem wg{h:a_}{k:Nat}{tg ky:g_}{at':List (g_×g_)}{tx:g_}{sub:NT}(w:WF h)(n:NH h (.z_ k tg ky at' tx va vc sub .D_)):
 ao go 261 [.B [ZY (k:Int),.f tg,.f ky,va,.f tx,vc]] h fun u h'=>u=ZZ (if NT.R7 k tg ky at' tx sub=0 then 14 else 0)/\Fr [] h h':=by
 let⟨h1,K,Z,ac⟩:=aq w [ZY (k:Int),.f tg,.f ky,va,.f tx,vc];by_cases c:NT.R7 k tg ky at' tx sub=0;refine ah ?_;simp[b_,<-K,ac.at6.2.2.2.2.2.2];refine aa (qr Z.o (n.fr Z)) ?_;rintro _ h2 ⟨rfl,F2⟩;simp only[b_,seval,(oM:((NT.R7 k tg ky at' tx sub:Nat):Int)=0)];exact⟨by rw[if_pos c],Z.c F2⟩;refine ah ?_;simp[b_,<-K,ac.at6.2.2.2.2.2.2];refine aa (qr Z.o (n.fr Z)) ?_;rintro _ h2 ⟨rfl,F2⟩;simp only[b_,seval,(oM:¬((NT.R7 k tg ky at' tx sub:Nat):Int)=0)];exact⟨by rw[if_neg c],Z.c F2⟩
theorem BN(z:g_):NT.R7 1 z [] [] [] .D_=if G_ z then 1 else 0:=by
 have a:iQ 1 z [] [] [] .D_=G_ z:=by simp[iQ,dS,gK,NT.P2,NT.y_]
 have e:NT.Q_ 1 z [] [] [] .D_ NT.D_.P_ 1 0=(1,G_ z):=by unfold NT.Q_;rw[a];cases G_ z<;>rfl
 unfold NT.R7;rw[e]
theorem BM(z:g_):NT.R7 2 [] [] [] z .D_=if P8 z then 1 else 0:=by
 have a:iQ 2 [] [] [] z .D_=P8 z:=by simp[iQ,NT.y_]
 have e:NT.Q_ 2 [] [] [] z .D_ NT.D_.P_ 1 0=(1,P8 z):=by unfold NT.Q_;rw[a];cases P8 z<;>rfl
 unfold NT.R7;rw[e]
theorem mB{h:a_}(k:Nat)(hk:k<256)(tg tx:g_):NH h (.z_ k tg [] [] tx .r .r .D_ .D_):=⟨hk,ZI,iS,⟨rfl,rfl⟩,by simp[NT.y_],trivial,trivial⟩
theorem gY{h:a_}{z:g_}(w:WF h):ao go 216 [.f z] h fun u h'=>u=.h (G_ z)/\Fr [] h h':=by refine ah ?_;simp[b_];refine aa (wg (at':=[]) (sub:=.D_) w (mB 1 oM z [])) ?_;rintro _ Z ⟨rfl,F⟩;rw[BN];cases G_ z;simp only[b_,↓reduceIte];exact⟨rfl,F⟩;simp[b_];exact F
theorem qf{h:a_}{z:g_}(w:WF h):ao go 214 [.f z] h fun u h'=>u=.h (P8 z)/\Fr [] h h':=by refine ah ?_;simp[b_];refine aa (wg (at':=[]) (sub:=.D_) w (mB 2 oM [] z)) ?_;rintro _ Z ⟨rfl,F⟩;rw[BM];cases P8 z;simp only[b_,↓reduceIte];exact⟨rfl,F⟩;simp[b_];exact F
abbrev Q3:=g_×Nat×g_
def sW(s:Q3):List V:=[.f s.1,ZY (s.2.1:Int),.f s.2.2]
theorem gu(s:Q3):(sW s).length=3:=rfl
def iW(p:Option g_)(s:Q3):Bool:=G_ s.1&&(decide (s.2.1<=3)&&(P8 s.2.2&&((decide (s.2.1=0)||s.2.2==[])&&cP p s.1)))
def eW:Option g_->List Q3->Bool
 |_,[]=>true
 |p,s::r=>iW p s&&eW (some s.1) r
theorem kL(p:Option g_)(s:Q3)(r:List Q3):eW p (s::r)=(iW p s&&eW (some s.1) r):=rfl
def dH(at':List Q3)(i:Nat):Option g_:=if i=0 then none else(at'[i-1]?).map (·.1)
theorem tA{at':List Q3}{i:Nat}{a:Q3}(h:at'[i]? =some a):dH at' (i+1)=some a.1:=by simp[dH,h]
def cJ(l:List Q3):Bool:=decide (l.length<=8)&&eW none l
theorem sV{h:a_}{v:V}{l:List Q3}(w:WF h)(ra:q_ sW 3 h v l)(na:l.length<=4096):ao go 290 [v] h fun u h'=>u=.h (cJ l)/\Fr [] h h':=by
 by_cases c8:l.length<=8
 ·refine ah ?_;simp[b_,ra.t_,(oM:¬(8:Int)<(l.length:Nat))];refine aA (fun n env hh=>Fr [] h hh/\∃(i:Nat),env.c_ 10=some (ZZ i)/\env.c_ 9=some (ZZ l.length)/\env.c_ 8=some v/\env.c_ 0=some v/\
   i<=l.length/\eW (dH l i) (l.drop i)=eW none l/\n=l.length-i) l.length oM ?_ ?_
  ·exact⟨Wl w,0,iS,iS,iS,iS,oM,rfl,rfl⟩
  ·rintro n env hh ⟨F,i,K,ak,aH,g0,hi,e,rfl⟩;by_cases aR:i<l.length
   ·have ae:(i:Int)<l.length:=oM
    let⟨b',o',a,p1,p2,p3,p4⟩:=(ra.fr F).ix gu .i64 (i:Int) oM ae;rw[pi]at p4;rw[aL p4,kL]at e;have en:=tA p4;have bad:∀{h'},Fr [] h h'->iW (dH l i) a=false->V.h false=.h (cJ l)/\Fr [] h h':=fun f c=>by
     rw[c]at e;exact⟨by simp[cJ,<-e],f⟩
    let⟨h1,ay,af,aJ⟩:=aq F.o [.f [],ZY 0,.f []];simp[b_,K,ak,aH,ae,p1,p3,<-ay];refine B_ af.o aJ ?_;rintro h2 o2 F2 n2;have az:Fr [] hh h2:=af.z F2 F.o (VZ _);have q0:ab h2 hh.e 0=some (.f a.1):=o2.j 0;simp[b_,j_,q0];refine aa (gY az.o) ?_;rintro _ h3 ⟨rfl,F3⟩;have ar:=(F.c az).c F3;have r1:ab h3 hh.e 1=some (ZY (a.2.1:Int)):=(F3.i o2).j 1;have r2:ab h3 hh.e 2=some (.f a.2.2):=(F3.i o2).j 2;cases c1:G_ a.1
    ·simp only[b_,seval,DF,j_,q0];exact bad ar (by simp[iW,c1])
    by_cases c2:3<a.2.1
    ·simp only[b_,seval,DF,j_,q0,r1,(oM:(3:Int)<(a.2.1:Nat))];exact bad ar (by simp[iW];omega)
    have aN:¬(3:Int)<(a.2.1:Nat):=oM
    simp[b_,j_,r1,aN,r2];refine aa (qf F3.o) ?_;rintro _ h4 ⟨rfl,F4⟩;have Z:=ar.c F4;have o4:=F4.i (F3.i o2);have s0:ab h4 hh.e 0=some (.f a.1):=o4.j 0;have s1:ab h4 hh.e 1=some (ZY (a.2.1:Int)):=o4.j 1;have s2:ab h4 hh.e 2=some (.f a.2.2):=o4.j 2;cases c3:P8 a.2.2
    ·simp only[b_,seval,DF,j_,q0,r1,r2];exact bad Z (by simp[iW,c3])
    have fin:(decide (a.2.1=0)||a.2.2==[])=true->cP (dH l i) a.1=true->eW (dH l (i+1)) (l.drop (i+1))=eW none l:=fun x y=>by
     have z:iW (dH l i) a=true:=by
      unfold iW;rw[c1,c3,x,y,(oO:decide (a.2.1<=3)=true)];rfl
     rw[z,Zz]at e;rw[en];exact e
    by_cases cf:a.2.1=0
    ·by_cases c4:i=0
     ·simp(disch:=omega) only[b_,seval,DF,j_,ag,K,q0,r1,r2,s1,(oM:¬(0:Int)<(a.2.1:Nat)),(oM:¬(0:Int)<(i:Int))];refine s_ ⟨l.length-(i+1),oM,Z,i+1,iS,iX,iX,iX,oM,fin iX (by simp[dH,c4,cP]),rfl⟩
      done
     ·let⟨b2,an,a2,t1,t2,t3,t4⟩:=(ra.fr Z).ix gu .i64 ((i:Int)-1) oM oM;have ax:l[i-1]? =some a2:=by rw[<-t4];congr 1;omega
      have ac:ab h4 b2 an=some (.f a2.1):=t2 0 oM;have pe:dH l i=some a2.1:=by simp[dH,c4,ax]
      cases c5:r? a.1 a2.1
      ·simp(disch:=omega) only[b_,seval,DF,j_,ag,K,g0,q0,r1,r2,s0,s1,(oM:¬(0:Int)<(a.2.1:Nat)),c5,t1,ac,mP,(oM:(0:Int)<(i:Int))];refine s_ ⟨l.length-(i+1),oM,Z,i+1,iS,iX,iX,iX,oM,fin iX (by rw[pe];simp[cP,c5]),rfl⟩
       done
      ·simp(disch:=omega) only[b_,seval,DF,j_,ag,g0,q0,r1,r2,s0,s1,(oM:¬(0:Int)<(a.2.1:Nat)),c5,t1,ac,mP,(oM:(0:Int)<(i:Int))];exact bad Z (by simp[iW,pe,cP,c5])
    ·cases cv:a.2.2==[]
     ·simp only[b_,seval,DF,j_,q0,r1,r2,s1,s2,(oM:(0:Int)<(a.2.1:Nat)),bD,cv];exact bad Z (by simp[iW,cf,cv])
     ·by_cases c4:i=0
      ·simp(disch:=omega) only[b_,seval,DF,j_,ag,K,q0,r1,r2,s1,s2,(oM:(0:Int)<(a.2.1:Nat)),bD,cv,(oM:¬(0:Int)<(i:Int))];refine s_ ⟨l.length-(i+1),oM,Z,i+1,iS,iX,iX,iX,oM,fin iX (by simp[dH,c4,cP]),rfl⟩
       done
      ·let⟨b2,an,a2,t1,t2,t3,t4⟩:=(ra.fr Z).ix gu .i64 ((i:Int)-1) oM oM;have ax:l[i-1]? =some a2:=by rw[<-t4];congr 1;omega
       have ac:ab h4 b2 an=some (.f a2.1):=t2 0 oM;have pe:dH l i=some a2.1:=by simp[dH,c4,ax]
       cases c5:r? a.1 a2.1
       ·simp(disch:=omega) only[b_,seval,DF,j_,ag,K,g0,q0,r1,r2,s0,s1,s2,(oM:(0:Int)<(a.2.1:Nat)),bD,cv,c5,t1,ac,mP,(oM:(0:Int)<(i:Int))];refine s_ ⟨l.length-(i+1),oM,Z,i+1,iS,iX,iX,iX,oM,fin iX (by rw[pe];simp[cP,c5]),rfl⟩
        done
       ·simp(disch:=omega) only[b_,seval,DF,j_,ag,g0,q0,r1,r2,s0,s1,s2,(oM:(0:Int)<(a.2.1:Nat)),bD,cv,c5,t1,ac,mP,(oM:(0:Int)<(i:Int))];exact bad Z (by simp[iW,pe,cP,c5])
   ·simp only[b_,seval,K,ak,(oM:¬(i:Int)<l.length)];rw[Wo oM]at e;exact⟨by simp[cJ,c8,<-e,eW],F⟩
 ·refine ah ?_;simp only[b_,seval,ra.t_,(oM:(8:Int)<(l.length:Nat))];exact⟨by simp[cJ,c8],Wl w⟩
inductive PT where
 |w_
 |o_ (kind:Nat) (tag key:g_) (slots:List Q3) (text:g_) (va vc:V) (sub next:PT)
namespace PT
def t_:PT->Nat
 |w_=>0
 |o_ _ _ _ _ _ _ _ _ nx=>nx.t_+1
def P0:PT->List V
 |w_=>[]
 |o_ k tg ky _ tx va vc _ nx=>[ ZY (k:Int),.f tg,.f ky,va,.f tx,vc]++nx.P0
def keys:PT->List g_
 |w_=>[]
 |o_ _ _ ky _ _ _ _ _ nx=>ky::nx.keys
theorem W_:∀t:PT,t.P0.length=t.t_*6
 |w_=>rfl
 |o_ _ _ _ _ _ _ _ _ nx=>by simp[P0,t_,W_ nx];omega
theorem keys_len:∀t:PT,t.keys.length=t.t_
 |w_=>rfl
 |o_ _ _ _ _ _ _ _ _ nx=>by simp[keys,t_,keys_len nx]
def Z5:PT->Nat->PT
 |t,0=>t
 |w_,_+1=>w_
 |o_ _ _ _ _ _ _ _ _ nx,i+1=>nx.Z5 i
end PT
def PH(h:a_):PT->Prop
 |.w_=>True
 |.o_ k _ _ at' _ va vc sub nx=>k<256/\q_ sW 3 h va at'/\at'.length<=4096/\Sl h 6 vc sub.t_ sub.P0/\sub.t_<=4096/\PH h sub/\PH h nx
theorem PH.fr{h:a_}(f:Fr [] h h'):∀{t:PT},PH h t->PH h' t
 |.w_,_=>trivial
 |.o_ _ _ _ _ _ _ _ _ _,⟨a,b,c,d,e,g,i⟩=>⟨a,b.fr f,c,d.fr f,e,PH.fr f g,PH.fr f i⟩
namespace PT
theorem N?:∀(t:PT)(i:Nat),i<t.t_→∃k tg ky at' tx va vc sub nx,t.Z5 i=.o_ k tg ky at' tx va vc sub nx∧t.P0.drop (i*6)=[.A .u8 ((k:Nat):Int),.f tg,.f ky,va,.f tx,vc]++nx.P0∧t.Z5 (i+1)=nx∧t.keys.drop i=ky::nx.keys∧t.keys[i]? =some ky∧nx.t_+(i+1)=t.t_
 |.w_,_,h=>by cases h
 |.o_ k tg ky at' tx va vc sub nx,0,_=>⟨k,tg,ky,at',tx,va,vc,sub,nx,rfl,rfl,by cases nx<;>rfl,rfl,rfl,rfl⟩
 |.o_ _ _ _ _ _ _ _ _ nx,i+1,h=>by let⟨k,tg,ky,at',tx,va,vc,sub,n,e1,e2,e3,e4,e5,e6⟩:=N? nx i (by simp[t_]at h;omega);refine⟨k,tg,ky,at',tx,va,vc,sub,n,e1,?_,e3,e4,?_,by simp only[t_];omega⟩;rw[(oM:(i+1) *6=6+i*6),←List.drop_drop];exact e2;simpa[keys]using e5
theorem t?:∀(t:PT)(i:Nat),t.t_<=i->t.Z5 i=.w_
 |.w_,0,_=>rfl
 |.w_,_+1,_=>rfl
 |.o_ _ _ _ _ _ _ _ _ nx,0,h=>by simp[t_]at h
 |.o_ _ _ _ _ _ _ _ _ nx,i+1,h=>t? nx i (by simp[t_]at h;omega)
end PT
theorem PH.Z5{h:a_}:∀{t:PT}(i:Nat),PH h t->PH h (t.Z5 i)
 |.w_,0,_=>trivial
 |.w_,_+1,_=>trivial
 |.o_ _ _ _ _ _ _ _ _ _,0,a=>a
 |.o_ _ _ _ _ _ _ _ _ _,i+1,⟨_,_,_,_,_,_,g⟩=>PH.Z5 i g
def dX(k:Nat)(tg ky:g_)(sl:List Q3)(tx:g_)(n:Nat):Bool:=
 if k=1 then(ky==[]||G_ ky)&&(decide (n<=16)&&(G_ tg&&(cJ sl&&tx==[])))
 else if k=5 then G_ tg&&(cJ sl&&(ky==[]&&(tx==[]&&decide (n=0))))
 else if k=2 then P8 tx&&(tg==[]&&(ky==[]&&(decide (sl.length=0)&&decide (n=0))))
 else if k=3\/k=4 then tg==[]&&(ky==[]&&(tx==[]&&(decide (sl.length=0)&&decide (n=0))))
 else false
theorem PH.ones{h:a_}:∀{t:PT},PH h t->aw t.P0=true
 |.w_,_=>rfl
 |.o_ k tg ky _ tx va vc _ nx,⟨_,b,_,d,_,_,g⟩=>by show aw ([ ZY (k:Int),.f tg,.f ky,va,.f tx,vc]++nx.P0)=true;rw[aW,PH.ones g];simp only[au,aB,Xs b,Xs d];rfl
namespace PT
def R3(k:Nat)(tg ky:g_)(at':List Q3)(tx:g_)(sub:PT)(w:Nat->Nat->Nat×Bool)(l c:Nat):Nat×Bool:=
 if 6<l\/64<c+1\/dX k tg ky at' tx sub.t_=false then(c+1,false)else w (l+1) (c+1)
def P3:PT->Nat->Nat->Nat×Bool
 |w_,_,c=>(c,true)
 |o_ k tg ky at' tx _ _ sub nx,l,c=>let r:=R3 k tg ky at' tx sub sub.P3 l c;if r.2=true then nx.P3 l r.1 else r
theorem jW:∀(t:PT)(l c:Nat),c≤64→(t.P3 l c).1≤65∧((t.P3 l c).2=true→(t.P3 l c).1≤64)
 |w_,_,c,h=>⟨by simp[P3];omega,fun _=>h⟩
 |o_ k tg ky at' tx _ _ sub nx,l,c,h=>by
  have q:(R3 k tg ky at' tx sub sub.P3 l c).1≤65∧((R3 k tg ky at' tx sub sub.P3 l c).2=true→(R3 k tg ky at' tx sub sub.P3 l c).1≤64):=by unfold R3;split;grind;rename_i x;exact jW sub (l+1) (c+1) oM
  simp only[P3];split;rename_i x;exact jW nx l _ (q.2 x);exact q
theorem node_le(k:Nat)(tg ky:g_)(at':List Q3)(tx:g_)(sub:PT)(l c:Nat)(h:c<=64):(R3 k tg ky at' tx sub sub.P3 l c).1<=65/\((R3 k tg ky at' tx sub sub.P3 l c).2=true->(R3 k tg ky at' tx sub sub.P3 l c).1<=64):=by unfold R3;split;grind;exact jW sub (l+1) (c+1) oM
end PT
theorem DU{h:a_}{b o k:Nat}{tg ky tx:g_}{sl:List Q3}{sub:PT}(w:WF h)(hA:∀h',Fr [] h h'->Z? h' b o (ZY (k:Int)) (.f tg) (.f ky) va (.f tx) vc)
 (ra:q_ sW 3 h va sl) (na:sl.length<=4096) (rc:Sl h 6 vc sub.t_ sub.P0) (nc:sub.t_<=4096):
 ao go 260 [.u b o] h fun u h'=>u=.h (dX k tg ky sl tx sub.t_)/\Fr [] h h':=by
 have q:=hA h (Wl w);have aJ:=Xs ra;have aN:=rc.U;let⟨h1,ax,an,az⟩:=aq w [ZY 0,.f [],.f [],.r,.f [],.r];refine ah ?_;simp[b_,<-ax,q.2.2.2.2.2.2];refine ai (c':=[ZY (k:Int),.f tg,.f ky,va,.f tx,vc]) an.o az rfl (by simp only[V.s,au,aB,aJ,aN];rfl) rfl ?_;rintro h2 o2 F2 n2;have ac:Fr [] h h2:=an.z F2 w (VZ _);let⟨q0,q1,q2,q3,q4,q5,_⟩:=hA h2 ac;have l3:aP .d [va]=some (ZZ (sl.length:Nat)):=ra.t_;have l5:aP .d [vc]=some (ZZ (sub.t_:Nat)):=rc.t_;have s1:ab h2 h.e 1=some (.f tg):=o2.j 1;have s2:ab h2 h.e 2=some (.f ky):=o2.j 2;have s3:ab h2 h.e 3=some va:=o2.j 3;have s4:ab h2 h.e 4=some (.f tx):=o2.j 4;have s5:ab h2 h.e 5=some vc:=o2.j 5;unfold dX;by_cases k1:k=1;rw[if_pos k1];cases ck:ky==[];simp only[b_,seval,q0,(oM:(k:Int)=1),q2,bD,ck];apply aa (gY F2.o);rintro _ h3 ⟨rfl,F3⟩;have ae:=ac.c F3;cases cn:G_ ky;simp only[b_,seval];exact⟨by simp[],ae⟩;have qp:=(hA h3 ae).2.2.2.2.2.1;by_cases ar:¬sub.t_<=16;simp only[b_,seval,qp,l5,(oM:(16:Int)<(sub.t_:Nat))];exact⟨by simp[ar],ae⟩;have cp:sub.t_<=16:=oM;simp only[b_,seval,qp,l5,(oM:¬(16:Int)<(sub.t_:Nat))];apply B_ F3.o (F3.i o2);rintro he oe Fe ne;simp only[b_,seval];apply B_ Fe.o oe;rintro hf of Ff nf;have Gf:Fr [] h hf:=(ae.z Fe w (VZ _)).z Ff w (VZ _);have qa:=(hA hf Gf).2.1;simp only[b_,seval,qa];apply aa (gY Gf.o);rintro _ ha ⟨rfl,Fa⟩;have G1:=Gf.c Fa;have qb:=(hA ha G1).2.2.2.1;cases c1:G_ tg;simp only[b_,seval];exact⟨by simp,G1⟩;simp only[b_,seval,qb];apply aa (sV Fa.o (ra.fr G1) na);rintro _ hb ⟨rfl,Fb⟩;have G2:=G1.c Fb;cases c2:cJ sl;simp only[b_,seval];exact⟨by simp,G2⟩;simp only[b_,seval];have oa:=Fb.i (Fa.i of);apply B_ Fb.o oa;rintro hc oc Fc ay;simp only[b_,seval];apply B_ Fc.o oc;rintro K od Fd nd;have Z:Fr [] h K:=(G2.z Fc w (VZ _)).z Fd w (VZ _);have z1:ab K h.e 1=some (.f []):=od.j 1;have z2:ab K h.e 2=some (.f []):=od.j 2;have z3:ab K h.e 3=some (.r):=od.j 3;have z4:ab K h.e 4=some (.f tx):=od.j 4;have z5:ab K h.e 5=some (.r):=od.j 5;cases tX:tx==[];simp only[b_,seval,z1,z2,z4,aS,(iR:(([]:g_)==[])=true),tX];exact⟨by simp,Z⟩;simp only[b_,seval,z1,z2,z3,z4,z5,aS,(iR:(([]:g_)==[])=true),tX];exact⟨by simp[cp],Z⟩;have ae:=ac;have qp:=(hA h2 ac).2.2.2.2.2.1;by_cases ar:¬sub.t_<=16;simp only[b_,seval,q0,(oM:(k:Int)=1),q2,bD,ck,qp,l5,(oM:(16:Int)<(sub.t_:Nat))];exact⟨by simp[ar],ac⟩;have cp:sub.t_<=16:=oM;simp only[b_,seval,q0,(oM:(k:Int)=1),q2,bD,ck,qp,l5,(oM:¬(16:Int)<(sub.t_:Nat))];apply B_ F2.o o2;rintro he oe Fe ne;simp only[b_,seval];apply B_ Fe.o oe;rintro hf of Ff nf;have Gf:Fr [] h hf:=(ac.z Fe w (VZ _)).z Ff w (VZ _);have qa:=(hA hf Gf).2.1;simp only[b_,seval,qa];apply aa (gY Gf.o);rintro _ ha ⟨rfl,Fa⟩;have G1:=Gf.c Fa;have qb:=(hA ha G1).2.2.2.1;cases c1:G_ tg;simp only[b_,seval];exact⟨by simp,G1⟩;simp only[b_,seval,qb];apply aa (sV Fa.o (ra.fr G1) na);rintro _ hb ⟨rfl,Fb⟩;have G2:=G1.c Fb;cases c2:cJ sl;simp only[b_,seval];exact⟨by simp,G2⟩;simp only[b_,seval];have oa:=Fb.i (Fa.i of);apply B_ Fb.o oa;rintro hc oc Fc ay;simp only[b_,seval];apply B_ Fc.o oc;rintro K od Fd nd;have Z:Fr [] h K:=(G2.z Fc w (VZ _)).z Fd w (VZ _);have z1:ab K h.e 1=some (.f []):=od.j 1;have z2:ab K h.e 2=some (.f []):=od.j 2;have z3:ab K h.e 3=some (.r):=od.j 3;have z4:ab K h.e 4=some (.f tx):=od.j 4;have z5:ab K h.e 5=some (.r):=od.j 5;cases tX:tx==[];simp only[b_,seval,z1,z2,z4,aS,(iR:(([]:g_)==[])=true),tX];exact⟨by simp,Z⟩;simp only[b_,seval,z1,z2,z3,z4,z5,aS,(iR:(([]:g_)==[])=true),tX];exact⟨by simp[cp],Z⟩;by_cases k5:k=5;rw[if_neg k1,if_pos k5];have qa:=(hA h2 ac).2.1;simp only[b_,seval,q0,(oM:(k:Int)=5),qa];apply aa (gY ac.o);rintro _ ha ⟨rfl,Fa⟩;have G1:=ac.c Fa;have qb:=(hA ha G1).2.2.2.1;cases c1:G_ tg;simp only[b_,seval];exact⟨by simp[],G1⟩;simp only[b_,seval,qb];apply aa (sV Fa.o (ra.fr G1) na);rintro _ hb ⟨rfl,Fb⟩;have G2:=G1.c Fb;cases c2:cJ sl;simp only[b_,seval];exact⟨by simp[],G2⟩;simp only[b_,seval];have oa:=Fb.i (Fa.i o2);apply B_ Fb.o oa;rintro hc oc Fc ay;simp only[b_,seval];apply B_ Fc.o oc;rintro K od Fd nd;have Z:Fr [] h K:=(G2.z Fc w (VZ _)).z Fd w (VZ _);have z1:ab K h.e 1=some (.f []):=od.j 1;have z2:ab K h.e 2=some (.f ky):=od.j 2;have z3:ab K h.e 3=some (.r):=od.j 3;have z4:ab K h.e 4=some (.f tx):=od.j 4;have z5:ab K h.e 5=some (vc):=od.j 5;cases tK:ky==[];simp only[b_,seval,z1,z2,aS,(iR:(([]:g_)==[])=true),tK];exact⟨by simp[],Z⟩;cases tX:tx==[];simp only[b_,seval,z1,z2,z4,aS,(iR:(([]:g_)==[])=true),tK,tX];exact⟨by simp[],Z⟩;by_cases af:¬sub.t_=0;simp only[b_,seval,z1,z2,z3,z4,z5,aS,(iR:(([]:g_)==[])=true),tK,tX,l5,(oM:¬((sub.t_:Nat):Int)=0)];exact⟨by simp[af],Z⟩;have tP:sub.t_=0:=oM;simp only[b_,seval,z1,z2,z3,z4,z5,aS,(iR:(([]:g_)==[])=true),tK,tX,l5,(oM:((sub.t_:Nat):Int)=0)];exact⟨by simp[tP],Z⟩;by_cases k2:k=2;rw[if_neg k1,if_neg k5,if_pos k2];simp only[b_,seval,q0,(oM:(k:Int)=2),q4];apply aa (qf F2.o);rintro _ h3 ⟨rfl,F3⟩;have ae:=ac.c F3;cases c1:P8 tx;simp only[b_,seval];exact⟨iS,ae⟩;simp only[b_,seval];apply B_ F3.o (F3.i o2);rintro K od Fd nd;have Z:Fr [] h K:=ae.z Fd w (VZ _);have z1:ab K h.e 1=some (.f tg):=od.j 1;have z2:ab K h.e 2=some (.f ky):=od.j 2;have z3:ab K h.e 3=some (va):=od.j 3;have z4:ab K h.e 4=some (.f []):=od.j 4;have z5:ab K h.e 5=some (vc):=od.j 5;cases tT:tg==[];simp only[b_,seval,z1,aS,tT];exact⟨by simp[],Z⟩;cases tK:ky==[];simp only[b_,seval,z1,z2,aS,tT,tK];exact⟨by simp[],Z⟩;by_cases ak:¬sl.length=0;simp only[b_,seval,z1,z2,z3,z4,aS,(iR:(([]:g_)==[])=true),tT,tK,l3,(oM:¬((sl.length:Nat):Int)=0)];exact⟨by simp[ak],Z⟩;have tS:sl.length=0:=oM;by_cases af:¬sub.t_=0;simp only[b_,seval,z1,z2,z3,z4,z5,aS,(iR:(([]:g_)==[])=true),tT,tK,l3,(oM:((sl.length:Nat):Int)=0),l5,(oM:¬((sub.t_:Nat):Int)=0)];exact⟨by simp[af],Z⟩;have tP:sub.t_=0:=oM;simp only[b_,seval,z1,z2,z3,z4,z5,aS,(iR:(([]:g_)==[])=true),tT,tK,l3,(oM:((sl.length:Nat):Int)=0),l5,(oM:((sub.t_:Nat):Int)=0)];exact⟨by simp[tS,tP],Z⟩;by_cases aH:k=3\/k=4;rw[if_neg k1,if_neg k5,if_neg k2,if_pos aH];by_cases k3:k=3;have Z:=ac;cases tT:tg==[];simp only[b_,seval,q0,(oM:(k:Int)=3),s1,aS,tT];exact⟨by simp[],Z⟩;cases tK:ky==[];simp only[b_,seval,q0,(oM:(k:Int)=3),s1,s2,aS,tT,tK];exact⟨by simp[],Z⟩;cases tX:tx==[];simp only[b_,seval,q0,(oM:(k:Int)=3),s1,s2,s4,aS,tT,tK,tX];exact⟨by simp[],Z⟩;by_cases ak:¬sl.length=0;simp only[b_,seval,q0,(oM:(k:Int)=3),s1,s2,s3,s4,aS,tT,tK,tX,l3,(oM:¬((sl.length:Nat):Int)=0)];exact⟨by simp[ak],Z⟩;have tS:sl.length=0:=oM;by_cases af:¬sub.t_=0;simp only[b_,seval,q0,(oM:(k:Int)=3),s1,s2,s3,s4,s5,aS,tT,tK,tX,l3,(oM:((sl.length:Nat):Int)=0),l5,(oM:¬((sub.t_:Nat):Int)=0)];exact⟨by simp[af],Z⟩;have tP:sub.t_=0:=oM;simp only[b_,seval,q0,(oM:(k:Int)=3),s1,s2,s3,s4,s5,aS,tT,tK,tX,l3,(oM:((sl.length:Nat):Int)=0),l5,(oM:((sub.t_:Nat):Int)=0)];exact⟨by simp[tS,tP],Z⟩;have Z:=ac;cases tT:tg==[];simp only[b_,seval,q0,(oM:(k:Int)=4),s1,aS,tT];exact⟨by simp[],Z⟩;cases tK:ky==[];simp only[b_,seval,q0,(oM:(k:Int)=4),s1,s2,aS,tT,tK];exact⟨by simp[],Z⟩;cases tX:tx==[];simp only[b_,seval,q0,(oM:(k:Int)=4),s1,s2,s4,aS,tT,tK,tX];exact⟨by simp[],Z⟩;by_cases ak:¬sl.length=0;simp only[b_,seval,q0,(oM:(k:Int)=4),s1,s2,s3,s4,aS,tT,tK,tX,l3,(oM:¬((sl.length:Nat):Int)=0)];exact⟨by simp[ak],Z⟩;have tS:sl.length=0:=oM;by_cases af:¬sub.t_=0;simp only[b_,seval,q0,(oM:(k:Int)=4),s1,s2,s3,s4,s5,aS,tT,tK,tX,l3,(oM:((sl.length:Nat):Int)=0),l5,(oM:¬((sub.t_:Nat):Int)=0)];exact⟨by simp[af],Z⟩;have tP:sub.t_=0:=oM;simp only[b_,seval,q0,(oM:(k:Int)=4),s1,s2,s3,s4,s5,aS,tT,tK,tX,l3,(oM:((sl.length:Nat):Int)=0),l5,(oM:((sub.t_:Nat):Int)=0)];exact⟨by simp[tS,tP],Z⟩;rw[if_neg k1,if_neg k5,if_neg k2,if_neg aH];simp[b_,q0,(oM:¬(k:Int)=1),(oM:¬(k:Int)=5),(oM:¬(k:Int)=2),(oM:¬(k:Int)=3),(oM:¬(k:Int)=4)];exact ac
structure Tm(h0 h:a_)(bc bf bw:Nat)(c:Nat):Prop where
 f:Fr [] h0 h
 d:e_ h bc [ZZ (c:Int)]
 e:e_ h bf [.E (.func 213) [] []]
 i:e_ h bw [.E (.func 259) [] [.u bc 0,.u bf 0,.u bw 0]]
theorem Tm.c{h0 h:a_}{bc bf bw c:Nat}(m:Tm h0 h bc bf bw c)(f:Fr [] h h'):Tm h0 h' bc bf bw c:=⟨m.f.c f,f.i m.d,f.i m.e,f.i m.i⟩
def Mh(h0:a_)(k:Nat)(tg ky:g_)(at':List Q3)(tx:g_)(va vc:V)(sub:PT):Prop:=
 ∀(h:a_)(b o bc bd bw l c:Nat),MsB h0 bc bd bw->Tm h0 h bc bd bw c->(∀h',Fr [] h0 h'->Z? h' b o (ZY (k:Int)) (.f tg) (.f ky) va (.f tx) vc)->l<=7->c<=64->
  ao go 259 [.u b o,ZZ (l:Int),.u bc 0,.u bd 0,.u bw 0] h fun u h'=>u=.h (PT.R3 k tg ky at' tx sub sub.P3 l c).2/\Tm h0 h' bc bd bw (PT.R3 k tg ky at' tx sub sub.P3 l c).1
def TAll(h0:a_):PT->Prop
 |.w_=>True
 |.o_ k tg ky at' tx va vc sub nx=>Mh h0 k tg ky at' tx va vc sub/\TAll h0 nx
theorem TAll.Z5{h:a_}:∀{t:PT}(i:Nat),TAll h t->TAll h (t.Z5 i)
 |.w_,0,_=>trivial
 |.w_,_+1,_=>trivial
 |.o_ _ _ _ _ _ _ _ _ _,0,a=>a
 |.o_ _ _ _ _ _ _ _ _ _,i+1,⟨_,g⟩=>TAll.Z5 i g
theorem MO{h:a_}(v:V):ao go 213 [v] h fun u h'=>u=.D []/\h=h':=by refine ah ?_;simp[b_]
theorem Gm{h0:a_}{k:Nat}{tg ky:g_}{at':List Q3}{tx:g_}{sub:PT}
 (ra:q_ sW 3 h0 va at') (na:at'.length<=4096) (rc:Sl h0 6 vc sub.t_ sub.P0) (nc:sub.t_<=4096) (A:TAll h0 sub):Mh h0 k tg ky at' tx va vc sub:=by
 intro h b o bc bd bw l c B M hA hl hc;have lc:ab h bc 0=some (ZZ (c:Int)):=M.d.j 0;refine ah ?_;simp(disch:=omega)[b_,ag,lc];refine B_ M.f.o M.d ?_;rintro h1 o1 F1 n1;have K:Tm h0 h1 bc bd bw (c+1):=by refine⟨?_,o1,F1.I _ _ (eV B.e.symm) M.e,F1.I _ _ (eV B.i.symm) M.i⟩;exact Wp M.f F1 B.w (fun x hx=>.inl hx) (fun x hx=>.inr (by simp at hx;subst hx;exact B.c))
 have aH:ab h1 bc 0=some (ZZ ((c+1:Nat):Int)):=K.d.j 0;by_cases c1:6<l;have e:PT.R3 k tg ky at' tx sub sub.P3 l c=(c+1,false):=if_pos (.inl c1);simp only[b_,seval,(oM:(6:Int)<(l:Int))];rw[e];exact⟨rfl,K⟩;by_cases c2:64<c+1;have e:PT.R3 k tg ky at' tx sub sub.P3 l c=(c+1,false):=if_pos (.inr (.inl c2));simp only[b_,seval,(oM:¬(6:Int)<(l:Int)),aH,(oM:(64:Int)<((c+1:Nat):Int))];rw[e];exact⟨rfl,K⟩;simp only[b_,seval,(oM:¬(6:Int)<(l:Int)),aH,(oM:¬(64:Int)<((c+1:Nat):Int))];apply aa (DU K.f.o (fun h' f=>hA h' (K.f.c f)) (ra.fr K.f) na (rc.fr K.f) nc);rintro _ h3 ⟨rfl,F3⟩;have M3:=K.c F3;cases c3:dX k tg ky at' tx sub.t_;have e:PT.R3 k tg ky at' tx sub sub.P3 l c=(c+1,false):=if_pos (.inr (.inr c3));simp only[b_,seval];rw[e];exact⟨rfl,M3⟩;have e:PT.R3 k tg ky at' tx sub sub.P3 l c=sub.P3 (l+1) (c+1):=if_neg (by simp[c3];omega);rw[e];have q5:=(hA h3 M3.f).2.2.2.2.2.1;have lf:ab h3 bd 0=some (.E (.func 213) [] []):=M3.e.j 0;simp[b_,lf];apply aa (MO _);rintro _ _ ⟨rfl,rfl⟩;simp[b_,q5,(rc.fr M3.f).t_];refine aA (fun n env hh=>∃(i c':Nat),Tm h0 hh bc bd bw c'/\env.c_ 30=some (ZZ i)/\env.c_ 29=some (ZZ sub.t_)/\env.c_ 0=some (.u b o)/\env.c_ 1=some (ZZ l)/\env.c_ 4=some (.u bw 0)/\
  i<=sub.t_/\c'<=64/\(sub.Z5 i).P3 (l+1) c'=sub.P3 (l+1) (c+1)/\n=sub.t_-i) sub.t_ oM ?_ ?_
 exact⟨0,c+1,M3,iS,iS,iS,iS,iS,oM,oM,by cases sub<;>rfl,rfl⟩;rintro n env hh ⟨i,c',M',ac,ay,g0,g1,g4,hi,az,Z,rfl⟩;by_cases ae:i<sub.t_;let⟨kd,af,an,ar,ak,aN,aR,sb,nx,e1,e2,e3,e4,e5,e6⟩:=sub.N? i ae;have ax:(i:Int)<sub.t_:=oM;have a:=A.Z5 i;rw[e1]at a Z;let⟨b',o',p1,_⟩:=(rc.fr M'.f).ix6 ae e2;have aT:∀h',Fr [] h0 h'->Z? h' b' o' (ZY (kd:Int)) (.f af) (.f an) aN (.f ak) aR:=fun h' f=>by let⟨b2,o2,aJ,p2'⟩:=(rc.fr f).ix6 ae e2;rw[p1]at aJ;cases aJ;exact p2'
 have q5:=(hA hh M'.f).2.2.2.2.2.1;have lw:ab hh bw 0=some (.E (.func 259) [] [.u bc 0,.u bd 0,.u bw 0]):=M'.i.j 0;simp(disch:=omega)[b_,j_,ag,ac,ay,g0,g1,g4,ax,lw,q5,p1];apply aa (a.1 hh b' o' bc bd bw (l+1) c' B M' aT oM az);rintro _ h4 ⟨rfl,M4⟩;simp[PT.P3]at Z;have nl:=PT.node_le kd af an ar ak sb (l+1) c' az;cases c4:(PT.R3 kd af an ar ak sb sb.P3 (l+1) c').2;rw[c4]at Z;simp only[b_,seval,DF,j_,g4,lw,q5];rw[<-Z];exact⟨by simp[c4],by simpa using M4⟩;rw[c4]at Z;simp(disch:=omega)[b_,DF,j_,ag,ac,g4,lw,q5];refine s_ ⟨sub.t_-(i+1),oM,i+1,_,M4,iS,iX,iX,iX,iX,oM,nl.2 c4,?_,rfl⟩;rw[e3];simpa using Z;simp only[b_,seval,ac,ay,(oM:¬(i:Int)<sub.t_)];rw[PT.t? _ _ oM]at Z;rw[<-Z];exact⟨rfl,M'⟩
theorem A4{h:a_}:∀{t:PT},PH h t->TAll h t
 |.w_,_=>trivial
 |.o_ _ _ _ _ _ _ _ _ _,⟨_,b,c,d,e,f,g⟩=>⟨Gm b c d e (A4 f),A4 g⟩
def PT.S4(k:Nat)(tg ky:g_)(at':List Q3)(tx:g_)(sub:PT):Nat:=
 if k=1/\(R3 k tg ky at' tx sub sub.P3 1 0).2=true then(R3 k tg ky at' tx sub sub.P3 1 0).1 else 0
theorem Gh{h:a_}{k b o:Nat}{tg ky:g_}{at':List Q3}{tx:g_}{sub:PT}(w:WF h)(n:PH h (.o_ k tg ky at' tx va vc sub .w_))
 (hA:∀h',Fr [] h h'->Z? h' b o (ZY (k:Int)) (.f tg) (.f ky) va (.f tx) vc):
 ao go 212 [.u b o,.E (.func 213) [] []] h fun u h'=>u=ZZ (PT.S4 k tg ky at' tx sub:Nat)/\Fr [] h h':=by
 let⟨h2,ac,K,ax⟩:=aq w [.E (.func 213) [] []];have q0:=(hA h2 K).1;by_cases k1:k=1;let⟨h3,af,ae,ak⟩:=aq K.o [ZZ 0];have n2:=x_ ac;have n3:=x_ af;refine ah ?_;simp[b_,<-ac,q0,(oM:(k:Int)=1),<-af];refine B_ ae.o ak ?_;rintro h4 o4 F4 n4;let⟨h5,an,Z,ar⟩:=aq F4.o [.R];simp[b_,<-an];refine B_ Z.o ar ?_;rintro h6 o6 F6 n6;have az:Fr [] h h4:=(K.c ae).z F4 w oM;have ay:Fr [] h h6:=(az.c Z).z F6 w oM;have B:MsB h h2.e h.e h4.e:=⟨w,oM,VZ _,oM,oM,oM,oM⟩;have M:Tm h h6 h2.e h.e h4.e 0:=⟨ay,F6.I _ _ oO (Z.i o4),F6.I _ _ oO (Z.i (F4.I _ _ oO (ae.i ax))),o6⟩;have lw:ab h6 h4.e 0=some (.E (.func 259) [] [.u h2.e 0,.u h.e 0,.u h4.e 0]):=o6.j 0;simp[b_,lw];refine aa ((A4 n).1 h6 b o h2.e h.e h4.e 1 0 B M hA oM oM) ?_;rintro _ h7 ⟨rfl,M7⟩;unfold PT.S4;cases c:(PT.R3 k tg ky at' tx sub sub.P3 1 0).2;simp only[b_,seval];exact⟨iS,M7.f⟩;have lc:ab h7 h2.e 0=some (ZZ ((PT.R3 k tg ky at' tx sub sub.P3 1 0).1:Int)):=M7.d.j 0;simp only[b_,seval,lc];exact⟨by simp[k1],M7.f⟩;refine ah ?_;simp only[b_,seval,<-ac,q0,(oM:¬(k:Int)=1)];exact⟨by simp[PT.S4,k1],K⟩
theorem vB{h:a_}{k:Nat}{tg ky:g_}{at':List Q3}{tx:g_}{sub:PT}(w:WF h)(n:PH h (.o_ k tg ky at' tx va vc sub .w_)):
 ao go 156 [.B [ZY (k:Int),.f tg,.f ky,va,.f tx,vc]] h fun u h'=>u=ZZ (PT.S4 k tg ky at' tx sub:Nat)/\Fr [] h h':=by
 let⟨h1,K,Z,ac⟩:=aq w [ZY (k:Int),.f tg,.f ky,va,.f tx,vc];refine ah ?_;simp[b_,<-K];refine aa (Gh Z.o (n.fr Z) (fun h' f=>(f.i ac).at6)) ?_;rintro _ h2 ⟨rfl,F2⟩;simp[b_];exact Z.c F2
theorem vD{h:a_}{k:Nat}{tg ky:g_}{at':List Q3}{tx:g_}{sub:PT}(w:WF h)(n:PH h (.o_ k tg ky at' tx va vc sub .w_)):
 ao go 98 [.B [ZY (k:Int),.f tg,.f ky,va,.f tx,vc]] h fun u h'=>u=ZZ (if PT.S4 k tg ky at' tx sub=0 then 14 else 0)/\Fr [] h h':=by
 let⟨h1,K,Z,ac⟩:=aq w [ZY (k:Int),.f tg,.f ky,va,.f tx,vc];by_cases c:PT.S4 k tg ky at' tx sub=0;refine ah ?_;simp[b_,<-K,ac.at6.2.2.2.2.2.2];refine aa (vB Z.o (n.fr Z)) ?_;rintro _ h2 ⟨rfl,F2⟩;simp only[b_,seval,(oM:((PT.S4 k tg ky at' tx sub:Nat):Int)=0)];exact⟨by rw[if_pos c],Z.c F2⟩;refine ah ?_;simp[b_,<-K,ac.at6.2.2.2.2.2.2];refine aa (vB Z.o (n.fr Z)) ?_;rintro _ h2 ⟨rfl,F2⟩;simp only[b_,seval,(oM:¬((PT.S4 k tg ky at' tx sub:Nat):Int)=0)];exact⟨by rw[if_neg c],Z.c F2⟩
theorem PI:Ln 215:=⟨dI,fun z h w=>by
 refine ah ?_;simp[b_];refine aa (gY w) ?_;rintro _ h1 ⟨rfl,F⟩;simp[b_];exact F⟩
def iG(x:m_):Bool:=decide (x.J≠0)&&(P8 x.X&&x? x.C)
theorem yz{h:a_}{x:m_}(w:WF h)(a:u_ h x):ao go 160 [.B x.s] h fun u h'=>u=ZZ (if iG x then 0 else 6)/\Fr [] h h':=by let⟨h1,ae,K,ac⟩:=aq w x.s;have l0:ab h1 h.e 0=some (ZX (x.J:Int)):=ac.j 0;have l2:ab h1 h.e 2=some (.f x.X):=ac.j 2;by_cases c0:x.J=0;refine ah ?_;simp only[b_,seval,<-ae,l0,(oM:(x.J:Int)=0)];exact⟨by simp[iG,c0],K⟩;refine ah ?_;simp only[b_,seval,<-ae,l0,(oM:¬(x.J:Int)=0),l2];apply aa (qf K.o);rintro _ h2 ⟨rfl,F2⟩;have Z:=K.c F2;have l3:ab h2 h.e 3=some x.vm:=(F2.i ac).j 3;cases c2:P8 x.X;simp only[b_,seval];exact⟨by simp[iG,c2],Z⟩;by_cases c3:x.C.length<=8;simp[b_,l3,a.m.t_,(oM:¬(8:Int)<(x.C.length:Nat))];apply aa (pN PI F2.o (a.m.fr Z) a.n);rintro _ h3 ⟨rfl,F3⟩;cases c4:x.C.all G_;simp only[b_,seval];exact⟨by simp[iG,x?,c4],Z.c F3⟩;simp only[b_,seval];exact⟨by simp[iG,x?,c0,c2,c3,c4],Z.c F3⟩;simp only[b_,seval,l3,a.m.t_,(oM:(8:Int)<(x.C.length:Nat))];exact⟨by simp[iG,x?,c3],Z⟩
def W8(n:Nat):g_:=if h:n<10 then[UInt8.ofNat (48+n)]else W8 (n/10)++[UInt8.ofNat (48+n%10)]
termination_by n
decreasing_by omega
theorem yn{n:Nat}(h:n<10):W8 n=[UInt8.ofNat (48+n)]:=by rw[W8,dif_pos h]
theorem BL{n:Nat}(h:¬n<10):W8 n=W8 (n/10)++[UInt8.ofNat (48+n%10)]:=by rw[W8,dif_neg h]
def c8(b:UInt8):V:=ZY (b.toNat:Int)
theorem AE:∀z:g_,gh (z.map c8)=some z
 |[]=>rfl
 |b::z=>by
  show(match gh (z.map c8)with|some s=>some (UInt8.ofNat ((b.toNat:Int)).toNat::s)|none=>none)=_
  rw[AE z,pi,UInt8.ofNat_toNat]
theorem Iv:∀d,d<10->aP .p [.f [48,49,50,51,52,53,54,55,56,57],ZX (d:Nat)]=some (c8 (UInt8.ofNat (48+d))):=by
 intro d Z;match d,Z with
 |0,_=>rfl
 |1,_=>rfl
 |2,_=>rfl
 |3,_=>rfl
 |4,_=>rfl
 |5,_=>rfl
 |6,_=>rfl
 |7,_=>rfl
 |8,_=>rfl
 |9,_=>rfl
theorem MJ{call:aI}{Z:List V}{h:a_}(x:H_)(K:V->a_->Prop):OQ (aU call Z env h (.j x)) K↔∃d,E_ Z env x=some d/\VQ (yE h d) K h:=by
 simp[aU,OQ,VQ];cases E_ Z env x with
 |none=>simp
 |some d=>
  simp only[];cases e:yE h d with
  |none=>simp[e]
  |some v=>simp only[];exact⟨fun⟨_,_,q,k⟩=>by cases q;exact⟨d,rfl,_,e,k⟩,fun⟨_,q,_,e',k⟩=>by cases q;rw[e]at e';cases e';exact⟨_,_,rfl,k⟩⟩
theorem IM{h:a_}(d:V)(K:V->a_->Prop):(∃e,some d=some e/\VQ (yE h e) K h)↔VQ (yE h d) K h:=⟨fun⟨_,e,k⟩=>by cases e;exact k,fun k=>⟨d,rfl,k⟩⟩
theorem oP{h:a_}{n:Nat}(w:WF h)(hn:n<18446744073709551616):ao go 219 [ZX (n:Int)] h fun u h'=>u=.f (W8 n)/\Fr [] h h':=by
 let⟨h1,ac,ae,ak⟩:=aq w [ZY 0,ZY 0,ZY 0,ZY 0,ZY 0,ZY 0,ZY 0,ZY 0,ZY 0,ZY 0,ZY 0,ZY 0,ZY 0,ZY 0,ZY 0,ZY 0,ZY 0,ZY 0,ZY 0,ZY 0];refine ah ?_;simp[b_,<-ac];refine aA (fun k env hh=>Fr [] h hh/\∃(i m:Nat)(Z:g_)(C:List V),env.c_ 4=some (ZZ i)/\env.c_ 0=some (ZX m)/\env.c_ 3=some (.u h.e 0)/\e_ hh h.e C/\
  C.length=20/\C.drop i=Z.map c8/\0<i/\i<=20/\m<10^i/\W8 n=W8 m++Z/\m<18446744073709551616/\k=i) 20 oM ?_ ?_
 exact⟨ae,20,n,[],_,iS,iS,iS,ak,rfl,rfl,oM,oM,oM,iS,hn,rfl⟩;rintro k env hh ⟨F,i,m,Z,C,g4,g0,g3,oC,hC,hd,i0,an,hm,e,ar,hk⟩;have r1:aP (.e .rem) [ZX (m:Int),ZX 10]=some (ZX ((m%10:Nat):Int)):=by rw[jD _ _ _ dI];rfl
 have r2:aP (.e .quo) [ZX (m:Int),ZX 10]=some (ZX ((m/10:Nat):Int)):=by rw[qL _ _ _ dI,(iR:((m:Int)).tdiv 10=((m/10:Nat):Int)),bS _ oM oM]
 have r3:=Iv (m%10) (XC _ oM);obtain⟨j,rfl⟩:∃j,i=j+1:=⟨i-1,oM⟩;have r4:=iU 1 h.e 0 20 .i64 ((j:Int)) oM oM;simp at r4;simp(disch:=omega) only[b_,seval,ag,g4,g0,g3,r1,r3,(oM:(((j+1:Nat):Int)-1)=(j:Int)),r4];refine ai (c':=C.set j (c8 (UInt8.ofNat (48+m%10)))) F.o oC rfl rfl (fF C j _ oM) ?_;rintro h2 o2 F2 n2;have af:Fr [] h h2:=F.z F2 w (VZ _);have K:(C.set j (c8 (UInt8.ofNat (48+m%10)))).drop j=(UInt8.ofNat (48+m%10)::Z).map c8:=by rw[XL,if_pos oM,hd,Xj oO];rw[Wo oO];rfl
 by_cases c:m/10=0;have e2:W8 n=UInt8.ofNat (48+m%10)::Z:=by rw[e,yn oM,(oM:m%10=m)];rfl
 have s1:aP (.s (some 20) 1 true false false) [.u h.e 0,ZZ (j:Int)]=some (.y h.e j (20-j) (20-j)):=by simp[aP,uN,aZ,bU .i64 (j:Int) 20 oM oM,Ws,Zc,fC (oM:(20:Nat)≠j),cond_false,pi,WG,Xv]
 have s2:yE h2 (.y h.e j (20-j) (20-j))=some (.f (W8 n)):=by
  have:aj h2 h.e j (20-j)=some ((UInt8.ofNat (48+m%10)::Z).map c8):=by rw[o2.N,bQ,bN _ _ oO,Wj oO,K]
  simp only[yE,this,AE,Ws,e2]
 simp[b_,r2,g0,g3,(oM:((m/10:Nat):Int)=0),s1,MJ,s2];exact af;have e2:W8 n=W8 (m/10)++UInt8.ofNat (48+m%10)::Z:=by rw[e,BL oM];simp
 have j0:0<j:=by obtain z|z:=ZH j;subst z;simp at hm;omega;exact z
 simp only[b_,seval,r2,g0,(oM:¬((m/10:Nat):Int)=0)];refine s_ ⟨j,oM,af,j,m/10,_,_,iS,iS,iX,o2,by simp[hC],K,j0,oM,by rw[Nat.pow_succ]at hm;omega,e2,oM,rfl⟩
 done
end Go.Ev.Lay
namespace Go.Ev
abbrev XD:=@Go.Ev.Lay.Fr.new
abbrev ZF:=@Go.Ev.C_.U
end Go.Ev
