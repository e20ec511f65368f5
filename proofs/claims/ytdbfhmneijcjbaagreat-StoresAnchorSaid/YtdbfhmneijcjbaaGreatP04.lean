/- An evaluator of the program, and contracts over it: EvWb to LayAb. -/
import Derived.Below
import Derived.Test.YtdbfhmneijcjbaaGreatP03
set_option linter.unusedSimpArgs false
set_option linter.unusedVariables false
set_option linter.constructorNameAsVariable false
set_option linter.unnecessarySimpa false
namespace Go.Ev
theorem cD(k:IntKind):lE k k=true:=by simp[lE]
theorem DO(x:V):aP .o [x]=some x:=rfl
theorem DM(c:Bool)(a b:V):aP .p [.h c,a,b]=some (bif c then a else b):=rfl
theorem vt(b o:Nat):aP .e [.u b o]=some (.u b o):=rfl
theorem xL(f:Nat)(x y:List V):aP .e [.I (.func f) x y]=some (.I (.func f) x y):=rfl
theorem IX(k:IntKind)(a b:Int):aP (.h .add) [.C k a,.C k b]=some (.C k (bF k (a+b))):=by simp only[aP,cD,cond_true,jw];rfl
theorem IF(k:IntKind)(a b:Int):aP (.h .sub) [.C k a,.C k b]=some (.C k (bF k (a-b))):=by simp only[aP,cD,cond_true,jw];rfl
theorem CG(k:IntKind)(a b:Int):aP (.h .mul) [.C k a,.C k b]=some (.C k (bF k (a*b))):=by simp only[aP,cD,cond_true,jw];rfl
theorem pp(k:IntKind)(a b:Int)(h:b≠0):aP (.h .quo) [.C k a,.C k b]=some (.C k (bF k (a.tdiv b))):=by
 have:Zl b 0=false:=by rw[fC];simpa using h
 simp[aP,cD,cond_true,jw,this,cond_false]
theorem jy(k:IntKind)(a b:Int)(h:b≠0):aP (.h .rem) [.C k a,.C k b]=some (.C k (a.tmod b)):=by
 have:Zl b 0=false:=by rw[fC];simpa using h
 simp[aP,cD,cond_true,jw,this,cond_false]
theorem CH(k:IntKind)(a b:Int):aP (.h .eql) [.C k a,.C k b]=some (.h (decide (a=b))):=by simp only[aP,cD,cond_true,jw,fC];rfl
theorem IJ(k:IntKind)(a b:Int):aP (.h .neq) [.C k a,.C k b]=some (.h (!decide (a=b))):=by simp only[aP,cD,cond_true,jw,fC];rfl
theorem IN(k:IntKind)(a b:Int):aP (.h .lss) [.C k a,.C k b]=some (.h (decide (a<b))):=by simp[aP,cD,cond_true,jw,jv]
theorem IQ(k:IntKind)(a b:Int):aP (.h .gtr) [.C k a,.C k b]=some (.h (decide (b<a))):=by simp[aP,cD,cond_true,jw,jv]
theorem Ioa(k:IntKind)(a b:Int):aP (.h .leq) [.C k a,.C k b]=some (.h (decide (a<=b))):=by simp only[aP,cD,cond_true,jw,jv];congr 2;rw[Xr];simp
theorem IR(k:IntKind)(a b:Int):aP (.h .geq) [.C k a,.C k b]=some (.h (decide (b<=a))):=by simp only[aP,cD,cond_true,jw,jv];congr 2;rw[Xr];simp
theorem II(b:Bool):aP .x [.h b]=some (.h (!b)):=rfl
theorem IK(k:IntKind)(n:Int):aP .J [.C k n]=some (.C k (bF k (0-n))):=rfl
theorem IV(a b:Bool):aP (.K false) [.h a,.h b]=some (.h (decide (a=b))):=by cases a<;>cases b<;>rfl
theorem IU(a b:Bool):aP (.K true) [.h a,.h b]=some (.h (!decide (a=b))):=by cases a<;>cases b<;>rfl
theorem jP(off b o:Nat):aP (.b off) [.u b o]=some (.u b (o+off)):=rfl
theorem IT(i:Nat)(l:List V):aP (.v i) [.G l]=X0 l i:=rfl
theorem xR(off n:Nat)(l:List V):aP (.u off n false) [.B l]=X0 l off:=rfl
theorem xQ(off n:Nat)(l:List V):aP (.u off n true) [.B l]=(dL n (gJ l off)).map .B:=rfl
theorem IM(fn:Fn)(n:Nat)(vs:List V):aP (.B fn n) vs=(dL n vs).map fun f=>.I fn f (gJ vs n):=rfl
theorem By(zero:List V)(places:List (Nat×Nat))(vs:List V):aP (.a zero places) vs=(dY zero places vs).map .B:=rfl
theorem Md(k k':IntKind)(a b:Int):aP .H [.C k a,.C k' b]=some (.C k (min a b)):=by simp only[aP,jv];congr 2;by_cases h:b<a;grind;grind
theorem Mc(k k':IntKind)(a b:Int):aP .E [.C k a,.C k' b]=some (.C k (max a b)):=by simp only[aP,jv];congr 2;by_cases h:a<b;grind;grind
theorem DU(k k':IntKind)(n:Int):aP (.r k) [.C k' n]=some (.C k (bF k n)):=rfl
theorem DR:aP .d [.j]=some (.C .i64 0):=rfl
theorem DQ(b o len cap:Nat):aP .d [.z b o len cap]=some (.C .i64 len):=rfl
theorem DP(b o len cap:Nat):aP .d [.L b o len cap]=some (.C .i64 len):=rfl
theorem DT:aP .d [.F]=some (.C .i64 0):=rfl
theorem xP(n:Nat)(v:V):aP (.y n) [v]=some (.C .i64 n):=rfl
theorem DW:aP .z [.j]=some (.C .i64 0):=rfl
theorem DV(b o len cap:Nat):aP .z [.z b o len cap]=some (.C .i64 cap):=rfl
theorem eM(esz b o len cap:Nat)(k:IntKind)(i:Int)(h0:0<=i)(Z:i<len):aP (.c esz) [.z b o len cap,.C k i]=some (.u b (o+i.toNat*esz)):=by
 obtain⟨n,rfl⟩:∃n:Nat,i=n:=⟨i.toNat,oM⟩;have:Nat.blt n len=true:=by simp;omega
 simp only[aP,lY];show Option.map _ (bif Nat.blt n len then some n else none)=_;rw[this];rfl
theorem lZ(esz b o len cap:Nat)(k:IntKind)(i:Int)(h0:0<=i)(Z:i<len):aP (.c esz) [.L b o len cap,.C k i]=some (.u b (o+i.toNat*esz)):=by
 obtain⟨n,rfl⟩:∃n:Nat,i=n:=⟨i.toNat,oM⟩;have:Nat.blt n len=true:=by simp;omega
 simp only[aP,lY];show Option.map _ (bif Nat.blt n len then some n else none)=_;rw[this];rfl
theorem vu(esz b o len:Nat)(k:IntKind)(i:Int)(h0:0<=i)(Z:i<len):aP (.g len esz) [.u b o,.C k i]=some (.u b (o+i.toNat*esz)):=by
 obtain⟨n,rfl⟩:∃n:Nat,i=n:=⟨i.toNat,oM⟩;have:Nat.blt n len=true:=by simp;omega
 simp only[aP,lY];show Option.map _ (bif Nat.blt n len then some n else none)=_;rw[this];rfl
theorem Nk(k k':IntKind)(a b:Int)(h:0<=b):aP (.F true) [.C k a,.C k' b]=some (.C k (bF k (a*(2^(min b.toNat k.bits):Nat)))):=by obtain⟨n,rfl⟩:∃n:Nat,b=n:=⟨b.toNat,oM⟩;rfl
theorem CF(k k':IntKind)(a b:Int)(h:0<=b):aP (.F false) [.C k a,.C k' b]=some (.C k (a.fdiv (2^(min b.toNat k.bits):Nat))):=by obtain⟨n,rfl⟩:∃n:Nat,b=n:=⟨b.toNat,oM⟩;rfl
def pv:Option Nat->V
 |none=>.K
 |some b=>.u b 0
theorem j3:pv none=.K:=rfl
theorem aU(b:Nat):pv (some b)=.u b 0:=rfl
theorem fO(o:Option Nat):(pv o).O=true:=by cases o<;>rfl
theorem az{v:V}(h:v.O=true):v.s=[v]:=by cases v<;>first|rfl|(simp[V.O]at h)
theorem Aj(o:Option Nat):(pv o).s=[pv o]:=az (fO o)
theorem DN(ne:Bool)(o:Option Nat):aP (.l 0 ne) [pv o,.K]=some (.h (bif ne then o.isSome else o.isNone)):=by cases o<;>cases ne<;>rfl
theorem xM(b o:Nat)(ne:Bool):aP (.l 0 ne) [.u b o,.K]=some (.h ne):=by cases ne<;>rfl
theorem xN(ne:Bool):aP (.l 0 ne) [.K,.K]=some (.h (!ne)):=by cases ne<;>rfl
theorem xK(c:List V):dY c [] []=some c:=rfl
theorem Cy(c:List V)(Z size:Nat)(ps:List (Nat×Nat))(v:V)(vs:List V)(h:v.s.length=size)(h0:0<size):
 dY c ((Z,size)::ps) (v::vs)=(bq c Z v.s).bind fun c'=>dY c' ps vs:=by
 subst h;simp only[dY];have:Nat.blt 0 v.s.length=true:=by simpa[VE]using h0
 rw[this];simp;cases bq c Z v.s<;>rfl
theorem DJ(c:List V)(Z size:Nat)(ps:List (Nat×Nat))(v:V)(vs:List V):
 dY c ((Z,size)::ps) (v::vs)=if v.s.length=size then if 0<size then(bq c Z v.s).bind fun c'=>dY c' ps vs else none else none:=by
 by_cases h:v.s.length=size;rw[if_pos h];by_cases h0:0<size;rw[if_pos h0,Cy _ _ _ _ _ _ h h0];rw[if_neg h0];have:Nat.blt 0 size=false:=by cases hb:Nat.blt 0 size;rfl;rw[VE]at hb;exact absurd hb h0
 simp[dY,this];rw[if_neg h];have:Nat.beq v.s.length size=false:=by cases hb:Nat.beq v.s.length size;rfl;exact absurd (Vf hb) h
 simp[dY,this]
theorem xD(k:IntKind)(n:Int):(V.C k n).s=[.C k n]:=rfl
theorem u9(b:Bool):(V.h b).s=[.h b]:=rfl
theorem xA(b:List UInt8):(V.f b).s=[.f b]:=rfl
theorem xC(b o:Nat):(V.u b o).s=[.u b o]:=rfl
theorem uY:V.K.s=[.K]:=rfl
theorem uX:V.j.s=[.j]:=rfl
theorem r8(b o l c:Nat):(V.z b o l c).s=[.z b o l c]:=rfl
theorem qi(b o l c:Nat):(V.L b o l c).s=[.L b o l c]:=rfl
theorem u7(f:Fn)(a b:List V):(V.I f a b).s=[.I f a b]:=rfl
theorem uZ:V.R.s=[.R]:=rfl
theorem xE(l:List V):(V.B l).s=l:=rfl
theorem ah(n:Int)(K:-9223372036854775808<=n)(Z:n<=9223372036854775807):bF .i64 n=n:=by rw[dO];simp only[IntKind.wrap,IntKind.bits,IntKind.signed];simp;omega
theorem pT(n:Int)(K:0<=n)(Z:n<=255):bF .u8 n=n:=by rw[dO];simp only[IntKind.wrap,IntKind.bits,IntKind.signed];simp;omega
theorem bY(n:Int)(K:0<=n)(Z:n<=18446744073709551615):bF .u64 n=n:=by rw[dO];simp only[IntKind.wrap,IntKind.bits,IntKind.signed];simp;omega
def WF(h:b_):Prop:=∀p,h.i<=p->h.S.c_ p=none/\h.Q.c_ p=none
def f_(h:b_)(b:Nat)(c:List V):Prop:=∃f k,h.S.c_ b=some (.a c f k)/\((h.Q.c_ f=none/\f=b)\/∃e,h.Q.c_ f=some (b,e))
theorem f_.ae{h:b_}{b:Nat}{c c':List V}(a:f_ h b c)(K:f_ h b c'):c=c':=by let⟨f,k,e,_⟩:=a;let⟨f',k',Z,_⟩:=K;rw[e]at Z;cases Z;rfl
theorem f_.lt{h:b_}{b:Nat}{c:List V}(a:f_ h b c)(w:WF h):b<h.i:=by let⟨f,k,e,_⟩:=a;obtain x|x:=Wt b h.i;exact x;rw[(w b x).1]at e;cases e
theorem f_.P5{h:b_}{b:Nat}{c:List V}(a:f_ h b c):dW h b=some c:=by let⟨f,k,e,x⟩:=a;simp[dW,e,rd];obtain⟨x,rfl⟩|⟨Z,x⟩:=x;rw[x];rfl;rw[x];simp
theorem f_.o{h:b_}{b:Nat}{c:List V}(a:f_ h b c)(o:Nat):ag h b o=X0 c o:=by simp[ag,a.P5]
theorem f_.J{h:b_}{b:Nat}{c:List V}(a:f_ h b c)(o n:Nat):aq h b o n=dL n (gJ c o):=by simp[aq,a.P5]
theorem gu(h:b_)(n b o:Nat):jN h n false (.u b o)=ag h b o:=rfl
theorem pf(h:b_)(n b o:Nat):jN h n true (.u b o)=(aq h b o n).map .B:=rfl
theorem fY(l:List V):gJ l 0=l:=by rw[bR];rfl
theorem uQ(v:V)(l:List V)(n:Nat):gJ (v::l) (n+1)=gJ l n:=rfl
def Pl(h:b_)(b:Nat)(c:List V):Prop:=(∃k,h.S.c_ b=some (.a c b k))/\h.Q.c_ b=none
theorem Pl.a{h:b_}{b:Nat}{c:List V}(a:Pl h b c):f_ h b c:=by let⟨⟨k,e⟩,f⟩:=a;exact⟨b,k,e,.inl ⟨f,rfl⟩⟩
def Kh:Y8->Bool
 |.b _ _ _ _ _ _=>true
 |.f _ _=>true
 |_=>false
def Rs(h:b_)(b:Nat)(c:List V):Prop:=∃f k ow,h.S.c_ b=some (.a c f k)/\h.Q.c_ f=some (ow,k)/\h.S.c_ ow=none/\ow<h.i
theorem Rs.B_{h:b_}{b:Nat}{c:List V}(r:Rs h b c){Z:Nat}{c0 c1:List V}{K k0 k1:Nat}(e:h.S.c_ Z=some (.a c0 K k0))(x:(h.Q.c_ K=none)\/∃e',h.Q.c_ K=some (Z,e'))(F':T (Nat×Nat))(hF:F'=h.Q\/∃y,F'=h.Q.B_ K y)(n':Nat)(hn:h.i<=n'):
 Rs ⟨h.S.B_ Z (.a c1 K k1),n',F'⟩ b c:=by
 let⟨f,k,ow,e1,e2,e3,e4⟩:=r;have ab:f≠K:=by grind
 have hb:b≠Z:=by grind
 have ho:ow≠Z:=by grind
 refine⟨f,k,ow,?_,?_,?_,by show ow<n';omega⟩;show(h.S.B_ Z _).c_ b=_;rw[Vi _ _ hb];exact e1;show F'.c_ f=_;obtain rfl|⟨y,rfl⟩:=hF;exact e2;rw[Vi _ _ ab];exact e2;show(h.S.B_ Z _).c_ ow=_;rw[Vi _ _ ho];exact e3
theorem Rs.bB{h:b_}{b:Nat}{c:List V}(r:Rs h b c)(w:WF h)(k:Y8):Rs ⟨h.S.B_ h.i k,h.i+1,h.Q⟩ b c:=by
 let⟨f,k',ow,Z,e2,e3,e4⟩:=r;have K:b≠h.i:=by rintro rfl;rw[(w _ (Ve _)).1]at Z;cases Z
 refine⟨f,k',ow,?_,e2,?_,by show ow<h.i+1;omega⟩;show(h.S.B_ _ _).c_ b=_;rw[Vi _ _ K];exact Z;show(h.S.B_ _ _).c_ ow=_;rw[Vi _ _ oM];exact e3
structure Fr(S:List Nat)(h h':b_):Prop where
 i:h.i<=h'.i
 r:WF h'
 D:∀b c,b∉S->f_ h b c->f_ h' b c
 pl:∀b c,b∉S->Pl h b c->Pl h' b c
 lp:∀b x,Kh x=true->h.S.c_ b=some x->h'.S.c_ b=some x
 ro:∀b c,Rs h b c->Rs h' b c
theorem Fr.bG{S:List Nat}{h:b_}(w:WF h):Fr S h h:=⟨Ve _,w,fun _ _ _ x=>x,fun _ _ _ x=>x,fun _ _ _ x=>x,fun _ _ x=>x⟩
theorem Fr.P{S S' T:List Nat}{h h1 h2:b_}(a:Fr S h h1)(b:Fr S' h1 h2)(w:WF h)(hs:∀x,x∈S→x∈T∨h.i≤x)(hs':∀x,x∈S'→x∈T∨h.i≤x):Fr T h h2 where
 i:=Nat.le_trans a.i b.i
 r:=b.r
 lp:=fun x k hk o=>b.lp x k hk (a.lp x k hk o)
 ro:=fun x c r=>b.ro x c (a.ro x c r)
 D:=fun x c hx o=>by have:=o.lt w;refine b.D x c (fun m=>?_) (a.D x c (fun m=>?_) o);grind;grind
 pl:=fun x c hx o=>by have:=o.a.lt w;refine b.pl x c (fun m=>?_) (a.pl x c (fun m=>?_) o);grind;grind
theorem Fr.c{h h1 h2:b_}(a:Fr [] h h1)(b:Fr [] h1 h2):Fr [] h h2 where
 i:=Nat.le_trans a.i b.i
 r:=b.r
 lp:=fun x k hk o=>b.lp x k hk (a.lp x k hk o)
 ro:=fun x c r=>b.ro x c (a.ro x c r)
 D:=fun x c _ o=>b.D x c iS (a.D x c iS o)
 pl:=fun x c _ o=>b.pl x c iS (a.pl x c iS o)
theorem Fr.c_{h h':b_}(a:Fr [] h h'){b:Nat}{c:List V}(o:f_ h b c):f_ h' b c:=a.D b c iS o
theorem WF.a{h:b_}(w:WF h)(c:List V):WF (k_ h c):=by intro p Z;have K:h.i+1<=p:=Z;have:=w p oM;exact⟨by show(h.S.B_ _ _).c_ p=none;rw[Vi _ _ oM];exact this.1,this.2⟩
theorem f_.bB{h:b_}(w:WF h)(c:List V):f_ (k_ h c) h.i c:=
 ⟨h.i,0,VS _ _ _,.inl ⟨(w h.i (Ve _)).2,rfl⟩⟩
theorem f_.aQ{h:b_}{b:Nat}{c:List V}(o:f_ h b c)(w:WF h)(d:List V):f_ (k_ h d) b c:=by have:=o.lt w;let⟨f,k,e,x⟩:=o;exact⟨f,k,by show(h.S.B_ _ _).c_ b=_;rw[Vi _ _ oM];exact e,x⟩
theorem Fr.aQ{h:b_}(w:WF h)(c:List V):Fr [] h (k_ h c):=⟨YJ _,w.a c,fun _ _ _ o=>o.aQ w c,fun b d _ o=>by
 have:=o.a.lt w;let⟨⟨k,e⟩,f⟩:=o;exact⟨⟨k,by show(h.S.B_ _ _).c_ b=_;rw[Vi _ _ oM];exact e⟩,f⟩,fun b x _ e=>by
 have:b≠h.i:=by rintro rfl;rw[(w _ (Ve _)).1]at e;cases e
 show(h.S.B_ _ _).c_ b=_;rw[Vi _ _ this];exact e,fun b x r=>r.bB w _⟩
theorem lG(h:b_)(c:List V):(Ev.k_ h c).i=h.i+1:=rfl
theorem au{h:b_}(w:WF h)(c:List V):∃h1,h1=Ev.k_ h c/\Fr [] h h1/\f_ h1 h.i c:=⟨_,rfl,Fr.aQ w c,f_.bB w c⟩
theorem s_{h Z:b_}{c:List V}(e:Z=Ev.k_ h c):Z.i=h.i+1:=by rw[e];rfl
attribute [simp] WB
theorem ig{h:b_}{b o:Nat}{c c' vs:List V}(w:WF h)(a:f_ h b c)(h1:aw vs=true)(hu:bq c o vs=some c'):
 ∃h',dD h b o vs=some h'/\f_ h' b c'/\Fr [b] h h'/\h'.i=h.i:=by
 have hb:=a.lt w;let⟨f,k,e,x⟩:=a;simp[dD,e,h1,hu];obtain⟨x,rfl⟩|⟨e',x⟩:=x;rw[x];refine⟨_,rfl,⟨f,k,VS _ _ _,.inl ⟨x,rfl⟩⟩,⟨Ve _,?_,?_,?_,fun q y hy ey=>by
  have:q≠f:=by intro eq;rw[eq,e]at ey;cases ey;cases hy
  show(h.S.B_ _ _).c_ q=_;rw[Vi _ _ this];exact ey,fun q y r=>r.B_ e (.inl x) _ (.inl rfl) _ (Ve _)⟩,rfl⟩
 intro p hp;have ab:h.i<=p:=hp;have:=w p ab;exact⟨by show(h.S.B_ _ _).c_ p=none;rw[Vi _ _ oM];exact this.1,this.2⟩;rintro q d Z ⟨f1,k1,K,x1⟩;simp at Z;exact⟨f1,k1,by show(h.S.B_ _ _).c_ q=_;rw[Vi _ _ Z];exact K,x1⟩;rintro q d Z ⟨⟨k1,K⟩,x1⟩;simp at Z;exact⟨⟨k1,by show(h.S.B_ _ _).c_ q=_;rw[Vi _ _ Z];exact K⟩,x1⟩;rw[x];simp only[WO,cond_true];refine⟨_,rfl,⟨f,k,VS _ _ _,.inr ⟨e'+1,VS _ _ _⟩⟩,⟨Ve _,?_,?_,?_,fun q y hy ey=>by
  have:q≠b:=by intro eq;rw[eq,e]at ey;cases ey;cases hy
  show(h.S.B_ _ _).c_ q=_;rw[Vi _ _ this];exact ey,fun q y r=>r.B_ e (.inr ⟨_,x⟩) _ (.inr ⟨_,rfl⟩) _ (Ve _)⟩,rfl⟩
 intro p hp;have ab:h.i<=p:=hp;have:=w p ab;refine⟨by show(h.S.B_ _ _).c_ p=none;rw[Vi _ _ oM];exact this.1,?_⟩;show(h.Q.B_ _ _).c_ p=none;by_cases ac:p=f;grind;rw[Vi _ _ ac];exact this.2;rintro q d Z ⟨f1,k1,K,x1⟩;simp at Z;refine⟨f1,k1,by show(h.S.B_ _ _).c_ q=_;rw[Vi _ _ Z];exact K,?_⟩;have hf:f1≠f:=by grind
 show((h.Q.B_ f (b,e'+1)).c_ f1=none/\_)\/∃e,(h.Q.B_ f (b,e'+1)).c_ f1=some (q,e);rw[Vi _ _ hf];exact x1;rintro q d Z ⟨⟨k1,K⟩,x1⟩;simp at Z;refine⟨⟨k1,by show(h.S.B_ _ _).c_ q=_;rw[Vi _ _ Z];exact K⟩,?_⟩;show(h.Q.B_ f (b,e'+1)).c_ q=none;rw[Vi _ _ (by rintro rfl;rw[x]at x1;cases x1)];exact x1
theorem Cu{h:b_}{n b o:Nat}{v:V}(e:v.s.length=n):gT h n (.u b o) v=dD h b o v.s:=by subst e;simp[gT]
theorem ao{h:b_}{n b o:Nat}{v:V}{c c':List V}{K:V->b_->Prop}(w:WF h)(a:f_ h b c)(e:v.s.length=n)(h1:aw v.s=true)(Z:bq c o v.s=some c')
 (k:∀h',f_ h' b c'->Fr [b] h h'->h'.i=h.i->K (.G []) h'):HQ (gT h n (.u b o) v) K:=by
 let⟨h',e1,o1,f1,n1⟩:=ig w a h1 Z;exact⟨h',by rw[Cu e];exact e1,k h' o1 f1 n1⟩
theorem sts{h:b_}{n b o:Nat}{v:V}{c c':List V}{K:V->b_->Prop}(w:WF h)(a:f_ h b c)
 (k:∀h',f_ h' b c'->Fr [b] h h'->h'.i=h.i->K (.G []) h') (e:v.s.length=n:=by exact rfl) (h1:aw v.s=true:=by first|exact rfl|simp[aw,V.s,fO, *]) (hu:bq c o v.s=some c':=by exact rfl):HQ (gT h n (.u b o) v) K:=ao w a e h1 hu k
theorem bN:∀(c:List V)(o:Nat)(vs:List V),o+vs.length≤c.length→bq c o vs=some (c.take o++vs++c.drop (o+vs.length))
 |[],o,vs,h=>by
  have:vs=[]:=by cases vs<;>simp at h⊢
  subst this;cases o<;>simp[jB]
 |x::l,0,[],h=>by simp[dQ]
 |x::l,0,v::vs,h=>by rw[aY,bN l 0 vs (by simp at h⊢;omega)];simp[Nat.add_comm]
 |x::l,o+1,vs,h=>by rw[bM,bN l o vs (by simp at h⊢;omega)];simp[Nat.succ_add]
theorem mj(c:List V)(o:Nat)(v:V)(h:o<c.length):bq c o [v]=some (c.set o v):=by rw[bN c o [v] oO];congr 1;rw[WK,if_pos h];simp
theorem aD:aw []=true:=rfl
theorem aA(v:V)(l:List V):aw (v::l)=(v.O&&aw l):=rfl
theorem bO(c:List V)(n:Nat)(h:n≤c.length):dL n c=some (c.take n):=by
 induction n generalizing c with
 |zero=>simp[nW]
 |succ n ih=>cases c with
  |nil=>simp at h
  |cons x l=>rw[fT,ih l (eV h)];simp
def Sl(h:b_)(esz:Nat)(v:V)(n:Nat)(cs:List V):Prop:=
 cs.length=n*esz/\match v with
 |.j=>n=0
 |.F=>n=0
 |.z b o len cap=>len=n/\n<=cap/\∃c,f_ h b c/\o+n*esz<=c.length/\cs=(c.drop o).take (n*esz)
 |.L b o len e=>len=n/\e=esz/\∃c,f_ h b c/\o+n*esz<=c.length/\cs=(c.drop o).take (n*esz)
 |_=>False
theorem Sl.fr{h Z:b_}{esz:Nat}{v:V}{n:Nat}{cs:List V}(a:Sl h esz v n cs)(f:Fr [] h Z):Sl Z esz v n cs:=by
 let⟨hl,a⟩:=a;refine⟨hl,?_⟩;cases v with
 |z b o l k=>let⟨K,h2,c,o,x⟩:=a;exact⟨K,h2,c,f.c_ o,x⟩
 |L b o l k=>let⟨K,h2,c,o,x⟩:=a;exact⟨K,h2,c,f.c_ o,x⟩
 |_=>exact a
theorem Sl.A_{h:b_}{esz:Nat}{v:V}{n:Nat}{cs:List V}(a:Sl h esz v n cs):aP .d [v]=some (.C .i64 n):=by
 let⟨Z,a⟩:=a;cases v with
 |z b o l k=>obtain⟨rfl,_⟩:=a;rfl
 |L b o l k=>obtain⟨rfl,_⟩:=a;rfl
 |j=>have a:n=0:=a;subst a;rfl
 |F=>have a:n=0:=a;subst a;rfl
 |_=>exact a.elim
theorem Sl.O{h:b_}{esz:Nat}{v:V}{n:Nat}{cs:List V}(a:Sl h esz v n cs):v.O=true:=by
 let⟨Z,a⟩:=a;cases v with
 |z b o l k=>rfl
 |L b o l k=>rfl
 |j=>rfl
 |F=>rfl
 |_=>exact a.elim
theorem Sl.ix{h:b_}{esz:Nat}{v:V}{n:Nat}{cs:List V}(a:Sl h esz v n cs)(k:IntKind)(i:Int)(h0:0<=i)(h1:i<n):
 ∃b o,aP (.c esz) [v,.C k i]=some (.u b o)/\(∀j,j<esz->ag h b (o+j)=cs[i.toNat*esz+j]?)/\aq h b o esz=some ((cs.drop (i.toNat*esz)).take esz):=by
 let⟨hl,a⟩:=a;obtain⟨m,rfl⟩:∃m:Nat,i=m:=⟨i.toNat,oM⟩;have hm:m<n:=oM;have ab:m*esz+esz<=n*esz:=by rw[<-Xy];exact Wb _ hm
 have K:∀(b o:Nat)(c:List V),f_ h b c->o+n*esz<=c.length->cs=(c.drop o).take (n*esz)->
  (∀j,j<esz->ag h b (o+m*esz+j)=cs[m*esz+j]?)/\aq h b (o+m*esz) esz=some ((cs.drop (m*esz)).take esz):=by
  intro b o c hc Z e;subst e;constructor;intro j hj;rw[hc.o,gN,Xd,if_pos oM,Wh];congr 1;omega;rw[hc.J,bR,bO _ _ oO,Yd,Wd,WL];congr 2;omega
 cases v with
 |z b o l q=>obtain⟨rfl,_,c,hc,Z,e⟩:=a;exact⟨b,o+m*esz,eM _ _ _ _ _ _ _ h0 h1,K b o c hc Z e⟩
 |L b o l q=>obtain⟨rfl,rfl,c,hc,Z,e⟩:=a;exact⟨b,o+m*q,lZ _ _ _ _ _ _ _ h0 h1,K b o c hc Z e⟩
 |j=>have a:n=0:=a;omega
 |F=>have a:n=0:=a;omega
 |_=>exact a.elim
section
variable {call : aL} {env : T V} {h : b_} {loc : List V}
def EQ(o:Option (T V))(K:T V->Prop):Prop:=∃en,o=some en/\K en
theorem Eg(en:T V)(K:T V->Prop):EQ (some en) K↔K en:=⟨fun⟨_,x,k⟩=>by cases x;exact k,fun k=>⟨en,rfl,k⟩⟩
def HdQ(hs:List b_)(K:b_->Prop):Prop:=match hs with
 |[]=>False
 |h::_=>K h
theorem BD(hs:List b_)(K:b_->Prop):HdQ (h::hs) K↔K h:=Xf
theorem NE(l:List n_)(Z:List (Nat×Nat×Nat))(K:List (Nat×Nat))(Q:T V->b_->Prop)(hs:List b_):DE call l Z K env Q loc hs↔
 Z.all (oG call env l loc hs)=true/\EQ (i9 l.length loc K env) fun env'=>HdQ hs fun h'=>Q env' h':=by
 simp only[DE,EQ];constructor;rintro⟨a,env',h',ab,e,rfl,q⟩;exact⟨a,env',e,q⟩;rintro⟨a,env',e,q⟩;cases hs with
 |nil=>exact q.elim
 |cons h' ab=>exact⟨a,env',h',ab,e,rfl,q⟩
def GR(o:Option V)(want:Bool)(A:Prop):Prop:=match o with
 |some (.h b)=>if b=want then A else True
 |_=>True
theorem Jq(t:List V)(want:Bool)(A:Prop):GR (some (.G t)) want A↔True:=Xf
theorem Ea(b want:Bool)(A:Prop):GR (some (.h b)) want A↔if b=want then A else True:=Xf
def RD(call:aL)(env:T V)(s:Option n_)(loc:List V)(hs:List b_):Prop:=match s,loc with
 |some t,v::l=>(match t.c with
  |none=>gU call l env t.a v hs=true
  |some (x,want)=>GR (E_ l env x) want (gU call l env t.a v hs=true))
 |_,_=>False
theorem OB(o:Q_)(d:Option Nat)(v:V)(l:List V)(hs:List b_):RD call env (some ⟨none,o,d⟩) (v::l) hs↔gU call l env o v hs=true:=Xf
theorem OC(x:G_)(want:Bool)(o:Q_)(d:Option Nat)(v:V)(l:List V)(hs:List b_):RD call env (some ⟨some (x,want),o,d⟩) (v::l) hs↔GR (E_ l env x) want (gU call l env o v hs=true):=Xf
theorem Mp(l:List n_)(hs:List b_)(i lo K:Nat):oG call env l loc hs (i,lo,K)=true↔RD call env l[i]? (loc.drop (l.length-i-1)) ((hs.reverse.drop lo).take (K+1-lo)):=by
 simp[oG];cases l[i]? with
 |none=>simp[RD]
 |some t=>cases loc.drop (l.length-i-1)with
  |nil=>simp[RD]
  |cons v l'=>
   let⟨gd,o,d⟩:=t;cases gd with
   |none=>simp[RD,V3]
   |some g=>
    let⟨x,Z⟩:=g;simp only[RD,V3,GR];cases E_ l' env x with
    |none=>simp
    |some b=>
     cases b with
     |h b=>cases b<;>cases Z<;>simp
     |_=>simp
def CK(call:aL)(env:T V)(l:List n_)(loc:List V)(hs:List b_):List (Nat×Nat×Nat)->Prop
 |[]=>True
 |(i,lo,hi)::rs=>RD call env l[i]? (loc.drop (l.length-i-1)) ((hs.reverse.drop lo).take (hi+1-lo))/\CK call env l loc hs rs
theorem BA(l:List n_)(hs:List b_):CK call env l loc hs []↔True:=Xf
theorem rG(l:List n_)(hs:List b_)(i lo hi:Nat)(rs:List (Nat×Nat×Nat)):CK call env l loc hs ((i,lo,hi)::rs)↔
 RD call env l[i]? (loc.drop (l.length-i-1)) ((hs.reverse.drop lo).take (hi+1-lo))/\CK call env l loc hs rs:=Xf
theorem vv{l:List n_}{hs:List b_}:∀{rs:List (Nat×Nat×Nat)},rs.all (oG call env l loc hs)=true↔CK call env l loc hs rs
 |[]=>by simp[CK]
 |(i,lo,hi)::rs=>by simp[Mp,rG,vv (rs:=rs)]
def DF(call:aL)(l:List n_)(reads:List (Nat×Nat×Nat))(sets:List (Nat×Nat))(env:T V)(Q:T V->b_->Prop)(loc:List V)(hs:List b_):Prop:=
 CK call env l loc hs reads/\EQ (i9 l.length loc sets env) fun env'=>HdQ hs fun h'=>Q env' h'
theorem WD.a{l:List DS}{hs:List b_}{K Z:List V->List b_->Prop}(a:WD call env l loc hs h K)(b:∀x y,K x y->Z x y):WD call env l loc hs h Z:=by let⟨x,y,e,k⟩:=a;exact⟨x,y,e,b _ _ k⟩
def NB(o:Option (List DS×b_))(K:List DS->b_->Prop):Prop:=∃l h,o=some (l,h)/\K l h
theorem jQ(l:List DS)(h:b_)(K:List DS->b_->Prop):NB (some (l,h)) K↔K l h:=
 ⟨fun⟨_,_,e,k⟩=>by cases e;exact k,fun k=>⟨_,_,rfl,k⟩⟩
theorem FM(l:List n_)(ab R:List Nat)(Z:List (Nat×Nat×Nat))(K:List (Nat×Nat))(Q:Ex->T V->b_->Prop):
 W call (.h l ab R Z K) env h Q↔NB (Q8 call env ab l 0 [] h) fun dl h1=>WD call env dl [] [h1] h1 (DF call l Z K env (Q .a)):=by
 constructor;rintro⟨e,ae,h',x,q⟩;have x:j? call l ab Z K env h=.b e ae h':=x;unfold j? at x;split at x;cases x;rename_i dl h1 hl;refine⟨dl,h1,hl,?_⟩;split at x;rename_i ac hs hd;refine⟨ac,hs,hd,?_⟩;cases ha:Z.all (oG call env l ac hs);grind;rw[ha]at x;simp at x;split at x;rename_i aj h2 ak af;cases x;exact⟨vv.1 ha,_,af,q⟩;cases x;cases x;rintro⟨dl,h1,hl,x⟩;refine K9 _ _ _ _ _ _ hl (x.a ?_);rintro ac hs ⟨a,b⟩;exact(NE _ _ _ _ _).2 ⟨vv.2 a,b⟩
theorem W_d(l:List n_)(R:List Nat)(Z:List (Nat×Nat×Nat))(K:List (Nat×Nat))(Q:Ex->T V->b_->Prop):
 W call (.h l [] R Z K) env h Q↔WD call env (l.map fun s=>(s,none)) [] [h] h (DF call l Z K env (Q .a)):=by
 rw[FM,J5,jQ]
def SEv(o:Option V)(K:V->Option (T V)):Option (T V):=match o with
 |some v=>K v
 |none=>none
theorem Bz(v:V)(K:V->Option (T V)):SEv (some v) K=K v:=rfl
theorem CX(n s i:Nat)(r:List (Nat×Nat)):i9 n loc ((s,i)::r) env=SEv (X0 loc (n-i-1)) fun v=>i9 n loc r (env.B_ s v):=by rw[BK];unfold SEv;cases X0 loc (n-i-1)<;>rfl
end
theorem bZ(k:IntKind)(i:Int)(y:Nat)(h0:0<=i)(Z:i<=y):cY (.C k i) y=some i.toNat:=by obtain⟨n,rfl⟩:∃n:Nat,i=n:=⟨i.toNat,oM⟩;have:Nat.ble n y=true:=(Xu ..).mpr oM;show(bif Nat.ble n y then some n else none)=_;rw[this];rfl
theorem fD{a b:Nat}(h:a≠b):Nat.beq a b=false:=by cases Z:Nat.beq a b;rfl;exact absurd (Vf Z) h
theorem lV{a b:Nat}(h:a=b):Nat.beq a b=true:=by subst h;simp
theorem Is{a b:Nat}(h:¬a<b):Nat.blt a b=false:=by cases Z:Nat.blt a b;rfl;exact absurd ((VE ..).mp Z) h
theorem Cr{a b:Nat}(h:¬a<=b):Nat.ble a b=false:=by cases Z:Nat.ble a b;rfl;exact absurd ((Xu ..).mp Z) h
theorem Sl.as{h:b_}{esz:Nat}{v:V}{n:Nat}{cs:List V}(a:Sl h esz v n cs)(he:0<esz)(hv:v≠.F)(lo hi:Bool)(bs:List V)(l u:Nat)(hu:u<=n)(hl:l<=u)
 (hb:∀y,n<=y->aZ n y lo hi false bs=some (l,u,none)):
 ∃v',aP (.s none esz lo hi false) (v::bs)=some v'/\Sl h esz v' (u-l) ((cs.drop (l*esz)).take ((u-l) *esz)):=by
 let⟨ae,a⟩:=a;have hm:l*esz+(u-l) *esz<=n*esz:=by rw[<-Xs];exact Wb _ oM
 have Z:((cs.drop (l*esz)).take ((u-l) *esz)).length=(u-l) *esz:=by simp;omega
 have ab:∀(b o:Nat)(c:List V),f_ h b c->o+n*esz<=c.length->cs=(c.drop o).take (n*esz)->
  (cs.drop (l*esz)).take ((u-l) *esz)=(c.drop (o+l*esz)).take ((u-l) *esz):=by
  intro b o c _ ae e;subst e;rw[Yd,Wd,WL];congr 1;omega
 cases v with
 |z b o len cap=>obtain⟨rfl,ac,c,hc,K,e⟩:=a;refine⟨.z b (bif Nat.beq cap l then o else o+l*esz) (u-l) (cap-l),by simp[aP,eJ,hb cap ac],Z,rfl,oM,c,hc,?_⟩;by_cases aj:cap=l;grind;rw[fD aj];exact⟨by simp;omega,ab b o c hc K e⟩
 |L b o len q=>
  obtain⟨rfl,rfl,c,hc,K,e⟩:=a;have hq:(Nat.beq q q&&Nat.blt 0 q)=true:=by simp[he]
  by_cases h1:l<len;refine⟨.L b (o+l*q) (u-l) q,?_,Z,rfl,rfl,c,hc,oM,ab b o c hc K e⟩;simp only[aP,eJ,hq,cond_true,hb len (Ve _),VX,(VE ..).mpr h1];have af:u-l=0:=oM;by_cases h2:l=0;subst h2;refine⟨.L b o (u-0) q,?_,Z,rfl,rfl,c,hc,oM,by simpa using ab b o c hc K e⟩;simp only[aP,eJ,hq,cond_true,hb len (Ve _),VX,Is h1,cond_false,(iR:Nat.beq 0 0=true)];refine⟨.F,?_,Z,af⟩;simp only[aP,eJ,hq,cond_true,hb len (Ve _),VX,Is h1,cond_false,fD h2]
 |j=>have a:n=0:=a;subst a;refine⟨.j,?_,Z,oM⟩;simp[aP,eJ,hb 0 (Ve _)]
 |F=>exact absurd rfl hv
 |_=>exact a.elim
theorem Sl.ne{h:b_}{esz:Nat}{v:V}{n:Nat}{cs:List V}(a:Sl h esz v n cs)(Z:0<n):v≠.F:=by rintro rfl;have:n=0:=a.2;omega
theorem Sl.aO{h:b_}{esz:Nat}{v:V}{n:Nat}{cs:List V}(a:Sl h esz v n cs)(Z:0<esz)(hv:v≠.F)(k:IntKind)(i:Int)(h0:0<=i)(K:i<=n):
 ∃v',aP (.s none esz true false false) [v,.C k i]=some v'/\Sl h esz v' (n-i.toNat) (cs.drop (i.toNat*esz)):=by
 let⟨v',e,s⟩:=a.as Z hv true false [.C k i] i.toNat n (Ve _) oM (fun y _=>by simp[aZ,bZ k i n h0 K]);refine⟨v',e,?_⟩;have hm:i.toNat*esz+(n-i.toNat) *esz=n*esz:=by rw[<-Xs];congr 1;omega
 rwa[Vm (by simp[a.1];omega)]at s
theorem Sl.ba{h:b_}{esz:Nat}{v:V}{n:Nat}{cs:List V}(a:Sl h esz v n cs)(Z:0<esz)(hv:v≠.F)(k:IntKind)(i:Int)(h0:0<=i)(h1:i<=n):
 ∃v',aP (.s none esz false true false) [v,.C k i]=some v'/\Sl h esz v' i.toNat (cs.take (i.toNat*esz)):=by
 let⟨v',e,s⟩:=a.as Z hv false true [.C k i] 0 i.toNat oM oM (fun y K=>by simp[aZ,bZ k i y h0 oM]);exact⟨v',e,by simpa using s⟩
theorem Sl.aN{h:b_}{esz:Nat}{v:V}{n:Nat}{cs:List V}(a:Sl h esz v n cs)(Z:0<esz)(hv:v≠.F)(k k':IntKind)(i j:Int)(h0:0<=i)(h1:i<=j)(K:j<=n):
 ∃v',aP (.s none esz true true false) [v,.C k i,.C k' j]=some v'/\Sl h esz v' (j.toNat-i.toNat) ((cs.drop (i.toNat*esz)).take ((j.toNat-i.toNat) *esz)):=by
 let⟨v',e,s⟩:=a.as Z hv true true [.C k i,.C k' j] i.toNat j.toNat oM oM (fun y hy=>by
  simp[aZ,bZ k' j y oM oM,bZ k i j.toNat h0 oM])
 exact⟨v',e,s⟩
def Gs(h:b_)(B:Nat)(esz:Nat)(v:V)(cs:List V):Prop:=(v=.j/\cs=[])\/∃b n,v=.L b 0 n esz/\cs.length=n*esz/\0<n/\B<=b/\f_ h b cs
theorem Gs.sl{h:b_}{B esz:Nat}{v:V}{cs:List V}{n:Nat}(a:Gs h B esz v cs)(Z:cs.length=n*esz)(K:0<esz):Sl h esz v n cs:=by obtain⟨rfl,rfl⟩|⟨b,m,rfl,hm,_,_,o⟩:=a;refine⟨Z,?_⟩;have:0=n*esz:=Z;obtain h|h:=Nat.eq_zero_or_pos n;exact h;have:=YX h K;omega;have:m=n:=Nat.eq_of_mul_eq_mul_right K oM;subst this;exact⟨Z,rfl,rfl,cs,o,oM,by simp[<-Z]⟩
theorem Gs.O{h:b_}{B esz:Nat}{v:V}{cs:List V}(a:Gs h B esz v cs):v.O=true:=by obtain⟨rfl,rfl⟩|⟨b,m,rfl,_⟩:=a<;>rfl
theorem Gs.fr{h Z:b_}{B esz:Nat}{v:V}{cs:List V}(a:Gs h B esz v cs)(f:Fr [] h Z):Gs Z B esz v cs:=by obtain⟨rfl,rfl⟩|⟨b,m,rfl,h1,h2,K,o⟩:=a;exact .inl ⟨rfl,rfl⟩;exact .inr ⟨b,m,rfl,h1,h2,K,f.c_ o⟩
structure Up(B:Nat)(h h':b_):Prop where
 a:h.i<=h'.i
 j:WF h'
 d:∀b c,b<B->f_ h b c->f_ h' b c
 g:∀b c,b<B->Pl h b c->Pl h' b c
 e:∀b x,Kh x=true->h.S.c_ b=some x->h'.S.c_ b=some x
 i:∀b c,Rs h b c->Rs h' b c
theorem Fr.up{S:List Nat}{h h':b_}{B:Nat}(f:Fr S h h')(hs:∀x∈S,B<=x):Up B h h':=
 ⟨f.i,f.r,fun b c hb o=>f.D b c (fun m=>by have:=hs b m;omega) o,fun b c hb o=>f.pl b c (fun m=>by have:=hs b m;omega) o,f.lp,f.ro⟩
theorem Fr.br{h0 h h':b_}(f:Fr [] h0 h)(w:WF h0)(u:Up h0.i h h'):Fr [] h0 h':=
 ⟨VC f.i u.a,u.j,fun b c _ o=>u.d b c (o.lt w) (f.c_ o),fun b c _ o=>u.g b c (o.a.lt w) (f.pl b c iS o),fun b x hx o=>u.e b x hx (f.lp b x hx o),fun b c r=>u.i b c (f.ro b c r)⟩
theorem Up.c{B:Nat}{h:b_}(w:WF h):Up B h h:=⟨Ve _,w,fun _ _ _ o=>o,fun _ _ _ o=>o,fun _ _ _ o=>o,fun _ _ o=>o⟩
theorem Up.b{B:Nat}{h h1 h2:b_}(a:Up B h h1)(b:Up B h1 h2):Up B h h2:=
 ⟨VC a.a b.a,b.j,fun x c hx o=>b.d x c hx (a.d x c hx o),fun x c hx o=>b.g x c hx (a.g x c hx o),fun x k hk o=>b.e x k hk (a.e x k hk o),fun x c r=>b.i x c (a.i x c r)⟩
theorem Fr.y{h h1 h2:b_}{b:Nat}(a:Fr [] h h1)(c:Fr [b] h1 h2)(w:WF h)(hb:h.i<=b):Fr [] h h2:=
 a.P c w iS (by simp;exact hb)
theorem wH{h:b_}{b pos:Nat}{c c':List V}(w:WF h)(a:f_ h b c):∃h',oW h b pos c'=some h'/\f_ h' h.i c'/\Fr [b] h h':=by
 have hb:=a.lt w;let⟨f,k,e,x⟩:=a;have hf:f<h.i:=by obtain⟨_,rfl⟩|⟨e',x⟩:=x;exact hb;obtain y|y:=Wt f h.i;exact y;rw[(w f y).2]at x;cases x
 have go:∀(e0 e1:Nat),(h.Q.c_ f=none/\f=b\/∃e,h.Q.c_ f=some (b,e))->
  f_ ⟨(h.S.B_ b (.a c f e0)).B_ h.i (.a c' f 0),h.i+1,h.Q.B_ f (h.i,e1)⟩ h.i c'/\
  Fr [b] h ⟨(h.S.B_ b (.a c f e0)).B_ h.i (.a c' f 0),h.i+1,h.Q.B_ f (h.i,e1)⟩:=by
  intro e0 e1 x;refine⟨⟨f,0,VS _ _ _,.inr ⟨e1,VS _ _ _⟩⟩,⟨YJ _,?_,?_,?_,fun q y hy ey=>by
   have h1:q≠b:=by intro eq;rw[eq,e]at ey;cases ey;cases hy
   have h2:q≠h.i:=by rintro rfl;rw[(w _ (Ve _)).1]at ey;cases ey
   show((h.S.B_ b _).B_ h.i _).c_ q=_;rw[Vi _ _ h2,Vi _ _ h1];exact ey,fun q y r=>by
   have r1:Rs ⟨h.S.B_ b (.a c f e0),h.i,h.Q.B_ f (h.i,e1)⟩ q y:=r.B_ e (by obtain⟨x,_⟩|x:=x;exact .inl x;exact .inr x) _ (.inr ⟨_,rfl⟩) _ (Ve _)
   let⟨f',k',ow,p1,p2,p3,p4⟩:=r1;have ab:(h.S.B_ b (.a c f e0)).c_ q=some (.a y f' k'):=p1;have aj:ow<h.i:=p4;have Z:q≠h.i:=by rintro rfl;rw[Vi _ _ oM,(w _ (Ve _)).1]at ab;cases ab
   refine⟨f',k',ow,?_,p2,?_,by show ow<h.i+1;omega⟩;show((h.S.B_ b _).B_ h.i _).c_ q=_;rw[Vi _ _ Z];exact p1;show((h.S.B_ b _).B_ h.i _).c_ ow=_;rw[Vi _ _ oM];exact p3⟩⟩
  intro p hp;have af:h.i+1<=p:=hp;have:=w p oM;refine⟨?_,?_⟩;show((h.S.B_ b _).B_ h.i _).c_ p=none;rw[Vi _ _ oM,Vi _ _ oM];exact this.1;show(h.Q.B_ f _).c_ p=none;rw[Vi _ _ oM];exact this.2;rintro q d Z o;have ac:=o.lt w;let⟨f1,k1,e2,x1⟩:=o;simp at Z;refine⟨f1,k1,?_,?_⟩;show((h.S.B_ b _).B_ h.i _).c_ q=_;rw[Vi _ _ oM,Vi _ _ Z];exact e2;have ae:f1≠f:=by rintro rfl;obtain⟨K,xb⟩|⟨e',K⟩:=x;obtain⟨_,y⟩|⟨e3,y⟩:=x1;exact Z (y.symm.trans xb);rw[K]at y;cases y;obtain⟨y,_⟩|⟨e3,y⟩:=x1;rw[K]at y;cases y;rw[K]at y;cases y;exact Z rfl
  show((h.Q.B_ f _).c_ f1=none/\_)\/∃e,(h.Q.B_ f _).c_ f1=some (q,e);rw[Vi _ _ ae];exact x1;rintro q d Z o;have ac:=o.a.lt w;let⟨⟨k1,e2⟩,x1⟩:=o;simp at Z;refine⟨⟨k1,?_⟩,?_⟩;show((h.S.B_ b _).B_ h.i _).c_ q=_;rw[Vi _ _ oM,Vi _ _ Z];exact e2;show(h.Q.B_ f _).c_ q=none;rw[Vi _ _ ?_];exact x1;rintro rfl;obtain⟨_,xb⟩|⟨e',K⟩:=x;exact Z xb;rw[K]at x1;cases x1
 simp only[oW,e];obtain⟨x,rfl⟩|⟨e',x⟩:=x;rw[x];exact⟨_,rfl,go _ _ (.inl ⟨x,rfl⟩)⟩;rw[x];simp only[WO,cond_true];exact⟨_,rfl,go _ _ (.inr ⟨e',x⟩)⟩
theorem Sl.aH{h:b_}{esz:Nat}{v:V}{n:Nat}{cs:List V}(a:Sl h esz v n cs):Ev.R_ v=some n:=by
 let⟨_,a⟩:=a;cases v with
 |z b o len cap=>obtain⟨rfl,_⟩:=a;rfl
 |L b o len q=>obtain⟨rfl,_⟩:=a;rfl
 |j=>have a:n=0:=a;subst a;rfl
 |F=>have a:n=0:=a;subst a;rfl
 |_=>exact a.elim
theorem Sl.al{h:b_}{esz:Nat}{v:V}{n:Nat}{cs:List V}(a:Sl h esz v n cs):Ev.Q9 h esz v n=some cs:=by
 let⟨hl,a⟩:=a;cases v with
 |z b o len cap=>obtain⟨rfl,_,c,Z,K,e⟩:=a;simp[Ev.Q9,Z.J,bR,bO _ _ (oO:len*esz<=(c.drop o).length),e]
 |L b o len q=>obtain⟨rfl,rfl,c,Z,K,e⟩:=a;simp[Ev.Q9,Z.J,bR,bO _ _ (oO:len*q<=(c.drop o).length),e]
 |j=>have a:n=0:=a;subst a;simp at hl;subst hl;rfl
 |F=>have a:n=0:=a;subst a;simp at hl;subst hl;rfl
 |_=>exact a.elim
def vb:V->List Nat
 |.L b _ _ _=>[b]
 |_=>[]
theorem Gs.up{h Z:b_}{B esz:Nat}{v:V}{cs:List V}(a:Gs h B esz v cs)(f:Fr (vb v) h Z):Up B h Z:=by apply f.up;obtain⟨rfl,_⟩|⟨b,m,rfl,_,_,K,_⟩:=a;simp[vb];simpa[vb]using K
theorem Gs.aA{h:b_}{B esz bytes:Nat}{v x:V}{cs xs:List V}{n:Nat}(w:WF h)(a:Gs h B esz v cs)(s:Sl h esz x n xs)(he:0<esz)(ho:aw xs=true)(hB:B<=h.i)
 (ab:(2*(cs.length+n)+1024) *bytes<=281474976710656) {K:V->b_->Prop} (k:∀v' h',Gs h' B esz v' (cs++xs)->Fr (vb v) h h'->K v' h'):OQ (jO h esz bytes v x) K:=by
 unfold jO;rw[s.aH];simp;by_cases hn:n=0;subst hn;have hx:xs=[]:=by have:=s.1;simp at this;exact this
 subst hx;rw[lV rfl,cond_true];have hd:iK v=some (cs.length/esz):=by obtain⟨rfl,rfl⟩|⟨b,m,rfl,Z,_⟩:=a;simp[iK,Ev.R_];simp[iK,Ev.R_,Z,XO _ he]
 rw[hd];exact(cU _ _ _).2 (k v h (eV a) (Fr.bG w));rw[fD hn,cond_false,s.al];simp;obtain⟨rfl,rfl⟩|⟨b,m,rfl,Z,af,hb,o⟩:=a;simp[vq];have:Nat.ble ((2*n+1024) *bytes) 281474976710656=true:=by rw[Xu];simpa using ab
 rw[this,cond_true];refine(cU _ _ _).2 (k _ _ (.inr ⟨h.i,n,rfl,by simpa using s.1,oM,hB,by simpa using f_.bB w xs⟩) (Fr.aQ w xs));have aj:(2*(m+n)+1024) *bytes<=(2*(cs.length+n)+1024) *bytes:=by
  apply Wb _;have:m<=cs.length:=by rw[Z];exact Nat.le_mul_of_pos_right m he
  omega
 have h1:(Nat.beq esz esz&&Nat.ble ((2*(m+n)+1024) *bytes) 281474976710656)=true:=by simp;omega
 simp only[h1,cond_true,o.P5];have ae:(m+n) *esz=m*esz+n*esz:=Xs _ _ _;have ac:0<n*esz:=YX oM he;rw[Cr (oM:¬0+(m+n) *esz<=cs.length),cond_false];have h2:(Nat.ble (0+m*esz) cs.length&&aw xs)=true:=by simp only[ho,Bool.and_true,Xu];omega
 simp only[h2,cond_true,fY,bO cs (m*esz) oM];let⟨h',e,o',f⟩:=wH (pos:=0+m*esz) (c':=cs.take (m*esz)++xs) w o;rw[e];simp;refine(cU _ _ _).2 (k _ _ (.inr ⟨h.i,m+n,rfl,by simp[s.1];omega,oM,hB,?_⟩) f);rwa[Vm oM]at o'
def CQ(o:Option (List V))(len:Nat)(K:V->b_->Prop)(h:b_):Prop:=∃c,o=some c/\K (.z h.i 0 len len) (k_ h c)
theorem Ej(c:List V)(len:Nat)(K:V->b_->Prop)(h:b_):CQ (some c) len K h↔K (.z h.i 0 len len) (k_ h c):=
 ⟨fun⟨_,e,k⟩=>by cases e;exact k,fun k=>⟨c,rfl,k⟩⟩
theorem DK(h:b_)(zero:List V)(Z:List (Nat×Nat))(len:Nat)(vs:List V)(K:V->b_->Prop):OQ (kw h zero Z len vs) K↔CQ (dY (aW zero len) Z vs) len K h:=by
 simp[kw,OQ,CQ];cases dY (aW zero len) Z vs with
 |none=>simp
 |some c=>simp[and_assoc]
theorem fU(zero:List V):aW zero 0=[]:=rfl
theorem fG(zero:List V)(n:Nat):aW zero (n+1)=zero++aW zero n:=rfl
theorem pE(z:V)(n:Nat):aW [z] n=List.replicate n z:=by
 induction n with
 |zero=>rfl
 |succ n ih=>rw[fG,ih];rfl
theorem Sl.ca{h:b_}{esz:Nat}{b n:Nat}{c:List V}(o:f_ h b c)(hc:c.length=n*esz):Sl h esz (.z b 0 n n) n c:=
 ⟨hc,rfl,Ve _,c,o,oM,by simp[<-hc]⟩
theorem dy(h:b_)(zero:List V)(bytes:Nat)(k k':IntKind)(l c:Int)(K:V->b_->Prop)(h0:0<=l)(h1:l<=c)(h2:c<9223372036854775808)(Z:bytes*c.toNat<=281474976710656):
 OQ (xI h zero bytes (.C k l) (.C k' c)) K↔K (.z h.i 0 l.toNat c.toNat) (k_ h (aW zero c.toNat)):=by
 obtain⟨n,rfl⟩:∃n:Nat,l=n:=⟨l.toNat,oM⟩;obtain⟨m,rfl⟩:∃m:Nat,c=m:=⟨c.toNat,oM⟩;have:(Nat.ble n m&&Nat.blt m 9223372036854775808&&Nat.ble (bytes*m) 281474976710656)=true:=by simp;simp at Z;omega
 show OQ (bif Nat.ble n m&&Nat.blt m 9223372036854775808&&Nat.ble (bytes*m) 281474976710656 then some (.z h.i 0 n m,k_ h (aW zero m))else none) K↔_;rw[this];exact cU _ _ _
section
variable {α : Type} {f : α -> List V} {k : Nat}
theorem aG(hf:∀x,(f x).length=k):∀(L:List α),(L.flatMap f).length=L.length*k
 |[]=>by simp
 |x::L=>by simp[aG hf L,hf,Xy,XH]
theorem bI(hf:∀x,(f x).length=k):∀(L:List α)(i:Nat),(L.flatMap f).drop (i*k)=(L.drop i).flatMap f
 |L,0=>by simp
 |[],i+1=>by simp
 |x::L,i+1=>by rw[VM,List.drop_succ_cons,<-bI hf L i,Xy,XH,<-hf x,<-Wd,Xn]
theorem cZ(hf:∀x,(f x).length=k):∀(L:List α)(i:Nat),(L.flatMap f).take (i*k)=(L.take i).flatMap f
 |L,0=>by simp
 |[],i+1=>by simp
 |x::L,i+1=>by
  have:(i+1) *k=(f x).length+i*k:=by grind
  rw[List.flatMap_cons,List.take_succ_cons,List.flatMap_cons,this,List.take_append,List.take_of_length_le oM,Nat.add_sub_cancel_left,cZ hf L i]
def o_(f:α->List V)(k:Nat)(h:b_)(v:V)(L:List α):Prop:=Sl h k v L.length (L.flatMap f)
theorem o_.fr{h h':b_}{v:V}{L:List α}(a:o_ f k h v L)(r:Fr [] h h'):o_ f k h' v L:=Sl.fr a r
theorem o_.M{h:b_}{v:V}{L:List α}(a:o_ f k h v L):aP .d [v]=some (.C .i64 L.length):=Sl.A_ a
theorem o_.ix{h:b_}{v:V}{L:List α}(Z:∀x,(f x).length=k)(a:o_ f k h v L)(kd:IntKind)(i:Int)(h0:0<=i)(h1:i<L.length):
 ∃b o x,aP (.c k) [v,.C kd i]=some (.u b o)/\(∀j,j<k->ag h b (o+j)=(f x)[j]?)/\aq h b o k=some (f x)/\L[i.toNat]? =some x:=by
 let⟨b,o,e,g,g2⟩:=Sl.ix a kd i h0 h1;have hi:i.toNat<L.length:=oM;have e3:L[i.toNat]? =some L[i.toNat]:=by simp
 have ed:L.drop i.toNat=L[i.toNat]::L.drop (i.toNat+1):=Wm hi;refine⟨b,o,L[i.toNat],e,fun j K=>?_,?_,e3⟩;rw[g j K,<-Wh,bI Z,ed,VM,Xa (by rw[Z];exact K)];rw[g2,bI Z,ed,VM];have:=Z L[i.toNat];rw[Yi,Vm oM,this];simp
theorem o_.D_{h:b_}:o_ f k h .j []:=⟨iS,rfl⟩
def Q1(f:α->List V)(k:Nat)(h:b_)(B:Nat)(v:V)(L:List α):Prop:=Gs h B k v (L.flatMap f)
theorem Q1.ay{h:b_}{B:Nat}{v:V}{L:List α}(hf:∀x,(f x).length=k)(hk:0<k)(a:Q1 f k h B v L):o_ f k h v L:=Gs.sl a (aG hf L) hk
theorem Q1.fr{h h':b_}{B:Nat}{v:V}{L:List α}(a:Q1 f k h B v L)(r:Fr [] h h'):Q1 f k h' B v L:=Gs.fr a r
theorem Q1.O{h:b_}{B:Nat}{v:V}{L:List α}(a:Q1 f k h B v L):v.O=true:=Gs.O a
theorem Q1.D_{h:b_}{B:Nat}:Q1 f k h B .j []:=.inl ⟨rfl,rfl⟩
theorem Q1.aA{h:b_}{B bytes:Nat}{v:V}{L:List α}{x:α}{b:Nat}(w:WF h)(a:Q1 f k h B v L)(hf:∀x,(f x).length=k)(ho:aw (f x)=true)(hk:0<k)(o:f_ h b (f x))(hB:B<=h.i)
 (Z:(2*(L.length*k+1)+1024) *bytes<=281474976710656) {K:V->b_->Prop} (c:∀v' h',Q1 f k h' B v' (L++[x])->Fr (vb v) h h'->K v' h'):OQ (jO h k bytes v (.z b 0 1 1)) K:=by
 refine Gs.aA w a (Sl.ca (n:=1) o iX) hk ho hB (by rw[aG hf];exact Z) ?_;intro v' h' g u;refine c v' h' ?_ u;unfold Q1;rw[Wx];simpa using g
end
def JC(Q:Ex->T V->b_->Prop):Ex->T V->b_->Prop:=fun e env h=>match e with
 |.b _=>False
 |e=>Q e env h
theorem wu(Q:Ex->T V->b_->Prop)(env:T V)(h:b_):JC Q .a env h↔Q .a env h:=Xf
theorem Aa(Q:Ex->T V->b_->Prop)(env:T V)(h:b_):JC Q .d env h↔Q .d env h:=Xf
theorem wv(i:Nat)(Q:Ex->T V->b_->Prop)(env:T V)(h:b_):JC Q (.c i) env h↔Q (.c i) env h:=Xf
theorem I0{call:aL}{c r:IC}{l:Nat}{env:T V}{h:b_}{Q:Ex->T V->b_->Prop}(x:W call c env h (JC Q)):W call (.j c l r) env h Q:=by
 refine DY (fun _ _ _=>False) 0 oM (x.ag ?_) (fun _ _ _ f=>f.elim);intro e env h q;cases e with
 |b i=>exact q.elim
 |_=>exact q
theorem Za{p q:Prop}(a:p)(b:q):p/\q:=⟨a,b⟩
set_option linter.defProp false in
set_option maxRecDepth 4000 in
def a_:=Za @IZ<|Za @DZ<|Za @I3<|Za @I1<|Za @DX<|Za @I4<|Za @D1<|Za @D0<|Za @jV<|Za @wi<|Za @tA<|Za @tw<|Za @sd<|Za @vh<|Za @sf<|Za @jq<|Za @wu<|Za @Aa<|Za @wv<|Za @tU<|Za @kQ<|Za @rJ<|Za @uS<|Za @zF<|Za @Lc<|Za @La<|Za @Oy<|Za @Me<|Za @qA<|Za @JM<|Za @tf<|Za @tc<|Za @cU<|Za @D7<|Za @Hl<|Za @zG<|Za @LD<|Za @D4<|Za @LM<|Za @LJ<|Za @LK<|Za @Ek<|Za @BF<|Za @xU<|Za @BE<|Za @xX<|Za @yH<|Za @yG<|Za @D9<|Za @D8<|Za @Jp<|Za @Jo<|Za @qt<|Za @DK<|Za @Ej<|Za @fU<|Za @fG<|Za @LE<|Za @LL<|Za @LH<|Za @LI<|Za @Ee<|Za @LF<|Za @Hn<|Za @rU<|Za @jn<|Za @Du<|Za @LX<|Za @dP<|Za @gR<|Za @dg<|Za @bX<|Za @db<|Za @mX<|Za @iU<|Za @T.S1<|Za @xV<|Za @qv<|Za @pW<|Za @yS<|Za @H9<|Za @wG<|Za @mF<|Za @wF<|Za @gu<|Za @pf<|Za @DO<|Za @DM<|Za @vt<|Za @xL<|Za @IX<|Za @IF<|Za @CG<|Za @CH<|Za @IJ<|Za @IN<|Za @IQ<|Za @Ioa<|Za @IR<|Za @II<|Za @IK<|Za @IV<|Za @IU<|Za @jP<|Za @IT<|Za @xR<|Za @xQ<|Za @IM<|Za @By<|Za @Md<|Za @Mc<|Za @DU<|Za @DR<|Za @DQ<|Za @DP<|Za @DT<|Za @xP<|Za @DW<|Za @DV<|Za @DN<|Za @xM<|Za @xN<|Za @Aj<|Za @xD<|Za @u9<|Za @xA<|Za @xC<|Za @uY<|Za @uX<|Za @r8<|Za @qi<|Za @u7<|Za @uZ<|Za @xE<|Za @xK<|Za @DJ<|Za @fY<|Za @uQ<|Za @nW<|Za @fT<|Za @jB<|Za @dQ<|Za @aY<|Za @bM<|Za @cond_true.{1}<|Za @cond_false.{1}<|Za @Nat.zero_lt_one<|Za @Nat.lt_add_one<|Za @decide_eq_true_eq<|Za @Bool.not_true<|Za @Bool.not_false<|Za @Bool.false_eq_true<|Za @Bool.true_eq_false<|Za @decide_true<|Za @decide_false<|Za @eq_self.{1}<|Za @Option.map_some.{0,0}<|Za @Option.bind_some.{0,0}<|Za @Nat.zero_add<|Za @Nat.add_zero<|Za @Nat.zero_mul<|Za @Nat.zero_ne_one<|Za @Nat.one_ne_zero<|Za @List.append_nil.{0}<|Za @List.nil_append.{0}<|Za @List.cons_append.{0}<|Za @Option.isSome_some.{0}<|Za @Option.isSome_none.{0}<|Za @Option.isNone_some.{0}<|Za @Option.isNone_none.{0}<|Za @W_d<|Za @I5<|Za @Oz<|Za @OA<|Za @de<|Za @N8<|Za @Ob<|Za @Eb<|Za @Jr<|Za @HH<|Za @BA<|Za @rG<|Za @OB<|Za @OC<|Za @Ea<|Za @Jq<|Za @wC<|Za @tV<|Za @eW<|Za @Eg<|Za @BD<|Za @wp<|Za @CX<|Za @Bz<|Za @List.map_cons.{0,0}<|Za @List.map_nil.{0,0}<|Za @List.length_cons.{0}<|Za @List.length_nil.{0}<|Za @List.drop_succ_cons.{0}<|Za @List.drop_zero.{0}<|Za @List.getElem?_cons_succ.{0}<|Za @List.getElem?_cons_zero.{0}<|Za @List.reverse_cons.{0}<|Za @List.reverse_nil.{0}<|Za @List.take_succ_cons.{0}<|Za @List.take_zero.{0}<|Za @and_true<|@true_and
theorem t_{I:Nat->T V->b_->Prop}{k:Nat}{Q:Ex->T V->b_->Prop}{env:T V}{h:b_}(x:∃k',k'<k/\I k' env h):oF I k Q .a env h:=x
theorem u_{h:b_}{n b o:Nat}{v:V}{c c':List V}{K:V->b_->Prop}(w:WF h)(a:f_ h b c)
 (k:∀h',f_ h' b c'->Fr [b] h h'->h'.i=h.i->K (.G []) h') (e:v.s.length=n:=by exact rfl) (h1:aw v.s=true:=by first|exact rfl|simp[aw,V.s,fO, *]) (hu:bq c o v.s=some c':=by simp only[a_];exact rfl):HQ (gT h n (.u b o) v) K:=ao w a e h1 hu k
variable {call : aL}
def T.av{α:Type}:T α->Nat
 |.e=>0
 |.n l _ r=>1+max l.av r.av
theorem T.az{α:Type}:∀(t:T α)(i:Nat),2^t.av≤i+1→t.c_ i=none
 |.e,_,_=>rfl
 |.n l v r,i,h=>by
  have hp:0<2^max l.av r.av:=Nat.two_pow_pos _;simp only[T.av,Nat.pow_add,Nat.pow_one]at h;cases i with
  |zero=>omega
  |succ j=>rw[T.V2];have hl:2^l.av≤2^max l.av r.av:=Nat.pow_le_pow_right oM (Nat.le_max_left _ _);have hr:2^r.av≤2^max l.av r.av:=Nat.pow_le_pow_right oM (Nat.le_max_right _ _);split;exact T.az l _ oM;exact T.az r _ oM
theorem WF.b{h:b_}(w:WF h)(k:Y8):WF (T4 h k):=by intro p Z;have K:h.i+1<=p:=Z;have:=w p oM;exact⟨by show(h.S.B_ _ _).c_ p=none;rw[Vi _ _ oM];exact this.1,this.2⟩
theorem Fr.aP{h:b_}(w:WF h)(k:Y8):Fr [] h (T4 h k) where
 i:=Nat.le_succ _
 r:=w.b k
 D:=fun b c _ o=>by have:=o.lt w;let⟨f,k',e,x⟩:=o;exact⟨f,k',by show(h.S.B_ _ _).c_ b=_;rw[T.x_ _ _ oM];exact e,x⟩
 pl:=fun b c _ o=>by have:=o.a.lt w;let⟨⟨k',e⟩,f⟩:=o;exact⟨⟨k',by show(h.S.B_ _ _).c_ b=_;rw[T.x_ _ _ oM];exact e⟩,f⟩
 lp:=fun b x _ e=>by
  have:b≠h.i:=by rintro rfl;rw[(w _ (Nat.le_refl _)).1]at e;cases e
  show(h.S.B_ _ _).c_ b=_;rw[T.x_ _ _ this];exact e
 ro:=fun b c r=>r.bB w _
structure Q6(S:List Nat)(B:Nat)(h h':b_):Prop where
 g:h.i<=h'.i
 e:WF h'
 d:∀b c,b∉S->f_ h b c->f_ h' b c
 j:∀b c,b∉S->Pl h b c->Pl h' b c
 i:∀b x,b≠B->Kh x=true->h.S.c_ b=some x->h'.S.c_ b=some x
 l:∀b c,Rs h b c->Rs h' b c
theorem Fr.b{S S':List Nat}{h h':b_}{B:Nat}(f:Fr S' h h')(hs:∀x∈S',x∈S):Q6 S B h h':=⟨f.i,f.r,fun b c hb o=>f.D b c (fun q=>hb (hs b q)) o,fun b c hb o=>f.pl b c (fun q=>hb (hs b q)) o,fun b x _ hx e=>f.lp b x hx e,f.ro⟩
theorem Q6.a{S:List Nat}{h h1 h2:b_}{B:Nat}(a:Q6 S B h h1)(b:Q6 S B h1 h2):Q6 S B h h2:=
 ⟨VC a.g b.g,b.e,fun x c hx o=>b.d x c hx (a.d x c hx o),fun x c hx o=>b.j x c hx (a.j x c hx o),fun x k hx hk o=>b.i x k hx hk (a.i x k hx hk o),fun x c r=>b.l x c (a.l x c r)⟩
theorem Q6.b{S:List Nat}{h:b_}(w:WF h){B:Nat}{x:Y8}(e:h.S.c_ B=some x)(hx:Kh x=true)(k:Y8):Q6 S B h (K_ h B k):=by
 have hB:B<h.i:=by obtain q|q:=Wt B h.i;exact q;rw[(w B q).1]at e;cases e
 refine⟨Ve _,?_,?_,?_,?_,?_⟩;intro p hp;have ab:h.i<=p:=hp;have:=w p ab;exact⟨by show(h.S.B_ _ _).c_ p=none;rw[Vi _ _ oM];exact this.1,this.2⟩;rintro b c _ ⟨f,k',Z,y⟩;have:b≠B:=by rintro rfl;rw[e]at Z;cases Z;cases hx
 exact⟨f,k',by show(h.S.B_ _ _).c_ b=_;rw[Vi _ _ this];exact Z,y⟩;rintro b c _ ⟨⟨k',Z⟩,y⟩;have:b≠B:=by rintro rfl;rw[e]at Z;cases Z;cases hx
 exact⟨⟨k',by show(h.S.B_ _ _).c_ b=_;rw[Vi _ _ this];exact Z⟩,y⟩;intro b y hb hy Z;show(h.S.B_ _ _).c_ b=_;rw[Vi _ _ hb];exact Z;rintro b c ⟨f,k',ow,K,e2,e3,e4⟩;have h1:b≠B:=by rintro rfl;rw[e]at K;cases K;cases hx
 have h2:ow≠B:=by grind
 exact⟨f,k',ow,by show(h.S.B_ _ _).c_ b=_;rw[Vi _ _ h1];exact K,e2,by show(h.S.B_ _ _).c_ ow=_;rw[Vi _ _ h2];exact e3,e4⟩
theorem Q6.c{S:List Nat}{B:Nat}{h h1 h2:b_}(w:WF h)(f:Fr [] h h1)(a:Q6 S B h1 h2)(hs:∀x∈S,h.i<=x)(hB:h.i<=B):Fr [] h h2:=
 ⟨VC f.i a.g,a.e,fun b c _ o=>a.d b c (fun q=>by have:=hs b q;have:=o.lt w;omega) (f.c_ o),fun b c _ o=>a.j b c (fun q=>by have:=hs b q;have:=o.a.lt w;omega) (f.pl b c iS o),
  fun b x hx e=>a.i b x (by rintro rfl;rw[(w _ hB).1]at e;cases e) hx (f.lp b x hx e),fun b c r=>a.l b c (f.ro b c r)⟩
theorem jI(h:b_)(B:Nat)(k:Y8):(K_ h B k).S.c_ B=some k:=VS _ _ _
theorem jJ(h:b_)(k:Y8):(T4 h k).S.c_ h.i=some k:=VS _ _ _
theorem Ox{g:G_}{ps:List Nat}{as bd:IC}{env:T V}{h:b_}{Q:Ex->T V->b_->Prop}{f:Nat}{first caps:List V}(K:E_ [] env g=some (.I (.func f) first caps))(hf:f<1099511627776)
 (k:OQ (call f (first++[.ak h.i]++caps) (T4 h (.b ps as bd env 0 none))) fun _ h2=>∃ps2 as2 bd2 en2 st pend,h2.S.c_ h.i=some (.b ps2 as2 bd2 en2 st pend)/\st≠1/\
  Q (pend.getD .a) env (K_ h2 h.i .d)):W call (.s g ps as bd) env h Q:=by
 let⟨u,h2,e,ps2,as2,bd2,en2,st,pend,e2,e3,q⟩:=k;refine⟨_,_,_,?_,q⟩;have key:O_ call (.s g ps as bd) env h=(match E_ [] env g with
  |some (.I (.func f) first caps)=>bif Nat.blt f YB then
   (match call f (first++[.ak h.i]++caps) (T4 h (.b ps as bd env 0 none))with
    |some (_,h2)=>(match h2.S.c_ h.i with
     |some (.b _ _ _ _ st pend)=>bif Nat.beq st 1 then .a else .b (match pend with|some ex=>ex|none=>.a) env (K_ h2 h.i .d)
     |_=>.a)
    |none=>.a)
   else .a
  |_=>.a:S9):=rfl
 have hb:Nat.blt f YB=true:=(VE ..).mpr hf;have Z:Nat.beq st 1=false:=by cases q:Nat.beq st 1;rfl;exact absurd (Vf q) e3
 rw[key,K];simp only[hb,cond_true];rw[e];simp only[e2,Z,cond_false];cases pend<;>rfl
theorem uR {ov : aL} {F : T l_} {b : Nat} {vs : List V} {h : b_} {R : V -> b_ -> Prop} (hF : 2 ^ F.av <= 1099511627776) {ps : List Nat} {as bd : IC} {env : T V} (hb : h.S.c_ b = some (.b ps as bd env 0 none)) (hl : vs.length = ps.length)
    (k : W (ev ov F) as (nQ ps vs env) h fun e env1 h1 => e = .a /\ ∃ ps1 as1 bd1 en1 p1, h1.S.c_ b = some (.b ps1 as1 bd1 en1 0 p1) /\
      W (ev ov F) bd env1 (K_ h1 b (.b ps1 as1 bd1 en1 1 p1)) fun e2 _ h2 => e2 = .a /\ ∃ ps2 as2 bd2 en2 s2 p2, h2.S.c_ b = some (.b ps2 as2 bd2 en2 s2 p2) /\ R (.h true) (K_ h2 b (.b ps2 as2 bd2 en2 0 none))) :
    av (ev ov F) (YB + b) vs h R := by
  obtain ⟨_, env1, h1, e1, rfl, ps1, as1, bd1, en1, p1, hb1, _, env2, h2, e2, rfl, ps2, as2, bd2, en2, s2, p2, hb2, r⟩ := k
  refine ⟨_, _, AS (T.az F _ (by have : (1099511627776 : Nat) <= YB := (by decide); omega)) ?_, r⟩
  unfold ZV
  rw [hb]
  have hl' : Nat.beq vs.length ps.length = true := by rw [hl]; exact WO _
  simp [hl']
  rw [e1]
  simp [hb1]
  rw [e2]
  simp [hb2]
def ZA(h:b_)(b:Nat)(c:List V):Prop:=f_ h b c\/Rs h b c
theorem ZA.P5{h:b_}{b:Nat}{c:List V}(a:ZA h b c):dW h b=some c:=by obtain o|⟨f,k,ow,K,Z,_⟩:=a;exact o.P5;simp only[dW,K,rd,Z,WO,Bool.or_true];rfl
theorem ZA.o{h:b_}{b:Nat}{c:List V}(a:ZA h b c)(o:Nat):ag h b o=X0 c o:=by simp[ag,a.P5]
theorem ZA.J{h:b_}{b:Nat}{c:List V}(a:ZA h b c)(o n:Nat):aq h b o n=dL n (gJ c o):=by simp[aq,a.P5]
def T5(h:b_)(esz:Nat)(v:V)(n:Nat)(cs:List V):Prop:=
 cs.length=n*esz/\match v with
 |.j=>n=0
 |.F=>n=0
 |.aa _ _=>n=0
 |.z b o len cap=>len=n/\n<=cap/\∃c,ZA h b c/\o+n*esz<=c.length/\cs=(c.drop o).take (n*esz)
 |.L b o len e=>len=n/\e=esz/\∃c,ZA h b c/\o+n*esz<=c.length/\cs=(c.drop o).take (n*esz)
 |_=>False
theorem Sl.a{h:b_}{esz:Nat}{v:V}{n:Nat}{cs:List V}(a:Sl h esz v n cs):T5 h esz v n cs:=by
 let⟨hl,a⟩:=a;refine⟨hl,?_⟩;cases v with
 |z b o l k=>let⟨Z,K,c,o,x⟩:=a;exact⟨Z,K,c,.inl o,x⟩
 |L b o l k=>let⟨Z,K,c,o,x⟩:=a;exact⟨Z,K,c,.inl o,x⟩
 |aa _ _=>exact a.elim
 |_=>exact a
theorem T5.ad{h Z:b_}{esz:Nat}{v:V}{n:Nat}{cs:List V}(a:T5 h esz v n cs)(f:∀b c,ZA h b c->(cs≠[]->∃x∈cs,x∈c)->ZA Z b c):T5 Z esz v n cs:=by
 let⟨hl,a⟩:=a;refine⟨hl,?_⟩;have key:∀(o:Nat)(c:List V),cs=(c.drop o).take (n*esz)->cs≠[]->∃x∈cs,x∈c:=by intro o c e hne;let⟨x,hx⟩:=List.exists_mem_of_ne_nil cs hne;exact⟨x,hx,VU (Wl (e▸hx))⟩
 cases v with
 |z b o l k=>let⟨K,h2,c,oc,x1,x2⟩:=a;exact⟨K,h2,c,f b c oc (key o c x2),x1,x2⟩
 |L b o l k=>let⟨K,h2,c,oc,x1,x2⟩:=a;exact⟨K,h2,c,f b c oc (key o c x2),x1,x2⟩
 |_=>exact a
theorem T5.fr{h h':b_}{esz:Nat}{v:V}{n:Nat}{cs:List V}(a:T5 h esz v n cs)(f:Fr [] h h'):T5 h' esz v n cs:=a.ad fun b c r _=>r.imp (fun o=>f.c_ o) (f.ro b c)
theorem T5.A_{h:b_}{esz:Nat}{v:V}{n:Nat}{cs:List V}(a:T5 h esz v n cs):aP .d [v]=some (.C .i64 n):=by
 let⟨Z,a⟩:=a;cases v with
 |z b o l k=>obtain⟨rfl,_⟩:=a;rfl
 |L b o l k=>obtain⟨rfl,_⟩:=a;rfl
 |j=>have a:n=0:=a;subst a;rfl
 |F=>have a:n=0:=a;subst a;rfl
 |aa _ _=>have a:n=0:=a;subst a;rfl
 |_=>exact a.elim
theorem T5.O{h:b_}{esz:Nat}{v:V}{n:Nat}{cs:List V}(a:T5 h esz v n cs):v.O=true:=by
 let⟨Z,a⟩:=a;cases v with
 |z b o l k=>rfl
 |L b o l k=>rfl
 |j=>rfl
 |F=>rfl
 |aa _ _=>rfl
 |_=>exact a.elim
theorem T5.ix{h:b_}{esz:Nat}{v:V}{n:Nat}{cs:List V}(a:T5 h esz v n cs)(k:IntKind)(i:Int)(h0:0<=i)(h1:i<n):
 ∃b o,aP (.c esz) [v,.C k i]=some (.u b o)/\(∀j,j<esz->ag h b (o+j)=cs[i.toNat*esz+j]?)/\aq h b o esz=some ((cs.drop (i.toNat*esz)).take esz):=by
 let⟨hl,a⟩:=a;obtain⟨m,rfl⟩:∃m:Nat,i=m:=⟨i.toNat,oM⟩;have hm:m<n:=oM;have ab:m*esz+esz<=n*esz:=by rw[<-Xy];exact Wb _ hm
 have K:∀(b o:Nat)(c:List V),ZA h b c->o+n*esz<=c.length->cs=(c.drop o).take (n*esz)->
  (∀j,j<esz->ag h b (o+m*esz+j)=cs[m*esz+j]?)/\aq h b (o+m*esz) esz=some ((cs.drop (m*esz)).take esz):=by
  intro b o c hc Z e;subst e;constructor;intro j hj;rw[hc.o,gN,Xd,if_pos oM,Wh];congr 1;omega;rw[hc.J,bR,bO _ _ oO,Yd,Wd,WL];congr 2;omega
 cases v with
 |z b o l q=>obtain⟨rfl,_,c,hc,Z,e⟩:=a;exact⟨b,o+m*esz,eM _ _ _ _ _ _ _ h0 h1,K b o c hc Z e⟩
 |L b o l q=>obtain⟨rfl,rfl,c,hc,Z,e⟩:=a;exact⟨b,o+m*q,lZ _ _ _ _ _ _ _ h0 h1,K b o c hc Z e⟩
 |j=>have a:n=0:=a;omega
 |F=>have a:n=0:=a;omega
 |aa _ _=>have a:n=0:=a;omega
 |_=>exact a.elim
section
variable {α : Type} {f : α -> List V} {k : Nat}
def C_(f:α->List V)(k:Nat)(h:b_)(v:V)(L:List α):Prop:=T5 h k v L.length (L.flatMap f)
theorem o_.a{h:b_}{v:V}{L:List α}(a:o_ f k h v L):C_ f k h v L:=Sl.a a
theorem C_.fr{h h':b_}{v:V}{L:List α}(a:C_ f k h v L)(r:Fr [] h h'):C_ f k h' v L:=T5.fr a r
theorem C_.A_{h:b_}{v:V}{L:List α}(a:C_ f k h v L):aP .d [v]=some (.C .i64 L.length):=T5.A_ a
theorem C_.O{h:b_}{v:V}{L:List α}(a:C_ f k h v L):v.O=true:=T5.O a
theorem C_.ix{h:b_}{v:V}{L:List α}(Z:∀x,(f x).length=k)(a:C_ f k h v L)(kd:IntKind)(i:Int)(h0:0<=i)(h1:i<L.length):
 ∃b o x,aP (.c k) [v,.C kd i]=some (.u b o)/\(∀j,j<k->ag h b (o+j)=(f x)[j]?)/\aq h b o k=some (f x)/\L[i.toNat]? =some x:=by
 let⟨b,o,e,g,g2⟩:=T5.ix a kd i h0 h1;have hi:i.toNat<L.length:=oM;have e3:L[i.toNat]? =some L[i.toNat]:=by simp
 have ed:L.drop i.toNat=L[i.toNat]::L.drop (i.toNat+1):=Wm hi;refine⟨b,o,L[i.toNat],e,fun j K=>?_,?_,e3⟩;rw[g j K,<-Wh,bI Z,ed,VM,Xa (by rw[Z];exact K)];rw[g2,bI Z,ed,VM];have:=Z L[i.toNat];rw[Yi,Vm oM,this];simp
end
end Go.Ev
open Go.RowKit
namespace Go.Ev
theorem ZA.rd{h:b_}{b:Nat}{c:List V}(o:ZA h b c):∃f k,h.S.c_ b=some (.a c f k)/\rd h b f k=true:=by
 obtain⟨f,k,e,x⟩|⟨f,k,ow,K,Z,_⟩:=o;exact⟨f,k,e,pF (by obtain⟨a,_⟩|a:=x;exact .inl a;exact .inr a)⟩
 refine⟨f,k,K,?_⟩;unfold Ev.rd;rw[Z];simp
theorem r_.j{m:M}{h:b_}{w:World}(H:r_ m h w){p:Nat}{Z:V1}{c:List V}(hm:m p=some Z)(o:ZA h p c):
 ∃C el fz,w.heap[Z.a]? =some (.cells C el fz)/\Z.b+Z.c<=C.size/\∀(i:Nat) v,c[i]? =some v->∃x,C[Z.b+i]? =some x/\m_ m v x:=by
 let⟨f,k,e,r⟩:=o.rd;let⟨b,K,rel⟩:=H.d p Z hm;rw[e]at K;cases K;let⟨C,el,fz,a1,a2,_,a4,_⟩:=rel r;exact⟨C,el,fz,a1,a2,a4⟩
theorem Ct{m m':M}{h h':b_}{w w':World}(H:r_ m h w)(H':r_ m' h' w')(E:P9 m h w m' h' w')
 (Z:∀p loc,m p=some loc->∃c,ZA h p c/\ZA h' p c/\c.length=loc.c/\∀v∈c,∃k n,v=V.C k n):Below w.heap.size w w':=by
 refine⟨E.s,E.g,E.d,E.c,fun b hb=>?_⟩;by_cases cc:∃p loc,m p=some loc/\loc.a=b;obtain⟨p,loc,hp,rfl⟩:=cc;let⟨cs,o,o',len,ints⟩:=Z p loc hp;let⟨C,el,fz,hC,a4,aH⟩:=H.j hp o;let⟨x',aj,k⟩:=E.n loc.a hb _ hC;cases x' with
 |cells C' el' fz'=>
  obtain⟨rfl,rfl,af,ac⟩:=k;rw[aj,hC];have:C'=C:=by
   apply Array.ext_getElem?;intro j;by_cases cv:Y9 m loc.a j;let⟨q,lq,hq,ax,j1,j2⟩:=cv;let⟨cq,oq,ay,a0,ak⟩:=Z q lq hq;let⟨C1,a3,a5,K,_,ar⟩:=H.j hq oq;let⟨C2,a1,a2,ab,_,an⟩:=H'.j (E.j _ _ hq) ay;rw[ax]at K ab;rw[hC]at K;cases K;rw[aj]at ab;cases ab;have ae:j-lq.b<cq.length:=oM;let⟨k,n,en⟩:=ak cq[j-lq.b] (List.getElem_mem ae);have ec:cq[j-lq.b]? =some (.C k n):=by grind
   let⟨x1,e1,r1⟩:=ar (j-lq.b) _ ec;let⟨x2,e2,r2⟩:=an (j-lq.b) _ ec;simp[m_]at r1 r2;rw[(oM:lq.b+(j-lq.b)=j)]at e1 e2;rw[e1,e2,r1,r2];exact ac j cv
  rw[this]
 |_=>simp at k
 exact E.e b (fun p loc hp e=>cc ⟨p,loc,hp,e⟩) hb
noncomputable def put(t:T Y8):List (List V)->Nat->T Y8
 |[],_=>t
 |c::cs,i=>put (t.B_ i (.a c 1 0)) cs (i+1)
theorem yr:∀(cs:List (List V))(i:Nat)(t:T Y8)(p:Nat),(put t cs i).c_ p=if i<=p/\p<i+cs.length then(cs[p-i]?).map (fun c=>.a c 1 0)else t.c_ p
 |[],i,t,p=>by rw[if_neg iS];rfl
 |c::cs,i,t,p=>by show(put (t.B_ i (.a c 1 0)) cs (i+1)).c_ p=_;rw[yr cs (i+1),WB];simp only[Vy];by_cases q:p=i;grind;grind
noncomputable def hS(Cs:List (List V)):b_:=⟨put T.e Cs 2,2+Cs.length,(T.e:T (Nat×Nat)).B_ 1 (1,0)⟩
def mS(Ms:List (Option V1)):M:=fun p=>if 2<=p then(Ms[p-2]?).join else none
section
variable {Cs : List (List V)} {Ms : List (Option V1)}
theorem AG{i:Nat}{c:List V}(h:Cs[i]? =some c):(hS Cs).S.c_ (2+i)=some (.a c 1 0):=by have Z:=(Vt.1 h).1;show(put _ Cs 2).c_ (2+i)=_;rw[yr,if_pos oM,(oM:2+i-2=i),h];rfl
theorem B9{p:Nat}(h:p<2\/2+Cs.length<=p):(hS Cs).S.c_ p=none:=by show(put _ Cs 2).c_ p=_;rw[yr,if_neg oM];rfl
theorem HP:(hS Cs).Q.c_ 1=some (1,0):=by show((T.e:T (Nat×Nat)).B_ 1 (1,0)).c_ 1=_;exact VS _ _ _
theorem OW{p:Nat}(h:p≠1):(hS Cs).Q.c_ p=none:=by show((T.e:T (Nat×Nat)).B_ 1 (1,0)).c_ p=none;rw[Vi _ _ h];rfl
theorem LS:WF (hS Cs):=fun p hp=>⟨B9 (.inr hp),OW (by have:2+Cs.length<=p:=hp;omega)⟩
theorem LT{i:Nat}{c:List V}(h:Cs[i]? =some c):Rs (hS Cs) (2+i) c:=⟨1,0,1,AG h,HP,B9 (.inl oM),by show 1<2+Cs.length;omega⟩
theorem mH{p:Nat}{Z:V1}(h:mS Ms p=some Z):∃i,p=2+i/\Ms[i]? =some (some Z):=by unfold mS at h;by_cases d:2<=p;grind;grind
theorem NU{i:Nat}{Z:V1}(h:Ms[i]? =some (some Z)):mS Ms (2+i)=some Z:=by unfold mS;rw[if_pos oM,(oM:2+i-2=i),h];rfl
def NG(W:World)(loc:V1)(c:List V):Prop:=loc.d=none/\c.length=loc.c/\(∃C ty fz,W.heap[loc.a]? =some (.cells C ty fz)/\loc.b+loc.c<=C.size/\
 (∀(i:Nat) v,c[i]? =some v->∃k n,v=.C k n/\C[loc.b+i]? =some (.int k n))/\∀i:Nat,i<loc.c->¬(fz.1<=loc.b+i/\loc.b+i<fz.2))
theorem OR{W:World}(hl:Ms.length=Cs.length)(he:∀(i:Nat) loc c,Ms[i]? =some (some loc)->Cs[i]? =some c->NG W loc c):r_ (mS Ms) (hS Cs) W:=by
 have Z:∀(i:Nat) loc,Ms[i]? =some (some loc)->∃c,Cs[i]? =some c:=fun i loc h=>by have:=(Vt.1 h).1;exact⟨_,Vp oM⟩
 refine⟨⟨?_,LS⟩,?_,?_,?_⟩;intro p c f k K;by_cases q2:2<=p/\p<2+Cs.length;have hc:Cs[p-2]? =some (Cs[p-2]' oM):=Vp oM;have:=AG hc;rw[(oM:2+(p-2)=p),K]at this;cases this;rw[HP];exact Ve _;rw[B9 oM]at K;cases K;intro p loc K;obtain⟨i,rfl,h⟩:=mH K;let⟨c,hc⟩:=Z i loc h;let⟨_,af,C,ty,fz,h1,h2,h3,h4⟩:=he i loc c h hc;exact⟨_,AG hc,fun _=>⟨C,ty,fz,h1,h2,oM,fun j v hv=>by obtain⟨k,n,rfl,e⟩:=h3 j v hv;exact⟨_,e,rfl⟩,h4⟩⟩;intro p loc K;obtain⟨i,rfl,h⟩:=mH K;let⟨c,hc⟩:=Z i loc h;let⟨_,_,C,ty,fz,h1,_⟩:=he i loc c h hc;exact(We.1 h1).1;intro p q lp lq K hq ac ab;obtain⟨i,rfl,h⟩:=mH K;obtain⟨j,rfl,h'⟩:=mH hq;let⟨c,hc⟩:=Z i lp h;let⟨c',ae⟩:=Z j lq h';refine⟨c,c',1,0,0,AG hc,AG ae,fun e hf=>?_⟩;rw[HP]at hf;simp at hf;omega
end
abbrev qB:=IntKind×Int
def cV(c:qB):V:=.C c.1 c.2
def cX(c:qB):Value:=.int c.1 c.2
theorem d?{α β:Type}{g:α->List β}{k:Nat}(gl:∀a,(g a).length=k):∀L:List α,(L.flatMap g).length=L.length*k
 |[]=>by simp
 |x::L=>by simp[d? gl L,gl,Xy,XH]
def vJ(W:World)(x:Value)(k n:Nat)(cs:List qB):Prop:=cs.length=n*k/\
 ((x=.slice none 0 0/\n=0)\/(∃a cap,x=.slice (some a) 0 cap/\n=0)\/
 ∃b off cap C t fz,x=.slice (some ⟨b,off,none⟩) n cap/\n<=cap/\0<n/\W.heap[b]? =some (.cells C t fz)/\off+n*k<=C.size/\
  (∀i:Nat,i<n*k->¬(fz.1<=off+i/\off+i<fz.2))/\∀(i:Nat) c,cs[i]? =some c->C[off+i]? =some (cX c))
theorem pick{W:World}{x:Value}{k n:Nat}{cs:List qB}(cm:vJ W x k n cs)(p:Nat):∃(v:V)(ml:Option V1)(c:List V),
 (∀m:M,(∀loc,ml=some loc->m p=some loc)->m_ m v x)/\(∀loc,ml=some loc->NG W loc c)/\(∀h,(ml≠none->Rs h p c)->T5 h k v n (cs.map cV))/\v.O=true/\∀u∈c,∃k n,u=V.C k n:=by
 let⟨fl,cm⟩:=cm;have Z:(cs.map cV).length=n*k:=by simpa using fl
 obtain⟨rfl,rfl⟩|⟨a,cap,rfl,rfl⟩|⟨b,ac,cap,C,ty,fz,rfl,K,aj,hC,af,ae,ab⟩:=cm;exact⟨.j,none,[],fun m _=>rfl,(fun loc h=>by cases h),fun h _=>⟨Z,rfl⟩,rfl,iS⟩;exact⟨.aa a cap,none,[],fun m _=>rfl,(fun loc h=>by cases h),fun h _=>⟨Z,rfl⟩,rfl,iS⟩;have ci:∀(i:Nat) v,(cs.map cV)[i]? =some v->∃k n,v=.C k n/\C[ac+i]? =some (.int k n):=by
  intro i v hv;rw[VY]at hv;cases e:cs[i]? with
  |none=>rw[e]at hv;cases hv
  |some c=>rw[e]at hv;cases hv;exact⟨_,_,rfl,ab i c e⟩
 refine⟨.z p 0 n cap,some ⟨b,ac,n*k,none⟩,cs.map cV,fun m hm=>⟨_,hm _ rfl,K,iS⟩,?_,fun h rs=>⟨Z,rfl,K,_,.inr (rs iS),oM,by rw[Xo,Vm oM]⟩,rfl,?_⟩;rintro loc h;cases h;exact⟨rfl,Z,C,ty,fz,hC,af,ci,ae⟩;intro u hu;obtain⟨c,_,rfl⟩:=VK.1 hu;exact⟨_,_,rfl⟩
theorem LC{W:World}:∀(L:List (Value×Nat×Nat×List qB))(p:Nat),(∀q∈L,vJ W q.1 q.2.1 q.2.2.1 q.2.2.2)→∃(vs:List V)(Ms:List (Option V1))(Cs:List (List V)),vs.length=L.length∧Ms.length=L.length∧Cs.length=L.length∧
 (∀m:M,(∀(i:Nat) loc,Ms[i]? =some (some loc)→m (p+i)=some loc)→∀(i:Nat) v,vs[i]? =some v→∃q,L[i]? =some q∧m_ m v q.1)∧
 (∀(i:Nat) loc c,Ms[i]? =some (some loc)→Cs[i]? =some c→NG W loc c)∧
 (∀h,(∀(i:Nat) c,Cs[i]? =some c→Rs h (p+i) c)→∀(i:Nat) v q,vs[i]? =some v→L[i]? =some q→T5 h q.2.1 v q.2.2.1 (q.2.2.2.map cV))∧∀c∈Cs,∀u∈c,∃k n,u=V.C k n
 |[],p,_=>⟨[],[],[],rfl,rfl,rfl,fun m _ i v h=>by simp at h,fun i loc c h=>by simp at h,fun h _ i v q hv=>by simp at hv,fun c hc=>by simp at hc⟩
 |s::S,p,hs=>by
  let⟨v,ml,c,q1,q2,q3,_,q6⟩:=pick (hs s iS) p;let⟨vs,Ms,Cs,l1,l2,l3,r1,r2,r3,r5⟩:=LC S (p+1) (fun s' h=>hs s' iX);refine⟨v::vs,ml::Ms,c::Cs,by simp[l1],by simp[l2],by simp[l3],?_,?_,?_,?_⟩;intro m hm i u hu;cases i with
  |zero=>simp at hu;subst hu;exact⟨s,rfl,q1 m fun loc h=>by have:=hm 0 loc iX;simpa using this⟩
  |succ i=>let⟨q,h1,h2⟩:=r1 m (fun i loc h=>by have:=hm (i+1) loc (eV h);rwa[(oM:p+(i+1)=p+1+i)]at this) i u (eV hu);exact⟨q,by simpa using h1,h2⟩
  grind;intro h rs i u q hu hq;cases i with
  |zero=>simp at hu hq;subst hu hq;exact q3 h fun _=>by have:=rs 0 c iS;simpa using this
  |succ i=>exact r3 h (fun i c' hc=>by have:=rs (i+1) c' (eV hc);rwa[(oM:p+(i+1)=p+1+i)]at this) i u q (eV hu) (eV hq)
  grind
end Go.Ev
namespace Go.Ev.Lay
def val:List Nat->Nat
 |[]=>0
 |b::l=>b+256*val l
def rep(m:Nat)(l:List Nat):Nat:=val (l.map fun _=>m)
def f1(b:Nat):Nat:=((b/2)&&&85)+(b&&&85)
def f2(b:Nat):Nat:=((b/4)&&&51)+(b&&&51)
def f3(b:Nat):Nat:=(b/16+b)%16
theorem dv(x y k:Nat)(Z:x<k):(x+k*y)/k=y:=by rw[Nat.add_mul_div_left _ _ oM,Nat.div_eq_of_lt Z,VR]
def NJ:List Nat:=[0,1,56,2,57,49,28,3,61,58,42,50,38,29,17,4,62,47,59,36,45,43,51,22,53,39,33,30,24,18,12,5,63,55,48,27,60,41,37,16,46,35,44,21,52,32,23,11,54,26,40,15,34,20,31,10,25,14,19,9,13,8,7,6]
def ON:List V:=NJ.map fun(x:Nat)=>V.C .u8 (x:Int)
end Go.Ev.Lay
namespace Go.Ev.Ab
abbrev i(k:Int):G_:=.c (.C .i64 k)
abbrev b(k:Int):G_:=.c (.C .u8 k)
abbrev u(k:Int):G_:=.c (.C .u64 k)
abbrev tt:G_:=.c (.h true)
abbrev ff:G_:=.c (.h false)
abbrev p(k:PK)(x:List G_):n_:=⟨none,.p k x,none⟩
abbrev q(k:PK)(x:List G_)(d:Nat):n_:=⟨none,.p k x,some d⟩
abbrev m(x:G_):n_:=⟨none,.p .o [x],none⟩
abbrev o(x:G_)(d:Nat):n_:=⟨none,.p .o [x],some d⟩
abbrev a(k:Nat):n_:=⟨none,.p (.b k) [.l 0],none⟩
abbrev A(k v:Nat):n_:=⟨none,.p (.b k) [.v v],none⟩
abbrev e(k:Nat):n_:=⟨none,.p (.v k) [.l k],none⟩
abbrev L:n_:=⟨none,.a 1 false (.l 0),none⟩
abbrev c(f:Nat)(x:List G_):n_:=⟨none,.c f x,none⟩
abbrev n(o:Q_):n_:=⟨none,o,none⟩
abbrev N(o:Q_)(d:Nat):n_:=⟨none,o,some d⟩
abbrev f(j:Nat)(k:PK)(y:List G_):n_:=⟨some (.l j,false),.p k y,none⟩
abbrev y(j:Nat)(x:G_):n_:=⟨some (.l j,false),.p .o [x],none⟩
abbrev z(j:Nat)(x:G_):n_:=⟨some (.l j,true),.p .o [x],none⟩
abbrev t(j:Nat)(k:PK)(y:List G_):n_:=⟨some (.l j,true),.p k y,none⟩
abbrev g(j:Nat)(o:Q_):n_:=⟨some (.l j,false),o,none⟩
abbrev h(j:Nat)(o:Q_):n_:=⟨some (.l j,true),o,none⟩
abbrev G(x:G_)(w:Bool)(o:Q_)(d:Nat):n_:=⟨some (x,w),o,some d⟩
abbrev s(l:List n_)(k:IC):IC:=.f (.o l) k
abbrev zK:List V:=[.C .u8 0,.f [],.f [],.j,.f [],.j,.C .i64 0,.h false,.C .i64 0]
abbrev zE:List V:=[.C .u64 0,.C .u8 0,.f [],.j,.C .i64 0,.h false]
abbrev zO:List V:=[.C .u8 0,.C .i64 0,.C .i64 0,.C .i64 0,.j]
abbrev zN:List V:=[.C .u8 0,.f [],.f [],.j,.f [],.j]
abbrev zI:List V:=[.C .u64 0,.C .u8 0,.f [],.j]
abbrev r(v:Nat)(l:List n_):IC:=.e (.v v) (.f (.o l) .p) .i
abbrev ad:PK:=.h .add
abbrev su:PK:=.h .sub
abbrev mu:PK:=.h .mul
abbrev eq:PK:=.h .eql
abbrev ne:PK:=.h .neq
abbrev lt:PK:=.h .lss
abbrev gt:PK:=.h .gtr
abbrev le:PK:=.h .leq
abbrev ge:PK:=.h .geq
abbrev P(k:Nat):n_:=⟨none,.p .p [.l k,.c (.h true),.l 0],none⟩
abbrev Q(k:Nat):n_:=⟨none,.p .p [.l k,.l 0,.c (.h false)],none⟩
abbrev v(k:Nat):n_:=⟨none,.p .e [.v k],none⟩
abbrev k:n_:=⟨none,.p .e [.l 0],none⟩
abbrev l:Q_:=.a 1 false (.l 0)
abbrev d(k j:Nat):n_:=⟨none,.a k true (.l j),none⟩
abbrev D(k j:Nat):n_:=⟨none,.a k true (.v j),none⟩
abbrev ls:n_:=⟨none,.p .d [.l 0],none⟩
abbrev lv(k:Nat):n_:=⟨none,.p .d [.v k],none⟩
abbrev S(k j:Nat):n_:=⟨none,.g k (.v j) (.l 0),none⟩
abbrev w(k:Nat):n_:=⟨none,.g k (.l 0) (.l 1),none⟩
abbrev al(z:List V)(d:Nat):n_:=⟨none,.d z,some d⟩
abbrev bx(k d:Nat):n_:=⟨none,.r (.v k),some d⟩
abbrev x(k n:Nat):IC:=.e (.v k) .i (.k n)
abbrev I(k:Nat):IC:=.o [m (.v k),p ad [.l 0,i 1],o (.l 0) k]
abbrev J(k:Nat):IC:=.o [p ad [.v k,i 1],o (.l 0) k]
abbrev ds(l:List n_)(r:List (Nat×Nat×Nat))(t:List (Nat×Nat)):IC:=.h l [] [] r t
abbrev lp(n k:Nat)(l:List n_)(c b i:IC):IC:=.d n (.n (.f (.f (.o l) c) (.f (.d k b) i)))
abbrev zH:List V:=[.C .u64 0,.C .i64 0]
abbrev fv(j:Nat)(k:PK)(y:List G_):n_:=⟨some (.v j,false),.p k y,none⟩
abbrev tv(j:Nat)(k:PK)(y:List G_):n_:=⟨some (.v j,true),.p k y,none⟩
abbrev gv(j:Nat)(o:Q_):n_:=⟨some (.v j,false),o,none⟩
abbrev hv(j:Nat)(o:Q_):n_:=⟨some (.v j,true),o,none⟩
abbrev Y:G_:=.l 0
abbrev O:G_:=.c (.C .i64 0)
abbrev U:List G_:=[.l 0]
abbrev B(k:Nat):List G_:=[.l k,.l 0]
abbrev O1(d:Nat):n_:=⟨none,.p .o [.l 0],some d⟩
abbrev O0(d:Nat):n_:=⟨none,.p .o [.c (.C .i64 0)],some d⟩
abbrev On(d:Nat):n_:=⟨none,.p .o [.c .j],some d⟩
abbrev Of(d:Nat):n_:=⟨none,.p .o [.c (.h false)],some d⟩
abbrev mv(k:Nat):n_:=⟨none,.p .o [.v k],none⟩
abbrev yv(j k:Nat):n_:=⟨some (.l j,false),.p .o [.v k],none⟩
abbrev zv(j k:Nat):n_:=⟨some (.l j,true),.p .o [.v k],none⟩
end Go.Ev.Ab
namespace Go.Ev
abbrev Vk:=@Go.Ev.Fr.bG
abbrev Vn:=@Go.Ev.Fr.P
abbrev VJ:=@Go.Ev.o_.fr
abbrev VL:=@Go.Ev.Fr.aQ
abbrev Wi:=@Go.Ev.f_.bB
abbrev Wj:=@Go.Ev.Sl.O
abbrev Wy:=@Go.Ev.Sl.ca
abbrev XP:=@Go.Ev.Q6.b
abbrev Yj:=@Go.Ev.o_.ix
abbrev Yo:=@Go.Ev.o_.D_
abbrev Yu:=@Go.Ev.T5.O
abbrev YE:=@Go.Ev.Q6.c
abbrev YT:=@Go.Ev.Gs.sl
abbrev YY:=@Go.Ev.o_.M
end Go.Ev
namespace Go.Ev
abbrev ZZ(n:Int):V:=.C .i64 n
abbrev ZY(n:Int):V:=.C .u8 n
abbrev ZX(n:Int):V:=.C .u64 n
end Go.Ev
