/- An evaluator of the program, and contracts over it: EvWb to LayAb. -/
import Derived.Test.YtknldhlnhobdhaaGreatDoorP03
set_option linter.unusedSimpArgs false
set_option linter.unusedVariables false
set_option linter.constructorNameAsVariable false
set_option linter.unnecessarySimpa false
namespace Go.Ev
theorem bR(k:IntKind):kX k k=true:=by simp[kX]
theorem wY(x:V):aP .o [x]=some x:=rfl
theorem Di(c:Bool)(a b:V):aP .r [.h c,a,b]=some (bif c then a else b):=rfl
theorem uR(b o:Nat):aP .h [.u b o]=some (.u b o):=rfl
theorem wV(f:Nat)(x y:List V):aP .h [.E (.func f) x y]=some (.E (.func f) x y):=rfl
theorem Cd(k:IntKind)(a b:Int):aP (.e .add) [.A k a,.A k b]=some (.A k (bP k (a+b))):=by simp only[aP,bR,cond_true,jz];rfl
theorem yG(k:IntKind)(a b:Int):aP (.e .sub) [.A k a,.A k b]=some (.A k (bP k (a-b))):=by simp only[aP,bR,cond_true,jz];rfl
theorem Cb(k:IntKind)(a b:Int):aP (.e .mul) [.A k a,.A k b]=some (.A k (bP k (a*b))):=by simp only[aP,bR,cond_true,jz];rfl
theorem qL(k:IntKind)(a b:Int)(h:b≠0):aP (.e .quo) [.A k a,.A k b]=some (.A k (bP k (a.tdiv b))):=by
 have:s? b 0=false:=by rw[ew];simpa using h
 simp[aP,bR,cond_true,jz,this,cond_false]
theorem jD(k:IntKind)(a b:Int)(h:b≠0):aP (.e .rem) [.A k a,.A k b]=some (.A k (a.tmod b)):=by
 have:s? b 0=false:=by rw[ew];simpa using h
 simp[aP,bR,cond_true,jz,this,cond_false]
theorem yH(k:IntKind)(a b:Int):aP (.e .eql) [.A k a,.A k b]=some (.h (decide (a=b))):=by simp only[aP,bR,cond_true,jz,ew];rfl
theorem IZ(k:IntKind)(a b:Int):aP (.e .neq) [.A k a,.A k b]=some (.h (!decide (a=b))):=by simp only[aP,bR,cond_true,jz,ew];rfl
theorem I1(k:IntKind)(a b:Int):aP (.e .lss) [.A k a,.A k b]=some (.h (decide (a<b))):=by simp[aP,bR,cond_true,jz,jy]
theorem I4(k:IntKind)(a b:Int):aP (.e .gtr) [.A k a,.A k b]=some (.h (decide (b<a))):=by simp[aP,bR,cond_true,jz,jy]
theorem I3(k:IntKind)(a b:Int):aP (.e .leq) [.A k a,.A k b]=some (.h (decide (a<=b))):=by simp only[aP,bR,cond_true,jz,jy];congr 2;rw[XV];simp
theorem I5(k:IntKind)(a b:Int):aP (.e .geq) [.A k a,.A k b]=some (.h (decide (b<=a))):=by simp only[aP,bR,cond_true,jz,jy];congr 2;rw[XV];simp
theorem IY(b:Bool):aP .u [.h b]=some (.h (!b)):=rfl
theorem Ca(k:IntKind)(n:Int):aP .G [.A k n]=some (.A k (bP k (0-n))):=rfl
theorem I9(a b:Bool):aP (.J false) [.h a,.h b]=some (.h (decide (a=b))):=by cases a<;>cases b<;>rfl
theorem I8(a b:Bool):aP (.J true) [.h a,.h b]=some (.h (!decide (a=b))):=by cases a<;>cases b<;>rfl
theorem jR(off b o:Nat):aP (.b off) [.u b o]=some (.u b (o+off)):=rfl
theorem I6(i:Nat)(l:List V):aP (.v i) [.D l]=X8 l i:=rfl
theorem w8(off n:Nat)(l:List V):aP (.z off n false) [.B l]=X8 l off:=rfl
theorem w4(off n:Nat)(l:List V):aP (.z off n true) [.B l]=(dG n (gC l off)).map .B:=rfl
theorem I0(fn:Fn)(n:Nat)(vs:List V):aP (.A fn n) vs=(dG n vs).map fun f=>.E fn f (gC vs n):=rfl
theorem AQ(zero:List V)(places:List (Nat×Nat))(vs:List V):aP (.a zero places) vs=(dT zero places vs).map .B:=rfl
theorem Mf(k k':IntKind)(a b:Int):aP .K [.A k a,.A k' b]=some (.A k (min a b)):=by simp only[aP,jy];congr 2;by_cases h:b<a;grind;grind
theorem Me(k k':IntKind)(a b:Int):aP .F [.A k a,.A k' b]=some (.A k (max a b)):=by simp only[aP,jy];congr 2;by_cases h:a<b;grind;grind
theorem sj(k k':IntKind)(n:Int):aP (.q k) [.A k' n]=some (.A k (bP k n)):=rfl
theorem Dn:aP .d [.r]=some (.A .i64 0):=rfl
theorem Dm(b o len cap:Nat):aP .d [.y b o len cap]=some (.A .i64 len):=rfl
theorem Dl(b o len cap:Nat):aP .d [.G b o len cap]=some (.A .i64 len):=rfl
theorem Do:aP .d [.L]=some (.A .i64 0):=rfl
theorem wZ(n:Nat)(v:V):aP (.x n) [v]=some (.A .i64 n):=rfl
theorem Dq:aP .y [.r]=some (.A .i64 0):=rfl
theorem Dp(b o len cap:Nat):aP .y [.y b o len cap]=some (.A .i64 cap):=rfl
theorem dh(esz b o len cap:Nat)(k:IntKind)(i:Int)(h0:0<=i)(Z:i<len):aP (.c esz) [.y b o len cap,.A k i]=some (.u b (o+i.toNat*esz)):=by
 obtain⟨n,rfl⟩:∃n:Nat,i=n:=⟨i.toNat,oM⟩;have:Nat.blt n len=true:=by simp;omega
 simp only[aP,lI];show Option.map _ (bif Nat.blt n len then some n else none)=_;rw[this];rfl
theorem lK(esz b o len cap:Nat)(k:IntKind)(i:Int)(h0:0<=i)(Z:i<len):aP (.c esz) [.G b o len cap,.A k i]=some (.u b (o+i.toNat*esz)):=by
 obtain⟨n,rfl⟩:∃n:Nat,i=n:=⟨i.toNat,oM⟩;have:Nat.blt n len=true:=by simp;omega
 simp only[aP,lI];show Option.map _ (bif Nat.blt n len then some n else none)=_;rw[this];rfl
theorem iU(esz b o len:Nat)(k:IntKind)(i:Int)(h0:0<=i)(Z:i<len):aP (.l len esz) [.u b o,.A k i]=some (.u b (o+i.toNat*esz)):=by
 obtain⟨n,rfl⟩:∃n:Nat,i=n:=⟨i.toNat,oM⟩;have:Nat.blt n len=true:=by simp;omega
 simp only[aP,lI];show Option.map _ (bif Nat.blt n len then some n else none)=_;rw[this];rfl
theorem IW(k k':IntKind)(a b:Int)(h:0<=b):aP (.E true) [.A k a,.A k' b]=some (.A k (bP k (a*(2^(min b.toNat k.bits):Nat)))):=by obtain⟨n,rfl⟩:∃n:Nat,b=n:=⟨b.toNat,oM⟩;rfl
theorem B9(k k':IntKind)(a b:Int)(h:0<=b):aP (.E false) [.A k a,.A k' b]=some (.A k (a.fdiv (2^(min b.toNat k.bits):Nat))):=by obtain⟨n,rfl⟩:∃n:Nat,b=n:=⟨b.toNat,oM⟩;rfl
def pv:Option Nat->V
 |none=>.O
 |some b=>.u b 0
theorem jq:pv none=.O:=rfl
theorem aO(b:Nat):pv (some b)=.u b 0:=rfl
theorem gH(o:Option Nat):(pv o).U=true:=by cases o<;>rfl
theorem aF{v:V}(h:v.U=true):v.s=[v]:=by cases v<;>first|rfl|(simp[V.U]at h)
theorem zu(o:Option Nat):(pv o).s=[pv o]:=aF (gH o)
theorem Dk(ne:Bool)(o:Option Nat):aP (.j 0 ne) [pv o,.O]=some (.h (bif ne then o.isSome else o.isNone)):=by cases o<;>cases ne<;>rfl
theorem wW(b o:Nat)(ne:Bool):aP (.j 0 ne) [.u b o,.O]=some (.h ne):=by cases ne<;>rfl
theorem wX(ne:Bool):aP (.j 0 ne) [.O,.O]=some (.h (!ne)):=by cases ne<;>rfl
theorem wU(c:List V):dT c [] []=some c:=rfl
theorem BZ(c:List V)(Z size:Nat)(ps:List (Nat×Nat))(v:V)(vs:List V)(h:v.s.length=size)(h0:0<size):
 dT c ((Z,size)::ps) (v::vs)=(bG c Z v.s).bind fun c'=>dT c' ps vs:=by
 subst h;simp only[dT];have:Nat.blt 0 v.s.length=true:=by simpa[WB]using h0
 rw[this];simp;cases bG c Z v.s<;>rfl
theorem De(c:List V)(Z size:Nat)(ps:List (Nat×Nat))(v:V)(vs:List V):
 dT c ((Z,size)::ps) (v::vs)=if v.s.length=size then if 0<size then(bG c Z v.s).bind fun c'=>dT c' ps vs else none else none:=by
 by_cases h:v.s.length=size;rw[if_pos h];by_cases h0:0<size;rw[if_pos h0,BZ _ _ _ _ _ _ h h0];rw[if_neg h0];have:Nat.blt 0 size=false:=by cases hb:Nat.blt 0 size;rfl;rw[WB]at hb;exact absurd hb h0
 simp[dT,this];rw[if_neg h];have:Nat.beq v.s.length size=false:=by cases hb:Nat.beq v.s.length size;rfl;exact absurd (Wb hb) h
 simp[dT,this]
theorem wK(k:IntKind)(n:Int):(V.A k n).s=[.A k n]:=rfl
theorem uI(b:Bool):(V.h b).s=[.h b]:=rfl
theorem wI(b:List UInt8):(V.f b).s=[.f b]:=rfl
theorem wJ(b o:Nat):(V.u b o).s=[.u b o]:=rfl
theorem uF:V.O.s=[.O]:=rfl
theorem uD:V.r.s=[.r]:=rfl
theorem rF(b o l c:Nat):(V.y b o l c).s=[.y b o l c]:=rfl
theorem pS(b o l c:Nat):(V.G b o l c).s=[.G b o l c]:=rfl
theorem uH(f:Fn)(a b:List V):(V.E f a b).s=[.E f a b]:=rfl
theorem uG:V.R.s=[.R]:=rfl
theorem wL(l:List V):(V.B l).s=l:=rfl
theorem ag(n:Int)(Z:-9223372036854775808<=n)(K:n<=9223372036854775807):bP .i64 n=n:=by rw[dg];simp only[IntKind.wrap,IntKind.bits,IntKind.signed];simp;omega
theorem Ib(n:Int)(Z:0<=n)(K:n<=255):bP .u8 n=n:=by rw[dg];simp only[IntKind.wrap,IntKind.bits,IntKind.signed];simp;omega
theorem bS(n:Int)(Z:0<=n)(K:n<=18446744073709551615):bP .u64 n=n:=by rw[dg];simp only[IntKind.wrap,IntKind.bits,IntKind.signed];simp;omega
def WF(h:a_):Prop:=∀p,h.e<=p->h.S.c_ p=none/\h.Q.c_ p=none
def e_(h:a_)(b:Nat)(c:List V):Prop:=∃f k,h.S.c_ b=some (.a c f k)/\((h.Q.c_ f=none/\f=b)\/∃e,h.Q.c_ f=some (b,e))
theorem e_.uniq{h:a_}{b:Nat}{c c':List V}(a:e_ h b c)(K:e_ h b c'):c=c':=by let⟨f,k,e,_⟩:=a;let⟨f',k',Z,_⟩:=K;rw[e]at Z;cases Z;rfl
theorem e_.lt{h:a_}{b:Nat}{c:List V}(a:e_ h b c)(w:WF h):b<h.e:=by let⟨f,k,e,_⟩:=a;obtain x|x:=WY b h.e;exact x;rw[(w b x).1]at e;cases e
theorem e_.J_{h:a_}{b:Nat}{c:List V}(a:e_ h b c):dR h b=some c:=by let⟨f,k,e,x⟩:=a;simp[dR,e,rd];obtain⟨x,rfl⟩|⟨Z,x⟩:=x;rw[x];rfl;rw[x];simp
theorem e_.j{h:a_}{b:Nat}{c:List V}(a:e_ h b c)(o:Nat):ab h b o=X8 c o:=by simp[ab,a.J_]
theorem e_.N{h:a_}{b:Nat}{c:List V}(a:e_ h b c)(o n:Nat):aj h b o n=dG n (gC c o):=by simp[aj,a.J_]
theorem fE(h:a_)(n b o:Nat):jO h n false (.u b o)=ab h b o:=rfl
theorem oT(h:a_)(n b o:Nat):jO h n true (.u b o)=(aj h b o n).map .B:=rfl
theorem fY(l:List V):gC l 0=l:=by rw[bQ];rfl
theorem um(v:V)(l:List V)(n:Nat):gC (v::l) (n+1)=gC l n:=rfl
def Pl(h:a_)(b:Nat)(c:List V):Prop:=(∃k,h.S.c_ b=some (.a c b k))/\h.Q.c_ b=none
theorem Pl.I{h:a_}{b:Nat}{c:List V}(a:Pl h b c):e_ h b c:=by let⟨⟨k,e⟩,f⟩:=a;exact⟨b,k,e,.inl ⟨f,rfl⟩⟩
def Kv:Y5->Bool
 |.d _ _ _ _ _ _=>true
 |.f _ _=>true
 |_=>false
def Rs(h:a_)(b:Nat)(c:List V):Prop:=∃f k ow,h.S.c_ b=some (.a c f k)/\h.Q.c_ f=some (ow,k)/\h.S.c_ ow=none/\ow<h.e
theorem Rs.set{h:a_}{b:Nat}{c:List V}(r:Rs h b c){Z:Nat}{c0 c1:List V}{K k0 k1:Nat}(e:h.S.c_ Z=some (.a c0 K k0))(x:(h.Q.c_ K=none)\/∃e',h.Q.c_ K=some (Z,e'))(F':T (Nat×Nat))(hF:F'=h.Q\/∃y,F'=h.Q.A_ K y)(n':Nat)(hn:h.e<=n'):
 Rs ⟨h.S.A_ Z (.a c1 K k1),n',F'⟩ b c:=by
 let⟨f,k,ow,e1,e2,e3,e4⟩:=r;have ac:f≠K:=by grind
 have hb:b≠Z:=by grind
 have ho:ow≠Z:=by grind
 refine⟨f,k,ow,?_,?_,?_,by show ow<n';omega⟩;show(h.S.A_ Z _).c_ b=_;rw[We _ _ hb];exact e1;show F'.c_ f=_;obtain rfl|⟨y,rfl⟩:=hF;exact e2;rw[We _ _ ac];exact e2;show(h.S.A_ Z _).c_ ow=_;rw[We _ _ ho];exact e3
theorem Rs.new{h:a_}{b:Nat}{c:List V}(r:Rs h b c)(w:WF h)(k:Y5):Rs ⟨h.S.A_ h.e k,h.e+1,h.Q⟩ b c:=by
 let⟨f,k',ow,Z,e2,K,e4⟩:=r;have hb:b≠h.e:=by rintro rfl;rw[(w _ (VZ _)).1]at Z;cases Z
 refine⟨f,k',ow,?_,e2,?_,by show ow<h.e+1;omega⟩;show(h.S.A_ _ _).c_ b=_;rw[We _ _ hb];exact Z;show(h.S.A_ _ _).c_ ow=_;rw[We _ _ oM];exact K
structure Fr(S:List Nat)(h h':a_):Prop where
 e:h.e<=h'.e
 o:WF h'
 I:∀b c,b∉S->e_ h b c->e_ h' b c
 pl:∀b c,b∉S->Pl h b c->Pl h' b c
 lp:∀b x,Kv x=true->h.S.c_ b=some x->h'.S.c_ b=some x
 ro:∀b c,Rs h b c->Rs h' b c
theorem Fr.refl{S:List Nat}{h:a_}(w:WF h):Fr S h h:=⟨VZ _,w,fun _ _ _ x=>x,fun _ _ _ x=>x,fun _ _ _ x=>x,fun _ _ x=>x⟩
theorem Fr.trans{S S' T:List Nat}{h h1 h2:a_}(a:Fr S h h1)(b:Fr S' h1 h2)(w:WF h)(hs:∀x,x∈S→x∈T∨h.e≤x)(hs':∀x,x∈S'→x∈T∨h.e≤x):Fr T h h2 where
 e:=Nat.le_trans a.e b.e
 o:=b.o
 lp:=fun x k hk o=>b.lp x k hk (a.lp x k hk o)
 ro:=fun x c r=>b.ro x c (a.ro x c r)
 I:=fun x c hx o=>by have:=o.lt w;refine b.I x c (fun m=>?_) (a.I x c (fun m=>?_) o);grind;grind
 pl:=fun x c hx o=>by have:=o.I.lt w;refine b.pl x c (fun m=>?_) (a.pl x c (fun m=>?_) o);grind;grind
theorem Fr.c{h h1 h2:a_}(a:Fr [] h h1)(b:Fr [] h1 h2):Fr [] h h2 where
 e:=Nat.le_trans a.e b.e
 o:=b.o
 lp:=fun x k hk o=>b.lp x k hk (a.lp x k hk o)
 ro:=fun x c r=>b.ro x c (a.ro x c r)
 I:=fun x c _ o=>b.I x c iS (a.I x c iS o)
 pl:=fun x c _ o=>b.pl x c iS (a.pl x c iS o)
theorem Fr.i{h h':a_}(a:Fr [] h h'){b:Nat}{c:List V}(o:e_ h b c):e_ h' b c:=a.I b c iS o
theorem WF.a{h:a_}(w:WF h)(c:List V):WF (h_ h c):=by intro p Z;have K:h.e+1<=p:=Z;have:=w p oM;exact⟨by show(h.S.A_ _ _).c_ p=none;rw[We _ _ oM];exact this.1,this.2⟩
theorem e_.new{h:a_}(w:WF h)(c:List V):e_ (h_ h c) h.e c:=
 ⟨h.e,0,WI _ _ _,.inl ⟨(w h.e (VZ _)).2,rfl⟩⟩
theorem e_.halloc{h:a_}{b:Nat}{c:List V}(o:e_ h b c)(w:WF h)(d:List V):e_ (h_ h d) b c:=by have:=o.lt w;let⟨f,k,e,x⟩:=o;exact⟨f,k,by show(h.S.A_ _ _).c_ b=_;rw[We _ _ oM];exact e,x⟩
theorem Fr.halloc{h:a_}(w:WF h)(c:List V):Fr [] h (h_ h c):=⟨ZB _,w.a c,fun _ _ _ o=>o.halloc w c,fun b d _ o=>by
 have:=o.I.lt w;let⟨⟨k,e⟩,f⟩:=o;exact⟨⟨k,by show(h.S.A_ _ _).c_ b=_;rw[We _ _ oM];exact e⟩,f⟩,fun b x _ e=>by
 have:b≠h.e:=by rintro rfl;rw[(w _ (VZ _)).1]at e;cases e
 show(h.S.A_ _ _).c_ b=_;rw[We _ _ this];exact e,fun b x r=>r.new w _⟩
theorem kZ(h:a_)(c:List V):(Ev.h_ h c).e=h.e+1:=rfl
theorem aq{h:a_}(w:WF h)(c:List V):∃h1,h1=Ev.h_ h c/\Fr [] h h1/\e_ h1 h.e c:=⟨_,rfl,Fr.halloc w c,e_.new w c⟩
theorem x_{h Z:a_}{c:List V}(e:Z=Ev.h_ h c):Z.e=h.e+1:=by rw[e];rfl
attribute [simp] Xr
theorem ig{h:a_}{b o:Nat}{c c' vs:List V}(w:WF h)(a:e_ h b c)(h1:aw vs=true)(hu:bG c o vs=some c'):
 ∃h',dy h b o vs=some h'/\e_ h' b c'/\Fr [b] h h'/\h'.e=h.e:=by
 have hb:=a.lt w;let⟨f,k,e,x⟩:=a;simp[dy,e,h1,hu];obtain⟨x,rfl⟩|⟨e',x⟩:=x;rw[x];refine⟨_,rfl,⟨f,k,WI _ _ _,.inl ⟨x,rfl⟩⟩,⟨VZ _,?_,?_,?_,fun q y hy ey=>by
  have:q≠f:=by intro eq;rw[eq,e]at ey;cases ey;cases hy
  show(h.S.A_ _ _).c_ q=_;rw[We _ _ this];exact ey,fun q y r=>r.set e (.inl x) _ (.inl rfl) _ (VZ _)⟩,rfl⟩
 intro p hp;have ac:h.e<=p:=hp;have:=w p ac;exact⟨by show(h.S.A_ _ _).c_ p=none;rw[We _ _ oM];exact this.1,this.2⟩;rintro q d Z ⟨f1,K,e1,x1⟩;simp at Z;exact⟨f1,K,by show(h.S.A_ _ _).c_ q=_;rw[We _ _ Z];exact e1,x1⟩;rintro q d Z ⟨⟨K,e1⟩,x1⟩;simp at Z;exact⟨⟨K,by show(h.S.A_ _ _).c_ q=_;rw[We _ _ Z];exact e1⟩,x1⟩;rw[x];simp only[XU,cond_true];refine⟨_,rfl,⟨f,k,WI _ _ _,.inr ⟨e'+1,WI _ _ _⟩⟩,⟨VZ _,?_,?_,?_,fun q y hy ey=>by
  have:q≠b:=by intro eq;rw[eq,e]at ey;cases ey;cases hy
  show(h.S.A_ _ _).c_ q=_;rw[We _ _ this];exact ey,fun q y r=>r.set e (.inr ⟨_,x⟩) _ (.inr ⟨_,rfl⟩) _ (VZ _)⟩,rfl⟩
 intro p hp;have ac:h.e<=p:=hp;have:=w p ac;refine⟨by show(h.S.A_ _ _).c_ p=none;rw[We _ _ oM];exact this.1,?_⟩;show(h.Q.A_ _ _).c_ p=none;by_cases ae:p=f;grind;rw[We _ _ ae];exact this.2;rintro q d Z ⟨f1,K,e1,x1⟩;simp at Z;refine⟨f1,K,by show(h.S.A_ _ _).c_ q=_;rw[We _ _ Z];exact e1,?_⟩;have hf:f1≠f:=by grind
 show((h.Q.A_ f (b,e'+1)).c_ f1=none/\_)\/∃e,(h.Q.A_ f (b,e'+1)).c_ f1=some (q,e);rw[We _ _ hf];exact x1;rintro q d Z ⟨⟨K,e1⟩,x1⟩;simp at Z;refine⟨⟨K,by show(h.S.A_ _ _).c_ q=_;rw[We _ _ Z];exact e1⟩,?_⟩;show(h.Q.A_ f (b,e'+1)).c_ q=none;rw[We _ _ (by rintro rfl;rw[x]at x1;cases x1)];exact x1
theorem BY{h:a_}{n b o:Nat}{v:V}(e:v.s.length=n):iP h n (.u b o) v=dy h b o v.s:=by subst e;simp[iP]
theorem ai{h:a_}{n b o:Nat}{v:V}{c c':List V}{K:V->a_->Prop}(w:WF h)(a:e_ h b c)(e:v.s.length=n)(Z:aw v.s=true)(hu:bG c o v.s=some c')
 (k:∀h',e_ h' b c'->Fr [b] h h'->h'.e=h.e->K (.D []) h'):HQ (iP h n (.u b o) v) K:=by
 let⟨h',e1,o1,f1,n1⟩:=ig w a Z hu;exact⟨h',by rw[BY e];exact e1,k h' o1 f1 n1⟩
theorem sts{h:a_}{n b o:Nat}{v:V}{c c':List V}{K:V->a_->Prop}(w:WF h)(a:e_ h b c)
 (k:∀h',e_ h' b c'->Fr [b] h h'->h'.e=h.e->K (.D []) h') (e:v.s.length=n:=by exact rfl) (h1:aw v.s=true:=by first|exact rfl|simp[aw,V.s,gH, *]) (hu:bG c o v.s=some c':=by exact rfl):HQ (iP h n (.u b o) v) K:=ai w a e h1 hu k
theorem cD:∀(c:List V)(o:Nat)(vs:List V),o+vs.length≤c.length→bG c o vs=some (c.take o++vs++c.drop (o+vs.length))
 |[],o,vs,h=>by
  have:vs=[]:=by cases vs<;>simp at h⊢
  subst this;cases o<;>simp[jE]
 |x::l,0,[],h=>by simp[dK]
 |x::l,0,v::vs,h=>by rw[aY,cD l 0 vs (by simp at h⊢;omega)];simp[Nat.add_comm]
 |x::l,o+1,vs,h=>by rw[bM,cD l o vs (by simp at h⊢;omega)];simp[Nat.succ_add]
theorem fF(c:List V)(o:Nat)(v:V)(h:o<c.length):bG c o [v]=some (c.set o v):=by rw[cD c o [v] oO];congr 1;rw[XL,if_pos h];simp
theorem aB:aw []=true:=rfl
theorem au(v:V)(l:List V):aw (v::l)=(v.U&&aw l):=rfl
theorem bN(c:List V)(n:Nat)(h:n≤c.length):dG n c=some (c.take n):=by
 induction n generalizing c with
 |zero=>simp[nP]
 |succ n ih=>cases c with
  |nil=>simp at h
  |cons x l=>rw[fU,ih l (eV h)];simp
def Sl(h:a_)(esz:Nat)(v:V)(n:Nat)(cs:List V):Prop:=
 cs.length=n*esz/\match v with
 |.r=>n=0
 |.L=>n=0
 |.y b o len cap=>len=n/\n<=cap/\∃c,e_ h b c/\o+n*esz<=c.length/\cs=(c.drop o).take (n*esz)
 |.G b o len e=>len=n/\e=esz/\∃c,e_ h b c/\o+n*esz<=c.length/\cs=(c.drop o).take (n*esz)
 |_=>False
theorem Sl.fr{h h':a_}{esz:Nat}{v:V}{n:Nat}{cs:List V}(a:Sl h esz v n cs)(f:Fr [] h h'):Sl h' esz v n cs:=by
 let⟨hl,a⟩:=a;refine⟨hl,?_⟩;cases v with
 |y b o l k=>let⟨Z,K,c,o,x⟩:=a;exact⟨Z,K,c,f.i o,x⟩
 |G b o l k=>let⟨Z,K,c,o,x⟩:=a;exact⟨Z,K,c,f.i o,x⟩
 |_=>exact a
theorem Sl.t_{h:a_}{esz:Nat}{v:V}{n:Nat}{cs:List V}(a:Sl h esz v n cs):aP .d [v]=some (.A .i64 n):=by
 let⟨Z,a⟩:=a;cases v with
 |y b o l k=>obtain⟨rfl,_⟩:=a;rfl
 |G b o l k=>obtain⟨rfl,_⟩:=a;rfl
 |r=>have a:n=0:=a;subst a;rfl
 |L=>have a:n=0:=a;subst a;rfl
 |_=>exact a.elim
theorem Sl.U{h:a_}{esz:Nat}{v:V}{n:Nat}{cs:List V}(a:Sl h esz v n cs):v.U=true:=by
 let⟨Z,a⟩:=a;cases v with
 |y b o l k=>rfl
 |G b o l k=>rfl
 |r=>rfl
 |L=>rfl
 |_=>exact a.elim
theorem Sl.ix{h:a_}{esz:Nat}{v:V}{n:Nat}{cs:List V}(a:Sl h esz v n cs)(k:IntKind)(i:Int)(h0:0<=i)(h1:i<n):
 ∃b o,aP (.c esz) [v,.A k i]=some (.u b o)/\(∀j,j<esz->ab h b (o+j)=cs[i.toNat*esz+j]?)/\aj h b o esz=some ((cs.drop (i.toNat*esz)).take esz):=by
 let⟨hl,a⟩:=a;obtain⟨m,rfl⟩:∃m:Nat,i=m:=⟨i.toNat,oM⟩;have hm:m<n:=oM;have ac:m*esz+esz<=n*esz:=by rw[<-Yq];exact WW _ hm
 have K:∀(b o:Nat)(c:List V),e_ h b c->o+n*esz<=c.length->cs=(c.drop o).take (n*esz)->
  (∀j,j<esz->ab h b (o+m*esz+j)=cs[m*esz+j]?)/\aj h b (o+m*esz) esz=some ((cs.drop (m*esz)).take esz):=by
  intro b o c hc Z e;subst e;constructor;intro j hj;rw[hc.j,eZ,XW,if_pos oM,Xk];congr 1;omega;rw[hc.N,bQ,bN _ _ oO,ZM,Xx,Yu];congr 2;omega
 cases v with
 |y b o l q=>obtain⟨rfl,_,c,hc,Z,e⟩:=a;exact⟨b,o+m*esz,dh _ _ _ _ _ _ _ h0 h1,K b o c hc Z e⟩
 |G b o l q=>obtain⟨rfl,rfl,c,hc,Z,e⟩:=a;exact⟨b,o+m*q,lK _ _ _ _ _ _ _ h0 h1,K b o c hc Z e⟩
 |r=>have a:n=0:=a;omega
 |L=>have a:n=0:=a;omega
 |_=>exact a.elim
section
variable {call : aI} {env : T V} {h : a_} {loc : List V}
def EQ(o:Option (T V))(K:T V->Prop):Prop:=∃en,o=some en/\K en
theorem DJ(en:T V)(K:T V->Prop):EQ (some en) K↔K en:=⟨fun⟨_,x,k⟩=>by cases x;exact k,fun k=>⟨en,rfl,k⟩⟩
def HdQ(hs:List a_)(K:a_->Prop):Prop:=match hs with
 |[]=>False
 |h::_=>K h
theorem AV(hs:List a_)(K:a_->Prop):HdQ (h::hs) K↔K h:=Yc
theorem NS(l:List n_)(Z:List (Nat×Nat×Nat))(K:List (Nat×Nat))(Q:T V->a_->Prop)(hs:List a_):DE call l Z K env Q loc hs↔
 Z.all (nU call env l loc hs)=true/\EQ (jn l.length loc K env) fun env'=>HdQ hs fun h'=>Q env' h':=by
 simp only[DE,EQ];constructor;rintro⟨a,env',h',ac,e,rfl,q⟩;exact⟨a,env',e,q⟩;rintro⟨a,env',e,q⟩;cases hs with
 |nil=>exact q.elim
 |cons h' ac=>exact⟨a,env',h',ac,e,rfl,q⟩
def GR(o:Option V)(want:Bool)(A:Prop):Prop:=match o with
 |some (.h b)=>if b=want then A else True
 |_=>True
theorem Jz(t:List V)(want:Bool)(A:Prop):GR (some (.D t)) want A↔True:=Yc
theorem DC(b want:Bool)(A:Prop):GR (some (.h b)) want A↔if b=want then A else True:=Yc
def RD(call:aI)(env:T V)(s:Option n_)(loc:List V)(hs:List a_):Prop:=match s,loc with
 |some t,v::l=>(match t.c with
  |none=>gM call l env t.a v hs=true
  |some (x,want)=>GR (E_ l env x) want (gM call l env t.a v hs=true))
 |_,_=>False
theorem OY(o:Q8)(d:Option Nat)(v:V)(l:List V)(hs:List a_):RD call env (some ⟨none,o,d⟩) (v::l) hs↔gM call l env o v hs=true:=Yc
theorem OZ(x:H_)(want:Bool)(o:Q8)(d:Option Nat)(v:V)(l:List V)(hs:List a_):RD call env (some ⟨some (x,want),o,d⟩) (v::l) hs↔GR (E_ l env x) want (gM call l env o v hs=true):=Yc
theorem MA(l:List n_)(K:List a_)(i lo hi:Nat):nU call env l loc K (i,lo,hi)=true↔RD call env l[i]? (loc.drop (l.length-i-1)) ((K.reverse.drop lo).take (hi+1-lo)):=by
 simp[nU];cases l[i]? with
 |none=>simp[RD]
 |some t=>cases loc.drop (l.length-i-1)with
  |nil=>simp[RD]
  |cons v l'=>
   let⟨gd,o,d⟩:=t;cases gd with
   |none=>simp[RD,V6]
   |some g=>
    let⟨x,Z⟩:=g;simp only[RD,V6,GR];cases E_ l' env x with
    |none=>simp
    |some b=>
     cases b with
     |h b=>cases b<;>cases Z<;>simp
     |_=>simp
def Cj(call:aI)(env:T V)(l:List n_)(loc:List V)(hs:List a_):List (Nat×Nat×Nat)->Prop
 |[]=>True
 |(i,lo,hi)::rs=>RD call env l[i]? (loc.drop (l.length-i-1)) ((hs.reverse.drop lo).take (hi+1-lo))/\Cj call env l loc hs rs
theorem AS(l:List n_)(hs:List a_):Cj call env l loc hs []↔True:=Yc
theorem qN(l:List n_)(hs:List a_)(i lo hi:Nat)(rs:List (Nat×Nat×Nat)):Cj call env l loc hs ((i,lo,hi)::rs)↔
 RD call env l[i]? (loc.drop (l.length-i-1)) ((hs.reverse.drop lo).take (hi+1-lo))/\Cj call env l loc hs rs:=Yc
theorem uS{l:List n_}{hs:List a_}:∀{rs:List (Nat×Nat×Nat)},rs.all (nU call env l loc hs)=true↔Cj call env l loc hs rs
 |[]=>by simp[Cj]
 |(i,lo,hi)::rs=>by simp[MA,qN,uS (rs:=rs)]
def DF(call:aI)(l:List n_)(reads:List (Nat×Nat×Nat))(sets:List (Nat×Nat))(env:T V)(Q:T V->a_->Prop)(loc:List V)(hs:List a_):Prop:=
 Cj call env l loc hs reads/\EQ (jn l.length loc sets env) fun env'=>HdQ hs fun h'=>Q env' h'
theorem WD.a{l:List DS}{Z:List a_}{K K':List V->List a_->Prop}(a:WD call env l loc Z h K)(b:∀x y,K x y->K' x y):WD call env l loc Z h K':=by let⟨x,y,e,k⟩:=a;exact⟨x,y,e,b _ _ k⟩
def NO(o:Option (List DS×a_))(K:List DS->a_->Prop):Prop:=∃l h,o=some (l,h)/\K l h
theorem jT(l:List DS)(h:a_)(K:List DS->a_->Prop):NO (some (l,h)) K↔K l h:=
 ⟨fun⟨_,_,e,k⟩=>by cases e;exact k,fun k=>⟨_,_,rfl,k⟩⟩
theorem Fv(l:List n_)(ac R:List Nat)(Z:List (Nat×Nat×Nat))(K:List (Nat×Nat))(Q:Ex->T V->a_->Prop):
 W call (.i l ac R Z K) env h Q↔NO (Q7 call env ac l 0 [] h) fun dl h1=>WD call env dl [] [h1] h1 (DF call l Z K env (Q .a)):=by
 constructor;rintro⟨e,af,h',x,q⟩;have x:evD call l ac Z K env h=.b e af h':=x;unfold evD at x;split at x;cases x;rename_i dl h1 hl;refine⟨dl,h1,hl,?_⟩;split at x;rename_i ae hs hd;refine⟨ae,hs,hd,?_⟩;cases ha:Z.all (nU call env l ae hs);grind;rw[ha]at x;simp at x;split at x;rename_i an h2 ar ak;cases x;exact⟨uS.1 ha,_,ak,q⟩;cases x;cases x;rintro⟨dl,h1,hl,x⟩;refine Lf _ _ _ _ _ _ hl (x.a ?_);rintro ae hs ⟨a,b⟩;exact(NS _ _ _ _ _).2 ⟨uS.2 a,b⟩
theorem W_d(l:List n_)(R:List Nat)(Z:List (Nat×Nat×Nat))(K:List (Nat×Nat))(Q:Ex->T V->a_->Prop):
 W call (.i l [] R Z K) env h Q↔WD call env (l.map fun s=>(s,none)) [] [h] h (DF call l Z K env (Q .a)):=by
 rw[Fv,Kl,jT]
def SEv(o:Option V)(K:V->Option (T V)):Option (T V):=match o with
 |some v=>K v
 |none=>none
theorem AR(v:V)(K:V->Option (T V)):SEv (some v) K=K v:=rfl
theorem Cu(n s i:Nat)(r:List (Nat×Nat)):jn n loc ((s,i)::r) env=SEv (X8 loc (n-i-1)) fun v=>jn n loc r (env.A_ s v):=by rw[Ba];unfold SEv;cases X8 loc (n-i-1)<;>rfl
end
theorem bU(k:IntKind)(i:Int)(y:Nat)(h0:0<=i)(Z:i<=y):cQ (.A k i) y=some i.toNat:=by obtain⟨n,rfl⟩:∃n:Nat,i=n:=⟨i.toNat,oM⟩;have:Nat.ble n y=true:=(Yg ..).mpr oM;show(bif Nat.ble n y then some n else none)=_;rw[this];rfl
theorem fC{a b:Nat}(h:a≠b):Nat.beq a b=false:=by cases Z:Nat.beq a b;rfl;exact absurd (Wb Z) h
theorem lF{a b:Nat}(h:a=b):Nat.beq a b=true:=by subst h;simp
theorem IK{a b:Nat}(h:¬a<b):Nat.blt a b=false:=by cases Z:Nat.blt a b;rfl;exact absurd ((WB ..).mp Z) h
theorem BU{a b:Nat}(h:¬a<=b):Nat.ble a b=false:=by cases Z:Nat.ble a b;rfl;exact absurd ((Yg ..).mp Z) h
theorem Sl.part{h:a_}{esz:Nat}{v:V}{n:Nat}{cs:List V}(a:Sl h esz v n cs)(he:0<esz)(hv:v≠.L)(lo hi:Bool)(bs:List V)(l u:Nat)(hu:u<=n)(hl:l<=u)
 (hb:∀y,n<=y->aZ n y lo hi false bs=some (l,u,none)):
 ∃v',aP (.s none esz lo hi false) (v::bs)=some v'/\Sl h esz v' (u-l) ((cs.drop (l*esz)).take ((u-l) *esz)):=by
 let⟨af,a⟩:=a;have hm:l*esz+(u-l) *esz<=n*esz:=by rw[<-Yi];exact WW _ oM
 have Z:((cs.drop (l*esz)).take ((u-l) *esz)).length=(u-l) *esz:=by simp;omega
 have ac:∀(b o:Nat)(c:List V),e_ h b c->o+n*esz<=c.length->cs=(c.drop o).take (n*esz)->
  (cs.drop (l*esz)).take ((u-l) *esz)=(c.drop (o+l*esz)).take ((u-l) *esz):=by
  intro b o c _ af e;subst e;rw[ZM,Xx,Yu];congr 1;omega
 cases v with
 |y b o len cap=>obtain⟨rfl,ae,c,hc,K,e⟩:=a;refine⟨.y b (bif Nat.beq cap l then o else o+l*esz) (u-l) (cap-l),by simp[aP,eJ,hb cap ae],Z,rfl,oM,c,hc,?_⟩;by_cases an:cap=l;grind;rw[fC an];exact⟨by simp;omega,ac b o c hc K e⟩
 |G b o len q=>
  obtain⟨rfl,rfl,c,hc,K,e⟩:=a;have hq:(Nat.beq q q&&Nat.blt 0 q)=true:=by simp[he]
  by_cases h1:l<len;refine⟨.G b (o+l*q) (u-l) q,?_,Z,rfl,rfl,c,hc,oM,ac b o c hc K e⟩;simp only[aP,eJ,hq,cond_true,hb len (VZ _),WN,(WB ..).mpr h1];have ak:u-l=0:=oM;by_cases h2:l=0;subst h2;refine⟨.G b o (u-0) q,?_,Z,rfl,rfl,c,hc,oM,by simpa using ac b o c hc K e⟩;simp only[aP,eJ,hq,cond_true,hb len (VZ _),WN,IK h1,cond_false,(iR:Nat.beq 0 0=true)];refine⟨.L,?_,Z,ak⟩;simp only[aP,eJ,hq,cond_true,hb len (VZ _),WN,IK h1,cond_false,fC h2]
 |r=>have a:n=0:=a;subst a;refine⟨.r,?_,Z,oM⟩;simp[aP,eJ,hb 0 (VZ _)]
 |L=>exact absurd rfl hv
 |_=>exact a.elim
theorem Sl.ne{h:a_}{esz:Nat}{v:V}{n:Nat}{cs:List V}(a:Sl h esz v n cs)(Z:0<n):v≠.L:=by rintro rfl;have:n=0:=a.2;omega
theorem Sl.from'{h:a_}{esz:Nat}{v:V}{n:Nat}{cs:List V}(a:Sl h esz v n cs)(K:0<esz)(hv:v≠.L)(k:IntKind)(i:Int)(h0:0<=i)(Z:i<=n):
 ∃v',aP (.s none esz true false false) [v,.A k i]=some v'/\Sl h esz v' (n-i.toNat) (cs.drop (i.toNat*esz)):=by
 let⟨v',e,s⟩:=a.part K hv true false [.A k i] i.toNat n (VZ _) oM (fun y _=>by simp[aZ,bU k i n h0 Z]);refine⟨v',e,?_⟩;have hm:i.toNat*esz+(n-i.toNat) *esz=n*esz:=by rw[<-Yi];congr 1;omega
 rwa[Wj (by simp[a.1];omega)]at s
theorem Sl.upto{h:a_}{esz:Nat}{v:V}{n:Nat}{cs:List V}(a:Sl h esz v n cs)(Z:0<esz)(hv:v≠.L)(k:IntKind)(i:Int)(h0:0<=i)(K:i<=n):
 ∃v',aP (.s none esz false true false) [v,.A k i]=some v'/\Sl h esz v' i.toNat (cs.take (i.toNat*esz)):=by
 let⟨v',e,s⟩:=a.part Z hv false true [.A k i] 0 i.toNat oM oM (fun y hy=>by simp[aZ,bU k i y h0 oM]);exact⟨v',e,by simpa using s⟩
theorem Sl.range{h:a_}{esz:Nat}{v:V}{n:Nat}{cs:List V}(a:Sl h esz v n cs)(Z:0<esz)(hv:v≠.L)(k k':IntKind)(i j:Int)(h0:0<=i)(K:i<=j)(h2:j<=n):
 ∃v',aP (.s none esz true true false) [v,.A k i,.A k' j]=some v'/\Sl h esz v' (j.toNat-i.toNat) ((cs.drop (i.toNat*esz)).take ((j.toNat-i.toNat) *esz)):=by
 let⟨v',e,s⟩:=a.part Z hv true true [.A k i,.A k' j] i.toNat j.toNat oM oM (fun y hy=>by
  simp[aZ,bU k' j y oM oM,bU k i j.toNat h0 oM])
 exact⟨v',e,s⟩
def Gs(h:a_)(B:Nat)(esz:Nat)(v:V)(cs:List V):Prop:=(v=.r/\cs=[])\/∃b n,v=.G b 0 n esz/\cs.length=n*esz/\0<n/\B<=b/\e_ h b cs
theorem Gs.sl{h:a_}{B esz:Nat}{v:V}{cs:List V}{n:Nat}(a:Gs h B esz v cs)(Z:cs.length=n*esz)(K:0<esz):Sl h esz v n cs:=by obtain⟨rfl,rfl⟩|⟨b,m,rfl,hm,_,_,o⟩:=a;refine⟨Z,?_⟩;have:0=n*esz:=Z;obtain h|h:=ZH n;exact h;have:=ZQ h K;omega;have:m=n:=Nat.eq_of_mul_eq_mul_right K oM;subst this;exact⟨Z,rfl,rfl,cs,o,oM,by simp[<-Z]⟩
theorem Gs.U{h:a_}{B esz:Nat}{v:V}{cs:List V}(a:Gs h B esz v cs):v.U=true:=by obtain⟨rfl,rfl⟩|⟨b,m,rfl,_⟩:=a<;>rfl
theorem Gs.fr{h Z:a_}{B esz:Nat}{v:V}{cs:List V}(a:Gs h B esz v cs)(f:Fr [] h Z):Gs Z B esz v cs:=by obtain⟨rfl,rfl⟩|⟨b,m,rfl,K,h2,h3,o⟩:=a;exact .inl ⟨rfl,rfl⟩;exact .inr ⟨b,m,rfl,K,h2,h3,f.i o⟩
structure Up(B:Nat)(h h':a_):Prop where
 a:h.e<=h'.e
 j:WF h'
 d:∀b c,b<B->e_ h b c->e_ h' b c
 g:∀b c,b<B->Pl h b c->Pl h' b c
 e:∀b x,Kv x=true->h.S.c_ b=some x->h'.S.c_ b=some x
 i:∀b c,Rs h b c->Rs h' b c
theorem Fr.up{S:List Nat}{h h':a_}{B:Nat}(f:Fr S h h')(hs:∀x∈S,B<=x):Up B h h':=
 ⟨f.e,f.o,fun b c hb o=>f.I b c (fun m=>by have:=hs b m;omega) o,fun b c hb o=>f.pl b c (fun m=>by have:=hs b m;omega) o,f.lp,f.ro⟩
theorem Fr.ups{h0 h h':a_}(f:Fr [] h0 h)(w:WF h0)(u:Up h0.e h h'):Fr [] h0 h':=
 ⟨Wy f.e u.a,u.j,fun b c _ o=>u.d b c (o.lt w) (f.i o),fun b c _ o=>u.g b c (o.I.lt w) (f.pl b c iS o),fun b x hx o=>u.e b x hx (f.lp b x hx o),fun b c r=>u.i b c (f.ro b c r)⟩
theorem Up.c{B:Nat}{h:a_}(w:WF h):Up B h h:=⟨VZ _,w,fun _ _ _ o=>o,fun _ _ _ o=>o,fun _ _ _ o=>o,fun _ _ o=>o⟩
theorem Up.b{B:Nat}{h h1 h2:a_}(a:Up B h h1)(b:Up B h1 h2):Up B h h2:=
 ⟨Wy a.a b.a,b.j,fun x c hx o=>b.d x c hx (a.d x c hx o),fun x c hx o=>b.g x c hx (a.g x c hx o),fun x k hk o=>b.e x k hk (a.e x k hk o),fun x c r=>b.i x c (a.i x c r)⟩
theorem Fr.z{h h1 h2:a_}{b:Nat}(a:Fr [] h h1)(c:Fr [b] h1 h2)(w:WF h)(hb:h.e<=b):Fr [] h h2:=
 a.trans c w iS (by simp;exact hb)
theorem wc{h:a_}{b pos:Nat}{c c':List V}(w:WF h)(a:e_ h b c):∃h',oJ h b pos c'=some h'/\e_ h' h.e c'/\Fr [b] h h':=by
 have hb:=a.lt w;let⟨f,k,e,x⟩:=a;have hf:f<h.e:=by obtain⟨_,rfl⟩|⟨e',x⟩:=x;exact hb;obtain y|y:=WY f h.e;exact y;rw[(w f y).2]at x;cases x
 have go:∀(e0 e1:Nat),(h.Q.c_ f=none/\f=b\/∃e,h.Q.c_ f=some (b,e))->
  e_ ⟨(h.S.A_ b (.a c f e0)).A_ h.e (.a c' f 0),h.e+1,h.Q.A_ f (h.e,e1)⟩ h.e c'/\
  Fr [b] h ⟨(h.S.A_ b (.a c f e0)).A_ h.e (.a c' f 0),h.e+1,h.Q.A_ f (h.e,e1)⟩:=by
  intro e0 e1 x;refine⟨⟨f,0,WI _ _ _,.inr ⟨e1,WI _ _ _⟩⟩,⟨ZB _,?_,?_,?_,fun q y hy ey=>by
   have h1:q≠b:=by intro eq;rw[eq,e]at ey;cases ey;cases hy
   have h2:q≠h.e:=by rintro rfl;rw[(w _ (VZ _)).1]at ey;cases ey
   show((h.S.A_ b _).A_ h.e _).c_ q=_;rw[We _ _ h2,We _ _ h1];exact ey,fun q y r=>by
   have r1:Rs ⟨h.S.A_ b (.a c f e0),h.e,h.Q.A_ f (h.e,e1)⟩ q y:=r.set e (by obtain⟨x,_⟩|x:=x;exact .inl x;exact .inr x) _ (.inr ⟨_,rfl⟩) _ (VZ _)
   let⟨f',k',ow,p1,p2,p3,p4⟩:=r1;have ac:(h.S.A_ b (.a c f e0)).c_ q=some (.a y f' k'):=p1;have ak:ow<h.e:=p4;have Z:q≠h.e:=by rintro rfl;rw[We _ _ oM,(w _ (VZ _)).1]at ac;cases ac
   refine⟨f',k',ow,?_,p2,?_,by show ow<h.e+1;omega⟩;show((h.S.A_ b _).A_ h.e _).c_ q=_;rw[We _ _ Z];exact p1;show((h.S.A_ b _).A_ h.e _).c_ ow=_;rw[We _ _ oM];exact p3⟩⟩
  intro p hp;have an:h.e+1<=p:=hp;have:=w p oM;refine⟨?_,?_⟩;show((h.S.A_ b _).A_ h.e _).c_ p=none;rw[We _ _ oM,We _ _ oM];exact this.1;show(h.Q.A_ f _).c_ p=none;rw[We _ _ oM];exact this.2;rintro q d Z o;have af:=o.lt w;let⟨f1,k1,e2,x1⟩:=o;simp at Z;refine⟨f1,k1,?_,?_⟩;show((h.S.A_ b _).A_ h.e _).c_ q=_;rw[We _ _ oM,We _ _ Z];exact e2;have ae:f1≠f:=by rintro rfl;obtain⟨K,xb⟩|⟨e',K⟩:=x;obtain⟨_,y⟩|⟨e3,y⟩:=x1;exact Z (y.symm.trans xb);rw[K]at y;cases y;obtain⟨y,_⟩|⟨e3,y⟩:=x1;rw[K]at y;cases y;rw[K]at y;cases y;exact Z rfl
  show((h.Q.A_ f _).c_ f1=none/\_)\/∃e,(h.Q.A_ f _).c_ f1=some (q,e);rw[We _ _ ae];exact x1;rintro q d Z o;have af:=o.I.lt w;let⟨⟨k1,e2⟩,x1⟩:=o;simp at Z;refine⟨⟨k1,?_⟩,?_⟩;show((h.S.A_ b _).A_ h.e _).c_ q=_;rw[We _ _ oM,We _ _ Z];exact e2;show(h.Q.A_ f _).c_ q=none;rw[We _ _ ?_];exact x1;rintro rfl;obtain⟨_,xb⟩|⟨e',K⟩:=x;exact Z xb;rw[K]at x1;cases x1
 simp only[oJ,e];obtain⟨x,rfl⟩|⟨e',x⟩:=x;rw[x];exact⟨_,rfl,go _ _ (.inl ⟨x,rfl⟩)⟩;rw[x];simp only[XU,cond_true];exact⟨_,rfl,go _ _ (.inr ⟨e',x⟩)⟩
theorem Sl.srcLen{h:a_}{esz:Nat}{v:V}{n:Nat}{cs:List V}(a:Sl h esz v n cs):Ev.T9 v=some n:=by
 let⟨_,a⟩:=a;cases v with
 |y b o len cap=>obtain⟨rfl,_⟩:=a;rfl
 |G b o len q=>obtain⟨rfl,_⟩:=a;rfl
 |r=>have a:n=0:=a;subst a;rfl
 |L=>have a:n=0:=a;subst a;rfl
 |_=>exact a.elim
theorem Sl.srcCells{h:a_}{esz:Nat}{v:V}{n:Nat}{cs:List V}(a:Sl h esz v n cs):Ev.S1 h esz v n=some cs:=by
 let⟨Z,a⟩:=a;cases v with
 |y b o len cap=>obtain⟨rfl,_,c,hc,K,e⟩:=a;simp[Ev.S1,hc.N,bQ,bN _ _ (oO:len*esz<=(c.drop o).length),e]
 |G b o len q=>obtain⟨rfl,rfl,c,hc,K,e⟩:=a;simp[Ev.S1,hc.N,bQ,bN _ _ (oO:len*q<=(c.drop o).length),e]
 |r=>have a:n=0:=a;subst a;simp at Z;subst Z;rfl
 |L=>have a:n=0:=a;subst a;simp at Z;subst Z;rfl
 |_=>exact a.elim
def vb:V->List Nat
 |.G b _ _ _=>[b]
 |_=>[]
theorem Gs.up{h Z:a_}{B esz:Nat}{v:V}{cs:List V}(a:Gs h B esz v cs)(f:Fr (vb v) h Z):Up B h Z:=by apply f.up;obtain⟨rfl,_⟩|⟨b,m,rfl,_,_,K,_⟩:=a;simp[vb];simpa[vb]using K
theorem Gs.append{h:a_}{B esz bytes:Nat}{v x:V}{cs Z:List V}{n:Nat}(w:WF h)(a:Gs h B esz v cs)(s:Sl h esz x n Z)(he:0<esz)(ho:aw Z=true)(hB:B<=h.e)
 (ac:(2*(cs.length+n)+1024) *bytes<=281474976710656) {K:V->a_->Prop} (k:∀v' h',Gs h' B esz v' (cs++Z)->Fr (vb v) h h'->K v' h'):OQ (jQ h esz bytes v x) K:=by
 unfold jQ;rw[s.srcLen];simp;by_cases hn:n=0;subst hn;have hx:Z=[]:=by have:=s.1;simp at this;exact this
 subst hx;rw[lF rfl,cond_true];have hd:jB v=some (cs.length/esz):=by obtain⟨rfl,rfl⟩|⟨b,m,rfl,hm,_⟩:=a;simp[jB,Ev.T9];simp[jB,Ev.T9,hm,YI _ he]
 rw[hd];exact(cF _ _ _).2 (k v h (eV a) (Fr.refl w));rw[fC hn,cond_false,s.srcCells];simp;obtain⟨rfl,rfl⟩|⟨b,m,rfl,hm,an,hb,o⟩:=a;simp[uP];have:Nat.ble ((2*n+1024) *bytes) 281474976710656=true:=by rw[Yg];simpa using ac
 rw[this,cond_true];refine(cF _ _ _).2 (k _ _ (.inr ⟨h.e,n,rfl,by simpa using s.1,oM,hB,by simpa using e_.new w Z⟩) (Fr.halloc w Z));have af:(2*(m+n)+1024) *bytes<=(2*(cs.length+n)+1024) *bytes:=by
  apply WW _;have:m<=cs.length:=by rw[hm];exact Nat.le_mul_of_pos_right m he
  omega
 have h1:(Nat.beq esz esz&&Nat.ble ((2*(m+n)+1024) *bytes) 281474976710656)=true:=by simp;omega
 simp only[h1,cond_true,o.J_];have ak:(m+n) *esz=m*esz+n*esz:=Yi _ _ _;have ae:0<n*esz:=ZQ oM he;rw[BU (oM:¬0+(m+n) *esz<=cs.length),cond_false];have h2:(Nat.ble (0+m*esz) cs.length&&aw Z)=true:=by simp only[ho,Bool.and_true,Yg];omega
 simp only[h2,cond_true,fY,bN cs (m*esz) oM];let⟨h',e,o',f⟩:=wc (pos:=0+m*esz) (c':=cs.take (m*esz)++Z) w o;rw[e];simp;refine(cF _ _ _).2 (k _ _ (.inr ⟨h.e,m+n,rfl,by simp[s.1];omega,oM,hB,?_⟩) f);rwa[Wj oM]at o'
def CQ(o:Option (List V))(len:Nat)(K:V->a_->Prop)(h:a_):Prop:=∃c,o=some c/\K (.y h.e 0 len len) (h_ h c)
theorem DL(c:List V)(len:Nat)(K:V->a_->Prop)(h:a_):CQ (some c) len K h↔K (.y h.e 0 len len) (h_ h c):=
 ⟨fun⟨_,e,k⟩=>by cases e;exact k,fun k=>⟨c,rfl,k⟩⟩
theorem Df(h:a_)(zero:List V)(Z:List (Nat×Nat))(len:Nat)(vs:List V)(K:V->a_->Prop):OQ (kj h zero Z len vs) K↔CQ (dT (bq zero len) Z vs) len K h:=by
 simp[kj,OQ,CQ];cases dT (bq zero len) Z vs with
 |none=>simp
 |some c=>simp[and_assoc]
theorem gZ(zero:List V):bq zero 0=[]:=rfl
theorem fX(zero:List V)(n:Nat):bq zero (n+1)=zero++bq zero n:=rfl
theorem iC(z:V)(n:Nat):bq [z] n=List.replicate n z:=by
 induction n with
 |zero=>rfl
 |succ n ih=>rw[fX,ih];rfl
theorem Sl.lit{h:a_}{esz:Nat}{b n:Nat}{c:List V}(o:e_ h b c)(hc:c.length=n*esz):Sl h esz (.y b 0 n n) n c:=
 ⟨hc,rfl,VZ _,c,o,oM,by simp[<-hc]⟩
theorem bV(h:a_)(zero:List V)(bytes:Nat)(k k':IntKind)(l c:Int)(K:V->a_->Prop)(h0:0<=l)(h1:l<=c)(h2:c<9223372036854775808)(Z:bytes*c.toNat<=281474976710656):
 OQ (wS h zero bytes (.A k l) (.A k' c)) K↔K (.y h.e 0 l.toNat c.toNat) (h_ h (bq zero c.toNat)):=by
 obtain⟨n,rfl⟩:∃n:Nat,l=n:=⟨l.toNat,oM⟩;obtain⟨m,rfl⟩:∃m:Nat,c=m:=⟨c.toNat,oM⟩;have:(Nat.ble n m&&Nat.blt m 9223372036854775808&&Nat.ble (bytes*m) 281474976710656)=true:=by simp;simp at Z;omega
 show OQ (bif Nat.ble n m&&Nat.blt m 9223372036854775808&&Nat.ble (bytes*m) 281474976710656 then some (.y h.e 0 n m,h_ h (bq zero m))else none) K↔_;rw[this];exact cF _ _ _
section
variable {α : Type} {f : α -> List V} {k : Nat}
theorem aC(hf:∀x,(f x).length=k):∀(L:List α),(L.flatMap f).length=L.length*k
 |[]=>by simp
 |x::L=>by simp[aC hf L,hf,Yq,Yz]
theorem ef(hf:∀x,(f x).length=k):∀(L:List α)(i:Nat),(L.flatMap f).drop (i*k)=(L.drop i).flatMap f
 |L,0=>by simp
 |[],i+1=>by simp
 |x::L,i+1=>by rw[WH,List.drop_succ_cons,<-ef hf L i,Yq,Yz,<-hf x,<-Xx,Ye]
theorem mM(hf:∀x,(f x).length=k):∀(L:List α)(i:Nat),(L.flatMap f).take (i*k)=(L.take i).flatMap f
 |L,0=>by simp
 |[],i+1=>by simp
 |x::L,i+1=>by
  have:(i+1) *k=(f x).length+i*k:=by grind
  rw[List.flatMap_cons,List.take_succ_cons,List.flatMap_cons,this,List.take_append,List.take_of_length_le oM,Nat.add_sub_cancel_left,mM hf L i]
def q_(f:α->List V)(k:Nat)(h:a_)(v:V)(L:List α):Prop:=Sl h k v L.length (L.flatMap f)
theorem q_.fr{h h':a_}{v:V}{L:List α}(a:q_ f k h v L)(r:Fr [] h h'):q_ f k h' v L:=Sl.fr a r
theorem q_.t_{h:a_}{v:V}{L:List α}(a:q_ f k h v L):aP .d [v]=some (.A .i64 L.length):=Sl.t_ a
theorem q_.ix{h:a_}{v:V}{L:List α}(hf:∀x,(f x).length=k)(a:q_ f k h v L)(kd:IntKind)(i:Int)(h0:0<=i)(h1:i<L.length):
 ∃b o x,aP (.c k) [v,.A kd i]=some (.u b o)/\(∀j,j<k->ab h b (o+j)=(f x)[j]?)/\aj h b o k=some (f x)/\L[i.toNat]? =some x:=by
 let⟨b,o,e,g,g2⟩:=Sl.ix a kd i h0 h1;have K:i.toNat<L.length:=oM;have e3:L[i.toNat]? =some L[i.toNat]:=by simp
 have ed:L.drop i.toNat=L[i.toNat]::L.drop (i.toNat+1):=Xf K;refine⟨b,o,L[i.toNat],e,fun j Z=>?_,?_,e3⟩;rw[g j Z,<-Xk,ef hf,ed,WH,XF (by rw[hf];exact Z)];rw[g2,ef hf,ed,WH];have:=hf L[i.toNat];rw[Zw,Wj oM,this];simp
theorem q_.w_{h:a_}:q_ f k h .r []:=⟨iS,rfl⟩
def F_(f:α->List V)(k:Nat)(h:a_)(B:Nat)(v:V)(L:List α):Prop:=Gs h B k v (L.flatMap f)
theorem F_.recs{h:a_}{B:Nat}{v:V}{L:List α}(hf:∀x,(f x).length=k)(hk:0<k)(a:F_ f k h B v L):q_ f k h v L:=Gs.sl a (aC hf L) hk
theorem F_.fr{h h':a_}{B:Nat}{v:V}{L:List α}(a:F_ f k h B v L)(r:Fr [] h h'):F_ f k h' B v L:=Gs.fr a r
theorem F_.U{h:a_}{B:Nat}{v:V}{L:List α}(a:F_ f k h B v L):v.U=true:=Gs.U a
theorem F_.w_{h:a_}{B:Nat}:F_ f k h B .r []:=.inl ⟨rfl,rfl⟩
theorem F_.append{h:a_}{B bytes:Nat}{v:V}{L:List α}{x:α}{b:Nat}(w:WF h)(a:F_ f k h B v L)(hf:∀x,(f x).length=k)(ho:aw (f x)=true)(hk:0<k)(o:e_ h b (f x))(hB:B<=h.e)
 (Z:(2*(L.length*k+1)+1024) *bytes<=281474976710656) {K:V->a_->Prop} (c:∀v' h',F_ f k h' B v' (L++[x])->Fr (vb v) h h'->K v' h'):OQ (jQ h k bytes v (.y b 0 1 1)) K:=by
 refine Gs.append w a (Sl.lit (n:=1) o iX) hk ho hB (by rw[aC hf];exact Z) ?_;intro v' h' g u;refine c v' h' ?_ u;unfold F_;rw[XS];simpa using g
end
def JM(Q:Ex->T V->a_->Prop):Ex->T V->a_->Prop:=fun e env h=>match e with
 |.b _=>False
 |e=>Q e env h
theorem vQ(Q:Ex->T V->a_->Prop)(env:T V)(h:a_):JM Q .a env h↔Q .a env h:=Yc
theorem ze(Q:Ex->T V->a_->Prop)(env:T V)(h:a_):JM Q .d env h↔Q .d env h:=Yc
theorem vS(i:Nat)(Q:Ex->T V->a_->Prop)(env:T V)(h:a_):JM Q (.c i) env h↔Q (.c i) env h:=Yc
theorem Jb{call:aI}{c r:IC}{l:Nat}{env:T V}{h:a_}{Q:Ex->T V->a_->Prop}(x:W call c env h (JM Q)):W call (.j c l r) env h Q:=by
 refine sw (fun _ _ _=>False) 0 oM (x.mono ?_) (fun _ _ _ f=>f.elim);intro e env h q;cases e with
 |b i=>exact q.elim
 |_=>exact q
theorem Ej{p q:Prop}(a:p)(b:q):p/\q:=⟨a,b⟩
set_option linter.defProp false in
set_option maxRecDepth 4000 in
def b_:=Ej @Cg<|Ej @xf<|Ej @Jd<|Ej @Jc<|Ej @xe<|Ej @Ch<|Ej @Du<|Ej @xi<|Ej @fT<|Ej @vx<|Ej @sM<|Ej @sI<|Ej @rH<|Ej @uL<|Ej @rI<|Ej @ju<|Ej @vQ<|Ej @ze<|Ej @vS<|Ej @tq<|Ej @kN<|Ej @qT<|Ej @oQ<|Ej @qM<|Ej @FB<|Ej @FA<|Ej @OS<|Ej @Mg<|Ej @qc<|Ej @Ek<|Ej @mU<|Ej @mR<|Ej @cF<|Ej @Dx<|Ej @CI<|Ej @sA<|Ej @LD<|Ej @Dv<|Ej @LO<|Ej @LL<|Ej @LM<|Ej @DM<|Ej @AY<|Ej @xj<|Ej @AW<|Ej @xr<|Ej @qA<|Ej @qz<|Ej @Dz<|Ej @Dy<|Ej @Jy<|Ej @Jx<|Ej @jS<|Ej @Df<|Ej @DL<|Ej @gZ<|Ej @fX<|Ej @LH<|Ej @LN<|Ej @LJ<|Ej @LK<|Ej @DH<|Ej @LI<|Ej @Hv<|Ej @nD<|Ej @iI<|Ej @wD<|Ej @Io<|Ej @cW<|Ej @fP<|Ej @cC<|Ej @bO<|Ej @cL<|Ej @iw<|Ej @fu<|Ej @T.Q0<|Ej @xn<|Ej @dJ<|Ej @jL<|Ej @qD<|Ej @In<|Ej @wb<|Ej @hJ<|Ej @wa<|Ej @fE<|Ej @oT<|Ej @wY<|Ej @Di<|Ej @uR<|Ej @wV<|Ej @Cd<|Ej @yG<|Ej @Cb<|Ej @yH<|Ej @IZ<|Ej @I1<|Ej @I4<|Ej @I3<|Ej @I5<|Ej @IY<|Ej @Ca<|Ej @I9<|Ej @I8<|Ej @jR<|Ej @I6<|Ej @w8<|Ej @w4<|Ej @I0<|Ej @AQ<|Ej @Mf<|Ej @Me<|Ej @sj<|Ej @Dn<|Ej @Dm<|Ej @Dl<|Ej @Do<|Ej @wZ<|Ej @Dq<|Ej @Dp<|Ej @Dk<|Ej @wW<|Ej @wX<|Ej @zu<|Ej @wK<|Ej @uI<|Ej @wI<|Ej @wJ<|Ej @uF<|Ej @uD<|Ej @rF<|Ej @pS<|Ej @uH<|Ej @uG<|Ej @wL<|Ej @wU<|Ej @De<|Ej @fY<|Ej @um<|Ej @nP<|Ej @fU<|Ej @jE<|Ej @dK<|Ej @aY<|Ej @bM<|Ej @cond_true.{1}<|Ej @cond_false.{1}<|Ej @Nat.zero_lt_one<|Ej @Nat.lt_add_one<|Ej @decide_eq_true_eq<|Ej @Bool.not_true<|Ej @Bool.not_false<|Ej @Bool.false_eq_true<|Ej @Bool.true_eq_false<|Ej @decide_true<|Ej @decide_false<|Ej @eq_self.{1}<|Ej @Option.map_some.{0,0}<|Ej @Option.bind_some.{0,0}<|Ej @Nat.zero_add<|Ej @Nat.add_zero<|Ej @Nat.zero_mul<|Ej @Nat.zero_ne_one<|Ej @Nat.one_ne_zero<|Ej @List.append_nil.{0}<|Ej @List.nil_append.{0}<|Ej @List.cons_append.{0}<|Ej @Option.isSome_some.{0}<|Ej @Option.isSome_none.{0}<|Ej @Option.isNone_some.{0}<|Ej @Option.isNone_none.{0}<|Ej @W_d<|Ej @Je<|Ej @OT<|Ej @OU<|Ej @dD<|Ej @Om<|Ej @Oo<|Ej @DD<|Ej @JA<|Ej @HP<|Ej @AS<|Ej @qN<|Ej @OY<|Ej @OZ<|Ej @DC<|Ej @Jz<|Ej @v8<|Ej @tw<|Ej @eK<|Ej @DJ<|Ej @AV<|Ej @vO<|Ej @Cu<|Ej @AR<|Ej @List.map_cons.{0,0}<|Ej @List.map_nil.{0,0}<|Ej @List.length_cons.{0}<|Ej @List.length_nil.{0}<|Ej @List.drop_succ_cons.{0}<|Ej @List.drop_zero.{0}<|Ej @List.getElem?_cons_succ.{0}<|Ej @List.getElem?_cons_zero.{0}<|Ej @List.reverse_cons.{0}<|Ej @List.reverse_nil.{0}<|Ej @List.take_succ_cons.{0}<|Ej @List.take_zero.{0}<|Ej @and_true<|@true_and
theorem s_{I:Nat->T V->a_->Prop}{k:Nat}{Q:Ex->T V->a_->Prop}{env:T V}{h:a_}(x:∃k',k'<k/\I k' env h):nT I k Q .a env h:=x
theorem B_{h:a_}{n b o:Nat}{v:V}{c c':List V}{K:V->a_->Prop}(w:WF h)(a:e_ h b c)
 (k:∀h',e_ h' b c'->Fr [b] h h'->h'.e=h.e->K (.D []) h') (e:v.s.length=n:=by exact rfl) (h1:aw v.s=true:=by first|exact rfl|simp[aw,V.s,gH, *]) (hu:bG c o v.s=some c':=by simp only[b_];exact rfl):HQ (iP h n (.u b o) v) K:=ai w a e h1 hu k
end Go.Ev
namespace Go.Ev.Lay
theorem pC(p q m M:Nat)(hp:p<256)(hm:m<256):(p+256*q)&&&(m+256*M)=(p&&&m)+256*(q&&&M):=by
 have Z:((p+256*q)&&&(m+256*M))%2^8=(p&&&m):=by rw[Nat.and_mod_two_pow];congr 1<;>omega
 have K:((p+256*q)&&&(m+256*M))/2^8=(q&&&M):=by rw[Nat.and_div_two_pow];congr 1<;>omega
 have:=Nat.div_add_mod ((p+256*q)&&&(m+256*M)) (2^8);rw[Z,K]at this;omega
def R4:List Nat->Nat
 |[]=>0
 |b::l=>b+256*R4 l
def y?(m:Nat)(l:List Nat):Nat:=R4 (l.map fun _=>m)
theorem Pz:∀b,b<256->∀c,c<2->(b/2+128*c)&&&85=(b/2)&&&85:=by decide+kernel
theorem Py:∀b,b<256->∀c,c<4->(b/4+64*c)&&&51=(b/4)&&&51:=by decide+kernel
def f1(b:Nat):Nat:=((b/2)&&&85)+(b&&&85)
def f2(b:Nat):Nat:=((b/4)&&&51)+(b&&&51)
def f3(b:Nat):Nat:=(b/16+b)%16
theorem gQ:∀b,b<256->f1 b<256:=by decide+kernel
theorem gP:∀b,b<256->f2 (f1 b)/16<=4/\f2 (f1 b)%16<=4/\f2 (f1 b)<256:=by decide+kernel
theorem Gw:∀(l:List Nat),(∀b∈l,b<256)→((R4 l/2)&&&y? 85 l)+(R4 l&&&y? 85 l)=R4 (l.map f1)
 |[],_=>rfl
 |b::l,h=>by have hb:=h b iS;have ih:=Gw l fun x hx=>h x iX;have e:(b+256*R4 l)/2=(b/2+128*(R4 l%2))+256*(R4 l/2):=oM;show((b+256*R4 l)/2&&&(85+256*y? 85 l))+((b+256*R4 l)&&&(85+256*y? 85 l))=f1 b+256*R4 (l.map f1);rw[e,pC _ _ _ _ oM oM,pC _ _ _ _ hb oM,Pz b hb _ oM,←ih];unfold f1;omega
theorem Gv:∀(l:List Nat),(∀b∈l,b<256)→((R4 l/4)&&&y? 51 l)+(R4 l&&&y? 51 l)=R4 (l.map f2)
 |[],_=>rfl
 |b::l,h=>by have hb:=h b iS;have ih:=Gv l fun x hx=>h x iX;have e:(b+256*R4 l)/4=(b/4+64*(R4 l%4))+256*(R4 l/4):=oM;show((b+256*R4 l)/4&&&(51+256*y? 51 l))+((b+256*R4 l)&&&(51+256*y? 51 l))=f2 b+256*R4 (l.map f2);rw[e,pC _ _ _ _ oM oM,pC _ _ _ _ hb oM,Py b hb _ oM,←ih];unfold f2;omega
theorem Gu:∀(l:List Nat),(∀b∈l,b/16≤4∧b%16≤4)→((R4 l/16+R4 l)&&&y? 15 l)=R4 (l.map f3)
 |[],_=>rfl
 |b::l,h=>by
  have hb:=h b iS;have ih:=Gu l fun x hx=>h x iX;have hv:R4 l%16≤4:=by
   cases l with
   |nil=>simp[R4]
   |cons c l=>have:=h c iS;simp only[R4];omega
  have e:(b+256*R4 l)/16+(b+256*R4 l)=(b/16+16*(R4 l%16)+b)+256*(R4 l/16+R4 l):=oM;show((b+256*R4 l)/16+(b+256*R4 l))&&&(15+256*y? 15 l)=f3 b+256*R4 (l.map f3);rw[e,pC _ _ _ _ oM oM,ih,(iR:(15:Nat)=2^4-1),Nat.and_two_pow_sub_one_eq_mod];unfold f3;omega
def R8(n x:Nat):Nat:=(List.range n).countP fun j=>x.testBit j
theorem np(b V j:Nat)(Z:b<256):(b+256*V).testBit j=if j<8 then b.testBit j else V.testBit (j-8):=by rw[(oM:b+256*V=2^8*V+b),YN V (eV Z) j]
theorem Ei(b V n:Nat)(K:b<256):R8 (8+n) (b+256*V)=R8 8 b+R8 n V:=by unfold R8;rw[List.range_add,YJ,List.countP_map];congr 1;refine Zn fun j Z=>?_;simp at Z;rw[np _ _ _ K,if_pos Z];refine Zn fun j _=>?_;simp only[Function.comp];rw[np _ _ _ K,if_neg oM];simp
theorem mZ:∀b,b<256->f3 (f2 (f1 b))=R8 8 b/\R8 8 b<=8:=by decide+kernel
theorem CF:∀(l:List Nat),(∀b∈l,b<256)→R8 (8*l.length) (R4 l)=(l.map (R8 8)).sum
 |[],_=>rfl
 |b::l,h=>by have ih:=CF l fun x hx=>h x iX;rw[List.length_cons,(oM:8*(l.length+1)=8+8*l.length),R4,Ei _ _ _ (h b iS),ih];simp
theorem Nn(x:Nat)(h:x<18446744073709551616):∃a b c d e f g i:Nat,a<256/\b<256/\c<256/\d<256/\e<256/\f<256/\g<256/\i<256/\x=R4 [a,b,c,d,e,f,g,i]:=by refine⟨x%256,x/256%256,x/256/256%256,x/256/256/256%256,x/256/256/256/256%256,x/256/256/256/256/256%256,x/256/256/256/256/256/256%256,x/256/256/256/256/256/256/256,oM,oM,oM,oM,oM,oM,oM,oM,?_⟩;simp only[R4];omega
theorem dv(x y k:Nat)(Z:x<k):(x+k*y)/k=y:=by rw[Nat.add_mul_div_left _ _ oM,Nat.div_eq_of_lt Z,WG]
theorem Po(A B C D E F G I:Nat):A+256*(B+256*(C+256*(D+256*(E+256*(F+256*(G+256*(I+256*0)))))))=A+256*(B+256*C+65536*D+16777216*E+4294967296*F+1099511627776*G+281474976710656*I):=by omega
theorem Pn(A B C D E F G I:Nat):A+256*(B+256*C+65536*D+16777216*E+4294967296*F+1099511627776*G+281474976710656*I)+(B+256*C+65536*D+16777216*E+4294967296*F+1099511627776*G+281474976710656*I)=
 ((A+B)+256*(B+C))+65536*((C+D)+256*(D+E)+65536*(E+F)+16777216*(F+G)+4294967296*(G+I)+1099511627776*I):=by omega
theorem Pm(A B C D E F G I:Nat):((A+B)+256*(B+C))+65536*((C+D)+256*(D+E)+65536*(E+F)+16777216*(F+G)+4294967296*(G+I)+1099511627776*I)+((C+D)+256*(D+E)+65536*(E+F)+16777216*(F+G)+4294967296*(G+I)+1099511627776*I)=
 ((A+B+C+D)+256*(B+C+D+E)+65536*(C+D+E+F)+16777216*(D+E+F+G))+4294967296*((E+F+G+I)+256*(F+G+I)+65536*(G+I)+16777216*I):=by omega
theorem Pk(A B C D E F G I:Nat):((A+B+C+D)+256*(B+C+D+E)+65536*(C+D+E+F)+16777216*(D+E+F+G))+4294967296*((E+F+G+I)+256*(F+G+I)+65536*(G+I)+16777216*I)+((E+F+G+I)+256*(F+G+I)+65536*(G+I)+16777216*I)=
 (A+B+C+D+E+F+G+I)+128*(2*((B+C+D+E)+256*(C+D+E+F)+65536*(D+E+F+G)+16777216*((E+F+G+I)+256*(F+G+I)+65536*(G+I)+16777216*I)+(F+G+I)+256*(G+I)+65536*I)):=by omega
theorem OA(A B C D E F G I:Nat)(p0:A<=8)(p1:B<=8)(p2:C<=8)(Z:D<=8)(p4:E<=8)(K:F<=8)(p6:G<=8)(p7:I<=8):
 (A+256*(B+256*(C+256*(D+256*(E+256*(F+256*(G+256*(I+256*0)))))))+(A+256*(B+256*(C+256*(D+256*(E+256*(F+256*(G+256*(I+256*0))))))))/256+
  (A+256*(B+256*(C+256*(D+256*(E+256*(F+256*(G+256*(I+256*0)))))))+(A+256*(B+256*(C+256*(D+256*(E+256*(F+256*(G+256*(I+256*0))))))))/256)/65536+
  (A+256*(B+256*(C+256*(D+256*(E+256*(F+256*(G+256*(I+256*0)))))))+(A+256*(B+256*(C+256*(D+256*(E+256*(F+256*(G+256*(I+256*0))))))))/256+
  (A+256*(B+256*(C+256*(D+256*(E+256*(F+256*(G+256*(I+256*0)))))))+(A+256*(B+256*(C+256*(D+256*(E+256*(F+256*(G+256*(I+256*0))))))))/256)/65536)/4294967296)%128=
  A+(B+(C+(D+(E+(F+(G+(I+0))))))):=by
 rw[Po,dv A _ 256 oM,Pn,dv _ _ 65536 oM,Pm,dv _ _ 4294967296 oM,Pk,Nat.add_mul_mod_self_left,XP oM];omega
theorem Pd(x:Nat)(h:x<18446744073709551616)(y:Nat)(hy:y=((x/2)&&&6148914691236517205)+(x&&&6148914691236517205))(z:Nat)(hz:z=((y/4)&&&3689348814741910323)+(y&&&3689348814741910323))
 (t:Nat) (ht:t=(z/16+z)&&&1085102592571150095):y<18446744073709551616/\z/16+z<18446744073709551616/\z<18446744073709551616/\t<1000000000000000000/\
  ∃u,u=t+t/256/\u<9000000000000000000/\∃v,v=u+u/65536/\v<9100000000000000000/\∃w,w=v+v/4294967296/\w<9200000000000000000/\w%128=R8 64 x:=by
 obtain⟨a,b,c,d,e,f,g,i,ha,K,hc,Z,he,hf,hg,hi,rfl⟩:=Nn x h;have hl:∀q∈[a,b,c,d,e,f,g,i],q<256:=by simp;omega
 have s1:=Gw _ hl;rw[show y? 85 [a,b,c,d,e,f,g,i]=6148914691236517205 by simp[y?,R4],<-hy]at s1;have ae:∀q∈[f1 a,f1 b,f1 c,f1 d,f1 e,f1 f,f1 g,f1 i],q<256:=by simp;exact⟨gQ a ha,gQ b K,gQ c hc,gQ d Z,gQ e he,gQ f hf,gQ g hg,gQ i hi⟩
 have s2:=Gv _ ae;rw[show y? 51 [f1 a,f1 b,f1 c,f1 d,f1 e,f1 f,f1 g,f1 i]=3689348814741910323 by simp[y?,R4]]at s2;simp at s1 s2;rw[<-s1,<-hz]at s2;have ac:∀q∈[f2 (f1 a),f2 (f1 b),f2 (f1 c),f2 (f1 d),f2 (f1 e),f2 (f1 f),f2 (f1 g),f2 (f1 i)],q/16<=4/\q%16<=4:=by simp;have:=gP a ha;have:=gP b K;have:=gP c hc;have:=gP d Z;have:=gP e he;have:=gP f hf;have:=gP g hg;have:=gP i hi;omega
 have s3:=Gu _ ac;rw[show y? 15 [f2 (f1 a),f2 (f1 b),f2 (f1 c),f2 (f1 d),f2 (f1 e),f2 (f1 f),f2 (f1 g),f2 (f1 i)]=1085102592571150095 by simp[y?,R4]]at s3;simp at s3;rw[<-s2,<-ht]at s3;rw[(mZ a ha).1,(mZ b K).1,(mZ c hc).1,(mZ d Z).1,(mZ e he).1,(mZ f hf).1,(mZ g hg).1,(mZ i hi).1]at s3;have hp:=CF _ hl;simp only[Wv,XM,WK,XQ,XH,List.sum_nil,seval]at hp;have p0:=(mZ a ha).2;have p1:=(mZ b K).2;have p2:=(mZ c hc).2;have p3:=(mZ d Z).2;have p4:=(mZ e he).2;have p5:=(mZ f hf).2;have p6:=(mZ g hg).2;have p7:=(mZ i hi).2;have q0:=gQ a ha;have q1:=gQ b K;have q2:=gQ c hc;have q3:=gQ d Z;have q4:=gQ e he;have q5:=gQ f hf;have q6:=gQ g hg;have q7:=gQ i hi;have r0:=gP a ha;have r1:=gP b K;have r2:=gP c hc;have r3:=gP d Z;have r4:=gP e he;have r5:=gP f hf;have r6:=gP g hg;have r7:=gP i hi;rw[hp];simp only[R4]at s1 s2 s3;refine⟨oM,oM,oM,oM,_,rfl,oM,_,rfl,oM,_,rfl,oM,?_⟩;generalize R8 8 a=A at *;generalize R8 8 b=B at *;generalize R8 8 c=C at *;generalize R8 8 d=D at *;generalize R8 8 e=E at *;generalize R8 8 f=F at *;generalize R8 8 g=G at *;generalize R8 8 i=I at *;clear hl ae ac s1 s2 hp hy hz ht q0 q1 q2 q3 q4 q5 q6 q7 r0 r1 r2 r3 r4 r5 r6 r7 h ha K hc Z he hf hg hi;rw[s3];exact OA A B C D E F G I p0 p1 p2 p3 p4 p5 p6 p7
theorem Aw:∀(n:Nat)(l:List Bool),(List.range n).countP (fun j=>l.getD j false)=(l.take n).count true:=by
 intro n;induction n with
 |zero=>intro l;simp
 |succ n ih=>
  intro l;rw[YM,YJ,ih,Wn,YS];congr 1;cases h:l[n]? with
  |none=>simp[h]
  |some b=>cases b<;>simp[h]
theorem pj{x n:Nat}{bs:List Bool}{k:Nat}(K:n<=64)(h:∀j,j<64->x.testBit j=bs.getD (64*k+j) false):R8 n x=((bs.drop (64*k)).take n).count true:=by rw[<-Aw];unfold R8;refine Zn fun j Z=>?_;simp at Z;rw[h j oM];simp
theorem JY{x r:Nat}(K:r<=64):R8 64 ((x*2^(64-r))%18446744073709551616)=R8 r x:=by
 unfold R8;have e:List.range 64=List.range (64-r)++(List.range r).map (fun j=>(64-r)+j):=by rw[<-List.range_add];congr 1;omega
 rw[e,YJ,List.countP_map];have tb:∀j,j<64->((x*2^(64-r))%18446744073709551616).testBit j=(decide (64-r<=j)&&x.testBit (j-(64-r))):=by intro j Z;rw[(iR:(18446744073709551616:Nat)=2^64),Nat.testBit_mod_two_pow,Nat.mul_comm,Nat.testBit_two_pow_mul];simp[Z]
 have z:(List.range (64-r)).countP (fun j=>((x*2^(64-r))%18446744073709551616).testBit j)=0:=by grind
 rw[z,WG];refine Zn fun j Z=>?_;simp at Z;simp only[Function.comp];rw[tb _ oM];simp
def Low(x t:Nat):Prop:=x.testBit t=true/\∀j,j<t->x.testBit j=false
theorem HI{x t:Nat}(h:Low x t):∃q,x=2^(t+1) *q+2^t:=by
 let⟨h1,h2⟩:=h;have hm:x%2^t=0:=by apply Nat.eq_of_testBit_eq;intro i;rw[Nat.testBit_mod_two_pow,Nat.zero_testBit];by_cases c:i<t;simp[h2 i c];simp[c]
 have hd:x/2^t%2=1:=by grind
 refine⟨x/2^t/2,?_⟩;have Z:=Nat.div_add_mod x (2^t);rw[hm,Yp]at Z;have K:=Nat.div_add_mod (x/2^t) 2;rw[hd]at K;rw[Nat.pow_succ,Nat.mul_assoc,<-Nat.mul_succ];conv=>lhs;rw[<-Z,<-K]
theorem zG{x t:Nat}(h:Low x t):∀j,(x-1).testBit j=if j<t then true else if j=t then false else x.testBit j:=by obtain⟨q,rfl⟩:=HI h;intro j;have K:0<2^t:=Nat.two_pow_pos t;have Z:2^(t+1)=2^t+2^t:=oM;have e:2^(t+1) *q+2^t-1=2^(t+1) *q+(2^t-1):=oM;rw[e,YN q (oM:2^t-1<2^(t+1)),YN q (oM:2^t<2^(t+1))];by_cases c1:j<t;grind;grind
theorem Es{x t:Nat}(h:Low x t)(j:Nat):(x&&&(x-1)).testBit j=(x.testBit j&& !decide (j=t)):=by rw[Nat.testBit_and,zG h];by_cases c1:j<t;grind;grind
theorem Ki{x t:Nat}(h:Low x t)(K:x<18446744073709551616)(ht:t<64):x&&&(18446744073709551616-x)=2^t:=by
 have Z:x≠0:=by rintro rfl;simp[Low]at h
 apply Nat.eq_of_testBit_eq;intro i;have e:18446744073709551616-x=2^64-((x-1)+1):=oM;rw[Nat.testBit_and,e,Nat.testBit_two_pow_sub_succ oM,zG h,Nat.testBit_two_pow];by_cases c1:i<t;grind;by_cases c2:i=t;subst c2;simp[h.1,ht];grind
theorem MU(p:Nat->Bool):∀t,p t=true->∃t,p t=true/\∀j,j<t->p j=false:=by
 intro t;induction t using Nat.strongRecOn with
 |ind t ih=>intro ht;by_cases h:∃j,j<t/\p j=true;grind;grind
theorem Bw{x:Nat}(K:x≠0):∃t,Low x t:=by let⟨i,Z⟩:=Nat.exists_testBit_of_ne_zero K;exact MU _ i Z
def kA:List Nat:=[0,1,56,2,57,49,28,3,61,58,42,50,38,29,17,4,62,47,59,36,45,43,51,22,53,39,33,30,24,18,12,5,63,55,48,27,60,41,37,16,46,35,44,21,52,32,23,11,54,26,40,15,34,20,31,10,25,14,19,9,13,8,7,6]
def gq:List V:=kA.map fun(x:Nat)=>V.A .u8 (x:Int)
theorem No:∀t,t<64->kA[(2^t*285870213051353865%18446744073709551616)/288230376151711744]? =some t/\(2^t*285870213051353865%18446744073709551616)/288230376151711744<64:=by decide+kernel
end Go.Ev.Lay
namespace Go.Ev.Ab
abbrev i(k:Int):H_:=.c (.A .i64 k)
abbrev b(k:Int):H_:=.c (.A .u8 k)
abbrev u(k:Int):H_:=.c (.A .u64 k)
abbrev tt:H_:=.c (.h true)
abbrev ff:H_:=.c (.h false)
abbrev p(k:PK)(x:List H_):n_:=⟨none,.p k x,none⟩
abbrev q(k:PK)(x:List H_)(d:Nat):n_:=⟨none,.p k x,some d⟩
abbrev m(x:H_):n_:=⟨none,.p .o [x],none⟩
abbrev o(x:H_)(d:Nat):n_:=⟨none,.p .o [x],some d⟩
abbrev a(k:Nat):n_:=⟨none,.p (.b k) [.l 0],none⟩
abbrev A(k v:Nat):n_:=⟨none,.p (.b k) [.v v],none⟩
abbrev e(k:Nat):n_:=⟨none,.p (.v k) [.l k],none⟩
abbrev L:n_:=⟨none,.a 1 false (.l 0),none⟩
abbrev c(f:Nat)(x:List H_):n_:=⟨none,.d f x,none⟩
abbrev n(o:Q8):n_:=⟨none,o,none⟩
abbrev N(o:Q8)(d:Nat):n_:=⟨none,o,some d⟩
abbrev f(j:Nat)(k:PK)(y:List H_):n_:=⟨some (.l j,false),.p k y,none⟩
abbrev y(j:Nat)(x:H_):n_:=⟨some (.l j,false),.p .o [x],none⟩
abbrev z(j:Nat)(x:H_):n_:=⟨some (.l j,true),.p .o [x],none⟩
abbrev t(j:Nat)(k:PK)(y:List H_):n_:=⟨some (.l j,true),.p k y,none⟩
abbrev g(j:Nat)(o:Q8):n_:=⟨some (.l j,false),o,none⟩
abbrev h(j:Nat)(o:Q8):n_:=⟨some (.l j,true),o,none⟩
abbrev G(x:H_)(w:Bool)(o:Q8)(d:Nat):n_:=⟨some (x,w),o,some d⟩
abbrev s(l:List n_)(k:IC):IC:=.e (.n l) k
abbrev zK:List V:=[.A .u8 0,.f [],.f [],.r,.f [],.r,.A .i64 0,.h false,.A .i64 0]
abbrev zE:List V:=[.A .u64 0,.A .u8 0,.f [],.r,.A .i64 0,.h false]
abbrev zO:List V:=[.A .u8 0,.A .i64 0,.A .i64 0,.A .i64 0,.r]
abbrev zN:List V:=[.A .u8 0,.f [],.f [],.r,.f [],.r]
abbrev zI:List V:=[.A .u64 0,.A .u8 0,.f [],.r]
abbrev r(v:Nat)(l:List n_):IC:=.d (.v v) (.e (.n l) .q) .f
abbrev ad:PK:=.e .add
abbrev su:PK:=.e .sub
abbrev mu:PK:=.e .mul
abbrev eq:PK:=.e .eql
abbrev ne:PK:=.e .neq
abbrev lt:PK:=.e .lss
abbrev gt:PK:=.e .gtr
abbrev le:PK:=.e .leq
abbrev ge:PK:=.e .geq
abbrev P(k:Nat):n_:=⟨none,.p .r [.l k,.c (.h true),.l 0],none⟩
abbrev Q(k:Nat):n_:=⟨none,.p .r [.l k,.l 0,.c (.h false)],none⟩
abbrev v(k:Nat):n_:=⟨none,.p .h [.v k],none⟩
abbrev k:n_:=⟨none,.p .h [.l 0],none⟩
abbrev l:Q8:=.a 1 false (.l 0)
abbrev d(k j:Nat):n_:=⟨none,.a k true (.l j),none⟩
abbrev D(k j:Nat):n_:=⟨none,.a k true (.v j),none⟩
abbrev ls:n_:=⟨none,.p .d [.l 0],none⟩
abbrev lv(k:Nat):n_:=⟨none,.p .d [.v k],none⟩
abbrev S(k j:Nat):n_:=⟨none,.h k (.v j) (.l 0),none⟩
abbrev w(k:Nat):n_:=⟨none,.h k (.l 0) (.l 1),none⟩
abbrev al(z:List V)(d:Nat):n_:=⟨none,.c z,some d⟩
abbrev bx(k d:Nat):n_:=⟨none,.r (.v k),some d⟩
abbrev x(k n:Nat):IC:=.d (.v k) .f (.k n)
abbrev I(k:Nat):IC:=.n [m (.v k),p ad [.l 0,i 1],o (.l 0) k]
abbrev J(k:Nat):IC:=.n [p ad [.v k,i 1],o (.l 0) k]
abbrev ds(l:List n_)(r:List (Nat×Nat×Nat))(t:List (Nat×Nat)):IC:=.i l [] [] r t
abbrev lp(n k:Nat)(l:List n_)(c b i:IC):IC:=.h n (.o (.e (.e (.n l) c) (.e (.h k b) i)))
abbrev zH:List V:=[.A .u64 0,.A .i64 0]
abbrev fv(j:Nat)(k:PK)(y:List H_):n_:=⟨some (.v j,false),.p k y,none⟩
abbrev tv(j:Nat)(k:PK)(y:List H_):n_:=⟨some (.v j,true),.p k y,none⟩
abbrev gv(j:Nat)(o:Q8):n_:=⟨some (.v j,false),o,none⟩
abbrev hv(j:Nat)(o:Q8):n_:=⟨some (.v j,true),o,none⟩
abbrev Y:H_:=.l 0
abbrev O:H_:=.c (.A .i64 0)
abbrev U:List H_:=[.l 0]
abbrev B(k:Nat):List H_:=[.l k,.l 0]
abbrev O1(d:Nat):n_:=⟨none,.p .o [.l 0],some d⟩
abbrev O0(d:Nat):n_:=⟨none,.p .o [.c (.A .i64 0)],some d⟩
abbrev On(d:Nat):n_:=⟨none,.p .o [.c .r],some d⟩
abbrev Of(d:Nat):n_:=⟨none,.p .o [.c (.h false)],some d⟩
abbrev mv(k:Nat):n_:=⟨none,.p .o [.v k],none⟩
abbrev yv(j k:Nat):n_:=⟨some (.l j,false),.p .o [.v k],none⟩
abbrev zv(j k:Nat):n_:=⟨some (.l j,true),.p .o [.v k],none⟩
end Go.Ev.Ab
namespace Go.Ev
abbrev Wl:=@Go.Ev.Fr.refl
abbrev Wp:=@Go.Ev.Fr.trans
abbrev WA:=@Go.Ev.Fr.halloc
abbrev Xc:=@Go.Ev.e_.new
abbrev Xn:=@Go.Ev.q_.fr
abbrev Xs:=@Go.Ev.Sl.U
abbrev Xy:=@Go.Ev.Sl.lit
abbrev YA:=@Go.Ev.F_.append
abbrev YX:=@Go.Ev.q_.ix
abbrev Zs:=@Go.Ev.F_.w_
abbrev ZI:=@Go.Ev.q_.w_
abbrev ZO:=@Go.Ev.F_.recs
abbrev ZT:=@Go.Ev.Gs.sl
abbrev ZU:=@Go.Ev.q_.t_
end Go.Ev
namespace Go.Ev
abbrev ZZ(n:Int):V:=.A .i64 n
abbrev ZY(n:Int):V:=.A .u8 n
abbrev ZX(n:Int):V:=.A .u64 n
end Go.Ev
