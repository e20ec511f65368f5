/- An evaluator of the program, and contracts over it: EvWb to LayDe. -/
import Derived.Test.YteojfkejdhhhpaaGreatDoorP03
set_option linter.unusedSimpArgs false
set_option linter.unusedVariables false
set_option linter.constructorNameAsVariable false
set_option linter.unnecessarySimpa false
namespace Go.Ev
theorem cF(k:IntKind):jA k k=true:=by simp[jA]
theorem My(x:V):aP .mv [x]=some x:=rfl
theorem Dv(c:Bool)(a b:V):aP .pick [.bool c,a,b]=some (bif c then a else b):=rfl
theorem AC(b o:Nat):aP .nilck [.ptr b o]=some (.ptr b o):=rfl
theorem wO(f:Nat)(x y:List V):aP .nilck [.func (.func f) x y]=some (.func (.func f) x y):=rfl
theorem Jv(k:IntKind)(a b:Int):aP (.ib .add) [.int k a,.int k b]=some (.int k (aB k (a+b))):=by simp only[aP,cF,cond_true,jO];rfl
theorem Jh(k:IntKind)(a b:Int):aP (.ib .sub) [.int k a,.int k b]=some (.int k (aB k (a-b))):=by simp only[aP,cF,cond_true,jO];rfl
theorem Cj(k:IntKind)(a b:Int):aP (.ib .mul) [.int k a,.int k b]=some (.int k (aB k (a*b))):=by simp only[aP,cF,cond_true,jO];rfl
theorem iB(k:IntKind)(a b:Int)(h:b≠0):aP (.ib .quo) [.int k a,.int k b]=some (.int k (aB k (a.tdiv b))):=by
 have:ieq b 0=false:=by rw[fK];simpa using h
 simp only[aP,cF,cond_true,jO,this,cond_false]
theorem iA(k:IntKind)(a b:Int)(h:b≠0):aP (.ib .rem) [.int k a,.int k b]=some (.int k (a.tmod b)):=by
 have:ieq b 0=false:=by rw[fK];simpa using h
 simp only[aP,cF,cond_true,jO,this,cond_false]
theorem Js(k:IntKind)(a b:Int):aP (.ib .eql) [.int k a,.int k b]=some (.bool (decide (a=b))):=by simp only[aP,cF,cond_true,jO,fK];rfl
theorem Jk(k:IntKind)(a b:Int):aP (.ib .neq) [.int k a,.int k b]=some (.bool (!decide (a=b))):=by simp only[aP,cF,cond_true,jO,fK];rfl
theorem Jn(k:IntKind)(a b:Int):aP (.ib .lss) [.int k a,.int k b]=some (.bool (decide (a<b))):=by simp only[aP,cF,cond_true,jO,iu]
theorem Jp(k:IntKind)(a b:Int):aP (.ib .gtr) [.int k a,.int k b]=some (.bool (decide (b<a))):=by simp only[aP,cF,cond_true,jO,iu]
theorem Jo(k:IntKind)(a b:Int):aP (.ib .leq) [.int k a,.int k b]=some (.bool (decide (a<=b))):=by
 simp only[aP,cF,cond_true,jO,iu];congr 2;rw[SI];simp
theorem Jq(k:IntKind)(a b:Int):aP (.ib .geq) [.int k a,.int k b]=some (.bool (decide (b<=a))):=by
 simp only[aP,cF,cond_true,jO,iu];congr 2;rw[SI];simp
theorem Jj(b:Bool):aP .not [.bool b]=some (.bool (!b)):=rfl
theorem Jl(k:IntKind)(n:Int):aP .neg [.int k n]=some (.int k (aB k (0-n))):=rfl
theorem Ju(a b:Bool):aP (.bb false) [.bool a,.bool b]=some (.bool (decide (a=b))):=by cases a<;>cases b<;>rfl
theorem Jt(a b:Bool):aP (.bb true) [.bool a,.bool b]=some (.bool (!decide (a=b))):=by cases a<;>cases b<;>rfl
theorem nW(off b o:Nat):aP (.faddr off) [.ptr b o]=some (.ptr b (o+off)):=rfl
theorem Jr(i:Nat)(l:List V):aP (.ext i) [.tup l]=nth l i:=rfl
theorem Jm(fn:Fn)(n:Nat)(vs:List V):aP (.mkf fn n) vs=(dL n vs).map fun f=>.func fn f (fQ vs n):=rfl
theorem og(zero:List V)(places:List (Nat×Nat))(vs:List V):aP (.build zero places) vs=(dP zero places vs).map .agg:=rfl
theorem Mz(k k':IntKind)(a b:Int):aP .mn [.int k a,.int k' b]=some (.int k (min a b)):=by
 simp only[aP,iu];congr 2;by_cases h:b<a
 ·grind
 ·grind
theorem Mx(k k':IntKind)(a b:Int):aP .mx [.int k a,.int k' b]=some (.int k (max a b)):=by
 simp only[aP,iu];congr 2;by_cases h:a<b
 ·grind
 ·grind
theorem yK(k k':IntKind)(n:Int):aP (.conv k) [.int k' n]=some (.int k (aB k n)):=rfl
theorem Dz:aP .lenS [.nils]=some (.int .i64 0):=rfl
theorem Dy(b o len cap:Nat):aP .lenS [.slice b o len cap]=some (.int .i64 len):=rfl
theorem Dx(b o len cap:Nat):aP .lenS [.sliceU b o len cap]=some (.int .i64 len):=rfl
theorem DA:aP .lenS [.sliceE]=some (.int .i64 0):=rfl
theorem DD:aP .capS [.nils]=some (.int .i64 0):=rfl
theorem DC(b o len cap:Nat):aP .capS [.slice b o len cap]=some (.int .i64 cap):=rfl
theorem bO(esz b o len cap:Nat)(k:IntKind)(i:Int)(h0:0<=i)(Z:i<len):aP (.ixs esz) [.slice b o len cap,.int k i]=some (.ptr b (o+i.toNat*esz)):=by
 exact yl
theorem uv(esz b o len cap:Nat)(k:IntKind)(i:Int)(h0:0<=i)(Z:i<len):aP (.ixs esz) [.sliceU b o len cap,.int k i]=some (.ptr b (o+i.toNat*esz)):=by
 exact yl
theorem iC(esz b o len:Nat)(k:IntKind)(i:Int)(h0:0<=i)(Z:i<len):aP (.ixa len esz) [.ptr b o,.int k i]=some (.ptr b (o+i.toNat*esz)):=by
 exact yl
theorem ut(k k':IntKind)(a b:Int)(h:0<=b):aP (.sh false) [.int k a,.int k' b]=some (.int k (a.fdiv (2^(min b.toNat k.bits):Nat))):=by
 obtain⟨n,rfl⟩:∃n:Nat,b=n:=⟨b.toNat,oM⟩;rfl
def pv:Option Nat->V
 |none=>.nilp
 |some b=>.ptr b 0
theorem AY(o:Option Nat):(pv o).one=true:=by cases o<;>rfl
theorem aq{v:V}(h:v.one=true):v.cells=[v]:=by cases v<;>first|rfl|(simp[V.one]at h)
theorem zi(o:Option Nat):(pv o).cells=[pv o]:=aq (AY o)
theorem Dw(ne:Bool)(o:Option Nat):aP (.nil 0 ne) [pv o,.nilp]=some (.bool (bif ne then o.isSome else o.isNone)):=by cases o<;>cases ne<;>rfl
theorem wP(b o:Nat)(ne:Bool):aP (.nil 0 ne) [.ptr b o,.nilp]=some (.bool ne):=by cases ne<;>rfl
theorem wQ(ne:Bool):aP (.nil 0 ne) [.nilp,.nilp]=some (.bool (!ne)):=by cases ne<;>rfl
theorem kV(c:List V):dP c [] []=some c:=rfl
theorem Cd(c:List V)(off size:Nat)(ps:List (Nat×Nat))(v:V)(vs:List V)(h:v.cells.length=size)(h0:0<size):
 dP c ((off,size)::ps) (v::vs)=(bF c off v.cells).bind fun c'=>dP c' ps vs:=by
 subst h;simp only[dP];have:Nat.blt 0 v.cells.length=true:=by simpa[QJ]using h0
 rw[this];simp only[Rk,Sb,cond_true];cases bF c off v.cells<;>rfl
theorem qX(c:List V)(off size:Nat)(ps:List (Nat×Nat))(v:V)(vs:List V):
 dP c ((off,size)::ps) (v::vs)=if v.cells.length=size then if 0<size then(bF c off v.cells).bind fun c'=>dP c' ps vs else none else none:=by
 by_cases h:v.cells.length=size
 ·rw[if_pos h];by_cases h0:0<size
  ·rw[if_pos h0,Cd _ _ _ _ _ _ h h0]
  ·rw[if_neg h0];have:Nat.blt 0 size=false:=by cases hb:Nat.blt 0 size;rfl;rw[QJ]at hb;exact absurd hb h0
   simp[dP,this]
 ·rw[if_neg h];have:Nat.beq v.cells.length size=false:=by cases hb:Nat.beq v.cells.length size;rfl;exact absurd (py hb) h
  simp[dP,this]
theorem wH(k:IntKind)(n:Int):(V.int k n).cells=[.int k n]:=rfl
theorem tR(b:Bool):(V.bool b).cells=[.bool b]:=rfl
theorem wD(b:List UInt8):(V.str b).cells=[.str b]:=rfl
theorem wG(b o:Nat):(V.ptr b o).cells=[.ptr b o]:=rfl
theorem tN:V.nilp.cells=[.nilp]:=rfl
theorem tM:V.nils.cells=[.nils]:=rfl
theorem qx(b o l c:Nat):(V.slice b o l c).cells=[.slice b o l c]:=rfl
theorem nH(b o l c:Nat):(V.sliceU b o l c).cells=[.sliceU b o l c]:=rfl
theorem tQ(f:Fn)(a b:List V):(V.func f a b).cells=[.func f a b]:=rfl
theorem tO:V.nilf.cells=[.nilf]:=rfl
theorem wI(l:List V):(V.agg l).cells=l:=rfl
theorem fwrap_i64(n:Int)(Z:-9223372036854775808<=n)(U:n<=9223372036854775807):aB .i64 n=n:=by
 rw[bq];exact yp
theorem fwrap_u8(n:Int)(Z:0<=n)(U:n<=255):aB .u8 n=n:=by
 rw[bq];exact yp
theorem gK(n:Int)(Z:0<=n)(U:n<=4294967295):aB .u32 n=n:=by
 rw[bq];exact yp
theorem fwrap_u64(n:Int)(Z:0<=n)(U:n<=18446744073709551615):aB .u64 n=n:=by
 rw[bq];exact yp
def WF(h:Heap):Prop:=∀p,h.next<=p->h.bl.get p=none/\h.fams.get p=none
def Own(h:Heap)(b:Nat)(c:List V):Prop:=∃f k,h.bl.get b=some (.row c f k)/\((h.fams.get f=none/\f=b)\/∃e,h.fams.get f=some (b,e))
theorem Own.uniq{h:Heap}{b:Nat}{c c':List V}(a:Own h b c)(U:Own h b c'):c=c':=by
 obtain⟨f,k,e,_⟩:=a;obtain⟨R,k',Z,_⟩:=U;rw[e]at Z;cases Z;rfl
theorem Own.lt{h:Heap}{b:Nat}{c:List V}(a:Own h b c)(w:WF h):b<h.next:=by
 obtain⟨f,k,e,_⟩:=a;rcases Rn b h.next with x|x
 ·exact x
 ·rw[(w b x).1]at e;cases e
theorem Own.cells{h:Heap}{b:Nat}{c:List V}(a:Own h b c):dt h b=some c:=by
 obtain⟨f,k,e,x⟩:=a;simp only[dt,e,rd];rcases x with⟨x,rfl⟩|⟨Z,x⟩
 ·rw[x];rfl
 ·rw[x];simp
theorem Own.ld1{h:Heap}{b:Nat}{c:List V}(a:Own h b c)(o:Nat):ai h b o=nth c o:=by
 simp only[ai,a.cells]
theorem Own.ld{h:Heap}{b:Nat}{c:List V}(a:Own h b c)(o n:Nat):aH h b o n=dL n (fQ c o):=by
 simp only[aH,a.cells]
theorem gW(h:Heap)(n b o:Nat):jm h n false (.ptr b o)=ai h b o:=rfl
theorem gV(h:Heap)(n b o:Nat):jm h n true (.ptr b o)=(aH h b o n).map .agg:=rfl
theorem cg(l:List V):fQ l 0=l:=by rw[bA];rfl
theorem tu(v:V)(l:List V)(n:Nat):fQ (v::l) (n+1)=fQ l n:=rfl
def Pl(h:Heap)(b:Nat)(c:List V):Prop:=(∃k,h.bl.get b=some (.row c b k))/\h.fams.get b=none
theorem Pl.own{h:Heap}{b:Nat}{c:List V}(a:Pl h b c):Own h b c:=by
 obtain⟨⟨k,e⟩,f⟩:=a;exact⟨b,k,e,.inl ⟨f,rfl⟩⟩
def KC:Blk->Bool
 |.lp _ _ _ _ _ _=>true
 |.mp _ _=>true
 |_=>false
def Rs(h:Heap)(b:Nat)(c:List V):Prop:=∃f k ow,h.bl.get b=some (.row c f k)/\h.fams.get f=some (ow,k)/\h.bl.get ow=none/\ow<h.next
theorem Rs.set{t:T (Nat×Nat)}{h:Heap}{b:Nat}{c:List V}(r:Rs h b c){Z:Nat}{c0 c1:List V}{U k0 k1:Nat}(e:h.bl.get Z=some (.row c0 U k0))(x:(h.fams.get U=none)\/∃e',h.fams.get U=some (Z,e'))(R:T (Nat×Nat))(hF:R=h.fams\/∃y,R=h.fams.set U y)(I:Nat)(hn:h.next<=I):
 Rs ⟨h.bl.set Z (.row c1 U k1),I,R,t⟩ b c:=by
 obtain⟨f,k,ow,e1,D,e3,e4⟩:=r;have J:f≠U:=by grind
 have hb:b≠Z:=by grind
 have ho:ow≠Z:=by grind
 refine⟨f,k,ow,?_,?_,?_,by show ow<I;omega⟩
 ·show(h.bl.set Z _).get b=_;rw[Qu _ _ hb];exact e1
 ·show R.get f=_;rcases hF with rfl|⟨y,rfl⟩
  ·exact D
  ·rw[Qu _ _ J];exact D
 ·show(h.bl.set Z _).get ow=_;rw[Qu _ _ ho];exact e3
theorem Rs.new{t:T (Nat×Nat)}{h:Heap}{b:Nat}{c:List V}(r:Rs h b c)(w:WF h)(k:Blk):Rs ⟨h.bl.set h.next k,h.next+1,h.fams,t⟩ b c:=by
 obtain⟨f,k',ow,Z,J,R,I⟩:=r;have U:b≠h.next:=by rintro rfl;rw[(w _ (pi _)).1]at Z;cases Z
 refine⟨f,k',ow,?_,J,?_,by show ow<h.next+1;omega⟩
 ·show(h.bl.set _ _).get b=_;rw[Qu _ _ U];exact Z
 ·show(h.bl.set _ _).get ow=_;rw[Qu _ _ oM];exact R
structure Fr(S:List Nat)(h h':Heap):Prop where
 next:h.next<=h'.next
 wf:WF h'
 own:∀b c,b∉S->Own h b c->Own h' b c
 pl:∀b c,b∉S->Pl h b c->Pl h' b c
 lp:∀b x,KC x=true->h.bl.get b=some x->h'.bl.get b=some x
 ro:∀b c,Rs h b c->Rs h' b c
 ty:∀b x,b<h.next->h.tys.get b=some x->h'.tys.get b=some x
theorem Fr.refl{S:List Nat}{h:Heap}(w:WF h):Fr S h h:=⟨pi _,w,fun _ _ _ x=>x,fun _ _ _ x=>x,fun _ _ _ x=>x,fun _ _ x=>x,fun _ _ _ x=>x⟩
theorem Fr.trans{S S' T:List Nat}{h h1 h2:Heap}(a:Fr S h h1)(b:Fr S' h1 h2)(w:WF h)(hs:∀x,x∈S→x∈T∨h.next≤x)(hs':∀x,x∈S'→x∈T∨h.next≤x):Fr T h h2 where
 next:=Nat.le_trans a.next b.next
 wf:=b.wf
 lp:=fun x k hk o=>b.lp x k hk (a.lp x k hk o)
 ro:=fun x c r=>b.ro x c (a.ro x c r)
 ty:=fun x y hx e=>b.ty x y (Nat.lt_of_lt_of_le hx a.next) (a.ty x y hx e)
 own:=fun x c hx o=>by
  have:=o.lt w;refine b.own x c (fun m=>?_) (a.own x c (fun m=>?_) o)
  ·grind
  ·grind
 pl:=fun x c hx o=>by
  have:=o.own.lt w;refine b.pl x c (fun m=>?_) (a.pl x c (fun m=>?_) o)
  ·grind
  ·grind
theorem Fr.then{h h1 h2:Heap}(a:Fr [] h h1)(b:Fr [] h1 h2):Fr [] h h2 where
 next:=Nat.le_trans a.next b.next
 wf:=b.wf
 lp:=fun x k hk o=>b.lp x k hk (a.lp x k hk o)
 ro:=fun x c r=>b.ro x c (a.ro x c r)
 ty:=fun x y hx e=>b.ty x y (Nat.lt_of_lt_of_le hx a.next) (a.ty x y hx e)
 own:=fun x c _ o=>b.own x c iS (a.own x c iS o)
 pl:=fun x c _ o=>b.pl x c iS (a.pl x c iS o)
theorem Fr.get{h h':Heap}(a:Fr [] h h'){b:Nat}{c:List V}(o:Own h b c):Own h' b c:=a.own b c iS o
theorem WF.halloc{h:Heap}(w:WF h)(c:List V):WF (halloc h c):=by
 intro p Z;have U:h.next+1<=p:=Z;have:=w p oM;exact yE
theorem Own.new{h:Heap}(w:WF h)(c:List V):Own (halloc h c) h.next c:=
 ⟨h.next,0,QZ _ _ _,.inl ⟨(w h.next (pi _)).2,rfl⟩⟩
theorem Own.halloc{h:Heap}{b:Nat}{c:List V}(o:Own h b c)(w:WF h)(d:List V):Own (halloc h d) b c:=by
 have:=o.lt w;obtain⟨f,k,e,x⟩:=o;exact⟨f,k,by show(h.bl.set _ _).get b=_;rw[Qu _ _ oM];exact e,x⟩
theorem Fr.halloc{h:Heap}(w:WF h)(c:List V):Fr [] h (halloc h c):=⟨TP _,w.halloc c,fun _ _ _ o=>o.halloc w c,fun b d _ o=>by
 have:=o.own.lt w;obtain⟨⟨k,e⟩,f⟩:=o;exact⟨⟨k,by show(h.bl.set _ _).get b=_;rw[Qu _ _ oM];exact e⟩,f⟩,fun b x _ e=>by
 have:b≠h.next:=by rintro rfl;rw[(w _ (pi _)).1]at e;cases e
 show(h.bl.set _ _).get b=_;rw[Qu _ _ this];exact e,fun b x r=>r.new w _,fun _ _ _ e=>e⟩
theorem zP(h:Heap)(c:List V):(Ev.halloc h c).next=h.next+1:=rfl
theorem hnx{h Z:Heap}{c:List V}(e:Z=Ev.halloc h c):Z.next=h.next+1:=by rw[e];rfl
attribute [simp] RP
theorem Ew{h:Heap}{b o:Nat}{c c' vs:List V}(w:WF h)(a:Own h b c)(h1:az vs=true)(hu:bF c o vs=some c'):
 ∃h',dk h b o vs=some h'/\Own h' b c'/\Fr [b] h h'/\h'.next=h.next:=by
 have hb:=a.lt w;obtain⟨f,k,e,x⟩:=a;simp only[dk,e,h1,cond_true,hu];rcases x with⟨x,rfl⟩|⟨e',x⟩
 ·rw[x];refine⟨_,rfl,⟨f,k,QZ _ _ _,.inl ⟨x,rfl⟩⟩,⟨pi _,?_,?_,?_,fun q y hy I=>by
   have:q≠f:=by intro eq;rw[eq,e]at I;cases I;cases hy
   show(h.bl.set _ _).get q=_;rw[Qu _ _ this];exact I,fun q y r=>r.set e (.inl x) _ (.inl rfl) _ (pi _),fun _ _ _ e=>e⟩,rfl⟩
  ·intro p hp;have D:h.next<=p:=hp;have:=w p D;exact yE
  ·rintro q d Z ⟨f1,J,R,U⟩;simp at Z;exact⟨f1,J,by show(h.bl.set _ _).get q=_;rw[Qu _ _ Z];exact R,U⟩
  ·rintro q d Z ⟨⟨J,R⟩,U⟩;simp at Z;exact⟨⟨J,by show(h.bl.set _ _).get q=_;rw[Qu _ _ Z];exact R⟩,U⟩
 ·rw[x];simp only[Rk,cond_true];refine⟨_,rfl,⟨f,k,QZ _ _ _,.inr ⟨e'+1,QZ _ _ _⟩⟩,⟨pi _,?_,?_,?_,fun q y hy I=>by
   have:q≠b:=by intro eq;rw[eq,e]at I;cases I;cases hy
   show(h.bl.set _ _).get q=_;rw[Qu _ _ this];exact I,fun q y r=>r.set e (.inr ⟨_,x⟩) _ (.inr ⟨_,rfl⟩) _ (pi _),fun _ _ _ e=>e⟩,rfl⟩
  ·intro p hp;have D:h.next<=p:=hp;have:=w p D;refine⟨by show(h.bl.set _ _).get p=none;rw[Qu _ _ oM];exact this.1,?_⟩;show(h.fams.set _ _).get p=none;by_cases ab:p=f
   ·grind
   ·rw[Qu _ _ ab];exact this.2
  ·rintro q d Z ⟨f1,J,R,U⟩;simp at Z;refine⟨f1,J,by show(h.bl.set _ _).get q=_;rw[Qu _ _ Z];exact R,?_⟩;have hf:f1≠f:=by grind
   show((h.fams.set f (b,e'+1)).get f1=none/\_)\/∃e,(h.fams.set f (b,e'+1)).get f1=some (q,e);rw[Qu _ _ hf];exact U
  ·rintro q d Z ⟨⟨J,R⟩,U⟩;simp at Z;refine⟨⟨J,by show(h.bl.set _ _).get q=_;rw[Qu _ _ Z];exact R⟩,?_⟩;show(h.fams.set f (b,e'+1)).get q=none;rw[Qu _ _ (by rintro rfl;rw[x]at U;cases U)];exact U
theorem BZ{h:Heap}{n b o:Nat}{v:V}(e:v.cells.length=n):gm h n (.ptr b o) v=dk h b o v.cells:=by
 subst e;simp[gm]
theorem ac{h:Heap}{n b o:Nat}{v:V}{c c':List V}{K:V->Heap->Prop}(w:WF h)(a:Own h b c)(e:v.cells.length=n)(Z:az v.cells=true)(U:bF c o v.cells=some c')
 (k:∀h',Own h' b c'->Fr [b] h h'->h'.next=h.next->K (.tup []) h'):HQ (gm h n (.ptr b o) v) K:=by
 obtain⟨h',R,o1,f1,n1⟩:=Ew w a Z U;exact⟨h',by rw[BZ e];exact R,k h' o1 f1 n1⟩
theorem sts{h:Heap}{n b o:Nat}{v:V}{c c':List V}{K:V->Heap->Prop}(w:WF h)(a:Own h b c)
 (k:∀h',Own h' b c'->Fr [b] h h'->h'.next=h.next->K (.tup []) h') (e:v.cells.length=n:=by exact rfl) (h1:az v.cells=true:=by first|exact rfl|simp[az,V.cells,AY, *]) (hu:bF c o v.cells=some c':=by exact rfl):HQ (gm h n (.ptr b o) v) K:=ac w a e h1 hu k
theorem mF:∀(c:List V)(o:Nat)(vs:List V),o+vs.length≤c.length→bF c o vs=some (c.take o++vs++c.drop (o+vs.length))
 |[],o,vs,h=>by
  have:vs=[]:=by cases vs<;>simp at h⊢
  subst this;cases o<;>simp[iD]
 |x::l,0,[],h=>by simp[dD]
 |x::l,0,v::vs,h=>by
  rw[bC,mF l 0 vs (by simp at h⊢;omega)];simp[Nat.add_comm]
 |x::l,o+1,vs,h=>by
  rw[bH,mF l o vs (by simp at h⊢;omega)];simp[Nat.succ_add]
theorem kI(c:List V)(o:Nat)(v:V)(h:o<c.length):bF c o [v]=some (c.set o v):=by
 rw[mF c o [v] oO];congr 1;rw[Se,if_pos h];simp
theorem ag:az []=true:=rfl
theorem af(v:V)(l:List V):az (v::l)=(v.one&&az l):=rfl
theorem aU(c:List V)(n:Nat)(h:n≤c.length):dL n c=some (c.take n):=by
 induction n generalizing c with
 |zero=>simp[jv]
 |succ n ih=>cases c with
  |nil=>simp at h
  |cons x l=>rw[fF,ih l (eV h)];simp
def Sl(h:Heap)(esz:Nat)(v:V)(n:Nat)(cs:List V):Prop:=
 cs.length=n*esz/\match v with
 |.nils=>n=0
 |.sliceE=>n=0
 |.slice b o len cap=>len=n/\n<=cap/\∃c,Own h b c/\o+n*esz<=c.length/\cs=(c.drop o).take (n*esz)
 |.sliceU b o len e=>len=n/\e=esz/\∃c,Own h b c/\o+n*esz<=c.length/\cs=(c.drop o).take (n*esz)
 |_=>False
theorem Sl.fr{h h':Heap}{esz:Nat}{v:V}{n:Nat}{cs:List V}(a:Sl h esz v n cs)(f:Fr [] h h'):Sl h' esz v n cs:=by
 obtain⟨R,a⟩:=a;refine⟨R,?_⟩;cases v with
 |slice b o l k=>obtain⟨Z,U,c,o,x⟩:=a;exact⟨Z,U,c,f.get o,x⟩
 |sliceU b o l k=>obtain⟨Z,U,c,o,x⟩:=a;exact⟨Z,U,c,f.get o,x⟩
 |_=>exact a
theorem Sl.len{h:Heap}{esz:Nat}{v:V}{n:Nat}{cs:List V}(a:Sl h esz v n cs):aP .lenS [v]=some (.int .i64 n):=by
 obtain⟨Z,a⟩:=a;cases v with
 |slice b o l k=>obtain⟨rfl,_⟩:=a;rfl
 |sliceU b o l k=>obtain⟨rfl,_⟩:=a;rfl
 |nils=>have a:=a;subst a;rfl
 |sliceE=>have a:=a;subst a;rfl
 |_=>exact a.elim
theorem Sl.one{h:Heap}{esz:Nat}{v:V}{n:Nat}{cs:List V}(a:Sl h esz v n cs):v.one=true:=by
 obtain⟨Z,a⟩:=a;cases v with
 |slice b o l k=>rfl
 |sliceU b o l k=>rfl
 |nils=>rfl
 |sliceE=>rfl
 |_=>exact a.elim
theorem Sl.ix{h:Heap}{esz:Nat}{v:V}{n:Nat}{cs:List V}(a:Sl h esz v n cs)(k:IntKind)(i:Int)(h0:0<=i)(h1:i<n):
 ∃b o,aP (.ixs esz) [v,.int k i]=some (.ptr b o)/\(∀j,j<esz->ai h b (o+j)=cs[i.toNat*esz+j]?)/\aH h b o esz=some ((cs.drop (i.toNat*esz)).take esz):=by
 obtain⟨U,a⟩:=a;obtain⟨m,rfl⟩:∃m:Nat,i=m:=⟨i.toNat,oM⟩;have hm:m<n:=oM
 have Z:m*esz+esz<=n*esz:=by rw[<-Tj];exact Rm _ hm
 have main:∀(b o:Nat)(c:List V),Own h b c->o+n*esz<=c.length->cs=(c.drop o).take (n*esz)->
  (∀j,j<esz->ai h b (o+m*esz+j)=cs[m*esz+j]?)/\aH h b (o+m*esz) esz=some ((cs.drop (m*esz)).take esz):=by
  exact yY
 cases v with
 |slice b o l q=>
  exact yaG
 |sliceU b o l q=>
  exact yaH
 |nils=>have a:=a;omega
 |sliceE=>have a:=a;omega
 |_=>exact a.elim
section
variable {call : aD} {env : T V} {h : Heap} {loc : List V}
def EQ(o:Option (T V))(K:T V->Prop):Prop:=∃en,o=some en/\K en
theorem DX(en:T V)(K:T V->Prop):EQ (some en) K↔K en:=⟨fun⟨_,x,k⟩=>by cases x;exact k,fun k=>⟨en,rfl,k⟩⟩
def HdQ(hs:List Heap)(K:Heap->Prop):Prop:=match hs with
 |[]=>False
 |h::_=>K h
theorem AH(hs:List Heap)(K:Heap->Prop):HdQ (h::hs) K↔K h:=Sm
theorem Oa(l:List IStep)(Z:List (Nat×Nat×Nat))(U:List (Nat×Nat))(Q:T V->Heap->Prop)(J:List Heap):DE call l Z U env Q loc J↔
 Z.all (kZ call env l loc J)=true/\EQ (hJ l.length loc U env) fun env'=>HdQ J fun h'=>Q env' h':=by
 simp only[DE,EQ];constructor
 ·rintro⟨a,env',h',R,e,rfl,q⟩;exact⟨a,env',e,q⟩
 ·rintro⟨a,env',e,q⟩;cases J with
  |nil=>exact q.elim
  |cons h' R=>exact⟨a,env',h',R,e,rfl,q⟩
def GR(o:Option V)(want:Bool)(A:Prop):Prop:=match o with
 |some (.bool b)=>if b=want then A else True
 |_=>True
theorem JQ(t:List V)(want:Bool)(A:Prop):GR (some (.tup t)) want A↔True:=Sm
theorem DQ(b want:Bool)(A:Prop):GR (some (.bool b)) want A↔if b=want then A else True:=Sm
def RD(call:aD)(env:T V)(s:Option IStep)(loc:List V)(hs:List Heap):Prop:=match s,loc with
 |some t,v::l=>(match t.gd with
  |none=>gz call l env t.op v hs=true
  |some (x,want)=>GR (evO l env x) want (gz call l env t.op v hs=true))
 |_,_=>False
theorem Pn(o:IOp)(d:Option Nat)(v:V)(l:List V)(hs:List Heap):RD call env (some ⟨none,o,d⟩) (v::l) hs↔gz call l env o v hs=true:=Sm
theorem Po(x:Opd)(want:Bool)(o:IOp)(d:Option Nat)(v:V)(l:List V)(hs:List Heap):RD call env (some ⟨some (x,want),o,d⟩) (v::l) hs↔GR (evO l env x) want (gz call l env o v hs=true):=Sm
theorem MQ(l:List IStep)(U:List Heap)(i lo R:Nat):kZ call env l loc U (i,lo,R)=true↔RD call env l[i]? (loc.drop (l.length-i-1)) ((U.reverse.drop lo).take (R+1-lo)):=by
 simp only[kZ];cases l[i]? with
 |none=>simp[RD]
 |some t=>cases loc.drop (l.length-i-1)with
  |nil=>simp[RD]
  |cons v J=>
   obtain⟨gd,o,d⟩:=t;cases gd with
   |none=>simp[RD,evG]
   |some g=>
    obtain⟨x,Z⟩:=g;simp only[RD,evG,GR];cases evO J env x with
    |none=>simp
    |some b=>
     cases b with
     |bool b=>cases b<;>cases Z<;>simp
     |_=>simp
def Cm(call:aD)(env:T V)(l:List IStep)(loc:List V)(hs:List Heap):List (Nat×Nat×Nat)->Prop
 |[]=>True
 |(i,lo,hi)::rs=>RD call env l[i]? (loc.drop (l.length-i-1)) ((hs.reverse.drop lo).take (hi+1-lo))/\Cm call env l loc hs rs
theorem AG(l:List IStep)(hs:List Heap):Cm call env l loc hs []↔True:=Sm
theorem pP(l:List IStep)(hs:List Heap)(i lo hi:Nat)(rs:List (Nat×Nat×Nat)):Cm call env l loc hs ((i,lo,hi)::rs)↔
 RD call env l[i]? (loc.drop (l.length-i-1)) ((hs.reverse.drop lo).take (hi+1-lo))/\Cm call env l loc hs rs:=Sm
theorem uy{l:List IStep}{hs:List Heap}:∀{rs:List (Nat×Nat×Nat)},rs.all (kZ call env l loc hs)=true↔Cm call env l loc hs rs
 |[]=>by simp[Cm]
 |(i,lo,hi)::rs=>by simp only[Su,be,MQ,pP,uy (rs:=rs)]
def DF(call:aD)(l:List IStep)(reads:List (Nat×Nat×Nat))(sets:List (Nat×Nat))(env:T V)(Q:T V->Heap->Prop)(loc:List V)(hs:List Heap):Prop:=
 Cm call env l loc hs reads/\EQ (hJ l.length loc sets env) fun env'=>HdQ hs fun h'=>Q env' h'
theorem WD.mono{l:List DS}{U:List Heap}{K Z:List V->List Heap->Prop}(a:WD call env l loc U h K)(b:∀x y,K x y->Z x y):WD call env l loc U h Z:=by
 obtain⟨x,y,e,k⟩:=a;exact⟨x,y,e,b _ _ k⟩
def PB(o:Option (List DS×Heap))(K:List DS->Heap->Prop):Prop:=∃l h,o=some (l,h)/\K l h
theorem jq(l:List DS)(h:Heap)(K:List DS->Heap->Prop):PB (some (l,h)) K↔K l h:=
 ⟨fun⟨_,_,e,k⟩=>by cases e;exact k,fun k=>⟨_,_,rfl,k⟩⟩
theorem Ck(l:List IStep)(U R:List Nat)(Z:List (Nat×Nat×Nat))(J:List (Nat×Nat))(Q:Ex->T V->Heap->Prop):
 W call (.dops l U R Z J) env h Q↔PB (lay call env U l 0 [] h) fun dl h1=>WD call env dl [] [h1] h1 (DF call l Z J env (Q .norm)):=by
 constructor
 ·rintro⟨e,I,h',x,q⟩;have x:evD call l U Z J env h=.ok e I h':=x;unfold evD at x;split at x
  ·cases x
  ·rename_i dl h1 hl;refine⟨dl,h1,hl,?_⟩;split at x
   ·rename_i loc D hd;refine⟨loc,D,hd,?_⟩;cases ha:Z.all (kZ call env l loc D)
    ·grind
    ·rw[ha]at x;simp only[cond_true]at x;split at x
     ·rename_i ad h2 ah ab;cases x;exact⟨uy.1 ha,_,ab,q⟩
     ·cases x
   ·cases x
 ·rintro⟨dl,h1,hl,x⟩;refine Lv _ _ _ _ _ _ hl (x.mono ?_);rintro loc D ⟨a,b⟩;exact(Oa _ _ _ _ _).2 ⟨uy.2 a,b⟩
theorem W_d(l:List IStep)(R:List Nat)(Z:List (Nat×Nat×Nat))(U:List (Nat×Nat))(Q:Ex->T V->Heap->Prop):
 W call (.dops l [] R Z U) env h Q↔WD call env (l.map fun s=>(s,none)) [] [h] h (DF call l Z U env (Q .norm)):=by
 rw[Ck,Kl,jq]
def SEv(o:Option V)(K:V->Option (T V)):Option (T V):=match o with
 |some v=>K v
 |none=>none
theorem AD(v:V)(K:V->Option (T V)):SEv (some v) K=K v:=rfl
theorem CB(n s i:Nat)(r:List (Nat×Nat)):hJ n loc ((s,i)::r) env=SEv (nth loc (n-i-1)) fun v=>hJ n loc r (env.set s v):=by
 rw[AR];unfold SEv;cases nth loc (n-i-1)<;>rfl
end
theorem aY(k:IntKind)(i:Int)(y:Nat)(h0:0<=i)(Z:i<=y):cO (.int k i) y=some i.toNat:=by
 obtain⟨n,rfl⟩:∃n:Nat,i=n:=⟨i.toNat,oM⟩;have:Nat.ble n y=true:=(RW ..).mpr oM;show(bif Nat.ble n y then some n else none)=_;rw[this];rfl
theorem dJ{a b:Nat}(h:a≠b):Nat.beq a b=false:=by
 cases Z:Nat.beq a b
 ·rfl
 ·exact absurd (py Z) h
theorem iw{a b:Nat}(h:a=b):Nat.beq a b=true:=by subst h;simp
theorem I4{a b:Nat}(h:¬a<b):Nat.blt a b=false:=by
 cases Z:Nat.blt a b
 ·rfl
 ·exact absurd ((QJ ..).mp Z) h
theorem jG{a b:Nat}(h:¬a<=b):Nat.ble a b=false:=by
 cases Z:Nat.ble a b
 ·rfl
 ·exact absurd ((RW ..).mp Z) h
theorem Sl.part{h:Heap}{esz:Nat}{v:V}{n:Nat}{cs:List V}(a:Sl h esz v n cs)(he:0<esz)(hv:v≠.sliceE)(lo hi:Bool)(bs:List V)(l u:Nat)(hu:u<=n)(hl:l<=u)
 (D:∀y,n<=y->aO n y lo hi false bs=some (l,u,none)):
 ∃v',aP (.sl none esz lo hi false) (v::bs)=some v'/\Sl h esz v' (u-l) ((cs.drop (l*esz)).take ((u-l) *esz)):=by
 obtain⟨ab,a⟩:=a;have hm:l*esz+(u-l) *esz<=n*esz:=by rw[<-Sw];exact Rm _ oM
 have Z:((cs.drop (l*esz)).take ((u-l) *esz)).length=(u-l) *esz:=by simp;omega
 have R:∀(b o:Nat)(c:List V),Own h b c->o+n*esz<=c.length->cs=(c.drop o).take (n*esz)->
  (cs.drop (l*esz)).take ((u-l) *esz)=(c.drop (o+l*esz)).take ((u-l) *esz):=by
  intro b o c _ ab e;subst e;rw[Ta,RC,Tc];congr 1;omega
 cases v with
 |slice b o len cap=>
  obtain⟨rfl,I,c,J,U,e⟩:=a;refine⟨.slice b (bif Nat.beq cap l then o else o+l*esz) (u-l) (cap-l),by simp only[aP,dW,D cap I,QG,SX],Z,rfl,oM,c,J,?_⟩;by_cases ah:cap=l
  ·grind
  ·rw[dJ ah];exact⟨by simp only[cond_false];omega,R b o c J U e⟩
 |sliceU b o len q=>
  obtain⟨rfl,rfl,c,J,U,e⟩:=a;have hq:(Nat.beq q q&&Nat.blt 0 q)=true:=by simp[QJ,he]
  by_cases h1:l<len
  ·refine⟨.sliceU b (o+l*q) (u-l) q,?_,Z,rfl,rfl,c,J,oM,R b o c J U e⟩;simp only[aP,dW,hq,cond_true,D len (pi _),QX,(QJ ..).mpr h1]
  ·have ad:u-l=0:=oM
   by_cases h2:l=0
   ·subst h2;refine⟨.sliceU b o (u-0) q,?_,Z,rfl,rfl,c,J,oM,by simpa using R b o c J U e⟩;simp only[aP,dW,hq,cond_true,D len (pi _),QX,I4 h1,cond_false,(iR:Nat.beq 0 0=true)]
   ·refine⟨.sliceE,?_,Z,ad⟩;simp only[aP,dW,hq,cond_true,D len (pi _),QX,I4 h1,cond_false,dJ h2]
 |nils=>
  have a:=a;subst a;refine⟨.nils,?_,Z,oM⟩;simp only[aP,dW,D 0 (pi _),QG]
 |sliceE=>exact absurd rfl hv
 |_=>exact a.elim
theorem Sl.ne{h:Heap}{esz:Nat}{v:V}{n:Nat}{cs:List V}(a:Sl h esz v n cs)(Z:0<n):v≠.sliceE:=by
 rintro rfl;have:=a.2;omega
theorem Sl.from'{h:Heap}{esz:Nat}{v:V}{n:Nat}{cs:List V}(a:Sl h esz v n cs)(Z:0<esz)(R:v≠.sliceE)(k:IntKind)(i:Int)(h0:0<=i)(U:i<=n):
 ∃v',aP (.sl none esz true false false) [v,.int k i]=some v'/\Sl h esz v' (n-i.toNat) (cs.drop (i.toNat*esz)):=by
 obtain⟨v',e,s⟩:=a.part Z R true false [.int k i] i.toNat n (pi _) oM (fun y _=>by simp only[aO,aY k i n h0 U,QG]);refine⟨v',e,?_⟩;have hm:i.toNat*esz+(n-i.toNat) *esz=n*esz:=by rw[<-Sw];congr 1;omega
 rwa[Qs (by simp[a.1];omega)]at s
theorem Sl.upto{h:Heap}{esz:Nat}{v:V}{n:Nat}{cs:List V}(a:Sl h esz v n cs)(Z:0<esz)(U:v≠.sliceE)(k:IntKind)(i:Int)(h0:0<=i)(R:i<=n):
 ∃v',aP (.sl none esz false true false) [v,.int k i]=some v'/\Sl h esz v' i.toNat (cs.take (i.toNat*esz)):=by
 obtain⟨v',e,s⟩:=a.part Z U false true [.int k i] 0 i.toNat oM oM (fun y hy=>by simp only[aO,aY k i y h0 oM,QG]);exact⟨v',e,by simpa using s⟩
theorem Sl.range{h:Heap}{esz:Nat}{v:V}{n:Nat}{cs:List V}(a:Sl h esz v n cs)(Z:0<esz)(U:v≠.sliceE)(k k':IntKind)(i j:Int)(h0:0<=i)(R:i<=j)(J:j<=n):
 ∃v',aP (.sl none esz true true false) [v,.int k i,.int k' j]=some v'/\Sl h esz v' (j.toNat-i.toNat) ((cs.drop (i.toNat*esz)).take ((j.toNat-i.toNat) *esz)):=by
 obtain⟨v',e,s⟩:=a.part Z U true true [.int k i,.int k' j] i.toNat j.toNat oM oM (fun y hy=>by
  simp only[aO,aY k' j y oM oM,QX,aY k i j.toNat h0 oM,QG])
 exact⟨v',e,s⟩
def Gs(h:Heap)(B:Nat)(esz:Nat)(v:V)(cs:List V):Prop:=(v=.nils/\cs=[])\/∃b n,v=.sliceU b 0 n esz/\cs.length=n*esz/\0<n/\B<=b/\Own h b cs
theorem Gs.sl{h:Heap}{B esz:Nat}{v:V}{cs:List V}{n:Nat}(a:Gs h B esz v cs)(Z:cs.length=n*esz)(U:0<esz):Sl h esz v n cs:=by
 rcases a with⟨rfl,rfl⟩|⟨b,m,rfl,hm,_,_,o⟩
 ·refine⟨Z,?_⟩;have:0=n*esz:=Z;rcases Nat.eq_zero_or_pos n with h|h
  ·exact h
  ·have:=Uj h U;omega
 ·have:m=n:=Tw U oM;subst this;exact⟨Z,rfl,rfl,cs,o,oM,by simp[<-Z]⟩
theorem Gs.one{h:Heap}{B esz:Nat}{v:V}{cs:List V}(a:Gs h B esz v cs):v.one=true:=by
 rcases a with⟨rfl,rfl⟩|⟨b,m,rfl,_⟩<;>rfl
theorem Gs.fr{h h':Heap}{B esz:Nat}{v:V}{cs:List V}(a:Gs h B esz v cs)(f:Fr [] h h'):Gs h' B esz v cs:=by
 rcases a with⟨rfl,rfl⟩|⟨b,m,rfl,R,U,Z,o⟩
 ·exact .inl ⟨rfl,rfl⟩
 ·exact .inr ⟨b,m,rfl,R,U,Z,f.get o⟩
structure Up(B:Nat)(h h':Heap):Prop where
 next:h.next<=h'.next
 wf:WF h'
 own:∀b c,b<B->Own h b c->Own h' b c
 pl:∀b c,b<B->Pl h b c->Pl h' b c
 lp:∀b x,KC x=true->h.bl.get b=some x->h'.bl.get b=some x
 ro:∀b c,Rs h b c->Rs h' b c
 ty:∀b x,b<h.next->h.tys.get b=some x->h'.tys.get b=some x
theorem Fr.up{S:List Nat}{h h':Heap}{B:Nat}(f:Fr S h h')(hs:∀x∈S,B<=x):Up B h h':=
 ⟨f.next,f.wf,fun b c hb o=>f.own b c (fun m=>by have:=hs b m;omega) o,fun b c hb o=>f.pl b c (fun m=>by have:=hs b m;omega) o,f.lp,f.ro,f.ty⟩
theorem Up.refl{B:Nat}{h:Heap}(w:WF h):Up B h h:=⟨pi _,w,fun _ _ _ o=>o,fun _ _ _ o=>o,fun _ _ _ o=>o,fun _ _ o=>o,fun _ _ _ e=>e⟩
theorem Up.trans{B:Nat}{h h1 h2:Heap}(a:Up B h h1)(b:Up B h1 h2):Up B h h2:=
 ⟨QY a.next b.next,b.wf,fun x c hx o=>b.own x c hx (a.own x c hx o),fun x c hx o=>b.pl x c hx (a.pl x c hx o),fun x k hk o=>b.lp x k hk (a.lp x k hk o),fun x c r=>b.ro x c (a.ro x c r),fun x y hx e=>b.ty x y (QH hx a.next) (a.ty x y hx e)⟩
theorem Fr.fresh{h h1 h2:Heap}{b:Nat}(a:Fr [] h h1)(c:Fr [b] h1 h2)(w:WF h)(hb:h.next<=b):Fr [] h h2:=
 a.trans c w iS (by simp;exact hb)
theorem iK{h:Heap}{b pos:Nat}{c c':List V}(w:WF h)(a:Own h b c):∃h',jB h b pos c'=some h'/\Own h' h.next c'/\Fr [b] h h':=by
 have hb:=a.lt w;obtain⟨f,k,e,x⟩:=a;have hf:f<h.next:=by
  exact yam
 have go:∀(U R:Nat),(h.fams.get f=none/\f=b\/∃e,h.fams.get f=some (b,e))->
  Own ⟨(h.bl.set b (.row c f U)).set h.next (.row c' f 0),h.next+1,h.fams.set f (h.next,R),h.tys⟩ h.next c'/\
  Fr [b] h ⟨(h.bl.set b (.row c f U)).set h.next (.row c' f 0),h.next+1,h.fams.set f (h.next,R),h.tys⟩:=by
  intro U R x;refine⟨⟨f,0,QZ _ _ _,.inr ⟨R,QZ _ _ _⟩⟩,⟨TP _,?_,?_,?_,fun q y hy J=>by
   have h1:q≠b:=by intro eq;rw[eq,e]at J;cases J;cases hy
   have h2:q≠h.next:=by rintro rfl;rw[(w _ (pi _)).1]at J;cases J
   show((h.bl.set b _).set h.next _).get q=_;rw[Qu _ _ h2,Qu _ _ h1];exact J,fun q y r=>by
   have r1:Rs ⟨h.bl.set b (.row c f U),h.next,h.fams.set f (h.next,R),h.tys⟩ q y:=r.set e (by rcases x with⟨x,_⟩|x;exact .inl x;exact .inr x) _ (.inr ⟨_,rfl⟩) _ (pi _)
   obtain⟨f',k',ow,p1,p2,p3,p4⟩:=r1;have I:(h.bl.set b (.row c f U)).get q=some (.row y f' k'):=p1;have ah:ow<h.next:=p4;have hq:q≠h.next:=by
    rintro rfl;rw[Qu _ _ oM,(w _ (pi _)).1]at I;cases I
   refine⟨f',k',ow,?_,p2,?_,by show ow<h.next+1;omega⟩
   ·show((h.bl.set b _).set h.next _).get q=_;rw[Qu _ _ hq];exact p1
   ·show((h.bl.set b _).set h.next _).get ow=_;rw[Qu _ _ oM];exact p3,fun _ _ _ e=>e⟩⟩
  ·intro p hp;have ad:h.next+1<=p:=hp;have:=w p oM;refine⟨?_,?_⟩
   ·show((h.bl.set b _).set h.next _).get p=none;rw[Qu _ _ oM,Qu _ _ oM];exact this.1
   ·show(h.fams.set f _).get p=none;rw[Qu _ _ oM];exact this.2
  ·rintro q d hq o;have ab:=o.lt w;obtain⟨f1,D,e2,x1⟩:=o;simp at hq;refine⟨f1,D,?_,?_⟩
   ·exact ybi
   ·have hne:f1≠f:=by
     rintro rfl;rcases x with⟨Z,xb⟩|⟨e',Z⟩
     ·rcases x1 with⟨_,y⟩|⟨e3,y⟩
      ·exact hq (y.symm.trans xb)
      ·rw[Z]at y;cases y
     ·rcases x1 with⟨y,_⟩|⟨e3,y⟩
      ·rw[Z]at y;cases y
      ·rw[Z]at y;cases y;exact hq rfl
    exact yax
  ·rintro q d hq o;have ab:=o.own.lt w;obtain⟨⟨D,e2⟩,x1⟩:=o;simp at hq;refine⟨⟨D,?_⟩,?_⟩
   ·exact ybi
   ·show(h.fams.set f _).get q=none;rw[Qu _ _ ?_]
    ·exact x1
    ·rintro rfl;rcases x with⟨_,xb⟩|⟨e',Z⟩
     ·exact hq xb
     ·rw[Z]at x1;cases x1
 simp only[jB,e];rcases x with⟨x,rfl⟩|⟨e',x⟩
 ·rw[x];exact⟨_,rfl,go _ _ (.inl ⟨x,rfl⟩)⟩
 ·rw[x];simp only[Rk,cond_true];exact⟨_,rfl,go _ _ (.inr ⟨e',x⟩)⟩
theorem Sl.srcLen{h:Heap}{esz:Nat}{v:V}{n:Nat}{cs:List V}(a:Sl h esz v n cs):Ev.srcLen v=some n:=by
 obtain⟨_,a⟩:=a;cases v with
 |slice b o len cap=>obtain⟨rfl,_⟩:=a;rfl
 |sliceU b o len q=>obtain⟨rfl,_⟩:=a;rfl
 |nils=>have a:=a;subst a;rfl
 |sliceE=>have a:=a;subst a;rfl
 |_=>exact a.elim
theorem Sl.srcCells{h:Heap}{esz:Nat}{v:V}{n:Nat}{cs:List V}(a:Sl h esz v n cs):Ev.srcCells h esz v n=some cs:=by
 obtain⟨Z,a⟩:=a;cases v with
 |slice b o len cap=>
  obtain⟨rfl,_,c,U,R,e⟩:=a;simp only[Ev.srcCells,U.ld,bA,aU _ _ (oO:len*esz<=(c.drop o).length),e]
 |sliceU b o len q=>
  obtain⟨rfl,rfl,c,U,R,e⟩:=a;simp only[Ev.srcCells,U.ld,bA,aU _ _ (oO:len*q<=(c.drop o).length),e]
 |nils=>have a:=a;subst a;simp at Z;subst Z;rfl
 |sliceE=>have a:=a;subst a;simp at Z;subst Z;rfl
 |_=>exact a.elim
def vb:V->List Nat
 |.sliceU b _ _ _=>[b]
 |_=>[]
theorem Gs.up{h h':Heap}{B esz:Nat}{v:V}{cs:List V}(a:Gs h B esz v cs)(f:Fr (vb v) h h'):Up B h h':=by
 refine f.up ?_;rcases a with⟨rfl,_⟩|⟨b,m,rfl,_,_,Z,_⟩
 ·simp[vb]
 ·simpa[vb]using Z
theorem Gs.append{h:Heap}{B esz bytes:Nat}{v x:V}{cs Z:List V}{n:Nat}(w:WF h)(a:Gs h B esz v cs)(s:Sl h esz x n Z)(he:0<esz)(ho:az Z=true)(hB:B<=h.next)
 (U:(2*(cs.length+n)+1024) *bytes<=281474976710656) {K:V->Heap->Prop} (k:∀v' h',Gs h' B esz v' (cs++Z)->Fr (vb v) h h'->K v' h'):OQ (dK h esz bytes v x) K:=by
 unfold dK;rw[s.srcLen];simp only[];by_cases J:n=0
 ·subst J;have hx:Z=[]:=by have:=s.1;simp at this;exact this
  subst hx;rw[iw rfl,cond_true];have hd:kB v=some (cs.length/esz):=by
   rcases a with⟨rfl,rfl⟩|⟨b,m,rfl,hm,_⟩
   ·simp[kB,Ev.srcLen]
   ·simp[kB,Ev.srcLen,hm,Te _ he]
  rw[hd];exact(cD _ _ _).2 (k v h (eV a) (Fr.refl w))
 ·rw[dJ J,cond_false,s.srcCells];simp only[];rcases a with⟨rfl,rfl⟩|⟨b,m,rfl,hm,ad,hb,o⟩
  ·simp only[kF];have:Nat.ble ((2*n+1024) *bytes) 281474976710656=true:=by
    rw[RW];simpa using U
   rw[this,cond_true];refine(cD _ _ _).2 (k _ _ (.inr ⟨h.next,n,rfl,by simpa using s.1,oM,hB,by simpa using Own.new w Z⟩) (Fr.halloc w Z))
  ·have I:(2*(m+n)+1024) *bytes<=(2*(cs.length+n)+1024) *bytes:=by
    exact yaT
   have h1:(Nat.beq esz esz&&Nat.ble ((2*(m+n)+1024) *bytes) 281474976710656)=true:=by
    simp only[Rk,RU,RW];omega
   simp only[h1,cond_true,o.cells];have ab:(m+n) *esz=m*esz+n*esz:=Sw _ _ _;have R:0<n*esz:=Uj oM he;rw[jG (oM:¬0+(m+n) *esz<=cs.length),cond_false];have h2:(Nat.ble (0+m*esz) cs.length&&az Z)=true:=by simp only[ho,Tu,RW];omega
   simp only[h2,cond_true,cg,aU cs (m*esz) oM];obtain⟨h',e,D,f⟩:=iK (pos:=0+m*esz) (c':=cs.take (m*esz)++Z) w o;rw[e];simp only[QG];refine(cD _ _ _).2 (k _ _ (.inr ⟨h.next,m+n,rfl,by simp[s.1];omega,oM,hB,?_⟩) f);rwa[Qs oM]at D
def CQ(o:Option (List V))(len:Nat)(K:V->Heap->Prop)(h:Heap):Prop:=∃c,o=some c/\K (.slice h.next 0 len len) (halloc h c)
theorem DZ(c:List V)(len:Nat)(K:V->Heap->Prop)(h:Heap):CQ (some c) len K h↔K (.slice h.next 0 len len) (halloc h c):=exS
theorem Du(h:Heap)(zero:List V)(Z:List (Nat×Nat))(len:Nat)(vs:List V)(K:V->Heap->Prop):OQ (jI h zero Z len vs) K↔CQ (dP (gY zero len) Z vs) len K h:=by
 simp only[jI,OQ,CQ];cases dP (gY zero len) Z vs with
 |none=>simp
 |some c=>simp[and_assoc]
theorem vf(zero:List V):gY zero 0=[]:=rfl
theorem vg(zero:List V)(n:Nat):gY zero (n+1)=zero++gY zero n:=rfl
theorem Sl.lit{h:Heap}{esz:Nat}{b n:Nat}{c:List V}(o:Own h b c)(hc:c.length=n*esz):Sl h esz (.slice b 0 n n) n c:=
 ⟨hc,rfl,pi _,c,o,oM,by simp[<-hc]⟩
section
variable {α : Type} {f : α -> List V} {k : Nat}
theorem au(hf:∀x,(f x).length=k):∀(L:List α),(L.flatMap f).length=L.length*k
 |[]=>by simp
 |x::L=>by simp[QT,au hf L,hf,Tj,Nat.add_comm]
theorem dE(hf:∀x,(f x).length=k):∀(L:List α)(i:Nat),(L.flatMap f).drop (i*k)=(L.drop i).flatMap f
 |L,0=>by simp
 |[],i+1=>by simp
 |x::L,i+1=>by
  rw[QT,List.drop_succ_cons,<-dE hf L i,Tj,Nat.add_comm,<-hf x,<-RC,TF]
theorem kQ(hf:∀x,(f x).length=k):∀(L:List α)(i:Nat),(L.flatMap f).take (i*k)=(L.take i).flatMap f
 |L,0=>by simp
 |[],i+1=>by simp
 |x::L,i+1=>by
  have:(i+1) *k=(f x).length+i*k:=by grind
  rw[List.flatMap_cons,List.take_succ_cons,List.flatMap_cons,this,List.take_append,List.take_of_length_le oM,Nat.add_sub_cancel_left,kQ hf L i]
def Recs(f:α->List V)(k:Nat)(h:Heap)(v:V)(L:List α):Prop:=Sl h k v L.length (L.flatMap f)
theorem Recs.fr{h h':Heap}{v:V}{L:List α}(a:Recs f k h v L)(r:Fr [] h h'):Recs f k h' v L:=Sl.fr a r
theorem Recs.len{h:Heap}{v:V}{L:List α}(a:Recs f k h v L):aP .lenS [v]=some (.int .i64 L.length):=Sl.len a
theorem Recs.ix{h:Heap}{v:V}{L:List α}(hf:∀x,(f x).length=k)(a:Recs f k h v L)(kd:IntKind)(i:Int)(h0:0<=i)(Z:i<L.length):
 ∃b o x,aP (.ixs k) [v,.int kd i]=some (.ptr b o)/\(∀j,j<k->ai h b (o+j)=(f x)[j]?)/\aH h b o k=some (f x)/\L[i.toNat]? =some x:=by
 obtain⟨b,o,e,g,g2⟩:=Sl.ix a kd i h0 Z;exact yu
theorem Recs.nil{h:Heap}:Recs f k h .nils []:=⟨iS,rfl⟩
def GRecs(f:α->List V)(k:Nat)(h:Heap)(B:Nat)(v:V)(L:List α):Prop:=Gs h B k v (L.flatMap f)
theorem GRecs.fr{h h':Heap}{B:Nat}{v:V}{L:List α}(a:GRecs f k h B v L)(r:Fr [] h h'):GRecs f k h' B v L:=Gs.fr a r
theorem GRecs.one{h:Heap}{B:Nat}{v:V}{L:List α}(a:GRecs f k h B v L):v.one=true:=Gs.one a
theorem GRecs.nil{h:Heap}{B:Nat}:GRecs f k h B .nils []:=.inl ⟨rfl,rfl⟩
theorem GRecs.append{h:Heap}{B bytes:Nat}{v:V}{L:List α}{x:α}{b:Nat}(w:WF h)(a:GRecs f k h B v L)(hf:∀x,(f x).length=k)(R:az (f x)=true)(U:0<k)(o:Own h b (f x))(hB:B<=h.next)
 (Z:(2*(L.length*k+1)+1024) *bytes<=281474976710656) {K:V->Heap->Prop} (c:∀v' h',GRecs f k h' B v' (L++[x])->Fr (vb v) h h'->K v' h'):OQ (dK h k bytes v (.slice b 0 1 1)) K:=by
 refine Gs.append w a (Sl.lit (n:=1) o iX) U R hB (by rw[au hf];exact Z) ?_;intro v' h' g u;refine c v' h' ?_ u;unfold GRecs;rw[QV];simpa using g
end
def MP(Q:Ex->T V->Heap->Prop):Ex->T V->Heap->Prop:=fun e env h=>match e with
 |.goto _=>False
 |e=>Q e env h
theorem uW(Q:Ex->T V->Heap->Prop)(env:T V)(h:Heap):MP Q .norm env h↔Q .norm env h:=Sm
theorem zg(Q:Ex->T V->Heap->Prop)(env:T V)(h:Heap):MP Q .ret env h↔Q .ret env h:=Sm
theorem uY(i:Nat)(Q:Ex->T V->Heap->Prop)(env:T V)(h:Heap):MP Q (.exit i) env h↔Q (.exit i) env h:=Sm
structure Wi{α:Type}(a b:α):Prop
abbrev Im{α:Type}(a b:α):Prop:=a=b->Wi a b
theorem wX{α:Type}{a b:α}(w:Wi a b:=by
  refine(?g:Im _ _) ?h
  case h=>cbv
  exact fun _=>⟨⟩):Wi a b:=w
def mX{α:Type}(a:α){b:α}(_w:Wi a b:=by exact wX):α:=b
theorem mXe{α:Type}{a b:α}{w:Wi a b}:mX a w=b:=rfl
theorem Za{p q:Prop}(a:p)(b:q):p/\q:=⟨a,b⟩
set_option linter.defProp false in
set_option maxRecDepth 4000 in
def evs:=Za @mXe<|Za @Jw<|Za @MB<|Za @Jy<|Za @Jx<|Za @MA<|Za @Jz<|Za @DG<|Za @MC<|Za @ru<|Za @uQ<|Za @rD<|Za @rA<|Za @qA<|Za @uf<|Za @qB<|Za @ii<|Za @uW<|Za @zg<|Za @uY<|Za @sg<|Za @pU<|Za @pT<|Za @tz<|Za @JA<|Za @Pg<|Za @Pf<|Za @Ph<|Za @ME<|Za @oF<|Za @Ot<|Za @DL<|Za @DH<|Za @cD<|Za @DN<|Za @LT<|Za @DM<|Za @LR<|Za @DJ<|Za @L9<|Za @LY<|Za @LZ<|Za @D4<|Za @AJ<|Za @wR<|Za @AI<|Za @wT<|Za @H5<|Za @HY<|Za @DP<|Za @DO<|Za @JP<|Za @JO<|Za @AE<|Za @Du<|Za @DZ<|Za @vf<|Za @vg<|Za @LS<|Za @L6<|Za @LW<|Za @LX<|Za @DU<|Za @LU<|Za @qj<|Za @jN<|Za @Dg<|Za @Mq<|Za @eN<|Za @iv<|Za @cZ<|Za @fM<|Za @sG<|Za @wL<|Za @mA<|Za @T.get_set<|Za @wS<|Za @AF<|Za @zW<|Za @Iv<|Za @Iw<|Za @vy<|Za @vx<|Za @vv<|Za @gW<|Za @gV<|Za @My<|Za @Dv<|Za @AC<|Za @wO<|Za @Jv<|Za @Jh<|Za @Cj<|Za @Js<|Za @Jk<|Za @Jn<|Za @Jp<|Za @Jo<|Za @Jq<|Za @Jj<|Za @Jl<|Za @Ju<|Za @Jt<|Za @nW<|Za @Jr<|Za @Jm<|Za @og<|Za @Mz<|Za @Mx<|Za @yK<|Za @Dz<|Za @Dy<|Za @Dx<|Za @DA<|Za @DD<|Za @DC<|Za @Dw<|Za @wP<|Za @wQ<|Za @zi<|Za @wH<|Za @tR<|Za @wD<|Za @wG<|Za @tN<|Za @tM<|Za @qx<|Za @nH<|Za @tQ<|Za @tO<|Za @wI<|Za @kV<|Za @qX<|Za @cg<|Za @tu<|Za @jv<|Za @fF<|Za @iD<|Za @dD<|Za @bC<|Za @bH<|Za @cond_true.{1}<|Za @cond_false.{1}<|Za @Nat.zero_lt_one<|Za @Nat.lt_add_one<|Za @decide_eq_true_eq<|Za @Bool.not_true<|Za @Bool.not_false<|Za @Bool.false_eq_true<|Za @Bool.true_eq_false<|Za @decide_true<|Za @decide_false<|Za @eq_self.{1}<|Za @Option.map_some.{0,0}<|Za @Option.bind_some.{0,0}<|Za @Nat.zero_add<|Za @Nat.add_zero<|Za @Nat.zero_mul<|Za @Nat.zero_ne_one<|Za @Nat.one_ne_zero<|Za @List.append_nil.{0}<|Za @List.nil_append.{0}<|Za @List.cons_append.{0}<|Za @Option.isSome_some.{0}<|Za @Option.isSome_none.{0}<|Za @Option.isNone_some.{0}<|Za @Option.isNone_none.{0}<|Za @W_d<|Za @JB<|Za @Pj<|Za @Pk<|Za @cR<|Za @OO<|Za @OP<|Za @DR<|Za @JR<|Za @HZ<|Za @AG<|Za @pP<|Za @Pn<|Za @Po<|Za @DQ<|Za @JQ<|Za @vh<|Za @sq<|Za @fL<|Za @DX<|Za @AH<|Za @uU<|Za @CB<|Za @AD<|Za @List.map_cons.{0,0}<|Za @List.map_nil.{0,0}<|Za @List.length_cons.{0}<|Za @List.length_nil.{0}<|Za @List.drop_succ_cons.{0}<|Za @List.drop_zero.{0}<|Za @List.getElem?_cons_succ.{0}<|Za @List.getElem?_cons_zero.{0}<|Za @List.reverse_cons.{0}<|Za @List.reverse_nil.{0}<|Za @List.take_succ_cons.{0}<|Za @List.take_zero.{0}<|Za @and_true<|@true_and
theorem rqn{I:Nat->T V->Heap->Prop}{k:Nat}{Q:Ex->T V->Heap->Prop}{env:T V}{h:Heap}(x:∃k',k'<k/\I k' env h):mg I k Q .norm env h:=x
theorem stu{h:Heap}{n b o:Nat}{v:V}{c c':List V}{K:V->Heap->Prop}(w:WF h)(a:Own h b c)
 (k:∀h',Own h' b c'->Fr [b] h h'->h'.next=h.next->K (.tup []) h') (e:v.cells.length=n:=by exact rfl) (h1:az v.cells=true:=by first|exact rfl|simp[az,V.cells,AY, *]) (hu:bF c o v.cells=some c':=by simp only[evs];exact rfl):HQ (gm h n (.ptr b o) v) K:=ac w a e h1 hu k
end Go.Ev
namespace Go.Ev.Lay
def val:List Nat->Nat
 |[]=>0
 |b::l=>b+256*val l
def f1(b:Nat):Nat:=((b/2)&&&85)+(b&&&85)
def f2(b:Nat):Nat:=((b/4)&&&51)+(b&&&51)
def f3(b:Nat):Nat:=(b/16+b)%16
theorem bytes8(x:Nat)(h:x<18446744073709551616):∃a b c d e f g i:Nat,a<256/\b<256/\c<256/\d<256/\e<256/\f<256/\g<256/\i<256/\x=val [a,b,c,d,e,f,g,i]:=by
 refine⟨x%256,x/256%256,x/256/256%256,x/256/256/256%256,x/256/256/256/256%256,x/256/256/256/256/256%256,x/256/256/256/256/256/256%256,x/256/256/256/256/256/256/256,oM,oM,oM,oM,oM,oM,oM,oM,?_⟩;simp only[val];omega
theorem av{h:Heap}(w:WF h)(c:List V):∃h1,h1=Ev.halloc h c/\Fr [] h h1/\Own h1 h.next c:=⟨_,rfl,Fr.halloc w c,Own.new w c⟩
end Go.Ev.Lay
namespace Go.Ev
theorem dm{call:aD}{f:Nat}{vs:List V}{x:V}{h:Heap}{K:V->Heap->Prop}(d:ay call f vs h fun u h'=>u=x/\h=h')(k:K x h):OQ (call f vs h) K:=d.mono (by rintro _ _ ⟨rfl,rfl⟩;exact k)
theorem aN{call:aD}{f:Nat}{vs:List V}{x:V}{h:Heap}{K:V->Heap->Prop}(d:ay call f vs h fun u h'=>u=x/\Fr [] h h')(k:∀h',Fr [] h h'->K x h'):OQ (call f vs h) K:=d.mono (by rintro _ h' ⟨rfl,F⟩;exact k h' F)
abbrev zn(o:IOp):IStep:=⟨none,o,none⟩
abbrev zp(k:PK)(x:List Opd):IStep:=⟨none,.p k x,none⟩
abbrev zc(k:Nat)(x:List Opd):IStep:=⟨none,.cf k x,none⟩
abbrev zm(k:Nat):IStep:=⟨none,.p .mv [.v k],none⟩
abbrev za(k:Nat):IStep:=⟨none,.p (.faddr k) [.l 0],none⟩
abbrev zA(k v:Nat):IStep:=⟨none,.p (.faddr k) [.v v],none⟩
abbrev zL:IStep:=⟨none,.ld 1 false (.l 0),none⟩
theorem Own.l1{h:Heap}{b:Nat}{c:List V}{v:V}(a:Own h b c)(o:Nat)(e:nth c o=some v:=by exact rfl):ai h b o=some v:=(a.ld1 o).trans e
theorem Own.ldc{h:Heap}{b c:Nat}{cs:List V}(o:Own h b cs)(e:cs.length=c):aH h b 0 c=some cs:=by
 rw[o.ld,cg,aU _ _ (Nat.le_of_eq e.symm),<-e,Sr]
theorem Own.la{h:Heap}{b:Nat}{c:List V}(a:Own h b c)(n:Nat)(e:c.length=n:=by exact rfl):aH h b 0 n=some c:=a.ldc e
end Go.Ev
namespace Go.Ev.Lay
def Om:List Nat:=[0,1,56,2,57,49,28,3,61,58,42,50,38,29,17,4,62,47,59,36,45,43,51,22,53,39,33,30,24,18,12,5,63,55,48,27,60,41,37,16,46,35,44,21,52,32,23,11,54,26,40,15,34,20,31,10,25,14,19,9,13,8,7,6]
def PJ:List V:=Om.map fun(x:Nat)=>V.int .u8 (x:Int)
end Go.Ev.Lay
namespace Go.Ev.De
set_option maxRecDepth 100000
inductive X where
 |n (a:Nat) (b:Int) (c:UInt8)|b (a:Bool)|v (a:V)|w (a:List V)|fn (a:Fn)|k (a:PK)|uk (a:UK)|xk (a:XK)|o (a:Opd)|os (a:List Opd)|i (a:IOp)|s (a:List IStep)|c (a:IC)|ns (a:List Nat)|us (a:List UInt8)|p (a:Nat×Nat)|ps (a:List (Nat×Nat))|q (a:Nat×Nat×Nat)|qs (a:List (Nat×Nat×Nat))|on (a:Option Nat)|rv (a:RV)|r (a:List RV)|f (a:IFn)
def atX:List IC->Nat->IC
 |a::_,0=>a
 |_::l,n+1=>atX l n
 |[],_=>.bad
def dgX:Nat->X
 |0=>.n 0 0 0
 |n+1=>match dgX n with
  |.n a b c=>.n (a+1) (b+1) (c+1)
  |x=>x
def opX(P:List IC):List (List (List X->List X)):=[
 [(fun|.i a::.s b::t=>.s (⟨none,a,none⟩::b)::t|.i a::.n b _ _::.s c::t=>.s (⟨none,a,some b⟩::c)::t|.o d::.b e::.i a::.s b::t=>.s (⟨some (d,e),a,none⟩::b)::t|.o d::.b e::.i a::.n b _ _::.s c::t=>.s (⟨some (d,e),a,some b⟩::c)::t|t=>t),(fun|.n a _ _::t=>.o (.l a)::t|t=>t),(fun|.k a::.os b::t=>.i (.p a b)::t|t=>t),(fun|.n a _ _::t=>.o (.v a)::t|t=>t),(fun|.c a::.c b::t=>.c (.seq a b)::t|t=>t),(fun|.n a b c::.n d e f::t=>.n (a*45+d) (b*45+e) (c*45+f)::t|t=>t),(fun|.v a::t=>.o (.c a)::t|t=>t),(fun|t=>.os []::t),(fun|t=>.k .mv::t),(fun|.s a::t=>.c (.ops a)::t|t=>t),(fun|t=>.s []::t),(fun|.v a::.w b::t=>.w (a::b)::t|.o a::.os b::t=>.os (a::b)::t|.p a::.ps b::t=>.ps (a::b)::t|.q a::.qs b::t=>.qs (a::b)::t|.rv a::.r b::t=>.r (a::b)::t|.n a _ _::.ns b::t=>.ns (a::b)::t|.n _ _ a::.us b::t=>.us (a::b)::t|t=>t)],
 [(fun|.n _ a _::t=>.v (.int .i64 a)::t|t=>t),(fun|.n a _ _::.n b _ _::t=>.p (a,b)::t|.n a _ _::.p b::t=>.q (a,b)::t|t=>t),(fun|.n a _ _::.b b::.o c::t=>.i (.ld a b c)::t|t=>t),(fun|.b a::t=>.v (.bool a)::t|t=>t),(fun|.n a _ _::t=>.k (.faddr a)::t|t=>t),(fun|.us a::t=>.v (.str a)::t|t=>t),(fun|.o a::.c b::.c c::t=>.c (.cond a b c)::t|t=>t),(fun|.n _ a _::t=>.v (.int .u8 a)::t|t=>t),(fun|t=>.c .ret::t),(fun|t=>.c .skip::t),(fun|t=>.v .nils::t),(fun|.n a _ _::.os b::t=>.i (.cf a b)::t|t=>t)],
 [(fun|t=>.w []::t),(fun|.n a _ _::.o b::.o c::t=>.i (.st a b c)::t|t=>t),(fun|.n a _ _::.c b::t=>.c (.block a b)::t|t=>t),(fun|t=>.k .pick::t),(fun|.n a _ _::t=>.rv (.t a)::t|t=>t),(fun|.n a _ _::.c b::.r c::t=>.f ⟨a,b,c⟩::t|t=>t),(fun|.n a _ _::t=>.k (.ixs a)::t|t=>t),(fun|t=>.k (.ib .add)::t),(fun|t=>.ns []::t),(fun|.n a _ _::t=>.k (.ext a)::t|t=>t),(fun|t=>.k (.ib .gtr)::t),(fun|t=>.k .nilck::t)],
 [(fun|.n _ a _::t=>.v (.int .u64 a)::t|t=>t),(fun|.n a _ _::t=>.c (.exit a)::t|t=>t),(fun|t=>.us []::t),(fun|.w a::t=>.i (.al a)::t|t=>t),(fun|t=>.k (.ib .lss)::t),(fun|.c a::t=>.c (.loop a)::t|t=>t),(fun|.o a::t=>.i (.bx a)::t|t=>t),(fun|.w a::.ps b::t=>.k (.build a b)::t|t=>t),(fun|t=>.qs []::t),(fun|.s a::.ns b::.ns c::.qs d::.ps e::t=>.c (.dops a b c d e)::t|t=>t),(fun|t=>.k (.sb .add)::t),(fun|t=>.b true::t)],
 [(fun|.w a::.ps b::.n c _ _::.os d::t=>.i (.bs a b c d)::t|t=>t),(fun|t=>.c .bad::t),(fun|t=>.k .not::t),(fun|t=>.k (.ib .neq)::t),(fun|.n a _ _::.n b _ _::t=>.k (.ixa a b)::t|t=>t),(fun|t=>.k (.ib .rem)::t),(fun|.n a _ _::.n b _ _::.o c::.o d::t=>.i (.ap a b c d)::t|t=>t),(fun|t=>.k (.ib .geq)::t),(fun|t=>.k .lenStr::t),(fun|t=>.k (.ib .sub)::t),(fun|.n a _ _::.n b _ _::.b c::t=>.rv (.c a b c)::t|t=>t),(fun|t=>.k (.sb .eql)::t)],
 [(fun|t=>.k (.conv .i64)::t),(fun|.on a::.n b _ _::.b c::.b d::.b e::t=>.k (.sl a b c d e)::t|t=>t),(fun|t=>.k (.ib .mul)::t),(fun|t=>.k (.ib .leq)::t),(fun|t=>.k (.ib .quo)::t),(fun|t=>.v .nilf::t),(fun|.n a _ _::t=>.fn (.func a)::t|t=>t),(fun|.n a _ _::t=>.c (atX P a)::t|t=>t),(fun|t=>.k (.conv .u64)::t),(fun|t=>.k (.sb .neq)::t),(fun|t=>.on none::t),(fun|.n a b c::t=>.n a (-b) c::t|t=>t)],
 [(fun|t=>.v .nili::t),(fun|t=>.k .ixstr::t),(fun|.n _ a _::t=>.v (.int .u32 a)::t|t=>t),(fun|.n a _ _::.b b::t=>.k (.nil a b)::t|t=>t),(fun|.uk a::.os b::t=>.i (.ux a b)::t|t=>t),(fun|.o a::.os b::t=>.i (.cv a b)::t|t=>t),(fun|t=>.v .nilp::t),(fun|.fn a::.w b::.w c::t=>.v (.func a b c)::t|t=>t),(fun|.b a::.b b::t=>.k (.slstr a b)::t|t=>t),(fun|.b a::t=>.k (.sh a)::t|t=>t),(fun|t=>.k (.conv .u8)::t),(fun|.fn a::.n b _ _::t=>.k (.mkf a b)::t|t=>t)],
 [(fun|.n _ a _::t=>.v (.int .i32 a)::t|t=>t),(fun|.n a _ _::.w b::t=>.uk (.alt a b)::t|t=>t),(fun|.n a _ _::t=>.on (some a)::t|t=>t),(fun|t=>.i .bad::t),(fun|.n a _ _::t=>.k (.mki a)::t|t=>t),(fun|t=>.k .neg::t),(fun|.o a::t=>.i (.b2s a)::t|t=>t),(fun|.n a _ _::t=>.o (.g a)::t|t=>t),(fun|.n a _ _::.n b _ _::.b c::t=>.k (.ixarr a b c)::t|t=>t),(fun|.xk a::t=>.uk (.ext a)::t|t=>t),(fun|t=>.ps []::t),(fun|t=>.k .capS::t)],
 [(fun|t=>.k .mn::t),(fun|t=>.b false::t),(fun|t=>.r []::t),(fun|t=>.k (.ib .xor)::t),(fun|.b a::t=>.k (.bb a)::t|t=>t),(fun|.c a::.n b _ _::.c c::t=>.c (.scope a b c)::t|t=>t),(fun|.b a::.ns b::t=>.k (.seq a b)::t|t=>t),(fun|t=>.uk .s2b::t),(fun|.w a::.n b _ _::.o c::.o d::t=>.i (.mk a b c d)::t|t=>t),(fun|.b a::.o b::t=>.i (.it a b)::t|t=>t),(fun|t=>.k (.sb .leq)::t),(fun|t=>.k (.sb .geq)::t)],
 [(fun|t=>.k (.conv .u32)::t),(fun|.c a::t=>.c (.wd a)::t|t=>t),(fun|.o a::.os b::t=>.i (.df a b)::t|t=>t),(fun|t=>.uk .sd::t),(fun|.n a _ _::t=>.uk (.us a)::t|t=>t),(fun|.n a _ _::t=>.k (.tya a)::t|t=>t),(fun|t=>.xk .cnt::t),(fun|.n a _ _::.n b _ _::.n c _ _::t=>.uk (.apt a b c)::t|t=>t),(fun|.o a::t=>.i (.pn a)::t|t=>t),(fun|t=>.uk .tou::t),(fun|t=>.xk .same::t),(fun|.qs a::t=>.uk (.fru a)::t|t=>t)],
 [(fun|t=>.uk .pe::t),(fun|t=>.k (.ib .and)::t),(fun|.n a _ _::t=>.uk (.mnz a)::t|t=>t),(fun|.n a _ _::.o b::.o c::t=>.i (.cp a b c)::t|t=>t),(fun|t=>.xk .ixb::t),(fun|t=>.k .lenS::t),(fun|t=>.k .mx::t),(fun|t=>.k (.ib .eql)::t),(fun|.n a _ _::t=>.c (.goto a)::t|t=>t)]]
def nX{α:Type}(z:α):List α->Nat->α
 |[],_=>z
 |a::_,0=>a
 |_::l,n+1=>nX z l n
abbrev TX:=List (List (List Nat))
def cX(s:String){l:List Char}(h:s=String.ofList l:=by rfl):List Nat:=l.map fun c=>c.toNat-40
def gX(t:TX)(k:Nat):List Nat:=nX [] (nX [] t (k/87)) (k%87)
def bX(t:TX):List (List Nat)->List Nat->List (List Nat)
 |r,a::b::s=>bX t (r++[gX (t++[r]) a++gX (t++[r]) b]) s
 |r,_=>r
def iX:Nat->Nat->List (List Nat)
 |0,_=>[]
 |n+1,k=>[k]::iX n (k+1)
def oX:List Nat:=[52,55,56,83,85,0,92,139,142,143,170,172,5,4,6,8,2,7,3,9,1,10,13,12,192,179,235,0,11,201,229,17,214,16,14,321,251,241,19,182,24,259,18,200,256,254,222,230,177,191,282,15,0,202,22,0,0,215,20,322,262,239,349,32,319,31,238,176,273]
def yX:List Nat->List Nat
 |[]=>[]
 |[c]=>[nX 0 oX c]
 |c::d::s=>bif Nat.blt c 69 then nX 0 oX c::yX (d::s)else ((nX 0 [0,1,2,3,4,5,6,7,8,9,10,11,12,13,0,14,0,15] (c-69))*87+d)::yX s
def r0:=(⟨_,wX⟩:{b//Wi (iX 87 0) b}).1
def r1:=(⟨_,wX⟩:{b//Wi (iX 87 87) b}).1
def r2:=(⟨_,wX⟩:{b//Wi (bX [r0,r1] [] (yX (cX "mWmUCmVo)*mX*m[*o((mU(m^mYo(o/mao,mV*0<*C0mdmZ*o3mco)o7(kAko.kXm]mb*Ym]*o5Co1mXmg8o6oA)<mZmi)m]O+mfmVo.o(o8(o@mW.o4mamW0o,kA<CXOmYmUo8mUo/*oGCmb<o6m]o(CmeoIo.mZmlo1kCCo?o?o2mp<X<o2mq*o4mho=<o,oFO)o<o(mZmZmjoE:X8mVo>A*mkoaoECo=.mdmY)mX.mmmk8(oJoFa)o)o.ooo,<memVo;8o2CCo>oO8mZmho,"))) b}).1
def r3:=(⟨_,wX⟩:{b//Wi (bX [r0,r1,r2] [] (yX (cX "oIo;8Xo^AAHoJoWCCmbo4o]o]p.oUo5oNmo)oLoLofm^o3oH*m|mnmU<oH7*mzmjojoR<mr4X5(momYoRo.o)o;:me/<o>@<mnmXn(o[mt*n)]mloS)X,o)pEoTobCo<mv@<mVmhoNmmCo^@Cp26(o).o(m^o>o(oloTmumuCp:CC8omo@kCCCCpFoS5Xmfo,]E8meo5odam~CpamVoRmsAoKov*n.1p]ogog<p?pGApYpMoconpRma5mepZ)pop[8mro=n*g*mUpVCCo4myCCoYF"))) b}).1
def r4:=(⟨_,wX⟩:{b//Wi (bX [r0,r1,r2,r3] [] (yX (cX "p3oL9Xo|pppLo.:o2CCmco.6Xmkod<o18oZ<pr:oy9*oTpqorq6<pOq8C9meYowoOo2DSX3oMov.p8oMpAo,oWo=pup+mxp;q@oKp8p;p5pm8mWp5o<Oo[mwSpc8oHmfoNV@oKqEp9p9:mZSq=:oH;X15oMqGp/p/4meq<q9CoUCCn+mYo1oFCCCCoOXjospgpTn,@5o2mj)ocoUp3ol7(7X:o<5oZp+2pKOqVom4o<9(@2pPq+pi.:oZ4(mjn/:(ocq35otCC9oZCCmcoS"))) b}).1
def r5:=(⟨_,wX⟩:{b//Wi (bX [r0,r1,r2,r3,r4] [] (yX (cX "oKpA:p*6oZA+oGodCC</o|o16*=*oJkoYemcmUmsOoAoppkp1<pho)6Wm]qhq(qnm~r8p<<o<mcpJmtpWn4o;@W](o~pCqAow8mX5mXmxAoq8otoppnogpnrK8p*:oVmBSe<m=Sn8*S[oYdpi0pxq[q>OqWFVAQEl)CC8qy:mrCCCCmmoG5oV;(]XVqDjp>o,HSrQoMq4pLo;mno.o<Aojo;pIp@5Mobr;oq7p6pzrAr.m]AmyoNoK5oM5p6mUpH@4*CC4oVCC4pS"))) b}).1
def r6:=(⟨_,wX⟩:{b//Wi (bX [r0,r1,r2,r3,r4,r5] [] (yX (cX "mco;/n*osr,p6o;pXo)CCq5q5qPFqQqQ<oU<pj8o<4o26o29oVoGoNoq6psp|qZpO:o16mso(n+p0<pIo;pQ3qXqXqZmvr<pTrLmZCof:oc6on7oV;oVA=o5qBSboMqMjpUorolqNqdr2mwr9mXrRoErSS<ms8p76om?oVmno;Xr@oq4CCorrpp(UCCCCpMp|pSn0r+py8ph5*DX(p1m]@o)rF]MVOVLobobpQn3p^3sFr]sdpw4oZ6oV6ot6sD=oVDoV?XmSmN2o(CCo=8CCoRo;"))) b}).1
def r7:=(⟨_,wX⟩:{b//Wi (bX [r0,r1,r2,r3,r4,r5,r6] [] (yX (cX "ojrjorq(pxs1t)obCsuCC<mT5o16pj;msDmOGt2mAsymPt4n?p/AdAZoM4pz6qIpNqL+r5pvt.t3t5t>t6oTt?t,N]WoWod)eUMp1osq0p0:pCq3pHOqOrHtGp<8ot8p24ms6me7o<nDn;@n:oA/oKqMoSoppFmUpSWpmosq>BqHpDCCr(m]4mZCCCCIX0.+r11.o)rGA5oMrmoOpGoqGplo;qa2qop>qzpw<o[:*:mV4p7moopEIoKq4o~=plo.r~Ts*p<<tW8p,CC5p*CC4mX"))) b}).1
def r8:=(⟨_,wX⟩:{b//Wi (bX [r0,r1,r2,r3,r4,r5,r6,r7] [] (yX (cX "4n26n2=(JSItsCCmASmi/o4*VBp*p1p+n6lqfpIo.qFpNqbpfqtqTrPu(s)q[s>qCtzr=8mv8p:5mZ;E1sWYn0EDoLoboYho^oMB6p6o.pfp<p|uDp~pBqNn,qPdqRErPu)sOuJ:p?9o27mX;mX=XDuC[XRSmZqK.5myrgCCo8o.@rHCCCC@tKoOo[oYq1orsaoyWTu=o|XQMp(qOpConpRmhq1oFq~ops(Ws7n9Ctr8o18sS:mX5E6p7?(>Xm[q+mmmmn@nMCCo(o)CCAe"))) b}).1
def r9:=(⟨_,wX⟩:{b//Wi (bX [r0,r1,r2,r3,r4,r5,r6,r7,r8] [] (yX (cX "o<BoK4ootDoq5osuICCoy2o~Ip0onp6oSpKqrrwrUsGq7u0muuQu>4oc9oH7p7mC]..mlp@o(q]A:Opvo<pkoKqTajepBotmYTrtplmUqiq0qmLr0r0r:s:rXVs.s.s0s0setot;q?<rD8mb8ti:]:oa:ph4p,6rs9S9tA?E[ECCGE*t@CCCCmkqBApNa/Vs=p(pBp(ptpW)q2p@qHotqoror4q]rqmcsNpfscsPtHqCvUr^v[[v]GCmX<p78o[:p,:pD5oc5pD4q.CC9p,CC;p,"))) b}).1
def r10:=(⟨_,wX⟩:{b//Wi (bX [r0,r1,r2,r3,r4,r5,r6,r7,r8,r9] [] (yX (cX "=ED]>EGXmU<CC)(mtA,Ln+opnFqBnILOjYZ@ToOo1oOo<oYZBo)p>r,pPo)pQmwp^n1psq(q7pHqlpJqmqcr7r)r7twr:sBsAsAsEq]t8mxtMp<w*>Cru<mb:ty4oa4l9q.7me;o2JEbEPSmFEmVmUmcp@191vT2LCC3OmwLCCCCA7o.Ho1oWo3wWo5o,o=pZo?oLoMqToYfWq9Ws2oboTp(cp(rep05p09pQn1pYpqp^n5pgtNpswgp~UqFr>qaHqup@rawlCCrfpfCCriW"))) b}).1
def r11:=(⟨_,wX⟩:{b//Wi (bX [r0,r1,r2,r3,r4,r5,r6,r7,r8,r9,r10] [] (yX (cX "rvu8s7nCs?res|oUu@;CCursiutp>vYo1wMsqwSJwTbwVmFwuwr8*8rD5p,5p75sb4]4q*=gR(m=Eit^mmo5myo,n4o.nEq^]rLoSjoYq/ofq]p>pfptOq*6q0)q7ryq;rMqAshqHMqIr>r0rzr23r:q<rWoEri2rk/rxr=tgmxuHwjufsBCCv7vxvdopCCCCw;pwx?m=xIpw<mo<uj<xD8=:l:tX5J5mr5q*4pD6o<9o=9pX7o2;S=o1=S=sLD^JXJQ^xEmBrnCCgxyCCmLE"))) b}).1
def r12:=(⟨_,wX⟩:{b//Wi (bX [r0,r1,r2,r3,r4,r5,r6,r7,r8,r9,r10,r11] [] (yX (cX "mPx=0nOmlmU1wN3aCCnHo,o(pVAh]Y]oJoGqBoK6oKrmoLoloYs;o[n=FkFHe,ecM8UAdq:p04q2mUqJpvqo5qumUr3pBsmsmt:q.tZt(tt2uApUugHv/yHvKq?viqbw(=w5,wCuowYoaxTm]xgy(xjx|xl5xvyUx~mLyTyWCnA<8CC8ms:msCCCC:o^:M:o~:q*5o<5o~669mX9q27tA;*;o<[(IqKRqSmAE0ov+pymmt@mt@ENEm?HnGoYt/jqqoyTCCToWCCp(wk"))) b}).1
def r13:=(⟨_,wX⟩:{b//Wi (bX [r0,r1,r2,r3,r4,r5,r6,r7,r8,r9,r10,r11,r12] [] (yX (cX "ZHpCsppHAp^tOpjqpCCpx8p~slq;r)qAm]qJqwqg<qsqUq|0q|p@r*mUr?o)rEr)raplrbpyrrvzs,ojs;oWsgrMt9oHtBqKtCpPtcsPucuOukr;v3q4vZ?xAy6xQq?x]spxdp[ypmAzHsaCmaC/<v58o^:rI5pj4qJ4rJ7om;]D(?*GSRECCNqSNyuCCCCm?yv(H04)w<mhuxmlpJn@nQnHoNXszAq/Y5YWo=muoGo,oJq/oK7Hv;FpBB9BtLBv,of7eptUOUoYT3CCo~HCCp(qY"))) b}).1
def r14:=(⟨_,wX⟩:{b//Wi (bX [r0,r1,r2,r3,r4,r5,r6,r7,r8,r9,r10,r11,r12,r13] [] (yX (cX "p(rYp9q5pQ,pUq0hy[CCpguppzwPq2o;q2pJqHpXqan6qbq0rGGrTq:rqr?s(qOsR4t~sVuapNv4tjvNx6xOowxZpOyQs/yYqKyjnEzNm[|,n2CmyCM<*<mX<pG8oa8pD8q.8sY8v5:uF:vD5n25pr5tX4on4p*6mX6p*6p,6q.9E9oyCC9l9rlCCCC7E7qK=Q=p,D*Do2DogDQ?]>*>sLJ*I(^|gmBEmDEmErhimLmN]mOEmju/mkrgmlo.mtOn1tknKmUCCAfCCOn/"))) b}).1
def r15:=(⟨_,wX⟩:{b//Wi (bX [r0,r1,r2,r3,r4,r5,r6,r7,r8,r9,r10,r11,r12,r13,r14] [] (yX (cX "o3w3YH@q,o@F]r6CCoS|4o[n7Wzqofn+jtMeqYoq9UqDo~?p(q:pDowpImUp^,p~cq,qdq,xzq/kq7s+qCqsqlp@qmqmqqw2qtq4qxsKr*o.r+r1r4vRrWn/rWpTrbrNrdr@rfzTrwoHrzrzs,tps6sss8r?sGzM"))) b}).1
def tX:TX:=[r0,r1,r2,r3,r4,r5,r6,r7,r8,r9,r10,r11,r12,r13,r14,r15]
def uX(P:List IC):List Nat->List X->List X
 |[],t=>t
 |c::l,t=>uX P l (bif Nat.blt c 45 then dgX c::t else nX id (nX [] (opX P) ((c-45)/12)) ((c-45)%12) t)
def xX(P:List IC):List Nat->List X->List X
 |[],t=>t
 |c::l,t=>xX P l (uX P (gX tX c) t)
def fX(P:List IC)(s:String){l:List Char}(h:s=String.ofList l:=by rfl):IFn:=match xX P (yX (l.map fun c=>c.toNat-40)) [] with
 |.f x::_=>x
 |_=>⟨0,.bad,[]⟩
def icX(P:List IC)(s:String){l:List Char}(h:s=String.ofList l:=by rfl):IC:=match xX P (yX (l.map fun c=>c.toNat-40)) [] with
 |.c x::_=>x
 |_=>.bad
def NI:List (Option IFn)->List (Option IFn)
 |a::_::l=>a::NI l
 |l=>l
def bX2:Nat->List (Option IFn)->T IFn
 |n+1,a::l=>.n (bX2 n (NI l)) a (bX2 n (NI (l.drop 1)))
 |_,_=>.e
def lX(s:String){l:List Char}(h:s=String.ofList l:=by rfl):List (Option IFn):=(xX [] (yX (l.map fun c=>c.toNat-40)) []).map fun
 |.f x=>some x
 |_=>none
abbrev hX(s:String){l:List Char}(h:s=String.ofList l:=by rfl){b:List (Option IFn)}(k:Wi (lX s h) b:=by exact wX):List (Option IFn):=mX _ k
abbrev dX(s:String){l:List Char}(h:s=String.ofList l:=by rfl){b:IFn}(k:Wi (fX [] s h) b:=by exact wX):IFn:=mX _ k
abbrev eX(s:String){l:List Char}(h:s=String.ofList l:=by rfl){b:IC}(k:Wi (icX [] s h) b:=by exact wX):IC:=mX _ k
end Go.Ev.De
namespace Go.Ev
abbrev Qw:=@Go.Ev.Fr.refl
abbrev Qx:=@Go.Ev.Fr.trans
abbrev QI:=@Go.Ev.Recs.fr
abbrev QW:=@Go.Ev.Fr.halloc
abbrev Rg:=@Go.Ev.Recs.ix
abbrev Rj:=@Go.Ev.fwrap_u64
abbrev Ro:=@Go.Ev.Own.new
abbrev RI:=@Go.Ev.Sl.one
abbrev RM:=@Go.Ev.Sl.lit
abbrev Sn:=@Go.Ev.fwrap_i64
abbrev Sv:=@Go.Ev.Own.ldc
abbrev SH:=@Go.Ev.Recs.nil
abbrev SM:=@Go.Ev.Gs.sl
abbrev Tt:=@Go.Ev.Fr.fresh
abbrev Ub:=@Go.Ev.Sl.upto
end Go.Ev
namespace Go.Ev
abbrev ZZ(n:Int):V:=.int .i64 n
abbrev ZY(n:Int):V:=.int .u8 n
abbrev ZX(n:Int):V:=.int .u64 n
end Go.Ev
