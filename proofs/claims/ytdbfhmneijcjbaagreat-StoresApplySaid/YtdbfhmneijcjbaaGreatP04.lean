/- An evaluator of the program, and contracts over it: EvWb to LayAb. -/
import Derived.Below
import Derived.Test.YtdbfhmneijcjbaaGreatP03
set_option linter.unusedSimpArgs false
set_option linter.unusedVariables false
set_option linter.constructorNameAsVariable false
set_option linter.unnecessarySimpa false
namespace Go.Ev
theorem ce(k:IntKind):mV k k=true:=by simp[mV]
theorem BZ(x:V):aP .mv [x]=some x:=rfl
theorem BX(c:Bool)(a b:V):aP .pick [.bool c,a,b]=some (bif c then a else b):=rfl
theorem tI(b o:Nat):aP .nilck [.ptr b o]=some (.ptr b o):=rfl
theorem v8(f:Nat)(x y:List V):aP .nilck [.func (.func f) x y]=some (.func (.func f) x y):=rfl
theorem Ha(k:IntKind)(a b:Int):aP (.ib .add) [.int k a,.int k b]=some (.int k (bX k (a+b))):=by simp only[aP,ce,cond_true,iK];rfl
theorem GC(k:IntKind)(a b:Int):aP (.ib .sub) [.int k a,.int k b]=some (.int k (bX k (a-b))):=by simp only[aP,ce,cond_true,iK];rfl
theorem AW(k:IntKind)(a b:Int):aP (.ib .mul) [.int k a,.int k b]=some (.int k (bX k (a*b))):=by simp only[aP,ce,cond_true,iK];rfl
theorem pZ(k:IntKind)(a b:Int)(h:b≠0):aP (.ib .quo) [.int k a,.int k b]=some (.int k (bX k (a.tdiv b))):=by
 have:ieq b 0=false:=by rw[fy];simpa using h
 simp only[aP,ce,cond_true,iK,this,cond_false]
theorem nm(k:IntKind)(a b:Int)(h:b≠0):aP (.ib .rem) [.int k a,.int k b]=some (.int k (a.tmod b)):=by
 have:ieq b 0=false:=by rw[fy];simpa using h
 simp only[aP,ce,cond_true,iK,this,cond_false]
theorem AY(k:IntKind)(a b:Int):aP (.ib .eql) [.int k a,.int k b]=some (.bool (decide (a=b))):=by simp only[aP,ce,cond_true,iK,fy];rfl
theorem GJ(k:IntKind)(a b:Int):aP (.ib .neq) [.int k a,.int k b]=some (.bool (!decide (a=b))):=by simp only[aP,ce,cond_true,iK,fy];rfl
theorem GN(k:IntKind)(a b:Int):aP (.ib .lss) [.int k a,.int k b]=some (.bool (decide (a<b))):=by simp only[aP,ce,cond_true,iK,iJ]
theorem GU(k:IntKind)(a b:Int):aP (.ib .gtr) [.int k a,.int k b]=some (.bool (decide (b<a))):=by simp only[aP,ce,cond_true,iK,iJ]
theorem GO(k:IntKind)(a b:Int):aP (.ib .leq) [.int k a,.int k b]=some (.bool (decide (a<=b))):=by simp only[aP,ce,cond_true,iK,iJ];congr 2;rw[Ur];simp
theorem GW(k:IntKind)(a b:Int):aP (.ib .geq) [.int k a,.int k b]=some (.bool (decide (b<=a))):=by simp only[aP,ce,cond_true,iK,iJ];congr 2;rw[Ur];simp
theorem GH(b:Bool):aP .not [.bool b]=some (.bool (!b)):=rfl
theorem GL(k:IntKind)(n:Int):aP .neg [.int k n]=some (.int k (bX k (0-n))):=rfl
theorem GZ(a b:Bool):aP (.bb false) [.bool a,.bool b]=some (.bool (decide (a=b))):=by cases a<;>cases b<;>rfl
theorem GY(a b:Bool):aP (.bb true) [.bool a,.bool b]=some (.bool (!decide (a=b))):=by cases a<;>cases b<;>rfl
theorem jm(off b o:Nat):aP (.faddr off) [.ptr b o]=some (.ptr b (o+off)):=rfl
theorem GX(i:Nat)(l:List V):aP (.ext i) [.tup l]=nth l i:=rfl
theorem wi(off n:Nat)(l:List V):aP (.field off n false) [.agg l]=nth l off:=rfl
theorem wg(off n:Nat)(l:List V):aP (.field off n true) [.agg l]=(dA n (fX l off)).map .agg:=rfl
theorem GM(fn:Fn)(n:Nat)(vs:List V):aP (.mkf fn n) vs=(dA n vs).map fun f=>.func fn f (fX vs n):=rfl
theorem zS(zero:List V)(places:List (Nat×Nat))(vs:List V):aP (.build zero places) vs=(dP zero places vs).map .agg:=rfl
theorem JQ(k k':IntKind)(a b:Int):aP .mn [.int k a,.int k' b]=some (.int k (min a b)):=by simp only[aP,iJ];congr 2;by_cases h:b<a;grind;grind
theorem JP(k k':IntKind)(a b:Int):aP .mx [.int k a,.int k' b]=some (.int k (max a b)):=by simp only[aP,iJ];congr 2;by_cases h:a<b;grind;grind
theorem B9(k k':IntKind)(n:Int):aP (.conv k) [.int k' n]=some (.int k (bX k n)):=rfl
theorem B5:aP .lenS [.nils]=some (.int .i64 0):=rfl
theorem B4(b o len cap:Nat):aP .lenS [.slice b o len cap]=some (.int .i64 len):=rfl
theorem B3(b o len cap:Nat):aP .lenS [.sliceU b o len cap]=some (.int .i64 len):=rfl
theorem B6:aP .lenS [.sliceE]=some (.int .i64 0):=rfl
theorem we(n:Nat)(v:V):aP (.lenArr n) [v]=some (.int .i64 n):=rfl
theorem Cb:aP .capS [.nils]=some (.int .i64 0):=rfl
theorem Ca(b o len cap:Nat):aP .capS [.slice b o len cap]=some (.int .i64 cap):=rfl
theorem gw(esz b o len cap:Nat)(k:IntKind)(i:Int)(h0:0<=i)(Z:i<len):aP (.ixs esz) [.slice b o len cap,.int k i]=some (.ptr b (o+i.toNat*esz)):=by
 obtain⟨n,rfl⟩:∃n:Nat,i=n:=⟨i.toNat,oM⟩;have:Nat.blt n len=true:=by simp only[SI];omega
 simp only[aP,kP];show Option.map _ (bif Nat.blt n len then some n else none)=_;rw[this];rfl
theorem nr(esz b o len cap:Nat)(k:IntKind)(i:Int)(h0:0<=i)(Z:i<len):aP (.ixs esz) [.sliceU b o len cap,.int k i]=some (.ptr b (o+i.toNat*esz)):=by
 obtain⟨n,rfl⟩:∃n:Nat,i=n:=⟨i.toNat,oM⟩;have:Nat.blt n len=true:=by simp only[SI];omega
 simp only[aP,kP];show Option.map _ (bif Nat.blt n len then some n else none)=_;rw[this];rfl
theorem xM(esz b o len:Nat)(k:IntKind)(i:Int)(h0:0<=i)(Z:i<len):aP (.ixa len esz) [.ptr b o,.int k i]=some (.ptr b (o+i.toNat*esz)):=by
 obtain⟨n,rfl⟩:∃n:Nat,i=n:=⟨i.toNat,oM⟩;have:Nat.blt n len=true:=by simp only[SI];omega
 simp only[aP,kP];show Option.map _ (bif Nat.blt n len then some n else none)=_;rw[this];rfl
theorem KG(k k':IntKind)(a b:Int)(h:0<=b):aP (.sh true) [.int k a,.int k' b]=some (.int k (bX k (a*(2^(min b.toNat k.bits):Nat)))):=by obtain⟨n,rfl⟩:∃n:Nat,b=n:=⟨b.toNat,oM⟩;rfl
theorem AV(k k':IntKind)(a b:Int)(h:0<=b):aP (.sh false) [.int k a,.int k' b]=some (.int k (a.fdiv (2^(min b.toNat k.bits):Nat))):=by obtain⟨n,rfl⟩:∃n:Nat,b=n:=⟨b.toNat,oM⟩;rfl
def pv:Option Nat->V
 |none=>.nilp
 |some b=>.ptr b 0
theorem jy:pv none=.nilp:=rfl
theorem aT(b:Nat):pv (some b)=.ptr b 0:=rfl
theorem fw(o:Option Nat):(pv o).one=true:=by cases o<;>rfl
theorem aw{v:V}(h:v.one=true):v.cells=[v]:=by cases v<;>first|rfl|(simp[V.one]at h)
theorem yo(o:Option Nat):(pv o).cells=[pv o]:=aw (fw o)
theorem BY(ne:Bool)(o:Option Nat):aP (.nil 0 ne) [pv o,.nilp]=some (.bool (bif ne then o.isSome else o.isNone)):=by cases o<;>cases ne<;>rfl
theorem wb(b o:Nat)(ne:Bool):aP (.nil 0 ne) [.ptr b o,.nilp]=some (.bool ne):=by cases ne<;>rfl
theorem wc(ne:Bool):aP (.nil 0 ne) [.nilp,.nilp]=some (.bool (!ne)):=by cases ne<;>rfl
theorem v7(c:List V):dP c [] []=some c:=rfl
theorem AP(c:List V)(off size:Nat)(ps:List (Nat×Nat))(v:V)(vs:List V)(h:v.cells.length=size)(h0:0<size):
 dP c ((off,size)::ps) (v::vs)=(bu c off v.cells).bind fun c'=>dP c' ps vs:=by
 subst h;simp only[dP];have:Nat.blt 0 v.cells.length=true:=by simpa[SI]using h0
 rw[this];simp only[TT,Ui,cond_true];cases bu c off v.cells<;>rfl
theorem BV(c:List V)(off size:Nat)(ps:List (Nat×Nat))(v:V)(vs:List V):
 dP c ((off,size)::ps) (v::vs)=if v.cells.length=size then if 0<size then(bu c off v.cells).bind fun c'=>dP c' ps vs else none else none:=by
 by_cases h:v.cells.length=size;rw[if_pos h];by_cases h0:0<size;rw[if_pos h0,AP _ _ _ _ _ _ h h0];rw[if_neg h0];have:Nat.blt 0 size=false:=by cases hb:Nat.blt 0 size;rfl;rw[SI]at hb;exact absurd hb h0
 simp[dP,this];rw[if_neg h];have:Nat.beq v.cells.length size=false:=by cases hb:Nat.beq v.cells.length size;rfl;exact absurd (RY hb) h
 simp[dP,this]
theorem vR(k:IntKind)(n:Int):(V.int k n).cells=[.int k n]:=rfl
theorem tw(b:Bool):(V.bool b).cells=[.bool b]:=rfl
theorem vP(b:List UInt8):(V.str b).cells=[.str b]:=rfl
theorem vQ(b o:Nat):(V.ptr b o).cells=[.ptr b o]:=rfl
theorem tj:V.nilp.cells=[.nilp]:=rfl
theorem ti:V.nils.cells=[.nils]:=rfl
theorem qu(b o l c:Nat):(V.slice b o l c).cells=[.slice b o l c]:=rfl
theorem oP(b o l c:Nat):(V.sliceU b o l c).cells=[.sliceU b o l c]:=rfl
theorem tu(f:Fn)(a b:List V):(V.func f a b).cells=[.func f a b]:=rfl
theorem tp:V.nilf.cells=[.nilf]:=rfl
theorem vS(l:List V):(V.agg l).cells=l:=rfl
theorem ah(n:Int)(Z:-9223372036854775808<=n)(K:n<=9223372036854775807):bX .i64 n=n:=by rw[dW];simp only[IntKind.wrap,IntKind.bits,IntKind.signed];simp;omega
theorem Ft(n:Int)(Z:0<=n)(K:n<=255):bX .u8 n=n:=by rw[dW];simp only[IntKind.wrap,IntKind.bits,IntKind.signed];simp;omega
theorem dG(n:Int)(Z:0<=n)(K:n<=18446744073709551615):bX .u64 n=n:=by rw[dW];simp only[IntKind.wrap,IntKind.bits,IntKind.signed];simp;omega
def WF(h:Heap):Prop:=∀p,h.next<=p->h.bl.get p=none/\h.fams.get p=none
def Own(h:Heap)(b:Nat)(c:List V):Prop:=∃f k,h.bl.get b=some (.row c f k)/\((h.fams.get f=none/\f=b)\/∃e,h.fams.get f=some (b,e))
theorem Own.uniq{h:Heap}{b:Nat}{c c':List V}(a:Own h b c)(K:Own h b c'):c=c':=by let⟨f,k,e,_⟩:=a;let⟨f',k',Z,_⟩:=K;rw[e]at Z;cases Z;rfl
theorem Own.lt{h:Heap}{b:Nat}{c:List V}(a:Own h b c)(w:WF h):b<h.next:=by let⟨f,k,e,_⟩:=a;obtain x|x:=TB b h.next;exact x;rw[(w b x).1]at e;cases e
theorem Own.cells{h:Heap}{b:Nat}{c:List V}(a:Own h b c):dN h b=some c:=by let⟨f,k,e,x⟩:=a;simp only[dN,e,rd];obtain⟨x,rfl⟩|⟨Z,x⟩:=x;rw[x];rfl;rw[x];simp
theorem Own.ld1{h:Heap}{b:Nat}{c:List V}(a:Own h b c)(o:Nat):ab h b o=nth c o:=by simp only[ab,a.cells]
theorem Own.ld{h:Heap}{b:Nat}{c:List V}(a:Own h b c)(o n:Nat):aj h b o n=dA n (fX c o):=by simp only[aj,a.cells]
theorem fO(h:Heap)(n b o:Nat):jk h n false (.ptr b o)=ab h b o:=rfl
theorem ni(h:Heap)(n b o:Nat):jk h n true (.ptr b o)=(aj h b o n).map .agg:=rfl
theorem fK(l:List V):fX l 0=l:=by rw[bM];rfl
theorem sU(v:V)(l:List V)(n:Nat):fX (v::l) (n+1)=fX l n:=rfl
def Pl(h:Heap)(b:Nat)(c:List V):Prop:=(∃k,h.bl.get b=some (.row c b k))/\h.fams.get b=none
theorem Pl.own{h:Heap}{b:Nat}{c:List V}(a:Pl h b c):Own h b c:=by let⟨⟨k,e⟩,f⟩:=a;exact⟨b,k,e,.inl ⟨f,rfl⟩⟩
def Iq:Blk->Bool
 |.lp _ _ _ _ _ _=>true
 |.mp _ _=>true
 |_=>false
def Rs(h:Heap)(b:Nat)(c:List V):Prop:=∃f k ow,h.bl.get b=some (.row c f k)/\h.fams.get f=some (ow,k)/\h.bl.get ow=none/\ow<h.next
theorem Rs.set{h:Heap}{b:Nat}{c:List V}(r:Rs h b c){Z:Nat}{c0 c1:List V}{K k0 k1:Nat}(e:h.bl.get Z=some (.row c0 K k0))(x:(h.fams.get K=none)\/∃e',h.fams.get K=some (Z,e'))(F':T (Nat×Nat))(hF:F'=h.fams\/∃y,F'=h.fams.set K y)(n':Nat)(hn:h.next<=n'):
 Rs ⟨h.bl.set Z (.row c1 K k1),n',F'⟩ b c:=by
 let⟨f,k,ow,e1,e2,e3,e4⟩:=r;have ac:f≠K:=by grind
 have hb:b≠Z:=by grind
 have ho:ow≠Z:=by grind
 refine⟨f,k,ow,?_,?_,?_,by show ow<n';omega⟩;show(h.bl.set Z _).get b=_;rw[Sd _ _ hb];exact e1;show F'.get f=_;obtain rfl|⟨y,rfl⟩:=hF;exact e2;rw[Sd _ _ ac];exact e2;show(h.bl.set Z _).get ow=_;rw[Sd _ _ ho];exact e3
theorem Rs.new{h:Heap}{b:Nat}{c:List V}(r:Rs h b c)(w:WF h)(k:Blk):Rs ⟨h.bl.set h.next k,h.next+1,h.fams⟩ b c:=by
 let⟨f,k',ow,Z,e2,e3,e4⟩:=r;have K:b≠h.next:=by rintro rfl;rw[(w _ (RW _)).1]at Z;cases Z
 refine⟨f,k',ow,?_,e2,?_,by show ow<h.next+1;omega⟩;show(h.bl.set _ _).get b=_;rw[Sd _ _ K];exact Z;show(h.bl.set _ _).get ow=_;rw[Sd _ _ oM];exact e3
structure Fr(S:List Nat)(h h':Heap):Prop where
 next:h.next<=h'.next
 wf:WF h'
 own:∀b c,b∉S->Own h b c->Own h' b c
 pl:∀b c,b∉S->Pl h b c->Pl h' b c
 lp:∀b x,Iq x=true->h.bl.get b=some x->h'.bl.get b=some x
 ro:∀b c,Rs h b c->Rs h' b c
theorem Fr.refl{S:List Nat}{h:Heap}(w:WF h):Fr S h h:=⟨RW _,w,fun _ _ _ x=>x,fun _ _ _ x=>x,fun _ _ _ x=>x,fun _ _ x=>x⟩
theorem Fr.trans{S S' T:List Nat}{h h1 h2:Heap}(a:Fr S h h1)(b:Fr S' h1 h2)(w:WF h)(hs:∀x,x∈S→x∈T∨h.next≤x)(hs':∀x,x∈S'→x∈T∨h.next≤x):Fr T h h2 where
 next:=Nat.le_trans a.next b.next
 wf:=b.wf
 lp:=fun x k hk o=>b.lp x k hk (a.lp x k hk o)
 ro:=fun x c r=>b.ro x c (a.ro x c r)
 own:=fun x c hx o=>by have:=o.lt w;refine b.own x c (fun m=>?_) (a.own x c (fun m=>?_) o);grind;grind
 pl:=fun x c hx o=>by have:=o.own.lt w;refine b.pl x c (fun m=>?_) (a.pl x c (fun m=>?_) o);grind;grind
theorem Fr.then{h h1 h2:Heap}(a:Fr [] h h1)(b:Fr [] h1 h2):Fr [] h h2 where
 next:=Nat.le_trans a.next b.next
 wf:=b.wf
 lp:=fun x k hk o=>b.lp x k hk (a.lp x k hk o)
 ro:=fun x c r=>b.ro x c (a.ro x c r)
 own:=fun x c _ o=>b.own x c iS (a.own x c iS o)
 pl:=fun x c _ o=>b.pl x c iS (a.pl x c iS o)
theorem Fr.get{h h':Heap}(a:Fr [] h h'){b:Nat}{c:List V}(o:Own h b c):Own h' b c:=a.own b c iS o
theorem WF.halloc{h:Heap}(w:WF h)(c:List V):WF (halloc h c):=by intro p K;have Z:h.next+1<=p:=K;have:=w p oM;exact⟨by show(h.bl.set _ _).get p=none;rw[Sd _ _ oM];exact this.1,this.2⟩
theorem Own.new{h:Heap}(w:WF h)(c:List V):Own (halloc h c) h.next c:=
 ⟨h.next,0,SU _ _ _,.inl ⟨(w h.next (RW _)).2,rfl⟩⟩
theorem Own.halloc{h:Heap}{b:Nat}{c:List V}(o:Own h b c)(w:WF h)(d:List V):Own (halloc h d) b c:=by have:=o.lt w;let⟨f,k,e,x⟩:=o;exact⟨f,k,by show(h.bl.set _ _).get b=_;rw[Sd _ _ oM];exact e,x⟩
theorem Fr.halloc{h:Heap}(w:WF h)(c:List V):Fr [] h (halloc h c):=⟨VI _,w.halloc c,fun _ _ _ o=>o.halloc w c,fun b d _ o=>by
 have:=o.own.lt w;let⟨⟨k,e⟩,f⟩:=o;exact⟨⟨k,by show(h.bl.set _ _).get b=_;rw[Sd _ _ oM];exact e⟩,f⟩,fun b x _ e=>by
 have:b≠h.next:=by rintro rfl;rw[(w _ (RW _)).1]at e;cases e
 show(h.bl.set _ _).get b=_;rw[Sd _ _ this];exact e,fun b x r=>r.new w _⟩
theorem kA(h:Heap)(c:List V):(Ev.halloc h c).next=h.next+1:=rfl
theorem aq{h:Heap}(w:WF h)(c:List V):∃h1,h1=Ev.halloc h c/\Fr [] h h1/\Own h1 h.next c:=⟨_,rfl,Fr.halloc w c,Own.new w c⟩
theorem hnx{h Z:Heap}{c:List V}(e:Z=Ev.halloc h c):Z.next=h.next+1:=by rw[e];rfl
attribute [simp] TF
theorem gH{h:Heap}{b o:Nat}{c c' vs:List V}(w:WF h)(a:Own h b c)(h1:au vs=true)(hu:bu c o vs=some c'):
 ∃h',di h b o vs=some h'/\Own h' b c'/\Fr [b] h h'/\h'.next=h.next:=by
 have hb:=a.lt w;let⟨f,k,e,x⟩:=a;simp only[di,e,h1,cond_true,hu];obtain⟨x,rfl⟩|⟨e',x⟩:=x;rw[x];refine⟨_,rfl,⟨f,k,SU _ _ _,.inl ⟨x,rfl⟩⟩,⟨RW _,?_,?_,?_,fun q y hy K=>by
  have:q≠f:=by intro eq;rw[eq,e]at K;cases K;cases hy
  show(h.bl.set _ _).get q=_;rw[Sd _ _ this];exact K,fun q y r=>r.set e (.inl x) _ (.inl rfl) _ (RW _)⟩,rfl⟩
 intro p hp;have ac:h.next<=p:=hp;have:=w p ac;exact⟨by show(h.bl.set _ _).get p=none;rw[Sd _ _ oM];exact this.1,this.2⟩;rintro q d Z ⟨f1,k1,e1,x1⟩;simp at Z;exact⟨f1,k1,by show(h.bl.set _ _).get q=_;rw[Sd _ _ Z];exact e1,x1⟩;rintro q d Z ⟨⟨k1,e1⟩,x1⟩;simp at Z;exact⟨⟨k1,by show(h.bl.set _ _).get q=_;rw[Sd _ _ Z];exact e1⟩,x1⟩;rw[x];simp only[TT,cond_true];refine⟨_,rfl,⟨f,k,SU _ _ _,.inr ⟨e'+1,SU _ _ _⟩⟩,⟨RW _,?_,?_,?_,fun q y hy K=>by
  have:q≠b:=by intro eq;rw[eq,e]at K;cases K;cases hy
  show(h.bl.set _ _).get q=_;rw[Sd _ _ this];exact K,fun q y r=>r.set e (.inr ⟨_,x⟩) _ (.inr ⟨_,rfl⟩) _ (RW _)⟩,rfl⟩
 intro p hp;have ac:h.next<=p:=hp;have:=w p ac;refine⟨by show(h.bl.set _ _).get p=none;rw[Sd _ _ oM];exact this.1,?_⟩;show(h.fams.set _ _).get p=none;by_cases ae:p=f;grind;rw[Sd _ _ ae];exact this.2;rintro q d Z ⟨f1,k1,e1,x1⟩;simp at Z;refine⟨f1,k1,by show(h.bl.set _ _).get q=_;rw[Sd _ _ Z];exact e1,?_⟩;have hf:f1≠f:=by grind
 show((h.fams.set f (b,e'+1)).get f1=none/\_)\/∃e,(h.fams.set f (b,e'+1)).get f1=some (q,e);rw[Sd _ _ hf];exact x1;rintro q d Z ⟨⟨k1,e1⟩,x1⟩;simp at Z;refine⟨⟨k1,by show(h.bl.set _ _).get q=_;rw[Sd _ _ Z];exact e1⟩,?_⟩;show(h.fams.set f (b,e'+1)).get q=none;rw[Sd _ _ (by rintro rfl;rw[x]at x1;cases x1)];exact x1
theorem AO{h:Heap}{n b o:Nat}{v:V}(e:v.cells.length=n):ig h n (.ptr b o) v=di h b o v.cells:=by subst e;simp[ig]
theorem ai{h:Heap}{n b o:Nat}{v:V}{c c':List V}{K:V->Heap->Prop}(w:WF h)(a:Own h b c)(e:v.cells.length=n)(h1:au v.cells=true)(Z:bu c o v.cells=some c')
 (k:∀h',Own h' b c'->Fr [b] h h'->h'.next=h.next->K (.tup []) h'):HQ (ig h n (.ptr b o) v) K:=by
 let⟨h',e1,o1,f1,n1⟩:=gH w a h1 Z;exact⟨h',by rw[AO e];exact e1,k h' o1 f1 n1⟩
theorem sts{h:Heap}{n b o:Nat}{v:V}{c c':List V}{K:V->Heap->Prop}(w:WF h)(a:Own h b c)
 (k:∀h',Own h' b c'->Fr [b] h h'->h'.next=h.next->K (.tup []) h') (e:v.cells.length=n:=by exact rfl) (h1:au v.cells=true:=by first|exact rfl|simp[au,V.cells,fw, *]) (hu:bu c o v.cells=some c':=by exact rfl):HQ (ig h n (.ptr b o) v) K:=ai w a e h1 hu k
theorem bQ:∀(c:List V)(o:Nat)(vs:List V),o+vs.length≤c.length→bu c o vs=some (c.take o++vs++c.drop (o+vs.length))
 |[],o,vs,h=>by
  have:vs=[]:=by cases vs<;>simp at h⊢
  subst this;cases o<;>simp[iQ]
 |x::l,0,[],h=>by simp[dF]
 |x::l,0,v::vs,h=>by rw[aV,bQ l 0 vs (by simp at h⊢;omega)];simp[Nat.add_comm]
 |x::l,o+1,vs,h=>by rw[bI,bQ l o vs (by simp at h⊢;omega)];simp[Nat.succ_add]
theorem kV(c:List V)(o:Nat)(v:V)(h:o<c.length):bu c o [v]=some (c.set o v):=by rw[bQ c o [v] oO];congr 1;rw[TX,if_pos h];simp
theorem aB:au []=true:=rfl
theorem av(v:V)(l:List V):au (v::l)=(v.one&&au l):=rfl
theorem bK(c:List V)(n:Nat)(h:n≤c.length):dA n c=some (c.take n):=by
 induction n generalizing c with
 |zero=>simp[mG]
 |succ n ih=>cases c with
  |nil=>simp at h
  |cons x l=>rw[fF,ih l (eV h)];simp
def Sl(h:Heap)(esz:Nat)(v:V)(n:Nat)(cs:List V):Prop:=
 cs.length=n*esz/\match v with
 |.nils=>n=0
 |.sliceE=>n=0
 |.slice b o len cap=>len=n/\n<=cap/\∃c,Own h b c/\o+n*esz<=c.length/\cs=(c.drop o).take (n*esz)
 |.sliceU b o len e=>len=n/\e=esz/\∃c,Own h b c/\o+n*esz<=c.length/\cs=(c.drop o).take (n*esz)
 |_=>False
theorem Sl.fr{h Z:Heap}{esz:Nat}{v:V}{n:Nat}{cs:List V}(a:Sl h esz v n cs)(f:Fr [] h Z):Sl Z esz v n cs:=by
 let⟨hl,a⟩:=a;refine⟨hl,?_⟩;cases v with
 |slice b o l k=>let⟨h1,h2,c,o,x⟩:=a;exact⟨h1,h2,c,f.get o,x⟩
 |sliceU b o l k=>let⟨h1,h2,c,o,x⟩:=a;exact⟨h1,h2,c,f.get o,x⟩
 |_=>exact a
theorem Sl.len{h:Heap}{esz:Nat}{v:V}{n:Nat}{cs:List V}(a:Sl h esz v n cs):aP .lenS [v]=some (.int .i64 n):=by
 let⟨hl,a⟩:=a;cases v with
 |slice b o l k=>obtain⟨rfl,_⟩:=a;rfl
 |sliceU b o l k=>obtain⟨rfl,_⟩:=a;rfl
 |nils=>have a:n=0:=a;subst a;rfl
 |sliceE=>have a:n=0:=a;subst a;rfl
 |_=>exact a.elim
theorem Sl.one{h:Heap}{esz:Nat}{v:V}{n:Nat}{cs:List V}(a:Sl h esz v n cs):v.one=true:=by
 let⟨hl,a⟩:=a;cases v with
 |slice b o l k=>rfl
 |sliceU b o l k=>rfl
 |nils=>rfl
 |sliceE=>rfl
 |_=>exact a.elim
theorem Sl.ix{h:Heap}{esz:Nat}{v:V}{n:Nat}{cs:List V}(a:Sl h esz v n cs)(k:IntKind)(i:Int)(h0:0<=i)(h1:i<n):
 ∃b o,aP (.ixs esz) [v,.int k i]=some (.ptr b o)/\(∀j,j<esz->ab h b (o+j)=cs[i.toNat*esz+j]?)/\aj h b o esz=some ((cs.drop (i.toNat*esz)).take esz):=by
 let⟨hl,a⟩:=a;obtain⟨m,rfl⟩:∃m:Nat,i=m:=⟨i.toNat,oM⟩;have hm:m<n:=oM;have ac:m*esz+esz<=n*esz:=by rw[<-Uz];exact Ti _ hm
 have K:∀(b o:Nat)(c:List V),Own h b c->o+n*esz<=c.length->cs=(c.drop o).take (n*esz)->
  (∀j,j<esz->ab h b (o+m*esz+j)=cs[m*esz+j]?)/\aj h b (o+m*esz) esz=some ((cs.drop (m*esz)).take esz):=by
  intro b o c hc Z e;subst e;constructor;intro j hj;rw[hc.ld1,j3,Uf,if_pos oM,To];congr 1;omega;rw[hc.ld,bM,bK _ _ oO,Va,Tl,TQ];congr 2;omega
 cases v with
 |slice b o l q=>obtain⟨rfl,_,c,hc,Z,e⟩:=a;exact⟨b,o+m*esz,gw _ _ _ _ _ _ _ h0 h1,K b o c hc Z e⟩
 |sliceU b o l q=>obtain⟨rfl,rfl,c,hc,Z,e⟩:=a;exact⟨b,o+m*q,nr _ _ _ _ _ _ _ h0 h1,K b o c hc Z e⟩
 |nils=>have a:n=0:=a;omega
 |sliceE=>have a:n=0:=a;omega
 |_=>exact a.elim
section
variable {call : aI} {env : T V} {h : Heap} {loc : List V}
def EQ(o:Option (T V))(K:T V->Prop):Prop:=∃en,o=some en/\K en
theorem Cv(en:T V)(K:T V->Prop):EQ (some en) K↔K en:=⟨fun⟨_,x,k⟩=>by cases x;exact k,fun k=>⟨en,rfl,k⟩⟩
def HdQ(hs:List Heap)(K:Heap->Prop):Prop:=match hs with
 |[]=>False
 |h::_=>K h
theorem zX(hs:List Heap)(K:Heap->Prop):HdQ (h::hs) K↔K h:=Ul
theorem K2(l:List IStep)(Z:List (Nat×Nat×Nat))(K:List (Nat×Nat))(Q:T V->Heap->Prop)(hs:List Heap):DE call l Z K env Q loc hs↔
 Z.all (mK call env l loc hs)=true/\EQ (iu l.length loc K env) fun env'=>HdQ hs fun h'=>Q env' h':=by
 simp only[DE,EQ];constructor;rintro⟨a,env',h',ac,e,rfl,q⟩;exact⟨a,env',e,q⟩;rintro⟨a,env',e,q⟩;cases hs with
 |nil=>exact q.elim
 |cons h' ac=>exact⟨a,env',h',ac,e,rfl,q⟩
def GR(o:Option V)(want:Bool)(A:Prop):Prop:=match o with
 |some (.bool b)=>if b=want then A else True
 |_=>True
theorem HC(t:List V)(want:Bool)(A:Prop):GR (some (.tup t)) want A↔True:=Ul
theorem Cq(b want:Bool)(A:Prop):GR (some (.bool b)) want A↔if b=want then A else True:=Ul
def RD(call:aI)(env:T V)(s:Option IStep)(loc:List V)(hs:List Heap):Prop:=match s,loc with
 |some t,v::l=>(match t.gd with
  |none=>gy call l env t.op v hs=true
  |some (x,want)=>GR (evO l env x) want (gy call l env t.op v hs=true))
 |_,_=>False
theorem LT(o:IOp)(d:Option Nat)(v:V)(l:List V)(hs:List Heap):RD call env (some ⟨none,o,d⟩) (v::l) hs↔gy call l env o v hs=true:=Ul
theorem LU(x:Opd)(want:Bool)(o:IOp)(d:Option Nat)(v:V)(l:List V)(hs:List Heap):RD call env (some ⟨some (x,want),o,d⟩) (v::l) hs↔GR (evO l env x) want (gy call l env o v hs=true):=Ul
theorem JW(l:List IStep)(K:List Heap)(i lo hi:Nat):mK call env l loc K (i,lo,hi)=true↔RD call env l[i]? (loc.drop (l.length-i-1)) ((K.reverse.drop lo).take (hi+1-lo)):=by
 simp only[mK];cases l[i]? with
 |none=>simp[RD]
 |some t=>cases loc.drop (l.length-i-1)with
  |nil=>simp[RD]
  |cons v l'=>
   let⟨gd,o,d⟩:=t;cases gd with
   |none=>simp[RD,evG]
   |some g=>
    let⟨x,Z⟩:=g;simp only[RD,evG,GR];cases evO l' env x with
    |none=>simp
    |some b=>
     cases b with
     |bool b=>cases b<;>cases Z<;>simp
     |_=>simp
def A1(call:aI)(env:T V)(l:List IStep)(loc:List V)(hs:List Heap):List (Nat×Nat×Nat)->Prop
 |[]=>True
 |(i,lo,hi)::rs=>RD call env l[i]? (loc.drop (l.length-i-1)) ((hs.reverse.drop lo).take (hi+1-lo))/\A1 call env l loc hs rs
theorem zU(l:List IStep)(hs:List Heap):A1 call env l loc hs []↔True:=Ul
theorem qc(l:List IStep)(hs:List Heap)(i lo hi:Nat)(rs:List (Nat×Nat×Nat)):A1 call env l loc hs ((i,lo,hi)::rs)↔
 RD call env l[i]? (loc.drop (l.length-i-1)) ((hs.reverse.drop lo).take (hi+1-lo))/\A1 call env l loc hs rs:=Ul
theorem tL{l:List IStep}{hs:List Heap}:∀{rs:List (Nat×Nat×Nat)},rs.all (mK call env l loc hs)=true↔A1 call env l loc hs rs
 |[]=>by simp[A1]
 |(i,lo,hi)::rs=>by simp only[Uj,RU,JW,qc,tL (rs:=rs)]
def DF(call:aI)(l:List IStep)(reads:List (Nat×Nat×Nat))(sets:List (Nat×Nat))(env:T V)(Q:T V->Heap->Prop)(loc:List V)(hs:List Heap):Prop:=
 A1 call env l loc hs reads/\EQ (iu l.length loc sets env) fun env'=>HdQ hs fun h'=>Q env' h'
theorem WD.mono{l:List DS}{Z:List Heap}{K K':List V->List Heap->Prop}(a:WD call env l loc Z h K)(b:∀x y,K x y->K' x y):WD call env l loc Z h K':=by let⟨x,y,e,k⟩:=a;exact⟨x,y,e,b _ _ k⟩
def KY(o:Option (List DS×Heap))(K:List DS->Heap->Prop):Prop:=∃l h,o=some (l,h)/\K l h
theorem jn(l:List DS)(h:Heap)(K:List DS->Heap->Prop):KY (some (l,h)) K↔K l h:=
 ⟨fun⟨_,_,e,k⟩=>by cases e;exact k,fun k=>⟨_,_,rfl,k⟩⟩
theorem Dz(l:List IStep)(K R:List Nat)(Z:List (Nat×Nat×Nat))(ac:List (Nat×Nat))(Q:Ex->T V->Heap->Prop):
 W call (.dops l K R Z ac) env h Q↔KY (lay call env K l 0 [] h) fun dl h1=>WD call env dl [] [h1] h1 (DF call l Z ac env (Q .norm)):=by
 constructor;rintro⟨e,af,h',x,q⟩;have x:evD call l K Z ac env h=.ok e af h':=x;unfold evD at x;split at x;cases x;rename_i dl h1 hl;refine⟨dl,h1,hl,?_⟩;split at x;rename_i ae hs hd;refine⟨ae,hs,hd,?_⟩;cases ha:Z.all (mK call env l ae hs);grind;rw[ha]at x;simp only[cond_true]at x;split at x;rename_i an h2 ar ak;cases x;exact⟨tL.1 ha,_,ak,q⟩;cases x;cases x;rintro⟨dl,h1,hl,x⟩;refine I3 _ _ _ _ _ _ hl (x.mono ?_);rintro ae hs ⟨a,b⟩;exact(K2 _ _ _ _ _).2 ⟨tL.2 a,b⟩
theorem W_d(l:List IStep)(R:List Nat)(Z:List (Nat×Nat×Nat))(K:List (Nat×Nat))(Q:Ex->T V->Heap->Prop):
 W call (.dops l [] R Z K) env h Q↔WD call env (l.map fun s=>(s,none)) [] [h] h (DF call l Z K env (Q .norm)):=by
 rw[Dz,If,jn]
def SEv(o:Option V)(K:V->Option (T V)):Option (T V):=match o with
 |some v=>K v
 |none=>none
theorem zT(v:V)(K:V->Option (T V)):SEv (some v) K=K v:=rfl
theorem Ba(n s i:Nat)(r:List (Nat×Nat)):iu n loc ((s,i)::r) env=SEv (nth loc (n-i-1)) fun v=>iu n loc r (env.set s v):=by rw[Ac];unfold SEv;cases nth loc (n-i-1)<;>rfl
end
theorem bS(k:IntKind)(i:Int)(y:Nat)(h0:0<=i)(Z:i<=y):cN (.int k i) y=some i.toNat:=by obtain⟨n,rfl⟩:∃n:Nat,i=n:=⟨i.toNat,oM⟩;have:Nat.ble n y=true:=(Uv ..).mpr oM;show(bif Nat.ble n y then some n else none)=_;rw[this];rfl
theorem eP{a b:Nat}(h:a≠b):Nat.beq a b=false:=by cases Z:Nat.beq a b;rfl;exact absurd (RY Z) h
theorem kN{a b:Nat}(h:a=b):Nat.beq a b=true:=by subst h;simp
theorem Gl{a b:Nat}(h:¬a<b):Nat.blt a b=false:=by cases Z:Nat.blt a b;rfl;exact absurd ((SI ..).mp Z) h
theorem AN{a b:Nat}(h:¬a<=b):Nat.ble a b=false:=by cases Z:Nat.ble a b;rfl;exact absurd ((Uv ..).mp Z) h
theorem Sl.part{h:Heap}{esz:Nat}{v:V}{n:Nat}{cs:List V}(a:Sl h esz v n cs)(he:0<esz)(hv:v≠.sliceE)(lo hi:Bool)(bs:List V)(l u:Nat)(hu:u<=n)(hl:l<=u)
 (hb:∀y,n<=y->aW n y lo hi false bs=some (l,u,none)):
 ∃v',aP (.sl none esz lo hi false) (v::bs)=some v'/\Sl h esz v' (u-l) ((cs.drop (l*esz)).take ((u-l) *esz)):=by
 let⟨ae,a⟩:=a;have hm:l*esz+(u-l) *esz<=n*esz:=by rw[<-Us];exact Ti _ oM
 have Z:((cs.drop (l*esz)).take ((u-l) *esz)).length=(u-l) *esz:=by simp;omega
 have ac:∀(b o:Nat)(c:List V),Own h b c->o+n*esz<=c.length->cs=(c.drop o).take (n*esz)->
  (cs.drop (l*esz)).take ((u-l) *esz)=(c.drop (o+l*esz)).take ((u-l) *esz):=by
  intro b o c _ ae e;subst e;rw[Va,Tl,TQ];congr 1;omega
 cases v with
 |slice b o len cap=>obtain⟨rfl,af,c,hc,K,e⟩:=a;refine⟨.slice b (bif Nat.beq cap l then o else o+l*esz) (u-l) (cap-l),by simp only[aP,dX,hb cap af,Sx,Vd],Z,rfl,oM,c,hc,?_⟩;by_cases ak:cap=l;grind;rw[eP ak];exact⟨by simp only[cond_false];omega,ac b o c hc K e⟩
 |sliceU b o len q=>
  obtain⟨rfl,rfl,c,hc,K,e⟩:=a;have hq:(Nat.beq q q&&Nat.blt 0 q)=true:=by simp[SI,he]
  by_cases h1:l<len;refine⟨.sliceU b (o+l*q) (u-l) q,?_,Z,rfl,rfl,c,hc,oM,ac b o c hc K e⟩;simp only[aP,dX,hq,cond_true,hb len (RW _),SZ,(SI ..).mpr h1];have an:u-l=0:=oM;by_cases h2:l=0;subst h2;refine⟨.sliceU b o (u-0) q,?_,Z,rfl,rfl,c,hc,oM,by simpa using ac b o c hc K e⟩;simp only[aP,dX,hq,cond_true,hb len (RW _),SZ,Gl h1,cond_false,(iR:Nat.beq 0 0=true)];refine⟨.sliceE,?_,Z,an⟩;simp only[aP,dX,hq,cond_true,hb len (RW _),SZ,Gl h1,cond_false,eP h2]
 |nils=>have a:n=0:=a;subst a;refine⟨.nils,?_,Z,oM⟩;simp only[aP,dX,hb 0 (RW _),Sx]
 |sliceE=>exact absurd rfl hv
 |_=>exact a.elim
theorem Sl.ne{h:Heap}{esz:Nat}{v:V}{n:Nat}{cs:List V}(a:Sl h esz v n cs)(Z:0<n):v≠.sliceE:=by rintro rfl;have:n=0:=a.2;omega
theorem Sl.from'{h:Heap}{esz:Nat}{v:V}{n:Nat}{cs:List V}(a:Sl h esz v n cs)(Z:0<esz)(hv:v≠.sliceE)(k:IntKind)(i:Int)(h0:0<=i)(K:i<=n):
 ∃v',aP (.sl none esz true false false) [v,.int k i]=some v'/\Sl h esz v' (n-i.toNat) (cs.drop (i.toNat*esz)):=by
 let⟨v',e,s⟩:=a.part Z hv true false [.int k i] i.toNat n (RW _) oM (fun y _=>by simp only[aW,bS k i n h0 K,Sx]);refine⟨v',e,?_⟩;have hm:i.toNat*esz+(n-i.toNat) *esz=n*esz:=by rw[<-Us];congr 1;omega
 rwa[Sf (by simp[a.1];omega)]at s
theorem Sl.upto{h:Heap}{esz:Nat}{v:V}{n:Nat}{cs:List V}(a:Sl h esz v n cs)(Z:0<esz)(hv:v≠.sliceE)(k:IntKind)(i:Int)(h0:0<=i)(h1:i<=n):
 ∃v',aP (.sl none esz false true false) [v,.int k i]=some v'/\Sl h esz v' i.toNat (cs.take (i.toNat*esz)):=by
 let⟨v',e,s⟩:=a.part Z hv false true [.int k i] 0 i.toNat oM oM (fun y K=>by simp only[aW,bS k i y h0 oM,Sx]);exact⟨v',e,by simpa using s⟩
theorem Sl.range{h:Heap}{esz:Nat}{v:V}{n:Nat}{cs:List V}(a:Sl h esz v n cs)(Z:0<esz)(hv:v≠.sliceE)(k k':IntKind)(i j:Int)(h0:0<=i)(h1:i<=j)(h2:j<=n):
 ∃v',aP (.sl none esz true true false) [v,.int k i,.int k' j]=some v'/\Sl h esz v' (j.toNat-i.toNat) ((cs.drop (i.toNat*esz)).take ((j.toNat-i.toNat) *esz)):=by
 let⟨v',e,s⟩:=a.part Z hv true true [.int k i,.int k' j] i.toNat j.toNat oM oM (fun y K=>by
  simp only[aW,bS k' j y oM oM,SZ,bS k i j.toNat h0 oM,Sx])
 exact⟨v',e,s⟩
def Gs(h:Heap)(B:Nat)(esz:Nat)(v:V)(cs:List V):Prop:=(v=.nils/\cs=[])\/∃b n,v=.sliceU b 0 n esz/\cs.length=n*esz/\0<n/\B<=b/\Own h b cs
theorem Gs.sl{h:Heap}{B esz:Nat}{v:V}{cs:List V}{n:Nat}(a:Gs h B esz v cs)(Z:cs.length=n*esz)(K:0<esz):Sl h esz v n cs:=by obtain⟨rfl,rfl⟩|⟨b,m,rfl,hm,_,_,o⟩:=a;refine⟨Z,?_⟩;have:0=n*esz:=Z;obtain h|h:=Nat.eq_zero_or_pos n;exact h;have:=VT h K;omega;have:m=n:=Nat.eq_of_mul_eq_mul_right K oM;subst this;exact⟨Z,rfl,rfl,cs,o,oM,by simp[<-Z]⟩
theorem Gs.one{h:Heap}{B esz:Nat}{v:V}{cs:List V}(a:Gs h B esz v cs):v.one=true:=by obtain⟨rfl,rfl⟩|⟨b,m,rfl,_⟩:=a<;>rfl
theorem Gs.fr{h Z:Heap}{B esz:Nat}{v:V}{cs:List V}(a:Gs h B esz v cs)(f:Fr [] h Z):Gs Z B esz v cs:=by obtain⟨rfl,rfl⟩|⟨b,m,rfl,h1,h2,K,o⟩:=a;exact .inl ⟨rfl,rfl⟩;exact .inr ⟨b,m,rfl,h1,h2,K,f.get o⟩
structure Up(B:Nat)(h h':Heap):Prop where
 next:h.next<=h'.next
 wf:WF h'
 own:∀b c,b<B->Own h b c->Own h' b c
 pl:∀b c,b<B->Pl h b c->Pl h' b c
 lp:∀b x,Iq x=true->h.bl.get b=some x->h'.bl.get b=some x
 ro:∀b c,Rs h b c->Rs h' b c
theorem Fr.up{S:List Nat}{h h':Heap}{B:Nat}(f:Fr S h h')(hs:∀x∈S,B<=x):Up B h h':=
 ⟨f.next,f.wf,fun b c hb o=>f.own b c (fun m=>by have:=hs b m;omega) o,fun b c hb o=>f.pl b c (fun m=>by have:=hs b m;omega) o,f.lp,f.ro⟩
theorem Fr.ups{h0 h h':Heap}(f:Fr [] h0 h)(w:WF h0)(u:Up h0.next h h'):Fr [] h0 h':=
 ⟨SD f.next u.next,u.wf,fun b c _ o=>u.own b c (o.lt w) (f.get o),fun b c _ o=>u.pl b c (o.own.lt w) (f.pl b c iS o),fun b x hx o=>u.lp b x hx (f.lp b x hx o),fun b c r=>u.ro b c (f.ro b c r)⟩
theorem Up.refl{B:Nat}{h:Heap}(w:WF h):Up B h h:=⟨RW _,w,fun _ _ _ o=>o,fun _ _ _ o=>o,fun _ _ _ o=>o,fun _ _ o=>o⟩
theorem Up.trans{B:Nat}{h h1 h2:Heap}(a:Up B h h1)(b:Up B h1 h2):Up B h h2:=
 ⟨SD a.next b.next,b.wf,fun x c hx o=>b.own x c hx (a.own x c hx o),fun x c hx o=>b.pl x c hx (a.pl x c hx o),fun x k hk o=>b.lp x k hk (a.lp x k hk o),fun x c r=>b.ro x c (a.ro x c r)⟩
theorem Fr.fresh{h h1 h2:Heap}{b:Nat}(a:Fr [] h h1)(c:Fr [b] h1 h2)(w:WF h)(hb:h.next<=b):Fr [] h h2:=
 a.trans c w iS (by simp;exact hb)
theorem uL{h:Heap}{b pos:Nat}{c c':List V}(w:WF h)(a:Own h b c):∃h',mX h b pos c'=some h'/\Own h' h.next c'/\Fr [b] h h':=by
 have hb:=a.lt w;let⟨f,k,e,x⟩:=a;have hf:f<h.next:=by obtain⟨_,rfl⟩|⟨e',x⟩:=x;exact hb;obtain y|y:=TB f h.next;exact y;rw[(w f y).2]at x;cases x
 have go:∀(e0 e1:Nat),(h.fams.get f=none/\f=b\/∃e,h.fams.get f=some (b,e))->
  Own ⟨(h.bl.set b (.row c f e0)).set h.next (.row c' f 0),h.next+1,h.fams.set f (h.next,e1)⟩ h.next c'/\
  Fr [b] h ⟨(h.bl.set b (.row c f e0)).set h.next (.row c' f 0),h.next+1,h.fams.set f (h.next,e1)⟩:=by
  intro e0 e1 x;refine⟨⟨f,0,SU _ _ _,.inr ⟨e1,SU _ _ _⟩⟩,⟨VI _,?_,?_,?_,fun q y hy ey=>by
   have h1:q≠b:=by intro eq;rw[eq,e]at ey;cases ey;cases hy
   have h2:q≠h.next:=by rintro rfl;rw[(w _ (RW _)).1]at ey;cases ey
   show((h.bl.set b _).set h.next _).get q=_;rw[Sd _ _ h2,Sd _ _ h1];exact ey,fun q y r=>by
   have r1:Rs ⟨h.bl.set b (.row c f e0),h.next,h.fams.set f (h.next,e1)⟩ q y:=r.set e (by obtain⟨x,_⟩|x:=x;exact .inl x;exact .inr x) _ (.inr ⟨_,rfl⟩) _ (RW _)
   let⟨f',k',ow,p1,p2,p3,p4⟩:=r1;have ac:(h.bl.set b (.row c f e0)).get q=some (.row y f' k'):=p1;have ak:ow<h.next:=p4;have Z:q≠h.next:=by rintro rfl;rw[Sd _ _ oM,(w _ (RW _)).1]at ac;cases ac
   refine⟨f',k',ow,?_,p2,?_,by show ow<h.next+1;omega⟩;show((h.bl.set b _).set h.next _).get q=_;rw[Sd _ _ Z];exact p1;show((h.bl.set b _).set h.next _).get ow=_;rw[Sd _ _ oM];exact p3⟩⟩
  intro p hp;have an:h.next+1<=p:=hp;have:=w p oM;refine⟨?_,?_⟩;show((h.bl.set b _).set h.next _).get p=none;rw[Sd _ _ oM,Sd _ _ oM];exact this.1;show(h.fams.set f _).get p=none;rw[Sd _ _ oM];exact this.2;rintro q d Z o;have ae:=o.lt w;let⟨f1,k1,e2,x1⟩:=o;simp at Z;refine⟨f1,k1,?_,?_⟩;show((h.bl.set b _).set h.next _).get q=_;rw[Sd _ _ oM,Sd _ _ Z];exact e2;have af:f1≠f:=by rintro rfl;obtain⟨K,xb⟩|⟨e',K⟩:=x;obtain⟨_,y⟩|⟨e3,y⟩:=x1;exact Z (y.symm.trans xb);rw[K]at y;cases y;obtain⟨y,_⟩|⟨e3,y⟩:=x1;rw[K]at y;cases y;rw[K]at y;cases y;exact Z rfl
  show((h.fams.set f _).get f1=none/\_)\/∃e,(h.fams.set f _).get f1=some (q,e);rw[Sd _ _ af];exact x1;rintro q d Z o;have ae:=o.own.lt w;let⟨⟨k1,e2⟩,x1⟩:=o;simp at Z;refine⟨⟨k1,?_⟩,?_⟩;show((h.bl.set b _).set h.next _).get q=_;rw[Sd _ _ oM,Sd _ _ Z];exact e2;show(h.fams.set f _).get q=none;rw[Sd _ _ ?_];exact x1;rintro rfl;obtain⟨_,xb⟩|⟨e',K⟩:=x;exact Z xb;rw[K]at x1;cases x1
 simp only[mX,e];obtain⟨x,rfl⟩|⟨e',x⟩:=x;rw[x];exact⟨_,rfl,go _ _ (.inl ⟨x,rfl⟩)⟩;rw[x];simp only[TT,cond_true];exact⟨_,rfl,go _ _ (.inr ⟨e',x⟩)⟩
theorem Sl.srcLen{h:Heap}{esz:Nat}{v:V}{n:Nat}{cs:List V}(a:Sl h esz v n cs):Ev.srcLen v=some n:=by
 let⟨_,a⟩:=a;cases v with
 |slice b o len cap=>obtain⟨rfl,_⟩:=a;rfl
 |sliceU b o len q=>obtain⟨rfl,_⟩:=a;rfl
 |nils=>have a:n=0:=a;subst a;rfl
 |sliceE=>have a:n=0:=a;subst a;rfl
 |_=>exact a.elim
theorem Sl.srcCells{h:Heap}{esz:Nat}{v:V}{n:Nat}{cs:List V}(a:Sl h esz v n cs):Ev.srcCells h esz v n=some cs:=by
 let⟨hl,a⟩:=a;cases v with
 |slice b o len cap=>obtain⟨rfl,_,c,Z,K,e⟩:=a;simp only[Ev.srcCells,Z.ld,bM,bK _ _ (oO:len*esz<=(c.drop o).length),e]
 |sliceU b o len q=>obtain⟨rfl,rfl,c,Z,K,e⟩:=a;simp only[Ev.srcCells,Z.ld,bM,bK _ _ (oO:len*q<=(c.drop o).length),e]
 |nils=>have a:n=0:=a;subst a;simp at hl;subst hl;rfl
 |sliceE=>have a:n=0:=a;subst a;simp at hl;subst hl;rfl
 |_=>exact a.elim
def vb:V->List Nat
 |.sliceU b _ _ _=>[b]
 |_=>[]
theorem Gs.up{h Z:Heap}{B esz:Nat}{v:V}{cs:List V}(a:Gs h B esz v cs)(f:Fr (vb v) h Z):Up B h Z:=by apply f.up;obtain⟨rfl,_⟩|⟨b,m,rfl,_,_,K,_⟩:=a;simp[vb];simpa[vb]using K
theorem Gs.append{h:Heap}{B esz bytes:Nat}{v x:V}{cs xs:List V}{n:Nat}(w:WF h)(a:Gs h B esz v cs)(s:Sl h esz x n xs)(he:0<esz)(ho:au xs=true)(hB:B≤h.next)
 (hsz:(2*(cs.length+n)+1024) *bytes≤281474976710656) {K:V→Heap→Prop} (k:∀v' h',Gs h' B esz v' (cs++xs)→Fr (vb v) h h'→K v' h'):OQ (jQ h esz bytes v x) K:=by
 unfold jQ;rw[s.srcLen];simp only[];by_cases hn:n=0;subst hn;have hx:xs=[]:=by have:=s.1;simp at this;exact this
 subst hx;rw[kN rfl,cond_true];have hd:gW v=some (cs.length/esz):=by obtain⟨rfl,rfl⟩|⟨b,m,rfl,hm,_⟩:=a;simp[gW,Ev.srcLen];simp[gW,Ev.srcLen,hm,Nat.mul_div_cancel _ he]
 rw[hd];exact(cL _ _ _).2 (k v h (eV a) (Fr.refl w));rw[eP hn,cond_false,s.srcCells];simp only[];obtain⟨rfl,rfl⟩|⟨b,m,rfl,hm,hm0,hb,o⟩:=a;simp only[tH];have:Nat.ble ((2*n+1024) *bytes) 281474976710656=true:=by rw[Nat.ble_eq];simpa using hsz
 rw[this,cond_true];refine(cL _ _ _).2 (k _ _ (.inr ⟨h.next,n,rfl,by simpa using s.1,oM,hB,by simpa using Own.new w xs⟩) (Fr.halloc w xs));have hle:(2*(m+n)+1024) *bytes≤(2*(cs.length+n)+1024) *bytes:=by
  apply Nat.mul_le_mul_right _;have:m≤cs.length:=by rw[hm];exact Nat.le_mul_of_pos_right m he
  omega
 have h1:(Nat.beq esz esz&&Nat.ble ((2*(m+n)+1024) *bytes) 281474976710656)=true:=by simp only[Nat.beq_refl,Bool.true_and,Nat.ble_eq];omega
 simp only[h1,cond_true,o.cells];have hmn:(m+n) *esz=m*esz+n*esz:=Nat.add_mul _ _ _;have hpos:0<n*esz:=Nat.mul_pos oM he;rw[AN (oM:¬0+(m+n) *esz≤cs.length),cond_false];have h2:(Nat.ble (0+m*esz) cs.length&&au xs)=true:=by simp only[ho,Bool.and_true,Nat.ble_eq];omega
 simp only[h2,cond_true,fK,bK cs (m*esz) oM];let⟨h',e,o',f⟩:=uL (pos:=0+m*esz) (c':=cs.take (m*esz)++xs) w o;rw[e];simp only[Option.map_some];refine(cL _ _ _).2 (k _ _ (.inr ⟨h.next,m+n,rfl,by simp[s.1];omega,oM,hB,?_⟩) f);rwa[List.take_of_length_le oM]at o'
def CQ(o:Option (List V))(len:Nat)(K:V->Heap->Prop)(h:Heap):Prop:=∃c,o=some c/\K (.slice h.next 0 len len) (halloc h c)
theorem Cy(c:List V)(len:Nat)(K:V->Heap->Prop)(h:Heap):CQ (some c) len K h↔K (.slice h.next 0 len len) (halloc h c):=
 ⟨fun⟨_,e,k⟩=>by cases e;exact k,fun k=>⟨c,rfl,k⟩⟩
theorem BW(h:Heap)(zero:List V)(Z:List (Nat×Nat))(len:Nat)(vs:List V)(K:V->Heap->Prop):OQ (jI h zero Z len vs) K↔CQ (dP (aU zero len) Z vs) len K h:=by
 simp only[jI,OQ,CQ];cases dP (aU zero len) Z vs with
 |none=>simp
 |some c=>simp[and_assoc]
theorem fH(zero:List V):aU zero 0=[]:=rfl
theorem eW(zero:List V)(n:Nat):aU zero (n+1)=zero++aU zero n:=rfl
theorem rL(z:V)(n:Nat):aU [z] n=List.replicate n z:=by
 induction n with
 |zero=>rfl
 |succ n ih=>rw[eW,ih];rfl
theorem Sl.lit{h:Heap}{esz:Nat}{b n:Nat}{c:List V}(o:Own h b c)(hc:c.length=n*esz):Sl h esz (.slice b 0 n n) n c:=
 ⟨hc,rfl,RW _,c,o,oM,by simp[<-hc]⟩
theorem de(h:Heap)(zero:List V)(bytes:Nat)(k k':IntKind)(l c:Int)(K:V->Heap->Prop)(h0:0<=l)(h1:l<=c)(h2:c<9223372036854775808)(Z:bytes*c.toNat<=281474976710656):
 OQ (vZ h zero bytes (.int k l) (.int k' c)) K↔K (.slice h.next 0 l.toNat c.toNat) (halloc h (aU zero c.toNat)):=by
 obtain⟨n,rfl⟩:∃n:Nat,l=n:=⟨l.toNat,oM⟩;obtain⟨m,rfl⟩:∃m:Nat,c=m:=⟨c.toNat,oM⟩;have:(Nat.ble n m&&Nat.blt m 9223372036854775808&&Nat.ble (bytes*m) 281474976710656)=true:=by simp only[RU,Uv,SI];simp at Z;omega
 show OQ (bif Nat.ble n m&&Nat.blt m 9223372036854775808&&Nat.ble (bytes*m) 281474976710656 then some (.slice h.next 0 n m,halloc h (aU zero m))else none) K↔_;rw[this];exact cL _ _ _
section
variable {α : Type} {f : α -> List V} {k : Nat}
theorem aJ(hf:∀x,(f x).length=k):∀(L:List α),(L.flatMap f).length=L.length*k
 |[]=>by simp
 |x::L=>by simp[SL,aJ hf L,hf,Uz,UH]
theorem bJ(hf:∀x,(f x).length=k):∀(L:List α)(i:Nat),(L.flatMap f).drop (i*k)=(L.drop i).flatMap f
 |L,0=>by simp
 |[],i+1=>by simp
 |x::L,i+1=>by rw[SL,List.drop_succ_cons,<-bJ hf L i,Uz,UH,<-hf x,<-Tl,Un]
theorem dd(hf:∀x,(f x).length=k):∀(L:List α)(i:Nat),(L.flatMap f).take (i*k)=(L.take i).flatMap f
 |L,0=>by simp
 |[],i+1=>by simp
 |x::L,i+1=>by
  have:(i+1) *k=(f x).length+i*k:=by grind
  rw[List.flatMap_cons,List.take_succ_cons,List.flatMap_cons,this,List.take_append,List.take_of_length_le oM,Nat.add_sub_cancel_left,dd hf L i]
def Recs(f:α->List V)(k:Nat)(h:Heap)(v:V)(L:List α):Prop:=Sl h k v L.length (L.flatMap f)
theorem Recs.fr{h h':Heap}{v:V}{L:List α}(a:Recs f k h v L)(r:Fr [] h h'):Recs f k h' v L:=Sl.fr a r
theorem Recs.len{h:Heap}{v:V}{L:List α}(a:Recs f k h v L):aP .lenS [v]=some (.int .i64 L.length):=Sl.len a
theorem Recs.ix{h:Heap}{v:V}{L:List α}(Z:∀x,(f x).length=k)(a:Recs f k h v L)(kd:IntKind)(i:Int)(h0:0<=i)(h1:i<L.length):
 ∃b o x,aP (.ixs k) [v,.int kd i]=some (.ptr b o)/\(∀j,j<k->ab h b (o+j)=(f x)[j]?)/\aj h b o k=some (f x)/\L[i.toNat]? =some x:=by
 let⟨b,o,e,g,g2⟩:=Sl.ix a kd i h0 h1;have hi:i.toNat<L.length:=oM;have e3:L[i.toNat]? =some L[i.toNat]:=by simp[hi]
 have K:L.drop i.toNat=L[i.toNat]::L.drop (i.toNat+1):=Tu hi;refine⟨b,o,L[i.toNat],e,fun j hj=>?_,?_,e3⟩;rw[g j hj,<-To,bJ Z,K,SL,Tt (by rw[Z];exact hj)];rw[g2,bJ Z,K,SL];have:=Z L[i.toNat];rw[Vg,Sf oM,this];simp
theorem Recs.nil{h:Heap}:Recs f k h .nils []:=⟨iS,rfl⟩
def GRecs(f:α->List V)(k:Nat)(h:Heap)(B:Nat)(v:V)(L:List α):Prop:=Gs h B k v (L.flatMap f)
theorem GRecs.recs{h:Heap}{B:Nat}{v:V}{L:List α}(hf:∀x,(f x).length=k)(hk:0<k)(a:GRecs f k h B v L):Recs f k h v L:=Gs.sl a (aJ hf L) hk
theorem GRecs.fr{h h':Heap}{B:Nat}{v:V}{L:List α}(a:GRecs f k h B v L)(r:Fr [] h h'):GRecs f k h' B v L:=Gs.fr a r
theorem GRecs.one{h:Heap}{B:Nat}{v:V}{L:List α}(a:GRecs f k h B v L):v.one=true:=Gs.one a
theorem GRecs.nil{h:Heap}{B:Nat}:GRecs f k h B .nils []:=.inl ⟨rfl,rfl⟩
theorem GRecs.append{h:Heap}{B bytes:Nat}{v:V}{L:List α}{x:α}{b:Nat}(w:WF h)(a:GRecs f k h B v L)(hf:∀x,(f x).length=k)(ho:au (f x)=true)(hk:0<k)(o:Own h b (f x))(hB:B<=h.next)
 (Z:(2*(L.length*k+1)+1024) *bytes<=281474976710656) {K:V->Heap->Prop} (c:∀v' h',GRecs f k h' B v' (L++[x])->Fr (vb v) h h'->K v' h'):OQ (jQ h k bytes v (.slice b 0 1 1)) K:=by
 refine Gs.append w a (Sl.lit (n:=1) o iX) hk ho hB (by rw[aJ hf];exact Z) ?_;intro v' h' g u;refine c v' h' ?_ u;unfold GRecs;rw[Tz];simpa using g
end
def HM(Q:Ex->T V->Heap->Prop):Ex->T V->Heap->Prop:=fun e env h=>match e with
 |.goto _=>False
 |e=>Q e env h
theorem uy(Q:Ex->T V->Heap->Prop)(env:T V)(h:Heap):HM Q .norm env h↔Q .norm env h:=Ul
theorem ye(Q:Ex->T V->Heap->Prop)(env:T V)(h:Heap):HM Q .ret env h↔Q .ret env h:=Ul
theorem uz(i:Nat)(Q:Ex->T V->Heap->Prop)(env:T V)(h:Heap):HM Q (.exit i) env h↔Q (.exit i) env h:=Ul
theorem Hd{call:aI}{c r:IC}{l:Nat}{env:T V}{h:Heap}{Q:Ex->T V->Heap->Prop}(x:W call c env h (HM Q)):W call (.scope c l r) env h Q:=by
 refine Cd (fun _ _ _=>False) 0 oM (x.mono ?_) (fun _ _ _ f=>f.elim);intro e env h q;cases e with
 |goto i=>exact q.elim
 |_=>exact q
theorem evs:
 (type_of% @Hc)/\
 (type_of% @Ce)/\
 (type_of% @Hg)/\
 (type_of% @He)/\
 (type_of% @Cc)/\
 (type_of% @Hh)/\
 (type_of% @Cg)/\
 (type_of% @Cf)/\
 (type_of% @jt)/\
 (type_of% @um)/\
 (type_of% @qZ)/\
 (type_of% @qY)/\
 (type_of% @qw)/\
 (type_of% @tD)/\
 (type_of% @qy)/\
 (type_of% @iF)/\
 (type_of% @uy)/\
 (type_of% @ye)/\
 (type_of% @uz)/\
 (type_of% @rK)/\
 (type_of% @jX)/\
 (type_of% @qe)/\
 (type_of% @sW)/\
 (type_of% @xN)/\
 (type_of% @I5)/\
 (type_of% @I4)/\
 (type_of% @LO)/\
 (type_of% @JR)/\
 (type_of% @pq)/\
 (type_of% @HX)/\
 (type_of% @qQ)/\
 (type_of% @qP)/\
 (type_of% @cL)/\
 (type_of% @Cn)/\
 (type_of% @EC)/\
 (type_of% @xO)/\
 (type_of% @Jr)/\
 (type_of% @Cj)/\
 (type_of% @Jz)/\
 (type_of% @Jw)/\
 (type_of% @Jx)/\
 (type_of% @Cz)/\
 (type_of% @zZ)/\
 (type_of% @wj)/\
 (type_of% @zY)/\
 (type_of% @wq)/\
 (type_of% @wT)/\
 (type_of% @wS)/\
 (type_of% @Cp)/\
 (type_of% @Co)/\
 (type_of% @HB)/\
 (type_of% @HA)/\
 (type_of% @pa)/\
 (type_of% @BW)/\
 (type_of% @Cy)/\
 (type_of% @fH)/\
 (type_of% @eW)/\
 (type_of% @Js)/\
 (type_of% @Jy)/\
 (type_of% @Ju)/\
 (type_of% @Jv)/\
 (type_of% @Cu)/\
 (type_of% @Jt)/\
 (type_of% @EE)/\
 (type_of% @ql)/\
 (type_of% @iB)/\
 (type_of% @BI)/\
 (type_of% @JI)/\
 (type_of% @dE)/\
 (type_of% @gu)/\
 (type_of% @cU)/\
 (type_of% @bR)/\
 (type_of% @cQ)/\
 (type_of% @lO)/\
 (type_of% @hU)/\
 (type_of% @T.get_set)/\
 (type_of% @wk)/\
 (type_of% @pc)/\
 (type_of% @nW)/\
 (type_of% @w9)/\
 (type_of% @FG)/\
 (type_of% @uK)/\
 (type_of% @lh)/\
 (type_of% @uJ)/\
 (type_of% @fO)/\
 (type_of% @ni)/\
 (type_of% @BZ)/\
 (type_of% @BX)/\
 (type_of% @tI)/\
 (type_of% @v8)/\
 (type_of% @Ha)/\
 (type_of% @GC)/\
 (type_of% @AW)/\
 (type_of% @AY)/\
 (type_of% @GJ)/\
 (type_of% @GN)/\
 (type_of% @GU)/\
 (type_of% @GO)/\
 (type_of% @GW)/\
 (type_of% @GH)/\
 (type_of% @GL)/\
 (type_of% @GZ)/\
 (type_of% @GY)/\
 (type_of% @jm)/\
 (type_of% @GX)/\
 (type_of% @wi)/\
 (type_of% @wg)/\
 (type_of% @GM)/\
 (type_of% @zS)/\
 (type_of% @JQ)/\
 (type_of% @JP)/\
 (type_of% @B9)/\
 (type_of% @B5)/\
 (type_of% @B4)/\
 (type_of% @B3)/\
 (type_of% @B6)/\
 (type_of% @we)/\
 (type_of% @Cb)/\
 (type_of% @Ca)/\
 (type_of% @BY)/\
 (type_of% @wb)/\
 (type_of% @wc)/\
 (type_of% @yo)/\
 (type_of% @vR)/\
 (type_of% @tw)/\
 (type_of% @vP)/\
 (type_of% @vQ)/\
 (type_of% @tj)/\
 (type_of% @ti)/\
 (type_of% @qu)/\
 (type_of% @oP)/\
 (type_of% @tu)/\
 (type_of% @tp)/\
 (type_of% @vS)/\
 (type_of% @v7)/\
 (type_of% @BV)/\
 (type_of% @fK)/\
 (type_of% @sU)/\
 (type_of% @mG)/\
 (type_of% @fF)/\
 (type_of% @iQ)/\
 (type_of% @dF)/\
 (type_of% @aV)/\
 (type_of% @bI)/\
 (type_of% @cond_true.{1})/\
 (type_of% @cond_false.{1})/\
 (type_of% @Nat.zero_lt_one)/\
 (type_of% @Nat.lt_add_one)/\
 (type_of% @decide_eq_true_eq)/\
 (type_of% @Bool.not_true)/\
 (type_of% @Bool.not_false)/\
 (type_of% @Bool.false_eq_true)/\
 (type_of% @Bool.true_eq_false)/\
 (type_of% @decide_true)/\
 (type_of% @decide_false)/\
 (type_of% @eq_self.{1})/\
 (type_of% @Option.map_some.{0,0})/\
 (type_of% @Option.bind_some.{0,0})/\
 (type_of% @Nat.zero_add)/\
 (type_of% @Nat.add_zero)/\
 (type_of% @Nat.zero_mul)/\
 (type_of% @Nat.zero_ne_one)/\
 (type_of% @Nat.one_ne_zero)/\
 (type_of% @List.append_nil.{0})/\
 (type_of% @List.nil_append.{0})/\
 (type_of% @List.cons_append.{0})/\
 (type_of% @Option.isSome_some.{0})/\
 (type_of% @Option.isSome_none.{0})/\
 (type_of% @Option.isNone_some.{0})/\
 (type_of% @Option.isNone_none.{0})/\
 (type_of% @W_d)/\
 (type_of% @Hi)/\
 (type_of% @LP)/\
 (type_of% @LR)/\
 (type_of% @cK)/\
 (type_of% @Lu)/\
 (type_of% @Lw)/\
 (type_of% @Cr)/\
 (type_of% @HD)/\
 (type_of% @EW)/\
 (type_of% @zU)/\
 (type_of% @qc)/\
 (type_of% @LT)/\
 (type_of% @LU)/\
 (type_of% @Cq)/\
 (type_of% @HC)/\
 (type_of% @uG)/\
 (type_of% @rN)/\
 (type_of% @ew)/\
 (type_of% @Cv)/\
 (type_of% @zX)/\
 (type_of% @ur)/\
 (type_of% @Ba)/\
 (type_of% @zT)/\
 (type_of% @List.map_cons.{0,0})/\
 (type_of% @List.map_nil.{0,0})/\
 (type_of% @List.length_cons.{0})/\
 (type_of% @List.length_nil.{0})/\
 (type_of% @List.drop_succ_cons.{0})/\
 (type_of% @List.drop_zero.{0})/\
 (type_of% @List.getElem?_cons_succ.{0})/\
 (type_of% @List.getElem?_cons_zero.{0})/\
 (type_of% @List.reverse_cons.{0})/\
 (type_of% @List.reverse_nil.{0})/\
 (type_of% @List.take_succ_cons.{0})/\
 (type_of% @List.take_zero.{0})/\
 (type_of% @and_true)/\
 (type_of% @true_and):=
 ⟨@Hc,@Ce,@Hg,@He,@Cc,@Hh,@Cg,@Cf,@jt,@um,@qZ,@qY,@qw,@tD,@qy,@iF,@uy,@ye,@uz,@rK,@jX,@qe,@sW,@xN,@I5,@I4,@LO,@JR,@pq,@HX,@qQ,@qP,@cL,@Cn,@EC,@xO,@Jr,@Cj,@Jz,@Jw,@Jx,@Cz,@zZ,@wj,@zY,@wq,@wT,@wS,@Cp,@Co,@HB,@HA,@pa,@BW,@Cy,@fH,@eW,@Js,@Jy,@Ju,@Jv,@Cu,@Jt,@EE,@ql,@iB,@BI,@JI,@dE,@gu,@cU,@bR,@cQ,@lO,@hU,@T.get_set,@wk,@pc,@nW,@w9,@FG,@uK,@lh,@uJ,@fO,@ni,@BZ,@BX,@tI,@v8,@Ha,@GC,@AW,@AY,@GJ,@GN,@GU,@GO,@GW,@GH,@GL,@GZ,@GY,@jm,@GX,@wi,@wg,@GM,@zS,@JQ,@JP,@B9,@B5,@B4,@B3,@B6,@we,@Cb,@Ca,@BY,@wb,@wc,@yo,@vR,@tw,@vP,@vQ,@tj,@ti,@qu,@oP,@tu,@tp,@vS,@v7,@BV,@fK,@sU,@mG,@fF,@iQ,@dF,@aV,@bI,@cond_true.{1},@cond_false.{1},@Nat.zero_lt_one,@Nat.lt_add_one,@decide_eq_true_eq,@Bool.not_true,@Bool.not_false,@Bool.false_eq_true,@Bool.true_eq_false,@decide_true,@decide_false,@eq_self.{1},@Option.map_some.{0,0},@Option.bind_some.{0,0},@Nat.zero_add,@Nat.add_zero,@Nat.zero_mul,@Nat.zero_ne_one,@Nat.one_ne_zero,@List.append_nil.{0},@List.nil_append.{0},@List.cons_append.{0},@Option.isSome_some.{0},@Option.isSome_none.{0},@Option.isNone_some.{0},@Option.isNone_none.{0},@W_d,@Hi,@LP,@LR,@cK,@Lu,@Lw,@Cr,@HD,@EW,@zU,@qc,@LT,@LU,@Cq,@HC,@uG,@rN,@ew,@Cv,@zX,@ur,@Ba,@zT,@List.map_cons.{0,0},@List.map_nil.{0,0},@List.length_cons.{0},@List.length_nil.{0},@List.drop_succ_cons.{0},@List.drop_zero.{0},@List.getElem?_cons_succ.{0},@List.getElem?_cons_zero.{0},@List.reverse_cons.{0},@List.reverse_nil.{0},@List.take_succ_cons.{0},@List.take_zero.{0},@and_true,@true_and⟩
theorem rqn{I:Nat->T V->Heap->Prop}{k:Nat}{Q:Ex->T V->Heap->Prop}{env:T V}{h:Heap}(x:∃k',k'<k/\I k' env h):mJ I k Q .norm env h:=x
theorem stu{h:Heap}{n b o:Nat}{v:V}{c c':List V}{K:V->Heap->Prop}(w:WF h)(a:Own h b c)
 (k:∀h',Own h' b c'->Fr [b] h h'->h'.next=h.next->K (.tup []) h') (e:v.cells.length=n:=by exact rfl) (h1:au v.cells=true:=by first|exact rfl|simp[au,V.cells,fw, *]) (hu:bu c o v.cells=some c':=by simp only[evs];exact rfl):HQ (ig h n (.ptr b o) v) K:=ai w a e h1 hu k
variable {call : aI}
def T.dep{α:Type}:T α->Nat
 |.e=>0
 |.n l _ r=>1+max l.dep r.dep
theorem T.get_far{α:Type}:∀(t:T α)(i:Nat),2^t.dep≤i+1→t.get i=none
 |.e,_,_=>rfl
 |.n l v r,i,h=>by
  have hp:0<2^max l.dep r.dep:=Nat.two_pow_pos _;simp only[T.dep,Nat.pow_add,Nat.pow_one]at h;cases i with
  |zero=>omega
  |succ j=>rw[T.get_nS];have hl:2^l.dep≤2^max l.dep r.dep:=Nat.pow_le_pow_right oM (Nat.le_max_left _ _);have hr:2^r.dep≤2^max l.dep r.dep:=Nat.pow_le_pow_right oM (Nat.le_max_right _ _);split;exact T.get_far l _ oM;exact T.get_far r _ oM
theorem WF.hnew{h:Heap}(w:WF h)(k:Blk):WF (hnew h k):=by intro p K;have Z:h.next+1<=p:=K;have:=w p oM;exact⟨by show(h.bl.set _ _).get p=none;rw[Sd _ _ oM];exact this.1,this.2⟩
theorem Fr.hnew{h:Heap}(w:WF h)(k:Blk):Fr [] h (hnew h k) where
 next:=Nat.le_succ _
 wf:=w.hnew k
 own:=fun b c _ o=>by have:=o.lt w;let⟨f,k',e,x⟩:=o;exact⟨f,k',by show(h.bl.set _ _).get b=_;rw[T.get_set_ne _ _ oM];exact e,x⟩
 pl:=fun b c _ o=>by have:=o.own.lt w;let⟨⟨k',e⟩,f⟩:=o;exact⟨⟨k',by show(h.bl.set _ _).get b=_;rw[T.get_set_ne _ _ oM];exact e⟩,f⟩
 lp:=fun b x _ e=>by
  have:b≠h.next:=by rintro rfl;rw[(w _ (Nat.le_refl _)).1]at e;cases e
  show(h.bl.set _ _).get b=_;rw[T.get_set_ne _ _ this];exact e
 ro:=fun b c r=>r.new w _
structure FrB(S:List Nat)(B:Nat)(h h':Heap):Prop where
 next:h.next<=h'.next
 wf:WF h'
 own:∀b c,b∉S->Own h b c->Own h' b c
 pl:∀b c,b∉S->Pl h b c->Pl h' b c
 lp:∀b x,b≠B->Iq x=true->h.bl.get b=some x->h'.bl.get b=some x
 ro:∀b c,Rs h b c->Rs h' b c
theorem Fr.b{S S':List Nat}{h h':Heap}{B:Nat}(f:Fr S' h h')(hs:∀x∈S',x∈S):FrB S B h h':=⟨f.next,f.wf,fun b c hb o=>f.own b c (fun q=>hb (hs b q)) o,fun b c hb o=>f.pl b c (fun q=>hb (hs b q)) o,fun b x _ hx e=>f.lp b x hx e,f.ro⟩
theorem FrB.trans{S:List Nat}{h h1 h2:Heap}{B:Nat}(a:FrB S B h h1)(b:FrB S B h1 h2):FrB S B h h2:=
 ⟨SD a.next b.next,b.wf,fun x c hx o=>b.own x c hx (a.own x c hx o),fun x c hx o=>b.pl x c hx (a.pl x c hx o),fun x k hx hk o=>b.lp x k hx hk (a.lp x k hx hk o),fun x c r=>b.ro x c (a.ro x c r)⟩
theorem FrB.hset{S:List Nat}{h:Heap}(w:WF h){B:Nat}{x:Blk}(e:h.bl.get B=some x)(hx:Iq x=true)(k:Blk):FrB S B h (hset h B k):=by
 have hB:B<h.next:=by obtain q|q:=TB B h.next;exact q;rw[(w B q).1]at e;cases e
 refine⟨RW _,?_,?_,?_,?_,?_⟩;intro p hp;have ac:h.next<=p:=hp;have:=w p ac;exact⟨by show(h.bl.set _ _).get p=none;rw[Sd _ _ oM];exact this.1,this.2⟩;rintro b c _ ⟨f,k',Z,y⟩;have:b≠B:=by rintro rfl;rw[e]at Z;cases Z;cases hx
 exact⟨f,k',by show(h.bl.set _ _).get b=_;rw[Sd _ _ this];exact Z,y⟩;rintro b c _ ⟨⟨k',Z⟩,y⟩;have:b≠B:=by rintro rfl;rw[e]at Z;cases Z;cases hx
 exact⟨⟨k',by show(h.bl.set _ _).get b=_;rw[Sd _ _ this];exact Z⟩,y⟩;intro b y hb hy Z;show(h.bl.set _ _).get b=_;rw[Sd _ _ hb];exact Z;rintro b c ⟨f,k',ow,K,e2,e3,e4⟩;have h1:b≠B:=by rintro rfl;rw[e]at K;cases K;cases hx
 have h2:ow≠B:=by grind
 exact⟨f,k',ow,by show(h.bl.set _ _).get b=_;rw[Sd _ _ h1];exact K,e2,by show(h.bl.set _ _).get ow=_;rw[Sd _ _ h2];exact e3,e4⟩
theorem FrB.fr{S:List Nat}{B:Nat}{h h1 h2:Heap}(w:WF h)(f:Fr [] h h1)(a:FrB S B h1 h2)(hs:∀x∈S,h.next<=x)(hB:h.next<=B):Fr [] h h2:=
 ⟨SD f.next a.next,a.wf,fun b c _ o=>a.own b c (fun q=>by have:=hs b q;have:=o.lt w;omega) (f.get o),fun b c _ o=>a.pl b c (fun q=>by have:=hs b q;have:=o.own.lt w;omega) (f.pl b c iS o),
  fun b x hx e=>a.lp b x (by rintro rfl;rw[(w _ hB).1]at e;cases e) hx (f.lp b x hx e),fun b c r=>a.ro b c (f.ro b c r)⟩
theorem sE(h:Heap)(B:Nat)(k:Blk):(hset h B k).bl.get B=some k:=SU _ _ _
theorem ku(h:Heap)(k:Blk):(hnew h k).bl.get h.next=some k:=SU _ _ _
theorem Mr{g:Opd}{ps:List Nat}{as bd:IC}{env:T V}{h:Heap}{Q:Ex->T V->Heap->Prop}{f:Nat}{first caps:List V}(K:evO [] env g=some (.func (.func f) first caps))(hf:f<1099511627776)
 (k:OQ (call f (first++[.yld h.next]++caps) (hnew h (.lp ps as bd env 0 none))) fun _ h2=>∃ps2 as2 bd2 en2 st pend,h2.bl.get h.next=some (.lp ps2 as2 bd2 en2 st pend)/\st≠1/\
  Q (pend.getD .norm) env (hset h2 h.next .dead)):W call (.rf g ps as bd) env h Q:=by
 let⟨u,h2,e,ps2,as2,bd2,en2,st,pend,e2,e3,q⟩:=k;refine⟨_,_,_,?_,q⟩;have key:evC call (.rf g ps as bd) env h=(match evO [] env g with
  |some (.func (.func f) first caps)=>bif Nat.blt f YB then
   (match call f (first++[.yld h.next]++caps) (hnew h (.lp ps as bd env 0 none))with
    |some (_,h2)=>(match h2.bl.get h.next with
     |some (.lp _ _ _ _ st pend)=>bif Nat.beq st 1 then .fail else .ok (match pend with|some ex=>ex|none=>.norm) env (hset h2 h.next .dead)
     |_=>.fail)
    |none=>.fail)
   else .fail
  |_=>.fail:Out):=rfl
 have hb:Nat.blt f YB=true:=(SI ..).mpr hf;have Z:Nat.beq st 1=false:=by cases q:Nat.beq st 1;rfl;exact absurd (RY q) e3
 rw[key,K];simp only[hb,cond_true];rw[e];simp only[e2,Z,cond_false];cases pend<;>rfl
theorem AD {ov : aI} {F : T IFn} {b : Nat} {vs : List V} {h : Heap} {R : V -> Heap -> Prop} (hF : 2 ^ F.dep <= 1099511627776) {ps : List Nat} {as bd : IC} {env : T V} (hb : h.bl.get b = some (.lp ps as bd env 0 none)) (hl : vs.length = ps.length)
    (k : W (ev ov F) as (tG ps vs env) h fun e env1 h1 => e = .norm /\ ∃ ps1 as1 bd1 en1 p1, h1.bl.get b = some (.lp ps1 as1 bd1 en1 0 p1) /\
      W (ev ov F) bd env1 (hset h1 b (.lp ps1 as1 bd1 en1 1 p1)) fun e2 _ h2 => e2 = .norm /\ ∃ ps2 as2 bd2 en2 s2 p2, h2.bl.get b = some (.lp ps2 as2 bd2 en2 s2 p2) /\ R (.bool true) (hset h2 b (.lp ps2 as2 bd2 en2 0 none))) :
    ao (ev ov F) (YB + b) vs h R := by
  obtain ⟨_, env1, h1, e1, rfl, ps1, as1, bd1, en1, p1, hb1, _, env2, h2, e2, rfl, ps2, as2, bd2, en2, s2, p2, hb2, r⟩ := k
  refine ⟨_, _, FD (T.get_far F _ (by have:(1099511627776:Nat)<=YB:=dI;omega)) ?_, r⟩
  unfold evY
  rw [hb]
  have hl' : Nat.beq vs.length ps.length = true := by rw [hl]; exact TT _
  simp only [hl', cond_true]
  rw [e1]
  simp only [hb1]
  rw [e2]
  simp only [hb2]
def Rdb(h:Heap)(b:Nat)(c:List V):Prop:=Own h b c\/Rs h b c
theorem Rdb.cells{h:Heap}{b:Nat}{c:List V}(a:Rdb h b c):dN h b=some c:=by obtain o|⟨f,k,ow,K,Z,_⟩:=a;exact o.cells;simp only[dN,K,rd,Z,TT,Bool.or_true];rfl
theorem Rdb.ld1{h:Heap}{b:Nat}{c:List V}(a:Rdb h b c)(o:Nat):ab h b o=nth c o:=by simp only[ab,a.cells]
theorem Rdb.ld{h:Heap}{b:Nat}{c:List V}(a:Rdb h b c)(o n:Nat):aj h b o n=dA n (fX c o):=by simp only[aj,a.cells]
def ASl(h:Heap)(esz:Nat)(v:V)(n:Nat)(cs:List V):Prop:=
 cs.length=n*esz/\match v with
 |.nils=>n=0
 |.sliceE=>n=0
 |.sliceZ _ _=>n=0
 |.slice b o len cap=>len=n/\n<=cap/\∃c,Rdb h b c/\o+n*esz<=c.length/\cs=(c.drop o).take (n*esz)
 |.sliceU b o len e=>len=n/\e=esz/\∃c,Rdb h b c/\o+n*esz<=c.length/\cs=(c.drop o).take (n*esz)
 |_=>False
theorem Sl.a{h:Heap}{esz:Nat}{v:V}{n:Nat}{cs:List V}(a:Sl h esz v n cs):ASl h esz v n cs:=by
 let⟨hl,a⟩:=a;refine⟨hl,?_⟩;cases v with
 |slice b o l k=>let⟨h1,h2,c,o,x⟩:=a;exact⟨h1,h2,c,.inl o,x⟩
 |sliceU b o l k=>let⟨h1,h2,c,o,x⟩:=a;exact⟨h1,h2,c,.inl o,x⟩
 |sliceZ _ _=>exact a.elim
 |_=>exact a
theorem ASl.map{h Z:Heap}{esz:Nat}{v:V}{n:Nat}{cs:List V}(a:ASl h esz v n cs)(f:∀b c,Rdb h b c->(cs≠[]->∃x∈cs,x∈c)->Rdb Z b c):ASl Z esz v n cs:=by
 let⟨hl,a⟩:=a;refine⟨hl,?_⟩;have key:∀(o:Nat)(c:List V),cs=(c.drop o).take (n*esz)->cs≠[]->∃x∈cs,x∈c:=by intro o c e hne;let⟨x,hx⟩:=List.exists_mem_of_ne_nil cs hne;exact⟨x,hx,Tc (Tw (e▸hx))⟩
 cases v with
 |slice b o l k=>let⟨h1,h2,c,oc,x1,x2⟩:=a;exact⟨h1,h2,c,f b c oc (key o c x2),x1,x2⟩
 |sliceU b o l k=>let⟨h1,h2,c,oc,x1,x2⟩:=a;exact⟨h1,h2,c,f b c oc (key o c x2),x1,x2⟩
 |_=>exact a
theorem ASl.fr{h h':Heap}{esz:Nat}{v:V}{n:Nat}{cs:List V}(a:ASl h esz v n cs)(f:Fr [] h h'):ASl h' esz v n cs:=a.map fun b c r _=>r.imp (fun o=>f.get o) (f.ro b c)
theorem ASl.len{h:Heap}{esz:Nat}{v:V}{n:Nat}{cs:List V}(a:ASl h esz v n cs):aP .lenS [v]=some (.int .i64 n):=by
 let⟨hl,a⟩:=a;cases v with
 |slice b o l k=>obtain⟨rfl,_⟩:=a;rfl
 |sliceU b o l k=>obtain⟨rfl,_⟩:=a;rfl
 |nils=>have a:n=0:=a;subst a;rfl
 |sliceE=>have a:n=0:=a;subst a;rfl
 |sliceZ _ _=>have a:n=0:=a;subst a;rfl
 |_=>exact a.elim
theorem ASl.one{h:Heap}{esz:Nat}{v:V}{n:Nat}{cs:List V}(a:ASl h esz v n cs):v.one=true:=by
 let⟨hl,a⟩:=a;cases v with
 |slice b o l k=>rfl
 |sliceU b o l k=>rfl
 |nils=>rfl
 |sliceE=>rfl
 |sliceZ _ _=>rfl
 |_=>exact a.elim
theorem ASl.ix{h:Heap}{esz:Nat}{v:V}{n:Nat}{cs:List V}(a:ASl h esz v n cs)(k:IntKind)(i:Int)(h0:0<=i)(h1:i<n):
 ∃b o,aP (.ixs esz) [v,.int k i]=some (.ptr b o)/\(∀j,j<esz->ab h b (o+j)=cs[i.toNat*esz+j]?)/\aj h b o esz=some ((cs.drop (i.toNat*esz)).take esz):=by
 let⟨hl,a⟩:=a;obtain⟨m,rfl⟩:∃m:Nat,i=m:=⟨i.toNat,oM⟩;have hm:m<n:=oM;have ac:m*esz+esz<=n*esz:=by rw[<-Uz];exact Ti _ hm
 have K:∀(b o:Nat)(c:List V),Rdb h b c->o+n*esz<=c.length->cs=(c.drop o).take (n*esz)->
  (∀j,j<esz->ab h b (o+m*esz+j)=cs[m*esz+j]?)/\aj h b (o+m*esz) esz=some ((cs.drop (m*esz)).take esz):=by
  intro b o c hc Z e;subst e;constructor;intro j hj;rw[hc.ld1,j3,Uf,if_pos oM,To];congr 1;omega;rw[hc.ld,bM,bK _ _ oO,Va,Tl,TQ];congr 2;omega
 cases v with
 |slice b o l q=>obtain⟨rfl,_,c,hc,Z,e⟩:=a;exact⟨b,o+m*esz,gw _ _ _ _ _ _ _ h0 h1,K b o c hc Z e⟩
 |sliceU b o l q=>obtain⟨rfl,rfl,c,hc,Z,e⟩:=a;exact⟨b,o+m*q,nr _ _ _ _ _ _ _ h0 h1,K b o c hc Z e⟩
 |nils=>have a:n=0:=a;omega
 |sliceE=>have a:n=0:=a;omega
 |sliceZ _ _=>have a:n=0:=a;omega
 |_=>exact a.elim
section
variable {α : Type} {f : α -> List V} {k : Nat}
def ARecs(f:α->List V)(k:Nat)(h:Heap)(v:V)(L:List α):Prop:=ASl h k v L.length (L.flatMap f)
theorem Recs.a{h:Heap}{v:V}{L:List α}(a:Recs f k h v L):ARecs f k h v L:=Sl.a a
theorem ARecs.fr{h h':Heap}{v:V}{L:List α}(a:ARecs f k h v L)(r:Fr [] h h'):ARecs f k h' v L:=ASl.fr a r
theorem ARecs.len{h:Heap}{v:V}{L:List α}(a:ARecs f k h v L):aP .lenS [v]=some (.int .i64 L.length):=ASl.len a
theorem ARecs.one{h:Heap}{v:V}{L:List α}(a:ARecs f k h v L):v.one=true:=ASl.one a
theorem ARecs.ix{h:Heap}{v:V}{L:List α}(Z:∀x,(f x).length=k)(a:ARecs f k h v L)(kd:IntKind)(i:Int)(h0:0<=i)(h1:i<L.length):
 ∃b o x,aP (.ixs k) [v,.int kd i]=some (.ptr b o)/\(∀j,j<k->ab h b (o+j)=(f x)[j]?)/\aj h b o k=some (f x)/\L[i.toNat]? =some x:=by
 let⟨b,o,e,g,g2⟩:=ASl.ix a kd i h0 h1;have hi:i.toNat<L.length:=oM;have e3:L[i.toNat]? =some L[i.toNat]:=by simp[hi]
 have K:L.drop i.toNat=L[i.toNat]::L.drop (i.toNat+1):=Tu hi;refine⟨b,o,L[i.toNat],e,fun j hj=>?_,?_,e3⟩;rw[g j hj,<-To,bJ Z,K,SL,Tt (by rw[Z];exact hj)];rw[g2,bJ Z,K,SL];have:=Z L[i.toNat];rw[Vg,Sf oM,this];simp
end
end Go.Ev
open Go.RowKit
namespace Go.Ev
theorem Rdb.rd{h:Heap}{b:Nat}{c:List V}(o:Rdb h b c):∃f k,h.bl.get b=some (.row c f k)/\rd h b f k=true:=by
 obtain⟨f,k,e,x⟩|⟨f,k,ow,K,Z,_⟩:=o;exact⟨f,k,e,ny (by obtain⟨a,_⟩|a:=x;exact .inl a;exact .inr a)⟩
 refine⟨f,k,K,?_⟩;unfold Ev.rd;rw[Z];simp
theorem HRel.cellsR{m:M}{h:Heap}{w:World}(H:HRel m h w){p:Nat}{Z:Loc}{c:List V}(hm:m p=some Z)(o:Rdb h p c):
 ∃C el fz,w.heap[Z.block]? =some (.cells C el fz)/\Z.base+Z.room<=C.size/\∀(i:Nat) v,c[i]? =some v->∃x,C[Z.base+i]? =some x/\VRel m v x:=by
 let⟨f,k,e,r⟩:=o.rd;let⟨b,K,rel⟩:=H.blk p Z hm;rw[e]at K;cases K;let⟨C,el,fz,a1,a2,_,a4,_⟩:=rel r;exact⟨C,el,fz,a1,a2,a4⟩
noncomputable def put(t:T Blk):List (List V)->Nat->T Blk
 |[],_=>t
 |c::cs,i=>put (t.set i (.row c 1 0)) cs (i+1)
theorem wH:∀(cs:List (List V))(i:Nat)(t:T Blk)(p:Nat),(put t cs i).get p=if i<=p/\p<i+cs.length then(cs[p-i]?).map (fun c=>.row c 1 0)else t.get p
 |[],i,t,p=>by rw[if_neg iS];rfl
 |c::cs,i,t,p=>by show(put (t.set i (.row c 1 0)) cs (i+1)).get p=_;rw[wH cs (i+1),TF];simp only[SG];by_cases q:p=i;grind;grind
noncomputable def hS(Cs:List (List V)):Heap:=⟨put T.e Cs 2,2+Cs.length,(T.e:T (Nat×Nat)).set 1 (1,0)⟩
def mS(Ms:List (Option Loc)):M:=fun p=>if 2<=p then(Ms[p-2]?).join else none
section
variable {Cs : List (List V)} {Ms : List (Option Loc)}
theorem yM{i:Nat}{c:List V}(h:Cs[i]? =some c):(hS Cs).bl.get (2+i)=some (.row c 1 0):=by have Z:=(Ss.1 h).1;show(put _ Cs 2).get (2+i)=_;rw[wH,if_pos oM,(oM:2+i-2=i),h];rfl
theorem Au{p:Nat}(h:p<2\/2+Cs.length<=p):(hS Cs).bl.get p=none:=by show(put _ Cs 2).get p=_;rw[wH,if_neg oM];rfl
theorem Fi:(hS Cs).fams.get 1=some (1,0):=by show((T.e:T (Nat×Nat)).set 1 (1,0)).get 1=_;exact SU _ _ _
theorem Mh{p:Nat}(h:p≠1):(hS Cs).fams.get p=none:=by show((T.e:T (Nat×Nat)).set 1 (1,0)).get p=none;rw[Sd _ _ h];rfl
theorem JE:WF (hS Cs):=fun p hp=>⟨Au (.inr hp),Mh (by have:2+Cs.length<=p:=hp;omega)⟩
theorem JF{i:Nat}{c:List V}(h:Cs[i]? =some c):Rs (hS Cs) (2+i) c:=⟨1,0,1,yM h,Fi,Au (.inl oM),by show 1<2+Cs.length;omega⟩
theorem lu{p:Nat}{Z:Loc}(h:mS Ms p=some Z):∃i,p=2+i/\Ms[i]? =some (some Z):=by unfold mS at h;by_cases d:2<=p;grind;grind
theorem Lf{i:Nat}{Z:Loc}(h:Ms[i]? =some (some Z)):mS Ms (2+i)=some Z:=by unfold mS;rw[if_pos oM,(oM:2+i-2=i),h];rfl
def Mz(W:World)(loc:Loc)(c:List V):Prop:=loc.lp=none/\c.length=loc.room/\(∃C ty fz,W.heap[loc.block]? =some (.cells C ty fz)/\loc.base+loc.room<=C.size/\
 (∀(i:Nat) v,c[i]? =some v->∃k n,v=.int k n/\C[loc.base+i]? =some (.int k n))/\∀i:Nat,i<loc.room->¬(fz.1<=loc.base+i/\loc.base+i<fz.2))
end
abbrev uf:=IntKind×Int
def cV(c:uf):V:=.int c.1 c.2
def cX(c:uf):Value:=.int c.1 c.2
theorem flat_len'{α β:Type}{g:α->List β}{k:Nat}(gl:∀a,(g a).length=k):∀L:List α,(L.flatMap g).length=L.length*k
 |[]=>by simp
 |x::L=>by simp[SL,flat_len' gl L,gl,Uz,UH]
def Jj(W:World)(x:Value)(k n:Nat)(cs:List uf):Prop:=cs.length=n*k/\
 ((x=.slice none 0 0/\n=0)\/(∃a cap,x=.slice (some a) 0 cap/\n=0)\/
 ∃b off cap C t fz,x=.slice (some ⟨b,off,none⟩) n cap/\n<=cap/\0<n/\W.heap[b]? =some (.cells C t fz)/\off+n*k<=C.size/\
  (∀i:Nat,i<n*k->¬(fz.1<=off+i/\off+i<fz.2))/\∀(i:Nat) c,cs[i]? =some c->C[off+i]? =some (cX c))
theorem pick{W:World}{x:Value}{k n:Nat}{cs:List uf}(cm:Jj W x k n cs)(p:Nat):∃(v:V)(ml:Option Loc)(c:List V),
 (∀m:M,(∀loc,ml=some loc->m p=some loc)->VRel m v x)/\(∀loc,ml=some loc->Mz W loc c)/\(∀h,(ml≠none->Rs h p c)->ASl h k v n (cs.map cV))/\v.one=true/\∀u∈c,∃k n,u=V.int k n:=by
 let⟨fl,cm⟩:=cm;have Z:(cs.map cV).length=n*k:=by simpa using fl
 obtain⟨rfl,rfl⟩|⟨a,cap,rfl,rfl⟩|⟨b,off,cap,C,ty,fz,rfl,K,ak,hC,ae,af,ac⟩:=cm;exact⟨.nils,none,[],fun m _=>rfl,(fun loc h=>by cases h),fun h _=>⟨Z,rfl⟩,rfl,iS⟩;exact⟨.sliceZ a cap,none,[],fun m _=>rfl,(fun loc h=>by cases h),fun h _=>⟨Z,rfl⟩,rfl,iS⟩;have ci:∀(i:Nat) v,(cs.map cV)[i]? =some v->∃k n,v=.int k n/\C[off+i]? =some (.int k n):=by
  intro i v hv;rw[SY]at hv;cases e:cs[i]? with
  |none=>rw[e]at hv;cases hv
  |some c=>rw[e]at hv;cases hv;exact⟨_,_,rfl,ac i c e⟩
 refine⟨.slice p 0 n cap,some ⟨b,off,n*k,none⟩,cs.map cV,fun m hm=>⟨_,hm _ rfl,K,iS⟩,?_,fun h rs=>⟨Z,rfl,K,_,.inr (rs iS),oM,by rw[UA,Sf oM]⟩,rfl,?_⟩;rintro loc h;cases h;exact⟨rfl,Z,C,ty,fz,hC,ae,ci,af⟩;intro u hu;obtain⟨c,_,rfl⟩:=SX.1 hu;exact⟨_,_,rfl⟩
end Go.Ev
namespace Go.Ev.Lay
def val:List Nat->Nat
 |[]=>0
 |b::l=>b+256*val l
def rep(m:Nat)(l:List Nat):Nat:=val (l.map fun _=>m)
def f1(b:Nat):Nat:=((b/2)&&&85)+(b&&&85)
def f2(b:Nat):Nat:=((b/4)&&&51)+(b&&&51)
def f3(b:Nat):Nat:=(b/16+b)%16
theorem dv(x y k:Nat)(Z:x<k):(x+k*y)/k=y:=by rw[Nat.add_mul_div_left _ _ oM,Nat.div_eq_of_lt Z,Tj]
def K8:List Nat:=[0,1,56,2,57,49,28,3,61,58,42,50,38,29,17,4,62,47,59,36,45,43,51,22,53,39,33,30,24,18,12,5,63,55,48,27,60,41,37,16,46,35,44,21,52,32,23,11,54,26,40,15,34,20,31,10,25,14,19,9,13,8,7,6]
def Ma:List V:=K8.map fun(x:Nat)=>V.int .u8 (x:Int)
end Go.Ev.Lay
namespace Go.Ev.Ab
abbrev i(k:Int):Opd:=.c (.int .i64 k)
abbrev b(k:Int):Opd:=.c (.int .u8 k)
abbrev u(k:Int):Opd:=.c (.int .u64 k)
abbrev tt:Opd:=.c (.bool true)
abbrev ff:Opd:=.c (.bool false)
abbrev p(k:PK)(x:List Opd):IStep:=⟨none,.p k x,none⟩
abbrev q(k:PK)(x:List Opd)(d:Nat):IStep:=⟨none,.p k x,some d⟩
abbrev m(x:Opd):IStep:=⟨none,.p .mv [x],none⟩
abbrev o(x:Opd)(d:Nat):IStep:=⟨none,.p .mv [x],some d⟩
abbrev a(k:Nat):IStep:=⟨none,.p (.faddr k) [.l 0],none⟩
abbrev A(k v:Nat):IStep:=⟨none,.p (.faddr k) [.v v],none⟩
abbrev e(k:Nat):IStep:=⟨none,.p (.ext k) [.l k],none⟩
abbrev L:IStep:=⟨none,.ld 1 false (.l 0),none⟩
abbrev c(f:Nat)(x:List Opd):IStep:=⟨none,.cf f x,none⟩
abbrev n(o:IOp):IStep:=⟨none,o,none⟩
abbrev N(o:IOp)(d:Nat):IStep:=⟨none,o,some d⟩
abbrev f(j:Nat)(k:PK)(y:List Opd):IStep:=⟨some (.l j,false),.p k y,none⟩
abbrev y(j:Nat)(x:Opd):IStep:=⟨some (.l j,false),.p .mv [x],none⟩
abbrev z(j:Nat)(x:Opd):IStep:=⟨some (.l j,true),.p .mv [x],none⟩
abbrev t(j:Nat)(k:PK)(y:List Opd):IStep:=⟨some (.l j,true),.p k y,none⟩
abbrev g(j:Nat)(o:IOp):IStep:=⟨some (.l j,false),o,none⟩
abbrev h(j:Nat)(o:IOp):IStep:=⟨some (.l j,true),o,none⟩
abbrev G(x:Opd)(w:Bool)(o:IOp)(d:Nat):IStep:=⟨some (x,w),o,some d⟩
abbrev s(l:List IStep)(k:IC):IC:=.seq (.ops l) k
abbrev zK:List V:=[.int .u8 0,.str [],.str [],.nils,.str [],.nils,.int .i64 0,.bool false,.int .i64 0]
abbrev zE:List V:=[.int .u64 0,.int .u8 0,.str [],.nils,.int .i64 0,.bool false]
abbrev zO:List V:=[.int .u8 0,.int .i64 0,.int .i64 0,.int .i64 0,.nils]
abbrev zN:List V:=[.int .u8 0,.str [],.str [],.nils,.str [],.nils]
abbrev zI:List V:=[.int .u64 0,.int .u8 0,.str [],.nils]
abbrev r(v:Nat)(l:List IStep):IC:=.cond (.v v) (.seq (.ops l) .ret) .skip
abbrev ad:PK:=.ib .add
abbrev su:PK:=.ib .sub
abbrev mu:PK:=.ib .mul
abbrev eq:PK:=.ib .eql
abbrev ne:PK:=.ib .neq
abbrev lt:PK:=.ib .lss
abbrev gt:PK:=.ib .gtr
abbrev le:PK:=.ib .leq
abbrev ge:PK:=.ib .geq
abbrev P(k:Nat):IStep:=⟨none,.p .pick [.l k,.c (.bool true),.l 0],none⟩
abbrev Q(k:Nat):IStep:=⟨none,.p .pick [.l k,.l 0,.c (.bool false)],none⟩
abbrev v(k:Nat):IStep:=⟨none,.p .nilck [.v k],none⟩
abbrev k:IStep:=⟨none,.p .nilck [.l 0],none⟩
abbrev l:IOp:=.ld 1 false (.l 0)
abbrev d(k j:Nat):IStep:=⟨none,.ld k true (.l j),none⟩
abbrev D(k j:Nat):IStep:=⟨none,.ld k true (.v j),none⟩
abbrev ls:IStep:=⟨none,.p .lenS [.l 0],none⟩
abbrev lv(k:Nat):IStep:=⟨none,.p .lenS [.v k],none⟩
abbrev S(k j:Nat):IStep:=⟨none,.st k (.v j) (.l 0),none⟩
abbrev w(k:Nat):IStep:=⟨none,.st k (.l 0) (.l 1),none⟩
abbrev al(z:List V)(d:Nat):IStep:=⟨none,.al z,some d⟩
abbrev bx(k d:Nat):IStep:=⟨none,.bx (.v k),some d⟩
abbrev x(k n:Nat):IC:=.cond (.v k) .skip (.exit n)
abbrev I(k:Nat):IC:=.ops [m (.v k),p ad [.l 0,i 1],o (.l 0) k]
abbrev J(k:Nat):IC:=.ops [p ad [.v k,i 1],o (.l 0) k]
abbrev ds(l:List IStep)(r:List (Nat×Nat×Nat))(t:List (Nat×Nat)):IC:=.dops l [] [] r t
abbrev lp(n k:Nat)(l:List IStep)(c b i:IC):IC:=.block n (.loop (.seq (.seq (.ops l) c) (.seq (.block k b) i)))
abbrev zH:List V:=[.int .u64 0,.int .i64 0]
abbrev fv(j:Nat)(k:PK)(y:List Opd):IStep:=⟨some (.v j,false),.p k y,none⟩
abbrev tv(j:Nat)(k:PK)(y:List Opd):IStep:=⟨some (.v j,true),.p k y,none⟩
abbrev gv(j:Nat)(o:IOp):IStep:=⟨some (.v j,false),o,none⟩
abbrev hv(j:Nat)(o:IOp):IStep:=⟨some (.v j,true),o,none⟩
abbrev Y:Opd:=.l 0
abbrev O:Opd:=.c (.int .i64 0)
abbrev U:List Opd:=[.l 0]
abbrev B(k:Nat):List Opd:=[.l k,.l 0]
abbrev O1(d:Nat):IStep:=⟨none,.p .mv [.l 0],some d⟩
abbrev O0(d:Nat):IStep:=⟨none,.p .mv [.c (.int .i64 0)],some d⟩
abbrev On(d:Nat):IStep:=⟨none,.p .mv [.c .nils],some d⟩
abbrev Of(d:Nat):IStep:=⟨none,.p .mv [.c (.bool false)],some d⟩
abbrev mv(k:Nat):IStep:=⟨none,.p .mv [.v k],none⟩
abbrev yv(j k:Nat):IStep:=⟨some (.l j,false),.p .mv [.v k],none⟩
abbrev zv(j k:Nat):IStep:=⟨some (.l j,true),.p .mv [.v k],none⟩
end Go.Ev.Ab
namespace Go.Ev
abbrev Sj:=@Go.Ev.Fr.trans
abbrev Sn:=@Go.Ev.Fr.refl
abbrev SO:=@Go.Ev.Fr.halloc
abbrev Ts:=@Go.Ev.Own.new
abbrev TH:=@Go.Ev.Sl.lit
abbrev TI:=@Go.Ev.Sl.one
abbrev TK:=@Go.Ev.Recs.fr
abbrev Vi:=@Go.Ev.Recs.ix
abbrev VB:=@Go.Ev.ASl.one
abbrev VL:=@Go.Ev.Recs.nil
abbrev VU:=@Go.Ev.FrB.hset
abbrev VV:=@Go.Ev.Recs.len
abbrev VW:=@Go.Ev.Gs.sl
abbrev VX:=@Go.Ev.FrB.fr
end Go.Ev
namespace Go.Ev
abbrev ZZ(n:Int):V:=.int .i64 n
abbrev ZY(n:Int):V:=.int .u8 n
abbrev ZX(n:Int):V:=.int .u64 n
end Go.Ev
