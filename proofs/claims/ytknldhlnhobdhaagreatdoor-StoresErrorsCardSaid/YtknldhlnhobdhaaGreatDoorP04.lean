/- An evaluator of the program, and contracts over it: EvWb to LayAb. -/
import Derived.Test.YtknldhlnhobdhaaGreatDoorP03
set_option linter.unusedSimpArgs false
set_option linter.unusedVariables false
set_option linter.constructorNameAsVariable false
set_option linter.unnecessarySimpa false
namespace Go.Ev
theorem bG(k:IntKind):lF k k=true:=by simp[lF]
theorem tR(x:V):aP .mv [x]=some x:=rfl
theorem AJ(c:Bool)(a b:V):aP .pick [.bool c,a,b]=some (bif c then a else b):=rfl
theorem qV(b o:Nat):aP .nilck [.ptr b o]=some (.ptr b o):=rfl
theorem tN(f:Nat)(x y:List V):aP .nilck [.func (.func f) x y]=some (.func (.func f) x y):=rfl
theorem zr(k:IntKind)(a b:Int):aP (.ib .add) [.int k a,.int k b]=some (.int k (bE k (a+b))):=by simp only[aP,bG,cond_true,gX];rfl
theorem vn(k:IntKind)(a b:Int):aP (.ib .sub) [.int k a,.int k b]=some (.int k (bE k (a-b))):=by simp only[aP,bG,cond_true,gX];rfl
theorem zn(k:IntKind)(a b:Int):aP (.ib .mul) [.int k a,.int k b]=some (.int k (bE k (a*b))):=by simp only[aP,bG,cond_true,gX];rfl
theorem nT(k:IntKind)(a b:Int)(h:b≠0):aP (.ib .quo) [.int k a,.int k b]=some (.int k (bE k (a.tdiv b))):=by
 have:ieq b 0=false:=by rw[d9];simpa using h
 simp only[aP,bG,cond_true,gX,this,cond_false]
theorem lO(k:IntKind)(a b:Int)(h:b≠0):aP (.ib .rem) [.int k a,.int k b]=some (.int k (a.tmod b)):=by
 have:ieq b 0=false:=by rw[d9];simpa using h
 simp only[aP,bG,cond_true,gX,this,cond_false]
theorem vq(k:IntKind)(a b:Int):aP (.ib .eql) [.int k a,.int k b]=some (.bool (decide (a=b))):=by simp only[aP,bG,cond_true,gX,d9];rfl
theorem ET(k:IntKind)(a b:Int):aP (.ib .neq) [.int k a,.int k b]=some (.bool (!decide (a=b))):=by simp only[aP,bG,cond_true,gX,d9];rfl
theorem EW(k:IntKind)(a b:Int):aP (.ib .lss) [.int k a,.int k b]=some (.bool (decide (a<b))):=by simp only[aP,bG,cond_true,gX,gW]
theorem EY(k:IntKind)(a b:Int):aP (.ib .gtr) [.int k a,.int k b]=some (.bool (decide (b<a))):=by simp only[aP,bG,cond_true,gX,gW]
theorem EX(k:IntKind)(a b:Int):aP (.ib .leq) [.int k a,.int k b]=some (.bool (decide (a≤b))):=by simp only[aP,bG,cond_true,gX,gW];congr 2;rw[Bool.eq_iff_iff];simp
theorem EZ(k:IntKind)(a b:Int):aP (.ib .geq) [.int k a,.int k b]=some (.bool (decide (b≤a))):=by simp only[aP,bG,cond_true,gX,gW];congr 2;rw[Bool.eq_iff_iff];simp
theorem ES(b:Bool):aP .not [.bool b]=some (.bool (!b)):=rfl
theorem zl(k:IntKind)(n:Int):aP .neg [.int k n]=some (.int k (bE k (0-n))):=rfl
theorem E6(a b:Bool):aP (.bb false) [.bool a,.bool b]=some (.bool (decide (a=b))):=by cases a<;>cases b<;>rfl
theorem E5(a b:Bool):aP (.bb true) [.bool a,.bool b]=some (.bool (!decide (a=b))):=by cases a<;>cases b<;>rfl
theorem iA(off b o:Nat):aP (.faddr off) [.ptr b o]=some (.ptr b (o+off)):=rfl
theorem E4(i:Nat)(l:List V):aP (.ext i) [.tup l]=nth l i:=rfl
theorem tW(off n:Nat)(l:List V):aP (.field off n false) [.agg l]=nth l off:=rfl
theorem tV(off n:Nat)(l:List V):aP (.field off n true) [.agg l]=(cT n (eY l off)).map .agg:=rfl
theorem EU(fn:Fn)(n:Nat)(vs:List V):aP (.mkf fn n) vs=(cT n vs).map fun f=>.func fn f (eY vs n):=rfl
theorem xJ(zero:List V)(places:List (Nat×Nat))(vs:List V):aP (.build zero places) vs=(de zero places vs).map .agg:=rfl
theorem IR(k k':IntKind)(a b:Int):aP .mn [.int k a,.int k' b]=some (.int k (min a b)):=by simp only[aP,gW];congr 2;by_cases h:b<a;grind;grind
theorem IQ(k k':IntKind)(a b:Int):aP .mx [.int k a,.int k' b]=some (.int k (max a b)):=by simp only[aP,gW];congr 2;by_cases h:a<b;grind;grind
theorem pB(k k':IntKind)(n:Int):aP (.conv k) [.int k' n]=some (.int k (bE k n)):=rfl
theorem AN:aP .lenS [.nils]=some (.int .i64 0):=rfl
theorem AM(b o len cap:Nat):aP .lenS [.slice b o len cap]=some (.int .i64 len):=rfl
theorem AL(b o len cap:Nat):aP .lenS [.sliceU b o len cap]=some (.int .i64 len):=rfl
theorem AO:aP .lenS [.sliceE]=some (.int .i64 0):=rfl
theorem tU(n:Nat)(v:V):aP (.lenArr n) [v]=some (.int .i64 n):=rfl
theorem AQ:aP .capS [.nils]=some (.int .i64 0):=rfl
theorem AP(b o len cap:Nat):aP .capS [.slice b o len cap]=some (.int .i64 cap):=rfl
theorem jV(esz b o len cap:Nat)(k:IntKind)(i:Int)(h0:0≤i)(h1:i<len):aP (.ixs esz) [.slice b o len cap,.int k i]=some (.ptr b (o+i.toNat*esz)):=by
 obtain⟨n,rfl⟩:∃n:Nat,i=n:=⟨i.toNat,oM⟩;have:Nat.blt n len=true:=by simp only[Nat.blt_eq];omega
 simp only[aP,jU];show Option.map _ (bif Nat.blt n len then some n else none)=_;rw[this];rfl
theorem lP(esz b o len cap:Nat)(k:IntKind)(i:Int)(h0:0≤i)(h1:i<len):aP (.ixs esz) [.sliceU b o len cap,.int k i]=some (.ptr b (o+i.toNat*esz)):=by
 obtain⟨n,rfl⟩:∃n:Nat,i=n:=⟨i.toNat,oM⟩;have:Nat.blt n len=true:=by simp only[Nat.blt_eq];omega
 simp only[aP,jU];show Option.map _ (bif Nat.blt n len then some n else none)=_;rw[this];rfl
theorem nU(esz b o len:Nat)(k:IntKind)(i:Int)(h0:0≤i)(h1:i<len):aP (.ixa len esz) [.ptr b o,.int k i]=some (.ptr b (o+i.toNat*esz)):=by
 obtain⟨n,rfl⟩:∃n:Nat,i=n:=⟨i.toNat,oM⟩;have:Nat.blt n len=true:=by simp only[Nat.blt_eq];omega
 simp only[aP,jU];show Option.map _ (bif Nat.blt n len then some n else none)=_;rw[this];rfl
theorem EP(k k':IntKind)(a b:Int)(h:0≤b):aP (.sh true) [.int k a,.int k' b]=some (.int k (bE k (a*(2^(min b.toNat k.bits):Nat)))):=by obtain⟨n,rfl⟩:∃n:Nat,b=n:=⟨b.toNat,oM⟩;rfl
theorem zj(k k':IntKind)(a b:Int)(h:0≤b):aP (.sh false) [.int k a,.int k' b]=some (.int k (a.fdiv (2^(min b.toNat k.bits):Nat))):=by obtain⟨n,rfl⟩:∃n:Nat,b=n:=⟨b.toNat,oM⟩;rfl
def pv:Option Nat→V
 |none=>.nilp
 |some b=>.ptr b 0
theorem gK:pv none=.nilp:=rfl
theorem aI(b:Nat):pv (some b)=.ptr b 0:=rfl
theorem fu(o:Option Nat):(pv o).one=true:=by cases o<;>rfl
theorem az{v:V}(h:v.one=true):v.cells=[v]:=by cases v<;>first|rfl|(simp[V.one]at h)
theorem wg(o:Option Nat):(pv o).cells=[pv o]:=az (fu o)
theorem AK(ne:Bool)(o:Option Nat):aP (.nil 0 ne) [pv o,.nilp]=some (.bool (bif ne then o.isSome else o.isNone)):=by cases o<;>cases ne<;>rfl
theorem tO(b o:Nat)(ne:Bool):aP (.nil 0 ne) [.ptr b o,.nilp]=some (.bool ne):=by cases ne<;>rfl
theorem tQ(ne:Bool):aP (.nil 0 ne) [.nilp,.nilp]=some (.bool (!ne)):=by cases ne<;>rfl
theorem tL(c:List V):de c [] []=some c:=rfl
theorem zb(c:List V)(off size:Nat)(ps:List (Nat×Nat))(v:V)(vs:List V)(h:v.cells.length=size)(h0:0<size):
 de c ((off,size)::ps) (v::vs)=(bC c off v.cells).bind fun c'=>de c' ps vs:=by
 subst h;simp only[de];have:Nat.blt 0 v.cells.length=true:=by simpa[Nat.blt_eq]using h0
 rw[this];simp only[Nat.beq_refl,Bool.and_self,cond_true];cases bC c off v.cells<;>rfl
theorem AH(c:List V)(off size:Nat)(ps:List (Nat×Nat))(v:V)(vs:List V):
 de c ((off,size)::ps) (v::vs)=if v.cells.length=size then if 0<size then(bC c off v.cells).bind fun c'=>de c' ps vs else none else none:=by
 by_cases h:v.cells.length=size;rw[if_pos h];by_cases h0:0<size;rw[if_pos h0,zb _ _ _ _ _ _ h h0];rw[if_neg h0];have:Nat.blt 0 size=false:=by cases hb:Nat.blt 0 size;rfl;rw[Nat.blt_eq]at hb;exact absurd hb h0
 simp[de,this];rw[if_neg h];have:Nat.beq v.cells.length size=false:=by cases hb:Nat.beq v.cells.length size;rfl;exact absurd (Nat.eq_of_beq_eq_true hb) h
 simp[de,this]
theorem tC(k:IntKind)(n:Int):(V.int k n).cells=[.int k n]:=rfl
theorem qM(b:Bool):(V.bool b).cells=[.bool b]:=rfl
theorem tw(b:List UInt8):(V.str b).cells=[.str b]:=rfl
theorem tA(b o:Nat):(V.ptr b o).cells=[.ptr b o]:=rfl
theorem qJ:V.nilp.cells=[.nilp]:=rfl
theorem qI:V.nils.cells=[.nils]:=rfl
theorem oV(b o l c:Nat):(V.slice b o l c).cells=[.slice b o l c]:=rfl
theorem mN(b o l c:Nat):(V.sliceU b o l c).cells=[.sliceU b o l c]:=rfl
theorem qL(f:Fn)(a b:List V):(V.func f a b).cells=[.func f a b]:=rfl
theorem qK:V.nilf.cells=[.nilf]:=rfl
theorem tD(l:List V):(V.agg l).cells=l:=rfl
theorem ah(n:Int)(h1:-9223372036854775808≤n)(h2:n≤9223372036854775807):bE .i64 n=n:=by rw[cK];simp only[IntKind.wrap,IntKind.bits,IntKind.signed];simp;omega
theorem D5(n:Int)(h1:0≤n)(h2:n≤255):bE .u8 n=n:=by rw[cK];simp only[IntKind.wrap,IntKind.bits,IntKind.signed];simp;omega
theorem bV(n:Int)(h1:0≤n)(h2:n≤18446744073709551615):bE .u64 n=n:=by rw[cK];simp only[IntKind.wrap,IntKind.bits,IntKind.signed];simp;omega
def WF(h:Heap):Prop:=∀p,h.next≤p→h.bl.get p=none∧h.fams.get p=none
def Own(h:Heap)(b:Nat)(c:List V):Prop:=∃f k,h.bl.get b=some (.row c f k)∧((h.fams.get f=none∧f=b)∨∃e,h.fams.get f=some (b,e))
theorem Own.uniq{h:Heap}{b:Nat}{c c':List V}(a:Own h b c)(a':Own h b c'):c=c':=by let⟨f,k,e,_⟩:=a;let⟨f',k',e',_⟩:=a';rw[e]at e';cases e';rfl
theorem Own.lt{h:Heap}{b:Nat}{c:List V}(a:Own h b c)(w:WF h):b<h.next:=by let⟨f,k,e,_⟩:=a;obtain x|x:=Nat.lt_or_ge b h.next;exact x;rw[(w b x).1]at e;cases e
theorem Own.cells{h:Heap}{b:Nat}{c:List V}(a:Own h b c):c9 h b=some c:=by let⟨f,k,e,x⟩:=a;simp only[c9,e,rd];obtain⟨x,rfl⟩|⟨e',x⟩:=x;rw[x];rfl;rw[x];simp
theorem Own.ld1{h:Heap}{b:Nat}{c:List V}(a:Own h b c)(o:Nat):ag h b o=nth c o:=by simp only[ag,a.cells]
theorem Own.ld{h:Heap}{b:Nat}{c:List V}(a:Own h b c)(o n:Nat):ak h b o n=cT n (eY c o):=by simp only[ak,a.cells]
theorem dV(h:Heap)(n b o:Nat):iw h n false (.ptr b o)=ag h b o:=rfl
theorem lN(h:Heap)(n b o:Nat):iw h n true (.ptr b o)=(ak h b o n).map .agg:=rfl
theorem eP(l:List V):eY l 0=l:=by rw[bq];rfl
theorem qB(v:V)(l:List V)(n:Nat):eY (v::l) (n+1)=eY l n:=rfl
def Pl(h:Heap)(b:Nat)(c:List V):Prop:=(∃k,h.bl.get b=some (.row c b k))∧h.fams.get b=none
theorem Pl.own{h:Heap}{b:Nat}{c:List V}(a:Pl h b c):Own h b c:=by let⟨⟨k,e⟩,f⟩:=a;exact⟨b,k,e,.inl ⟨f,rfl⟩⟩
def Hm:Blk→Bool
 |.lp _ _ _ _ _ _=>true
 |.mp _ _=>true
 |_=>false
def Rs(h:Heap)(b:Nat)(c:List V):Prop:=∃f k ow,h.bl.get b=some (.row c f k)∧h.fams.get f=some (ow,k)∧h.bl.get ow=none∧ow<h.next
theorem Rs.set{h:Heap}{b:Nat}{c:List V}(r:Rs h b c){b':Nat}{c0 c1:List V}{f0 k0 k1:Nat}(e:h.bl.get b'=some (.row c0 f0 k0))(x:(h.fams.get f0=none)∨∃e',h.fams.get f0=some (b',e'))(F':T (Nat×Nat))(hF:F'=h.fams∨∃y,F'=h.fams.set f0 y)(n':Nat)(hn:h.next≤n'):
 Rs ⟨h.bl.set b' (.row c1 f0 k1),n',F'⟩ b c:=by
 let⟨f,k,ow,e1,e2,e3,e4⟩:=r;have hff:f≠f0:=by grind
 have hb:b≠b':=by grind
 have ho:ow≠b':=by grind
 refine⟨f,k,ow,?_,?_,?_,by show ow<n';omega⟩;show(h.bl.set b' _).get b=_;rw[T.get_set_ne _ _ hb];exact e1;show F'.get f=_;obtain rfl|⟨y,rfl⟩:=hF;exact e2;rw[T.get_set_ne _ _ hff];exact e2;show(h.bl.set b' _).get ow=_;rw[T.get_set_ne _ _ ho];exact e3
theorem Rs.new{h:Heap}{b:Nat}{c:List V}(r:Rs h b c)(w:WF h)(k:Blk):Rs ⟨h.bl.set h.next k,h.next+1,h.fams⟩ b c:=by
 let⟨f,k',ow,e1,e2,e3,e4⟩:=r;have hb:b≠h.next:=by rintro rfl;rw[(w _ (Nat.le_refl _)).1]at e1;cases e1
 refine⟨f,k',ow,?_,e2,?_,by show ow<h.next+1;omega⟩;show(h.bl.set _ _).get b=_;rw[T.get_set_ne _ _ hb];exact e1;show(h.bl.set _ _).get ow=_;rw[T.get_set_ne _ _ oM];exact e3
structure Fr(S:List Nat)(h h':Heap):Prop where
 next:h.next≤h'.next
 wf:WF h'
 own:∀b c,b∉S→Own h b c→Own h' b c
 pl:∀b c,b∉S→Pl h b c→Pl h' b c
 lp:∀b x,Hm x=true→h.bl.get b=some x→h'.bl.get b=some x
 ro:∀b c,Rs h b c→Rs h' b c
theorem Fr.refl{S:List Nat}{h:Heap}(w:WF h):Fr S h h:=⟨Nat.le_refl _,w,fun _ _ _ x=>x,fun _ _ _ x=>x,fun _ _ _ x=>x,fun _ _ x=>x⟩
theorem Fr.trans{S S' T:List Nat}{h h1 h2:Heap}(a:Fr S h h1)(b:Fr S' h1 h2)(w:WF h)(hs:∀x,x∈S→x∈T∨h.next≤x)(hs':∀x,x∈S'→x∈T∨h.next≤x):Fr T h h2 where
 next:=Nat.le_trans a.next b.next
 wf:=b.wf
 lp:=fun x k hk o=>b.lp x k hk (a.lp x k hk o)
 ro:=fun x c r=>b.ro x c (a.ro x c r)
 own:=fun x c hx o=>by have:=o.lt w;refine b.own x c (fun m=>?_) (a.own x c (fun m=>?_) o);grind;grind
 pl:=fun x c hx o=>by have:=o.own.lt w;refine b.pl x c (fun m=>?_) (a.pl x c (fun m=>?_) o);grind;grind
theorem Fr.then{h h1 h2:Heap}(a:Fr [] h h1)(b:Fr [] h1 h2):Fr [] h h2 where
 next:=Nat.le_trans a.next b.next
 wf:=b.wf
 lp:=fun x k hk o=>b.lp x k hk (a.lp x k hk o)
 ro:=fun x c r=>b.ro x c (a.ro x c r)
 own:=fun x c _ o=>b.own x c iS (a.own x c iS o)
 pl:=fun x c _ o=>b.pl x c iS (a.pl x c iS o)
theorem Fr.get{h h':Heap}(a:Fr [] h h'){b:Nat}{c:List V}(o:Own h b c):Own h' b c:=a.own b c iS o
theorem WF.halloc{h:Heap}(w:WF h)(c:List V):WF (halloc h c):=by intro p hp;have hp':h.next+1≤p:=hp;have:=w p oM;exact⟨by show(h.bl.set _ _).get p=none;rw[T.get_set_ne _ _ oM];exact this.1,this.2⟩
theorem Own.new{h:Heap}(w:WF h)(c:List V):Own (halloc h c) h.next c:=
 ⟨h.next,0,T.get_set_self _ _ _,.inl ⟨(w h.next (Nat.le_refl _)).2,rfl⟩⟩
theorem Own.halloc{h:Heap}{b:Nat}{c:List V}(o:Own h b c)(w:WF h)(d:List V):Own (halloc h d) b c:=by have:=o.lt w;let⟨f,k,e,x⟩:=o;exact⟨f,k,by show(h.bl.set _ _).get b=_;rw[T.get_set_ne _ _ oM];exact e,x⟩
theorem Fr.halloc{h:Heap}(w:WF h)(c:List V):Fr [] h (halloc h c):=⟨Nat.le_succ _,w.halloc c,fun _ _ _ o=>o.halloc w c,fun b d _ o=>by
 have:=o.own.lt w;let⟨⟨k,e⟩,f⟩:=o;exact⟨⟨k,by show(h.bl.set _ _).get b=_;rw[T.get_set_ne _ _ oM];exact e⟩,f⟩,fun b x _ e=>by
 have:b≠h.next:=by rintro rfl;rw[(w _ (Nat.le_refl _)).1]at e;cases e
 show(h.bl.set _ _).get b=_;rw[T.get_set_ne _ _ this];exact e,fun b x r=>r.new w _⟩
theorem jL(h:Heap)(c:List V):(Ev.halloc h c).next=h.next+1:=rfl
theorem ao{h:Heap}(w:WF h)(c:List V):∃h1,h1=Ev.halloc h c∧Fr [] h h1∧Own h1 h.next c:=⟨_,rfl,Fr.halloc w c,Own.new w c⟩
theorem hnx{h h1:Heap}{c:List V}(e:h1=Ev.halloc h c):h1.next=h.next+1:=by rw[e];rfl
attribute [simp] T.get_set
theorem j5{h:Heap}{b o:Nat}{c c' vs:List V}(w:WF h)(a:Own h b c)(h1:av vs=true)(hu:bC c o vs=some c'):
 ∃h',cP h b o vs=some h'∧Own h' b c'∧Fr [b] h h'∧h'.next=h.next:=by
 have hb:=a.lt w;let⟨f,k,e,x⟩:=a;simp only[cP,e,h1,cond_true,hu];obtain⟨x,rfl⟩|⟨e',x⟩:=x;rw[x];refine⟨_,rfl,⟨f,k,T.get_set_self _ _ _,.inl ⟨x,rfl⟩⟩,⟨Nat.le_refl _,?_,?_,?_,fun q y hy ey=>by
  have:q≠f:=by intro eq;rw[eq,e]at ey;cases ey;cases hy
  show(h.bl.set _ _).get q=_;rw[T.get_set_ne _ _ this];exact ey,fun q y r=>r.set e (.inl x) _ (.inl rfl) _ (Nat.le_refl _)⟩,rfl⟩
 intro p hp;have hp':h.next≤p:=hp;have:=w p hp';exact⟨by show(h.bl.set _ _).get p=none;rw[T.get_set_ne _ _ oM];exact this.1,this.2⟩;rintro q d hq ⟨f1,k1,e1,x1⟩;simp at hq;exact⟨f1,k1,by show(h.bl.set _ _).get q=_;rw[T.get_set_ne _ _ hq];exact e1,x1⟩;rintro q d hq ⟨⟨k1,e1⟩,x1⟩;simp at hq;exact⟨⟨k1,by show(h.bl.set _ _).get q=_;rw[T.get_set_ne _ _ hq];exact e1⟩,x1⟩;rw[x];simp only[Nat.beq_refl,cond_true];refine⟨_,rfl,⟨f,k,T.get_set_self _ _ _,.inr ⟨e'+1,T.get_set_self _ _ _⟩⟩,⟨Nat.le_refl _,?_,?_,?_,fun q y hy ey=>by
  have:q≠b:=by intro eq;rw[eq,e]at ey;cases ey;cases hy
  show(h.bl.set _ _).get q=_;rw[T.get_set_ne _ _ this];exact ey,fun q y r=>r.set e (.inr ⟨_,x⟩) _ (.inr ⟨_,rfl⟩) _ (Nat.le_refl _)⟩,rfl⟩
 intro p hp;have hp':h.next≤p:=hp;have:=w p hp';refine⟨by show(h.bl.set _ _).get p=none;rw[T.get_set_ne _ _ oM];exact this.1,?_⟩;show(h.fams.set _ _).get p=none;by_cases hpf:p=f;grind;rw[T.get_set_ne _ _ hpf];exact this.2;rintro q d hq ⟨f1,k1,e1,x1⟩;simp at hq;refine⟨f1,k1,by show(h.bl.set _ _).get q=_;rw[T.get_set_ne _ _ hq];exact e1,?_⟩;have hf:f1≠f:=by grind
 show((h.fams.set f (b,e'+1)).get f1=none∧_)∨∃e,(h.fams.set f (b,e'+1)).get f1=some (q,e);rw[T.get_set_ne _ _ hf];exact x1;rintro q d hq ⟨⟨k1,e1⟩,x1⟩;simp at hq;refine⟨⟨k1,by show(h.bl.set _ _).get q=_;rw[T.get_set_ne _ _ hq];exact e1⟩,?_⟩;show(h.fams.set f (b,e'+1)).get q=none;rw[T.get_set_ne _ _ (by rintro rfl;rw[x]at x1;cases x1)];exact x1
theorem y9{h:Heap}{n b o:Nat}{v:V}(e:v.cells.length=n):gy h n (.ptr b o) v=cP h b o v.cells:=by subst e;simp[gy]
theorem ai{h:Heap}{n b o:Nat}{v:V}{c c':List V}{K:V→Heap→Prop}(w:WF h)(a:Own h b c)(e:v.cells.length=n)(h1:av v.cells=true)(hu:bC c o v.cells=some c')
 (k:∀h',Own h' b c'→Fr [b] h h'→h'.next=h.next→K (.tup []) h'):HQ (gy h n (.ptr b o) v) K:=by
 let⟨h',e1,o1,f1,n1⟩:=j5 w a h1 hu;exact⟨h',by rw[y9 e];exact e1,k h' o1 f1 n1⟩
theorem sts{h:Heap}{n b o:Nat}{v:V}{c c':List V}{K:V→Heap→Prop}(w:WF h)(a:Own h b c)
 (k:∀h',Own h' b c'→Fr [b] h h'→h'.next=h.next→K (.tup []) h') (e:v.cells.length=n:=by exact rfl) (h1:av v.cells=true:=by first|exact rfl|simp[av,V.cells,fu, *]) (hu:bC c o v.cells=some c':=by exact rfl):HQ (gy h n (.ptr b o) v) K:=ai w a e h1 hu k
theorem cD:∀(c:List V)(o:Nat)(vs:List V),o+vs.length≤c.length→bC c o vs=some (c.take o++vs++c.drop (o+vs.length))
 |[],o,vs,h=>by
  have:vs=[]:=by cases vs<;>simp at h⊢
  subst this;cases o<;>simp[hU]
 |x::l,0,[],h=>by simp[cW]
 |x::l,0,v::vs,h=>by rw[aO,cD l 0 vs (by simp at h⊢;omega)];simp[Nat.add_comm]
 |x::l,o+1,vs,h=>by rw[aY,cD l o vs (by simp at h⊢;omega)];simp[Nat.succ_add]
theorem hJ(c:List V)(o:Nat)(v:V)(h:o<c.length):bC c o [v]=some (c.set o v):=by rw[cD c o [v] oO];congr 1;rw[List.set_eq_take_append_cons_drop,if_pos h];simp
theorem aF:av []=true:=rfl
theorem aB(v:V)(l:List V):av (v::l)=(v.one&&av l):=rfl
theorem aZ(c:List V)(n:Nat)(h:n≤c.length):cT n c=some (c.take n):=by
 induction n generalizing c with
 |zero=>simp[kX]
 |succ n ih=>cases c with
  |nil=>simp at h
  |cons x l=>rw[eK,ih l (eV h)];simp
def Sl(h:Heap)(esz:Nat)(v:V)(n:Nat)(cs:List V):Prop:=
 cs.length=n*esz∧match v with
 |.nils=>n=0
 |.sliceE=>n=0
 |.slice b o len cap=>len=n∧n≤cap∧∃c,Own h b c∧o+n*esz≤c.length∧cs=(c.drop o).take (n*esz)
 |.sliceU b o len e=>len=n∧e=esz∧∃c,Own h b c∧o+n*esz≤c.length∧cs=(c.drop o).take (n*esz)
 |_=>False
theorem Sl.fr{h h':Heap}{esz:Nat}{v:V}{n:Nat}{cs:List V}(a:Sl h esz v n cs)(f:Fr [] h h'):Sl h' esz v n cs:=by
 let⟨hl,a⟩:=a;refine⟨hl,?_⟩;cases v with
 |slice b o l k=>let⟨h1,h2,c,o,x⟩:=a;exact⟨h1,h2,c,f.get o,x⟩
 |sliceU b o l k=>let⟨h1,h2,c,o,x⟩:=a;exact⟨h1,h2,c,f.get o,x⟩
 |_=>exact a
theorem Sl.len{h:Heap}{esz:Nat}{v:V}{n:Nat}{cs:List V}(a:Sl h esz v n cs):aP .lenS [v]=some (.int .i64 n):=by
 let⟨hl,a⟩:=a;cases v with
 |slice b o l k=>obtain⟨rfl,_⟩:=a;rfl
 |sliceU b o l k=>obtain⟨rfl,_⟩:=a;rfl
 |nils=>have a:n=0:=a;subst a;rfl
 |sliceE=>have a:n=0:=a;subst a;rfl
 |_=>exact a.elim
theorem Sl.one{h:Heap}{esz:Nat}{v:V}{n:Nat}{cs:List V}(a:Sl h esz v n cs):v.one=true:=by
 let⟨hl,a⟩:=a;cases v with
 |slice b o l k=>rfl
 |sliceU b o l k=>rfl
 |nils=>rfl
 |sliceE=>rfl
 |_=>exact a.elim
theorem Sl.ix{h:Heap}{esz:Nat}{v:V}{n:Nat}{cs:List V}(a:Sl h esz v n cs)(k:IntKind)(i:Int)(h0:0≤i)(h1:i<n):
 ∃b o,aP (.ixs esz) [v,.int k i]=some (.ptr b o)∧(∀j,j<esz→ag h b (o+j)=cs[i.toNat*esz+j]?)∧ak h b o esz=some ((cs.drop (i.toNat*esz)).take esz):=by
 let⟨hl,a⟩:=a;obtain⟨m,rfl⟩:∃m:Nat,i=m:=⟨i.toNat,oM⟩;have hm:m<n:=oM;have hmul:m*esz+esz≤n*esz:=by rw[←Nat.succ_mul];exact Nat.mul_le_mul_right _ hm
 have main:∀(b o:Nat)(c:List V),Own h b c→o+n*esz≤c.length→cs=(c.drop o).take (n*esz)→
  (∀j,j<esz→ag h b (o+m*esz+j)=cs[m*esz+j]?)∧ak h b (o+m*esz) esz=some ((cs.drop (m*esz)).take esz):=by
  intro b o c hc hlen e;subst e;constructor;intro j hj;rw[hc.ld1,gR,List.getElem?_take,if_pos oM,List.getElem?_drop];congr 1;omega;rw[hc.ld,bq,aZ _ _ oO,List.drop_take,List.drop_drop,List.take_take];congr 2;omega
 cases v with
 |slice b o l q=>obtain⟨rfl,_,c,hc,hlen,e⟩:=a;exact⟨b,o+m*esz,jV _ _ _ _ _ _ _ h0 h1,main b o c hc hlen e⟩
 |sliceU b o l q=>obtain⟨rfl,rfl,c,hc,hlen,e⟩:=a;exact⟨b,o+m*q,lP _ _ _ _ _ _ _ h0 h1,main b o c hc hlen e⟩
 |nils=>have a:n=0:=a;omega
 |sliceE=>have a:n=0:=a;omega
 |_=>exact a.elim
section
variable {call : aC} {env : T V} {h : Heap} {loc : List V}
def EQ(o:Option (T V))(K:T V→Prop):Prop:=∃en,o=some en∧K en
theorem A3(en:T V)(K:T V→Prop):EQ (some en) K↔K en:=⟨fun⟨_,x,k⟩=>by cases x;exact k,fun k=>⟨en,rfl,k⟩⟩
def HdQ(hs:List Heap)(K:Heap→Prop):Prop:=match hs with
 |[]=>False
 |h::_=>K h
theorem xO(hs:List Heap)(K:Heap→Prop):HdQ (h::hs) K↔K h:=Iff.rfl
theorem J4(l:List IStep)(reads:List (Nat×Nat×Nat))(sets:List (Nat×Nat))(Q:T V→Heap→Prop)(hs:List Heap):DE call l reads sets env Q loc hs↔
 reads.all (k8 call env l loc hs)=true∧EQ (gI l.length loc sets env) fun env'=>HdQ hs fun h'=>Q env' h':=by
 simp only[DE,EQ];constructor;rintro⟨a,env',h',hs',e,rfl,q⟩;exact⟨a,env',e,q⟩;rintro⟨a,env',e,q⟩;cases hs with
 |nil=>exact q.elim
 |cons h' hs'=>exact⟨a,env',h',hs',e,rfl,q⟩
def GR(o:Option V)(want:Bool)(A:Prop):Prop:=match o with
 |some (.bool b)=>if b=want then A else True
 |_=>True
theorem FX(t:List V)(want:Bool)(A:Prop):GR (some (.tup t)) want A↔True:=Iff.rfl
theorem AZ(b want:Bool)(A:Prop):GR (some (.bool b)) want A↔if b=want then A else True:=Iff.rfl
def RD(call:aC)(env:T V)(s:Option IStep)(loc:List V)(hs:List Heap):Prop:=match s,loc with
 |some t,v::l=>(match t.gd with
  |none=>fC call l env t.op v hs=true
  |some (x,want)=>GR (evO l env x) want (fC call l env t.op v hs=true))
 |_,_=>False
theorem K5(o:IOp)(d:Option Nat)(v:V)(l:List V)(hs:List Heap):RD call env (some ⟨none,o,d⟩) (v::l) hs↔fC call l env o v hs=true:=Iff.rfl
theorem K6(x:Opd)(want:Bool)(o:IOp)(d:Option Nat)(v:V)(l:List V)(hs:List Heap):RD call env (some ⟨some (x,want),o,d⟩) (v::l) hs↔GR (evO l env x) want (fC call l env o v hs=true):=Iff.rfl
theorem I3(l:List IStep)(hs:List Heap)(i lo hi:Nat):k8 call env l loc hs (i,lo,hi)=true↔RD call env l[i]? (loc.drop (l.length-i-1)) ((hs.reverse.drop lo).take (hi+1-lo)):=by
 simp only[k8];cases l[i]? with
 |none=>simp[RD]
 |some t=>cases loc.drop (l.length-i-1)with
  |nil=>simp[RD]
  |cons v l'=>
   let⟨gd,o,d⟩:=t;cases gd with
   |none=>simp[RD,evG]
   |some g=>
    let⟨x,want⟩:=g;simp only[RD,evG,GR];cases evO l' env x with
    |none=>simp
    |some b=>
     cases b with
     |bool b=>cases b<;>cases want<;>simp
     |_=>simp
def zC(call:aC)(env:T V)(l:List IStep)(loc:List V)(hs:List Heap):List (Nat×Nat×Nat)→Prop
 |[]=>True
 |(i,lo,hi)::rs=>RD call env l[i]? (loc.drop (l.length-i-1)) ((hs.reverse.drop lo).take (hi+1-lo))∧zC call env l loc hs rs
theorem xL(l:List IStep)(hs:List Heap):zC call env l loc hs []↔True:=Iff.rfl
theorem nW(l:List IStep)(hs:List Heap)(i lo hi:Nat)(rs:List (Nat×Nat×Nat)):zC call env l loc hs ((i,lo,hi)::rs)↔
 RD call env l[i]? (loc.drop (l.length-i-1)) ((hs.reverse.drop lo).take (hi+1-lo))∧zC call env l loc hs rs:=Iff.rfl
theorem qX{l:List IStep}{hs:List Heap}:∀{rs:List (Nat×Nat×Nat)},rs.all (k8 call env l loc hs)=true↔zC call env l loc hs rs
 |[]=>by simp[zC]
 |(i,lo,hi)::rs=>by simp only[List.all_cons,Bool.and_eq_true,I3,nW,qX (rs:=rs)]
def DF(call:aC)(l:List IStep)(reads:List (Nat×Nat×Nat))(sets:List (Nat×Nat))(env:T V)(Q:T V→Heap→Prop)(loc:List V)(hs:List Heap):Prop:=
 zC call env l loc hs reads∧EQ (gI l.length loc sets env) fun env'=>HdQ hs fun h'=>Q env' h'
theorem WD.mono{l:List DS}{hs:List Heap}{K K':List V→List Heap→Prop}(a:WD call env l loc hs h K)(b:∀x y,K x y→K' x y):WD call env l loc hs h K':=by let⟨x,y,e,k⟩:=a;exact⟨x,y,e,b _ _ k⟩
def J2(o:Option (List DS×Heap))(K:List DS→Heap→Prop):Prop:=∃l h,o=some (l,h)∧K l h
theorem iD(l:List DS)(h:Heap)(K:List DS→Heap→Prop):J2 (some (l,h)) K↔K l h:=
 ⟨fun⟨_,_,e,k⟩=>by cases e;exact k,fun k=>⟨_,_,rfl,k⟩⟩
theorem Cp(l:List IStep)(late R:List Nat)(reads:List (Nat×Nat×Nat))(sets:List (Nat×Nat))(Q:Ex→T V→Heap→Prop):
 W call (.dops l late R reads sets) env h Q↔J2 (lay call env late l 0 [] h) fun dl h1=>WD call env dl [] [h1] h1 (DF call l reads sets env (Q .norm)):=by
 constructor;rintro⟨e,env',h',x,q⟩;have x:evD call l late reads sets env h=.ok e env' h':=x;unfold evD at x;split at x;cases x;rename_i dl h1 hl;refine⟨dl,h1,hl,?_⟩;split at x;rename_i loc hs hd;refine⟨loc,hs,hd,?_⟩;cases ha:reads.all (k8 call env l loc hs);grind;rw[ha]at x;simp only[cond_true]at x;split at x;rename_i env1 h2 hs2 hse;cases x;exact⟨qX.1 ha,_,hse,q⟩;cases x;cases x;rintro⟨dl,h1,hl,x⟩;refine HW _ _ _ _ _ _ hl (x.mono ?_);rintro loc hs ⟨a,b⟩;exact(J4 _ _ _ _ _).2 ⟨qX.2 a,b⟩
theorem W_d(l:List IStep)(R:List Nat)(reads:List (Nat×Nat×Nat))(sets:List (Nat×Nat))(Q:Ex→T V→Heap→Prop):
 W call (.dops l [] R reads sets) env h Q↔WD call env (l.map fun s=>(s,none)) [] [h] h (DF call l reads sets env (Q .norm)):=by
 rw[Cp,Hg,iD]
def SEv(o:Option V)(K:V→Option (T V)):Option (T V):=match o with
 |some v=>K v
 |none=>none
theorem xK(v:V)(K:V→Option (T V)):SEv (some v) K=K v:=rfl
theorem zS(n s i:Nat)(r:List (Nat×Nat)):gI n loc ((s,i)::r) env=SEv (nth loc (n-i-1)) fun v=>gI n loc r (env.set s v):=by rw[xY];unfold SEv;cases nth loc (n-i-1)<;>rfl
end
theorem bD(k:IntKind)(i:Int)(y:Nat)(h0:0≤i)(h1:i≤y):bU (.int k i) y=some i.toNat:=by obtain⟨n,rfl⟩:∃n:Nat,i=n:=⟨i.toNat,oM⟩;have:Nat.ble n y=true:=(Nat.ble_eq ..).mpr oM;show(bif Nat.ble n y then some n else none)=_;rw[this];rfl
theorem eR{a b:Nat}(h:a≠b):Nat.beq a b=false:=by cases hb:Nat.beq a b;rfl;exact absurd (Nat.eq_of_beq_eq_true hb) h
theorem lM{a b:Nat}(h:a=b):Nat.beq a b=true:=by subst h;simp
theorem EF{a b:Nat}(h:¬a<b):Nat.blt a b=false:=by cases hb:Nat.blt a b;rfl;exact absurd ((Nat.blt_eq ..).mp hb) h
theorem yY{a b:Nat}(h:¬a≤b):Nat.ble a b=false:=by cases hb:Nat.ble a b;rfl;exact absurd ((Nat.ble_eq ..).mp hb) h
theorem Sl.part{h:Heap}{esz:Nat}{v:V}{n:Nat}{cs:List V}(a:Sl h esz v n cs)(he:0<esz)(hv:v≠.sliceE)(lo hi:Bool)(bs:List V)(l u:Nat)(hu:u≤n)(hl:l≤u)
 (hb:∀y,n≤y→aQ n y lo hi false bs=some (l,u,none)):
 ∃v',aP (.sl none esz lo hi false) (v::bs)=some v'∧Sl h esz v' (u-l) ((cs.drop (l*esz)).take ((u-l) *esz)):=by
 let⟨hlen,a⟩:=a;have hm:l*esz+(u-l) *esz≤n*esz:=by rw[←Nat.add_mul];exact Nat.mul_le_mul_right _ oM
 have hlen':((cs.drop (l*esz)).take ((u-l) *esz)).length=(u-l) *esz:=by simp;omega
 have main:∀(b o:Nat)(c:List V),Own h b c→o+n*esz≤c.length→cs=(c.drop o).take (n*esz)→
  (cs.drop (l*esz)).take ((u-l) *esz)=(c.drop (o+l*esz)).take ((u-l) *esz):=by
  intro b o c _ hlen e;subst e;rw[List.drop_take,List.drop_drop,List.take_take];congr 1;omega
 cases v with
 |slice b o len cap=>obtain⟨rfl,hcap,c,hc,hlen2,e⟩:=a;refine⟨.slice b (bif Nat.beq cap l then o else o+l*esz) (u-l) (cap-l),by simp only[aP,dD,hb cap hcap,Option.map_some,Option.getD_none],hlen',rfl,oM,c,hc,?_⟩;by_cases hcl:cap=l;grind;rw[eR hcl];exact⟨by simp only[cond_false];omega,main b o c hc hlen2 e⟩
 |sliceU b o len q=>
  obtain⟨rfl,rfl,c,hc,hlen2,e⟩:=a;have hq:(Nat.beq q q&&Nat.blt 0 q)=true:=by simp[Nat.blt_eq,he]
  by_cases h1:l<len;refine⟨.sliceU b (o+l*q) (u-l) q,?_,hlen',rfl,rfl,c,hc,oM,main b o c hc hlen2 e⟩;simp only[aP,dD,hq,cond_true,hb len (Nat.le_refl _),Option.bind_some,(Nat.blt_eq ..).mpr h1];have hl0:u-l=0:=oM;by_cases h2:l=0;subst h2;refine⟨.sliceU b o (u-0) q,?_,hlen',rfl,rfl,c,hc,oM,by simpa using main b o c hc hlen2 e⟩;simp only[aP,dD,hq,cond_true,hb len (Nat.le_refl _),Option.bind_some,EF h1,cond_false,(iR:Nat.beq 0 0=true)];refine⟨.sliceE,?_,hlen',hl0⟩;simp only[aP,dD,hq,cond_true,hb len (Nat.le_refl _),Option.bind_some,EF h1,cond_false,eR h2]
 |nils=>have a:n=0:=a;subst a;refine⟨.nils,?_,hlen',oM⟩;simp only[aP,dD,hb 0 (Nat.le_refl _),Option.map_some]
 |sliceE=>exact absurd rfl hv
 |_=>exact a.elim
theorem Sl.ne{h:Heap}{esz:Nat}{v:V}{n:Nat}{cs:List V}(a:Sl h esz v n cs)(hn:0<n):v≠.sliceE:=by rintro rfl;have:n=0:=a.2;omega
theorem Sl.from'{h:Heap}{esz:Nat}{v:V}{n:Nat}{cs:List V}(a:Sl h esz v n cs)(he:0<esz)(hv:v≠.sliceE)(k:IntKind)(i:Int)(h0:0≤i)(h1:i≤n):
 ∃v',aP (.sl none esz true false false) [v,.int k i]=some v'∧Sl h esz v' (n-i.toNat) (cs.drop (i.toNat*esz)):=by
 let⟨v',e,s⟩:=a.part he hv true false [.int k i] i.toNat n (Nat.le_refl _) oM (fun y _=>by simp only[aQ,bD k i n h0 h1,Option.map_some]);refine⟨v',e,?_⟩;have hm:i.toNat*esz+(n-i.toNat) *esz=n*esz:=by rw[←Nat.add_mul];congr 1;omega
 rwa[List.take_of_length_le (by simp[a.1];omega)]at s
theorem Sl.upto{h:Heap}{esz:Nat}{v:V}{n:Nat}{cs:List V}(a:Sl h esz v n cs)(he:0<esz)(hv:v≠.sliceE)(k:IntKind)(i:Int)(h0:0≤i)(h1:i≤n):
 ∃v',aP (.sl none esz false true false) [v,.int k i]=some v'∧Sl h esz v' i.toNat (cs.take (i.toNat*esz)):=by
 let⟨v',e,s⟩:=a.part he hv false true [.int k i] 0 i.toNat oM oM (fun y hy=>by simp only[aQ,bD k i y h0 oM,Option.map_some]);exact⟨v',e,by simpa using s⟩
theorem Sl.range{h:Heap}{esz:Nat}{v:V}{n:Nat}{cs:List V}(a:Sl h esz v n cs)(he:0<esz)(hv:v≠.sliceE)(k k':IntKind)(i j:Int)(h0:0≤i)(h1:i≤j)(h2:j≤n):
 ∃v',aP (.sl none esz true true false) [v,.int k i,.int k' j]=some v'∧Sl h esz v' (j.toNat-i.toNat) ((cs.drop (i.toNat*esz)).take ((j.toNat-i.toNat) *esz)):=by
 let⟨v',e,s⟩:=a.part he hv true true [.int k i,.int k' j] i.toNat j.toNat oM oM (fun y hy=>by
  simp only[aQ,bD k' j y oM oM,Option.bind_some,bD k i j.toNat h0 oM,Option.map_some])
 exact⟨v',e,s⟩
def Gs(h:Heap)(B:Nat)(esz:Nat)(v:V)(cs:List V):Prop:=(v=.nils∧cs=[])∨∃b n,v=.sliceU b 0 n esz∧cs.length=n*esz∧0<n∧B≤b∧Own h b cs
theorem Gs.sl{h:Heap}{B esz:Nat}{v:V}{cs:List V}{n:Nat}(a:Gs h B esz v cs)(hn:cs.length=n*esz)(he:0<esz):Sl h esz v n cs:=by obtain⟨rfl,rfl⟩|⟨b,m,rfl,hm,_,_,o⟩:=a;refine⟨hn,?_⟩;have:0=n*esz:=hn;obtain h|h:=Nat.eq_zero_or_pos n;exact h;have:=Nat.mul_pos h he;omega;have:m=n:=Nat.eq_of_mul_eq_mul_right he oM;subst this;exact⟨hn,rfl,rfl,cs,o,oM,by simp[←hn]⟩
theorem Gs.one{h:Heap}{B esz:Nat}{v:V}{cs:List V}(a:Gs h B esz v cs):v.one=true:=by obtain⟨rfl,rfl⟩|⟨b,m,rfl,_⟩:=a<;>rfl
theorem Gs.fr{h h':Heap}{B esz:Nat}{v:V}{cs:List V}(a:Gs h B esz v cs)(f:Fr [] h h'):Gs h' B esz v cs:=by obtain⟨rfl,rfl⟩|⟨b,m,rfl,h1,h2,h3,o⟩:=a;exact .inl ⟨rfl,rfl⟩;exact .inr ⟨b,m,rfl,h1,h2,h3,f.get o⟩
structure Up(B:Nat)(h h':Heap):Prop where
 next:h.next≤h'.next
 wf:WF h'
 own:∀b c,b<B→Own h b c→Own h' b c
 pl:∀b c,b<B→Pl h b c→Pl h' b c
 lp:∀b x,Hm x=true→h.bl.get b=some x→h'.bl.get b=some x
 ro:∀b c,Rs h b c→Rs h' b c
theorem Fr.up{S:List Nat}{h h':Heap}{B:Nat}(f:Fr S h h')(hs:∀x∈S,B≤x):Up B h h':=
 ⟨f.next,f.wf,fun b c hb o=>f.own b c (fun m=>by have:=hs b m;omega) o,fun b c hb o=>f.pl b c (fun m=>by have:=hs b m;omega) o,f.lp,f.ro⟩
theorem Fr.ups{h0 h h':Heap}(f:Fr [] h0 h)(w:WF h0)(u:Up h0.next h h'):Fr [] h0 h':=
 ⟨Nat.le_trans f.next u.next,u.wf,fun b c _ o=>u.own b c (o.lt w) (f.get o),fun b c _ o=>u.pl b c (o.own.lt w) (f.pl b c iS o),fun b x hx o=>u.lp b x hx (f.lp b x hx o),fun b c r=>u.ro b c (f.ro b c r)⟩
theorem Up.refl{B:Nat}{h:Heap}(w:WF h):Up B h h:=⟨Nat.le_refl _,w,fun _ _ _ o=>o,fun _ _ _ o=>o,fun _ _ _ o=>o,fun _ _ o=>o⟩
theorem Up.trans{B:Nat}{h h1 h2:Heap}(a:Up B h h1)(b:Up B h1 h2):Up B h h2:=
 ⟨Nat.le_trans a.next b.next,b.wf,fun x c hx o=>b.own x c hx (a.own x c hx o),fun x c hx o=>b.pl x c hx (a.pl x c hx o),fun x k hk o=>b.lp x k hk (a.lp x k hk o),fun x c r=>b.ro x c (a.ro x c r)⟩
theorem Fr.fresh{h h1 h2:Heap}{b:Nat}(a:Fr [] h h1)(c:Fr [b] h1 h2)(w:WF h)(hb:h.next≤b):Fr [] h h2:=
 a.trans c w iS (by simp;exact hb)
theorem sE{h:Heap}{b pos:Nat}{c c':List V}(w:WF h)(a:Own h b c):∃h',lG h b pos c'=some h'∧Own h' h.next c'∧Fr [b] h h':=by
 have hb:=a.lt w;let⟨f,k,e,x⟩:=a;have hf:f<h.next:=by obtain⟨_,rfl⟩|⟨e',x⟩:=x;exact hb;obtain y|y:=Nat.lt_or_ge f h.next;exact y;rw[(w f y).2]at x;cases x
 have go:∀(e0 e1:Nat),(h.fams.get f=none∧f=b∨∃e,h.fams.get f=some (b,e))→
  Own ⟨(h.bl.set b (.row c f e0)).set h.next (.row c' f 0),h.next+1,h.fams.set f (h.next,e1)⟩ h.next c'∧
  Fr [b] h ⟨(h.bl.set b (.row c f e0)).set h.next (.row c' f 0),h.next+1,h.fams.set f (h.next,e1)⟩:=by
  intro e0 e1 x;refine⟨⟨f,0,T.get_set_self _ _ _,.inr ⟨e1,T.get_set_self _ _ _⟩⟩,⟨Nat.le_succ _,?_,?_,?_,fun q y hy ey=>by
   have h1:q≠b:=by intro eq;rw[eq,e]at ey;cases ey;cases hy
   have h2:q≠h.next:=by rintro rfl;rw[(w _ (Nat.le_refl _)).1]at ey;cases ey
   show((h.bl.set b _).set h.next _).get q=_;rw[T.get_set_ne _ _ h2,T.get_set_ne _ _ h1];exact ey,fun q y r=>by
   have r1:Rs ⟨h.bl.set b (.row c f e0),h.next,h.fams.set f (h.next,e1)⟩ q y:=r.set e (by obtain⟨x,_⟩|x:=x;exact .inl x;exact .inr x) _ (.inr ⟨_,rfl⟩) _ (Nat.le_refl _)
   let⟨f',k',ow,p1,p2,p3,p4⟩:=r1;have p1':(h.bl.set b (.row c f e0)).get q=some (.row y f' k'):=p1;have p4':ow<h.next:=p4;have hq:q≠h.next:=by rintro rfl;rw[T.get_set_ne _ _ oM,(w _ (Nat.le_refl _)).1]at p1';cases p1'
   refine⟨f',k',ow,?_,p2,?_,by show ow<h.next+1;omega⟩;show((h.bl.set b _).set h.next _).get q=_;rw[T.get_set_ne _ _ hq];exact p1;show((h.bl.set b _).set h.next _).get ow=_;rw[T.get_set_ne _ _ oM];exact p3⟩⟩
  intro p hp;have hp':h.next+1≤p:=hp;have:=w p oM;refine⟨?_,?_⟩;show((h.bl.set b _).set h.next _).get p=none;rw[T.get_set_ne _ _ oM,T.get_set_ne _ _ oM];exact this.1;show(h.fams.set f _).get p=none;rw[T.get_set_ne _ _ oM];exact this.2;rintro q d hq o;have hq':=o.lt w;let⟨f1,k1,e2,x1⟩:=o;simp at hq;refine⟨f1,k1,?_,?_⟩;show((h.bl.set b _).set h.next _).get q=_;rw[T.get_set_ne _ _ oM,T.get_set_ne _ _ hq];exact e2;have hne:f1≠f:=by rintro rfl;obtain⟨xa,xb⟩|⟨e',xa⟩:=x;obtain⟨_,y⟩|⟨e3,y⟩:=x1;exact hq (y.symm.trans xb);rw[xa]at y;cases y;obtain⟨y,_⟩|⟨e3,y⟩:=x1;rw[xa]at y;cases y;rw[xa]at y;cases y;exact hq rfl
  show((h.fams.set f _).get f1=none∧_)∨∃e,(h.fams.set f _).get f1=some (q,e);rw[T.get_set_ne _ _ hne];exact x1;rintro q d hq o;have hq':=o.own.lt w;let⟨⟨k1,e2⟩,x1⟩:=o;simp at hq;refine⟨⟨k1,?_⟩,?_⟩;show((h.bl.set b _).set h.next _).get q=_;rw[T.get_set_ne _ _ oM,T.get_set_ne _ _ hq];exact e2;show(h.fams.set f _).get q=none;rw[T.get_set_ne _ _ ?_];exact x1;rintro rfl;obtain⟨_,xb⟩|⟨e',xa⟩:=x;exact hq xb;rw[xa]at x1;cases x1
 simp only[lG,e];obtain⟨x,rfl⟩|⟨e',x⟩:=x;rw[x];exact⟨_,rfl,go _ _ (.inl ⟨x,rfl⟩)⟩;rw[x];simp only[Nat.beq_refl,cond_true];exact⟨_,rfl,go _ _ (.inr ⟨e',x⟩)⟩
theorem Sl.srcLen{h:Heap}{esz:Nat}{v:V}{n:Nat}{cs:List V}(a:Sl h esz v n cs):Ev.srcLen v=some n:=by
 let⟨_,a⟩:=a;cases v with
 |slice b o len cap=>obtain⟨rfl,_⟩:=a;rfl
 |sliceU b o len q=>obtain⟨rfl,_⟩:=a;rfl
 |nils=>have a:n=0:=a;subst a;rfl
 |sliceE=>have a:n=0:=a;subst a;rfl
 |_=>exact a.elim
theorem Sl.srcCells{h:Heap}{esz:Nat}{v:V}{n:Nat}{cs:List V}(a:Sl h esz v n cs):Ev.srcCells h esz v n=some cs:=by
 let⟨hl,a⟩:=a;cases v with
 |slice b o len cap=>obtain⟨rfl,_,c,hc,h2,e⟩:=a;simp only[Ev.srcCells,hc.ld,bq,aZ _ _ (oO:len*esz≤(c.drop o).length),e]
 |sliceU b o len q=>obtain⟨rfl,rfl,c,hc,h2,e⟩:=a;simp only[Ev.srcCells,hc.ld,bq,aZ _ _ (oO:len*q≤(c.drop o).length),e]
 |nils=>have a:n=0:=a;subst a;simp at hl;subst hl;rfl
 |sliceE=>have a:n=0:=a;subst a;simp at hl;subst hl;rfl
 |_=>exact a.elim
def vb:V→List Nat
 |.sliceU b _ _ _=>[b]
 |_=>[]
theorem Gs.up{h h':Heap}{B esz:Nat}{v:V}{cs:List V}(a:Gs h B esz v cs)(f:Fr (vb v) h h'):Up B h h':=by apply f.up;obtain⟨rfl,_⟩|⟨b,m,rfl,_,_,hb,_⟩:=a;simp[vb];simpa[vb]using hb
theorem Gs.append{h:Heap}{B esz bytes:Nat}{v x:V}{cs xs:List V}{n:Nat}(w:WF h)(a:Gs h B esz v cs)(s:Sl h esz x n xs)(he:0<esz)(ho:av xs=true)(hB:B≤h.next)
 (hsz:(2*(cs.length+n)+1024) *bytes≤281474976710656) {K:V→Heap→Prop} (k:∀v' h',Gs h' B esz v' (cs++xs)→Fr (vb v) h h'→K v' h'):OQ (jq h esz bytes v x) K:=by
 unfold jq;rw[s.srcLen];simp only[];by_cases hn:n=0;subst hn;have hx:xs=[]:=by have:=s.1;simp at this;exact this
 subst hx;rw[lM rfl,cond_true];have hd:iT v=some (cs.length/esz):=by obtain⟨rfl,rfl⟩|⟨b,m,rfl,hm,_⟩:=a;simp[iT,Ev.srcLen];simp[iT,Ev.srcLen,hm,Nat.mul_div_cancel _ he]
 rw[hd];exact(bZ _ _ _).2 (k v h (eV a) (Fr.refl w));rw[eR hn,cond_false,s.srcCells];simp only[];obtain⟨rfl,rfl⟩|⟨b,m,rfl,hm,hm0,hb,o⟩:=a;simp only[qT];have:Nat.ble ((2*n+1024) *bytes) 281474976710656=true:=by rw[Nat.ble_eq];simpa using hsz
 rw[this,cond_true];refine(bZ _ _ _).2 (k _ _ (.inr ⟨h.next,n,rfl,by simpa using s.1,oM,hB,by simpa using Own.new w xs⟩) (Fr.halloc w xs));have hle:(2*(m+n)+1024) *bytes≤(2*(cs.length+n)+1024) *bytes:=by
  apply Nat.mul_le_mul_right _;have:m≤cs.length:=by rw[hm];exact Nat.le_mul_of_pos_right m he
  omega
 have h1:(Nat.beq esz esz&&Nat.ble ((2*(m+n)+1024) *bytes) 281474976710656)=true:=by simp only[Nat.beq_refl,Bool.true_and,Nat.ble_eq];omega
 simp only[h1,cond_true,o.cells];have hmn:(m+n) *esz=m*esz+n*esz:=Nat.add_mul _ _ _;have hpos:0<n*esz:=Nat.mul_pos oM he;rw[yY (oM:¬0+(m+n) *esz≤cs.length),cond_false];have h2:(Nat.ble (0+m*esz) cs.length&&av xs)=true:=by simp only[ho,Bool.and_true,Nat.ble_eq];omega
 simp only[h2,cond_true,eP,aZ cs (m*esz) oM];let⟨h',e,o',f⟩:=sE (pos:=0+m*esz) (c':=cs.take (m*esz)++xs) w o;rw[e];simp only[Option.map_some];refine(bZ _ _ _).2 (k _ _ (.inr ⟨h.next,m+n,rfl,by simp[s.1];omega,oM,hB,?_⟩) f);rwa[List.take_of_length_le oM]at o'
def CQ(o:Option (List V))(len:Nat)(K:V→Heap→Prop)(h:Heap):Prop:=∃c,o=some c∧K (.slice h.next 0 len len) (halloc h c)
theorem A5(c:List V)(len:Nat)(K:V→Heap→Prop)(h:Heap):CQ (some c) len K h↔K (.slice h.next 0 len len) (halloc h c):=
 ⟨fun⟨_,e,k⟩=>by cases e;exact k,fun k=>⟨c,rfl,k⟩⟩
theorem AI(h:Heap)(zero:List V)(places:List (Nat×Nat))(len:Nat)(vs:List V)(K:V→Heap→Prop):OQ (iY h zero places len vs) K↔CQ (de (ce zero len) places vs) len K h:=by
 simp only[iY,OQ,CQ];cases de (ce zero len) places vs with
 |none=>simp
 |some c=>simp[and_assoc]
theorem fK(zero:List V):ce zero 0=[]:=rfl
theorem fL(zero:List V)(n:Nat):ce zero (n+1)=zero++ce zero n:=rfl
theorem jC(z:V)(n:Nat):ce [z] n=List.replicate n z:=by
 induction n with
 |zero=>rfl
 |succ n ih=>rw[fL,ih];rfl
theorem Sl.lit{h:Heap}{esz:Nat}{b n:Nat}{c:List V}(o:Own h b c)(hc:c.length=n*esz):Sl h esz (.slice b 0 n n) n c:=
 ⟨hc,rfl,Nat.le_refl _,c,o,oM,by simp[←hc]⟩
theorem gz(h:Heap)(zero:List V)(bytes:Nat)(k k':IntKind)(l c:Int)(K:V→Heap→Prop)(h0:0≤l)(h1:l≤c)(h2:c<9223372036854775808)(h3:bytes*c.toNat≤281474976710656):
 OQ (tJ h zero bytes (.int k l) (.int k' c)) K↔K (.slice h.next 0 l.toNat c.toNat) (halloc h (ce zero c.toNat)):=by
 obtain⟨n,rfl⟩:∃n:Nat,l=n:=⟨l.toNat,oM⟩;obtain⟨m,rfl⟩:∃m:Nat,c=m:=⟨c.toNat,oM⟩;have:(Nat.ble n m&&Nat.blt m 9223372036854775808&&Nat.ble (bytes*m) 281474976710656)=true:=by simp only[Bool.and_eq_true,Nat.ble_eq,Nat.blt_eq];simp at h3;omega
 show OQ (bif Nat.ble n m&&Nat.blt m 9223372036854775808&&Nat.ble (bytes*m) 281474976710656 then some (.slice h.next 0 n m,halloc h (ce zero m))else none) K↔_;rw[this];exact bZ _ _ _
section
variable {α : Type} {f : α → List V} {k : Nat}
theorem aE(hf:∀x,(f x).length=k):∀(L:List α),(L.flatMap f).length=L.length*k
 |[]=>by simp
 |x::L=>by simp[List.flatMap_cons,aE hf L,hf,Nat.succ_mul,Nat.add_comm]
theorem eO(hf:∀x,(f x).length=k):∀(L:List α)(i:Nat),(L.flatMap f).drop (i*k)=(L.drop i).flatMap f
 |L,0=>by simp
 |[],i+1=>by simp
 |x::L,i+1=>by rw[List.flatMap_cons,List.drop_succ_cons,←eO hf L i,Nat.succ_mul,Nat.add_comm,←hf x,←List.drop_drop,List.drop_left]
theorem td(hf:∀x,(f x).length=k):∀(L:List α)(i:Nat),(L.flatMap f).take (i*k)=(L.take i).flatMap f
 |L,0=>by simp
 |[],i+1=>by simp
 |x::L,i+1=>by
  have:(i+1) *k=(f x).length+i*k:=by grind
  rw[List.flatMap_cons,List.take_succ_cons,List.flatMap_cons,this,List.take_append,List.take_of_length_le oM,Nat.add_sub_cancel_left,td hf L i]
def Recs(f:α→List V)(k:Nat)(h:Heap)(v:V)(L:List α):Prop:=Sl h k v L.length (L.flatMap f)
theorem Recs.fr{h h':Heap}{v:V}{L:List α}(a:Recs f k h v L)(r:Fr [] h h'):Recs f k h' v L:=Sl.fr a r
theorem Recs.len{h:Heap}{v:V}{L:List α}(a:Recs f k h v L):aP .lenS [v]=some (.int .i64 L.length):=Sl.len a
theorem Recs.ix{h:Heap}{v:V}{L:List α}(hf:∀x,(f x).length=k)(a:Recs f k h v L)(kd:IntKind)(i:Int)(h0:0≤i)(h1:i<L.length):
 ∃b o x,aP (.ixs k) [v,.int kd i]=some (.ptr b o)∧(∀j,j<k→ag h b (o+j)=(f x)[j]?)∧ak h b o k=some (f x)∧L[i.toNat]? =some x:=by
 let⟨b,o,e,g,g2⟩:=Sl.ix a kd i h0 h1;have hi:i.toNat<L.length:=oM;have e3:L[i.toNat]? =some L[i.toNat]:=by simp[hi]
 have ed:L.drop i.toNat=L[i.toNat]::L.drop (i.toNat+1):=List.drop_eq_getElem_cons hi;refine⟨b,o,L[i.toNat],e,fun j hj=>?_,?_,e3⟩;rw[g j hj,←List.getElem?_drop,eO hf,ed,List.flatMap_cons,List.getElem?_append_left (by rw[hf];exact hj)];rw[g2,eO hf,ed,List.flatMap_cons];have:=hf L[i.toNat];rw[List.take_append,List.take_of_length_le oM,this];simp
theorem Recs.nil{h:Heap}:Recs f k h .nils []:=⟨iS,rfl⟩
def GRecs(f:α→List V)(k:Nat)(h:Heap)(B:Nat)(v:V)(L:List α):Prop:=Gs h B k v (L.flatMap f)
theorem GRecs.recs{h:Heap}{B:Nat}{v:V}{L:List α}(hf:∀x,(f x).length=k)(hk:0<k)(a:GRecs f k h B v L):Recs f k h v L:=Gs.sl a (aE hf L) hk
theorem GRecs.fr{h h':Heap}{B:Nat}{v:V}{L:List α}(a:GRecs f k h B v L)(r:Fr [] h h'):GRecs f k h' B v L:=Gs.fr a r
theorem GRecs.one{h:Heap}{B:Nat}{v:V}{L:List α}(a:GRecs f k h B v L):v.one=true:=Gs.one a
theorem GRecs.nil{h:Heap}{B:Nat}:GRecs f k h B .nils []:=.inl ⟨rfl,rfl⟩
theorem GRecs.append{h:Heap}{B bytes:Nat}{v:V}{L:List α}{x:α}{b:Nat}(w:WF h)(a:GRecs f k h B v L)(hf:∀x,(f x).length=k)(ho:av (f x)=true)(hk:0<k)(o:Own h b (f x))(hB:B≤h.next)
 (hsz:(2*(L.length*k+1)+1024) *bytes≤281474976710656) {K:V→Heap→Prop} (c:∀v' h',GRecs f k h' B v' (L++[x])→Fr (vb v) h h'→K v' h'):OQ (jq h k bytes v (.slice b 0 1 1)) K:=by
 refine Gs.append w a (Sl.lit (n:=1) o iX) hk ho hB (by rw[aE hf];exact hsz) ?_;intro v' h' g u;refine c v' h' ?_ u;unfold GRecs;rw[List.flatMap_append];simpa using g
end
def Gw(Q:Ex→T V→Heap→Prop):Ex→T V→Heap→Prop:=fun e env h=>match e with
 |.goto _=>False
 |e=>Q e env h
theorem rZ(Q:Ex→T V→Heap→Prop)(env:T V)(h:Heap):Gw Q .norm env h↔Q .norm env h:=Iff.rfl
theorem vY(Q:Ex→T V→Heap→Prop)(env:T V)(h:Heap):Gw Q .ret env h↔Q .ret env h:=Iff.rfl
theorem r8(i:Nat)(Q:Ex→T V→Heap→Prop)(env:T V)(h:Heap):Gw Q (.exit i) env h↔Q (.exit i) env h:=Iff.rfl
theorem E7{call:aC}{c r:IC}{l:Nat}{env:T V}{h:Heap}{Q:Ex→T V→Heap→Prop}(x:W call c env h (Gw Q)):W call (.scope c l r) env h Q:=by
 refine vu (fun _ _ _=>False) 0 oM (x.mono ?_) (fun _ _ _ f=>f.elim);intro e env h q;cases e with
 |goto i=>exact q.elim
 |_=>exact q
theorem evs:
 (type_of% @zy)∧
 (type_of% @tZ)∧
 (type_of% @E9)∧
 (type_of% @E8)∧
 (type_of% @tY)∧
 (type_of% @zA)∧
 (type_of% @AS)∧
 (type_of% @t7)∧
 (type_of% @eJ)∧
 (type_of% @rO)∧
 (type_of% @pI)∧
 (type_of% @pH)∧
 (type_of% @oX)∧
 (type_of% @qP)∧
 (type_of% @oY)∧
 (type_of% @gM)∧
 (type_of% @rZ)∧
 (type_of% @vY)∧
 (type_of% @r8)∧
 (type_of% @pV)∧
 (type_of% @jB)∧
 (type_of% @oE)∧
 (type_of% @lK)∧
 (type_of% @nV)∧
 (type_of% @Cr)∧
 (type_of% @Cq)∧
 (type_of% @K1)∧
 (type_of% @IT)∧
 (type_of% @mW)∧
 (type_of% @Bs)∧
 (type_of% @kB)∧
 (type_of% @kw)∧
 (type_of% @bZ)∧
 (type_of% @AV)∧
 (type_of% @Ae)∧
 (type_of% @pC)∧
 (type_of% @Ik)∧
 (type_of% @AT)∧
 (type_of% @Iu)∧
 (type_of% @Ir)∧
 (type_of% @Is)∧
 (type_of% @A6)∧
 (type_of% @xQ)∧
 (type_of% @ua)∧
 (type_of% @xP)∧
 (type_of% @uh)∧
 (type_of% @nD)∧
 (type_of% @nC)∧
 (type_of% @AY)∧
 (type_of% @AW)∧
 (type_of% @FW)∧
 (type_of% @FV)∧
 (type_of% @iB)∧
 (type_of% @AI)∧
 (type_of% @A5)∧
 (type_of% @fK)∧
 (type_of% @fL)∧
 (type_of% @In)∧
 (type_of% @It)∧
 (type_of% @Ip)∧
 (type_of% @Iq)∧
 (type_of% @A2)∧
 (type_of% @Io)∧
 (type_of% @Dk)∧
 (type_of% @kS)∧
 (type_of% @ga)∧
 (type_of% @tn)∧
 (type_of% @Ej)∧
 (type_of% @bY)∧
 (type_of% @eg)∧
 (type_of% @bK)∧
 (type_of% @bj)∧
 (type_of% @bR)∧
 (type_of% @fQ)∧
 (type_of% @dT)∧
 (type_of% @T.get_set)∧
 (type_of% @ud)∧
 (type_of% @dL)∧
 (type_of% @iq)∧
 (type_of% @nL)∧
 (type_of% @Ei)∧
 (type_of% @sD)∧
 (type_of% @fM)∧
 (type_of% @sC)∧
 (type_of% @dV)∧
 (type_of% @lN)∧
 (type_of% @tR)∧
 (type_of% @AJ)∧
 (type_of% @qV)∧
 (type_of% @tN)∧
 (type_of% @zr)∧
 (type_of% @vn)∧
 (type_of% @zn)∧
 (type_of% @vq)∧
 (type_of% @ET)∧
 (type_of% @EW)∧
 (type_of% @EY)∧
 (type_of% @EX)∧
 (type_of% @EZ)∧
 (type_of% @ES)∧
 (type_of% @zl)∧
 (type_of% @E6)∧
 (type_of% @E5)∧
 (type_of% @iA)∧
 (type_of% @E4)∧
 (type_of% @tW)∧
 (type_of% @tV)∧
 (type_of% @EU)∧
 (type_of% @xJ)∧
 (type_of% @IR)∧
 (type_of% @IQ)∧
 (type_of% @pB)∧
 (type_of% @AN)∧
 (type_of% @AM)∧
 (type_of% @AL)∧
 (type_of% @AO)∧
 (type_of% @tU)∧
 (type_of% @AQ)∧
 (type_of% @AP)∧
 (type_of% @AK)∧
 (type_of% @tO)∧
 (type_of% @tQ)∧
 (type_of% @wg)∧
 (type_of% @tC)∧
 (type_of% @qM)∧
 (type_of% @tw)∧
 (type_of% @tA)∧
 (type_of% @qJ)∧
 (type_of% @qI)∧
 (type_of% @oV)∧
 (type_of% @mN)∧
 (type_of% @qL)∧
 (type_of% @qK)∧
 (type_of% @tD)∧
 (type_of% @tL)∧
 (type_of% @AH)∧
 (type_of% @eP)∧
 (type_of% @qB)∧
 (type_of% @kX)∧
 (type_of% @eK)∧
 (type_of% @hU)∧
 (type_of% @cW)∧
 (type_of% @aO)∧
 (type_of% @aY)∧
 (type_of% @cond_true.{1})∧
 (type_of% @cond_false.{1})∧
 (type_of% @Nat.zero_lt_one)∧
 (type_of% @Nat.lt_add_one)∧
 (type_of% @decide_eq_true_eq)∧
 (type_of% @Bool.not_true)∧
 (type_of% @Bool.not_false)∧
 (type_of% @Bool.false_eq_true)∧
 (type_of% @Bool.true_eq_false)∧
 (type_of% @decide_true)∧
 (type_of% @decide_false)∧
 (type_of% @eq_self.{1})∧
 (type_of% @Option.map_some.{0,0})∧
 (type_of% @Option.bind_some.{0,0})∧
 (type_of% @Nat.zero_add)∧
 (type_of% @Nat.add_zero)∧
 (type_of% @Nat.zero_mul)∧
 (type_of% @Nat.zero_ne_one)∧
 (type_of% @Nat.one_ne_zero)∧
 (type_of% @List.append_nil.{0})∧
 (type_of% @List.nil_append.{0})∧
 (type_of% @List.cons_append.{0})∧
 (type_of% @Option.isSome_some.{0})∧
 (type_of% @Option.isSome_none.{0})∧
 (type_of% @Option.isNone_some.{0})∧
 (type_of% @Option.isNone_none.{0})∧
 (type_of% @W_d)∧
 (type_of% @Fp)∧
 (type_of% @K2)∧
 (type_of% @K3)∧
 (type_of% @dg)∧
 (type_of% @KA)∧
 (type_of% @KB)∧
 (type_of% @A0)∧
 (type_of% @FY)∧
 (type_of% @DJ)∧
 (type_of% @xL)∧
 (type_of% @nW)∧
 (type_of% @K5)∧
 (type_of% @K6)∧
 (type_of% @AZ)∧
 (type_of% @FX)∧
 (type_of% @sA)∧
 (type_of% @pW)∧
 (type_of% @dE)∧
 (type_of% @A3)∧
 (type_of% @xO)∧
 (type_of% @rW)∧
 (type_of% @zS)∧
 (type_of% @xK)∧
 (type_of% @List.map_cons.{0,0})∧
 (type_of% @List.map_nil.{0,0})∧
 (type_of% @List.length_cons.{0})∧
 (type_of% @List.length_nil.{0})∧
 (type_of% @List.drop_succ_cons.{0})∧
 (type_of% @List.drop_zero.{0})∧
 (type_of% @List.getElem?_cons_succ.{0})∧
 (type_of% @List.getElem?_cons_zero.{0})∧
 (type_of% @List.reverse_cons.{0})∧
 (type_of% @List.reverse_nil.{0})∧
 (type_of% @List.take_succ_cons.{0})∧
 (type_of% @List.take_zero.{0})∧
 (type_of% @and_true)∧
 (type_of% @true_and):=
 ⟨@zy,@tZ,@E9,@E8,@tY,@zA,@AS,@t7,@eJ,@rO,@pI,@pH,@oX,@qP,@oY,@gM,@rZ,@vY,@r8,@pV,@jB,@oE,@lK,@nV,@Cr,@Cq,@K1,@IT,@mW,@Bs,@kB,@kw,@bZ,@AV,@Ae,@pC,@Ik,@AT,@Iu,@Ir,@Is,@A6,@xQ,@ua,@xP,@uh,@nD,@nC,@AY,@AW,@FW,@FV,@iB,@AI,@A5,@fK,@fL,@In,@It,@Ip,@Iq,@A2,@Io,@Dk,@kS,@ga,@tn,@Ej,@bY,@eg,@bK,@bj,@bR,@fQ,@dT,@T.get_set,@ud,@dL,@iq,@nL,@Ei,@sD,@fM,@sC,@dV,@lN,@tR,@AJ,@qV,@tN,@zr,@vn,@zn,@vq,@ET,@EW,@EY,@EX,@EZ,@ES,@zl,@E6,@E5,@iA,@E4,@tW,@tV,@EU,@xJ,@IR,@IQ,@pB,@AN,@AM,@AL,@AO,@tU,@AQ,@AP,@AK,@tO,@tQ,@wg,@tC,@qM,@tw,@tA,@qJ,@qI,@oV,@mN,@qL,@qK,@tD,@tL,@AH,@eP,@qB,@kX,@eK,@hU,@cW,@aO,@aY,@cond_true.{1},@cond_false.{1},@Nat.zero_lt_one,@Nat.lt_add_one,@decide_eq_true_eq,@Bool.not_true,@Bool.not_false,@Bool.false_eq_true,@Bool.true_eq_false,@decide_true,@decide_false,@eq_self.{1},@Option.map_some.{0,0},@Option.bind_some.{0,0},@Nat.zero_add,@Nat.add_zero,@Nat.zero_mul,@Nat.zero_ne_one,@Nat.one_ne_zero,@List.append_nil.{0},@List.nil_append.{0},@List.cons_append.{0},@Option.isSome_some.{0},@Option.isSome_none.{0},@Option.isNone_some.{0},@Option.isNone_none.{0},@W_d,@Fp,@K2,@K3,@dg,@KA,@KB,@A0,@FY,@DJ,@xL,@nW,@K5,@K6,@AZ,@FX,@sA,@pW,@dE,@A3,@xO,@rW,@zS,@xK,@List.map_cons.{0,0},@List.map_nil.{0,0},@List.length_cons.{0},@List.length_nil.{0},@List.drop_succ_cons.{0},@List.drop_zero.{0},@List.getElem?_cons_succ.{0},@List.getElem?_cons_zero.{0},@List.reverse_cons.{0},@List.reverse_nil.{0},@List.take_succ_cons.{0},@List.take_zero.{0},@and_true,@true_and⟩
theorem rqn{I:Nat→T V→Heap→Prop}{k:Nat}{Q:Ex→T V→Heap→Prop}{env:T V}{h:Heap}(x:∃k',k'<k∧I k' env h):k7 I k Q .norm env h:=x
theorem stu{h:Heap}{n b o:Nat}{v:V}{c c':List V}{K:V→Heap→Prop}(w:WF h)(a:Own h b c)
 (k:∀h',Own h' b c'→Fr [b] h h'→h'.next=h.next→K (.tup []) h') (e:v.cells.length=n:=by exact rfl) (h1:av v.cells=true:=by first|exact rfl|simp[av,V.cells,fu, *]) (hu:bC c o v.cells=some c':=by simp only[evs];exact rfl):HQ (gy h n (.ptr b o) v) K:=ai w a e h1 hu k
end Go.Ev
namespace Go.Ev.Lay
theorem mq(p q m M:Nat)(hp:p<256)(hm:m<256):(p+256*q)&&&(m+256*M)=(p&&&m)+256*(q&&&M):=by
 have h1:((p+256*q)&&&(m+256*M))%2^8=(p&&&m):=by rw[Nat.and_mod_two_pow];congr 1<;>omega
 have h2:((p+256*q)&&&(m+256*M))/2^8=(q&&&M):=by rw[Nat.and_div_two_pow];congr 1<;>omega
 have:=Nat.div_add_mod ((p+256*q)&&&(m+256*M)) (2^8);rw[h1,h2]at this;omega
def val:List Nat→Nat
 |[]=>0
 |b::l=>b+256*val l
def rep(m:Nat)(l:List Nat):Nat:=val (l.map fun _=>m)
theorem LK:∀b,b<256→∀c,c<2→(b/2+128*c)&&&85=(b/2)&&&85:=by decide+kernel
theorem LJ:∀b,b<256→∀c,c<4→(b/4+64*c)&&&51=(b/4)&&&51:=by decide+kernel
def f1(b:Nat):Nat:=((b/2)&&&85)+(b&&&85)
def f2(b:Nat):Nat:=((b/4)&&&51)+(b&&&51)
def f3(b:Nat):Nat:=(b/16+b)%16
theorem fE:∀b,b<256→f1 b<256:=by decide+kernel
theorem fD:∀b,b<256→f2 (f1 b)/16≤4∧f2 (f1 b)%16≤4∧f2 (f1 b)<256:=by decide+kernel
theorem CU:∀(l:List Nat),(∀b∈l,b<256)→((val l/2)&&&rep 85 l)+(val l&&&rep 85 l)=val (l.map f1)
 |[],_=>rfl
 |b::l,h=>by have hb:=h b iS;have ih:=CU l fun x hx=>h x iX;have e:(b+256*val l)/2=(b/2+128*(val l%2))+256*(val l/2):=oM;show((b+256*val l)/2&&&(85+256*rep 85 l))+((b+256*val l)&&&(85+256*rep 85 l))=f1 b+256*val (l.map f1);rw[e,mq _ _ _ _ oM oM,mq _ _ _ _ hb oM,LK b hb _ oM,←ih];unfold f1;omega
theorem CT:∀(l:List Nat),(∀b∈l,b<256)→((val l/4)&&&rep 51 l)+(val l&&&rep 51 l)=val (l.map f2)
 |[],_=>rfl
 |b::l,h=>by have hb:=h b iS;have ih:=CT l fun x hx=>h x iX;have e:(b+256*val l)/4=(b/4+64*(val l%4))+256*(val l/4):=oM;show((b+256*val l)/4&&&(51+256*rep 51 l))+((b+256*val l)&&&(51+256*rep 51 l))=f2 b+256*val (l.map f2);rw[e,mq _ _ _ _ oM oM,mq _ _ _ _ hb oM,LJ b hb _ oM,←ih];unfold f2;omega
theorem CS:∀(l:List Nat),(∀b∈l,b/16≤4∧b%16≤4)→((val l/16+val l)&&&rep 15 l)=val (l.map f3)
 |[],_=>rfl
 |b::l,h=>by
  have hb:=h b iS;have ih:=CS l fun x hx=>h x iX;have hv:val l%16≤4:=by
   cases l with
   |nil=>simp[val]
   |cons c l=>have:=h c iS;simp only[val];omega
  have e:(b+256*val l)/16+(b+256*val l)=(b/16+16*(val l%16)+b)+256*(val l/16+val l):=oM;show((b+256*val l)/16+(b+256*val l))&&&(15+256*rep 15 l)=f3 b+256*val (l.map f3);rw[e,mq _ _ _ _ oM oM,ih,(iR:(15:Nat)=2^4-1),Nat.and_two_pow_sub_one_eq_mod];unfold f3;omega
def pop(n x:Nat):Nat:=(List.range n).countP fun j=>x.testBit j
theorem kL(b V j:Nat)(hb:b<256):(b+256*V).testBit j=if j<8 then b.testBit j else V.testBit (j-8):=by rw[(oM:b+256*V=2^8*V+b),Nat.testBit_two_pow_mul_add V (eV hb) j]
theorem Br(b V n:Nat)(hb:b<256):pop (8+n) (b+256*V)=pop 8 b+pop n V:=by unfold pop;rw[List.range_add,List.countP_append,List.countP_map];congr 1;refine List.countP_congr fun j hj=>?_;simp at hj;rw[kL _ _ _ hb,if_pos hj];refine List.countP_congr fun j _=>?_;simp only[Function.comp];rw[kL _ _ _ hb,if_neg oM];simp
theorem kG:∀b,b<256→f3 (f2 (f1 b))=pop 8 b∧pop 8 b≤8:=by decide+kernel
theorem Aa:∀(l:List Nat),(∀b∈l,b<256)→pop (8*l.length) (val l)=(l.map (pop 8)).sum
 |[],_=>rfl
 |b::l,h=>by have ih:=Aa l fun x hx=>h x iX;rw[List.length_cons,(oM:8*(l.length+1)=8+8*l.length),val,Br _ _ _ (h b iS),ih];simp
theorem JF(x:Nat)(h:x<18446744073709551616):∃a b c d e f g i:Nat,a<256∧b<256∧c<256∧d<256∧e<256∧f<256∧g<256∧i<256∧x=val [a,b,c,d,e,f,g,i]:=by refine⟨x%256,x/256%256,x/256/256%256,x/256/256/256%256,x/256/256/256/256%256,x/256/256/256/256/256%256,x/256/256/256/256/256/256%256,x/256/256/256/256/256/256/256,oM,oM,oM,oM,oM,oM,oM,oM,?_⟩;simp only[val];omega
theorem dv(x y k:Nat)(hx:x<k):(x+k*y)/k=y:=by rw[Nat.add_mul_div_left _ _ oM,Nat.div_eq_of_lt hx,Nat.zero_add]
theorem Lu(A B C D E F G I:Nat):A+256*(B+256*(C+256*(D+256*(E+256*(F+256*(G+256*(I+256*0)))))))=A+256*(B+256*C+65536*D+16777216*E+4294967296*F+1099511627776*G+281474976710656*I):=by omega
theorem Lt(A B C D E F G I:Nat):A+256*(B+256*C+65536*D+16777216*E+4294967296*F+1099511627776*G+281474976710656*I)+(B+256*C+65536*D+16777216*E+4294967296*F+1099511627776*G+281474976710656*I)=
 ((A+B)+256*(B+C))+65536*((C+D)+256*(D+E)+65536*(E+F)+16777216*(F+G)+4294967296*(G+I)+1099511627776*I):=by omega
theorem Lr(A B C D E F G I:Nat):((A+B)+256*(B+C))+65536*((C+D)+256*(D+E)+65536*(E+F)+16777216*(F+G)+4294967296*(G+I)+1099511627776*I)+((C+D)+256*(D+E)+65536*(E+F)+16777216*(F+G)+4294967296*(G+I)+1099511627776*I)=
 ((A+B+C+D)+256*(B+C+D+E)+65536*(C+D+E+F)+16777216*(D+E+F+G))+4294967296*((E+F+G+I)+256*(F+G+I)+65536*(G+I)+16777216*I):=by omega
theorem Lq(A B C D E F G I:Nat):((A+B+C+D)+256*(B+C+D+E)+65536*(C+D+E+F)+16777216*(D+E+F+G))+4294967296*((E+F+G+I)+256*(F+G+I)+65536*(G+I)+16777216*I)+((E+F+G+I)+256*(F+G+I)+65536*(G+I)+16777216*I)=
 (A+B+C+D+E+F+G+I)+128*(2*((B+C+D+E)+256*(C+D+E+F)+65536*(D+E+F+G)+16777216*((E+F+G+I)+256*(F+G+I)+65536*(G+I)+16777216*I)+(F+G+I)+256*(G+I)+65536*I)):=by omega
theorem KJ(A B C D E F G I:Nat)(p0:A≤8)(p1:B≤8)(p2:C≤8)(p3:D≤8)(p4:E≤8)(p5:F≤8)(p6:G≤8)(p7:I≤8):
 (A+256*(B+256*(C+256*(D+256*(E+256*(F+256*(G+256*(I+256*0)))))))+(A+256*(B+256*(C+256*(D+256*(E+256*(F+256*(G+256*(I+256*0))))))))/256+
  (A+256*(B+256*(C+256*(D+256*(E+256*(F+256*(G+256*(I+256*0)))))))+(A+256*(B+256*(C+256*(D+256*(E+256*(F+256*(G+256*(I+256*0))))))))/256)/65536+
  (A+256*(B+256*(C+256*(D+256*(E+256*(F+256*(G+256*(I+256*0)))))))+(A+256*(B+256*(C+256*(D+256*(E+256*(F+256*(G+256*(I+256*0))))))))/256+
  (A+256*(B+256*(C+256*(D+256*(E+256*(F+256*(G+256*(I+256*0)))))))+(A+256*(B+256*(C+256*(D+256*(E+256*(F+256*(G+256*(I+256*0))))))))/256)/65536)/4294967296)%128=
  A+(B+(C+(D+(E+(F+(G+(I+0))))))):=by
 rw[Lu,dv A _ 256 oM,Lt,dv _ _ 65536 oM,Lr,dv _ _ 4294967296 oM,Lq,Nat.add_mul_mod_self_left,Nat.mod_eq_of_lt oM];omega
theorem Lj(x:Nat)(h:x<18446744073709551616)(y:Nat)(hy:y=((x/2)&&&6148914691236517205)+(x&&&6148914691236517205))(z:Nat)(hz:z=((y/4)&&&3689348814741910323)+(y&&&3689348814741910323))
 (t:Nat) (ht:t=(z/16+z)&&&1085102592571150095):y<18446744073709551616∧z/16+z<18446744073709551616∧z<18446744073709551616∧t<1000000000000000000∧
  ∃u,u=t+t/256∧u<9000000000000000000∧∃v,v=u+u/65536∧v<9100000000000000000∧∃w,w=v+v/4294967296∧w<9200000000000000000∧w%128=pop 64 x:=by
 obtain⟨a,b,c,d,e,f,g,i,ha,hb,hc,hd,he,hf,hg,hi,rfl⟩:=JF x h;have hl:∀q∈[a,b,c,d,e,f,g,i],q<256:=by simp;omega
 have s1:=CU _ hl;rw[show rep 85 [a,b,c,d,e,f,g,i]=6148914691236517205 by simp[rep,val],←hy]at s1;have hl1:∀q∈[f1 a,f1 b,f1 c,f1 d,f1 e,f1 f,f1 g,f1 i],q<256:=by simp;exact⟨fE a ha,fE b hb,fE c hc,fE d hd,fE e he,fE f hf,fE g hg,fE i hi⟩
 have s2:=CT _ hl1;rw[show rep 51 [f1 a,f1 b,f1 c,f1 d,f1 e,f1 f,f1 g,f1 i]=3689348814741910323 by simp[rep,val]]at s2;simp only[List.map_cons,List.map_nil]at s1 s2;rw[←s1,←hz]at s2;have hl2:∀q∈[f2 (f1 a),f2 (f1 b),f2 (f1 c),f2 (f1 d),f2 (f1 e),f2 (f1 f),f2 (f1 g),f2 (f1 i)],q/16≤4∧q%16≤4:=by simp only[List.mem_cons,List.not_mem_nil,or_false,forall_eq_or_imp,forall_eq];have:=fD a ha;have:=fD b hb;have:=fD c hc;have:=fD d hd;have:=fD e he;have:=fD f hf;have:=fD g hg;have:=fD i hi;omega
 have s3:=CS _ hl2;rw[show rep 15 [f2 (f1 a),f2 (f1 b),f2 (f1 c),f2 (f1 d),f2 (f1 e),f2 (f1 f),f2 (f1 g),f2 (f1 i)]=1085102592571150095 by simp[rep,val]]at s3;simp only[List.map_cons,List.map_nil]at s3;rw[←s2,←ht]at s3;rw[(kG a ha).1,(kG b hb).1,(kG c hc).1,(kG d hd).1,(kG e he).1,(kG f hf).1,(kG g hg).1,(kG i hi).1]at s3;have hp:=Aa _ hl;simp only[List.length_cons,List.length_nil,List.map_cons,List.map_nil,List.sum_cons,List.sum_nil,seval]at hp;have p0:=(kG a ha).2;have p1:=(kG b hb).2;have p2:=(kG c hc).2;have p3:=(kG d hd).2;have p4:=(kG e he).2;have p5:=(kG f hf).2;have p6:=(kG g hg).2;have p7:=(kG i hi).2;have q0:=fE a ha;have q1:=fE b hb;have q2:=fE c hc;have q3:=fE d hd;have q4:=fE e he;have q5:=fE f hf;have q6:=fE g hg;have q7:=fE i hi;have r0:=fD a ha;have r1:=fD b hb;have r2:=fD c hc;have r3:=fD d hd;have r4:=fD e he;have r5:=fD f hf;have r6:=fD g hg;have r7:=fD i hi;rw[hp];simp only[val]at s1 s2 s3;refine⟨oM,oM,oM,oM,_,rfl,oM,_,rfl,oM,_,rfl,oM,?_⟩;generalize pop 8 a=A at *;generalize pop 8 b=B at *;generalize pop 8 c=C at *;generalize pop 8 d=D at *;generalize pop 8 e=E at *;generalize pop 8 f=F at *;generalize pop 8 g=G at *;generalize pop 8 i=I at *;clear hl hl1 hl2 s1 s2 hp hy hz ht q0 q1 q2 q3 q4 q5 q6 q7 r0 r1 r2 r3 r4 r5 r6 r7 h ha hb hc hd he hf hg hi;rw[s3];exact KJ A B C D E F G I p0 p1 p2 p3 p4 p5 p6 p7
theorem w9:∀(n:Nat)(l:List Bool),(List.range n).countP (fun j=>l.getD j false)=(l.take n).count true:=by
 intro n;induction n with
 |zero=>intro l;simp
 |succ n ih=>
  intro l;rw[List.range_succ,List.countP_append,ih,List.take_add_one,List.count_append];congr 1;cases h:l[n]? with
  |none=>simp[List.getD,h]
  |some b=>cases b<;>simp[List.getD,h]
theorem lW{x n:Nat}{bs:List Bool}{k:Nat}(hn:n≤64)(h:∀j,j<64→x.testBit j=bs.getD (64*k+j) false):pop n x=((bs.drop (64*k)).take n).count true:=by rw[←w9];unfold pop;refine List.countP_congr fun j hj=>?_;simp at hj;rw[h j oM];simp[List.getD,List.getElem?_drop]
theorem GG{x r:Nat}(hr:r≤64):pop 64 ((x*2^(64-r))%18446744073709551616)=pop r x:=by
 unfold pop;have e:List.range 64=List.range (64-r)++(List.range r).map (fun j=>(64-r)+j):=by rw[←List.range_add];congr 1;omega
 rw[e,List.countP_append,List.countP_map];have tb:∀j,j<64→((x*2^(64-r))%18446744073709551616).testBit j=(decide (64-r≤j)&&x.testBit (j-(64-r))):=by intro j hj;rw[(iR:(18446744073709551616:Nat)=2^64),Nat.testBit_mod_two_pow,Nat.mul_comm,Nat.testBit_two_pow_mul];simp[hj]
 have z:(List.range (64-r)).countP (fun j=>((x*2^(64-r))%18446744073709551616).testBit j)=0:=by grind
 rw[z,Nat.zero_add];refine List.countP_congr fun j hj=>?_;simp at hj;simp only[Function.comp];rw[tb _ oM];simp
def Low(x t:Nat):Prop:=x.testBit t=true∧∀j,j<t→x.testBit j=false
theorem Dy{x t:Nat}(h:Low x t):∃q,x=2^(t+1) *q+2^t:=by
 let⟨h1,h2⟩:=h;have hm:x%2^t=0:=by apply Nat.eq_of_testBit_eq;intro i;rw[Nat.testBit_mod_two_pow,Nat.zero_testBit];by_cases c:i<t;simp[c,h2 i c];simp[c]
 have hd:x/2^t%2=1:=by grind
 refine⟨x/2^t/2,?_⟩;have e1:=Nat.div_add_mod x (2^t);rw[hm,Nat.add_zero]at e1;have e2:=Nat.div_add_mod (x/2^t) 2;rw[hd]at e2;rw[Nat.pow_succ,Nat.mul_assoc,←Nat.mul_succ];conv=>lhs;rw[←e1,←e2]
theorem wu{x t:Nat}(h:Low x t):∀j,(x-1).testBit j=if j<t then true else if j=t then false else x.testBit j:=by obtain⟨q,rfl⟩:=Dy h;intro j;have hp:0<2^t:=Nat.two_pow_pos t;have hs:2^(t+1)=2^t+2^t:=oM;have e:2^(t+1) *q+2^t-1=2^(t+1) *q+(2^t-1):=oM;rw[e,Nat.testBit_two_pow_mul_add q (oM:2^t-1<2^(t+1)),Nat.testBit_two_pow_mul_add q (oM:2^t<2^(t+1))];by_cases c1:j<t;grind;grind
theorem BA{x t:Nat}(h:Low x t)(j:Nat):(x&&&(x-1)).testBit j=(x.testBit j&& !decide (j=t)):=by rw[Nat.testBit_and,wu h];by_cases c1:j<t;grind;grind
theorem Hc{x t:Nat}(h:Low x t)(hx:x<18446744073709551616)(ht:t<64):x&&&(18446744073709551616-x)=2^t:=by
 have hx0:x≠0:=by rintro rfl;simp[Low]at h
 apply Nat.eq_of_testBit_eq;intro i;have e:18446744073709551616-x=2^64-((x-1)+1):=oM;rw[Nat.testBit_and,e,Nat.testBit_two_pow_sub_succ oM,wu h,Nat.testBit_two_pow];by_cases c1:i<t;grind;by_cases c2:i=t;subst c2;simp[h.1,ht];grind
theorem Jp(p:Nat→Bool):∀t,p t=true→∃t,p t=true∧∀j,j<t→p j=false:=by
 intro t;induction t using Nat.strongRecOn with
 |ind t ih=>intro ht;by_cases h:∃j,j<t∧p j=true;grind;grind
theorem yA{x:Nat}(hx:x≠0):∃t,Low x t:=by let⟨i,hi⟩:=Nat.exists_testBit_of_ne_zero hx;exact Jp _ i hi
def jw:List Nat:=[0,1,56,2,57,49,28,3,61,58,42,50,38,29,17,4,62,47,59,36,45,43,51,22,53,39,33,30,24,18,12,5,63,55,48,27,60,41,37,16,46,35,44,21,52,32,23,11,54,26,40,15,34,20,31,10,25,14,19,9,13,8,7,6]
def fm:List V:=jw.map fun(x:Nat)=>V.int .u8 (x:Int)
theorem JG:∀t,t<64→jw[(2^t*285870213051353865%18446744073709551616)/288230376151711744]? =some t∧(2^t*285870213051353865%18446744073709551616)/288230376151711744<64:=by decide+kernel
end Go.Ev.Lay
namespace Go.Ev.Ab
abbrev i(k:Int):Opd:=.c (.int .i64 k)
abbrev b(k:Int):Opd:=.c (.int .u8 k)
abbrev u(k:Int):Opd:=.c (.int .u64 k)
abbrev tt:Opd:=.c (.bool true)
abbrev ff:Opd:=.c (.bool false)
abbrev p(k:PK)(x:List Opd):IStep:=⟨none,.p k x,none⟩
abbrev q(k:PK)(x:List Opd)(d:Nat):IStep:=⟨none,.p k x,some d⟩
abbrev m(x:Opd):IStep:=⟨none,.p .mv [x],none⟩
abbrev o(x:Opd)(d:Nat):IStep:=⟨none,.p .mv [x],some d⟩
abbrev a(k:Nat):IStep:=⟨none,.p (.faddr k) [.l 0],none⟩
abbrev A(k v:Nat):IStep:=⟨none,.p (.faddr k) [.v v],none⟩
abbrev e(k:Nat):IStep:=⟨none,.p (.ext k) [.l k],none⟩
abbrev L:IStep:=⟨none,.ld 1 false (.l 0),none⟩
abbrev c(f:Nat)(x:List Opd):IStep:=⟨none,.cf f x,none⟩
abbrev n(o:IOp):IStep:=⟨none,o,none⟩
abbrev N(o:IOp)(d:Nat):IStep:=⟨none,o,some d⟩
abbrev f(j:Nat)(k:PK)(y:List Opd):IStep:=⟨some (.l j,false),.p k y,none⟩
abbrev y(j:Nat)(x:Opd):IStep:=⟨some (.l j,false),.p .mv [x],none⟩
abbrev z(j:Nat)(x:Opd):IStep:=⟨some (.l j,true),.p .mv [x],none⟩
abbrev t(j:Nat)(k:PK)(y:List Opd):IStep:=⟨some (.l j,true),.p k y,none⟩
abbrev g(j:Nat)(o:IOp):IStep:=⟨some (.l j,false),o,none⟩
abbrev h(j:Nat)(o:IOp):IStep:=⟨some (.l j,true),o,none⟩
abbrev G(x:Opd)(w:Bool)(o:IOp)(d:Nat):IStep:=⟨some (x,w),o,some d⟩
abbrev s(l:List IStep)(k:IC):IC:=.seq (.ops l) k
abbrev zK:List V:=[.int .u8 0,.str [],.str [],.nils,.str [],.nils,.int .i64 0,.bool false,.int .i64 0]
abbrev zE:List V:=[.int .u64 0,.int .u8 0,.str [],.nils,.int .i64 0,.bool false]
abbrev zO:List V:=[.int .u8 0,.int .i64 0,.int .i64 0,.int .i64 0,.nils]
abbrev zN:List V:=[.int .u8 0,.str [],.str [],.nils,.str [],.nils]
abbrev zI:List V:=[.int .u64 0,.int .u8 0,.str [],.nils]
abbrev r(v:Nat)(l:List IStep):IC:=.cond (.v v) (.seq (.ops l) .ret) .skip
abbrev ad:PK:=.ib .add
abbrev su:PK:=.ib .sub
abbrev mu:PK:=.ib .mul
abbrev eq:PK:=.ib .eql
abbrev ne:PK:=.ib .neq
abbrev lt:PK:=.ib .lss
abbrev gt:PK:=.ib .gtr
abbrev le:PK:=.ib .leq
abbrev ge:PK:=.ib .geq
abbrev P(k:Nat):IStep:=⟨none,.p .pick [.l k,.c (.bool true),.l 0],none⟩
abbrev Q(k:Nat):IStep:=⟨none,.p .pick [.l k,.l 0,.c (.bool false)],none⟩
abbrev v(k:Nat):IStep:=⟨none,.p .nilck [.v k],none⟩
abbrev k:IStep:=⟨none,.p .nilck [.l 0],none⟩
abbrev l:IOp:=.ld 1 false (.l 0)
abbrev d(k j:Nat):IStep:=⟨none,.ld k true (.l j),none⟩
abbrev D(k j:Nat):IStep:=⟨none,.ld k true (.v j),none⟩
abbrev ls:IStep:=⟨none,.p .lenS [.l 0],none⟩
abbrev lv(k:Nat):IStep:=⟨none,.p .lenS [.v k],none⟩
abbrev S(k j:Nat):IStep:=⟨none,.st k (.v j) (.l 0),none⟩
abbrev w(k:Nat):IStep:=⟨none,.st k (.l 0) (.l 1),none⟩
abbrev al(z:List V)(d:Nat):IStep:=⟨none,.al z,some d⟩
abbrev bx(k d:Nat):IStep:=⟨none,.bx (.v k),some d⟩
abbrev x(k n:Nat):IC:=.cond (.v k) .skip (.exit n)
abbrev I(k:Nat):IC:=.ops [m (.v k),p ad [.l 0,i 1],o (.l 0) k]
abbrev J(k:Nat):IC:=.ops [p ad [.v k,i 1],o (.l 0) k]
abbrev ds(l:List IStep)(r:List (Nat×Nat×Nat))(t:List (Nat×Nat)):IC:=.dops l [] [] r t
abbrev lp(n k:Nat)(l:List IStep)(c b i:IC):IC:=.block n (.loop (.seq (.seq (.ops l) c) (.seq (.block k b) i)))
abbrev zH:List V:=[.int .u64 0,.int .i64 0]
abbrev fv(j:Nat)(k:PK)(y:List Opd):IStep:=⟨some (.v j,false),.p k y,none⟩
abbrev tv(j:Nat)(k:PK)(y:List Opd):IStep:=⟨some (.v j,true),.p k y,none⟩
abbrev gv(j:Nat)(o:IOp):IStep:=⟨some (.v j,false),o,none⟩
abbrev hv(j:Nat)(o:IOp):IStep:=⟨some (.v j,true),o,none⟩
abbrev Y:Opd:=.l 0
abbrev O:Opd:=.c (.int .i64 0)
abbrev U:List Opd:=[.l 0]
abbrev B(k:Nat):List Opd:=[.l k,.l 0]
abbrev O1(d:Nat):IStep:=⟨none,.p .mv [.l 0],some d⟩
abbrev O0(d:Nat):IStep:=⟨none,.p .mv [.c (.int .i64 0)],some d⟩
abbrev On(d:Nat):IStep:=⟨none,.p .mv [.c .nils],some d⟩
abbrev Of(d:Nat):IStep:=⟨none,.p .mv [.c (.bool false)],some d⟩
abbrev mv(k:Nat):IStep:=⟨none,.p .mv [.v k],none⟩
abbrev yv(j k:Nat):IStep:=⟨some (.l j,false),.p .mv [.v k],none⟩
abbrev zv(j k:Nat):IStep:=⟨some (.l j,true),.p .mv [.v k],none⟩
end Go.Ev.Ab
