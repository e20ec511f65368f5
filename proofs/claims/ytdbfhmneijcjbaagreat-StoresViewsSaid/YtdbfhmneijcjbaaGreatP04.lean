/- An evaluator of the program, and contracts over it: EvWa to LayAb. -/
import Derived.Below
import Derived.Test.YtdbfhmneijcjbaaGreatP03
set_option linter.unusedSimpArgs false
set_option linter.unusedVariables false
set_option linter.constructorNameAsVariable false
set_option linter.unnecessarySimpa false
namespace Go.Ev
section
variable {call : aD} {env : T V} {h : Heap} {loc : List V}
def OQ(o:Option (V×Heap))(K:V→Heap→Prop):Prop:=∃v h,o=some (v,h)∧K v h
theorem bZ(v:V)(h:Heap)(K:V→Heap→Prop):OQ (some (v,h)) K↔K v h:=
 ⟨fun⟨_,_,e,k⟩=>by cases e;exact k,fun k=>⟨v,h,rfl,k⟩⟩
def VQ(o:Option V)(K:V→Heap→Prop)(h:Heap):Prop:=∃v,o=some v∧K v h
theorem mV(v:V)(K:V→Heap→Prop)(h:Heap):VQ (some v) K h↔K v h:=
 ⟨fun⟨_,e,k⟩=>by cases e;exact k,fun k=>⟨v,rfl,k⟩⟩
def HQ(o:Option Heap)(K:V→Heap→Prop):Prop:=∃h,o=some h∧K (.tup []) h
theorem yg(h:Heap)(K:V→Heap→Prop):HQ (some h) K↔K (.tup []) h:=
 ⟨fun⟨_,e,k⟩=>by cases e;exact k,fun k=>⟨h,rfl,k⟩⟩
theorem OQ.mono{o:Option (V×Heap)}{K K':V→Heap→Prop}(a:OQ o K)(b:∀v h,K v h→K' v h):OQ o K':=by
 obtain⟨v,h,e,k⟩:=a;exact⟨v,h,e,b _ _ k⟩
theorem mj(k:Nat):evO loc env (.l k)=nth loc k:=rfl
theorem gh(s:Nat):evO loc env (.v s)=env.get s:=rfl
theorem xC(x:V):evO loc env (.c x)=some x:=rfl
theorem EH(n:Nat):evO loc env (.g n)=some (.ptr n 0):=rfl
def iK(a:Option V)(b:Option (List V)):Option (List V):=match a,b with
 |some v,some vs=>some (v::vs)
 |_,_=>none
theorem bW(v:V)(vs:List V):iK (some v) (some vs)=some (v::vs):=rfl
theorem cL:de loc env []=some []:=rfl
theorem eP(x:Opd)(xs:List Opd):de loc env (x::xs)=iK (evO loc env x) (de loc env xs):=by
 show Option.rec (motive:=fun _=>Option (List V)) none (fun v=>Option.rec (motive:=fun _=>Option (List V)) none (fun vs=>some (v::vs)) (de loc env xs)) (evO loc env x)=_;cases evO loc env x<;>cases de loc env xs<;>rfl
theorem bv(v:V)(l:List V):nth (v::l) 0=some v:=rfl
theorem bT(v:V)(l:List V)(k:Nat):nth (v::l) (k+1)=nth l k:=rfl
theorem jt(i:Nat)(en:T V):eS [] i en=en:=rfl
def PQ(k:PK)(o:Option (List V))(K:V→Heap→Prop)(h:Heap):Prop:=∃vs,o=some vs∧VQ (aP k vs) K h
theorem mW(k:PK)(vs:List V)(K:V→Heap→Prop):PQ k (some vs) K h↔VQ (aP k vs) K h:=
 ⟨fun⟨_,e,k⟩=>by cases e;exact k,fun k=>⟨vs,rfl,k⟩⟩
theorem CY(k:PK)(xs:List Opd)(K:V→Heap→Prop):OQ (aK call loc env h (.p k xs)) K↔PQ k (de loc env xs) K h:=by
 simp only[aK,OQ,PQ,VQ];cases de loc env xs with
 |none=>simp
 |some vs=>cases hx:aP k vs with
  |none=>simp[hx]
  |some v=>simp[hx,and_assoc]
def LQ(h:Heap)(n:Nat)(ia:Bool)(o:Option V)(K:V→Heap→Prop):Prop:=∃p,o=some p∧VQ (gy h n ia p) K h
theorem tn(n:Nat)(ia:Bool)(p:V)(K:V→Heap→Prop):LQ h n ia (some p) K↔VQ (gy h n ia p) K h:=
 ⟨fun⟨_,e,k⟩=>by cases e;exact k,fun k=>⟨p,rfl,k⟩⟩
theorem AG(n:Nat)(ia:Bool)(x:Opd)(K:V→Heap→Prop):OQ (aK call loc env h (.ld n ia x)) K↔LQ h n ia (evO loc env x) K:=by
 simp only[aK,OQ,LQ,VQ];cases evO loc env x with
 |none=>simp
 |some p=>cases hx:gy h n ia p with
  |none=>simp[hx]
  |some v=>simp[hx,and_assoc]
def SQ(h:Heap)(n:Nat)(o u:Option V)(K:V→Heap→Prop):Prop:=∃p v,o=some p∧u=some v∧HQ (gW h n p v) K
theorem yd(n:Nat)(p v:V)(K:V→Heap→Prop):SQ h n (some p) (some v) K↔HQ (gW h n p v) K:=
 ⟨fun⟨_,_,e,e2,k⟩=>by cases e;cases e2;exact k,fun k=>⟨p,v,rfl,rfl,k⟩⟩
theorem Em(n:Nat)(x y:Opd)(K:V→Heap→Prop):OQ (aK call loc env h (.st n x y)) K↔SQ h n (evO loc env x) (evO loc env y) K:=by
 simp only[aK,OQ,SQ,HQ];cases evO loc env x with
 |none=>simp
 |some p=>cases evO loc env y with
  |none=>simp
  |some v=>cases hx:gW h n p v with
   |none=>simp[hx]
   |some h'=>simp[hx,and_assoc]
theorem Ey(zero:List V)(K:V→Heap→Prop):OQ (aK call loc env h (.al zero)) K↔K (.ptr h.next 0) (halloc h zero):=by
 simp only[aK,bZ]
def BQ(o:Option V)(K:V→Heap→Prop)(h:Heap):Prop:=∃v,o=some v∧K (.ptr h.next 0) (halloc h v.cells)
theorem yw(v:V)(K:V→Heap→Prop):BQ (some v) K h↔K (.ptr h.next 0) (halloc h v.cells):=
 ⟨fun⟨_,e,k⟩=>by cases e;exact k,fun k=>⟨v,rfl,k⟩⟩
theorem Et(x:Opd)(K:V→Heap→Prop):OQ (aK call loc env h (.bx x)) K↔BQ (evO loc env x) K h:=by
 simp only[aK,OQ,BQ];cases evO loc env x with
 |none=>simp
 |some v=>simp[and_assoc]
def BsQ(h:Heap)(zero:List V)(places:List (Nat×Nat))(len:Nat)(o:Option (List V))(K:V→Heap→Prop):Prop:=∃vs,o=some vs∧OQ (gX h zero places len vs) K
theorem vM(zero:List V)(places:List (Nat×Nat))(len:Nat)(vs:List V)(K:V→Heap→Prop):BsQ h zero places len (some vs) K↔OQ (gX h zero places len vs) K:=
 ⟨fun⟨_,e,k⟩=>by cases e;exact k,fun k=>⟨vs,rfl,k⟩⟩
theorem Eu(zero:List V)(places:List (Nat×Nat))(len:Nat)(xs:List Opd)(K:V→Heap→Prop):
 OQ (aK call loc env h (.bs zero places len xs)) K↔BsQ h zero places len (de loc env xs) K:=by
 simp only[aK,OQ,BsQ];cases de loc env xs with
 |none=>simp
 |some vs=>simp
def wQ(f:V→V→Option (V×Heap))(a b:Option V)(K:V→Heap→Prop):Prop:=∃x y,a=some x∧b=some y∧OQ (f x y) K
theorem rg(f:V→V→Option (V×Heap))(x y:V)(K:V→Heap→Prop):wQ f (some x) (some y) K↔OQ (f x y) K:=
 ⟨fun⟨_,_,e,e2,k⟩=>by cases e;cases e2;exact k,fun k=>⟨x,y,rfl,rfl,k⟩⟩
theorem Ep(zero:List V)(bytes:Nat)(x y:Opd)(K:V→Heap→Prop):
 OQ (aK call loc env h (.mk zero bytes x y)) K↔wQ (qR h zero bytes) (evO loc env x) (evO loc env y) K:=by
 simp only[aK,OQ,wQ];cases evO loc env x with
 |none=>simp
 |some l=>cases evO loc env y with
  |none=>simp
  |some c=>simp
theorem Ew(esz bytes:Nat)(x y:Opd)(K:V→Heap→Prop):
 OQ (aK call loc env h (.ap esz bytes x y)) K↔wQ (jD h esz bytes) (evO loc env x) (evO loc env y) K:=by
 simp only[aK,OQ,wQ];cases evO loc env x with
 |none=>simp
 |some l=>cases evO loc env y with
  |none=>simp
  |some c=>simp
theorem Er(esz:Nat)(x y:Opd)(K:V→Heap→Prop):
 OQ (aK call loc env h (.cp esz x y)) K↔wQ (qT h esz) (evO loc env x) (evO loc env y) K:=by
 simp only[aK,OQ,wQ];cases evO loc env x with
 |none=>simp
 |some l=>cases evO loc env y with
  |none=>simp
  |some c=>simp
def CfQ(call:aD)(f:Nat)(o:Option (List V))(h:Heap)(K:V→Heap→Prop):Prop:=∃vs,o=some vs∧OQ (call f vs h) K
theorem vL(f:Nat)(vs:List V)(K:V→Heap→Prop):CfQ call f (some vs) h K↔OQ (call f vs h) K:=
 ⟨fun⟨_,e,k⟩=>by cases e;exact k,fun k=>⟨vs,rfl,k⟩⟩
theorem Es(f:Nat)(xs:List Opd)(K:V→Heap→Prop):OQ (aK call loc env h (.cf f xs)) K↔CfQ call f (de loc env xs) h K:=by
 simp only[aK,OQ,CfQ];cases de loc env xs with
 |none=>simp
 |some vs=>simp
def FQ(call:aD)(h:Heap)(o:Option V)(vs:Option (List V))(K:V→Heap→Prop):Prop:=
 ∃us,vs=some us∧((∃f first caps,o=some (.func (.func f) first caps)∧f<1099511627776∧OQ (call f (first++us++caps) h) K)∨(∃b,o=some (.yld b)∧OQ (call (YB+b) us h) K))
theorem yo(f:Nat)(first caps us:List V)(K:V→Heap→Prop):FQ call h (some (.func (.func f) first caps)) (some us) K↔(f<1099511627776∧OQ (call f (first++us++caps) h) K):=
 ⟨fun⟨_,e2,k⟩=>(by
  cases e2;rcases k with⟨_,_,_,e,k⟩|⟨_,e,_⟩
  ·cases e;exact k
  ·cases e),fun k=>⟨us,rfl,.inl ⟨f,first,caps,rfl,k⟩⟩⟩
theorem Eq(x:Opd)(xs:List Opd)(K:V→Heap→Prop):OQ (aK call loc env h (.cv x xs)) K↔FQ call h (evO loc env x) (de loc env xs) K:=by
 simp only[aK,OQ,FQ];constructor
 ·rintro⟨v,h',e,k⟩;split at e
  ·rename_i f first caps hx
   cases hy:de loc env xs with
   |none=>rw[hy]at e;cases e
   |some us=>
    rw[hy]at e;simp only[]at e;cases hb:Nat.blt f YB
    ·rw[hb]at e;cases e
    ·rw[hb]at e;simp only[cond_true]at e;exact⟨us,rfl,.inl ⟨f,first,caps,hx,(Nat.blt_eq ..).mp hb,v,h',e,k⟩⟩
  ·rename_i b hx;cases hy:de loc env xs with
   |none=>rw[hy]at e;cases e
   |some us=>rw[hy]at e;exact⟨us,rfl,.inr ⟨b,hx,v,h',e,k⟩⟩
  ·cases e
 ·rintro⟨us,e2,⟨f,first,caps,e1,hf,v,h',e,k⟩|⟨b,e1,v,h',e,k⟩⟩
  ·refine⟨v,h',?_,k⟩;rw[e1,e2];have hb:Nat.blt f YB=true:=(Nat.blt_eq ..).mpr hf;simp only[hb,cond_true];exact e
  ·refine⟨v,h',?_,k⟩;rw[e1,e2];exact e
def GB(h:Heap)(zero:List V)(o:Option V)(K:V→Heap→Prop):Prop:=∃v,o=some v∧OQ (wI h zero v) K
theorem rD(zero:List V)(v:V)(K:V→Heap→Prop):GB h zero (some v) K↔OQ (wI h zero v) K:=
 ⟨fun⟨_,e,k⟩=>by cases e;exact k,fun k=>⟨v,rfl,k⟩⟩
theorem AI(zero:List V)(x:Opd)(K:V→Heap→Prop):OQ (aK call loc env h (.clr zero x)) K↔GB h zero (evO loc env x) K:=by
 simp only[aK,OQ,GB];cases evO loc env x with
 |none=>simp
 |some d=>simp
def WS(call:aD)(l:List IStep)(loc:List V)(env:T V)(h:Heap)(Q:T V→Heap→Prop):Prop:=∃env' h',cU call l loc env h=.ok .norm env' h'∧Q env' h'
theorem tj(Q:T V→Heap→Prop):WS call [] loc env h Q↔Q env h:=
 ⟨fun⟨_,_,e,q⟩=>by cases e;exact q,fun q=>⟨env,h,rfl,q⟩⟩
def kl(call:aD)(l:List IStep)(loc:List V)(env:T V)(Q:T V→Heap→Prop):V→Heap→Prop:=fun v h=>WS call l (v::loc) env h Q
def kv(call:aD)(l:List IStep)(loc:List V)(env:T V)(d:Nat)(Q:T V→Heap→Prop):V→Heap→Prop:=fun v h=>WS call l loc (env.set d v) h Q
theorem sw(l:List IStep)(Q:T V→Heap→Prop)(v:V):kl call l loc env Q v h↔WS call l (v::loc) env h Q:=Iff.rfl
theorem sr(l:List IStep)(d:Nat)(Q:T V→Heap→Prop)(v:V):kv call l loc env d Q v h↔WS call l loc (env.set d v) h Q:=Iff.rfl
theorem DX(o:IOp)(l:List IStep)(Q:T V→Heap→Prop):WS call (⟨none,o,none⟩::l) loc env h Q↔OQ (aK call loc env h o) (kl call l loc env Q):=by
 simp only[WS,bU,evG,OQ,kl];cases aK call loc env h o with
 |none=>simp
 |some r=>obtain⟨v,h'⟩:=r;simp[iA,fe,and_assoc]
theorem DW(o:IOp)(d:Nat)(l:List IStep)(Q:T V→Heap→Prop):WS call (⟨none,o,some d⟩::l) loc env h Q↔OQ (aK call loc env h o) (kv call l loc env d Q):=by
 simp only[WS,bU,evG,OQ,kv];cases aK call loc env h o with
 |none=>simp
 |some r=>obtain⟨v,h'⟩:=r;simp[iA,fe,and_assoc]
def GQ(o:Option V)(want:Bool)(A B:Prop):Prop:=(∃b,o=some (.bool b)∧if b=want then A else B)∨((∃l,o=some (.tup l))∧B)
theorem k8(b want:Bool)(A B:Prop):GQ (some (.bool b)) want A B↔if b=want then A else B:=
 ⟨fun x=>(by
  rcases x with⟨_,e,k⟩|⟨⟨_,e⟩,_⟩
  ·cases e;exact k
  ·cases e),fun k=>.inl ⟨b,rfl,k⟩⟩
theorem wS(t:List V)(want:Bool)(A B:Prop):GQ (some (.tup t)) want A B↔B:=
 ⟨fun x=>(by
  rcases x with⟨_,e,k⟩|⟨_,k⟩
  ·cases e
  ·exact k),fun k=>.inr ⟨⟨t,rfl⟩,k⟩⟩
def GS(o:Option V)(want:Bool)(call:aD)(p:IOp)(l:List IStep)(loc:List V)(env:T V)(h:Heap)(Q:T V→Heap→Prop):Prop:=
 GQ o want (OQ (aK call loc env h p) (kl call l loc env Q)) (WS call l (.tup []::loc) env h Q)
theorem yi(b want:Bool)(p:IOp)(l:List IStep)(Q:T V→Heap→Prop):GS (some (.bool b)) want call p l loc env h Q↔
 if b=want then OQ (aK call loc env h p) (kl call l loc env Q)else WS call l (.tup []::loc) env h Q:=k8 _ _ _ _
theorem CE(t:List V)(want:Bool)(p:IOp)(l:List IStep)(Q:T V→Heap→Prop):GS (some (.tup t)) want call p l loc env h Q↔WS call l (.tup []::loc) env h Q:=wS _ _ _ _
def GV(o:Option V)(want:Bool)(call:aD)(p:IOp)(d:Nat)(l:List IStep)(loc:List V)(env:T V)(h:Heap)(Q:T V→Heap→Prop):Prop:=
 GQ o want (OQ (aK call loc env h p) (kv call l loc env d Q)) (WS call l loc (env.set d (.tup [])) h Q)
theorem yh(b want:Bool)(p:IOp)(d:Nat)(l:List IStep)(Q:T V→Heap→Prop):GV (some (.bool b)) want call p d l loc env h Q↔
 if b=want then OQ (aK call loc env h p) (kv call l loc env d Q)else WS call l loc (env.set d (.tup [])) h Q:=k8 _ _ _ _
theorem CD(t:List V)(want:Bool)(p:IOp)(d:Nat)(l:List IStep)(Q:T V→Heap→Prop):GV (some (.tup t)) want call p d l loc env h Q↔WS call l loc (env.set d (.tup [])) h Q:=wS _ _ _ _
theorem Hw(x:Opd)(want:Bool)(o:IOp)(l:List IStep)(Q:T V→Heap→Prop):WS call (⟨some (x,want),o,none⟩::l) loc env h Q↔GS (evO loc env x) want call o l loc env h Q:=by
 simp only[WS,bU,evG,OQ,GQ,GS,kl];cases evO loc env x with
 |none=>simp
 |some b=>
  cases b with
  |bool b=>
   have hb:(!(xor b want))=decide (b=want):=by cases b<;>cases want<;>rfl
   simp only[hb];by_cases hw:b=want
   ·simp only[hw,decide_true];cases aK call loc env h o with
    |none=>simp
    |some r=>obtain⟨v,h'⟩:=r;simp[iA,fe,and_assoc]
   ·simp only[hw,decide_false];simp[hw,iA,fe]
  |tup t=>simp[iA,fe]
  |_=>simp
theorem ES(x:Opd)(want:Bool)(o:IOp)(d:Nat)(l:List IStep)(Q:T V→Heap→Prop):WS call (⟨some (x,want),o,some d⟩::l) loc env h Q↔GV (evO loc env x) want call o d l loc env h Q:=by
 simp only[WS,bU,evG,OQ,GQ,GV,kv];cases evO loc env x with
 |none=>simp
 |some b=>
  cases b with
  |bool b=>
   have hb:(!(xor b want))=decide (b=want):=by cases b<;>cases want<;>rfl
   simp only[hb];by_cases hw:b=want
   ·simp only[hw,decide_true];cases aK call loc env h o with
    |none=>simp
    |some r=>obtain⟨v,h'⟩:=r;simp[iA,fe,and_assoc]
   ·simp only[hw,decide_false];simp[hw,iA,fe]
  |tup t=>simp[iA,fe]
  |_=>simp
def W(call:aD)(c:IC)(env:T V)(h:Heap)(Q:Ex→T V→Heap→Prop):Prop:=∃e env' h',evC call c env h=.ok e env' h'∧Q e env' h'
def pO(call:aD)(b:IC)(Q:Ex→T V→Heap→Prop):Ex→T V→Heap→Prop:=fun e env h=>match e with
 |.norm=>W call b env h Q
 |e=>Q e env h
theorem gG(b:IC)(Q:Ex→T V→Heap→Prop):pO call b Q .norm env h↔W call b env h Q:=Iff.rfl
theorem pN(b:IC)(Q:Ex→T V→Heap→Prop):pO call b Q .ret env h↔Q .ret env h:=Iff.rfl
theorem ni(b:IC)(i:Nat)(Q:Ex→T V→Heap→Prop):pO call b Q (.exit i) env h↔Q (.exit i) env h:=Iff.rfl
theorem ng(b:IC)(i:Nat)(Q:Ex→T V→Heap→Prop):pO call b Q (.goto i) env h↔Q (.goto i) env h:=Iff.rfl
theorem Cc(Q:Ex→T V→Heap→Prop):W call .skip env h Q↔Q .norm env h:=
 ⟨fun⟨_,_,_,e,q⟩=>by cases e;exact q,fun q=>⟨_,_,_,rfl,q⟩⟩
theorem ya(Q:Ex→T V→Heap→Prop):W call .ret env h Q↔Q .ret env h:=
 ⟨fun⟨_,_,_,e,q⟩=>by cases e;exact q,fun q=>⟨_,_,_,rfl,q⟩⟩
theorem Cf(i:Nat)(Q:Ex→T V→Heap→Prop):W call (.exit i) env h Q↔Q (.exit i) env h:=
 ⟨fun⟨_,_,_,e,q⟩=>by cases e;exact q,fun q=>⟨_,_,_,rfl,q⟩⟩
theorem Ce(i:Nat)(Q:Ex→T V→Heap→Prop):W call (.goto i) env h Q↔Q (.goto i) env h:=
 ⟨fun⟨_,_,_,e,q⟩=>by cases e;exact q,fun q=>⟨_,_,_,rfl,q⟩⟩
theorem W.mono{c:IC}{Q Q':Ex→T V→Heap→Prop}(a:W call c env h Q)(b:∀e env h,Q e env h→Q' e env h):W call c env h Q':=by
 obtain⟨e,env',h',x,q⟩:=a;exact⟨e,env',h',x,b _ _ _ q⟩
theorem sC(a b:IC):evC call (.seq a b) env h=match evC call a env h with
      |.ok .norm env h=>evC call b env h
      |r=>r:=rfl
theorem xY(a b:IC)(Q:Ex→T V→Heap→Prop):W call (.seq a b) env h Q↔W call a env h (pO call b Q):=by
 constructor
 ·rintro⟨e,env',h',x,q⟩;rw[sC]at x;split at x
  ·rename_i env1 h1 h2;exact⟨.norm,env1,h1,h2,e,env',h',x,q⟩
  ·rename_i h2;refine⟨e,env',h',x,?_⟩;cases e with
   |norm=>exact absurd x (h2 env' h')
   |_=>exact q
 ·rintro⟨e,env1,h1,x,q⟩;cases e with
  |norm=>
   obtain⟨e,env',h',y,q⟩:=q;exact⟨e,env',h',by rw[sC,x];exact y,q⟩
  |_=>exact⟨_,env1,h1,by rw[sC,x],q⟩
def EL(o:Option V)(call:aD)(a b:IC)(env:T V)(h:Heap)(Q:Ex→T V→Heap→Prop):Prop:=∃t,o=some (.bool t)∧if t=true then W call a env h Q else W call b env h Q
theorem oQ(t:Bool)(a b:IC)(Q:Ex→T V→Heap→Prop):EL (some (.bool t)) call a b env h Q↔if t=true then W call a env h Q else W call b env h Q:=
 ⟨fun⟨_,e,k⟩=>by cases e;exact k,fun k=>⟨t,rfl,k⟩⟩
theorem Ch(x:Opd)(a b:IC)(Q:Ex→T V→Heap→Prop):W call (.cond x a b) env h Q↔EL (evO [] env x) call a b env h Q:=by
 have eq:evC call (.cond x a b) env h=match evO [] env x with
  |some (.bool t)=>bif t then evC call a env h else evC call b env h
  |_=>.fail:=rfl
 constructor
 ·rintro⟨e,env',h',y,q⟩;rw[eq]at y;split at y
  ·rename_i t ht;refine⟨t,ht,?_⟩;cases t
   ·exact⟨e,env',h',y,q⟩
   ·exact⟨e,env',h',y,q⟩
  ·cases y
 ·rintro⟨t,ht,k⟩;cases t
  ·obtain⟨e,env',h',y,q⟩:=k;exact⟨e,env',h',by rw[eq,ht];exact y,q⟩
  ·obtain⟨e,env',h',y,q⟩:=k;exact⟨e,env',h',by rw[eq,ht];exact y,q⟩
def pj(id:Nat)(Q:Ex→T V→Heap→Prop):Ex→T V→Heap→Prop:=fun e env h=>match e with
 |.exit i=>if i=id then Q .norm env h else Q (.exit i) env h
 |e=>Q e env h
theorem mD(id:Nat)(Q:Ex→T V→Heap→Prop):pj id Q .norm env h↔Q .norm env h:=Iff.rfl
theorem pf(id:Nat)(Q:Ex→T V→Heap→Prop):pj id Q .ret env h↔Q .ret env h:=Iff.rfl
theorem mE(id i:Nat)(Q:Ex→T V→Heap→Prop):pj id Q (.goto i) env h↔Q (.goto i) env h:=Iff.rfl
theorem fK(id i:Nat)(Q:Ex→T V→Heap→Prop):pj id Q (.exit i) env h↔if i=id then Q .norm env h else Q (.exit i) env h:=Iff.rfl
theorem yc(id:Nat)(a:IC)(Q:Ex→T V→Heap→Prop):W call (.block id a) env h Q↔W call a env h (pj id Q):=by
 have eq:evC call (.block id a) env h=match evC call a env h with
  |.ok (.exit i) env h=>bif Nat.beq i id then .ok .norm env h else .ok (.exit i) env h
  |r=>r:=rfl
 constructor
 ·rintro⟨e,env',h',x,q⟩;rw[eq]at x;split at x
  ·rename_i i env1 h1 h2;refine⟨_,_,_,h2,?_⟩;rw[fK];by_cases hi:i=id
   ·subst hi;simp at x;obtain⟨rfl,rfl,rfl⟩:=x;simpa using q
   ·rw[if_neg hi];have:Nat.beq i id=false:=by cases hb:Nat.beq i id;rfl;exact absurd (Nat.eq_of_beq_eq_true hb) hi
    rw[this]at x;cases x;exact q
  ·rename_i h2;refine⟨e,env',h',x,?_⟩;cases e with
   |exit i=>exact absurd x (h2 i env' h')
   |_=>exact q
 ·rintro⟨e,env1,h1,x,q⟩;cases e with
  |exit i=>
   rw[fK]at q;by_cases hi:i=id
   ·rw[if_pos hi]at q;exact⟨.norm,env1,h1,by rw[eq,x];subst hi;simp,q⟩
   ·rw[if_neg hi]at q;have:Nat.beq i id=false:=by cases hb:Nat.beq i id;rfl;exact absurd (Nat.eq_of_beq_eq_true hb) hi
    exact⟨.exit i,env1,h1,by rw[eq,x];simp only[this,cond_false],q⟩
  |_=>exact⟨_,env1,h1,by rw[eq,x],q⟩
theorem yb(l:List IStep)(Q:Ex→T V→Heap→Prop):W call (.ops l) env h Q↔WS call l [] env h (Q .norm):=by
 constructor
 ·rintro⟨e,env',h',x,q⟩;have hn:∀(l:List IStep)(loc:List V)(env:T V)(h:Heap),cU call l loc env h=.ok e env' h'→e=.norm:=by
   intro l;induction l with
   |nil=>intro loc env h x;cases x;rfl
   |cons s l ih=>
    intro loc env h x;rw[bU]at x;split at x
    ·split at x
     ·exact ih _ _ _ x
     ·cases x
    ·exact ih _ _ _ x
    ·cases x
  have:=hn _ _ _ _ x;subst this;exact⟨env',h',x,q⟩
 ·rintro⟨env',h',x,q⟩;exact⟨_,_,_,x,q⟩
noncomputable def itr(body:T V→Heap→Out):Nat→T V→Heap→Out
 |0,env,h=>.ok .norm env h
 |n+1,env,h=>match body env h with
  |.ok .norm env h=>itr body n env h
  |r=>r
theorem Dj(body:T V→Heap→Out):∀(a b:Nat)(env:T V)(h:Heap),itr body (a+b) env h=match itr body a env h with
 |.ok .norm env h=>itr body b env h
 |r=>r:=by
 intro a;induction a with
 |zero=>intro b env h;simp[itr]
 |succ a ih=>
  intro b env h;rw[Nat.succ_add];simp only[itr];cases body env h with
  |fail=>rfl
  |ok e env1 h1=>cases e with
   |norm=>exact ih b env1 h1
   |_=>rfl
theorem mR(body:T V→Heap→Out)(k:Nat):∀(env:T V)(h:Heap),dbl body k env h=itr body (2^k) env h:=by
 induction k with
 |zero=>
  intro env h;show body env h=itr body 1 env h;simp only[itr];cases body env h with
  |fail=>rfl
  |ok e env1 h1=>cases e<;>rfl
 |succ k ih=>
  intro env h;show(match dbl body k env h with
   |.ok .norm env h=>dbl body k env h
   |r=>r)=_
  rw[Nat.pow_succ,Nat.mul_two,Dj,ih];cases itr body (2^k) env h with
  |fail=>rfl
  |ok e env1 h1=>cases e with
   |norm=>exact ih env1 h1
   |_=>rfl
def lE(I:Nat→T V→Heap→Prop)(k:Nat)(Q:Ex→T V→Heap→Prop):Ex→T V→Heap→Prop:=fun e env h=>match e with
 |.norm=>∃k',k'<k∧I k' env h
 |e=>Q e env h
theorem aj(I:Nat→T V→Heap→Prop)(k:Nat)(Q:Ex→T V→Heap→Prop):lE I k Q .norm env h↔∃k',k'<k∧I k' env h:=Iff.rfl
theorem nK(I:Nat→T V→Heap→Prop)(k:Nat)(Q:Ex→T V→Heap→Prop):lE I k Q .ret env h↔Q .ret env h:=Iff.rfl
theorem ir(I:Nat→T V→Heap→Prop)(k i:Nat)(Q:Ex→T V→Heap→Prop):lE I k Q (.exit i) env h↔Q (.exit i) env h:=Iff.rfl
theorem lZ(I:Nat→T V→Heap→Prop)(k i:Nat)(Q:Ex→T V→Heap→Prop):lE I k Q (.goto i) env h↔Q (.goto i) env h:=Iff.rfl
theorem EB{body:T V→Heap→Out}(I:Nat→T V→Heap→Prop)(Q:Ex→T V→Heap→Prop)
 (hr:∀k env h,I k env h→∃e env' h',body env h=.ok e env' h'∧lE I k Q e env' h'):
 ∀(n k:Nat)(env:T V)(h:Heap),I k env h→k<n→∃e env' h',itr body n env h=.ok e env' h'∧e≠.norm∧Q e env' h':=by
 intro n;induction n with
 |zero=>intro k env h _ hk;omega
 |succ n ih=>
  intro k env h hI hk;obtain⟨e,env1,h1,x,q⟩:=hr k env h hI;simp only[itr,x];cases e with
  |norm=>
   obtain⟨k',hk',q⟩:=q;exact ih k' env1 h1 q (by omega)
  |_=>exact⟨_,_,_,rfl,by simp,q⟩
theorem aC{body:IC}{Q:Ex→T V→Heap→Prop}(I:Nat→T V→Heap→Prop)(n:Nat)(hn:n<16777216)(h0:I n env h)
 (hr:∀k env h,I k env h→W call body env h (lE I k Q)):W call (.loop body) env h Q:=by
 have eq:evC call (.loop body) env h=match dbl (evC call body) 24 env h with
  |.ok .norm _ _=>.fail
  |r=>r:=rfl
 obtain⟨e,env',h',x,ne,q⟩:=EB I Q hr (2^24) n env h h0 (by simpa using hn);refine⟨e,env',h',?_,q⟩;rw[eq,mR,x];cases e with
 |norm=>exact absurd rfl ne
 |_=>rfl
theorem xZ{c r:IC}{l:Nat}{Q:Ex→T V→Heap→Prop}(I:Nat→T V→Heap→Prop)(n:Nat)(hn:n<16777216)
 (h0:W call c env h (fun e env' h'=>match e with
  |.goto i=>i=l∧I n env' h'
  |e=>Q e env' h'))
 (hr:∀k env h,I k env h→W call r env h (fun e env' h'=>match e with
  |.goto i=>i=l∧∃k',k'<k∧I k' env' h'
  |e=>Q e env' h')):W call (.scope c l r) env h Q:=by
 have eq:evC call (.scope c l r) env h=match evC call c env h with
  |.ok (.goto i) env h=>bif Nat.beq i l then
   (match dbl (fun env h=>match evC call r env h with
    |.ok (.goto i) env h=>bif Nat.beq i l then .ok .norm env h else .ok (.goto i) env h
    |.ok .norm env h=>.ok (.goto l) env h
    |r=>r) 24 env h with
    |.ok .norm _ _=>.fail
    |.ok (.goto i) env h=>bif Nat.beq i l then .ok .norm env h else .fail
    |r=>r)
   else .fail
  |r=>r:=rfl
 obtain⟨e,env1,h1,x,q⟩:=h0;cases e with
 |goto i=>
  obtain⟨rfl,q⟩:=q;obtain⟨e,env',h',y,ne,q⟩:=EB (body:=fun env h=>match evC call r env h with
            |.ok (.goto j) env h=>bif Nat.beq j i then .ok .norm env h else .ok (.goto j) env h
            |.ok .norm env h=>.ok (.goto i) env h
            |r=>r) I (fun e env' h'=>match e with
             |.goto j=>j=i∧Q .norm env' h'
             |e=>Q e env' h') (fun k env h hI=>by
   obtain⟨e,env2,h2,z,q⟩:=hr k env h hI;simp only[z];cases e with
   |norm=>exact⟨_,_,_,rfl,rfl,q⟩
   |goto j=>
    obtain⟨rfl,k',hk,q⟩:=q;exact⟨.norm,env2,h2,by simp,k',hk,q⟩
   |_=>exact⟨_,_,_,rfl,q⟩) (2^24) n env1 h1 q (by simpa using hn)
  cases e with
  |norm=>exact absurd rfl ne
  |goto j=>
   obtain⟨rfl,q⟩:=q;refine⟨.norm,env',h',?_,q⟩;rw[eq,x];simp only[Nat.beq_refl,cond_true,mR];rw[y];simp
  |ret=>
   refine⟨.ret,env',h',?_,q⟩;rw[eq,x];simp only[Nat.beq_refl,cond_true,mR];rw[y]
  |exit j=>
   refine⟨.exit j,env',h',?_,q⟩;rw[eq,x];simp only[Nat.beq_refl,cond_true,mR];rw[y]
 |norm=>exact⟨_,_,_,by rw[eq,x],q⟩
 |ret=>exact⟨_,_,_,by rw[eq,x],q⟩
 |exit j=>exact⟨_,_,_,by rw[eq,x],q⟩
theorem De(l:List IStep):∀(i:Nat)(loc:List V)(h:Heap),lay call env [] l i loc h=some (l.map fun s=>(s,none),h):=by
 induction l with
 |nil=>intro i loc h;rfl
 |cons s l ih=>intro i loc h;simp[lay,ih]
def WD(call:aD)(env:T V)(l:List DS)(loc:List V)(hs:List Heap)(h:Heap)(K:List V→List Heap→Prop):Prop:=
 ∃loc' hs',fE call env l loc hs h=some (loc',hs')∧K loc' hs'
theorem Ci(hs:List Heap)(K:List V→List Heap→Prop):WD call env [] loc hs h K↔K loc hs:=
 ⟨fun⟨_,_,e,k⟩=>by cases e;exact k,fun k=>⟨_,_,rfl,k⟩⟩
def kd(call:aD)(env:T V)(l:List DS)(loc:List V)(hs:List Heap)(h:Heap)(e:Bool)(K:List V→List Heap→Prop):V→Heap→Prop:=fun v h'=>
 if e=true then WD call env l (v::loc) (h'::hs) h' K else WD call env l (v::loc) hs h K
theorem Hh(l:List DS)(hs:List Heap)(h0:Heap)(K:List V→List Heap→Prop)(v:V):kd call env l loc hs h0 true K v h↔WD call env l (v::loc) (h::hs) h K:=by simp[kd]
theorem Hi(l:List DS)(hs:List Heap)(h0:Heap)(K:List V→List Heap→Prop)(v:V):kd call env l loc hs h0 false K v h↔WD call env l (v::loc) hs h0 K:=by simp[kd]
theorem Hx(o:IOp)(l:List DS)(hs:List Heap)(K:List V→List Heap→Prop):WD call env ((⟨none,o,none⟩,none)::l) loc hs h K↔
 OQ (aK call loc env h o) (kd call env l loc hs h (eff o) K):=by
 simp only[WD,fk,evG,OQ,kd];cases aK call loc env h o with
 |none=>simp
 |some r=>obtain⟨v,h'⟩:=r;cases eff o<;>simp[and_assoc]
def GD(o:Option V)(want:Bool)(call:aD)(env:T V)(p:IOp)(l:List DS)(loc:List V)(hs:List Heap)(h:Heap)(e:Bool)(K:List V→List Heap→Prop):Prop:=
 GQ o want (OQ (aK call loc env h p) (kd call env l loc hs h e K)) (if e=true then WD call env l (.tup []::loc) (h::hs) h K else WD call env l (.tup []::loc) hs h K)
theorem yl(b want:Bool)(p:IOp)(l:List DS)(hs:List Heap)(e:Bool)(K:List V→List Heap→Prop):GD (some (.bool b)) want call env p l loc hs h e K↔
 if b=want then OQ (aK call loc env h p) (kd call env l loc hs h e K)else(if e=true then WD call env l (.tup []::loc) (h::hs) h K else WD call env l (.tup []::loc) hs h K):=k8 _ _ _ _
theorem CG(t:List V)(want:Bool)(p:IOp)(l:List DS)(hs:List Heap)(e:Bool)(K:List V→List Heap→Prop):GD (some (.tup t)) want call env p l loc hs h e K↔
 (if e=true then WD call env l (.tup []::loc) (h::hs) h K else WD call env l (.tup []::loc) hs h K):=wS _ _ _ _
theorem Hy(x:Opd)(want:Bool)(o:IOp)(l:List DS)(hs:List Heap)(K:List V→List Heap→Prop):WD call env ((⟨some (x,want),o,none⟩,none)::l) loc hs h K↔
 GD (evO loc env x) want call env o l loc hs h (eff o) K:=by
 simp only[WD,fk,evG,OQ,GQ,GD,kd];cases evO loc env x with
 |none=>simp
 |some b=>
  cases b with
  |bool b=>
   have hb:(!(xor b want))=decide (b=want):=by cases b<;>cases want<;>rfl
   simp only[hb];by_cases hw:b=want
   ·simp only[hw,decide_true];cases aK call loc env h o with
    |none=>simp
    |some r=>obtain⟨v,h'⟩:=r;cases eff o<;>simp[and_assoc]
   ·simp only[hw,decide_false];cases eff o<;>simp[hw]
  |tup t=>cases eff o<;>simp
  |_=>simp
theorem c7(s:IStep)(u:V)(c:List V)(l:List DS)(hs:List Heap)(K:List V→List Heap→Prop):WD call env ((s,some (u,c))::l) loc hs h K↔
 bI loc env s.op u c=true∧WD call env l (u::loc) hs h K:=by
 simp only[WD,fk];cases bI loc env s.op u c<;>simp
def DE(call:aD)(l:List IStep)(reads:List (Nat×Nat×Nat))(sets:List (Nat×Nat))(env:T V)(Q:T V→Heap→Prop)(loc:List V)(hs:List Heap):Prop:=
 reads.all (jT call env l loc hs)=true∧∃env' h' hs',fG l.length loc sets env=some env'∧hs=h'::hs'∧Q env' h'
theorem DV(l:List IStep)(late B R:List Nat)(reads:List (Nat×Nat×Nat))(sets:List (Nat×Nat))(Q:Ex→T V→Heap→Prop){dl:List DS}{h1:Heap}(hl:lay call env late l 0 [] h=some (dl,h1)):
 WD call env dl [] [h1] h1 (DE call l reads sets env (Q .norm))→W call (.dops l late B R reads sets) env h Q:=by
 rintro⟨loc,hs,e,hr,env',h',hs',hset,rfl,q⟩;refine⟨.norm,env',h',?_,q⟩;show evD call l late reads sets env h=_;unfold evD;simp only[hl,e,hr,cond_true,hset]
theorem qd(o:IOp)(v:V):eQ call loc env o v []=true↔True:=by simp[eQ]
def kr(v:V):V→Heap→Prop:=fun u _=>vEq u v=true
theorem AW(v u:V):kr v u h↔vEq u v=true:=Iff.rfl
theorem nL(o:IOp)(v:V)(hs:List Heap):eQ call loc env o v (h::hs)=true↔OQ (aK call loc env h o) (kr v)∧eQ call loc env o v hs=true:=by
 simp only[eQ,OQ,Bool.and_eq_true,kr];cases aK call loc env h o with
 |none=>simp
 |some r=>obtain⟨u,h'⟩:=r;simp[and_assoc]
mutual
theorem du:∀(v:V),vEq v v=true
 |.bool b=>by cases b<;>rfl
 |.int k n=>by simp only[vEq,dR];cases k<;>simp[j3]
 |.str s=>by simp[vEq]
 |.nilp=>rfl
 |.ptr _ _=>by simp[vEq]
 |.nils=>rfl
 |.slice _ _ _ _=>by simp[vEq]
 |.sliceU _ _ _ _=>by simp[vEq]
 |.sliceE=>rfl
 |.nilm=>rfl
 |.map _=>by simp[vEq]
 |.yld _=>by simp[vEq]
 |.sliceZ _ _=>by simp[vEq]
 |.nilf=>rfl
 |.func _ a c=>by simp[vEq,dh a,dh c]
 |.nili=>rfl
 |.iface _ v=>by simp[vEq,du v]
 |.agg l=>by simp[vEq,dh l]
 |.tup l=>by simp[vEq,dh l]
theorem dh:∀(v:List V),jP v v=true
 |[]=>rfl
 |v::l=>by simp[jP,du v,dh l]
end
theorem pS(n:Nat):fG n loc [] env=some env:=rfl
theorem vR(n s i:Nat)(r:List (Nat×Nat)):fG n loc ((s,i)::r) env=match nth loc (n-i-1)with
 |some v=>fG n loc r (env.set s v)
 |none=>none:=by
 rw[iw];rfl
def ao(call:aD)(f:Nat)(vs:List V)(h:Heap)(R:V→Heap→Prop):Prop:=OQ (call f vs h) R
theorem aa{f:Nat}{vs:List V}{R K:V→Heap→Prop}(d:ao call f vs h R)(k:∀v h',R v h'→K v h'):OQ (call f vs h) K:=d.mono k
def RsQ(o:Option (List V))(R:V→Heap→Prop)(h:Heap):Prop:=∃vs,o=some vs∧R (nP vs) h
theorem kY(vs:List V)(R:V→Heap→Prop):RsQ (some vs) R h↔R (nP vs) h:=
 ⟨fun⟨_,e,k⟩=>by cases e;exact k,fun k=>⟨vs,rfl,k⟩⟩
def gA(rs:List RV)(R:V→Heap→Prop):Ex→T V→Heap→Prop:=fun e env h=>(e=.norm∨e=.ret)∧RsQ (dS env h rs) R h
theorem rj(rs:List RV)(R:V→Heap→Prop):gA rs R .norm env h↔RsQ (dS env h rs) R h:=by simp[gA]
theorem kZ(rs:List RV)(R:V→Heap→Prop):gA rs R .ret env h↔RsQ (dS env h rs) R h:=by simp[gA]
theorem kL:dS env h []=some []:=rfl
theorem sB(s:Nat)(rs:List RV):dS env h (.t s::rs)=iK (env.get s) (dS env h rs):=by
 simp only[dS,evR];cases env.get s with
 |none=>rfl
 |some v=>cases dS env h rs<;>rfl
theorem Bo(s n:Nat)(ia:Bool)(rs:List RV):dS env h (.c s n ia::rs)=iK ((env.get s).bind fun v=>gy h n ia v) (dS env h rs):=by
 simp only[dS,evR];cases env.get s with
 |none=>rfl
 |some p=>
  simp only[Option.bind_some];cases gy h n ia p with
  |none=>rfl
  |some v=>cases dS env h rs<;>rfl
theorem qh:nP []=.tup []:=rfl
theorem iY(v:V):nP [v]=v:=rfl
theorem qg(v u:V)(l:List V):nP (v::u::l)=.tup (v::u::l):=rfl
theorem ah{ov:aD}{F:T IFn}{f:Nat}{fn:IFn}{vs:List V}{R:V→Heap→Prop}(hf:F.get f=some fn)(hn:Nat.beq vs.length fn.nargs=true)
 (hw:W (ev ov F) fn.body (eS vs 0 .e) h (gA fn.results R)):ao (ev ov F) f vs h R:=by
 obtain⟨e,env',h',x,he,rs,hr,q⟩:=hw;exact⟨_,_,Dz hf hn x he hr,q⟩
end
theorem bF(k:IntKind):j3 k k=true:=by simp[j3]
theorem xQ(x:V):aP .mv [x]=some x:=rfl
theorem xO(c:Bool)(a b:V):aP .pick [.bool c,a,b]=some (bif c then a else b):=rfl
theorem pq(b o:Nat):aP .nilck [.ptr b o]=some (.ptr b o):=rfl
theorem qU(f:Nat)(x y:List V):aP .nilck [.func (.func f) x y]=some (.func (.func f) x y):=rfl
theorem Ca(k:IntKind)(a b:Int):aP (.ib .add) [.int k a,.int k b]=some (.int k (bC k (a+b))):=by simp only[aP,bF,cond_true,fQ];rfl
theorem BP(k:IntKind)(a b:Int):aP (.ib .sub) [.int k a,.int k b]=some (.int k (bC k (a-b))):=by simp only[aP,bF,cond_true,fQ];rfl
theorem wN(k:IntKind)(a b:Int):aP (.ib .mul) [.int k a,.int k b]=some (.int k (bC k (a*b))):=by simp only[aP,bF,cond_true,fQ];rfl
theorem lT(k:IntKind)(a b:Int)(h:b≠0):aP (.ib .quo) [.int k a,.int k b]=some (.int k (bC k (a.tdiv b))):=by
 have:ieq b 0=false:=by rw[dR];simpa using h
 simp only[aP,bF,cond_true,fQ,this,cond_false]
theorem ke(k:IntKind)(a b:Int)(h:b≠0):aP (.ib .rem) [.int k a,.int k b]=some (.int k (a.tmod b)):=by
 have:ieq b 0=false:=by rw[dR];simpa using h
 simp only[aP,bF,cond_true,fQ,this,cond_false]
theorem wO(k:IntKind)(a b:Int):aP (.ib .eql) [.int k a,.int k b]=some (.bool (decide (a=b))):=by simp only[aP,bF,cond_true,fQ,dR];rfl
theorem BU(k:IntKind)(a b:Int):aP (.ib .neq) [.int k a,.int k b]=some (.bool (!decide (a=b))):=by simp only[aP,bF,cond_true,fQ,dR];rfl
theorem BX(k:IntKind)(a b:Int):aP (.ib .lss) [.int k a,.int k b]=some (.bool (decide (a<b))):=by simp only[aP,bF,cond_true,fQ,fP]
theorem B1(k:IntKind)(a b:Int):aP (.ib .gtr) [.int k a,.int k b]=some (.bool (decide (b<a))):=by simp only[aP,bF,cond_true,fQ,fP]
theorem BY(k:IntKind)(a b:Int):aP (.ib .leq) [.int k a,.int k b]=some (.bool (decide (a≤b))):=by
 simp only[aP,bF,cond_true,fQ,fP];congr 2;rw[Bool.eq_iff_iff];simp
theorem B3(k:IntKind)(a b:Int):aP (.ib .geq) [.int k a,.int k b]=some (.bool (decide (b≤a))):=by
 simp only[aP,bF,cond_true,fQ,fP];congr 2;rw[Bool.eq_iff_iff];simp
theorem BT(b:Bool):aP .not [.bool b]=some (.bool (!b)):=rfl
theorem BV(k:IntKind)(n:Int):aP .neg [.int k n]=some (.int k (bC k (0-n))):=rfl
theorem B6(a b:Bool):aP (.bb false) [.bool a,.bool b]=some (.bool (decide (a=b))):=by cases a<;>cases b<;>rfl
theorem B5(a b:Bool):aP (.bb true) [.bool a,.bool b]=some (.bool (!decide (a=b))):=by cases a<;>cases b<;>rfl
theorem gz(off b o:Nat):aP (.faddr off) [.ptr b o]=some (.ptr b (o+off)):=rfl
theorem B4(i:Nat)(l:List V):aP (.ext i) [.tup l]=nth l i:=rfl
theorem qZ(off n:Nat)(l:List V):aP (.field off n false) [.agg l]=nth l off:=rfl
theorem qY(off n:Nat)(l:List V):aP (.field off n true) [.agg l]=(cJ n (eM l off)).map .agg:=rfl
theorem BW(fn:Fn)(n:Nat)(vs:List V):aP (.mkf fn n) vs=(cJ n vs).map fun f=>.func fn f (eM vs n):=rfl
theorem vw(zero:List V)(places:List (Nat×Nat))(vs:List V):aP (.build zero places) vs=(cZ zero places vs).map .agg:=rfl
theorem ER(k k':IntKind)(a b:Int):aP .mn [.int k a,.int k' b]=some (.int k (min a b)):=by
 simp only[aP,fP];congr 2;by_cases h:b<a
 ·simp only[h,decide_true,cond_true];omega
 ·simp only[h,decide_false,cond_false];omega
theorem EP(k k':IntKind)(a b:Int):aP .mx [.int k a,.int k' b]=some (.int k (max a b)):=by
 simp only[aP,fP];congr 2;by_cases h:a<b
 ·simp only[h,decide_true,cond_true];omega
 ·simp only[h,decide_false,cond_false];omega
theorem xV(k k':IntKind)(n:Int):aP (.conv k) [.int k' n]=some (.int k (bC k n)):=rfl
theorem xT:aP .lenS [.nils]=some (.int .i64 0):=rfl
theorem tf(b o len cap:Nat):aP .lenS [.slice b o len cap]=some (.int .i64 len):=rfl
theorem xR(b o len cap:Nat):aP .lenS [.sliceU b o len cap]=some (.int .i64 len):=rfl
theorem xU:aP .lenS [.sliceE]=some (.int .i64 0):=rfl
theorem qX(n:Nat)(v:V):aP (.lenArr n) [v]=some (.int .i64 n):=rfl
theorem xX:aP .capS [.nils]=some (.int .i64 0):=rfl
theorem xW(b o len cap:Nat):aP .capS [.slice b o len cap]=some (.int .i64 cap):=rfl
theorem fC(esz b o len cap:Nat)(k:IntKind)(i:Int)(h0:0≤i)(h1:i<len):aP (.ixs esz) [.slice b o len cap,.int k i]=some (.ptr b (o+i.toNat*esz)):=by
 obtain⟨n,rfl⟩:∃n:Nat,i=n:=⟨i.toNat,by omega⟩;have:Nat.blt n len=true:=by simp only[Nat.blt_eq];omega
 simp only[aP,iQ];show Option.map _ (bif Nat.blt n len then some n else none)=_;rw[this];rfl
theorem kg(esz b o len cap:Nat)(k:IntKind)(i:Int)(h0:0≤i)(h1:i<len):aP (.ixs esz) [.sliceU b o len cap,.int k i]=some (.ptr b (o+i.toNat*esz)):=by
 obtain⟨n,rfl⟩:∃n:Nat,i=n:=⟨i.toNat,by omega⟩;have:Nat.blt n len=true:=by simp only[Nat.blt_eq];omega
 simp only[aP,iQ];show Option.map _ (bif Nat.blt n len then some n else none)=_;rw[this];rfl
theorem ti(esz b o len:Nat)(k:IntKind)(i:Int)(h0:0≤i)(h1:i<len):aP (.ixa len esz) [.ptr b o,.int k i]=some (.ptr b (o+i.toNat*esz)):=by
 obtain⟨n,rfl⟩:∃n:Nat,i=n:=⟨i.toNat,by omega⟩;have:Nat.blt n len=true:=by simp only[Nat.blt_eq];omega
 simp only[aP,iQ];show Option.map _ (bif Nat.blt n len then some n else none)=_;rw[this];rfl
theorem FY(k k':IntKind)(a b:Int)(h:0≤b):aP (.sh true) [.int k a,.int k' b]=some (.int k (bC k (a*(2^(min b.toNat k.bits):Nat)))):=by
 obtain⟨n,rfl⟩:∃n:Nat,b=n:=⟨b.toNat,by omega⟩;rfl
theorem wM(k k':IntKind)(a b:Int)(h:0≤b):aP (.sh false) [.int k a,.int k' b]=some (.int k (a.fdiv (2^(min b.toNat k.bits):Nat))):=by
 obtain⟨n,rfl⟩:∃n:Nat,b=n:=⟨b.toNat,by omega⟩;rfl
def pv:Option Nat→V
 |none=>.nilp
 |some b=>.ptr b 0
theorem gK:pv none=.nilp:=rfl
theorem aO(b:Nat):pv (some b)=.ptr b 0:=rfl
theorem aL(o:Option Nat):(pv o).one=true:=by cases o<;>rfl
theorem aB{v:V}(h:v.one=true):v.cells=[v]:=by cases v<;>first|rfl|(simp[V.one]at h)
theorem tW(o:Option Nat):(pv o).cells=[pv o]:=aB (aL o)
theorem xP(ne:Bool)(o:Option Nat):aP (.nil 0 ne) [pv o,.nilp]=some (.bool (bif ne then o.isSome else o.isNone)):=by cases o<;>cases ne<;>rfl
theorem qV(b o:Nat)(ne:Bool):aP (.nil 0 ne) [.ptr b o,.nilp]=some (.bool ne):=by cases ne<;>rfl
theorem qW(ne:Bool):aP (.nil 0 ne) [.nilp,.nilp]=some (.bool (!ne)):=by cases ne<;>rfl
theorem qS(c:List V):cZ c [] []=some c:=rfl
theorem wG(c:List V)(off size:Nat)(ps:List (Nat×Nat))(v:V)(vs:List V)(h:v.cells.length=size)(h0:0<size):
 cZ c ((off,size)::ps) (v::vs)=(aY c off v.cells).bind fun c'=>cZ c' ps vs:=by
 subst h;simp only[cZ];have:Nat.blt 0 v.cells.length=true:=by simpa[Nat.blt_eq]using h0
 rw[this];simp only[Nat.beq_refl,Bool.and_self,cond_true];cases aY c off v.cells<;>rfl
theorem xM(c:List V)(off size:Nat)(ps:List (Nat×Nat))(v:V)(vs:List V):
 cZ c ((off,size)::ps) (v::vs)=if v.cells.length=size then if 0<size then(aY c off v.cells).bind fun c'=>cZ c' ps vs else none else none:=by
 by_cases h:v.cells.length=size
 ·rw[if_pos h];by_cases h0:0<size
  ·rw[if_pos h0,wG _ _ _ _ _ _ h h0]
  ·rw[if_neg h0];have:Nat.blt 0 size=false:=by cases hb:Nat.blt 0 size;rfl;rw[Nat.blt_eq]at hb;exact absurd hb h0
   simp[cZ,this]
 ·rw[if_neg h];have:Nat.beq v.cells.length size=false:=by cases hb:Nat.beq v.cells.length size;rfl;exact absurd (Nat.eq_of_beq_eq_true hb) h
  simp[cZ,this]
theorem qL(k:IntKind)(n:Int):(V.int k n).cells=[.int k n]:=rfl
theorem oZ(b:Bool):(V.bool b).cells=[.bool b]:=rfl
theorem qI(b:List UInt8):(V.str b).cells=[.str b]:=rfl
theorem qJ(b o:Nat):(V.ptr b o).cells=[.ptr b o]:=rfl
theorem oW:V.nilp.cells=[.nilp]:=rfl
theorem oV:V.nils.cells=[.nils]:=rfl
theorem mB(b o l c:Nat):(V.slice b o l c).cells=[.slice b o l c]:=rfl
theorem kS(b o l c:Nat):(V.sliceU b o l c).cells=[.sliceU b o l c]:=rfl
theorem oY(f:Fn)(a b:List V):(V.func f a b).cells=[.func f a b]:=rfl
theorem oX:V.nilf.cells=[.nilf]:=rfl
theorem qM(l:List V):(V.agg l).cells=l:=rfl
theorem ai(n:Int)(h1:-9223372036854775808≤n)(h2:n≤9223372036854775807):bC .i64 n=n:=by
 rw[dd];simp only[IntKind.wrap,IntKind.bits,IntKind.signed];simp;omega
theorem Bd(n:Int)(h1:0≤n)(h2:n≤255):bC .u8 n=n:=by
 rw[dd];simp only[IntKind.wrap,IntKind.bits,IntKind.signed];simp;omega
theorem cP(n:Int)(h1:0≤n)(h2:n≤18446744073709551615):bC .u64 n=n:=by
 rw[dd];simp only[IntKind.wrap,IntKind.bits,IntKind.signed];simp;omega
def WF(h:Heap):Prop:=∀p,h.next≤p→h.bl.get p=none∧h.fams.get p=none
def Own(h:Heap)(b:Nat)(c:List V):Prop:=∃f k,h.bl.get b=some (.row c f k)∧((h.fams.get f=none∧f=b)∨∃e,h.fams.get f=some (b,e))
theorem Own.uniq{h:Heap}{b:Nat}{c c':List V}(a:Own h b c)(a':Own h b c'):c=c':=by
 obtain⟨f,k,e,_⟩:=a;obtain⟨f',k',e',_⟩:=a';rw[e]at e';cases e';rfl
theorem Own.lt{h:Heap}{b:Nat}{c:List V}(a:Own h b c)(w:WF h):b<h.next:=by
 obtain⟨f,k,e,_⟩:=a;rcases Nat.lt_or_ge b h.next with x|x
 ·exact x
 ·rw[(w b x).1]at e;cases e
theorem Own.cells{h:Heap}{b:Nat}{c:List V}(a:Own h b c):cW h b=some c:=by
 obtain⟨f,k,e,x⟩:=a;simp only[cW,e,rd];rcases x with⟨x,rfl⟩|⟨e',x⟩
 ·rw[x];rfl
 ·rw[x];simp
theorem Own.ld1{h:Heap}{b:Nat}{c:List V}(a:Own h b c)(o:Nat):ag h b o=nth c o:=by
 simp only[ag,a.cells]
theorem Own.ld{h:Heap}{b:Nat}{c:List V}(a:Own h b c)(o n:Nat):ak h b o n=cJ n (eM c o):=by
 simp only[ak,a.cells]
theorem eg(h:Heap)(n b o:Nat):gy h n false (.ptr b o)=ag h b o:=rfl
theorem j9(h:Heap)(n b o:Nat):gy h n true (.ptr b o)=(ak h b o n).map .agg:=rfl
theorem bV(l:List V):eM l 0=l:=by rw[bq];rfl
theorem oP(v:V)(l:List V)(n:Nat):eM (v::l) (n+1)=eM l n:=rfl
def Pl(h:Heap)(b:Nat)(c:List V):Prop:=(∃k,h.bl.get b=some (.row c b k))∧h.fams.get b=none
theorem Pl.own{h:Heap}{b:Nat}{c:List V}(a:Pl h b c):Own h b c:=by
 obtain⟨⟨k,e⟩,f⟩:=a;exact⟨b,k,e,.inl ⟨f,rfl⟩⟩
def Dl:Blk→Bool
 |.lp _ _ _ _ _ _=>true
 |.mp _ _=>true
 |_=>false
def Rs(h:Heap)(b:Nat)(c:List V):Prop:=∃f k ow,h.bl.get b=some (.row c f k)∧h.fams.get f=some (ow,k)∧h.bl.get ow=none∧ow<h.next
theorem Rs.set{h:Heap}{b:Nat}{c:List V}(r:Rs h b c){b':Nat}{c0 c1:List V}{f0 k0 k1:Nat}(e:h.bl.get b'=some (.row c0 f0 k0))(x:(h.fams.get f0=none)∨∃e',h.fams.get f0=some (b',e'))(F':T (Nat×Nat))(hF:F'=h.fams∨∃y,F'=h.fams.set f0 y)(n':Nat)(hn:h.next≤n'):
 Rs ⟨h.bl.set b' (.row c1 f0 k1),n',F'⟩ b c:=by
 obtain⟨f,k,ow,e1,e2,e3,e4⟩:=r;have hff:f≠f0:=by
  rintro rfl;rcases x with x|⟨e',x⟩
  ·rw[e2]at x;cases x
  ·rw[e2]at x;cases x;rw[e3]at e;cases e
 have hb:b≠b':=by rintro rfl;rw[e1]at e;cases e;exact hff rfl
 have ho:ow≠b':=by rintro rfl;rw[e3]at e;cases e
 refine⟨f,k,ow,?_,?_,?_,by show ow<n';omega⟩
 ·show(h.bl.set b' _).get b=_;rw[T.get_set_ne _ _ hb];exact e1
 ·show F'.get f=_;rcases hF with rfl|⟨y,rfl⟩
  ·exact e2
  ·rw[T.get_set_ne _ _ hff];exact e2
 ·show(h.bl.set b' _).get ow=_;rw[T.get_set_ne _ _ ho];exact e3
theorem Rs.new{h:Heap}{b:Nat}{c:List V}(r:Rs h b c)(w:WF h)(k:Blk):Rs ⟨h.bl.set h.next k,h.next+1,h.fams⟩ b c:=by
 obtain⟨f,k',ow,e1,e2,e3,e4⟩:=r;have hb:b≠h.next:=by rintro rfl;rw[(w _ (Nat.le_refl _)).1]at e1;cases e1
 refine⟨f,k',ow,?_,e2,?_,by show ow<h.next+1;omega⟩
 ·show(h.bl.set _ _).get b=_;rw[T.get_set_ne _ _ hb];exact e1
 ·show(h.bl.set _ _).get ow=_;rw[T.get_set_ne _ _ (by omega)];exact e3
structure Fr(S:List Nat)(h h':Heap):Prop where
 next:h.next≤h'.next
 wf:WF h'
 own:∀b c,b∉S→Own h b c→Own h' b c
 pl:∀b c,b∉S→Pl h b c→Pl h' b c
 lp:∀b x,Dl x=true→h.bl.get b=some x→h'.bl.get b=some x
 ro:∀b c,Rs h b c→Rs h' b c
theorem Fr.refl{S:List Nat}{h:Heap}(w:WF h):Fr S h h:=⟨Nat.le_refl _,w,fun _ _ _ x=>x,fun _ _ _ x=>x,fun _ _ _ x=>x,fun _ _ x=>x⟩
theorem Fr.trans{S S' T:List Nat}{h h1 h2:Heap}(a:Fr S h h1)(b:Fr S' h1 h2)(w:WF h)(hs:∀x,x∈S→x∈T∨h.next≤x)(hs':∀x,x∈S'→x∈T∨h.next≤x):Fr T h h2 where
 next:=Nat.le_trans a.next b.next
 wf:=b.wf
 lp:=fun x k hk o=>b.lp x k hk (a.lp x k hk o)
 ro:=fun x c r=>b.ro x c (a.ro x c r)
 own:=fun x c hx o=>by
  have:=o.lt w;refine b.own x c (fun m=>?_) (a.own x c (fun m=>?_) o)
  ·rcases hs' x m with y|y
   ·exact hx y
   ·omega
  ·rcases hs x m with y|y
   ·exact hx y
   ·omega
 pl:=fun x c hx o=>by
  have:=o.own.lt w;refine b.pl x c (fun m=>?_) (a.pl x c (fun m=>?_) o)
  ·rcases hs' x m with y|y
   ·exact hx y
   ·omega
  ·rcases hs x m with y|y
   ·exact hx y
   ·omega
theorem Fr.then{h h1 h2:Heap}(a:Fr [] h h1)(b:Fr [] h1 h2):Fr [] h h2 where
 next:=Nat.le_trans a.next b.next
 wf:=b.wf
 lp:=fun x k hk o=>b.lp x k hk (a.lp x k hk o)
 ro:=fun x c r=>b.ro x c (a.ro x c r)
 own:=fun x c _ o=>b.own x c (by simp) (a.own x c (by simp) o)
 pl:=fun x c _ o=>b.pl x c (by simp) (a.pl x c (by simp) o)
theorem Fr.get{h h':Heap}(a:Fr [] h h'){b:Nat}{c:List V}(o:Own h b c):Own h' b c:=a.own b c (by simp) o
theorem WF.halloc{h:Heap}(w:WF h)(c:List V):WF (halloc h c):=by
 intro p hp;have hp':h.next+1≤p:=hp;have:=w p (by omega);exact⟨by show(h.bl.set _ _).get p=none;rw[T.get_set_ne _ _ (by omega)];exact this.1,this.2⟩
theorem Own.new{h:Heap}(w:WF h)(c:List V):Own (halloc h c) h.next c:=
 ⟨h.next,0,T.get_set_self _ _ _,.inl ⟨(w h.next (Nat.le_refl _)).2,rfl⟩⟩
theorem Own.halloc{h:Heap}{b:Nat}{c:List V}(o:Own h b c)(w:WF h)(d:List V):Own (halloc h d) b c:=by
 have:=o.lt w;obtain⟨f,k,e,x⟩:=o;exact⟨f,k,by show(h.bl.set _ _).get b=_;rw[T.get_set_ne _ _ (by omega)];exact e,x⟩
theorem Fr.halloc{h:Heap}(w:WF h)(c:List V):Fr [] h (halloc h c):=⟨Nat.le_succ _,w.halloc c,fun _ _ _ o=>o.halloc w c,fun b d _ o=>by
 have:=o.own.lt w;obtain⟨⟨k,e⟩,f⟩:=o;exact⟨⟨k,by show(h.bl.set _ _).get b=_;rw[T.get_set_ne _ _ (by omega)];exact e⟩,f⟩,fun b x _ e=>by
 have:b≠h.next:=by rintro rfl;rw[(w _ (Nat.le_refl _)).1]at e;cases e
 show(h.bl.set _ _).get b=_;rw[T.get_set_ne _ _ this];exact e,fun b x r=>r.new w _⟩
theorem iF(h:Heap)(c:List V):(Ev.halloc h c).next=h.next+1:=rfl
theorem hnx{h h1:Heap}{c:List V}(e:h1=Ev.halloc h c):h1.next=h.next+1:=by rw[e];rfl
attribute [simp] T.get_set
theorem lG{h:Heap}{b o:Nat}{c c' vs:List V}(w:WF h)(a:Own h b c)(h1:aq vs=true)(hu:aY c o vs=some c'):
 ∃h',cG h b o vs=some h'∧Own h' b c'∧Fr [b] h h'∧h'.next=h.next:=by
 have hb:=a.lt w;obtain⟨f,k,e,x⟩:=a;simp only[cG,e,h1,cond_true,hu];rcases x with⟨x,rfl⟩|⟨e',x⟩
 ·rw[x];refine⟨_,rfl,⟨f,k,T.get_set_self _ _ _,.inl ⟨x,rfl⟩⟩,⟨Nat.le_refl _,?_,?_,?_,fun q y hy ey=>by
   have:q≠f:=by intro eq;rw[eq,e]at ey;cases ey;cases hy
   show(h.bl.set _ _).get q=_;rw[T.get_set_ne _ _ this];exact ey,fun q y r=>r.set e (.inl x) _ (.inl rfl) _ (Nat.le_refl _)⟩,rfl⟩
  ·intro p hp;have hp':h.next≤p:=hp;have:=w p hp';exact⟨by show(h.bl.set _ _).get p=none;rw[T.get_set_ne _ _ (by omega)];exact this.1,this.2⟩
  ·rintro q d hq ⟨f1,k1,e1,x1⟩;simp at hq;exact⟨f1,k1,by show(h.bl.set _ _).get q=_;rw[T.get_set_ne _ _ hq];exact e1,x1⟩
  ·rintro q d hq ⟨⟨k1,e1⟩,x1⟩;simp at hq;exact⟨⟨k1,by show(h.bl.set _ _).get q=_;rw[T.get_set_ne _ _ hq];exact e1⟩,x1⟩
 ·rw[x];simp only[Nat.beq_refl,cond_true];refine⟨_,rfl,⟨f,k,T.get_set_self _ _ _,.inr ⟨e'+1,T.get_set_self _ _ _⟩⟩,⟨Nat.le_refl _,?_,?_,?_,fun q y hy ey=>by
   have:q≠b:=by intro eq;rw[eq,e]at ey;cases ey;cases hy
   show(h.bl.set _ _).get q=_;rw[T.get_set_ne _ _ this];exact ey,fun q y r=>r.set e (.inr ⟨_,x⟩) _ (.inr ⟨_,rfl⟩) _ (Nat.le_refl _)⟩,rfl⟩
  ·intro p hp;have hp':h.next≤p:=hp;have:=w p hp';refine⟨by show(h.bl.set _ _).get p=none;rw[T.get_set_ne _ _ (by omega)];exact this.1,?_⟩;show(h.fams.set _ _).get p=none;by_cases hpf:p=f
   ·subst hpf;rw[this.2]at x;cases x
   ·rw[T.get_set_ne _ _ hpf];exact this.2
  ·rintro q d hq ⟨f1,k1,e1,x1⟩;simp at hq;refine⟨f1,k1,by show(h.bl.set _ _).get q=_;rw[T.get_set_ne _ _ hq];exact e1,?_⟩;have hf:f1≠f:=by
    rintro rfl;rcases x1 with⟨x1,_⟩|⟨e2,x1⟩
    ·rw[x]at x1;cases x1
    ·rw[x]at x1;cases x1;exact hq rfl
   show((h.fams.set f (b,e'+1)).get f1=none∧_)∨∃e,(h.fams.set f (b,e'+1)).get f1=some (q,e);rw[T.get_set_ne _ _ hf];exact x1
  ·rintro q d hq ⟨⟨k1,e1⟩,x1⟩;simp at hq;refine⟨⟨k1,by show(h.bl.set _ _).get q=_;rw[T.get_set_ne _ _ hq];exact e1⟩,?_⟩;show(h.fams.set f (b,e'+1)).get q=none;rw[T.get_set_ne _ _ (by rintro rfl;rw[x]at x1;cases x1)];exact x1
theorem wF{h:Heap}{n b o:Nat}{v:V}(e:v.cells.length=n):gW h n (.ptr b o) v=cG h b o v.cells:=by
 subst e;simp[gW]
theorem ab{h:Heap}{n b o:Nat}{v:V}{c c':List V}{K:V→Heap→Prop}(w:WF h)(a:Own h b c)(e:v.cells.length=n)(h1:aq v.cells=true)(hu:aY c o v.cells=some c')
 (k:∀h',Own h' b c'→Fr [b] h h'→h'.next=h.next→K (.tup []) h'):HQ (gW h n (.ptr b o) v) K:=by
 obtain⟨h',e1,o1,f1,n1⟩:=lG w a h1 hu;exact⟨h',by rw[wF e];exact e1,k h' o1 f1 n1⟩
theorem bE:∀(c:List V)(o:Nat)(vs:List V),o+vs.length≤c.length→aY c o vs=some (c.take o++vs++c.drop (o+vs.length))
 |[],o,vs,h=>by
  have:vs=[]:=by cases vs<;>simp at h⊢
  subst this;cases o<;>simp[fU]
 |x::l,0,[],h=>by simp[cN]
 |x::l,0,v::vs,h=>by
  rw[aQ,bE l 0 vs (by simp at h⊢;omega)];simp[Nat.add_comm]
 |x::l,o+1,vs,h=>by
  rw[aX,bE l o vs (by simp at h⊢;omega)];simp[Nat.succ_add]
theorem iU(c:List V)(o:Nat)(v:V)(h:o<c.length):aY c o [v]=some (c.set o v):=by
 rw[bE c o [v] (by simp;omega)];congr 1;rw[List.set_eq_take_append_cons_drop,if_pos h];simp
theorem aF:aq []=true:=rfl
theorem aA(v:V)(l:List V):aq (v::l)=(v.one&&aq l):=rfl
theorem aU(c:List V)(n:Nat)(h:n≤c.length):cJ n c=some (c.take n):=by
 induction n generalizing c with
 |zero=>simp[jS]
 |succ n ih=>cases c with
  |nil=>simp at h
  |cons x l=>rw[dV,ih l (by simpa using h)];simp
def Sl(h:Heap)(esz:Nat)(v:V)(n:Nat)(cs:List V):Prop:=
 cs.length=n*esz∧match v with
 |.nils=>n=0
 |.sliceE=>n=0
 |.slice b o len cap=>len=n∧n≤cap∧∃c,Own h b c∧o+n*esz≤c.length∧cs=(c.drop o).take (n*esz)
 |.sliceU b o len e=>len=n∧e=esz∧∃c,Own h b c∧o+n*esz≤c.length∧cs=(c.drop o).take (n*esz)
 |_=>False
theorem Sl.fr{h h':Heap}{esz:Nat}{v:V}{n:Nat}{cs:List V}(a:Sl h esz v n cs)(f:Fr [] h h'):Sl h' esz v n cs:=by
 obtain⟨hl,a⟩:=a;refine⟨hl,?_⟩;cases v with
 |slice b o l k=>obtain⟨h1,h2,c,o,x⟩:=a;exact⟨h1,h2,c,f.get o,x⟩
 |sliceU b o l k=>obtain⟨h1,h2,c,o,x⟩:=a;exact⟨h1,h2,c,f.get o,x⟩
 |_=>exact a
theorem Sl.len{h:Heap}{esz:Nat}{v:V}{n:Nat}{cs:List V}(a:Sl h esz v n cs):aP .lenS [v]=some (.int .i64 n):=by
 obtain⟨hl,a⟩:=a;cases v with
 |slice b o l k=>obtain⟨rfl,_⟩:=a;rfl
 |sliceU b o l k=>obtain⟨rfl,_⟩:=a;rfl
 |nils=>have a:n=0:=a;subst a;rfl
 |sliceE=>have a:n=0:=a;subst a;rfl
 |_=>exact a.elim
theorem Sl.one{h:Heap}{esz:Nat}{v:V}{n:Nat}{cs:List V}(a:Sl h esz v n cs):v.one=true:=by
 obtain⟨hl,a⟩:=a;cases v with
 |slice b o l k=>rfl
 |sliceU b o l k=>rfl
 |nils=>rfl
 |sliceE=>rfl
 |_=>exact a.elim
theorem Sl.ix{h:Heap}{esz:Nat}{v:V}{n:Nat}{cs:List V}(a:Sl h esz v n cs)(k:IntKind)(i:Int)(h0:0≤i)(h1:i<n):
 ∃b o,aP (.ixs esz) [v,.int k i]=some (.ptr b o)∧(∀j,j<esz→ag h b (o+j)=cs[i.toNat*esz+j]?)∧ak h b o esz=some ((cs.drop (i.toNat*esz)).take esz):=by
 obtain⟨hl,a⟩:=a;obtain⟨m,rfl⟩:∃m:Nat,i=m:=⟨i.toNat,by omega⟩;have hm:m<n:=by omega
 have hmul:m*esz+esz≤n*esz:=by rw[←Nat.succ_mul];exact Nat.mul_le_mul_right _ hm
 have main:∀(b o:Nat)(c:List V),Own h b c→o+n*esz≤c.length→cs=(c.drop o).take (n*esz)→
  (∀j,j<esz→ag h b (o+m*esz+j)=cs[m*esz+j]?)∧ak h b (o+m*esz) esz=some ((cs.drop (m*esz)).take esz):=by
  intro b o c hc hlen e;subst e;constructor
  ·intro j hj;rw[hc.ld1,iw,List.getElem?_take,if_pos (by omega),List.getElem?_drop];congr 1;omega
  ·rw[hc.ld,bq,aU _ _ (by simp;omega),List.drop_take,List.drop_drop,List.take_take];congr 2;omega
 cases v with
 |slice b o l q=>
  obtain⟨rfl,_,c,hc,hlen,e⟩:=a;exact⟨b,o+m*esz,fC _ _ _ _ _ _ _ h0 h1,main b o c hc hlen e⟩
 |sliceU b o l q=>
  obtain⟨rfl,rfl,c,hc,hlen,e⟩:=a;exact⟨b,o+m*q,kg _ _ _ _ _ _ _ h0 h1,main b o c hc hlen e⟩
 |nils=>have a:n=0:=a;omega
 |sliceE=>have a:n=0:=a;omega
 |_=>exact a.elim
section
variable {call : aD} {env : T V} {h : Heap} {loc : List V}
def EQ(o:Option (T V))(K:T V→Prop):Prop:=∃en,o=some en∧K en
theorem yp(en:T V)(K:T V→Prop):EQ (some en) K↔K en:=⟨fun⟨_,x,k⟩=>by cases x;exact k,fun k=>⟨en,rfl,k⟩⟩
def HdQ(hs:List Heap)(K:Heap→Prop):Prop:=match hs with
 |[]=>False
 |h::_=>K h
theorem vJ(hs:List Heap)(K:Heap→Prop):HdQ (h::hs) K↔K h:=Iff.rfl
theorem Gx(l:List IStep)(reads:List (Nat×Nat×Nat))(sets:List (Nat×Nat))(Q:T V→Heap→Prop)(hs:List Heap):DE call l reads sets env Q loc hs↔
 reads.all (jT call env l loc hs)=true∧EQ (fG l.length loc sets env) fun env'=>HdQ hs fun h'=>Q env' h':=by
 simp only[DE,EQ];constructor
 ·rintro⟨a,env',h',hs',e,rfl,q⟩;exact⟨a,env',e,q⟩
 ·rintro⟨a,env',e,q⟩;cases hs with
  |nil=>exact q.elim
  |cons h' hs'=>exact⟨a,env',h',hs',e,rfl,q⟩
def GR(o:Option V)(want:Bool)(A:Prop):Prop:=match o with
 |some (.bool b)=>if b=want then A else True
 |_=>True
theorem CF(t:List V)(want:Bool)(A:Prop):GR (some (.tup t)) want A↔True:=Iff.rfl
theorem yj(b want:Bool)(A:Prop):GR (some (.bool b)) want A↔if b=want then A else True:=Iff.rfl
def RD(call:aD)(env:T V)(s:Option IStep)(loc:List V)(hs:List Heap):Prop:=match s,loc with
 |some t,v::l=>(match t.gd with
  |none=>eQ call l env t.op v hs=true
  |some (x,want)=>GR (evO l env x) want (eQ call l env t.op v hs=true))
 |_,_=>False
theorem Hz(o:IOp)(d:Option Nat)(v:V)(l:List V)(hs:List Heap):RD call env (some ⟨none,o,d⟩) (v::l) hs↔eQ call l env o v hs=true:=Iff.rfl
theorem HA(x:Opd)(want:Bool)(o:IOp)(d:Option Nat)(v:V)(l:List V)(hs:List Heap):RD call env (some ⟨some (x,want),o,d⟩) (v::l) hs↔GR (evO l env x) want (eQ call l env o v hs=true):=Iff.rfl
theorem E7(l:List IStep)(hs:List Heap)(i lo hi:Nat):jT call env l loc hs (i,lo,hi)=true↔RD call env l[i]? (loc.drop (l.length-i-1)) ((hs.reverse.drop lo).take (hi+1-lo)):=by
 simp only[jT];cases l[i]? with
 |none=>simp[RD]
 |some t=>cases loc.drop (l.length-i-1)with
  |nil=>simp[RD]
  |cons v l'=>
   obtain⟨gd,o,d⟩:=t;cases gd with
   |none=>simp[RD,evG]
   |some g=>
    obtain⟨x,want⟩:=g;simp only[RD,evG,GR];cases evO l' env x with
    |none=>simp
    |some b=>
     cases b with
     |bool b=>cases b<;>cases want<;>simp
     |_=>simp
def wR(call:aD)(env:T V)(l:List IStep)(loc:List V)(hs:List Heap):List (Nat×Nat×Nat)→Prop
 |[]=>True
 |(i,lo,hi)::rs=>RD call env l[i]? (loc.drop (l.length-i-1)) ((hs.reverse.drop lo).take (hi+1-lo))∧wR call env l loc hs rs
theorem vB(l:List IStep)(hs:List Heap):wR call env l loc hs []↔True:=Iff.rfl
theorem lU(l:List IStep)(hs:List Heap)(i lo hi:Nat)(rs:List (Nat×Nat×Nat)):wR call env l loc hs ((i,lo,hi)::rs)↔
 RD call env l[i]? (loc.drop (l.length-i-1)) ((hs.reverse.drop lo).take (hi+1-lo))∧wR call env l loc hs rs:=Iff.rfl
theorem pu{l:List IStep}{hs:List Heap}:∀{rs:List (Nat×Nat×Nat)},rs.all (jT call env l loc hs)=true↔wR call env l loc hs rs
 |[]=>by simp[wR]
 |(i,lo,hi)::rs=>by simp only[List.all_cons,Bool.and_eq_true,E7,lU,pu (rs:=rs)]
def DF(call:aD)(l:List IStep)(reads:List (Nat×Nat×Nat))(sets:List (Nat×Nat))(env:T V)(Q:T V→Heap→Prop)(loc:List V)(hs:List Heap):Prop:=
 wR call env l loc hs reads∧EQ (fG l.length loc sets env) fun env'=>HdQ hs fun h'=>Q env' h'
theorem WD.mono{l:List DS}{hs:List Heap}{K K':List V→List Heap→Prop}(a:WD call env l loc hs h K)(b:∀x y,K x y→K' x y):WD call env l loc hs h K':=by
 obtain⟨x,y,e,k⟩:=a;exact⟨x,y,e,b _ _ k⟩
def Gv(o:Option (List DS×Heap))(K:List DS→Heap→Prop):Prop:=∃l h,o=some (l,h)∧K l h
theorem gC(l:List DS)(h:Heap)(K:List DS→Heap→Prop):Gv (some (l,h)) K↔K l h:=
 ⟨fun⟨_,_,e,k⟩=>by cases e;exact k,fun k=>⟨_,_,rfl,k⟩⟩
theorem zP(l:List IStep)(late B R:List Nat)(reads:List (Nat×Nat×Nat))(sets:List (Nat×Nat))(Q:Ex→T V→Heap→Prop):
 W call (.dops l late B R reads sets) env h Q↔Gv (lay call env late l 0 [] h) fun dl h1=>WD call env dl [] [h1] h1 (DF call l reads sets env (Q .norm)):=by
 constructor
 ·rintro⟨e,env',h',x,q⟩;have x:evD call l late reads sets env h=.ok e env' h':=x;unfold evD at x;split at x
  ·cases x
  ·rename_i dl h1 hl;refine⟨dl,h1,hl,?_⟩;split at x
   ·rename_i loc hs hd;refine⟨loc,hs,hd,?_⟩;cases ha:reads.all (jT call env l loc hs)
    ·rw[ha]at x;cases x
    ·rw[ha]at x;simp only[cond_true]at x;split at x
     ·rename_i env1 h2 hs2 hse;cases x;exact⟨pu.1 ha,_,hse,q⟩
     ·cases x
   ·cases x
 ·rintro⟨dl,h1,hl,x⟩;refine DV _ _ _ _ _ _ _ hl (x.mono ?_);rintro loc hs ⟨a,b⟩;exact(Gx _ _ _ _ _).2 ⟨pu.2 a,b⟩
theorem W_d(l:List IStep)(B R:List Nat)(reads:List (Nat×Nat×Nat))(sets:List (Nat×Nat))(Q:Ex→T V→Heap→Prop):
 W call (.dops l [] B R reads sets) env h Q↔WD call env (l.map fun s=>(s,none)) [] [h] h (DF call l reads sets env (Q .norm)):=by
 rw[zP,De,gC]
def SEv(o:Option V)(K:V→Option (T V)):Option (T V):=match o with
 |some v=>K v
 |none=>none
theorem vx(v:V)(K:V→Option (T V)):SEv (some v) K=K v:=rfl
theorem wX(n s i:Nat)(r:List (Nat×Nat)):fG n loc ((s,i)::r) env=SEv (nth loc (n-i-1)) fun v=>fG n loc r (env.set s v):=by
 rw[vR];unfold SEv;cases nth loc (n-i-1)<;>rfl
end
theorem bG(k:IntKind)(i:Int)(y:Nat)(h0:0≤i)(h1:i≤y):bS (.int k i) y=some i.toNat:=by
 obtain⟨n,rfl⟩:∃n:Nat,i=n:=⟨i.toNat,by omega⟩;have:Nat.ble n y=true:=(Nat.ble_eq ..).mpr (by omega);show(bif Nat.ble n y then some n else none)=_;rw[this];rfl
theorem ef{a b:Nat}(h:a≠b):Nat.beq a b=false:=by
 cases hb:Nat.beq a b
 ·rfl
 ·exact absurd (Nat.eq_of_beq_eq_true hb) h
theorem fT{a b:Nat}(h:a=b):Nat.beq a b=true:=by subst h;simp
theorem BH{a b:Nat}(h:¬a<b):Nat.blt a b=false:=by
 cases hb:Nat.blt a b
 ·rfl
 ·exact absurd ((Nat.blt_eq ..).mp hb) h
theorem wD{a b:Nat}(h:¬a≤b):Nat.ble a b=false:=by
 cases hb:Nat.ble a b
 ·rfl
 ·exact absurd ((Nat.ble_eq ..).mp hb) h
theorem Sl.part{h:Heap}{esz:Nat}{v:V}{n:Nat}{cs:List V}(a:Sl h esz v n cs)(he:0<esz)(hv:v≠.sliceE)(lo hi:Bool)(bs:List V)(l u:Nat)(hu:u≤n)(hl:l≤u)
 (hb:∀y,n≤y→aR n y lo hi false bs=some (l,u,none)):
 ∃v',aP (.sl none esz lo hi false) (v::bs)=some v'∧Sl h esz v' (u-l) ((cs.drop (l*esz)).take ((u-l) *esz)):=by
 obtain⟨hlen,a⟩:=a;have hm:l*esz+(u-l) *esz≤n*esz:=by rw[←Nat.add_mul];exact Nat.mul_le_mul_right _ (by omega)
 have hlen':((cs.drop (l*esz)).take ((u-l) *esz)).length=(u-l) *esz:=by simp;omega
 have main:∀(b o:Nat)(c:List V),Own h b c→o+n*esz≤c.length→cs=(c.drop o).take (n*esz)→
  (cs.drop (l*esz)).take ((u-l) *esz)=(c.drop (o+l*esz)).take ((u-l) *esz):=by
  intro b o c _ hlen e;subst e;rw[List.drop_take,List.drop_drop,List.take_take];congr 1;omega
 cases v with
 |slice b o len cap=>
  obtain⟨rfl,hcap,c,hc,hlen2,e⟩:=a;refine⟨.slice b (bif Nat.beq cap l then o else o+l*esz) (u-l) (cap-l),by simp only[aP,dt,hb cap hcap,Option.map_some,Option.getD_none],hlen',rfl,by omega,c,hc,?_⟩;by_cases hcl:cap=l
  ·have h0:u-l=0:=by omega
   rw[fT hcl,h0];simp;omega
  ·rw[ef hcl];exact⟨by simp only[cond_false];omega,main b o c hc hlen2 e⟩
 |sliceU b o len q=>
  obtain⟨rfl,rfl,c,hc,hlen2,e⟩:=a;have hq:(Nat.beq q q&&Nat.blt 0 q)=true:=by simp[Nat.blt_eq,he]
  by_cases h1:l<len
  ·refine⟨.sliceU b (o+l*q) (u-l) q,?_,hlen',rfl,rfl,c,hc,by omega,main b o c hc hlen2 e⟩;simp only[aP,dt,hq,cond_true,hb len (Nat.le_refl _),Option.bind_some,(Nat.blt_eq ..).mpr h1]
  ·have hl0:u-l=0:=by omega
   by_cases h2:l=0
   ·subst h2;refine⟨.sliceU b o (u-0) q,?_,hlen',rfl,rfl,c,hc,by omega,by simpa using main b o c hc hlen2 e⟩;simp only[aP,dt,hq,cond_true,hb len (Nat.le_refl _),Option.bind_some,BH h1,cond_false,show Nat.beq 0 0=true from rfl]
   ·refine⟨.sliceE,?_,hlen',hl0⟩;simp only[aP,dt,hq,cond_true,hb len (Nat.le_refl _),Option.bind_some,BH h1,cond_false,ef h2]
 |nils=>
  have a:n=0:=a;subst a;refine⟨.nils,?_,hlen',by omega⟩;simp only[aP,dt,hb 0 (Nat.le_refl _),Option.map_some]
 |sliceE=>exact absurd rfl hv
 |_=>exact a.elim
theorem Sl.ne{h:Heap}{esz:Nat}{v:V}{n:Nat}{cs:List V}(a:Sl h esz v n cs)(hn:0<n):v≠.sliceE:=by
 rintro rfl;have:n=0:=a.2;omega
theorem Sl.from'{h:Heap}{esz:Nat}{v:V}{n:Nat}{cs:List V}(a:Sl h esz v n cs)(he:0<esz)(hv:v≠.sliceE)(k:IntKind)(i:Int)(h0:0≤i)(h1:i≤n):
 ∃v',aP (.sl none esz true false false) [v,.int k i]=some v'∧Sl h esz v' (n-i.toNat) (cs.drop (i.toNat*esz)):=by
 obtain⟨v',e,s⟩:=a.part he hv true false [.int k i] i.toNat n (Nat.le_refl _) (by omega) (fun y _=>by simp only[aR,bG k i n h0 h1,Option.map_some]);refine⟨v',e,?_⟩;have hm:i.toNat*esz+(n-i.toNat) *esz=n*esz:=by rw[←Nat.add_mul];congr 1;omega
 rwa[List.take_of_length_le (by simp[a.1];omega)]at s
theorem Sl.upto{h:Heap}{esz:Nat}{v:V}{n:Nat}{cs:List V}(a:Sl h esz v n cs)(he:0<esz)(hv:v≠.sliceE)(k:IntKind)(i:Int)(h0:0≤i)(h1:i≤n):
 ∃v',aP (.sl none esz false true false) [v,.int k i]=some v'∧Sl h esz v' i.toNat (cs.take (i.toNat*esz)):=by
 obtain⟨v',e,s⟩:=a.part he hv false true [.int k i] 0 i.toNat (by omega) (by omega) (fun y hy=>by simp only[aR,bG k i y h0 (by omega),Option.map_some]);exact⟨v',e,by simpa using s⟩
theorem Sl.range{h:Heap}{esz:Nat}{v:V}{n:Nat}{cs:List V}(a:Sl h esz v n cs)(he:0<esz)(hv:v≠.sliceE)(k k':IntKind)(i j:Int)(h0:0≤i)(h1:i≤j)(h2:j≤n):
 ∃v',aP (.sl none esz true true false) [v,.int k i,.int k' j]=some v'∧Sl h esz v' (j.toNat-i.toNat) ((cs.drop (i.toNat*esz)).take ((j.toNat-i.toNat) *esz)):=by
 obtain⟨v',e,s⟩:=a.part he hv true true [.int k i,.int k' j] i.toNat j.toNat (by omega) (by omega) (fun y hy=>by
  simp only[aR,bG k' j y (by omega) (by omega),Option.bind_some,bG k i j.toNat h0 (by omega),Option.map_some])
 exact⟨v',e,s⟩
def Gs(h:Heap)(B:Nat)(esz:Nat)(v:V)(cs:List V):Prop:=(v=.nils∧cs=[])∨∃b n,v=.sliceU b 0 n esz∧cs.length=n*esz∧0<n∧B≤b∧Own h b cs
theorem Gs.sl{h:Heap}{B esz:Nat}{v:V}{cs:List V}{n:Nat}(a:Gs h B esz v cs)(hn:cs.length=n*esz)(he:0<esz):Sl h esz v n cs:=by
 rcases a with⟨rfl,rfl⟩|⟨b,m,rfl,hm,_,_,o⟩
 ·refine⟨hn,?_⟩;have:0=n*esz:=hn;rcases Nat.eq_zero_or_pos n with h|h
  ·exact h
  ·have:=Nat.mul_pos h he;omega
 ·have:m=n:=Nat.eq_of_mul_eq_mul_right he (by omega);subst this;exact⟨hn,rfl,rfl,cs,o,by omega,by simp[←hn]⟩
theorem Gs.one{h:Heap}{B esz:Nat}{v:V}{cs:List V}(a:Gs h B esz v cs):v.one=true:=by
 rcases a with⟨rfl,rfl⟩|⟨b,m,rfl,_⟩<;>rfl
theorem Gs.fr{h h':Heap}{B esz:Nat}{v:V}{cs:List V}(a:Gs h B esz v cs)(f:Fr [] h h'):Gs h' B esz v cs:=by
 rcases a with⟨rfl,rfl⟩|⟨b,m,rfl,h1,h2,h3,o⟩
 ·exact .inl ⟨rfl,rfl⟩
 ·exact .inr ⟨b,m,rfl,h1,h2,h3,f.get o⟩
structure Up(B:Nat)(h h':Heap):Prop where
 next:h.next≤h'.next
 wf:WF h'
 own:∀b c,b<B→Own h b c→Own h' b c
 pl:∀b c,b<B→Pl h b c→Pl h' b c
 lp:∀b x,Dl x=true→h.bl.get b=some x→h'.bl.get b=some x
 ro:∀b c,Rs h b c→Rs h' b c
theorem Fr.up{S:List Nat}{h h':Heap}{B:Nat}(f:Fr S h h')(hs:∀x∈S,B≤x):Up B h h':=
 ⟨f.next,f.wf,fun b c hb o=>f.own b c (fun m=>by have:=hs b m;omega) o,fun b c hb o=>f.pl b c (fun m=>by have:=hs b m;omega) o,f.lp,f.ro⟩
theorem Fr.ups{h0 h h':Heap}(f:Fr [] h0 h)(w:WF h0)(u:Up h0.next h h'):Fr [] h0 h':=
 ⟨Nat.le_trans f.next u.next,u.wf,fun b c _ o=>u.own b c (o.lt w) (f.get o),fun b c _ o=>u.pl b c (o.own.lt w) (f.pl b c (by simp) o),fun b x hx o=>u.lp b x hx (f.lp b x hx o),fun b c r=>u.ro b c (f.ro b c r)⟩
theorem Up.refl{B:Nat}{h:Heap}(w:WF h):Up B h h:=⟨Nat.le_refl _,w,fun _ _ _ o=>o,fun _ _ _ o=>o,fun _ _ _ o=>o,fun _ _ o=>o⟩
theorem Up.trans{B:Nat}{h h1 h2:Heap}(a:Up B h h1)(b:Up B h1 h2):Up B h h2:=
 ⟨Nat.le_trans a.next b.next,b.wf,fun x c hx o=>b.own x c hx (a.own x c hx o),fun x c hx o=>b.pl x c hx (a.pl x c hx o),fun x k hk o=>b.lp x k hk (a.lp x k hk o),fun x c r=>b.ro x c (a.ro x c r)⟩
theorem Fr.fresh{h h1 h2:Heap}{b:Nat}(a:Fr [] h h1)(c:Fr [b] h1 h2)(w:WF h)(hb:h.next≤b):Fr [] h h2:=
 a.trans c w (by simp) (by simp;exact hb)
theorem qi{h:Heap}{b pos:Nat}{c c':List V}(w:WF h)(a:Own h b c):∃h',j4 h b pos c'=some h'∧Own h' h.next c'∧Fr [b] h h':=by
 have hb:=a.lt w;obtain⟨f,k,e,x⟩:=a;have hf:f<h.next:=by
  rcases x with⟨_,rfl⟩|⟨e',x⟩
  ·exact hb
  ·rcases Nat.lt_or_ge f h.next with y|y
   ·exact y
   ·rw[(w f y).2]at x;cases x
 have go:∀(e0 e1:Nat),(h.fams.get f=none∧f=b∨∃e,h.fams.get f=some (b,e))→
  Own ⟨(h.bl.set b (.row c f e0)).set h.next (.row c' f 0),h.next+1,h.fams.set f (h.next,e1)⟩ h.next c'∧
  Fr [b] h ⟨(h.bl.set b (.row c f e0)).set h.next (.row c' f 0),h.next+1,h.fams.set f (h.next,e1)⟩:=by
  intro e0 e1 x;refine⟨⟨f,0,T.get_set_self _ _ _,.inr ⟨e1,T.get_set_self _ _ _⟩⟩,⟨Nat.le_succ _,?_,?_,?_,fun q y hy ey=>by
   have h1:q≠b:=by intro eq;rw[eq,e]at ey;cases ey;cases hy
   have h2:q≠h.next:=by rintro rfl;rw[(w _ (Nat.le_refl _)).1]at ey;cases ey
   show((h.bl.set b _).set h.next _).get q=_;rw[T.get_set_ne _ _ h2,T.get_set_ne _ _ h1];exact ey,fun q y r=>by
   have r1:Rs ⟨h.bl.set b (.row c f e0),h.next,h.fams.set f (h.next,e1)⟩ q y:=r.set e (by rcases x with⟨x,_⟩|x;exact .inl x;exact .inr x) _ (.inr ⟨_,rfl⟩) _ (Nat.le_refl _)
   obtain⟨f',k',ow,p1,p2,p3,p4⟩:=r1;have p1':(h.bl.set b (.row c f e0)).get q=some (.row y f' k'):=p1;have p4':ow<h.next:=p4;have hq:q≠h.next:=by
    rintro rfl;rw[T.get_set_ne _ _ (by omega),(w _ (Nat.le_refl _)).1]at p1';cases p1'
   refine⟨f',k',ow,?_,p2,?_,by show ow<h.next+1;omega⟩
   ·show((h.bl.set b _).set h.next _).get q=_;rw[T.get_set_ne _ _ hq];exact p1
   ·show((h.bl.set b _).set h.next _).get ow=_;rw[T.get_set_ne _ _ (by omega)];exact p3⟩⟩
  ·intro p hp;have hp':h.next+1≤p:=hp;have:=w p (by omega);refine⟨?_,?_⟩
   ·show((h.bl.set b _).set h.next _).get p=none;rw[T.get_set_ne _ _ (by omega),T.get_set_ne _ _ (by omega)];exact this.1
   ·show(h.fams.set f _).get p=none;rw[T.get_set_ne _ _ (by omega)];exact this.2
  ·rintro q d hq o;have hq':=o.lt w;obtain⟨f1,k1,e2,x1⟩:=o;simp at hq;refine⟨f1,k1,?_,?_⟩
   ·show((h.bl.set b _).set h.next _).get q=_;rw[T.get_set_ne _ _ (by omega),T.get_set_ne _ _ hq];exact e2
   ·have hne:f1≠f:=by
     rintro rfl;rcases x with⟨xa,xb⟩|⟨e',xa⟩
     ·rcases x1 with⟨_,y⟩|⟨e3,y⟩
      ·exact hq (y.symm.trans xb)
      ·rw[xa]at y;cases y
     ·rcases x1 with⟨y,_⟩|⟨e3,y⟩
      ·rw[xa]at y;cases y
      ·rw[xa]at y;cases y;exact hq rfl
    show((h.fams.set f _).get f1=none∧_)∨∃e,(h.fams.set f _).get f1=some (q,e);rw[T.get_set_ne _ _ hne];exact x1
  ·rintro q d hq o;have hq':=o.own.lt w;obtain⟨⟨k1,e2⟩,x1⟩:=o;simp at hq;refine⟨⟨k1,?_⟩,?_⟩
   ·show((h.bl.set b _).set h.next _).get q=_;rw[T.get_set_ne _ _ (by omega),T.get_set_ne _ _ hq];exact e2
   ·show(h.fams.set f _).get q=none;rw[T.get_set_ne _ _ ?_]
    ·exact x1
    ·rintro rfl;rcases x with⟨_,xb⟩|⟨e',xa⟩
     ·exact hq xb
     ·rw[xa]at x1;cases x1
 simp only[j4,e];rcases x with⟨x,rfl⟩|⟨e',x⟩
 ·rw[x];exact⟨_,rfl,go _ _ (.inl ⟨x,rfl⟩)⟩
 ·rw[x];simp only[Nat.beq_refl,cond_true];exact⟨_,rfl,go _ _ (.inr ⟨e',x⟩)⟩
theorem Sl.srcLen{h:Heap}{esz:Nat}{v:V}{n:Nat}{cs:List V}(a:Sl h esz v n cs):Ev.srcLen v=some n:=by
 obtain⟨_,a⟩:=a;cases v with
 |slice b o len cap=>obtain⟨rfl,_⟩:=a;rfl
 |sliceU b o len q=>obtain⟨rfl,_⟩:=a;rfl
 |nils=>have a:n=0:=a;subst a;rfl
 |sliceE=>have a:n=0:=a;subst a;rfl
 |_=>exact a.elim
theorem Sl.srcCells{h:Heap}{esz:Nat}{v:V}{n:Nat}{cs:List V}(a:Sl h esz v n cs):Ev.srcCells h esz v n=some cs:=by
 obtain⟨hl,a⟩:=a;cases v with
 |slice b o len cap=>
  obtain⟨rfl,_,c,hc,h2,e⟩:=a;simp only[Ev.srcCells,hc.ld,bq,aU _ _ (show len*esz≤(c.drop o).length by simp;omega),e]
 |sliceU b o len q=>
  obtain⟨rfl,rfl,c,hc,h2,e⟩:=a;simp only[Ev.srcCells,hc.ld,bq,aU _ _ (show len*q≤(c.drop o).length by simp;omega),e]
 |nils=>have a:n=0:=a;subst a;simp at hl;subst hl;rfl
 |sliceE=>have a:n=0:=a;subst a;simp at hl;subst hl;rfl
 |_=>exact a.elim
def vb:V→List Nat
 |.sliceU b _ _ _=>[b]
 |_=>[]
theorem Gs.up{h h':Heap}{B esz:Nat}{v:V}{cs:List V}(a:Gs h B esz v cs)(f:Fr (vb v) h h'):Up B h h':=by
 refine f.up ?_;rcases a with⟨rfl,_⟩|⟨b,m,rfl,_,_,hb,_⟩
 ·simp[vb]
 ·simpa[vb]using hb
theorem Gs.append{h:Heap}{B esz bytes:Nat}{v x:V}{cs xs:List V}{n:Nat}(w:WF h)(a:Gs h B esz v cs)(s:Sl h esz x n xs)(he:0<esz)(ho:aq xs=true)(hB:B≤h.next)
 (hsz:(2*(cs.length+n)+1024) *bytes≤281474976710656) {K:V→Heap→Prop} (k:∀v' h',Gs h' B esz v' (cs++xs)→Fr (vb v) h h'→K v' h'):OQ (jD h esz bytes v x) K:=by
 unfold jD;rw[s.srcLen];simp only[];by_cases hn:n=0
 ·subst hn;have hx:xs=[]:=by have:=s.1;simp at this;exact this
  subst hx;rw[fT rfl,cond_true];have hd:gQ v=some (cs.length/esz):=by
   rcases a with⟨rfl,rfl⟩|⟨b,m,rfl,hm,_⟩
   ·simp[gQ,Ev.srcLen]
   ·simp[gQ,Ev.srcLen,hm,Nat.mul_div_cancel _ he]
  rw[hd];exact(bZ _ _ _).2 (k v h (by simpa using a) (Fr.refl w))
 ·rw[ef hn,cond_false,s.srcCells];simp only[];rcases a with⟨rfl,rfl⟩|⟨b,m,rfl,hm,hm0,hb,o⟩
  ·simp only[pp];have:Nat.ble ((2*n+1024) *bytes) 281474976710656=true:=by
    rw[Nat.ble_eq];simpa using hsz
   rw[this,cond_true];refine(bZ _ _ _).2 (k _ _ (.inr ⟨h.next,n,rfl,by simpa using s.1,by omega,hB,by simpa using Own.new w xs⟩) (Fr.halloc w xs))
  ·have hle:(2*(m+n)+1024) *bytes≤(2*(cs.length+n)+1024) *bytes:=by
    refine Nat.mul_le_mul_right _ ?_;have:m≤cs.length:=by rw[hm];exact Nat.le_mul_of_pos_right m he
    omega
   have h1:(Nat.beq esz esz&&Nat.ble ((2*(m+n)+1024) *bytes) 281474976710656)=true:=by
    simp only[Nat.beq_refl,Bool.true_and,Nat.ble_eq];omega
   simp only[h1,cond_true,o.cells];have hmn:(m+n) *esz=m*esz+n*esz:=Nat.add_mul _ _ _;have hpos:0<n*esz:=Nat.mul_pos (by omega) he;rw[wD (show¬0+(m+n) *esz≤cs.length by omega),cond_false];have h2:(Nat.ble (0+m*esz) cs.length&&aq xs)=true:=by simp only[ho,Bool.and_true,Nat.ble_eq];omega
   simp only[h2,cond_true,bV,aU cs (m*esz) (by omega)];obtain⟨h',e,o',f⟩:=qi (pos:=0+m*esz) (c':=cs.take (m*esz)++xs) w o;rw[e];simp only[Option.map_some];refine(bZ _ _ _).2 (k _ _ (.inr ⟨h.next,m+n,rfl,by simp[s.1];omega,by omega,hB,?_⟩) f);rwa[List.take_of_length_le (by omega)]at o'
def CQ(o:Option (List V))(len:Nat)(K:V→Heap→Prop)(h:Heap):Prop:=∃c,o=some c∧K (.slice h.next 0 len len) (halloc h c)
theorem yu(c:List V)(len:Nat)(K:V→Heap→Prop)(h:Heap):CQ (some c) len K h↔K (.slice h.next 0 len len) (halloc h c):=
 ⟨fun⟨_,e,k⟩=>by cases e;exact k,fun k=>⟨c,rfl,k⟩⟩
theorem xN(h:Heap)(zero:List V)(places:List (Nat×Nat))(len:Nat)(vs:List V)(K:V→Heap→Prop):OQ (gX h zero places len vs) K↔CQ (cZ (bu zero len) places vs) len K h:=by
 simp only[gX,OQ,CQ];cases cZ (bu zero len) places vs with
 |none=>simp
 |some c=>simp[and_assoc]
theorem eW(zero:List V):bu zero 0=[]:=rfl
theorem dX(zero:List V)(n:Nat):bu zero (n+1)=zero++bu zero n:=rfl
theorem tV(z:V)(n:Nat):bu [z] n=List.replicate n z:=by
 induction n with
 |zero=>rfl
 |succ n ih=>rw[dX,ih];rfl
theorem Sl.lit{h:Heap}{esz:Nat}{b n:Nat}{c:List V}(o:Own h b c)(hc:c.length=n*esz):Sl h esz (.slice b 0 n n) n c:=
 ⟨hc,rfl,Nat.le_refl _,c,o,by omega,by simp[←hc]⟩
theorem gw(h:Heap)(zero:List V)(bytes:Nat)(k k':IntKind)(l c:Int)(K:V→Heap→Prop)(h0:0≤l)(h1:l≤c)(h2:c<9223372036854775808)(h3:bytes*c.toNat≤281474976710656):
 OQ (qR h zero bytes (.int k l) (.int k' c)) K↔K (.slice h.next 0 l.toNat c.toNat) (halloc h (bu zero c.toNat)):=by
 obtain⟨n,rfl⟩:∃n:Nat,l=n:=⟨l.toNat,by omega⟩;obtain⟨m,rfl⟩:∃m:Nat,c=m:=⟨c.toNat,by omega⟩;have:(Nat.ble n m&&Nat.blt m 9223372036854775808&&Nat.ble (bytes*m) 281474976710656)=true:=by
  simp only[Bool.and_eq_true,Nat.ble_eq,Nat.blt_eq];simp at h3;omega
 show OQ (bif Nat.ble n m&&Nat.blt m 9223372036854775808&&Nat.ble (bytes*m) 281474976710656 then some (.slice h.next 0 n m,halloc h (bu zero m))else none) K↔_;rw[this];exact bZ _ _ _
section
variable {α : Type} {f : α → List V} {k : Nat}
theorem aG(hf:∀x,(f x).length=k):∀(L:List α),(L.flatMap f).length=L.length*k
 |[]=>by simp
 |x::L=>by simp[List.flatMap_cons,aG hf L,hf,Nat.succ_mul,Nat.add_comm]
theorem d8(hf:∀x,(f x).length=k):∀(L:List α)(i:Nat),(L.flatMap f).drop (i*k)=(L.drop i).flatMap f
 |L,0=>by simp
 |[],i+1=>by simp
 |x::L,i+1=>by
  rw[List.flatMap_cons,List.drop_succ_cons,←d8 hf L i,Nat.succ_mul,Nat.add_comm,←hf x,←List.drop_drop,List.drop_left]
theorem qA(hf:∀x,(f x).length=k):∀(L:List α)(i:Nat),(L.flatMap f).take (i*k)=(L.take i).flatMap f
 |L,0=>by simp
 |[],i+1=>by simp
 |x::L,i+1=>by
  have:(i+1) *k=(f x).length+i*k:=by rw[Nat.succ_mul,hf x,Nat.add_comm]
  rw[List.flatMap_cons,List.take_succ_cons,List.flatMap_cons,this,List.take_append,List.take_of_length_le (by omega),Nat.add_sub_cancel_left,qA hf L i]
def Recs(f:α→List V)(k:Nat)(h:Heap)(v:V)(L:List α):Prop:=Sl h k v L.length (L.flatMap f)
theorem Recs.fr{h h':Heap}{v:V}{L:List α}(a:Recs f k h v L)(r:Fr [] h h'):Recs f k h' v L:=Sl.fr a r
theorem Recs.len{h:Heap}{v:V}{L:List α}(a:Recs f k h v L):aP .lenS [v]=some (.int .i64 L.length):=Sl.len a
theorem Recs.ix{h:Heap}{v:V}{L:List α}(hf:∀x,(f x).length=k)(a:Recs f k h v L)(kd:IntKind)(i:Int)(h0:0≤i)(h1:i<L.length):
 ∃b o x,aP (.ixs k) [v,.int kd i]=some (.ptr b o)∧(∀j,j<k→ag h b (o+j)=(f x)[j]?)∧ak h b o k=some (f x)∧L[i.toNat]? =some x:=by
 obtain⟨b,o,e,g,g2⟩:=Sl.ix a kd i h0 h1;have hi:i.toNat<L.length:=by omega
 have e3:L[i.toNat]? =some L[i.toNat]:=by simp[hi]
 have ed:L.drop i.toNat=L[i.toNat]::L.drop (i.toNat+1):=List.drop_eq_getElem_cons hi;refine⟨b,o,L[i.toNat],e,fun j hj=>?_,?_,e3⟩
 ·rw[g j hj,←List.getElem?_drop,d8 hf,ed,List.flatMap_cons,List.getElem?_append_left (by rw[hf];exact hj)]
 ·rw[g2,d8 hf,ed,List.flatMap_cons];have:=hf L[i.toNat];rw[List.take_append,List.take_of_length_le (by omega),this];simp
theorem Recs.nil{h:Heap}:Recs f k h .nils []:=⟨by simp,rfl⟩
def GRecs(f:α→List V)(k:Nat)(h:Heap)(B:Nat)(v:V)(L:List α):Prop:=Gs h B k v (L.flatMap f)
theorem GRecs.recs{h:Heap}{B:Nat}{v:V}{L:List α}(hf:∀x,(f x).length=k)(hk:0<k)(a:GRecs f k h B v L):Recs f k h v L:=Gs.sl a (aG hf L) hk
theorem GRecs.fr{h h':Heap}{B:Nat}{v:V}{L:List α}(a:GRecs f k h B v L)(r:Fr [] h h'):GRecs f k h' B v L:=Gs.fr a r
theorem GRecs.one{h:Heap}{B:Nat}{v:V}{L:List α}(a:GRecs f k h B v L):v.one=true:=Gs.one a
theorem GRecs.nil{h:Heap}{B:Nat}:GRecs f k h B .nils []:=.inl ⟨rfl,rfl⟩
theorem GRecs.append{h:Heap}{B bytes:Nat}{v:V}{L:List α}{x:α}{b:Nat}(w:WF h)(a:GRecs f k h B v L)(hf:∀x,(f x).length=k)(ho:aq (f x)=true)(hk:0<k)(o:Own h b (f x))(hB:B≤h.next)
 (hsz:(2*(L.length*k+1)+1024) *bytes≤281474976710656) {K:V→Heap→Prop} (c:∀v' h',GRecs f k h' B v' (L++[x])→Fr (vb v) h h'→K v' h'):OQ (jD h k bytes v (.slice b 0 1 1)) K:=by
 refine Gs.append w a (Sl.lit (n:=1) o (by simp[hf])) hk ho hB (by rw[aG hf];exact hsz) ?_;intro v' h' g u;refine c v' h' ?_ u;unfold GRecs;rw[List.flatMap_append];simpa using g
end
def CP(Q:Ex→T V→Heap→Prop):Ex→T V→Heap→Prop:=fun e env h=>match e with
 |.goto _=>False
 |e=>Q e env h
theorem pU(Q:Ex→T V→Heap→Prop)(env:T V)(h:Heap):CP Q .norm env h↔Q .norm env h:=Iff.rfl
theorem tL(Q:Ex→T V→Heap→Prop)(env:T V)(h:Heap):CP Q .ret env h↔Q .ret env h:=Iff.rfl
theorem pV(i:Nat)(Q:Ex→T V→Heap→Prop)(env:T V)(h:Heap):CP Q (.exit i) env h↔Q (.exit i) env h:=Iff.rfl
theorem Cd{call:aD}{c r:IC}{l:Nat}{env:T V}{h:Heap}{Q:Ex→T V→Heap→Prop}(x:W call c env h (CP Q)):W call (.scope c l r) env h Q:=by
 refine xZ (fun _ _ _=>False) 0 (by omega) (x.mono ?_) (fun _ _ _ f=>f.elim);intro e env h q;cases e with
 |goto i=>exact q.elim
 |_=>exact q
theorem evs:
 (type_of% @Cc)∧
 (type_of% @ya)∧
 (type_of% @Cf)∧
 (type_of% @Ce)∧
 (type_of% @xY)∧
 (type_of% @Ch)∧
 (type_of% @yc)∧
 (type_of% @yb)∧
 (type_of% @gG)∧
 (type_of% @pN)∧
 (type_of% @ni)∧
 (type_of% @ng)∧
 (type_of% @mD)∧
 (type_of% @pf)∧
 (type_of% @mE)∧
 (type_of% @fK)∧
 (type_of% @pU)∧
 (type_of% @tL)∧
 (type_of% @pV)∧
 (type_of% @nK)∧
 (type_of% @ir)∧
 (type_of% @lZ)∧
 (type_of% @oQ)∧
 (type_of% @tj)∧
 (type_of% @DX)∧
 (type_of% @DW)∧
 (type_of% @Hw)∧
 (type_of% @ES)∧
 (type_of% @k8)∧
 (type_of% @CY)∧
 (type_of% @mW)∧
 (type_of% @mV)∧
 (type_of% @bZ)∧
 (type_of% @yg)∧
 (type_of% @AG)∧
 (type_of% @tn)∧
 (type_of% @Em)∧
 (type_of% @yd)∧
 (type_of% @Ey)∧
 (type_of% @Et)∧
 (type_of% @Eu)∧
 (type_of% @yw)∧
 (type_of% @vM)∧
 (type_of% @rg)∧
 (type_of% @vL)∧
 (type_of% @rD)∧
 (type_of% @sw)∧
 (type_of% @sr)∧
 (type_of% @yi)∧
 (type_of% @yh)∧
 (type_of% @CE)∧
 (type_of% @CD)∧
 (type_of% @kY)∧
 (type_of% @xN)∧
 (type_of% @yu)∧
 (type_of% @eW)∧
 (type_of% @dX)∧
 (type_of% @Ep)∧
 (type_of% @Ew)∧
 (type_of% @Er)∧
 (type_of% @Es)∧
 (type_of% @yo)∧
 (type_of% @Eq)∧
 (type_of% @AI)∧
 (type_of% @mj)∧
 (type_of% @gh)∧
 (type_of% @xC)∧
 (type_of% @EH)∧
 (type_of% @cL)∧
 (type_of% @eP)∧
 (type_of% @bW)∧
 (type_of% @bv)∧
 (type_of% @bT)∧
 (type_of% @jt)∧
 (type_of% @fx)∧
 (type_of% @T.get_set)∧
 (type_of% @rj)∧
 (type_of% @kZ)∧
 (type_of% @kL)∧
 (type_of% @sB)∧
 (type_of% @Bo)∧
 (type_of% @qh)∧
 (type_of% @iY)∧
 (type_of% @qg)∧
 (type_of% @eg)∧
 (type_of% @j9)∧
 (type_of% @xQ)∧
 (type_of% @xO)∧
 (type_of% @pq)∧
 (type_of% @qU)∧
 (type_of% @Ca)∧
 (type_of% @BP)∧
 (type_of% @wN)∧
 (type_of% @wO)∧
 (type_of% @BU)∧
 (type_of% @BX)∧
 (type_of% @B1)∧
 (type_of% @BY)∧
 (type_of% @B3)∧
 (type_of% @BT)∧
 (type_of% @BV)∧
 (type_of% @B6)∧
 (type_of% @B5)∧
 (type_of% @gz)∧
 (type_of% @B4)∧
 (type_of% @qZ)∧
 (type_of% @qY)∧
 (type_of% @BW)∧
 (type_of% @vw)∧
 (type_of% @ER)∧
 (type_of% @EP)∧
 (type_of% @xV)∧
 (type_of% @xT)∧
 (type_of% @tf)∧
 (type_of% @xR)∧
 (type_of% @xU)∧
 (type_of% @qX)∧
 (type_of% @xX)∧
 (type_of% @xW)∧
 (type_of% @xP)∧
 (type_of% @qV)∧
 (type_of% @qW)∧
 (type_of% @tW)∧
 (type_of% @qL)∧
 (type_of% @oZ)∧
 (type_of% @qI)∧
 (type_of% @qJ)∧
 (type_of% @oW)∧
 (type_of% @oV)∧
 (type_of% @mB)∧
 (type_of% @kS)∧
 (type_of% @oY)∧
 (type_of% @oX)∧
 (type_of% @qM)∧
 (type_of% @qS)∧
 (type_of% @xM)∧
 (type_of% @bV)∧
 (type_of% @oP)∧
 (type_of% @jS)∧
 (type_of% @dV)∧
 (type_of% @fU)∧
 (type_of% @cN)∧
 (type_of% @aQ)∧
 (type_of% @aX)∧
 (type_of% @cond_true.{1})∧
 (type_of% @cond_false.{1})∧
 (type_of% @Nat.zero_lt_one)∧
 (type_of% @Nat.lt_add_one)∧
 (type_of% @decide_eq_true_eq)∧
 (type_of% @Bool.not_true)∧
 (type_of% @Bool.not_false)∧
 (type_of% @Bool.false_eq_true)∧
 (type_of% @Bool.true_eq_false)∧
 (type_of% @decide_true)∧
 (type_of% @decide_false)∧
 (type_of% @eq_self.{1})∧
 (type_of% @Option.map_some.{0,0})∧
 (type_of% @Option.bind_some.{0,0})∧
 (type_of% @Nat.zero_add)∧
 (type_of% @Nat.add_zero)∧
 (type_of% @Nat.zero_mul)∧
 (type_of% @Nat.zero_ne_one)∧
 (type_of% @Nat.one_ne_zero)∧
 (type_of% @List.append_nil.{0})∧
 (type_of% @List.nil_append.{0})∧
 (type_of% @List.cons_append.{0})∧
 (type_of% @Option.isSome_some.{0})∧
 (type_of% @Option.isSome_none.{0})∧
 (type_of% @Option.isNone_some.{0})∧
 (type_of% @Option.isNone_none.{0})∧
 (type_of% @W_d)∧
 (type_of% @Ci)∧
 (type_of% @Hx)∧
 (type_of% @Hy)∧
 (type_of% @c7)∧
 (type_of% @Hh)∧
 (type_of% @Hi)∧
 (type_of% @yl)∧
 (type_of% @CG)∧
 (type_of% @AW)∧
 (type_of% @vB)∧
 (type_of% @lU)∧
 (type_of% @Hz)∧
 (type_of% @HA)∧
 (type_of% @yj)∧
 (type_of% @CF)∧
 (type_of% @qd)∧
 (type_of% @nL)∧
 (type_of% @du)∧
 (type_of% @yp)∧
 (type_of% @vJ)∧
 (type_of% @pS)∧
 (type_of% @wX)∧
 (type_of% @vx)∧
 (type_of% @List.map_cons.{0,0})∧
 (type_of% @List.map_nil.{0,0})∧
 (type_of% @List.length_cons.{0})∧
 (type_of% @List.length_nil.{0})∧
 (type_of% @List.drop_succ_cons.{0})∧
 (type_of% @List.drop_zero.{0})∧
 (type_of% @List.getElem?_cons_succ.{0})∧
 (type_of% @List.getElem?_cons_zero.{0})∧
 (type_of% @List.reverse_cons.{0})∧
 (type_of% @List.reverse_nil.{0})∧
 (type_of% @List.take_succ_cons.{0})∧
 (type_of% @List.take_zero.{0})∧
 (type_of% @and_true)∧
 (type_of% @true_and):=
 ⟨@Cc,@ya,@Cf,@Ce,@xY,@Ch,@yc,@yb,@gG,@pN,@ni,@ng,@mD,@pf,@mE,@fK,@pU,@tL,@pV,@nK,@ir,@lZ,@oQ,@tj,@DX,@DW,@Hw,@ES,@k8,@CY,@mW,@mV,@bZ,@yg,@AG,@tn,@Em,@yd,@Ey,@Et,@Eu,@yw,@vM,@rg,@vL,@rD,@sw,@sr,@yi,@yh,@CE,@CD,@kY,@xN,@yu,@eW,@dX,@Ep,@Ew,@Er,@Es,@yo,@Eq,@AI,@mj,@gh,@xC,@EH,@cL,@eP,@bW,@bv,@bT,@jt,@fx,@T.get_set,@rj,@kZ,@kL,@sB,@Bo,@qh,@iY,@qg,@eg,@j9,@xQ,@xO,@pq,@qU,@Ca,@BP,@wN,@wO,@BU,@BX,@B1,@BY,@B3,@BT,@BV,@B6,@B5,@gz,@B4,@qZ,@qY,@BW,@vw,@ER,@EP,@xV,@xT,@tf,@xR,@xU,@qX,@xX,@xW,@xP,@qV,@qW,@tW,@qL,@oZ,@qI,@qJ,@oW,@oV,@mB,@kS,@oY,@oX,@qM,@qS,@xM,@bV,@oP,@jS,@dV,@fU,@cN,@aQ,@aX,@cond_true.{1},@cond_false.{1},@Nat.zero_lt_one,@Nat.lt_add_one,@decide_eq_true_eq,@Bool.not_true,@Bool.not_false,@Bool.false_eq_true,@Bool.true_eq_false,@decide_true,@decide_false,@eq_self.{1},@Option.map_some.{0,0},@Option.bind_some.{0,0},@Nat.zero_add,@Nat.add_zero,@Nat.zero_mul,@Nat.zero_ne_one,@Nat.one_ne_zero,@List.append_nil.{0},@List.nil_append.{0},@List.cons_append.{0},@Option.isSome_some.{0},@Option.isSome_none.{0},@Option.isNone_some.{0},@Option.isNone_none.{0},@W_d,@Ci,@Hx,@Hy,@c7,@Hh,@Hi,@yl,@CG,@AW,@vB,@lU,@Hz,@HA,@yj,@CF,@qd,@nL,@du,@yp,@vJ,@pS,@wX,@vx,@List.map_cons.{0,0},@List.map_nil.{0,0},@List.length_cons.{0},@List.length_nil.{0},@List.drop_succ_cons.{0},@List.drop_zero.{0},@List.getElem?_cons_succ.{0},@List.getElem?_cons_zero.{0},@List.reverse_cons.{0},@List.reverse_nil.{0},@List.take_succ_cons.{0},@List.take_zero.{0},@and_true,@true_and⟩
variable {call : aD}
theorem WF.hnew{h:Heap}(w:WF h)(k:Blk):WF (hnew h k):=by
 intro p hp;have hp':h.next+1≤p:=hp;have:=w p (by omega);exact⟨by show(h.bl.set _ _).get p=none;rw[T.get_set_ne _ _ (by omega)];exact this.1,this.2⟩
theorem Fr.hnew{h:Heap}(w:WF h)(k:Blk):Fr [] h (hnew h k) where
 next:=Nat.le_succ _
 wf:=w.hnew k
 own:=fun b c _ o=>by
  have:=o.lt w;obtain⟨f,k',e,x⟩:=o;exact⟨f,k',by show(h.bl.set _ _).get b=_;rw[T.get_set_ne _ _ (by omega)];exact e,x⟩
 pl:=fun b c _ o=>by
  have:=o.own.lt w;obtain⟨⟨k',e⟩,f⟩:=o;exact⟨⟨k',by show(h.bl.set _ _).get b=_;rw[T.get_set_ne _ _ (by omega)];exact e⟩,f⟩
 lp:=fun b x _ e=>by
  have:b≠h.next:=by rintro rfl;rw[(w _ (Nat.le_refl _)).1]at e;cases e
  show(h.bl.set _ _).get b=_;rw[T.get_set_ne _ _ this];exact e
 ro:=fun b c r=>r.new w _
structure FrB(S:List Nat)(B:Nat)(h h':Heap):Prop where
 next:h.next≤h'.next
 wf:WF h'
 own:∀b c,b∉S→Own h b c→Own h' b c
 pl:∀b c,b∉S→Pl h b c→Pl h' b c
 lp:∀b x,b≠B→Dl x=true→h.bl.get b=some x→h'.bl.get b=some x
 ro:∀b c,Rs h b c→Rs h' b c
theorem Fr.b{S S':List Nat}{h h':Heap}{B:Nat}(f:Fr S' h h')(hs:∀x∈S',x∈S):FrB S B h h':=⟨f.next,f.wf,fun b c hb o=>f.own b c (fun q=>hb (hs b q)) o,fun b c hb o=>f.pl b c (fun q=>hb (hs b q)) o,fun b x _ hx e=>f.lp b x hx e,f.ro⟩
theorem FrB.trans{S:List Nat}{h h1 h2:Heap}{B:Nat}(a:FrB S B h h1)(b:FrB S B h1 h2):FrB S B h h2:=
 ⟨Nat.le_trans a.next b.next,b.wf,fun x c hx o=>b.own x c hx (a.own x c hx o),fun x c hx o=>b.pl x c hx (a.pl x c hx o),fun x k hx hk o=>b.lp x k hx hk (a.lp x k hx hk o),fun x c r=>b.ro x c (a.ro x c r)⟩
theorem FrB.hset{S:List Nat}{h:Heap}(w:WF h){B:Nat}{x:Blk}(e:h.bl.get B=some x)(hx:Dl x=true)(k:Blk):FrB S B h (hset h B k):=by
 have hB:B<h.next:=by
  rcases Nat.lt_or_ge B h.next with q|q
  ·exact q
  ·rw[(w B q).1]at e;cases e
 refine⟨Nat.le_refl _,?_,?_,?_,?_,?_⟩
 ·intro p hp;have hp':h.next≤p:=hp;have:=w p hp';exact⟨by show(h.bl.set _ _).get p=none;rw[T.get_set_ne _ _ (by omega)];exact this.1,this.2⟩
 ·rintro b c _ ⟨f,k',e',y⟩;have:b≠B:=by rintro rfl;rw[e]at e';cases e';cases hx
  exact⟨f,k',by show(h.bl.set _ _).get b=_;rw[T.get_set_ne _ _ this];exact e',y⟩
 ·rintro b c _ ⟨⟨k',e'⟩,y⟩;have:b≠B:=by rintro rfl;rw[e]at e';cases e';cases hx
  exact⟨⟨k',by show(h.bl.set _ _).get b=_;rw[T.get_set_ne _ _ this];exact e'⟩,y⟩
 ·intro b y hb hy e';show(h.bl.set _ _).get b=_;rw[T.get_set_ne _ _ hb];exact e'
 ·rintro b c ⟨f,k',ow,e1,e2,e3,e4⟩;have h1:b≠B:=by rintro rfl;rw[e]at e1;cases e1;cases hx
  have h2:ow≠B:=by rintro rfl;rw[e]at e3;cases e3
  exact⟨f,k',ow,by show(h.bl.set _ _).get b=_;rw[T.get_set_ne _ _ h1];exact e1,e2,by show(h.bl.set _ _).get ow=_;rw[T.get_set_ne _ _ h2];exact e3,e4⟩
theorem FrB.fr{S:List Nat}{B:Nat}{h h1 h2:Heap}(w:WF h)(f:Fr [] h h1)(a:FrB S B h1 h2)(hs:∀x∈S,h.next≤x)(hB:h.next≤B):Fr [] h h2:=
 ⟨Nat.le_trans f.next a.next,a.wf,fun b c _ o=>a.own b c (fun q=>by have:=hs b q;have:=o.lt w;omega) (f.get o),fun b c _ o=>a.pl b c (fun q=>by have:=hs b q;have:=o.own.lt w;omega) (f.pl b c (by simp) o),
  fun b x hx e=>a.lp b x (by rintro rfl;rw[(w _ hB).1]at e;cases e) hx (f.lp b x hx e),fun b c r=>a.ro b c (f.ro b c r)⟩
theorem A4(h:Heap)(B:Nat)(k:Blk):(hset h B k).bl.get B=some k:=T.get_set_self _ _ _
theorem oG(h:Heap)(k:Blk):(hnew h k).bl.get h.next=some k:=T.get_set_self _ _ _
def Rdb(h:Heap)(b:Nat)(c:List V):Prop:=Own h b c∨Rs h b c
theorem Rdb.cells{h:Heap}{b:Nat}{c:List V}(a:Rdb h b c):cW h b=some c:=by
 rcases a with o|⟨f,k,ow,e1,e2,_⟩
 ·exact o.cells
 ·simp only[cW,e1,rd,e2,Nat.beq_refl,Bool.or_true];rfl
theorem Rdb.ld1{h:Heap}{b:Nat}{c:List V}(a:Rdb h b c)(o:Nat):ag h b o=nth c o:=by simp only[ag,a.cells]
theorem Rdb.ld{h:Heap}{b:Nat}{c:List V}(a:Rdb h b c)(o n:Nat):ak h b o n=cJ n (eM c o):=by simp only[ak,a.cells]
def ASl(h:Heap)(esz:Nat)(v:V)(n:Nat)(cs:List V):Prop:=
 cs.length=n*esz∧match v with
 |.nils=>n=0
 |.sliceE=>n=0
 |.sliceZ _ _=>n=0
 |.slice b o len cap=>len=n∧n≤cap∧∃c,Rdb h b c∧o+n*esz≤c.length∧cs=(c.drop o).take (n*esz)
 |.sliceU b o len e=>len=n∧e=esz∧∃c,Rdb h b c∧o+n*esz≤c.length∧cs=(c.drop o).take (n*esz)
 |_=>False
theorem Sl.a{h:Heap}{esz:Nat}{v:V}{n:Nat}{cs:List V}(a:Sl h esz v n cs):ASl h esz v n cs:=by
 obtain⟨hl,a⟩:=a;refine⟨hl,?_⟩;cases v with
 |slice b o l k=>obtain⟨h1,h2,c,o,x⟩:=a;exact⟨h1,h2,c,.inl o,x⟩
 |sliceU b o l k=>obtain⟨h1,h2,c,o,x⟩:=a;exact⟨h1,h2,c,.inl o,x⟩
 |sliceZ _ _=>exact a.elim
 |_=>exact a
theorem ASl.map{h h':Heap}{esz:Nat}{v:V}{n:Nat}{cs:List V}(a:ASl h esz v n cs)(f:∀b c,Rdb h b c→(cs≠[]→∃x∈cs,x∈c)→Rdb h' b c):ASl h' esz v n cs:=by
 obtain⟨hl,a⟩:=a;refine⟨hl,?_⟩;have key:∀(o:Nat)(c:List V),cs=(c.drop o).take (n*esz)→cs≠[]→∃x∈cs,x∈c:=by
  intro o c e hne;obtain⟨x,hx⟩:=List.exists_mem_of_ne_nil cs hne;exact⟨x,hx,List.mem_of_mem_drop (List.mem_of_mem_take (e▸hx))⟩
 cases v with
 |slice b o l k=>obtain⟨h1,h2,c,oc,x1,x2⟩:=a;exact⟨h1,h2,c,f b c oc (key o c x2),x1,x2⟩
 |sliceU b o l k=>obtain⟨h1,h2,c,oc,x1,x2⟩:=a;exact⟨h1,h2,c,f b c oc (key o c x2),x1,x2⟩
 |_=>exact a
theorem ASl.fr{h h':Heap}{esz:Nat}{v:V}{n:Nat}{cs:List V}(a:ASl h esz v n cs)(f:Fr [] h h'):ASl h' esz v n cs:=a.map fun b c r _=>r.imp (fun o=>f.get o) (f.ro b c)
theorem ASl.len{h:Heap}{esz:Nat}{v:V}{n:Nat}{cs:List V}(a:ASl h esz v n cs):aP .lenS [v]=some (.int .i64 n):=by
 obtain⟨hl,a⟩:=a;cases v with
 |slice b o l k=>obtain⟨rfl,_⟩:=a;rfl
 |sliceU b o l k=>obtain⟨rfl,_⟩:=a;rfl
 |nils=>have a:n=0:=a;subst a;rfl
 |sliceE=>have a:n=0:=a;subst a;rfl
 |sliceZ _ _=>have a:n=0:=a;subst a;rfl
 |_=>exact a.elim
theorem ASl.one{h:Heap}{esz:Nat}{v:V}{n:Nat}{cs:List V}(a:ASl h esz v n cs):v.one=true:=by
 obtain⟨hl,a⟩:=a;cases v with
 |slice b o l k=>rfl
 |sliceU b o l k=>rfl
 |nils=>rfl
 |sliceE=>rfl
 |sliceZ _ _=>rfl
 |_=>exact a.elim
theorem ASl.ix{h:Heap}{esz:Nat}{v:V}{n:Nat}{cs:List V}(a:ASl h esz v n cs)(k:IntKind)(i:Int)(h0:0≤i)(h1:i<n):
 ∃b o,aP (.ixs esz) [v,.int k i]=some (.ptr b o)∧(∀j,j<esz→ag h b (o+j)=cs[i.toNat*esz+j]?)∧ak h b o esz=some ((cs.drop (i.toNat*esz)).take esz):=by
 obtain⟨hl,a⟩:=a;obtain⟨m,rfl⟩:∃m:Nat,i=m:=⟨i.toNat,by omega⟩;have hm:m<n:=by omega
 have hmul:m*esz+esz≤n*esz:=by rw[←Nat.succ_mul];exact Nat.mul_le_mul_right _ hm
 have main:∀(b o:Nat)(c:List V),Rdb h b c→o+n*esz≤c.length→cs=(c.drop o).take (n*esz)→
  (∀j,j<esz→ag h b (o+m*esz+j)=cs[m*esz+j]?)∧ak h b (o+m*esz) esz=some ((cs.drop (m*esz)).take esz):=by
  intro b o c hc hlen e;subst e;constructor
  ·intro j hj;rw[hc.ld1,iw,List.getElem?_take,if_pos (by omega),List.getElem?_drop];congr 1;omega
  ·rw[hc.ld,bq,aU _ _ (by simp;omega),List.drop_take,List.drop_drop,List.take_take];congr 2;omega
 cases v with
 |slice b o l q=>
  obtain⟨rfl,_,c,hc,hlen,e⟩:=a;exact⟨b,o+m*esz,fC _ _ _ _ _ _ _ h0 h1,main b o c hc hlen e⟩
 |sliceU b o l q=>
  obtain⟨rfl,rfl,c,hc,hlen,e⟩:=a;exact⟨b,o+m*q,kg _ _ _ _ _ _ _ h0 h1,main b o c hc hlen e⟩
 |nils=>have a:n=0:=a;omega
 |sliceE=>have a:n=0:=a;omega
 |sliceZ _ _=>have a:n=0:=a;omega
 |_=>exact a.elim
section
variable {α : Type} {f : α → List V} {k : Nat}
def ARecs(f:α→List V)(k:Nat)(h:Heap)(v:V)(L:List α):Prop:=ASl h k v L.length (L.flatMap f)
theorem Recs.a{h:Heap}{v:V}{L:List α}(a:Recs f k h v L):ARecs f k h v L:=Sl.a a
theorem ARecs.fr{h h':Heap}{v:V}{L:List α}(a:ARecs f k h v L)(r:Fr [] h h'):ARecs f k h' v L:=ASl.fr a r
theorem ARecs.len{h:Heap}{v:V}{L:List α}(a:ARecs f k h v L):aP .lenS [v]=some (.int .i64 L.length):=ASl.len a
theorem ARecs.one{h:Heap}{v:V}{L:List α}(a:ARecs f k h v L):v.one=true:=ASl.one a
theorem ARecs.ix{h:Heap}{v:V}{L:List α}(hf:∀x,(f x).length=k)(a:ARecs f k h v L)(kd:IntKind)(i:Int)(h0:0≤i)(h1:i<L.length):
 ∃b o x,aP (.ixs k) [v,.int kd i]=some (.ptr b o)∧(∀j,j<k→ag h b (o+j)=(f x)[j]?)∧ak h b o k=some (f x)∧L[i.toNat]? =some x:=by
 obtain⟨b,o,e,g,g2⟩:=ASl.ix a kd i h0 h1;have hi:i.toNat<L.length:=by omega
 have e3:L[i.toNat]? =some L[i.toNat]:=by simp[hi]
 have ed:L.drop i.toNat=L[i.toNat]::L.drop (i.toNat+1):=List.drop_eq_getElem_cons hi;refine⟨b,o,L[i.toNat],e,fun j hj=>?_,?_,e3⟩
 ·rw[g j hj,←List.getElem?_drop,d8 hf,ed,List.flatMap_cons,List.getElem?_append_left (by rw[hf];exact hj)]
 ·rw[g2,d8 hf,ed,List.flatMap_cons];have:=hf L[i.toNat];rw[List.take_append,List.take_of_length_le (by omega),this];simp
end
end Go.Ev
open Go.RowKit
namespace Go.Ev
theorem Rdb.rd{h:Heap}{b:Nat}{c:List V}(o:Rdb h b c):∃f k,h.bl.get b=some (.row c f k)∧rd h b f k=true:=by
 rcases o with⟨f,k,e,x⟩|⟨f,k,ow,e1,e2,_⟩
 ·exact⟨f,k,e,ku (by rcases x with⟨a,_⟩|a;exact .inl a;exact .inr a)⟩
 ·refine⟨f,k,e1,?_⟩;unfold Ev.rd;rw[e2];simp
theorem HRel.cellsR{m:M}{h:Heap}{w:World}(H:HRel m h w){p:Nat}{loc:Loc}{c:List V}(hm:m p=some loc)(o:Rdb h p c):
 ∃C el fz,w.heap[loc.block]? =some (.cells C el fz)∧loc.base+loc.room≤C.size∧∀(i:Nat) v,c[i]? =some v→∃x,C[loc.base+i]? =some x∧VRel m v x:=by
 obtain⟨f,k,e,r⟩:=o.rd;obtain⟨b,hb,rel⟩:=H.blk p loc hm;rw[e]at hb;cases hb;obtain⟨C,el,fz,a1,a2,_,a4,_⟩:=rel r;exact⟨C,el,fz,a1,a2,a4⟩
theorem wE{m m':M}{h h':Heap}{w w':World}(H:HRel m h w)(H':HRel m' h' w')(E:Ext m h w m' h' w')
 (flat:∀p loc,m p=some loc→∃c,Rdb h p c∧Rdb h' p c∧c.length=loc.room∧∀v∈c,∃k n,v=V.int k n):Below w.heap.size w w':=by
 refine⟨E.os,E.tape,E.output,E.size,fun b hb=>?_⟩;by_cases cc:∃p loc,m p=some loc∧loc.block=b
 ·obtain⟨p,loc,hp,rfl⟩:=cc;obtain⟨cs,o,o',len,ints⟩:=flat p loc hp;obtain⟨C,el,fz,hC,hsz,hcell⟩:=H.cellsR hp o;obtain⟨x',hx',k⟩:=E.out loc.block hb _ hC;cases x' with
  |cells C' el' fz'=>
   obtain⟨rfl,rfl,ksz,kout⟩:=k;rw[hx',hC];have:C'=C:=by
    apply Array.ext_getElem?;intro j;by_cases cv:Cov m loc.block j
    ·obtain⟨q,lq,hq,hbq,j1,j2⟩:=cv;obtain⟨cq,oq,oq',lenq,intq⟩:=flat q lq hq;obtain⟨C1,el1,fz1,hC1,_,hc1⟩:=H.cellsR hq oq;obtain⟨C2,el2,fz2,hC2,_,hc2⟩:=H'.cellsR (E.le _ _ hq) oq';rw[hbq]at hC1 hC2;rw[hC]at hC1;cases hC1;rw[hx']at hC2;cases hC2;have hlt:j-lq.base<cq.length:=by omega
     obtain⟨k,n,en⟩:=intq cq[j-lq.base] (List.getElem_mem hlt);have ec:cq[j-lq.base]? =some (.int k n):=by rw[←en];exact List.getElem?_eq_getElem hlt
     obtain⟨x1,e1,r1⟩:=hc1 (j-lq.base) _ ec;obtain⟨x2,e2,r2⟩:=hc2 (j-lq.base) _ ec;simp only[VRel]at r1 r2;rw[show lq.base+(j-lq.base)=j by omega]at e1 e2;rw[e1,e2,r1,r2]
    ·exact kout j cv
   rw[this]
  |_=>simp at k
 ·exact E.keep b (fun p loc hp e=>cc ⟨p,loc,hp,e⟩) hb
noncomputable def put(t:T Blk):List (List V)→Nat→T Blk
 |[],_=>t
 |c::cs,i=>put (t.set i (.row c 1 0)) cs (i+1)
theorem rU:∀(cs:List (List V))(i:Nat)(t:T Blk)(p:Nat),(put t cs i).get p=if i≤p∧p<i+cs.length then(cs[p-i]?).map (fun c=>.row c 1 0)else t.get p
 |[],i,t,p=>by rw[if_neg (by simp)];rfl
 |c::cs,i,t,p=>by
  show(put (t.set i (.row c 1 0)) cs (i+1)).get p=_;rw[rU cs (i+1),T.get_set];simp only[List.length_cons];by_cases q:p=i
  ·subst q;rw[if_neg (by omega),if_pos rfl,if_pos (by omega)];simp
  ·rw[if_neg q];by_cases r:i+1≤p∧p<i+1+cs.length
   ·rw[if_pos r,if_pos (by omega),show p-i=(p-(i+1))+1 by omega];simp
   ·rw[if_neg r,if_neg (by omega)]
noncomputable def hS(Cs:List (List V)):Heap:=⟨put T.e Cs 2,2+Cs.length,(T.e:T (Nat×Nat)).set 1 (1,0)⟩
def mS(Ms:List (Option Loc)):M:=fun p=>if 2≤p then(Ms[p-2]?).join else none
section
variable {Cs : List (List V)} {Ms : List (Option Loc)}
theorem uB{i:Nat}{c:List V}(h:Cs[i]? =some c):(hS Cs).bl.get (2+i)=some (.row c 1 0):=by
 have hi:=(List.getElem?_eq_some_iff.1 h).1;show(put _ Cs 2).get (2+i)=_;rw[rU,if_pos (by omega),show 2+i-2=i by omega,h];rfl
theorem wo{p:Nat}(h:p<2∨2+Cs.length≤p):(hS Cs).bl.get p=none:=by
 show(put _ Cs 2).get p=_;rw[rU,if_neg (by omega)];rfl
theorem A5:(hS Cs).fams.get 1=some (1,0):=by show((T.e:T (Nat×Nat)).set 1 (1,0)).get 1=_;exact T.get_set_self _ _ _
theorem HS{p:Nat}(h:p≠1):(hS Cs).fams.get p=none:=by show((T.e:T (Nat×Nat)).set 1 (1,0)).get p=none;rw[T.get_set_ne _ _ h];rfl
theorem ED:WF (hS Cs):=fun p hp=>⟨wo (.inr hp),HS (by have:2+Cs.length≤p:=hp;omega)⟩
theorem EE{i:Nat}{c:List V}(h:Cs[i]? =some c):Rs (hS Cs) (2+i) c:=⟨1,0,1,uB h,A5,wo (.inl (by omega)),by show 1<2+Cs.length;omega⟩
theorem jk{p:Nat}{loc:Loc}(h:mS Ms p=some loc):∃i,p=2+i∧Ms[i]? =some (some loc):=by
 unfold mS at h;by_cases d:2≤p
 ·rw[if_pos d]at h;refine⟨p-2,by omega,?_⟩;cases e:Ms[p-2]? with
  |none=>rw[e]at h;cases h
  |some o=>rw[e]at h;cases o with
   |none=>cases h
   |some l=>cases h;rfl
 ·rw[if_neg d]at h;cases h
theorem GP{i:Nat}{loc:Loc}(h:Ms[i]? =some (some loc)):mS Ms (2+i)=some loc:=by
 unfold mS;rw[if_pos (by omega),show 2+i-2=i by omega,h];rfl
def GC(W:World)(loc:Loc)(c:List V):Prop:=loc.lp=none∧c.length=loc.room∧(∃C ty fz,W.heap[loc.block]? =some (.cells C ty fz)∧loc.base+loc.room≤C.size∧
 (∀(i:Nat) v,c[i]? =some v→∃k n,v=.int k n∧C[loc.base+i]? =some (.int k n))∧∀i:Nat,i<loc.room→¬(fz.1≤loc.base+i∧loc.base+i<fz.2))
theorem HO{W:World}(hl:Ms.length=Cs.length)(he:∀(i:Nat) loc c,Ms[i]? =some (some loc)→Cs[i]? =some c→GC W loc c):HRel (mS Ms) (hS Cs) W:=by
 have cget:∀(i:Nat) loc,Ms[i]? =some (some loc)→∃c,Cs[i]? =some c:=fun i loc h=>by
  have:=(List.getElem?_eq_some_iff.1 h).1;exact⟨_,List.getElem?_eq_getElem (by omega)⟩
 refine⟨⟨?_,ED⟩,?_,?_,?_⟩
 ·intro p c f k hp;by_cases q2:2≤p∧p<2+Cs.length
  ·have hc:Cs[p-2]? =some (Cs[p-2]'(by omega)):=List.getElem?_eq_getElem (by omega);have:=uB hc;rw[show 2+(p-2)=p by omega,hp]at this;cases this;rw[A5];exact Nat.le_refl _
  ·rw[wo (by omega)]at hp;cases hp
 ·intro p loc hp;obtain⟨i,rfl,h⟩:=jk hp;obtain⟨c,hc⟩:=cget i loc h;obtain⟨_,hcl,C,ty,fz,h1,h2,h3,h4⟩:=he i loc c h hc;exact⟨_,uB hc,fun _=>⟨C,ty,fz,h1,h2,by omega,fun j v hv=>by obtain⟨k,n,rfl,e⟩:=h3 j v hv;exact⟨_,e,rfl⟩,h4⟩⟩
 ·intro p loc hp;obtain⟨i,rfl,h⟩:=jk hp;obtain⟨c,hc⟩:=cget i loc h;obtain⟨_,_,C,ty,fz,h1,_⟩:=he i loc c h hc;exact(Array.getElem?_eq_some_iff.1 h1).1
 ·intro p q lp lq hp hq hbl hne;obtain⟨i,rfl,h⟩:=jk hp;obtain⟨j,rfl,h'⟩:=jk hq;obtain⟨c,hc⟩:=cget i lp h;obtain⟨c',hc'⟩:=cget j lq h';refine⟨c,c',1,0,0,uB hc,uB hc',fun e hf=>?_⟩;rw[A5]at hf;simp only[Option.some.injEq,Prod.mk.injEq]at hf;omega
end
abbrev lV:=IntKind×Int
def cV(c:lV):V:=.int c.1 c.2
def cX(c:lV):Value:=.int c.1 c.2
theorem flat_len'{α β:Type}{g:α→List β}{k:Nat}(gl:∀a,(g a).length=k):∀L:List α,(L.flatMap g).length=L.length*k
 |[]=>by simp
 |x::L=>by simp[List.flatMap_cons,flat_len' gl L,gl,Nat.succ_mul,Nat.add_comm]
def tp(W:World)(x:Value)(k n:Nat)(cs:List lV):Prop:=cs.length=n*k∧
 ((x=.slice none 0 0∧n=0)∨(∃a cap,x=.slice (some a) 0 cap∧n=0)∨
 ∃b off cap C t fz,x=.slice (some ⟨b,off,none⟩) n cap∧n≤cap∧0<n∧W.heap[b]? =some (.cells C t fz)∧off+n*k≤C.size∧
  (∀i:Nat,i<n*k→¬(fz.1≤off+i∧off+i<fz.2))∧∀(i:Nat) c,cs[i]? =some c→C[off+i]? =some (cX c))
theorem pick{W:World}{x:Value}{k n:Nat}{cs:List lV}(cm:tp W x k n cs)(p:Nat):∃(v:V)(ml:Option Loc)(c:List V),
 (∀m:M,(∀loc,ml=some loc→m p=some loc)→VRel m v x)∧(∀loc,ml=some loc→GC W loc c)∧(∀h,(ml≠none→Rs h p c)→ASl h k v n (cs.map cV))∧v.one=true∧∀u∈c,∃k n,u=V.int k n:=by
 obtain⟨fl,cm⟩:=cm;have fl':(cs.map cV).length=n*k:=by simpa using fl
 rcases cm with⟨rfl,rfl⟩|⟨a,cap,rfl,rfl⟩|⟨b,off,cap,C,ty,fz,rfl,hcap,hpos,hC,hsz,hfz,hcell⟩
 ·exact⟨.nils,none,[],fun m _=>rfl,(fun loc h=>by cases h),fun h _=>⟨fl',rfl⟩,rfl,by simp⟩
 ·exact⟨.sliceZ a cap,none,[],fun m _=>rfl,(fun loc h=>by cases h),fun h _=>⟨fl',rfl⟩,rfl,by simp⟩
 ·have ci:∀(i:Nat) v,(cs.map cV)[i]? =some v→∃k n,v=.int k n∧C[off+i]? =some (.int k n):=by
   intro i v hv;rw[List.getElem?_map]at hv;cases e:cs[i]? with
   |none=>rw[e]at hv;cases hv
   |some c=>rw[e]at hv;cases hv;exact⟨_,_,rfl,hcell i c e⟩
  refine⟨.slice p 0 n cap,some ⟨b,off,n*k,none⟩,cs.map cV,fun m hm=>⟨_,hm _ rfl,hcap,by simp⟩,?_,fun h rs=>⟨fl',rfl,hcap,_,.inr (rs (by simp)),by omega,by rw[List.drop_zero,List.take_of_length_le (by omega)]⟩,rfl,?_⟩
  ·rintro loc h;cases h;exact⟨rfl,fl',C,ty,fz,hC,hsz,ci,hfz⟩
  ·intro u hu;obtain⟨c,_,rfl⟩:=List.mem_map.1 hu;exact⟨_,_,rfl⟩
theorem Ek{W:World}:∀(L:List (Value×Nat×Nat×List lV))(p:Nat),(∀q∈L,tp W q.1 q.2.1 q.2.2.1 q.2.2.2)→∃(vs:List V)(Ms:List (Option Loc))(Cs:List (List V)),vs.length=L.length∧Ms.length=L.length∧Cs.length=L.length∧
 (∀m:M,(∀(i:Nat) loc,Ms[i]? =some (some loc)→m (p+i)=some loc)→∀(i:Nat) v,vs[i]? =some v→∃q,L[i]? =some q∧VRel m v q.1)∧
 (∀(i:Nat) loc c,Ms[i]? =some (some loc)→Cs[i]? =some c→GC W loc c)∧
 (∀h,(∀(i:Nat) c,Cs[i]? =some c→Rs h (p+i) c)→∀(i:Nat) v q,vs[i]? =some v→L[i]? =some q→ASl h q.2.1 v q.2.2.1 (q.2.2.2.map cV))∧∀c∈Cs,∀u∈c,∃k n,u=V.int k n
 |[],p,_=>⟨[],[],[],rfl,rfl,rfl,fun m _ i v h=>by simp at h,fun i loc c h=>by simp at h,fun h _ i v q hv=>by simp at hv,fun c hc=>by simp at hc⟩
 |s::S,p,hs=>by
  obtain⟨v,ml,c,q1,q2,q3,_,q6⟩:=pick (hs s (by simp)) p;obtain⟨vs,Ms,Cs,l1,l2,l3,r1,r2,r3,r5⟩:=Ek S (p+1) (fun s' h=>hs s' (by simp[h]));refine⟨v::vs,ml::Ms,c::Cs,by simp[l1],by simp[l2],by simp[l3],?_,?_,?_,?_⟩
  ·intro m hm i u hu;cases i with
   |zero=>simp at hu;subst hu;exact⟨s,rfl,q1 m fun loc h=>by have:=hm 0 loc (by simp[h]);simpa using this⟩
   |succ i=>
    obtain⟨q,h1,h2⟩:=r1 m (fun i loc h=>by have:=hm (i+1) loc (by simpa using h);rwa[show p+(i+1)=p+1+i by omega]at this) i u (by simpa using hu);exact⟨q,by simpa using h1,h2⟩
  ·intro i loc c' h1 h2;cases i with
   |zero=>simp at h1 h2;subst h2;exact q2 loc h1
   |succ i=>exact r2 i loc c' (by simpa using h1) (by simpa using h2)
  ·intro h rs i u q hu hq;cases i with
   |zero=>simp at hu hq;subst hu hq;exact q3 h fun _=>by have:=rs 0 c (by simp);simpa using this
   |succ i=>exact r3 h (fun i c' hc=>by have:=rs (i+1) c' (by simpa using hc);rwa[show p+(i+1)=p+1+i by omega]at this) i u q (by simpa using hu) (by simpa using hq)
  ·intro c' hc u hu;rcases List.mem_cons.1 hc with rfl|hc
   ·exact q6 u hu
   ·exact r5 c' hc u hu
end Go.Ev
namespace Go.Ev.Lay
def val:List Nat→Nat
 |[]=>0
 |b::l=>b+256*val l
def rep(m:Nat)(l:List Nat):Nat:=val (l.map fun _=>m)
def f1(b:Nat):Nat:=((b/2)&&&85)+(b&&&85)
def f2(b:Nat):Nat:=((b/4)&&&51)+(b&&&51)
def f3(b:Nat):Nat:=(b/16+b)%16
theorem dv(x y k:Nat)(hx:x<k):(x+k*y)/k=y:=by
 rw[Nat.add_mul_div_left _ _ (by omega),Nat.div_eq_of_lt hx,Nat.zero_add]
def GG:List Nat:=[0,1,56,2,57,49,28,3,61,58,42,50,38,29,17,4,62,47,59,36,45,43,51,22,53,39,33,30,24,18,12,5,63,55,48,27,60,41,37,16,46,35,44,21,52,32,23,11,54,26,40,15,34,20,31,10,25,14,19,9,13,8,7,6]
def HL:List V:=GG.map fun(x:Nat)=>V.int .u8 (x:Int)
end Go.Ev.Lay
namespace Go.Ev.Ab
abbrev i(k:Int):Opd:=.c (.int .i64 k)
abbrev b(k:Int):Opd:=.c (.int .u8 k)
abbrev u(k:Int):Opd:=.c (.int .u64 k)
abbrev tt:Opd:=.c (.bool true)
abbrev ff:Opd:=.c (.bool false)
abbrev p(k:PK)(x:List Opd):IStep:=⟨none,.p k x,none⟩
abbrev q(k:PK)(x:List Opd)(d:Nat):IStep:=⟨none,.p k x,some d⟩
abbrev m(x:Opd):IStep:=⟨none,.p .mv [x],none⟩
abbrev o(x:Opd)(d:Nat):IStep:=⟨none,.p .mv [x],some d⟩
abbrev a(k:Nat):IStep:=⟨none,.p (.faddr k) [.l 0],none⟩
abbrev A(k v:Nat):IStep:=⟨none,.p (.faddr k) [.v v],none⟩
abbrev e(k:Nat):IStep:=⟨none,.p (.ext k) [.l k],none⟩
abbrev L:IStep:=⟨none,.ld 1 false (.l 0),none⟩
abbrev c(f:Nat)(x:List Opd):IStep:=⟨none,.cf f x,none⟩
abbrev n(o:IOp):IStep:=⟨none,o,none⟩
abbrev N(o:IOp)(d:Nat):IStep:=⟨none,o,some d⟩
abbrev f(j:Nat)(k:PK)(y:List Opd):IStep:=⟨some (.l j,false),.p k y,none⟩
abbrev y(j:Nat)(x:Opd):IStep:=⟨some (.l j,false),.p .mv [x],none⟩
abbrev z(j:Nat)(x:Opd):IStep:=⟨some (.l j,true),.p .mv [x],none⟩
abbrev t(j:Nat)(k:PK)(y:List Opd):IStep:=⟨some (.l j,true),.p k y,none⟩
abbrev g(j:Nat)(o:IOp):IStep:=⟨some (.l j,false),o,none⟩
abbrev h(j:Nat)(o:IOp):IStep:=⟨some (.l j,true),o,none⟩
abbrev G(x:Opd)(w:Bool)(o:IOp)(d:Nat):IStep:=⟨some (x,w),o,some d⟩
abbrev s(l:List IStep)(k:IC):IC:=.seq (.ops l) k
abbrev zK:List V:=[.int .u8 0,.str [],.str [],.nils,.str [],.nils,.int .i64 0,.bool false,.int .i64 0]
abbrev zE:List V:=[.int .u64 0,.int .u8 0,.str [],.nils,.int .i64 0,.bool false]
abbrev zO:List V:=[.int .u8 0,.int .i64 0,.int .i64 0,.int .i64 0,.nils]
abbrev zN:List V:=[.int .u8 0,.str [],.str [],.nils,.str [],.nils]
abbrev zI:List V:=[.int .u64 0,.int .u8 0,.str [],.nils]
abbrev r(v:Nat)(l:List IStep):IC:=.cond (.v v) (.seq (.ops l) .ret) .skip
abbrev ad:PK:=.ib .add
abbrev su:PK:=.ib .sub
abbrev mu:PK:=.ib .mul
abbrev eq:PK:=.ib .eql
abbrev ne:PK:=.ib .neq
abbrev lt:PK:=.ib .lss
abbrev gt:PK:=.ib .gtr
abbrev le:PK:=.ib .leq
abbrev ge:PK:=.ib .geq
abbrev P(k:Nat):IStep:=⟨none,.p .pick [.l k,.c (.bool true),.l 0],none⟩
abbrev Q(k:Nat):IStep:=⟨none,.p .pick [.l k,.l 0,.c (.bool false)],none⟩
abbrev v(k:Nat):IStep:=⟨none,.p .nilck [.v k],none⟩
abbrev k:IStep:=⟨none,.p .nilck [.l 0],none⟩
abbrev l:IOp:=.ld 1 false (.l 0)
abbrev d(k j:Nat):IStep:=⟨none,.ld k true (.l j),none⟩
abbrev D(k j:Nat):IStep:=⟨none,.ld k true (.v j),none⟩
abbrev ls:IStep:=⟨none,.p .lenS [.l 0],none⟩
abbrev lv(k:Nat):IStep:=⟨none,.p .lenS [.v k],none⟩
abbrev S(k j:Nat):IStep:=⟨none,.st k (.v j) (.l 0),none⟩
abbrev w(k:Nat):IStep:=⟨none,.st k (.l 0) (.l 1),none⟩
abbrev al(z:List V)(d:Nat):IStep:=⟨none,.al z,some d⟩
abbrev bx(k d:Nat):IStep:=⟨none,.bx (.v k),some d⟩
abbrev x(k n:Nat):IC:=.cond (.v k) .skip (.exit n)
abbrev I(k:Nat):IC:=.ops [m (.v k),p ad [.l 0,i 1],o (.l 0) k]
abbrev J(k:Nat):IC:=.ops [p ad [.v k,i 1],o (.l 0) k]
abbrev ds(l:List IStep)(B R:List Nat)(r:List (Nat×Nat×Nat))(t:List (Nat×Nat)):IC:=.dops l [] B R r t
abbrev lp(n k:Nat)(l:List IStep)(c b i:IC):IC:=.block n (.loop (.seq (.seq (.ops l) c) (.seq (.block k b) i)))
abbrev zH:List V:=[.int .u64 0,.int .i64 0]
abbrev fv(j:Nat)(k:PK)(y:List Opd):IStep:=⟨some (.v j,false),.p k y,none⟩
abbrev tv(j:Nat)(k:PK)(y:List Opd):IStep:=⟨some (.v j,true),.p k y,none⟩
abbrev gv(j:Nat)(o:IOp):IStep:=⟨some (.v j,false),o,none⟩
abbrev hv(j:Nat)(o:IOp):IStep:=⟨some (.v j,true),o,none⟩
abbrev Y:Opd:=.l 0
abbrev O:Opd:=.c (.int .i64 0)
abbrev U:List Opd:=[.l 0]
abbrev B(k:Nat):List Opd:=[.l k,.l 0]
abbrev O1(d:Nat):IStep:=⟨none,.p .mv [.l 0],some d⟩
abbrev O0(d:Nat):IStep:=⟨none,.p .mv [.c (.int .i64 0)],some d⟩
abbrev On(d:Nat):IStep:=⟨none,.p .mv [.c .nils],some d⟩
abbrev Of(d:Nat):IStep:=⟨none,.p .mv [.c (.bool false)],some d⟩
abbrev mv(k:Nat):IStep:=⟨none,.p .mv [.v k],none⟩
abbrev yv(j k:Nat):IStep:=⟨some (.l j,false),.p .mv [.v k],none⟩
abbrev zv(j k:Nat):IStep:=⟨some (.l j,true),.p .mv [.v k],none⟩
end Go.Ev.Ab
