/- An evaluator of the program, and contracts over it: EvWa to LayAb. -/
import Derived.Test.YthhhghfnhbocnaaGreatDoorP04
set_option linter.unusedSimpArgs false
set_option linter.unusedVariables false
set_option linter.constructorNameAsVariable false
set_option linter.unnecessarySimpa false
namespace Go.Ev
section
variable {call : CallF} {env : T V} {h : Heap} {loc : List V}
/-- an operation gives a value and a heap, and so -/
def OQ(o:Option (V×Heap))(K:V→Heap→Prop):Prop:=∃v h,o=some (v,h)∧K v h
theorem OQ_some(v:V)(h:Heap)(K:V→Heap→Prop):OQ (some (v,h)) K↔K v h:=
  ⟨fun⟨_,_,e,k⟩=>by cases e;exact k,fun k=>⟨v,h,rfl,k⟩⟩
def VQ(o:Option V)(K:V→Heap→Prop)(h:Heap):Prop:=∃v,o=some v∧K v h
theorem VQ_some(v:V)(K:V→Heap→Prop)(h:Heap):VQ (some v) K h↔K v h:=
  ⟨fun⟨_,e,k⟩=>by cases e;exact k,fun k=>⟨v,rfl,k⟩⟩
def HQ(o:Option Heap)(K:V→Heap→Prop):Prop:=∃h,o=some h∧K (.tup []) h
theorem HQ_some(h:Heap)(K:V→Heap→Prop):HQ (some h) K↔K (.tup []) h:=
  ⟨fun⟨_,e,k⟩=>by cases e;exact k,fun k=>⟨h,rfl,k⟩⟩
theorem OQ.mono{o:Option (V×Heap)}{K K':V→Heap→Prop}(a:OQ o K)(b:∀v h,K v h→K' v h):OQ o K':=by
  obtain⟨v,h,e,k⟩:=a;exact⟨v,h,e,b _ _ k⟩
theorem evO_l(k:Nat):evO loc env (.l k)=nth loc k:=rfl
theorem evO_v(s:Nat):evO loc env (.v s)=env.get s:=rfl
theorem evO_c(x:V):evO loc env (.c x)=some x:=rfl
theorem evO_g(n:Nat):evO loc env (.g n)=some (.ptr n 0):=rfl
def consO(a:Option V)(b:Option (List V)):Option (List V):=match a,b with
  |some v,some vs=>some (v::vs)
  |_,_=>none
theorem consO_some(v:V)(vs:List V):consO (some v) (some vs)=some (v::vs):=rfl
theorem evOs_nil:evOs loc env []=some []:=rfl
theorem evOs_c(x:Opd)(xs:List Opd):evOs loc env (x::xs)=consO (evO loc env x) (evOs loc env xs):=by
  show Option.rec (motive:=fun _=>Option (List V)) none (fun v=>Option.rec (motive:=fun _=>Option (List V)) none (fun vs=>some (v::vs)) (evOs loc env xs)) (evO loc env x)=_;cases evO loc env x<;>cases evOs loc env xs<;>rfl
theorem nth_zero(v:V)(l:List V):nth (v::l) 0=some v:=rfl
theorem nth_succ(v:V)(l:List V)(k:Nat):nth (v::l) (k+1)=nth l k:=rfl
theorem bindA_nil(i:Nat)(en:T V):bindA [] i en=en:=rfl
def PQ(k:PK)(o:Option (List V))(K:V→Heap→Prop)(h:Heap):Prop:=∃vs,o=some vs∧VQ (aP k vs) K h
theorem PQ_some(k:PK)(vs:List V)(K:V→Heap→Prop):PQ k (some vs) K h↔VQ (aP k vs) K h:=
  ⟨fun⟨_,e,k⟩=>by cases e;exact k,fun k=>⟨vs,rfl,k⟩⟩
theorem op_p(k:PK)(xs:List Opd)(K:V→Heap→Prop):OQ (evOp call loc env h (.p k xs)) K↔PQ k (evOs loc env xs) K h:=by
  simp only[evOp,OQ,PQ,VQ];cases evOs loc env xs with
  |none=>simp
  |some vs=>cases hx:aP k vs with
    |none=>simp[hx]
    |some v=>simp[hx,and_assoc]
def LQ(h:Heap)(n:Nat)(ia:Bool)(o:Option V)(K:V→Heap→Prop):Prop:=∃p,o=some p∧VQ (aload h n ia p) K h
theorem LQ_some(n:Nat)(ia:Bool)(p:V)(K:V→Heap→Prop):LQ h n ia (some p) K↔VQ (aload h n ia p) K h:=
  ⟨fun⟨_,e,k⟩=>by cases e;exact k,fun k=>⟨p,rfl,k⟩⟩
theorem op_ld(n:Nat)(ia:Bool)(x:Opd)(K:V→Heap→Prop):OQ (evOp call loc env h (.ld n ia x)) K↔LQ h n ia (evO loc env x) K:=by
  simp only[evOp,OQ,LQ,VQ];cases evO loc env x with
  |none=>simp
  |some p=>cases hx:aload h n ia p with
    |none=>simp[hx]
    |some v=>simp[hx,and_assoc]
def SQ(h:Heap)(n:Nat)(o u:Option V)(K:V→Heap→Prop):Prop:=∃p v,o=some p∧u=some v∧HQ (astore h n p v) K
theorem SQ_some(n:Nat)(p v:V)(K:V→Heap→Prop):SQ h n (some p) (some v) K↔HQ (astore h n p v) K:=
  ⟨fun⟨_,_,e,e2,k⟩=>by cases e;cases e2;exact k,fun k=>⟨p,v,rfl,rfl,k⟩⟩
theorem op_st(n:Nat)(x y:Opd)(K:V→Heap→Prop):OQ (evOp call loc env h (.st n x y)) K↔SQ h n (evO loc env x) (evO loc env y) K:=by
  simp only[evOp,OQ,SQ,HQ];cases evO loc env x with
  |none=>simp
  |some p=>cases evO loc env y with
    |none=>simp
    |some v=>cases hx:astore h n p v with
      |none=>simp[hx]
      |some h'=>simp[hx,and_assoc]
theorem op_al(zero:List V)(K:V→Heap→Prop):OQ (evOp call loc env h (.al zero)) K↔K (.ptr h.next 0) (halloc h zero):=by
  simp only[evOp,OQ_some]
def BQ(o:Option V)(K:V→Heap→Prop)(h:Heap):Prop:=∃v,o=some v∧K (.ptr h.next 0) (halloc h v.cells)
theorem BQ_some(v:V)(K:V→Heap→Prop):BQ (some v) K h↔K (.ptr h.next 0) (halloc h v.cells):=
  ⟨fun⟨_,e,k⟩=>by cases e;exact k,fun k=>⟨v,rfl,k⟩⟩
theorem op_bx(x:Opd)(K:V→Heap→Prop):OQ (evOp call loc env h (.bx x)) K↔BQ (evO loc env x) K h:=by
  simp only[evOp,OQ,BQ];cases evO loc env x with
  |none=>simp
  |some v=>simp[and_assoc]
def BsQ(h:Heap)(zero:List V)(places:List (Nat×Nat))(len:Nat)(o:Option (List V))(K:V→Heap→Prop):Prop:=∃vs,o=some vs∧OQ (abslice h zero places len vs) K
theorem BsQ_some(zero:List V)(places:List (Nat×Nat))(len:Nat)(vs:List V)(K:V→Heap→Prop):BsQ h zero places len (some vs) K↔OQ (abslice h zero places len vs) K:=
  ⟨fun⟨_,e,k⟩=>by cases e;exact k,fun k=>⟨vs,rfl,k⟩⟩
theorem op_bs(zero:List V)(places:List (Nat×Nat))(len:Nat)(xs:List Opd)(K:V→Heap→Prop):
    OQ (evOp call loc env h (.bs zero places len xs)) K↔BsQ h zero places len (evOs loc env xs) K:=by
  simp only[evOp,OQ,BsQ];cases evOs loc env xs with
  |none=>simp
  |some vs=>simp
/-- two operands -/
def TwoQ(f:V→V→Option (V×Heap))(a b:Option V)(K:V→Heap→Prop):Prop:=∃x y,a=some x∧b=some y∧OQ (f x y) K
theorem TwoQ_some(f:V→V→Option (V×Heap))(x y:V)(K:V→Heap→Prop):TwoQ f (some x) (some y) K↔OQ (f x y) K:=
  ⟨fun⟨_,_,e,e2,k⟩=>by cases e;cases e2;exact k,fun k=>⟨x,y,rfl,rfl,k⟩⟩
theorem op_mk(zero:List V)(bytes:Nat)(x y:Opd)(K:V→Heap→Prop):
    OQ (evOp call loc env h (.mk zero bytes x y)) K↔TwoQ (amake h zero bytes) (evO loc env x) (evO loc env y) K:=by
  simp only[evOp,OQ,TwoQ];cases evO loc env x with
  |none=>simp
  |some l=>cases evO loc env y with
    |none=>simp
    |some c=>simp
theorem op_ap(esz bytes:Nat)(x y:Opd)(K:V→Heap→Prop):
    OQ (evOp call loc env h (.ap esz bytes x y)) K↔TwoQ (aapp h esz bytes) (evO loc env x) (evO loc env y) K:=by
  simp only[evOp,OQ,TwoQ];cases evO loc env x with
  |none=>simp
  |some l=>cases evO loc env y with
    |none=>simp
    |some c=>simp
theorem op_cp(esz:Nat)(x y:Opd)(K:V→Heap→Prop):
    OQ (evOp call loc env h (.cp esz x y)) K↔TwoQ (acopy h esz) (evO loc env x) (evO loc env y) K:=by
  simp only[evOp,OQ,TwoQ];cases evO loc env x with
  |none=>simp
  |some l=>cases evO loc env y with
    |none=>simp
    |some c=>simp
def CfQ(call:CallF)(f:Nat)(o:Option (List V))(h:Heap)(K:V→Heap→Prop):Prop:=∃vs,o=some vs∧OQ (call f vs h) K
theorem CfQ_some(f:Nat)(vs:List V)(K:V→Heap→Prop):CfQ call f (some vs) h K↔OQ (call f vs h) K:=
  ⟨fun⟨_,e,k⟩=>by cases e;exact k,fun k=>⟨vs,rfl,k⟩⟩
theorem op_cf(f:Nat)(xs:List Opd)(K:V→Heap→Prop):OQ (evOp call loc env h (.cf f xs)) K↔CfQ call f (evOs loc env xs) h K:=by
  simp only[evOp,OQ,CfQ];cases evOs loc env xs with
  |none=>simp
  |some vs=>simp
/-- the call of a function value -/
def FQ(call:CallF)(h:Heap)(o:Option V)(vs:Option (List V))(K:V→Heap→Prop):Prop:=
  ∃us,vs=some us∧((∃f first caps,o=some (.func (.func f) first caps)∧f<1099511627776∧OQ (call f (first++us++caps) h) K)∨(∃b,o=some (.yld b)∧OQ (call (YB+b) us h) K))
theorem FQ_some(f:Nat)(first caps us:List V)(K:V→Heap→Prop):FQ call h (some (.func (.func f) first caps)) (some us) K↔(f<1099511627776∧OQ (call f (first++us++caps) h) K):=
  ⟨fun⟨_,e2,k⟩=>(by
    cases e2;rcases k with⟨_,_,_,e,k⟩|⟨_,e,_⟩
    ·cases e;exact k
    ·cases e),fun k=>⟨us,rfl,.inl ⟨f,first,caps,rfl,k⟩⟩⟩
theorem FQ_yld(b:Nat)(us:List V)(K:V→Heap→Prop):FQ call h (some (.yld b)) (some us) K↔OQ (call (YB+b) us h) K:=
  ⟨fun⟨_,e2,k⟩=>(by
    cases e2;rcases k with⟨_,_,_,e,_⟩|⟨_,e,k⟩
    ·cases e
    ·cases e;exact k),fun k=>⟨us,rfl,.inr ⟨b,rfl,k⟩⟩⟩
theorem op_cv(x:Opd)(xs:List Opd)(K:V→Heap→Prop):OQ (evOp call loc env h (.cv x xs)) K↔FQ call h (evO loc env x) (evOs loc env xs) K:=by
  simp only[evOp,OQ,FQ];constructor
  ·rintro⟨v,h',e,k⟩;split at e
   ·rename_i f first caps hx
    cases hy:evOs loc env xs with
    |none=>rw[hy]at e;cases e
    |some us=>
      rw[hy]at e;simp only[]at e;cases hb:Nat.blt f YB
      ·rw[hb]at e;cases e
      ·rw[hb]at e;simp only[cond_true]at e;exact⟨us,rfl,.inl ⟨f,first,caps,hx,(Nat.blt_eq ..).mp hb,v,h',e,k⟩⟩
   ·rename_i b hx;cases hy:evOs loc env xs with
    |none=>rw[hy]at e;cases e
    |some us=>rw[hy]at e;exact⟨us,rfl,.inr ⟨b,hx,v,h',e,k⟩⟩
   ·cases e
  ·rintro⟨us,e2,⟨f,first,caps,e1,hf,v,h',e,k⟩|⟨b,e1,v,h',e,k⟩⟩
   ·refine⟨v,h',?_,k⟩;rw[e1,e2];have hb:Nat.blt f YB=true:=(Nat.blt_eq ..).mpr hf;simp only[hb,cond_true];exact e
   ·refine⟨v,h',?_,k⟩;rw[e1,e2];exact e
def ClrQ(h:Heap)(zero:List V)(o:Option V)(K:V→Heap→Prop):Prop:=∃v,o=some v∧OQ (aclr h zero v) K
theorem ClrQ_some(zero:List V)(v:V)(K:V→Heap→Prop):ClrQ h zero (some v) K↔OQ (aclr h zero v) K:=
  ⟨fun⟨_,e,k⟩=>by cases e;exact k,fun k=>⟨v,rfl,k⟩⟩
theorem op_clr(zero:List V)(x:Opd)(K:V→Heap→Prop):OQ (evOp call loc env h (.clr zero x)) K↔ClrQ h zero (evO loc env x) K:=by
  simp only[evOp,OQ,ClrQ];cases evO loc env x with
  |none=>simp
  |some d=>simp
def WS(call:CallF)(l:List IStep)(loc:List V)(env:T V)(h:Heap)(Q:T V→Heap→Prop):Prop:=∃env' h',evSteps call l loc env h=.ok .norm env' h'∧Q env' h'
theorem WS_nil(Q:T V→Heap→Prop):WS call [] loc env h Q↔Q env h:=
  ⟨fun⟨_,_,e,q⟩=>by cases e;exact q,fun q=>⟨env,h,rfl,q⟩⟩
def kl(call:CallF)(l:List IStep)(loc:List V)(env:T V)(Q:T V→Heap→Prop):V→Heap→Prop:=fun v h=>WS call l (v::loc) env h Q
def kv(call:CallF)(l:List IStep)(loc:List V)(env:T V)(d:Nat)(Q:T V→Heap→Prop):V→Heap→Prop:=fun v h=>WS call l loc (env.set d v) h Q
theorem kl_app(l:List IStep)(Q:T V→Heap→Prop)(v:V):kl call l loc env Q v h↔WS call l (v::loc) env h Q:=Iff.rfl
theorem kv_app(l:List IStep)(d:Nat)(Q:T V→Heap→Prop)(v:V):kv call l loc env d Q v h↔WS call l loc (env.set d v) h Q:=Iff.rfl
theorem WS_l(o:IOp)(l:List IStep)(Q:T V→Heap→Prop):WS call (⟨none,o,none⟩::l) loc env h Q↔OQ (evOp call loc env h o) (kl call l loc env Q):=by
  simp only[WS,evSteps_cons,evG,OQ,kl];cases evOp call loc env h o with
  |none=>simp
  |some r=>obtain⟨v,h'⟩:=r;simp[nextL,nextE,and_assoc]
theorem WS_v(o:IOp)(d:Nat)(l:List IStep)(Q:T V→Heap→Prop):WS call (⟨none,o,some d⟩::l) loc env h Q↔OQ (evOp call loc env h o) (kv call l loc env d Q):=by
  simp only[WS,evSteps_cons,evG,OQ,kv];cases evOp call loc env h o with
  |none=>simp
  |some r=>obtain⟨v,h'⟩:=r;simp[nextL,nextE,and_assoc]
/-- a guard -/
def GQ(o:Option V)(want:Bool)(A B:Prop):Prop:=(∃b,o=some (.bool b)∧if b=want then A else B)∨((∃l,o=some (.tup l))∧B)
theorem GQ_some(b want:Bool)(A B:Prop):GQ (some (.bool b)) want A B↔if b=want then A else B:=
  ⟨fun x=>(by
    rcases x with⟨_,e,k⟩|⟨⟨_,e⟩,_⟩
    ·cases e;exact k
    ·cases e),fun k=>.inl ⟨b,rfl,k⟩⟩
theorem GQ_tup(t:List V)(want:Bool)(A B:Prop):GQ (some (.tup t)) want A B↔B:=
  ⟨fun x=>(by
    rcases x with⟨_,e,k⟩|⟨_,k⟩
    ·cases e
    ·exact k),fun k=>.inr ⟨⟨t,rfl⟩,k⟩⟩
def GS(o:Option V)(want:Bool)(call:CallF)(p:IOp)(l:List IStep)(loc:List V)(env:T V)(h:Heap)(Q:T V→Heap→Prop):Prop:=
  GQ o want (OQ (evOp call loc env h p) (kl call l loc env Q)) (WS call l (.tup []::loc) env h Q)
theorem GS_some(b want:Bool)(p:IOp)(l:List IStep)(Q:T V→Heap→Prop):GS (some (.bool b)) want call p l loc env h Q↔
    if b=want then OQ (evOp call loc env h p) (kl call l loc env Q)else WS call l (.tup []::loc) env h Q:=GQ_some _ _ _ _
theorem GS_tup(t:List V)(want:Bool)(p:IOp)(l:List IStep)(Q:T V→Heap→Prop):GS (some (.tup t)) want call p l loc env h Q↔WS call l (.tup []::loc) env h Q:=GQ_tup _ _ _ _
def GV(o:Option V)(want:Bool)(call:CallF)(p:IOp)(d:Nat)(l:List IStep)(loc:List V)(env:T V)(h:Heap)(Q:T V→Heap→Prop):Prop:=
  GQ o want (OQ (evOp call loc env h p) (kv call l loc env d Q)) (WS call l loc (env.set d (.tup [])) h Q)
theorem GV_some(b want:Bool)(p:IOp)(d:Nat)(l:List IStep)(Q:T V→Heap→Prop):GV (some (.bool b)) want call p d l loc env h Q↔
    if b=want then OQ (evOp call loc env h p) (kv call l loc env d Q)else WS call l loc (env.set d (.tup [])) h Q:=GQ_some _ _ _ _
theorem GV_tup(t:List V)(want:Bool)(p:IOp)(d:Nat)(l:List IStep)(Q:T V→Heap→Prop):GV (some (.tup t)) want call p d l loc env h Q↔WS call l loc (env.set d (.tup [])) h Q:=GQ_tup _ _ _ _
theorem WS_g(x:Opd)(want:Bool)(o:IOp)(l:List IStep)(Q:T V→Heap→Prop):WS call (⟨some (x,want),o,none⟩::l) loc env h Q↔GS (evO loc env x) want call o l loc env h Q:=by
  simp only[WS,evSteps_cons,evG,OQ,GQ,GS,kl];cases evO loc env x with
  |none=>simp
  |some b=>
    cases b with
    |bool b=>
      have hb:(!(xor b want))=decide (b=want):=by cases b<;>cases want<;>rfl
      simp only[hb];by_cases hw:b=want
      ·simp only[hw,decide_true];cases evOp call loc env h o with
       |none=>simp
       |some r=>obtain⟨v,h'⟩:=r;simp[nextL,nextE,and_assoc]
      ·simp only[hw,decide_false];simp[hw,nextL,nextE]
    |tup t=>simp[nextL,nextE]
    |_=>simp
theorem WS_gv(x:Opd)(want:Bool)(o:IOp)(d:Nat)(l:List IStep)(Q:T V→Heap→Prop):WS call (⟨some (x,want),o,some d⟩::l) loc env h Q↔GV (evO loc env x) want call o d l loc env h Q:=by
  simp only[WS,evSteps_cons,evG,OQ,GQ,GV,kv];cases evO loc env x with
  |none=>simp
  |some b=>
    cases b with
    |bool b=>
      have hb:(!(xor b want))=decide (b=want):=by cases b<;>cases want<;>rfl
      simp only[hb];by_cases hw:b=want
      ·simp only[hw,decide_true];cases evOp call loc env h o with
       |none=>simp
       |some r=>obtain⟨v,h'⟩:=r;simp[nextL,nextE,and_assoc]
      ·simp only[hw,decide_false];simp[hw,nextL,nextE]
    |tup t=>simp[nextL,nextE]
    |_=>simp
def W(call:CallF)(c:IC)(env:T V)(h:Heap)(Q:Ex→T V→Heap→Prop):Prop:=∃e env' h',evC call c env h=.ok e env' h'∧Q e env' h'
def thenQ(call:CallF)(b:IC)(Q:Ex→T V→Heap→Prop):Ex→T V→Heap→Prop:=fun e env h=>match e with
  |.norm=>W call b env h Q
  |e=>Q e env h
theorem thenQ_norm(b:IC)(Q:Ex→T V→Heap→Prop):thenQ call b Q .norm env h↔W call b env h Q:=Iff.rfl
theorem thenQ_ret(b:IC)(Q:Ex→T V→Heap→Prop):thenQ call b Q .ret env h↔Q .ret env h:=Iff.rfl
theorem thenQ_exit(b:IC)(i:Nat)(Q:Ex→T V→Heap→Prop):thenQ call b Q (.exit i) env h↔Q (.exit i) env h:=Iff.rfl
theorem thenQ_goto(b:IC)(i:Nat)(Q:Ex→T V→Heap→Prop):thenQ call b Q (.goto i) env h↔Q (.goto i) env h:=Iff.rfl
theorem W_skip(Q:Ex→T V→Heap→Prop):W call .skip env h Q↔Q .norm env h:=
  ⟨fun⟨_,_,_,e,q⟩=>by cases e;exact q,fun q=>⟨_,_,_,rfl,q⟩⟩
theorem W_ret(Q:Ex→T V→Heap→Prop):W call .ret env h Q↔Q .ret env h:=
  ⟨fun⟨_,_,_,e,q⟩=>by cases e;exact q,fun q=>⟨_,_,_,rfl,q⟩⟩
theorem W_exit(i:Nat)(Q:Ex→T V→Heap→Prop):W call (.exit i) env h Q↔Q (.exit i) env h:=
  ⟨fun⟨_,_,_,e,q⟩=>by cases e;exact q,fun q=>⟨_,_,_,rfl,q⟩⟩
theorem W_goto(i:Nat)(Q:Ex→T V→Heap→Prop):W call (.goto i) env h Q↔Q (.goto i) env h:=
  ⟨fun⟨_,_,_,e,q⟩=>by cases e;exact q,fun q=>⟨_,_,_,rfl,q⟩⟩
theorem W.mono{c:IC}{Q Q':Ex→T V→Heap→Prop}(a:W call c env h Q)(b:∀e env h,Q e env h→Q' e env h):W call c env h Q':=by
  obtain⟨e,env',h',x,q⟩:=a;exact⟨e,env',h',x,b _ _ _ q⟩
theorem evC_seq(a b:IC):evC call (.seq a b) env h=match evC call a env h with
      |.ok .norm env h=>evC call b env h
      |r=>r:=rfl
theorem W_seq(a b:IC)(Q:Ex→T V→Heap→Prop):W call (.seq a b) env h Q↔W call a env h (thenQ call b Q):=by
  constructor
  ·rintro⟨e,env',h',x,q⟩;rw[evC_seq]at x;split at x
   ·rename_i env1 h1 h2;exact⟨.norm,env1,h1,h2,e,env',h',x,q⟩
   ·rename_i h2;refine⟨e,env',h',x,?_⟩;cases e with
    |norm=>exact absurd x (h2 env' h')
    |_=>exact q
  ·rintro⟨e,env1,h1,x,q⟩;cases e with
   |norm=>
     obtain⟨e,env',h',y,q⟩:=q;exact⟨e,env',h',by rw[evC_seq,x];exact y,q⟩
   |_=>exact⟨_,env1,h1,by rw[evC_seq,x],q⟩
def condQ(o:Option V)(call:CallF)(a b:IC)(env:T V)(h:Heap)(Q:Ex→T V→Heap→Prop):Prop:=∃t,o=some (.bool t)∧if t=true then W call a env h Q else W call b env h Q
theorem condQ_some(t:Bool)(a b:IC)(Q:Ex→T V→Heap→Prop):condQ (some (.bool t)) call a b env h Q↔if t=true then W call a env h Q else W call b env h Q:=
  ⟨fun⟨_,e,k⟩=>by cases e;exact k,fun k=>⟨t,rfl,k⟩⟩
theorem W_cond(x:Opd)(a b:IC)(Q:Ex→T V→Heap→Prop):W call (.cond x a b) env h Q↔condQ (evO [] env x) call a b env h Q:=by
  have eq:evC call (.cond x a b) env h=match evO [] env x with
      |some (.bool t)=>bif t then evC call a env h else evC call b env h
      |_=>.fail:=rfl
  constructor
  ·rintro⟨e,env',h',y,q⟩;rw[eq]at y;split at y
   ·rename_i t ht;refine⟨t,ht,?_⟩;cases t
    ·exact⟨e,env',h',y,q⟩
    ·exact⟨e,env',h',y,q⟩
   ·cases y
  ·rintro⟨t,ht,k⟩;cases t
   ·obtain⟨e,env',h',y,q⟩:=k;exact⟨e,env',h',by rw[eq,ht];exact y,q⟩
   ·obtain⟨e,env',h',y,q⟩:=k;exact⟨e,env',h',by rw[eq,ht];exact y,q⟩
def blockQ(id:Nat)(Q:Ex→T V→Heap→Prop):Ex→T V→Heap→Prop:=fun e env h=>match e with
  |.exit i=>if i=id then Q .norm env h else Q (.exit i) env h
  |e=>Q e env h
theorem blockQ_norm(id:Nat)(Q:Ex→T V→Heap→Prop):blockQ id Q .norm env h↔Q .norm env h:=Iff.rfl
theorem blockQ_ret(id:Nat)(Q:Ex→T V→Heap→Prop):blockQ id Q .ret env h↔Q .ret env h:=Iff.rfl
theorem blockQ_goto(id i:Nat)(Q:Ex→T V→Heap→Prop):blockQ id Q (.goto i) env h↔Q (.goto i) env h:=Iff.rfl
theorem blockQ_exit(id i:Nat)(Q:Ex→T V→Heap→Prop):blockQ id Q (.exit i) env h↔if i=id then Q .norm env h else Q (.exit i) env h:=Iff.rfl
theorem W_block(id:Nat)(a:IC)(Q:Ex→T V→Heap→Prop):W call (.block id a) env h Q↔W call a env h (blockQ id Q):=by
  have eq:evC call (.block id a) env h=match evC call a env h with
      |.ok (.exit i) env h=>bif Nat.beq i id then .ok .norm env h else .ok (.exit i) env h
      |r=>r:=rfl
  constructor
  ·rintro⟨e,env',h',x,q⟩;rw[eq]at x;split at x
   ·rename_i i env1 h1 h2;refine⟨_,_,_,h2,?_⟩;rw[blockQ_exit];by_cases hi:i=id
    ·subst hi;simp at x;obtain⟨rfl,rfl,rfl⟩:=x;simpa using q
    ·rw[if_neg hi];have:Nat.beq i id=false:=by cases hb:Nat.beq i id;rfl;exact absurd (Nat.eq_of_beq_eq_true hb) hi
     rw[this]at x;cases x;exact q
   ·rename_i h2;refine⟨e,env',h',x,?_⟩;cases e with
    |exit i=>exact absurd x (h2 i env' h')
    |_=>exact q
  ·rintro⟨e,env1,h1,x,q⟩;cases e with
   |exit i=>
     rw[blockQ_exit]at q;by_cases hi:i=id
     ·rw[if_pos hi]at q;exact⟨.norm,env1,h1,by rw[eq,x];subst hi;simp,q⟩
     ·rw[if_neg hi]at q;have:Nat.beq i id=false:=by cases hb:Nat.beq i id;rfl;exact absurd (Nat.eq_of_beq_eq_true hb) hi
      exact⟨.exit i,env1,h1,by rw[eq,x];simp only[this,cond_false],q⟩
   |_=>exact⟨_,env1,h1,by rw[eq,x],q⟩
theorem W_ops(l:List IStep)(Q:Ex→T V→Heap→Prop):W call (.ops l) env h Q↔WS call l [] env h (Q .norm):=by
  constructor
  ·rintro⟨e,env',h',x,q⟩;have hn:∀(l:List IStep)(loc:List V)(env:T V)(h:Heap),evSteps call l loc env h=.ok e env' h'→e=.norm:=by
     intro l;induction l with
     |nil=>intro loc env h x;cases x;rfl
     |cons s l ih=>
       intro loc env h x;rw[evSteps_cons]at x;split at x
       ·split at x
        ·exact ih _ _ _ x
        ·cases x
       ·exact ih _ _ _ x
       ·cases x
   have:=hn _ _ _ _ x;subst this;exact⟨env',h',x,q⟩
  ·rintro⟨env',h',x,q⟩;exact⟨_,_,_,x,q⟩
noncomputable def itr(body:T V→Heap→Out):Nat→T V→Heap→Out
  |0,env,h=>.ok .norm env h
  |n+1,env,h=>match body env h with
    |.ok .norm env h=>itr body n env h
    |r=>r
theorem itr_add(body:T V→Heap→Out):∀(a b:Nat)(env:T V)(h:Heap),itr body (a+b) env h=match itr body a env h with
    |.ok .norm env h=>itr body b env h
    |r=>r:=by
  intro a;induction a with
  |zero=>intro b env h;simp[itr]
  |succ a ih=>
    intro b env h;rw[Nat.succ_add];simp only[itr];cases body env h with
    |fail=>rfl
    |ok e env1 h1=>cases e with
      |norm=>exact ih b env1 h1
      |_=>rfl
theorem dbl_itr(body:T V→Heap→Out)(k:Nat):∀(env:T V)(h:Heap),dbl body k env h=itr body (2^k) env h:=by
  induction k with
  |zero=>
    intro env h;show body env h=itr body 1 env h;simp only[itr];cases body env h with
    |fail=>rfl
    |ok e env1 h1=>cases e<;>rfl
  |succ k ih=>
    intro env h;show(match dbl body k env h with
      |.ok .norm env h=>dbl body k env h
      |r=>r)=_
    rw[Nat.pow_succ,Nat.mul_two,itr_add,ih];cases itr body (2^k) env h with
    |fail=>rfl
    |ok e env1 h1=>cases e with
      |norm=>exact ih env1 h1
      |_=>rfl
/-- what a round leaves: another round with less to go, or the loop's end -/
def roundQ(I:Nat→T V→Heap→Prop)(k:Nat)(Q:Ex→T V→Heap→Prop):Ex→T V→Heap→Prop:=fun e env h=>match e with
  |.norm=>∃k',k'<k∧I k' env h
  |e=>Q e env h
theorem roundQ_norm(I:Nat→T V→Heap→Prop)(k:Nat)(Q:Ex→T V→Heap→Prop):roundQ I k Q .norm env h↔∃k',k'<k∧I k' env h:=Iff.rfl
theorem roundQ_ret(I:Nat→T V→Heap→Prop)(k:Nat)(Q:Ex→T V→Heap→Prop):roundQ I k Q .ret env h↔Q .ret env h:=Iff.rfl
theorem roundQ_exit(I:Nat→T V→Heap→Prop)(k i:Nat)(Q:Ex→T V→Heap→Prop):roundQ I k Q (.exit i) env h↔Q (.exit i) env h:=Iff.rfl
theorem roundQ_goto(I:Nat→T V→Heap→Prop)(k i:Nat)(Q:Ex→T V→Heap→Prop):roundQ I k Q (.goto i) env h↔Q (.goto i) env h:=Iff.rfl
theorem itr_I{body:T V→Heap→Out}(I:Nat→T V→Heap→Prop)(Q:Ex→T V→Heap→Prop)
    (hr:∀k env h,I k env h→∃e env' h',body env h=.ok e env' h'∧roundQ I k Q e env' h'):
    ∀(n k:Nat)(env:T V)(h:Heap),I k env h→k<n→∃e env' h',itr body n env h=.ok e env' h'∧e≠.norm∧Q e env' h':=by
  intro n;induction n with
  |zero=>intro k env h _ hk;omega
  |succ n ih=>
    intro k env h hI hk;obtain⟨e,env1,h1,x,q⟩:=hr k env h hI;simp only[itr,x];cases e with
    |norm=>
      obtain⟨k',hk',q⟩:=q;exact ih k' env1 h1 q (by omega)
    |_=>exact⟨_,_,_,rfl,by simp,q⟩
theorem W_loop{body:IC}{Q:Ex→T V→Heap→Prop}(I:Nat→T V→Heap→Prop)(n:Nat)(hn:n<281474976710656)(h0:I n env h)
    (hr:∀k env h,I k env h→W call body env h (roundQ I k Q)):W call (.loop body) env h Q:=by
  have eq:evC call (.loop body) env h=match dbl (evC call body) 48 env h with
      |.ok .norm _ _=>.fail
      |r=>r:=rfl
  obtain⟨e,env',h',x,ne,q⟩:=itr_I I Q hr (2^48) n env h h0 (by simpa using hn);refine⟨e,env',h',?_,q⟩;rw[eq,dbl_itr,x];cases e with
  |norm=>exact absurd rfl ne
  |_=>rfl
/-- a loop that a goto makes -/
theorem W_scope{c r:IC}{l:Nat}{Q:Ex→T V→Heap→Prop}(I:Nat→T V→Heap→Prop)(n:Nat)(hn:n<281474976710656)
    (h0:W call c env h (fun e env' h'=>match e with
      |.goto i=>i=l∧I n env' h'
      |e=>Q e env' h'))
    (hr:∀k env h,I k env h→W call r env h (fun e env' h'=>match e with
      |.goto i=>i=l∧∃k',k'<k∧I k' env' h'
      |e=>Q e env' h')):W call (.scope c l r) env h Q:=by
  have eq:evC call (.scope c l r) env h=match evC call c env h with
      |.ok (.goto i) env h=>bif Nat.beq i l then
          (match dbl (fun env h=>match evC call r env h with
              |.ok (.goto i) env h=>bif Nat.beq i l then .ok .norm env h else .ok (.goto i) env h
              |.ok .norm env h=>.ok (.goto l) env h
              |r=>r) 48 env h with
            |.ok .norm _ _=>.fail
            |.ok (.goto i) env h=>bif Nat.beq i l then .ok .norm env h else .fail
            |r=>r)
        else .fail
      |r=>r:=rfl
  obtain⟨e,env1,h1,x,q⟩:=h0;cases e with
  |goto i=>
    obtain⟨rfl,q⟩:=q;obtain⟨e,env',h',y,ne,q⟩:=itr_I (body:=fun env h=>match evC call r env h with
              |.ok (.goto j) env h=>bif Nat.beq j i then .ok .norm env h else .ok (.goto j) env h
              |.ok .norm env h=>.ok (.goto i) env h
              |r=>r) I (fun e env' h'=>match e with
                |.goto j=>j=i∧Q .norm env' h'
                |e=>Q e env' h') (fun k env h hI=>by
          obtain⟨e,env2,h2,z,q⟩:=hr k env h hI;simp only[z];cases e with
          |norm=>exact⟨_,_,_,rfl,rfl,q⟩
          |goto j=>
            obtain⟨rfl,k',hk,q⟩:=q;exact⟨.norm,env2,h2,by simp,k',hk,q⟩
          |_=>exact⟨_,_,_,rfl,q⟩) (2^48) n env1 h1 q (by simpa using hn)
    cases e with
    |norm=>exact absurd rfl ne
    |goto j=>
      obtain⟨rfl,q⟩:=q;refine⟨.norm,env',h',?_,q⟩;rw[eq,x];simp only[Nat.beq_refl,cond_true,dbl_itr];rw[y];simp
    |ret=>
      refine⟨.ret,env',h',?_,q⟩;rw[eq,x];simp only[Nat.beq_refl,cond_true,dbl_itr];rw[y]
    |exit j=>
      refine⟨.exit j,env',h',?_,q⟩;rw[eq,x];simp only[Nat.beq_refl,cond_true,dbl_itr];rw[y]
  |norm=>exact⟨_,_,_,by rw[eq,x],q⟩
  |ret=>exact⟨_,_,_,by rw[eq,x],q⟩
  |exit j=>exact⟨_,_,_,by rw[eq,x],q⟩
theorem lay_nil(l:List IStep):∀(i:Nat)(loc:List V)(h:Heap),lay call env [] l i loc h=some (l.map fun s=>(s,none),h):=by
  induction l with
  |nil=>intro i loc h;rfl
  |cons s l ih=>intro i loc h;simp[lay,ih]
def WD(call:CallF)(env:T V)(l:List DS)(loc:List V)(hs:List Heap)(h:Heap)(K:List V→List Heap→Prop):Prop:=
  ∃loc' hs',evDr call env l loc hs h=some (loc',hs')∧K loc' hs'
theorem WD_nil(hs:List Heap)(K:List V→List Heap→Prop):WD call env [] loc hs h K↔K loc hs:=
  ⟨fun⟨_,_,e,k⟩=>by cases e;exact k,fun k=>⟨_,_,rfl,k⟩⟩
def kd(call:CallF)(env:T V)(l:List DS)(loc:List V)(hs:List Heap)(h:Heap)(e:Bool)(K:List V→List Heap→Prop):V→Heap→Prop:=fun v h'=>
  if e=true then WD call env l (v::loc) (h'::hs) h' K else WD call env l (v::loc) hs h K
theorem kd_t(l:List DS)(hs:List Heap)(h0:Heap)(K:List V→List Heap→Prop)(v:V):kd call env l loc hs h0 true K v h↔WD call env l (v::loc) (h::hs) h K:=by simp[kd]
theorem kd_f(l:List DS)(hs:List Heap)(h0:Heap)(K:List V→List Heap→Prop)(v:V):kd call env l loc hs h0 false K v h↔WD call env l (v::loc) hs h0 K:=by simp[kd]
theorem WD_s(o:IOp)(l:List DS)(hs:List Heap)(K:List V→List Heap→Prop):WD call env ((⟨none,o,none⟩,none)::l) loc hs h K↔
    OQ (evOp call loc env h o) (kd call env l loc hs h (eff o) K):=by
  simp only[WD,evDr_cons2,evG,OQ,kd];cases evOp call loc env h o with
  |none=>simp
  |some r=>obtain⟨v,h'⟩:=r;cases eff o<;>simp[and_assoc]
def GD(o:Option V)(want:Bool)(call:CallF)(env:T V)(p:IOp)(l:List DS)(loc:List V)(hs:List Heap)(h:Heap)(e:Bool)(K:List V→List Heap→Prop):Prop:=
  GQ o want (OQ (evOp call loc env h p) (kd call env l loc hs h e K)) (if e=true then WD call env l (.tup []::loc) (h::hs) h K else WD call env l (.tup []::loc) hs h K)
theorem GD_some(b want:Bool)(p:IOp)(l:List DS)(hs:List Heap)(e:Bool)(K:List V→List Heap→Prop):GD (some (.bool b)) want call env p l loc hs h e K↔
    if b=want then OQ (evOp call loc env h p) (kd call env l loc hs h e K)else(if e=true then WD call env l (.tup []::loc) (h::hs) h K else WD call env l (.tup []::loc) hs h K):=GQ_some _ _ _ _
theorem GD_tup(t:List V)(want:Bool)(p:IOp)(l:List DS)(hs:List Heap)(e:Bool)(K:List V→List Heap→Prop):GD (some (.tup t)) want call env p l loc hs h e K↔
    (if e=true then WD call env l (.tup []::loc) (h::hs) h K else WD call env l (.tup []::loc) hs h K):=GQ_tup _ _ _ _
theorem WD_g(x:Opd)(want:Bool)(o:IOp)(l:List DS)(hs:List Heap)(K:List V→List Heap→Prop):WD call env ((⟨some (x,want),o,none⟩,none)::l) loc hs h K↔
    GD (evO loc env x) want call env o l loc hs h (eff o) K:=by
  simp only[WD,evDr_cons2,evG,OQ,GQ,GD,kd];cases evO loc env x with
  |none=>simp
  |some b=>
    cases b with
    |bool b=>
      have hb:(!(xor b want))=decide (b=want):=by cases b<;>cases want<;>rfl
      simp only[hb];by_cases hw:b=want
      ·simp only[hw,decide_true];cases evOp call loc env h o with
       |none=>simp
       |some r=>obtain⟨v,h'⟩:=r;cases eff o<;>simp[and_assoc]
      ·simp only[hw,decide_false];cases eff o<;>simp[hw]
    |tup t=>cases eff o<;>simp
    |_=>simp
theorem WD_late(s:IStep)(u:V)(c:List V)(l:List DS)(hs:List Heap)(K:List V→List Heap→Prop):WD call env ((s,some (u,c))::l) loc hs h K↔
    lateOK loc env s.op u c=true∧WD call env l (u::loc) hs h K:=by
  simp only[WD,evDr_cons2];cases lateOK loc env s.op u c<;>simp
/-- what is left to show behind a drawn region -/
def DE(call:CallF)(l:List IStep)(reads:List (Nat×Nat×Nat))(sets:List (Nat×Nat))(env:T V)(Q:T V→Heap→Prop)(loc:List V)(hs:List Heap):Prop:=
  reads.all (rdOK call env l loc hs)=true∧∃env' h' hs',setsE l.length loc sets env=some env'∧hs=h'::hs'∧Q env' h'
theorem W_dops(l:List IStep)(B R:List Nat)(reads:List (Nat×Nat×Nat))(sets:List (Nat×Nat))(Q:Ex→T V→Heap→Prop):
    WD call env (l.map fun s=>(s,none)) [] [h] h (DE call l reads sets env (Q .norm))→W call (.dops l [] B R reads sets) env h Q:=by
  rintro⟨loc,hs,e,hr,env',h',hs',hset,rfl,q⟩;refine⟨.norm,env',h',?_,q⟩;show evD call l [] reads sets env h=_;unfold evD;simp only[lay_nil,e,hr,cond_true,hset]
theorem W_dopsl(l:List IStep)(late B R:List Nat)(reads:List (Nat×Nat×Nat))(sets:List (Nat×Nat))(Q:Ex→T V→Heap→Prop){dl:List DS}{h1:Heap}(hl:lay call env late l 0 [] h=some (dl,h1)):
    WD call env dl [] [h1] h1 (DE call l reads sets env (Q .norm))→W call (.dops l late B R reads sets) env h Q:=by
  rintro⟨loc,hs,e,hr,env',h',hs',hset,rfl,q⟩;refine⟨.norm,env',h',?_,q⟩;show evD call l late reads sets env h=_;unfold evD;simp only[hl,e,hr,cond_true,hset]
theorem rdAll_nil(o:IOp)(v:V):rdAll call loc env o v []=true↔True:=by simp[rdAll]
def kr(v:V):V→Heap→Prop:=fun u _=>vEq u v=true
theorem kr_app(v u:V):kr v u h↔vEq u v=true:=Iff.rfl
theorem rdAll_cons(o:IOp)(v:V)(hs:List Heap):rdAll call loc env o v (h::hs)=true↔OQ (evOp call loc env h o) (kr v)∧rdAll call loc env o v hs=true:=by
  simp only[rdAll,OQ,Bool.and_eq_true,kr];cases evOp call loc env h o with
  |none=>simp
  |some r=>obtain⟨u,h'⟩:=r;simp[and_assoc]
mutual
theorem vEq_self:∀(v:V),vEq v v=true
  |.bool b=>by cases b<;>rfl
  |.int k n=>by simp only[vEq,ieq_eq];cases k<;>simp[kbeq]
  |.str s=>by simp[vEq]
  |.nilp=>rfl
  |.ptr _ _=>by simp[vEq]
  |.nils=>rfl
  |.slice _ _ _ _=>by simp[vEq]
  |.sliceU _ _ _ _=>by simp[vEq]
  |.sliceE=>rfl
  |.nilm=>rfl
  |.map _=>by simp[vEq]
  |.yld _=>by simp[vEq]
  |.sliceZ _ _=>by simp[vEq]
  |.nilf=>rfl
  |.func _ a c=>by simp[vEq,vsEq_self a,vsEq_self c]
  |.nili=>rfl
  |.iface _ v=>by simp[vEq,vEq_self v]
  |.agg l=>by simp[vEq,vsEq_self l]
  |.tup l=>by simp[vEq,vsEq_self l]
theorem vsEq_self:∀(v:List V),vsEq v v=true
  |[]=>rfl
  |v::l=>by simp[vsEq,vEq_self v,vsEq_self l]
end
theorem setsE_nil(n:Nat):setsE n loc [] env=some env:=rfl
theorem setsE_cons(n s i:Nat)(r:List (Nat×Nat)):setsE n loc ((s,i)::r) env=match nth loc (n-i-1)with
    |some v=>setsE n loc r (env.set s v)
    |none=>none:=by
  rw[nth_eq];rfl
def Does(call:CallF)(f:Nat)(vs:List V)(h:Heap)(R:V→Heap→Prop):Prop:=OQ (call f vs h) R
theorem OQ_does{f:Nat}{vs:List V}{R K:V→Heap→Prop}(d:Does call f vs h R)(k:∀v h',R v h'→K v h'):OQ (call f vs h) K:=d.mono k
/-- the end of a function -/
def RsQ(o:Option (List V))(R:V→Heap→Prop)(h:Heap):Prop:=∃vs,o=some vs∧R (packV vs) h
theorem RsQ_some(vs:List V)(R:V→Heap→Prop):RsQ (some vs) R h↔R (packV vs) h:=
  ⟨fun⟨_,e,k⟩=>by cases e;exact k,fun k=>⟨vs,rfl,k⟩⟩
def RetQ(rs:List RV)(R:V→Heap→Prop):Ex→T V→Heap→Prop:=fun e env h=>(e=.norm∨e=.ret)∧RsQ (evRs env h rs) R h
theorem RetQ_norm(rs:List RV)(R:V→Heap→Prop):RetQ rs R .norm env h↔RsQ (evRs env h rs) R h:=by simp[RetQ]
theorem RetQ_ret(rs:List RV)(R:V→Heap→Prop):RetQ rs R .ret env h↔RsQ (evRs env h rs) R h:=by simp[RetQ]
theorem evRs_nil:evRs env h []=some []:=rfl
theorem evRs_t(s:Nat)(rs:List RV):evRs env h (.t s::rs)=consO (env.get s) (evRs env h rs):=by
  simp only[evRs,evR];cases env.get s with
  |none=>rfl
  |some v=>cases evRs env h rs<;>rfl
theorem evRs_c(s n:Nat)(ia:Bool)(rs:List RV):evRs env h (.c s n ia::rs)=consO ((env.get s).bind fun v=>aload h n ia v) (evRs env h rs):=by
  simp only[evRs,evR];cases env.get s with
  |none=>rfl
  |some p=>
    simp only[Option.bind_some];cases aload h n ia p with
    |none=>rfl
    |some v=>cases evRs env h rs<;>rfl
theorem packV_nil:packV []=.tup []:=rfl
theorem packV_one(v:V):packV [v]=v:=rfl
theorem packV_two(v u:V)(l:List V):packV (v::u::l)=.tup (v::u::l):=rfl
theorem does_fn{ov:CallF}{F:T IFn}{f:Nat}{fn:IFn}{vs:List V}{R:V→Heap→Prop}(hf:F.get f=some fn)(hn:Nat.beq vs.length fn.nargs=true)
    (hw:W (ev ov F) fn.body (bindA vs 0 .e) h (RetQ fn.results R)):Does (ev ov F) f vs h R:=by
  obtain⟨e,env',h',x,he,rs,hr,q⟩:=hw;exact⟨_,_,ev_body hf hn x he hr,q⟩
end
theorem kbeq_self(k:IntKind):kbeq k k=true:=by simp[kbeq]
theorem aP_mv(x:V):aP .mv [x]=some x:=rfl
theorem aP_pick(c:Bool)(a b:V):aP .pick [.bool c,a,b]=some (bif c then a else b):=rfl
theorem aP_nilck(b o:Nat):aP .nilck [.ptr b o]=some (.ptr b o):=rfl
theorem aP_nilckf(f:Nat)(x y:List V):aP .nilck [.func (.func f) x y]=some (.func (.func f) x y):=rfl
theorem aP_add(k:IntKind)(a b:Int):aP (.ib .add) [.int k a,.int k b]=some (.int k (fwrap k (a+b))):=by simp only[aP,kbeq_self,cond_true,ibin];rfl
theorem aP_sub(k:IntKind)(a b:Int):aP (.ib .sub) [.int k a,.int k b]=some (.int k (fwrap k (a-b))):=by simp only[aP,kbeq_self,cond_true,ibin];rfl
theorem aP_mul(k:IntKind)(a b:Int):aP (.ib .mul) [.int k a,.int k b]=some (.int k (fwrap k (a*b))):=by simp only[aP,kbeq_self,cond_true,ibin];rfl
theorem aP_quo(k:IntKind)(a b:Int)(h:b≠0):aP (.ib .quo) [.int k a,.int k b]=some (.int k (fwrap k (a.tdiv b))):=by
  have:ieq b 0=false:=by rw[ieq_eq];simpa using h
  simp only[aP,kbeq_self,cond_true,ibin,this,cond_false]
theorem aP_rem(k:IntKind)(a b:Int)(h:b≠0):aP (.ib .rem) [.int k a,.int k b]=some (.int k (a.tmod b)):=by
  have:ieq b 0=false:=by rw[ieq_eq];simpa using h
  simp only[aP,kbeq_self,cond_true,ibin,this,cond_false]
theorem aP_eql(k:IntKind)(a b:Int):aP (.ib .eql) [.int k a,.int k b]=some (.bool (decide (a=b))):=by simp only[aP,kbeq_self,cond_true,ibin,ieq_eq];rfl
theorem aP_neq(k:IntKind)(a b:Int):aP (.ib .neq) [.int k a,.int k b]=some (.bool (!decide (a=b))):=by simp only[aP,kbeq_self,cond_true,ibin,ieq_eq];rfl
theorem aP_lss(k:IntKind)(a b:Int):aP (.ib .lss) [.int k a,.int k b]=some (.bool (decide (a<b))):=by simp only[aP,kbeq_self,cond_true,ibin,ilt_eq]
theorem aP_gtr(k:IntKind)(a b:Int):aP (.ib .gtr) [.int k a,.int k b]=some (.bool (decide (b<a))):=by simp only[aP,kbeq_self,cond_true,ibin,ilt_eq]
theorem aP_leq(k:IntKind)(a b:Int):aP (.ib .leq) [.int k a,.int k b]=some (.bool (decide (a≤b))):=by
  simp only[aP,kbeq_self,cond_true,ibin,ilt_eq];congr 2;rw[Bool.eq_iff_iff];simp
theorem aP_geq(k:IntKind)(a b:Int):aP (.ib .geq) [.int k a,.int k b]=some (.bool (decide (b≤a))):=by
  simp only[aP,kbeq_self,cond_true,ibin,ilt_eq];congr 2;rw[Bool.eq_iff_iff];simp
theorem aP_not(b:Bool):aP .not [.bool b]=some (.bool (!b)):=rfl
theorem aP_neg(k:IntKind)(n:Int):aP .neg [.int k n]=some (.int k (fwrap k (0-n))):=rfl
theorem aP_bbe(a b:Bool):aP (.bb false) [.bool a,.bool b]=some (.bool (decide (a=b))):=by cases a<;>cases b<;>rfl
theorem aP_bbn(a b:Bool):aP (.bb true) [.bool a,.bool b]=some (.bool (!decide (a=b))):=by cases a<;>cases b<;>rfl
theorem aP_faddr(off b o:Nat):aP (.faddr off) [.ptr b o]=some (.ptr b (o+off)):=rfl
theorem aP_ext(i:Nat)(l:List V):aP (.ext i) [.tup l]=nth l i:=rfl
theorem aP_field1(off n:Nat)(l:List V):aP (.field off n false) [.agg l]=nth l off:=rfl
theorem aP_fieldA(off n:Nat)(l:List V):aP (.field off n true) [.agg l]=(takeL n (dropL l off)).map .agg:=rfl
theorem aP_mkf(fn:Fn)(n:Nat)(vs:List V):aP (.mkf fn n) vs=(takeL n vs).map fun f=>.func fn f (dropL vs n):=rfl
theorem aP_build(zero:List V)(places:List (Nat×Nat))(vs:List V):aP (.build zero places) vs=(afill zero places vs).map .agg:=rfl
theorem aP_mn(k k':IntKind)(a b:Int):aP .mn [.int k a,.int k' b]=some (.int k (min a b)):=by
  simp only[aP,ilt_eq];congr 2;by_cases h:b<a
  ·simp only[h,decide_true,cond_true];omega
  ·simp only[h,decide_false,cond_false];omega
theorem aP_mx(k k':IntKind)(a b:Int):aP .mx [.int k a,.int k' b]=some (.int k (max a b)):=by
  simp only[aP,ilt_eq];congr 2;by_cases h:a<b
  ·simp only[h,decide_true,cond_true];omega
  ·simp only[h,decide_false,cond_false];omega
theorem aP_conv(k k':IntKind)(n:Int):aP (.conv k) [.int k' n]=some (.int k (fwrap k n)):=rfl
theorem aP_lenN:aP .lenS [.nils]=some (.int .i64 0):=rfl
theorem aP_lenS(b o len cap:Nat):aP .lenS [.slice b o len cap]=some (.int .i64 len):=rfl
theorem aP_lenU(b o len cap:Nat):aP .lenS [.sliceU b o len cap]=some (.int .i64 len):=rfl
theorem aP_lenE:aP .lenS [.sliceE]=some (.int .i64 0):=rfl
theorem aP_lenArr(n:Nat)(v:V):aP (.lenArr n) [v]=some (.int .i64 n):=rfl
theorem aP_capN:aP .capS [.nils]=some (.int .i64 0):=rfl
theorem aP_capS(b o len cap:Nat):aP .capS [.slice b o len cap]=some (.int .i64 cap):=rfl
theorem aP_ixS(esz b o len cap:Nat)(k:IntKind)(i:Int)(h0:0≤i)(h1:i<len):aP (.ixs esz) [.slice b o len cap,.int k i]=some (.ptr b (o+i.toNat*esz)):=by
  obtain⟨n,rfl⟩:∃n:Nat,i=n:=⟨i.toNat,by omega⟩;have:Nat.blt n len=true:=by simp only[Nat.blt_eq];omega
  simp only[aP,aidx];show Option.map _ (bif Nat.blt n len then some n else none)=_;rw[this];rfl
theorem aP_ixU(esz b o len cap:Nat)(k:IntKind)(i:Int)(h0:0≤i)(h1:i<len):aP (.ixs esz) [.sliceU b o len cap,.int k i]=some (.ptr b (o+i.toNat*esz)):=by
  obtain⟨n,rfl⟩:∃n:Nat,i=n:=⟨i.toNat,by omega⟩;have:Nat.blt n len=true:=by simp only[Nat.blt_eq];omega
  simp only[aP,aidx];show Option.map _ (bif Nat.blt n len then some n else none)=_;rw[this];rfl
theorem aP_ixa(esz b o len:Nat)(k:IntKind)(i:Int)(h0:0≤i)(h1:i<len):aP (.ixa len esz) [.ptr b o,.int k i]=some (.ptr b (o+i.toNat*esz)):=by
  obtain⟨n,rfl⟩:∃n:Nat,i=n:=⟨i.toNat,by omega⟩;have:Nat.blt n len=true:=by simp only[Nat.blt_eq];omega
  simp only[aP,aidx];show Option.map _ (bif Nat.blt n len then some n else none)=_;rw[this];rfl
theorem aP_shl(k k':IntKind)(a b:Int)(h:0≤b):aP (.sh true) [.int k a,.int k' b]=some (.int k (fwrap k (a*(2^(min b.toNat k.bits):Nat)))):=by
  obtain⟨n,rfl⟩:∃n:Nat,b=n:=⟨b.toNat,by omega⟩;rfl
theorem aP_shr(k k':IntKind)(a b:Int)(h:0≤b):aP (.sh false) [.int k a,.int k' b]=some (.int k (a.fdiv (2^(min b.toNat k.bits):Nat))):=by
  obtain⟨n,rfl⟩:∃n:Nat,b=n:=⟨b.toNat,by omega⟩;rfl
def pv:Option Nat→V
  |none=>.nilp
  |some b=>.ptr b 0
theorem pv_none:pv none=.nilp:=rfl
theorem pv_some(b:Nat):pv (some b)=.ptr b 0:=rfl
theorem pv_one(o:Option Nat):(pv o).one=true:=by cases o<;>rfl
theorem cells_one{v:V}(h:v.one=true):v.cells=[v]:=by cases v<;>first|rfl|(simp[V.one]at h)
theorem pv_cells(o:Option Nat):(pv o).cells=[pv o]:=cells_one (pv_one o)
theorem aP_nilp(ne:Bool)(o:Option Nat):aP (.nil 0 ne) [pv o,.nilp]=some (.bool (bif ne then o.isSome else o.isNone)):=by cases o<;>cases ne<;>rfl
theorem aP_nil_np(b o:Nat)(ne:Bool):aP (.nil 0 ne) [.ptr b o,.nilp]=some (.bool ne):=by cases ne<;>rfl
theorem aP_nil_nn(ne:Bool):aP (.nil 0 ne) [.nilp,.nilp]=some (.bool (!ne)):=by cases ne<;>rfl
theorem afill_nil(c:List V):afill c [] []=some c:=rfl
theorem afill_cons(c:List V)(off size:Nat)(ps:List (Nat×Nat))(v:V)(vs:List V)(h:v.cells.length=size)(h0:0<size):
    afill c ((off,size)::ps) (v::vs)=(updO c off v.cells).bind fun c'=>afill c' ps vs:=by
  subst h;simp only[afill];have:Nat.blt 0 v.cells.length=true:=by simpa[Nat.blt_eq]using h0
  rw[this];simp only[Nat.beq_refl,Bool.and_self,cond_true];cases updO c off v.cells<;>rfl
theorem afill_c(c:List V)(off size:Nat)(ps:List (Nat×Nat))(v:V)(vs:List V):
    afill c ((off,size)::ps) (v::vs)=if v.cells.length=size then if 0<size then(updO c off v.cells).bind fun c'=>afill c' ps vs else none else none:=by
  by_cases h:v.cells.length=size
  ·rw[if_pos h];by_cases h0:0<size
   ·rw[if_pos h0,afill_cons _ _ _ _ _ _ h h0]
   ·rw[if_neg h0];have:Nat.blt 0 size=false:=by cases hb:Nat.blt 0 size;rfl;rw[Nat.blt_eq]at hb;exact absurd hb h0
    simp[afill,this]
  ·rw[if_neg h];have:Nat.beq v.cells.length size=false:=by cases hb:Nat.beq v.cells.length size;rfl;exact absurd (Nat.eq_of_beq_eq_true hb) h
   simp[afill,this]
theorem cells_int(k:IntKind)(n:Int):(V.int k n).cells=[.int k n]:=rfl
theorem cells_bool(b:Bool):(V.bool b).cells=[.bool b]:=rfl
theorem cells_str(b:List UInt8):(V.str b).cells=[.str b]:=rfl
theorem cells_ptr(b o:Nat):(V.ptr b o).cells=[.ptr b o]:=rfl
theorem cells_nilp:V.nilp.cells=[.nilp]:=rfl
theorem cells_nils:V.nils.cells=[.nils]:=rfl
theorem cells_slice(b o l c:Nat):(V.slice b o l c).cells=[.slice b o l c]:=rfl
theorem cells_sliceU(b o l c:Nat):(V.sliceU b o l c).cells=[.sliceU b o l c]:=rfl
theorem cells_func(f:Fn)(a b:List V):(V.func f a b).cells=[.func f a b]:=rfl
theorem cells_nilf:V.nilf.cells=[.nilf]:=rfl
theorem cells_agg(l:List V):(V.agg l).cells=l:=rfl
theorem fwrap_i64(n:Int)(h1:-9223372036854775808≤n)(h2:n≤9223372036854775807):fwrap .i64 n=n:=by
  rw[fwrap_eq];simp only[IntKind.wrap,IntKind.bits,IntKind.signed];simp;omega
theorem fwrap_u8(n:Int)(h1:0≤n)(h2:n≤255):fwrap .u8 n=n:=by
  rw[fwrap_eq];simp only[IntKind.wrap,IntKind.bits,IntKind.signed];simp;omega
theorem fwrap_u16(n:Int)(h1:0≤n)(h2:n≤65535):fwrap .u16 n=n:=by
  rw[fwrap_eq];simp only[IntKind.wrap,IntKind.bits,IntKind.signed];simp;omega
theorem fwrap_u32(n:Int)(h1:0≤n)(h2:n≤4294967295):fwrap .u32 n=n:=by
  rw[fwrap_eq];simp only[IntKind.wrap,IntKind.bits,IntKind.signed];simp;omega
theorem fwrap_u64(n:Int)(h1:0≤n)(h2:n≤18446744073709551615):fwrap .u64 n=n:=by
  rw[fwrap_eq];simp only[IntKind.wrap,IntKind.bits,IntKind.signed];simp;omega
def WF(h:Heap):Prop:=∀p,h.next≤p→h.bl.get p=none∧h.fams.get p=none
/-- a block that may be read and written: it holds these cells -/
def Own(h:Heap)(b:Nat)(c:List V):Prop:=∃f k,h.bl.get b=some (.row c f k)∧((h.fams.get f=none∧f=b)∨∃e,h.fams.get f=some (b,e))
theorem Own.uniq{h:Heap}{b:Nat}{c c':List V}(a:Own h b c)(a':Own h b c'):c=c':=by
  obtain⟨f,k,e,_⟩:=a;obtain⟨f',k',e',_⟩:=a';rw[e]at e';cases e';rfl
theorem Own.lt{h:Heap}{b:Nat}{c:List V}(a:Own h b c)(w:WF h):b<h.next:=by
  obtain⟨f,k,e,_⟩:=a;rcases Nat.lt_or_ge b h.next with x|x
  ·exact x
  ·rw[(w b x).1]at e;cases e
theorem Own.cells{h:Heap}{b:Nat}{c:List V}(a:Own h b c):cellsAt h b=some c:=by
  obtain⟨f,k,e,x⟩:=a;simp only[cellsAt,e,rd];rcases x with⟨x,rfl⟩|⟨e',x⟩
  ·rw[x];rfl
  ·rw[x];simp
theorem Own.ld1{h:Heap}{b:Nat}{c:List V}(a:Own h b c)(o:Nat):hload1 h b o=nth c o:=by
  simp only[hload1,a.cells]
theorem Own.ld{h:Heap}{b:Nat}{c:List V}(a:Own h b c)(o n:Nat):hload h b o n=takeL n (dropL c o):=by
  simp only[hload,a.cells]
theorem aload_ptr1(h:Heap)(n b o:Nat):aload h n false (.ptr b o)=hload1 h b o:=rfl
theorem aload_ptrA(h:Heap)(n b o:Nat):aload h n true (.ptr b o)=(hload h b o n).map .agg:=rfl
theorem dropL_zero(l:List V):dropL l 0=l:=by rw[dropL_eq];rfl
theorem dropL_succ(v:V)(l:List V)(n:Nat):dropL (v::l) (n+1)=dropL l n:=rfl
/-- a block that was never grown -/
def Pl(h:Heap)(b:Nat)(c:List V):Prop:=(∃k,h.bl.get b=some (.row c b k))∧h.fams.get b=none
theorem Pl.own{h:Heap}{b:Nat}{c:List V}(a:Pl h b c):Own h b c:=by
  obtain⟨⟨k,e⟩,f⟩:=a;exact⟨b,k,e,.inl ⟨f,rfl⟩⟩
/-- blocks that are no cells: a loop's, a map's -/
def isLp:Blk→Bool
  |.lp _ _ _ _ _ _=>true
  |.mp _ _=>true
  |_=>false
/-- a block that may be read and that nobody can write -/
def Rs(h:Heap)(b:Nat)(c:List V):Prop:=∃f k ow,h.bl.get b=some (.row c f k)∧h.fams.get f=some (ow,k)∧h.bl.get ow=none∧ow<h.next
theorem Rs.set{t:T (Nat×Nat)}{h:Heap}{b:Nat}{c:List V}(r:Rs h b c){b':Nat}{c0 c1:List V}{f0 k0 k1:Nat}(e:h.bl.get b'=some (.row c0 f0 k0))(x:(h.fams.get f0=none)∨∃e',h.fams.get f0=some (b',e'))(F':T (Nat×Nat))(hF:F'=h.fams∨∃y,F'=h.fams.set f0 y)(n':Nat)(hn:h.next≤n'):
    Rs ⟨h.bl.set b' (.row c1 f0 k1),n',F',t⟩ b c:=by
  obtain⟨f,k,ow,e1,e2,e3,e4⟩:=r;have hff:f≠f0:=by
    rintro rfl;rcases x with x|⟨e',x⟩
    ·rw[e2]at x;cases x
    ·rw[e2]at x;cases x;rw[e3]at e;cases e
  have hb:b≠b':=by rintro rfl;rw[e1]at e;cases e;exact hff rfl
  have ho:ow≠b':=by rintro rfl;rw[e3]at e;cases e
  refine⟨f,k,ow,?_,?_,?_,by show ow<n';omega⟩
  ·show(h.bl.set b' _).get b=_;rw[T.get_set_ne _ _ hb];exact e1
  ·show F'.get f=_;rcases hF with rfl|⟨y,rfl⟩
   ·exact e2
   ·rw[T.get_set_ne _ _ hff];exact e2
  ·show(h.bl.set b' _).get ow=_;rw[T.get_set_ne _ _ ho];exact e3
theorem Rs.new{t:T (Nat×Nat)}{h:Heap}{b:Nat}{c:List V}(r:Rs h b c)(w:WF h)(k:Blk):Rs ⟨h.bl.set h.next k,h.next+1,h.fams,t⟩ b c:=by
  obtain⟨f,k',ow,e1,e2,e3,e4⟩:=r;have hb:b≠h.next:=by rintro rfl;rw[(w _ (Nat.le_refl _)).1]at e1;cases e1
  refine⟨f,k',ow,?_,e2,?_,by show ow<h.next+1;omega⟩
  ·show(h.bl.set _ _).get b=_;rw[T.get_set_ne _ _ hb];exact e1
  ·show(h.bl.set _ _).get ow=_;rw[T.get_set_ne _ _ (by omega)];exact e3
structure Fr(S:List Nat)(h h':Heap):Prop where
  next:h.next≤h'.next
  wf:WF h'
  own:∀b c,b∉S→Own h b c→Own h' b c
  pl:∀b c,b∉S→Pl h b c→Pl h' b c
  lp:∀b x,isLp x=true→h.bl.get b=some x→h'.bl.get b=some x
  ro:∀b c,Rs h b c→Rs h' b c
  ty:∀b x,b<h.next→h.tys.get b=some x→h'.tys.get b=some x
theorem Fr.refl{S:List Nat}{h:Heap}(w:WF h):Fr S h h:=⟨Nat.le_refl _,w,fun _ _ _ x=>x,fun _ _ _ x=>x,fun _ _ _ x=>x,fun _ _ x=>x,fun _ _ _ x=>x⟩
theorem Fr.trans{S S' T:List Nat}{h h1 h2:Heap}(a:Fr S h h1)(b:Fr S' h1 h2)(w:WF h)(hs:∀x,x∈S→x∈T∨h.next≤x)(hs':∀x,x∈S'→x∈T∨h.next≤x):Fr T h h2 where
  next:=Nat.le_trans a.next b.next
  wf:=b.wf
  lp:=fun x k hk o=>b.lp x k hk (a.lp x k hk o)
  ro:=fun x c r=>b.ro x c (a.ro x c r)
  ty:=fun x y hx e=>b.ty x y (Nat.lt_of_lt_of_le hx a.next) (a.ty x y hx e)
  own:=fun x c hx o=>by
    have:=o.lt w;refine b.own x c (fun m=>?_) (a.own x c (fun m=>?_) o)
    ·rcases hs' x m with y|y
     ·exact hx y
     ·omega
    ·rcases hs x m with y|y
     ·exact hx y
     ·omega
  pl:=fun x c hx o=>by
    have:=o.own.lt w;refine b.pl x c (fun m=>?_) (a.pl x c (fun m=>?_) o)
    ·rcases hs' x m with y|y
     ·exact hx y
     ·omega
    ·rcases hs x m with y|y
     ·exact hx y
     ·omega
theorem Fr.then{h h1 h2:Heap}(a:Fr [] h h1)(b:Fr [] h1 h2):Fr [] h h2 where
  next:=Nat.le_trans a.next b.next
  wf:=b.wf
  lp:=fun x k hk o=>b.lp x k hk (a.lp x k hk o)
  ro:=fun x c r=>b.ro x c (a.ro x c r)
  ty:=fun x y hx e=>b.ty x y (Nat.lt_of_lt_of_le hx a.next) (a.ty x y hx e)
  own:=fun x c _ o=>b.own x c (by simp) (a.own x c (by simp) o)
  pl:=fun x c _ o=>b.pl x c (by simp) (a.pl x c (by simp) o)
theorem Fr.get{h h':Heap}(a:Fr [] h h'){b:Nat}{c:List V}(o:Own h b c):Own h' b c:=a.own b c (by simp) o
theorem WF.halloc{h:Heap}(w:WF h)(c:List V):WF (halloc h c):=by
  intro p hp;have hp':h.next+1≤p:=hp;have:=w p (by omega);exact⟨by show(h.bl.set _ _).get p=none;rw[T.get_set_ne _ _ (by omega)];exact this.1,this.2⟩
theorem Own.new{h:Heap}(w:WF h)(c:List V):Own (halloc h c) h.next c:=
  ⟨h.next,0,T.get_set_self _ _ _,.inl ⟨(w h.next (Nat.le_refl _)).2,rfl⟩⟩
theorem Own.halloc{h:Heap}{b:Nat}{c:List V}(o:Own h b c)(w:WF h)(d:List V):Own (halloc h d) b c:=by
  have:=o.lt w;obtain⟨f,k,e,x⟩:=o;exact⟨f,k,by show(h.bl.set _ _).get b=_;rw[T.get_set_ne _ _ (by omega)];exact e,x⟩
theorem Fr.halloc{h:Heap}(w:WF h)(c:List V):Fr [] h (halloc h c):=⟨Nat.le_succ _,w.halloc c,fun _ _ _ o=>o.halloc w c,fun b d _ o=>by
  have:=o.own.lt w;obtain⟨⟨k,e⟩,f⟩:=o;exact⟨⟨k,by show(h.bl.set _ _).get b=_;rw[T.get_set_ne _ _ (by omega)];exact e⟩,f⟩,fun b x _ e=>by
  have:b≠h.next:=by rintro rfl;rw[(w _ (Nat.le_refl _)).1]at e;cases e
  show(h.bl.set _ _).get b=_;rw[T.get_set_ne _ _ this];exact e,fun b x r=>r.new w _,fun _ _ _ e=>e⟩
theorem halloc_next(h:Heap)(c:List V):(Ev.halloc h c).next=h.next+1:=rfl
theorem hbox{h:Heap}(w:WF h)(c:List V):∃h1,h1=Ev.halloc h c∧Fr [] h h1∧Own h1 h.next c:=⟨_,rfl,Fr.halloc w c,Own.new w c⟩
theorem hnx{h h1:Heap}{c:List V}(e:h1=Ev.halloc h c):h1.next=h.next+1:=by rw[e];rfl
attribute [simp] T.get_set
/-- a new block under a name of its own -/
theorem new_block{h:Heap}(w:WF h)(c:List V):∃b h',h'=halloc h c∧h.next=b∧Own h' b c∧Fr [] h h':=⟨_,_,rfl,rfl,Own.new w c,Fr.halloc w c⟩
theorem own_store{h:Heap}{b o:Nat}{c c' vs:List V}(w:WF h)(a:Own h b c)(h1:onesB vs=true)(hu:updO c o vs=some c'):
    ∃h',hstore h b o vs=some h'∧Own h' b c'∧Fr [b] h h'∧h'.next=h.next:=by
  have hb:=a.lt w;obtain⟨f,k,e,x⟩:=a;simp only[hstore,e,h1,cond_true,hu];rcases x with⟨x,rfl⟩|⟨e',x⟩
  ·rw[x];refine⟨_,rfl,⟨f,k,T.get_set_self _ _ _,.inl ⟨x,rfl⟩⟩,⟨Nat.le_refl _,?_,?_,?_,fun q y hy ey=>by
     have:q≠f:=by intro eq;rw[eq,e]at ey;cases ey;cases hy
     show(h.bl.set _ _).get q=_;rw[T.get_set_ne _ _ this];exact ey,fun q y r=>r.set e (.inl x) _ (.inl rfl) _ (Nat.le_refl _),fun _ _ _ e=>e⟩,rfl⟩
   ·intro p hp;have hp':h.next≤p:=hp;have:=w p hp';exact⟨by show(h.bl.set _ _).get p=none;rw[T.get_set_ne _ _ (by omega)];exact this.1,this.2⟩
   ·rintro q d hq ⟨f1,k1,e1,x1⟩;simp at hq;exact⟨f1,k1,by show(h.bl.set _ _).get q=_;rw[T.get_set_ne _ _ hq];exact e1,x1⟩
   ·rintro q d hq ⟨⟨k1,e1⟩,x1⟩;simp at hq;exact⟨⟨k1,by show(h.bl.set _ _).get q=_;rw[T.get_set_ne _ _ hq];exact e1⟩,x1⟩
  ·rw[x];simp only[Nat.beq_refl,cond_true];refine⟨_,rfl,⟨f,k,T.get_set_self _ _ _,.inr ⟨e'+1,T.get_set_self _ _ _⟩⟩,⟨Nat.le_refl _,?_,?_,?_,fun q y hy ey=>by
     have:q≠b:=by intro eq;rw[eq,e]at ey;cases ey;cases hy
     show(h.bl.set _ _).get q=_;rw[T.get_set_ne _ _ this];exact ey,fun q y r=>r.set e (.inr ⟨_,x⟩) _ (.inr ⟨_,rfl⟩) _ (Nat.le_refl _),fun _ _ _ e=>e⟩,rfl⟩
   ·intro p hp;have hp':h.next≤p:=hp;have:=w p hp';refine⟨by show(h.bl.set _ _).get p=none;rw[T.get_set_ne _ _ (by omega)];exact this.1,?_⟩;show(h.fams.set _ _).get p=none;by_cases hpf:p=f
    ·subst hpf;rw[this.2]at x;cases x
    ·rw[T.get_set_ne _ _ hpf];exact this.2
   ·rintro q d hq ⟨f1,k1,e1,x1⟩;simp at hq;refine⟨f1,k1,by show(h.bl.set _ _).get q=_;rw[T.get_set_ne _ _ hq];exact e1,?_⟩;have hf:f1≠f:=by
      rintro rfl;rcases x1 with⟨x1,_⟩|⟨e2,x1⟩
      ·rw[x]at x1;cases x1
      ·rw[x]at x1;cases x1;exact hq rfl
    show((h.fams.set f (b,e'+1)).get f1=none∧_)∨∃e,(h.fams.set f (b,e'+1)).get f1=some (q,e);rw[T.get_set_ne _ _ hf];exact x1
   ·rintro q d hq ⟨⟨k1,e1⟩,x1⟩;simp at hq;refine⟨⟨k1,by show(h.bl.set _ _).get q=_;rw[T.get_set_ne _ _ hq];exact e1⟩,?_⟩;show(h.fams.set f (b,e'+1)).get q=none;rw[T.get_set_ne _ _ (by rintro rfl;rw[x]at x1;cases x1)];exact x1
theorem astore_ptr{h:Heap}{n b o:Nat}{v:V}(e:v.cells.length=n):astore h n (.ptr b o) v=hstore h b o v.cells:=by
  subst e;simp[astore]
/-- a store -/
theorem store_step{h:Heap}{n b o:Nat}{v:V}{c c':List V}{K:V→Heap→Prop}(w:WF h)(a:Own h b c)(e:v.cells.length=n)(h1:onesB v.cells=true)(hu:updO c o v.cells=some c')
    (k:∀h',Own h' b c'→Fr [b] h h'→h'.next=h.next→K (.tup []) h'):HQ (astore h n (.ptr b o) v) K:=by
  obtain⟨h',e1,o1,f1,n1⟩:=own_store w a h1 hu;exact⟨h',by rw[astore_ptr e];exact e1,k h' o1 f1 n1⟩
/-- a list written from a place on -/
theorem updO_at:∀(c:List V)(o:Nat)(vs:List V),o+vs.length≤c.length→updO c o vs=some (c.take o++vs++c.drop (o+vs.length))
  |[],o,vs,h=>by
    have:vs=[]:=by cases vs<;>simp at h⊢
    subst this;cases o<;>simp[updO_nil]
  |x::l,0,[],h=>by simp[updO_zero_nil]
  |x::l,0,v::vs,h=>by
    rw[updO_zero_cons,updO_at l 0 vs (by simp at h⊢;omega)];simp[Nat.add_comm]
  |x::l,o+1,vs,h=>by
    rw[updO_succ,updO_at l o vs (by simp at h⊢;omega)];simp[Nat.succ_add]
theorem updO_set1(c:List V)(o:Nat)(v:V)(h:o<c.length):updO c o [v]=some (c.set o v):=by
  rw[updO_at c o [v] (by simp;omega)];congr 1;rw[List.set_eq_take_append_cons_drop,if_pos h];simp
theorem onesB_nil:onesB []=true:=rfl
theorem onesB_cons(v:V)(l:List V):onesB (v::l)=(v.one&&onesB l):=rfl
theorem takeL_at(c:List V)(n:Nat)(h:n≤c.length):takeL n c=some (c.take n):=by
  induction n generalizing c with
  |zero=>simp[takeL_zero]
  |succ n ih=>cases c with
    |nil=>simp at h
    |cons x l=>rw[takeL_cons,ih l (by simpa using h)];simp
/-- a slice reads as these cells -/
def Sl(h:Heap)(esz:Nat)(v:V)(n:Nat)(cs:List V):Prop:=
  cs.length=n*esz∧match v with
  |.nils=>n=0
  |.sliceE=>n=0
  |.slice b o len cap=>len=n∧n≤cap∧∃c,Own h b c∧o+n*esz≤c.length∧cs=(c.drop o).take (n*esz)
  |.sliceU b o len e=>len=n∧e=esz∧∃c,Own h b c∧o+n*esz≤c.length∧cs=(c.drop o).take (n*esz)
  |_=>False
theorem Sl.fr{h h':Heap}{esz:Nat}{v:V}{n:Nat}{cs:List V}(a:Sl h esz v n cs)(f:Fr [] h h'):Sl h' esz v n cs:=by
  obtain⟨hl,a⟩:=a;refine⟨hl,?_⟩;cases v with
  |slice b o l k=>obtain⟨h1,h2,c,o,x⟩:=a;exact⟨h1,h2,c,f.get o,x⟩
  |sliceU b o l k=>obtain⟨h1,h2,c,o,x⟩:=a;exact⟨h1,h2,c,f.get o,x⟩
  |_=>exact a
theorem Sl.len{h:Heap}{esz:Nat}{v:V}{n:Nat}{cs:List V}(a:Sl h esz v n cs):aP .lenS [v]=some (.int .i64 n):=by
  obtain⟨hl,a⟩:=a;cases v with
  |slice b o l k=>obtain⟨rfl,_⟩:=a;rfl
  |sliceU b o l k=>obtain⟨rfl,_⟩:=a;rfl
  |nils=>have a:n=0:=a;subst a;rfl
  |sliceE=>have a:n=0:=a;subst a;rfl
  |_=>exact a.elim
theorem Sl.one{h:Heap}{esz:Nat}{v:V}{n:Nat}{cs:List V}(a:Sl h esz v n cs):v.one=true:=by
  obtain⟨hl,a⟩:=a;cases v with
  |slice b o l k=>rfl
  |sliceU b o l k=>rfl
  |nils=>rfl
  |sliceE=>rfl
  |_=>exact a.elim
theorem Sl.ix{h:Heap}{esz:Nat}{v:V}{n:Nat}{cs:List V}(a:Sl h esz v n cs)(k:IntKind)(i:Int)(h0:0≤i)(h1:i<n):
    ∃b o,aP (.ixs esz) [v,.int k i]=some (.ptr b o)∧(∀j,j<esz→hload1 h b (o+j)=cs[i.toNat*esz+j]?)∧hload h b o esz=some ((cs.drop (i.toNat*esz)).take esz):=by
  obtain⟨hl,a⟩:=a;obtain⟨m,rfl⟩:∃m:Nat,i=m:=⟨i.toNat,by omega⟩;have hm:m<n:=by omega
  have hmul:m*esz+esz≤n*esz:=by rw[←Nat.succ_mul];exact Nat.mul_le_mul_right _ hm
  have main:∀(b o:Nat)(c:List V),Own h b c→o+n*esz≤c.length→cs=(c.drop o).take (n*esz)→
      (∀j,j<esz→hload1 h b (o+m*esz+j)=cs[m*esz+j]?)∧hload h b (o+m*esz) esz=some ((cs.drop (m*esz)).take esz):=by
    intro b o c hc hlen e;subst e;constructor
    ·intro j hj;rw[hc.ld1,nth_eq,List.getElem?_take,if_pos (by omega),List.getElem?_drop];congr 1;omega
    ·rw[hc.ld,dropL_eq,takeL_at _ _ (by simp;omega),List.drop_take,List.drop_drop,List.take_take];congr 2;omega
  cases v with
  |slice b o l q=>
    obtain⟨rfl,_,c,hc,hlen,e⟩:=a;exact⟨b,o+m*esz,aP_ixS _ _ _ _ _ _ _ h0 h1,main b o c hc hlen e⟩
  |sliceU b o l q=>
    obtain⟨rfl,rfl,c,hc,hlen,e⟩:=a;exact⟨b,o+m*q,aP_ixU _ _ _ _ _ _ _ h0 h1,main b o c hc hlen e⟩
  |nils=>have a:n=0:=a;omega
  |sliceE=>have a:n=0:=a;omega
  |_=>exact a.elim
section
variable {call : CallF} {env : T V} {h : Heap} {loc : List V}
def EQ(o:Option (T V))(K:T V→Prop):Prop:=∃en,o=some en∧K en
theorem EQ_some(en:T V)(K:T V→Prop):EQ (some en) K↔K en:=⟨fun⟨_,x,k⟩=>by cases x;exact k,fun k=>⟨en,rfl,k⟩⟩
def HdQ(hs:List Heap)(K:Heap→Prop):Prop:=match hs with
  |[]=>False
  |h::_=>K h
theorem HdQ_cons(hs:List Heap)(K:Heap→Prop):HdQ (h::hs) K↔K h:=Iff.rfl
theorem DE_iff(l:List IStep)(reads:List (Nat×Nat×Nat))(sets:List (Nat×Nat))(Q:T V→Heap→Prop)(hs:List Heap):DE call l reads sets env Q loc hs↔
    reads.all (rdOK call env l loc hs)=true∧EQ (setsE l.length loc sets env) fun env'=>HdQ hs fun h'=>Q env' h':=by
  simp only[DE,EQ];constructor
  ·rintro⟨a,env',h',hs',e,rfl,q⟩;exact⟨a,env',e,q⟩
  ·rintro⟨a,env',e,q⟩;cases hs with
   |nil=>exact q.elim
   |cons h' hs'=>exact⟨a,env',h',hs',e,rfl,q⟩
/-- under a guard -/
def GR(o:Option V)(want:Bool)(A:Prop):Prop:=match o with
  |some (.bool b)=>if b=want then A else True
  |_=>True
theorem GR_tup(t:List V)(want:Bool)(A:Prop):GR (some (.tup t)) want A↔True:=Iff.rfl
theorem GR_some(b want:Bool)(A:Prop):GR (some (.bool b)) want A↔if b=want then A else True:=Iff.rfl
def RD(call:CallF)(env:T V)(s:Option IStep)(loc:List V)(hs:List Heap):Prop:=match s,loc with
  |some t,v::l=>(match t.gd with
    |none=>rdAll call l env t.op v hs=true
    |some (x,want)=>GR (evO l env x) want (rdAll call l env t.op v hs=true))
  |_,_=>False
theorem RD_n(o:IOp)(d:Option Nat)(v:V)(l:List V)(hs:List Heap):RD call env (some ⟨none,o,d⟩) (v::l) hs↔rdAll call l env o v hs=true:=Iff.rfl
theorem RD_g(x:Opd)(want:Bool)(o:IOp)(d:Option Nat)(v:V)(l:List V)(hs:List Heap):RD call env (some ⟨some (x,want),o,d⟩) (v::l) hs↔GR (evO l env x) want (rdAll call l env o v hs=true):=Iff.rfl
theorem rd_iff(l:List IStep)(hs:List Heap)(i lo hi:Nat):rdOK call env l loc hs (i,lo,hi)=true↔RD call env l[i]? (loc.drop (l.length-i-1)) ((hs.reverse.drop lo).take (hi+1-lo)):=by
  simp only[rdOK];cases l[i]? with
  |none=>simp[RD]
  |some t=>cases loc.drop (l.length-i-1)with
    |nil=>simp[RD]
    |cons v l'=>
      obtain⟨gd,o,d⟩:=t;cases gd with
      |none=>simp[RD,evG]
      |some g=>
        obtain⟨x,want⟩:=g;simp only[RD,evG,GR];cases evO l' env x with
        |none=>simp
        |some b=>
          cases b with
          |bool b=>cases b<;>cases want<;>simp
          |_=>simp
def RAll(call:CallF)(env:T V)(l:List IStep)(loc:List V)(hs:List Heap):List (Nat×Nat×Nat)→Prop
  |[]=>True
  |(i,lo,hi)::rs=>RD call env l[i]? (loc.drop (l.length-i-1)) ((hs.reverse.drop lo).take (hi+1-lo))∧RAll call env l loc hs rs
theorem RAll_nil(l:List IStep)(hs:List Heap):RAll call env l loc hs []↔True:=Iff.rfl
theorem RAll_cons(l:List IStep)(hs:List Heap)(i lo hi:Nat)(rs:List (Nat×Nat×Nat)):RAll call env l loc hs ((i,lo,hi)::rs)↔
    RD call env l[i]? (loc.drop (l.length-i-1)) ((hs.reverse.drop lo).take (hi+1-lo))∧RAll call env l loc hs rs:=Iff.rfl
theorem RAll_iff{l:List IStep}{hs:List Heap}:∀{rs:List (Nat×Nat×Nat)},rs.all (rdOK call env l loc hs)=true↔RAll call env l loc hs rs
  |[]=>by simp[RAll]
  |(i,lo,hi)::rs=>by simp only[List.all_cons,Bool.and_eq_true,rd_iff,RAll_cons,RAll_iff (rs:=rs)]
def DF(call:CallF)(l:List IStep)(reads:List (Nat×Nat×Nat))(sets:List (Nat×Nat))(env:T V)(Q:T V→Heap→Prop)(loc:List V)(hs:List Heap):Prop:=
  RAll call env l loc hs reads∧EQ (setsE l.length loc sets env) fun env'=>HdQ hs fun h'=>Q env' h'
theorem WD.mono{l:List DS}{hs:List Heap}{K K':List V→List Heap→Prop}(a:WD call env l loc hs h K)(b:∀x y,K x y→K' x y):WD call env l loc hs h K':=by
  obtain⟨x,y,e,k⟩:=a;exact⟨x,y,e,b _ _ k⟩
def LayQ(o:Option (List DS×Heap))(K:List DS→Heap→Prop):Prop:=∃l h,o=some (l,h)∧K l h
theorem LayQ_some(l:List DS)(h:Heap)(K:List DS→Heap→Prop):LayQ (some (l,h)) K↔K l h:=
  ⟨fun⟨_,_,e,k⟩=>by cases e;exact k,fun k=>⟨_,_,rfl,k⟩⟩
theorem W_dl(l:List IStep)(late B R:List Nat)(reads:List (Nat×Nat×Nat))(sets:List (Nat×Nat))(Q:Ex→T V→Heap→Prop):
    W call (.dops l late B R reads sets) env h Q↔LayQ (lay call env late l 0 [] h) fun dl h1=>WD call env dl [] [h1] h1 (DF call l reads sets env (Q .norm)):=by
  constructor
  ·rintro⟨e,env',h',x,q⟩;have x:evD call l late reads sets env h=.ok e env' h':=x;unfold evD at x;split at x
   ·cases x
   ·rename_i dl h1 hl;refine⟨dl,h1,hl,?_⟩;split at x
    ·rename_i loc hs hd;refine⟨loc,hs,hd,?_⟩;cases ha:reads.all (rdOK call env l loc hs)
     ·rw[ha]at x;cases x
     ·rw[ha]at x;simp only[cond_true]at x;split at x
      ·rename_i env1 h2 hs2 hse;cases x;exact⟨RAll_iff.1 ha,_,hse,q⟩
      ·cases x
    ·cases x
  ·rintro⟨dl,h1,hl,x⟩;refine W_dopsl _ _ _ _ _ _ _ hl (x.mono ?_);rintro loc hs ⟨a,b⟩;exact(DE_iff _ _ _ _ _).2 ⟨RAll_iff.2 a,b⟩
theorem W_d(l:List IStep)(B R:List Nat)(reads:List (Nat×Nat×Nat))(sets:List (Nat×Nat))(Q:Ex→T V→Heap→Prop):
    W call (.dops l [] B R reads sets) env h Q↔WD call env (l.map fun s=>(s,none)) [] [h] h (DF call l reads sets env (Q .norm)):=by
  rw[W_dl,lay_nil,LayQ_some]
def SEv(o:Option V)(K:V→Option (T V)):Option (T V):=match o with
  |some v=>K v
  |none=>none
theorem SEv_some(v:V)(K:V→Option (T V)):SEv (some v) K=K v:=rfl
theorem setsE_c(n s i:Nat)(r:List (Nat×Nat)):setsE n loc ((s,i)::r) env=SEv (nth loc (n-i-1)) fun v=>setsE n loc r (env.set s v):=by
  rw[setsE_cons];unfold SEv;cases nth loc (n-i-1)<;>rfl
end
theorem abound_ok(k:IntKind)(i:Int)(y:Nat)(h0:0≤i)(h1:i≤y):abound (.int k i) y=some i.toNat:=by
  obtain⟨n,rfl⟩:∃n:Nat,i=n:=⟨i.toNat,by omega⟩;have:Nat.ble n y=true:=(Nat.ble_eq ..).mpr (by omega);show(bif Nat.ble n y then some n else none)=_;rw[this];rfl
theorem beq_ff{a b:Nat}(h:a≠b):Nat.beq a b=false:=by
  cases hb:Nat.beq a b
  ·rfl
  ·exact absurd (Nat.eq_of_beq_eq_true hb) h
theorem beq_tt{a b:Nat}(h:a=b):Nat.beq a b=true:=by subst h;simp
theorem blt_ff{a b:Nat}(h:¬a<b):Nat.blt a b=false:=by
  cases hb:Nat.blt a b
  ·rfl
  ·exact absurd ((Nat.blt_eq ..).mp hb) h
theorem ble_ff{a b:Nat}(h:¬a≤b):Nat.ble a b=false:=by
  cases hb:Nat.ble a b
  ·rfl
  ·exact absurd ((Nat.ble_eq ..).mp hb) h
/-- a part of a slice -/
theorem Sl.part{h:Heap}{esz:Nat}{v:V}{n:Nat}{cs:List V}(a:Sl h esz v n cs)(he:0<esz)(hv:v≠.sliceE)(lo hi:Bool)(bs:List V)(l u:Nat)(hu:u≤n)(hl:l≤u)
    (hb:∀y,n≤y→abounds n y lo hi false bs=some (l,u,none)):
    ∃v',aP (.sl none esz lo hi false) (v::bs)=some v'∧Sl h esz v' (u-l) ((cs.drop (l*esz)).take ((u-l) *esz)):=by
  obtain⟨hlen,a⟩:=a;have hm:l*esz+(u-l) *esz≤n*esz:=by rw[←Nat.add_mul];exact Nat.mul_le_mul_right _ (by omega)
  have hlen':((cs.drop (l*esz)).take ((u-l) *esz)).length=(u-l) *esz:=by simp;omega
  have main:∀(b o:Nat)(c:List V),Own h b c→o+n*esz≤c.length→cs=(c.drop o).take (n*esz)→
      (cs.drop (l*esz)).take ((u-l) *esz)=(c.drop (o+l*esz)).take ((u-l) *esz):=by
    intro b o c _ hlen e;subst e;rw[List.drop_take,List.drop_drop,List.take_take];congr 1;omega
  cases v with
  |slice b o len cap=>
    obtain⟨rfl,hcap,c,hc,hlen2,e⟩:=a;refine⟨.slice b (bif Nat.beq cap l then o else o+l*esz) (u-l) (cap-l),by simp only[aP,aslice,hb cap hcap,Option.map_some,Option.getD_none],hlen',rfl,by omega,c,hc,?_⟩;by_cases hcl:cap=l
    ·have h0:u-l=0:=by omega
     rw[beq_tt hcl,h0];simp;omega
    ·rw[beq_ff hcl];exact⟨by simp only[cond_false];omega,main b o c hc hlen2 e⟩
  |sliceU b o len q=>
    obtain⟨rfl,rfl,c,hc,hlen2,e⟩:=a;have hq:(Nat.beq q q&&Nat.blt 0 q)=true:=by simp[Nat.blt_eq,he]
    by_cases h1:l<len
    ·refine⟨.sliceU b (o+l*q) (u-l) q,?_,hlen',rfl,rfl,c,hc,by omega,main b o c hc hlen2 e⟩;simp only[aP,aslice,hq,cond_true,hb len (Nat.le_refl _),Option.bind_some,(Nat.blt_eq ..).mpr h1]
    ·have hl0:u-l=0:=by omega
     by_cases h2:l=0
     ·subst h2;refine⟨.sliceU b o (u-0) q,?_,hlen',rfl,rfl,c,hc,by omega,by simpa using main b o c hc hlen2 e⟩;simp only[aP,aslice,hq,cond_true,hb len (Nat.le_refl _),Option.bind_some,blt_ff h1,cond_false,show Nat.beq 0 0=true from rfl]
     ·refine⟨.sliceE,?_,hlen',hl0⟩;simp only[aP,aslice,hq,cond_true,hb len (Nat.le_refl _),Option.bind_some,blt_ff h1,cond_false,beq_ff h2]
  |nils=>
    have a:n=0:=a;subst a;refine⟨.nils,?_,hlen',by omega⟩;simp only[aP,aslice,hb 0 (Nat.le_refl _),Option.map_some]
  |sliceE=>exact absurd rfl hv
  |_=>exact a.elim
theorem Sl.ne{h:Heap}{esz:Nat}{v:V}{n:Nat}{cs:List V}(a:Sl h esz v n cs)(hn:0<n):v≠.sliceE:=by
  rintro rfl;have:n=0:=a.2;omega
theorem Sl.from'{h:Heap}{esz:Nat}{v:V}{n:Nat}{cs:List V}(a:Sl h esz v n cs)(he:0<esz)(hv:v≠.sliceE)(k:IntKind)(i:Int)(h0:0≤i)(h1:i≤n):
    ∃v',aP (.sl none esz true false false) [v,.int k i]=some v'∧Sl h esz v' (n-i.toNat) (cs.drop (i.toNat*esz)):=by
  obtain⟨v',e,s⟩:=a.part he hv true false [.int k i] i.toNat n (Nat.le_refl _) (by omega) (fun y _=>by simp only[abounds,abound_ok k i n h0 h1,Option.map_some]);refine⟨v',e,?_⟩;have hm:i.toNat*esz+(n-i.toNat) *esz=n*esz:=by rw[←Nat.add_mul];congr 1;omega
  rwa[List.take_of_length_le (by simp[a.1];omega)]at s
theorem Sl.upto{h:Heap}{esz:Nat}{v:V}{n:Nat}{cs:List V}(a:Sl h esz v n cs)(he:0<esz)(hv:v≠.sliceE)(k:IntKind)(i:Int)(h0:0≤i)(h1:i≤n):
    ∃v',aP (.sl none esz false true false) [v,.int k i]=some v'∧Sl h esz v' i.toNat (cs.take (i.toNat*esz)):=by
  obtain⟨v',e,s⟩:=a.part he hv false true [.int k i] 0 i.toNat (by omega) (by omega) (fun y hy=>by simp only[abounds,abound_ok k i y h0 (by omega),Option.map_some]);exact⟨v',e,by simpa using s⟩
theorem Sl.range{h:Heap}{esz:Nat}{v:V}{n:Nat}{cs:List V}(a:Sl h esz v n cs)(he:0<esz)(hv:v≠.sliceE)(k k':IntKind)(i j:Int)(h0:0≤i)(h1:i≤j)(h2:j≤n):
    ∃v',aP (.sl none esz true true false) [v,.int k i,.int k' j]=some v'∧Sl h esz v' (j.toNat-i.toNat) ((cs.drop (i.toNat*esz)).take ((j.toNat-i.toNat) *esz)):=by
  obtain⟨v',e,s⟩:=a.part he hv true true [.int k i,.int k' j] i.toNat j.toNat (by omega) (by omega) (fun y hy=>by
    simp only[abounds,abound_ok k' j y (by omega) (by omega),Option.bind_some,abound_ok k i j.toNat h0 (by omega),Option.map_some])
  exact⟨v',e,s⟩
/-- the slice owns its cells, from block B on -/
def Gs(h:Heap)(B:Nat)(esz:Nat)(v:V)(cs:List V):Prop:=(v=.nils∧cs=[])∨∃b n,v=.sliceU b 0 n esz∧cs.length=n*esz∧0<n∧B≤b∧Own h b cs
theorem Gs.sl{h:Heap}{B esz:Nat}{v:V}{cs:List V}{n:Nat}(a:Gs h B esz v cs)(hn:cs.length=n*esz)(he:0<esz):Sl h esz v n cs:=by
  rcases a with⟨rfl,rfl⟩|⟨b,m,rfl,hm,_,_,o⟩
  ·refine⟨hn,?_⟩;have:0=n*esz:=hn;rcases Nat.eq_zero_or_pos n with h|h
   ·exact h
   ·have:=Nat.mul_pos h he;omega
  ·have:m=n:=Nat.eq_of_mul_eq_mul_right he (by omega);subst this;exact⟨hn,rfl,rfl,cs,o,by omega,by simp[←hn]⟩
theorem Gs.one{h:Heap}{B esz:Nat}{v:V}{cs:List V}(a:Gs h B esz v cs):v.one=true:=by
  rcases a with⟨rfl,rfl⟩|⟨b,m,rfl,_⟩<;>rfl
theorem Gs.fr{h h':Heap}{B esz:Nat}{v:V}{cs:List V}(a:Gs h B esz v cs)(f:Fr [] h h'):Gs h' B esz v cs:=by
  rcases a with⟨rfl,rfl⟩|⟨b,m,rfl,h1,h2,h3,o⟩
  ·exact .inl ⟨rfl,rfl⟩
  ·exact .inr ⟨b,m,rfl,h1,h2,h3,f.get o⟩
/-- growing: what is below block B stays -/
structure Up(B:Nat)(h h':Heap):Prop where
  next:h.next≤h'.next
  wf:WF h'
  own:∀b c,b<B→Own h b c→Own h' b c
  pl:∀b c,b<B→Pl h b c→Pl h' b c
  lp:∀b x,isLp x=true→h.bl.get b=some x→h'.bl.get b=some x
  ro:∀b c,Rs h b c→Rs h' b c
  ty:∀b x,b<h.next→h.tys.get b=some x→h'.tys.get b=some x
theorem Fr.up{S:List Nat}{h h':Heap}{B:Nat}(f:Fr S h h')(hs:∀x∈S,B≤x):Up B h h':=
  ⟨f.next,f.wf,fun b c hb o=>f.own b c (fun m=>by have:=hs b m;omega) o,fun b c hb o=>f.pl b c (fun m=>by have:=hs b m;omega) o,f.lp,f.ro,f.ty⟩
theorem Fr.ups{h0 h h':Heap}(f:Fr [] h0 h)(w:WF h0)(u:Up h0.next h h'):Fr [] h0 h':=
  ⟨Nat.le_trans f.next u.next,u.wf,fun b c _ o=>u.own b c (o.lt w) (f.get o),fun b c _ o=>u.pl b c (o.own.lt w) (f.pl b c (by simp) o),fun b x hx o=>u.lp b x hx (f.lp b x hx o),fun b c r=>u.ro b c (f.ro b c r),fun b x hb e=>u.ty b x (Nat.lt_of_lt_of_le hb f.next) (f.ty b x hb e)⟩
theorem Up.refl{B:Nat}{h:Heap}(w:WF h):Up B h h:=⟨Nat.le_refl _,w,fun _ _ _ o=>o,fun _ _ _ o=>o,fun _ _ _ o=>o,fun _ _ o=>o,fun _ _ _ e=>e⟩
theorem Up.trans{B:Nat}{h h1 h2:Heap}(a:Up B h h1)(b:Up B h1 h2):Up B h h2:=
  ⟨Nat.le_trans a.next b.next,b.wf,fun x c hx o=>b.own x c hx (a.own x c hx o),fun x c hx o=>b.pl x c hx (a.pl x c hx o),fun x k hk o=>b.lp x k hk (a.lp x k hk o),fun x c r=>b.ro x c (a.ro x c r),fun x y hx e=>b.ty x y (Nat.lt_of_lt_of_le hx a.next) (a.ty x y hx e)⟩
theorem Fr.fresh{h h1 h2:Heap}{b:Nat}(a:Fr [] h h1)(c:Fr [b] h1 h2)(w:WF h)(hb:h.next≤b):Fr [] h h2:=
  a.trans c w (by simp) (by simp;exact hb)
theorem own_super{h:Heap}{b pos:Nat}{c c':List V}(w:WF h)(a:Own h b c):∃h',hsuper h b pos c'=some h'∧Own h' h.next c'∧Fr [b] h h':=by
  have hb:=a.lt w;obtain⟨f,k,e,x⟩:=a;have hf:f<h.next:=by
    rcases x with⟨_,rfl⟩|⟨e',x⟩
    ·exact hb
    ·rcases Nat.lt_or_ge f h.next with y|y
     ·exact y
     ·rw[(w f y).2]at x;cases x
  have go:∀(e0 e1:Nat),(h.fams.get f=none∧f=b∨∃e,h.fams.get f=some (b,e))→
      Own ⟨(h.bl.set b (.row c f e0)).set h.next (.row c' f 0),h.next+1,h.fams.set f (h.next,e1),h.tys⟩ h.next c'∧
      Fr [b] h ⟨(h.bl.set b (.row c f e0)).set h.next (.row c' f 0),h.next+1,h.fams.set f (h.next,e1),h.tys⟩:=by
    intro e0 e1 x;refine⟨⟨f,0,T.get_set_self _ _ _,.inr ⟨e1,T.get_set_self _ _ _⟩⟩,⟨Nat.le_succ _,?_,?_,?_,fun q y hy ey=>by
      have h1:q≠b:=by intro eq;rw[eq,e]at ey;cases ey;cases hy
      have h2:q≠h.next:=by rintro rfl;rw[(w _ (Nat.le_refl _)).1]at ey;cases ey
      show((h.bl.set b _).set h.next _).get q=_;rw[T.get_set_ne _ _ h2,T.get_set_ne _ _ h1];exact ey,fun q y r=>by
      have r1:Rs ⟨h.bl.set b (.row c f e0),h.next,h.fams.set f (h.next,e1),h.tys⟩ q y:=r.set e (by rcases x with⟨x,_⟩|x;exact .inl x;exact .inr x) _ (.inr ⟨_,rfl⟩) _ (Nat.le_refl _)
      obtain⟨f',k',ow,p1,p2,p3,p4⟩:=r1;have p1':(h.bl.set b (.row c f e0)).get q=some (.row y f' k'):=p1;have p4':ow<h.next:=p4;have hq:q≠h.next:=by
        rintro rfl;rw[T.get_set_ne _ _ (by omega),(w _ (Nat.le_refl _)).1]at p1';cases p1'
      refine⟨f',k',ow,?_,p2,?_,by show ow<h.next+1;omega⟩
      ·show((h.bl.set b _).set h.next _).get q=_;rw[T.get_set_ne _ _ hq];exact p1
      ·show((h.bl.set b _).set h.next _).get ow=_;rw[T.get_set_ne _ _ (by omega)];exact p3,fun _ _ _ e=>e⟩⟩
    ·intro p hp;have hp':h.next+1≤p:=hp;have:=w p (by omega);refine⟨?_,?_⟩
     ·show((h.bl.set b _).set h.next _).get p=none;rw[T.get_set_ne _ _ (by omega),T.get_set_ne _ _ (by omega)];exact this.1
     ·show(h.fams.set f _).get p=none;rw[T.get_set_ne _ _ (by omega)];exact this.2
    ·rintro q d hq o;have hq':=o.lt w;obtain⟨f1,k1,e2,x1⟩:=o;simp at hq;refine⟨f1,k1,?_,?_⟩
     ·show((h.bl.set b _).set h.next _).get q=_;rw[T.get_set_ne _ _ (by omega),T.get_set_ne _ _ hq];exact e2
     ·have hne:f1≠f:=by
        rintro rfl;rcases x with⟨xa,xb⟩|⟨e',xa⟩
        ·rcases x1 with⟨_,y⟩|⟨e3,y⟩
         ·exact hq (y.symm.trans xb)
         ·rw[xa]at y;cases y
        ·rcases x1 with⟨y,_⟩|⟨e3,y⟩
         ·rw[xa]at y;cases y
         ·rw[xa]at y;cases y;exact hq rfl
      show((h.fams.set f _).get f1=none∧_)∨∃e,(h.fams.set f _).get f1=some (q,e);rw[T.get_set_ne _ _ hne];exact x1
    ·rintro q d hq o;have hq':=o.own.lt w;obtain⟨⟨k1,e2⟩,x1⟩:=o;simp at hq;refine⟨⟨k1,?_⟩,?_⟩
     ·show((h.bl.set b _).set h.next _).get q=_;rw[T.get_set_ne _ _ (by omega),T.get_set_ne _ _ hq];exact e2
     ·show(h.fams.set f _).get q=none;rw[T.get_set_ne _ _ ?_]
      ·exact x1
      ·rintro rfl;rcases x with⟨_,xb⟩|⟨e',xa⟩
       ·exact hq xb
       ·rw[xa]at x1;cases x1
  simp only[hsuper,e];rcases x with⟨x,rfl⟩|⟨e',x⟩
  ·rw[x];exact⟨_,rfl,go _ _ (.inl ⟨x,rfl⟩)⟩
  ·rw[x];simp only[Nat.beq_refl,cond_true];exact⟨_,rfl,go _ _ (.inr ⟨e',x⟩)⟩
theorem Sl.srcLen{h:Heap}{esz:Nat}{v:V}{n:Nat}{cs:List V}(a:Sl h esz v n cs):Ev.srcLen v=some n:=by
  obtain⟨_,a⟩:=a;cases v with
  |slice b o len cap=>obtain⟨rfl,_⟩:=a;rfl
  |sliceU b o len q=>obtain⟨rfl,_⟩:=a;rfl
  |nils=>have a:n=0:=a;subst a;rfl
  |sliceE=>have a:n=0:=a;subst a;rfl
  |_=>exact a.elim
theorem Sl.srcCells{h:Heap}{esz:Nat}{v:V}{n:Nat}{cs:List V}(a:Sl h esz v n cs):Ev.srcCells h esz v n=some cs:=by
  obtain⟨hl,a⟩:=a;cases v with
  |slice b o len cap=>
    obtain⟨rfl,_,c,hc,h2,e⟩:=a;simp only[Ev.srcCells,hc.ld,dropL_eq,takeL_at _ _ (show len*esz≤(c.drop o).length by simp;omega),e]
  |sliceU b o len q=>
    obtain⟨rfl,rfl,c,hc,h2,e⟩:=a;simp only[Ev.srcCells,hc.ld,dropL_eq,takeL_at _ _ (show len*q≤(c.drop o).length by simp;omega),e]
  |nils=>have a:n=0:=a;subst a;simp at hl;subst hl;rfl
  |sliceE=>have a:n=0:=a;subst a;simp at hl;subst hl;rfl
  |_=>exact a.elim
/-- the block of a slice -/
def vb:V→List Nat
  |.sliceU b _ _ _=>[b]
  |_=>[]
theorem Gs.up{h h':Heap}{B esz:Nat}{v:V}{cs:List V}(a:Gs h B esz v cs)(f:Fr (vb v) h h'):Up B h h':=by
  refine f.up ?_;rcases a with⟨rfl,_⟩|⟨b,m,rfl,_,_,hb,_⟩
  ·simp[vb]
  ·simpa[vb]using hb
/-- append to a slice that is grown -/
theorem Gs.append{h:Heap}{B esz bytes:Nat}{v x:V}{cs xs:List V}{n:Nat}(w:WF h)(a:Gs h B esz v cs)(s:Sl h esz x n xs)(he:0<esz)(ho:onesB xs=true)(hB:B≤h.next)
    (hsz:(2*(cs.length+n)+1024) *bytes≤281474976710656) {K:V→Heap→Prop} (k:∀v' h',Gs h' B esz v' (cs++xs)→Fr (vb v) h h'→K v' h'):OQ (aapp h esz bytes v x) K:=by
  unfold aapp;rw[s.srcLen];simp only[];by_cases hn:n=0
  ·subst hn;have hx:xs=[]:=by have:=s.1;simp at this;exact this
   subst hx;rw[beq_tt rfl,cond_true];have hd:dstLen v=some (cs.length/esz):=by
     rcases a with⟨rfl,rfl⟩|⟨b,m,rfl,hm,_⟩
     ·simp[dstLen,Ev.srcLen]
     ·simp[dstLen,Ev.srcLen,hm,Nat.mul_div_cancel _ he]
   rw[hd];exact(OQ_some _ _ _).2 (k v h (by simpa using a) (Fr.refl w))
  ·rw[beq_ff hn,cond_false,s.srcCells];simp only[];rcases a with⟨rfl,rfl⟩|⟨b,m,rfl,hm,hm0,hb,o⟩
   ·simp only[agrow];have:Nat.ble ((2*n+1024) *bytes) 281474976710656=true:=by
      rw[Nat.ble_eq];simpa using hsz
    rw[this,cond_true];refine(OQ_some _ _ _).2 (k _ _ (.inr ⟨h.next,n,rfl,by simpa using s.1,by omega,hB,by simpa using Own.new w xs⟩) (Fr.halloc w xs))
   ·have hle:(2*(m+n)+1024) *bytes≤(2*(cs.length+n)+1024) *bytes:=by
      refine Nat.mul_le_mul_right _ ?_;have:m≤cs.length:=by rw[hm];exact Nat.le_mul_of_pos_right m he
      omega
    have h1:(Nat.beq esz esz&&Nat.ble ((2*(m+n)+1024) *bytes) 281474976710656)=true:=by
      simp only[Nat.beq_refl,Bool.true_and,Nat.ble_eq];omega
    simp only[h1,cond_true,o.cells];have hmn:(m+n) *esz=m*esz+n*esz:=Nat.add_mul _ _ _;have hpos:0<n*esz:=Nat.mul_pos (by omega) he;rw[ble_ff (show¬0+(m+n) *esz≤cs.length by omega),cond_false];have h2:(Nat.ble (0+m*esz) cs.length&&onesB xs)=true:=by simp only[ho,Bool.and_true,Nat.ble_eq];omega
    simp only[h2,cond_true,dropL_zero,takeL_at cs (m*esz) (by omega)];obtain⟨h',e,o',f⟩:=own_super (pos:=0+m*esz) (c':=cs.take (m*esz)++xs) w o;rw[e];simp only[Option.map_some];refine(OQ_some _ _ _).2 (k _ _ (.inr ⟨h.next,m+n,rfl,by simp[s.1];omega,by omega,hB,?_⟩) f);rwa[List.take_of_length_le (by omega)]at o'
/-- a slice literal -/
def CQ(o:Option (List V))(len:Nat)(K:V→Heap→Prop)(h:Heap):Prop:=∃c,o=some c∧K (.slice h.next 0 len len) (halloc h c)
theorem CQ_some(c:List V)(len:Nat)(K:V→Heap→Prop)(h:Heap):CQ (some c) len K h↔K (.slice h.next 0 len len) (halloc h c):=
  ⟨fun⟨_,e,k⟩=>by cases e;exact k,fun k=>⟨c,rfl,k⟩⟩
theorem abs_iff(h:Heap)(zero:List V)(places:List (Nat×Nat))(len:Nat)(vs:List V)(K:V→Heap→Prop):OQ (abslice h zero places len vs) K↔CQ (afill (repL zero len) places vs) len K h:=by
  simp only[abslice,OQ,CQ];cases afill (repL zero len) places vs with
  |none=>simp
  |some c=>simp[and_assoc]
theorem repL_zero(zero:List V):repL zero 0=[]:=rfl
theorem repL_succ(zero:List V)(n:Nat):repL zero (n+1)=zero++repL zero n:=rfl
theorem repL_one(z:V)(n:Nat):repL [z] n=List.replicate n z:=by
  induction n with
  |zero=>rfl
  |succ n ih=>rw[repL_succ,ih];rfl
theorem Sl.lit{h:Heap}{esz:Nat}{b n:Nat}{c:List V}(o:Own h b c)(hc:c.length=n*esz):Sl h esz (.slice b 0 n n) n c:=
  ⟨hc,rfl,Nat.le_refl _,c,o,by omega,by simp[←hc]⟩
theorem amake_ok(h:Heap)(zero:List V)(bytes:Nat)(k k':IntKind)(l c:Int)(K:V→Heap→Prop)(h0:0≤l)(h1:l≤c)(h2:c<9223372036854775808)(h3:bytes*c.toNat≤281474976710656):
    OQ (amake h zero bytes (.int k l) (.int k' c)) K↔K (.slice h.next 0 l.toNat c.toNat) (halloc h (repL zero c.toNat)):=by
  obtain⟨n,rfl⟩:∃n:Nat,l=n:=⟨l.toNat,by omega⟩;obtain⟨m,rfl⟩:∃m:Nat,c=m:=⟨c.toNat,by omega⟩;have:(Nat.ble n m&&Nat.blt m 9223372036854775808&&Nat.ble (bytes*m) 281474976710656)=true:=by
    simp only[Bool.and_eq_true,Nat.ble_eq,Nat.blt_eq];simp at h3;omega
  show OQ (bif Nat.ble n m&&Nat.blt m 9223372036854775808&&Nat.ble (bytes*m) 281474976710656 then some (.slice h.next 0 n m,halloc h (repL zero m))else none) K↔_;rw[this];exact OQ_some _ _ _
section
variable {α : Type} {f : α → List V} {k : Nat}
theorem flat_len(hf:∀x,(f x).length=k):∀(L:List α),(L.flatMap f).length=L.length*k
  |[]=>by simp
  |x::L=>by simp[List.flatMap_cons,flat_len hf L,hf,Nat.succ_mul,Nat.add_comm]
theorem flat_drop(hf:∀x,(f x).length=k):∀(L:List α)(i:Nat),(L.flatMap f).drop (i*k)=(L.drop i).flatMap f
  |L,0=>by simp
  |[],i+1=>by simp
  |x::L,i+1=>by
    rw[List.flatMap_cons,List.drop_succ_cons,←flat_drop hf L i,Nat.succ_mul,Nat.add_comm,←hf x,←List.drop_drop,List.drop_left]
theorem flat_take(hf:∀x,(f x).length=k):∀(L:List α)(i:Nat),(L.flatMap f).take (i*k)=(L.take i).flatMap f
  |L,0=>by simp
  |[],i+1=>by simp
  |x::L,i+1=>by
    have:(i+1) *k=(f x).length+i*k:=by rw[Nat.succ_mul,hf x,Nat.add_comm]
    rw[List.flatMap_cons,List.take_succ_cons,List.flatMap_cons,this,List.take_append,List.take_of_length_le (by omega),Nat.add_sub_cancel_left,flat_take hf L i]
/-- a slice of records -/
def Recs(f:α→List V)(k:Nat)(h:Heap)(v:V)(L:List α):Prop:=Sl h k v L.length (L.flatMap f)
theorem Recs.fr{h h':Heap}{v:V}{L:List α}(a:Recs f k h v L)(r:Fr [] h h'):Recs f k h' v L:=Sl.fr a r
theorem Recs.len{h:Heap}{v:V}{L:List α}(a:Recs f k h v L):aP .lenS [v]=some (.int .i64 L.length):=Sl.len a
theorem Recs.ix{h:Heap}{v:V}{L:List α}(hf:∀x,(f x).length=k)(a:Recs f k h v L)(kd:IntKind)(i:Int)(h0:0≤i)(h1:i<L.length):
    ∃b o x,aP (.ixs k) [v,.int kd i]=some (.ptr b o)∧(∀j,j<k→hload1 h b (o+j)=(f x)[j]?)∧hload h b o k=some (f x)∧L[i.toNat]? =some x:=by
  obtain⟨b,o,e,g,g2⟩:=Sl.ix a kd i h0 h1;have hi:i.toNat<L.length:=by omega
  have e3:L[i.toNat]? =some L[i.toNat]:=by simp[hi]
  have ed:L.drop i.toNat=L[i.toNat]::L.drop (i.toNat+1):=List.drop_eq_getElem_cons hi;refine⟨b,o,L[i.toNat],e,fun j hj=>?_,?_,e3⟩
  ·rw[g j hj,←List.getElem?_drop,flat_drop hf,ed,List.flatMap_cons,List.getElem?_append_left (by rw[hf];exact hj)]
  ·rw[g2,flat_drop hf,ed,List.flatMap_cons];have:=hf L[i.toNat];rw[List.take_append,List.take_of_length_le (by omega),this];simp
theorem Recs.nil{h:Heap}:Recs f k h .nils []:=⟨by simp,rfl⟩
/-- the same, grown -/
def GRecs(f:α→List V)(k:Nat)(h:Heap)(B:Nat)(v:V)(L:List α):Prop:=Gs h B k v (L.flatMap f)
theorem GRecs.recs{h:Heap}{B:Nat}{v:V}{L:List α}(hf:∀x,(f x).length=k)(hk:0<k)(a:GRecs f k h B v L):Recs f k h v L:=Gs.sl a (flat_len hf L) hk
theorem GRecs.fr{h h':Heap}{B:Nat}{v:V}{L:List α}(a:GRecs f k h B v L)(r:Fr [] h h'):GRecs f k h' B v L:=Gs.fr a r
theorem GRecs.one{h:Heap}{B:Nat}{v:V}{L:List α}(a:GRecs f k h B v L):v.one=true:=Gs.one a
theorem GRecs.nil{h:Heap}{B:Nat}:GRecs f k h B .nils []:=.inl ⟨rfl,rfl⟩
theorem GRecs.append{h:Heap}{B bytes:Nat}{v:V}{L:List α}{x:α}{b:Nat}(w:WF h)(a:GRecs f k h B v L)(hf:∀x,(f x).length=k)(ho:onesB (f x)=true)(hk:0<k)(o:Own h b (f x))(hB:B≤h.next)
    (hsz:(2*(L.length*k+1)+1024) *bytes≤281474976710656) {K:V→Heap→Prop} (c:∀v' h',GRecs f k h' B v' (L++[x])→Fr (vb v) h h'→K v' h'):OQ (aapp h k bytes v (.slice b 0 1 1)) K:=by
  refine Gs.append w a (Sl.lit (n:=1) o (by simp[hf])) hk ho hB (by rw[flat_len hf];exact hsz) ?_;intro v' h' g u;refine c v' h' ?_ u;unfold GRecs;rw[List.flatMap_append];simpa using g
end
def scpQ(Q:Ex→T V→Heap→Prop):Ex→T V→Heap→Prop:=fun e env h=>match e with
  |.goto _=>False
  |e=>Q e env h
theorem scpQ_norm(Q:Ex→T V→Heap→Prop)(env:T V)(h:Heap):scpQ Q .norm env h↔Q .norm env h:=Iff.rfl
theorem scpQ_ret(Q:Ex→T V→Heap→Prop)(env:T V)(h:Heap):scpQ Q .ret env h↔Q .ret env h:=Iff.rfl
theorem scpQ_exit(i:Nat)(Q:Ex→T V→Heap→Prop)(env:T V)(h:Heap):scpQ Q (.exit i) env h↔Q (.exit i) env h:=Iff.rfl
theorem W_scope0{call:CallF}{c r:IC}{l:Nat}{env:T V}{h:Heap}{Q:Ex→T V→Heap→Prop}(x:W call c env h (scpQ Q)):W call (.scope c l r) env h Q:=by
  refine W_scope (fun _ _ _=>False) 0 (by omega) (x.mono ?_) (fun _ _ _ f=>f.elim);intro e env h q;cases e with
  |goto i=>exact q.elim
  |_=>exact q
theorem evs:
  (type_of% @W_skip)∧
  (type_of% @W_ret)∧
  (type_of% @W_exit)∧
  (type_of% @W_goto)∧
  (type_of% @W_seq)∧
  (type_of% @W_cond)∧
  (type_of% @W_block)∧
  (type_of% @W_ops)∧
  (type_of% @thenQ_norm)∧
  (type_of% @thenQ_ret)∧
  (type_of% @thenQ_exit)∧
  (type_of% @thenQ_goto)∧
  (type_of% @blockQ_norm)∧
  (type_of% @blockQ_ret)∧
  (type_of% @blockQ_goto)∧
  (type_of% @blockQ_exit)∧
  (type_of% @scpQ_norm)∧
  (type_of% @scpQ_ret)∧
  (type_of% @scpQ_exit)∧
  (type_of% @roundQ_ret)∧
  (type_of% @roundQ_exit)∧
  (type_of% @roundQ_goto)∧
  (type_of% @condQ_some)∧
  (type_of% @WS_nil)∧
  (type_of% @WS_l)∧
  (type_of% @WS_v)∧
  (type_of% @WS_g)∧
  (type_of% @WS_gv)∧
  (type_of% @GQ_some)∧
  (type_of% @op_p)∧
  (type_of% @PQ_some)∧
  (type_of% @VQ_some)∧
  (type_of% @OQ_some)∧
  (type_of% @HQ_some)∧
  (type_of% @op_ld)∧
  (type_of% @LQ_some)∧
  (type_of% @op_st)∧
  (type_of% @SQ_some)∧
  (type_of% @op_al)∧
  (type_of% @op_bx)∧
  (type_of% @op_bs)∧
  (type_of% @BQ_some)∧
  (type_of% @BsQ_some)∧
  (type_of% @TwoQ_some)∧
  (type_of% @CfQ_some)∧
  (type_of% @ClrQ_some)∧
  (type_of% @kl_app)∧
  (type_of% @kv_app)∧
  (type_of% @GS_some)∧
  (type_of% @GV_some)∧
  (type_of% @GS_tup)∧
  (type_of% @GV_tup)∧
  (type_of% @RsQ_some)∧
  (type_of% @abs_iff)∧
  (type_of% @CQ_some)∧
  (type_of% @repL_zero)∧
  (type_of% @repL_succ)∧
  (type_of% @op_mk)∧
  (type_of% @op_ap)∧
  (type_of% @op_cp)∧
  (type_of% @op_cf)∧
  (type_of% @FQ_some)∧
  (type_of% @op_cv)∧
  (type_of% @op_clr)∧
  (type_of% @evO_l)∧
  (type_of% @evO_v)∧
  (type_of% @evO_c)∧
  (type_of% @evO_g)∧
  (type_of% @evOs_nil)∧
  (type_of% @evOs_c)∧
  (type_of% @consO_some)∧
  (type_of% @nth_zero)∧
  (type_of% @nth_succ)∧
  (type_of% @bindA_nil)∧
  (type_of% @bindA_cons)∧
  (type_of% @T.get_set)∧
  (type_of% @RetQ_norm)∧
  (type_of% @RetQ_ret)∧
  (type_of% @evRs_nil)∧
  (type_of% @evRs_t)∧
  (type_of% @evRs_c)∧
  (type_of% @packV_nil)∧
  (type_of% @packV_one)∧
  (type_of% @packV_two)∧
  (type_of% @aload_ptr1)∧
  (type_of% @aload_ptrA)∧
  (type_of% @aP_mv)∧
  (type_of% @aP_pick)∧
  (type_of% @aP_nilck)∧
  (type_of% @aP_nilckf)∧
  (type_of% @aP_add)∧
  (type_of% @aP_sub)∧
  (type_of% @aP_mul)∧
  (type_of% @aP_eql)∧
  (type_of% @aP_neq)∧
  (type_of% @aP_lss)∧
  (type_of% @aP_gtr)∧
  (type_of% @aP_leq)∧
  (type_of% @aP_geq)∧
  (type_of% @aP_not)∧
  (type_of% @aP_neg)∧
  (type_of% @aP_bbe)∧
  (type_of% @aP_bbn)∧
  (type_of% @aP_faddr)∧
  (type_of% @aP_ext)∧
  (type_of% @aP_field1)∧
  (type_of% @aP_fieldA)∧
  (type_of% @aP_mkf)∧
  (type_of% @aP_build)∧
  (type_of% @aP_mn)∧
  (type_of% @aP_mx)∧
  (type_of% @aP_conv)∧
  (type_of% @aP_lenN)∧
  (type_of% @aP_lenS)∧
  (type_of% @aP_lenU)∧
  (type_of% @aP_lenE)∧
  (type_of% @aP_lenArr)∧
  (type_of% @aP_capN)∧
  (type_of% @aP_capS)∧
  (type_of% @aP_nilp)∧
  (type_of% @aP_nil_np)∧
  (type_of% @aP_nil_nn)∧
  (type_of% @pv_cells)∧
  (type_of% @cells_int)∧
  (type_of% @cells_bool)∧
  (type_of% @cells_str)∧
  (type_of% @cells_ptr)∧
  (type_of% @cells_nilp)∧
  (type_of% @cells_nils)∧
  (type_of% @cells_slice)∧
  (type_of% @cells_sliceU)∧
  (type_of% @cells_func)∧
  (type_of% @cells_nilf)∧
  (type_of% @cells_agg)∧
  (type_of% @afill_nil)∧
  (type_of% @afill_c)∧
  (type_of% @dropL_zero)∧
  (type_of% @dropL_succ)∧
  (type_of% @takeL_zero)∧
  (type_of% @takeL_cons)∧
  (type_of% @updO_nil)∧
  (type_of% @updO_zero_nil)∧
  (type_of% @updO_zero_cons)∧
  (type_of% @updO_succ)∧
  (type_of% @cond_true.{1})∧
  (type_of% @cond_false.{1})∧
  (type_of% @Nat.zero_lt_one)∧
  (type_of% @Nat.lt_add_one)∧
  (type_of% @decide_eq_true_eq)∧
  (type_of% @Bool.not_true)∧
  (type_of% @Bool.not_false)∧
  (type_of% @Bool.false_eq_true)∧
  (type_of% @Bool.true_eq_false)∧
  (type_of% @decide_true)∧
  (type_of% @decide_false)∧
  (type_of% @eq_self.{1})∧
  (type_of% @Option.map_some.{0,0})∧
  (type_of% @Option.bind_some.{0,0})∧
  (type_of% @Nat.zero_add)∧
  (type_of% @Nat.add_zero)∧
  (type_of% @Nat.zero_mul)∧
  (type_of% @Nat.zero_ne_one)∧
  (type_of% @Nat.one_ne_zero)∧
  (type_of% @List.append_nil.{0})∧
  (type_of% @List.nil_append.{0})∧
  (type_of% @List.cons_append.{0})∧
  (type_of% @Option.isSome_some.{0})∧
  (type_of% @Option.isSome_none.{0})∧
  (type_of% @Option.isNone_some.{0})∧
  (type_of% @Option.isNone_none.{0})∧
  (type_of% @W_d)∧
  (type_of% @WD_nil)∧
  (type_of% @WD_s)∧
  (type_of% @WD_g)∧
  (type_of% @WD_late)∧
  (type_of% @kd_t)∧
  (type_of% @kd_f)∧
  (type_of% @GD_some)∧
  (type_of% @GD_tup)∧
  (type_of% @kr_app)∧
  (type_of% @RAll_nil)∧
  (type_of% @RAll_cons)∧
  (type_of% @RD_n)∧
  (type_of% @RD_g)∧
  (type_of% @GR_some)∧
  (type_of% @GR_tup)∧
  (type_of% @rdAll_nil)∧
  (type_of% @rdAll_cons)∧
  (type_of% @vEq_self)∧
  (type_of% @EQ_some)∧
  (type_of% @HdQ_cons)∧
  (type_of% @setsE_nil)∧
  (type_of% @setsE_c)∧
  (type_of% @SEv_some)∧
  (type_of% @List.map_cons.{0,0})∧
  (type_of% @List.map_nil.{0,0})∧
  (type_of% @List.length_cons.{0})∧
  (type_of% @List.length_nil.{0})∧
  (type_of% @List.drop_succ_cons.{0})∧
  (type_of% @List.drop_zero.{0})∧
  (type_of% @List.getElem?_cons_succ.{0})∧
  (type_of% @List.getElem?_cons_zero.{0})∧
  (type_of% @List.reverse_cons.{0})∧
  (type_of% @List.reverse_nil.{0})∧
  (type_of% @List.take_succ_cons.{0})∧
  (type_of% @List.take_zero.{0})∧
  (type_of% @and_true)∧
  (type_of% @true_and):=
  ⟨@W_skip,@W_ret,@W_exit,@W_goto,@W_seq,@W_cond,@W_block,@W_ops,@thenQ_norm,@thenQ_ret,@thenQ_exit,@thenQ_goto,@blockQ_norm,@blockQ_ret,@blockQ_goto,@blockQ_exit,@scpQ_norm,@scpQ_ret,@scpQ_exit,@roundQ_ret,@roundQ_exit,@roundQ_goto,@condQ_some,@WS_nil,@WS_l,@WS_v,@WS_g,@WS_gv,@GQ_some,@op_p,@PQ_some,@VQ_some,@OQ_some,@HQ_some,@op_ld,@LQ_some,@op_st,@SQ_some,@op_al,@op_bx,@op_bs,@BQ_some,@BsQ_some,@TwoQ_some,@CfQ_some,@ClrQ_some,@kl_app,@kv_app,@GS_some,@GV_some,@GS_tup,@GV_tup,@RsQ_some,@abs_iff,@CQ_some,@repL_zero,@repL_succ,@op_mk,@op_ap,@op_cp,@op_cf,@FQ_some,@op_cv,@op_clr,@evO_l,@evO_v,@evO_c,@evO_g,@evOs_nil,@evOs_c,@consO_some,@nth_zero,@nth_succ,@bindA_nil,@bindA_cons,@T.get_set,@RetQ_norm,@RetQ_ret,@evRs_nil,@evRs_t,@evRs_c,@packV_nil,@packV_one,@packV_two,@aload_ptr1,@aload_ptrA,@aP_mv,@aP_pick,@aP_nilck,@aP_nilckf,@aP_add,@aP_sub,@aP_mul,@aP_eql,@aP_neq,@aP_lss,@aP_gtr,@aP_leq,@aP_geq,@aP_not,@aP_neg,@aP_bbe,@aP_bbn,@aP_faddr,@aP_ext,@aP_field1,@aP_fieldA,@aP_mkf,@aP_build,@aP_mn,@aP_mx,@aP_conv,@aP_lenN,@aP_lenS,@aP_lenU,@aP_lenE,@aP_lenArr,@aP_capN,@aP_capS,@aP_nilp,@aP_nil_np,@aP_nil_nn,@pv_cells,@cells_int,@cells_bool,@cells_str,@cells_ptr,@cells_nilp,@cells_nils,@cells_slice,@cells_sliceU,@cells_func,@cells_nilf,@cells_agg,@afill_nil,@afill_c,@dropL_zero,@dropL_succ,@takeL_zero,@takeL_cons,@updO_nil,@updO_zero_nil,@updO_zero_cons,@updO_succ,@cond_true.{1},@cond_false.{1},@Nat.zero_lt_one,@Nat.lt_add_one,@decide_eq_true_eq,@Bool.not_true,@Bool.not_false,@Bool.false_eq_true,@Bool.true_eq_false,@decide_true,@decide_false,@eq_self.{1},@Option.map_some.{0,0},@Option.bind_some.{0,0},@Nat.zero_add,@Nat.add_zero,@Nat.zero_mul,@Nat.zero_ne_one,@Nat.one_ne_zero,@List.append_nil.{0},@List.nil_append.{0},@List.cons_append.{0},@Option.isSome_some.{0},@Option.isSome_none.{0},@Option.isNone_some.{0},@Option.isNone_none.{0},@W_d,@WD_nil,@WD_s,@WD_g,@WD_late,@kd_t,@kd_f,@GD_some,@GD_tup,@kr_app,@RAll_nil,@RAll_cons,@RD_n,@RD_g,@GR_some,@GR_tup,@rdAll_nil,@rdAll_cons,@vEq_self,@EQ_some,@HdQ_cons,@setsE_nil,@setsE_c,@SEv_some,@List.map_cons.{0,0},@List.map_nil.{0,0},@List.length_cons.{0},@List.length_nil.{0},@List.drop_succ_cons.{0},@List.drop_zero.{0},@List.getElem?_cons_succ.{0},@List.getElem?_cons_zero.{0},@List.reverse_cons.{0},@List.reverse_nil.{0},@List.take_succ_cons.{0},@List.take_zero.{0},@and_true,@true_and⟩
end Go.Ev
namespace Go.Ev.Lay
theorem land256(p q m M:Nat)(hp:p<256)(hm:m<256):(p+256*q)&&&(m+256*M)=(p&&&m)+256*(q&&&M):=by
  have h1:((p+256*q)&&&(m+256*M))%2^8=(p&&&m):=by
    rw[Nat.and_mod_two_pow];congr 1<;>omega
  have h2:((p+256*q)&&&(m+256*M))/2^8=(q&&&M):=by
    rw[Nat.and_div_two_pow];congr 1<;>omega
  have:=Nat.div_add_mod ((p+256*q)&&&(m+256*M)) (2^8);rw[h1,h2]at this;omega
def val:List Nat→Nat
  |[]=>0
  |b::l=>b+256*val l
def rep(m:Nat)(l:List Nat):Nat:=val (l.map fun _=>m)
theorem dec1:∀b,b<256→∀c,c<2→(b/2+128*c)&&&85=(b/2)&&&85:=by decide+kernel
theorem dec2:∀b,b<256→∀c,c<4→(b/4+64*c)&&&51=(b/4)&&&51:=by decide+kernel
def f1(b:Nat):Nat:=((b/2)&&&85)+(b&&&85)
def f2(b:Nat):Nat:=((b/4)&&&51)+(b&&&51)
def f3(b:Nat):Nat:=(b/16+b)%16
theorem f1_lt:∀b,b<256→f1 b<256:=by decide+kernel
theorem f2_lt:∀b,b<256→f2 (f1 b)/16≤4∧f2 (f1 b)%16≤4∧f2 (f1 b)<256:=by decide+kernel
theorem stage1:∀(l:List Nat),(∀b∈l,b<256)→((val l/2)&&&rep 85 l)+(val l&&&rep 85 l)=val (l.map f1)
  |[],_=>rfl
  |b::l,h=>by
    have hb:=h b (by simp);have ih:=stage1 l fun x hx=>h x (by simp[hx]);have e:(b+256*val l)/2=(b/2+128*(val l%2))+256*(val l/2):=by omega
    show((b+256*val l)/2&&&(85+256*rep 85 l))+((b+256*val l)&&&(85+256*rep 85 l))=f1 b+256*val (l.map f1);rw[e,land256 _ _ _ _ (by omega) (by omega),land256 _ _ _ _ hb (by omega),dec1 b hb _ (by omega),←ih];unfold f1;omega
theorem stage2:∀(l:List Nat),(∀b∈l,b<256)→((val l/4)&&&rep 51 l)+(val l&&&rep 51 l)=val (l.map f2)
  |[],_=>rfl
  |b::l,h=>by
    have hb:=h b (by simp);have ih:=stage2 l fun x hx=>h x (by simp[hx]);have e:(b+256*val l)/4=(b/4+64*(val l%4))+256*(val l/4):=by omega
    show((b+256*val l)/4&&&(51+256*rep 51 l))+((b+256*val l)&&&(51+256*rep 51 l))=f2 b+256*val (l.map f2);rw[e,land256 _ _ _ _ (by omega) (by omega),land256 _ _ _ _ hb (by omega),dec2 b hb _ (by omega),←ih];unfold f2;omega
theorem stage3:∀(l:List Nat),(∀b∈l,b/16≤4∧b%16≤4)→((val l/16+val l)&&&rep 15 l)=val (l.map f3)
  |[],_=>rfl
  |b::l,h=>by
    have hb:=h b (by simp);have ih:=stage3 l fun x hx=>h x (by simp[hx]);have hv:val l%16≤4:=by
      cases l with
      |nil=>simp[val]
      |cons c l=>have:=h c (by simp);simp only[val];omega
    have e:(b+256*val l)/16+(b+256*val l)=(b/16+16*(val l%16)+b)+256*(val l/16+val l):=by omega
    show((b+256*val l)/16+(b+256*val l))&&&(15+256*rep 15 l)=f3 b+256*val (l.map f3);rw[e,land256 _ _ _ _ (by omega) (by omega),ih,show(15:Nat)=2^4-1 from rfl,Nat.and_two_pow_sub_one_eq_mod];unfold f3;omega
/-- how many of the first n bits are set -/
def pop(n x:Nat):Nat:=(List.range n).countP fun j=>x.testBit j
theorem testBit_split(b V j:Nat)(hb:b<256):(b+256*V).testBit j=if j<8 then b.testBit j else V.testBit (j-8):=by
  rw[show b+256*V=2^8*V+b by omega,Nat.testBit_two_pow_mul_add V (by simpa using hb) j]
theorem pop_split(b V n:Nat)(hb:b<256):pop (8+n) (b+256*V)=pop 8 b+pop n V:=by
  unfold pop;rw[List.range_add,List.countP_append,List.countP_map];congr 1
  ·refine List.countP_congr fun j hj=>?_;simp at hj;rw[testBit_split _ _ _ hb,if_pos hj]
  ·refine List.countP_congr fun j _=>?_;simp only[Function.comp];rw[testBit_split _ _ _ hb,if_neg (by omega)];simp
theorem pop8:∀b,b<256→f3 (f2 (f1 b))=pop 8 b∧pop 8 b≤8:=by decide+kernel
theorem pop_val:∀(l:List Nat),(∀b∈l,b<256)→pop (8*l.length) (val l)=(l.map (pop 8)).sum
  |[],_=>rfl
  |b::l,h=>by
    have ih:=pop_val l fun x hx=>h x (by simp[hx]);rw[List.length_cons,show 8*(l.length+1)=8+8*l.length by omega,val,pop_split _ _ _ (h b (by simp)),ih];simp
/-- the bytes of a word -/
theorem bytes8(x:Nat)(h:x<18446744073709551616):∃a b c d e f g i:Nat,a<256∧b<256∧c<256∧d<256∧e<256∧f<256∧g<256∧i<256∧x=val [a,b,c,d,e,f,g,i]:=by
  refine⟨x%256,x/256%256,x/256/256%256,x/256/256/256%256,x/256/256/256/256%256,x/256/256/256/256/256%256,x/256/256/256/256/256/256%256,x/256/256/256/256/256/256/256,by omega,by omega,by omega,by omega,by omega,by omega,by omega,by omega,?_⟩;simp only[val];omega
theorem dv(x y k:Nat)(hx:x<k):(x+k*y)/k=y:=by
  rw[Nat.add_mul_div_left _ _ (by omega),Nat.div_eq_of_lt hx,Nat.zero_add]
theorem lin1(A B C D E F G I:Nat):A+256*(B+256*(C+256*(D+256*(E+256*(F+256*(G+256*(I+256*0)))))))=A+256*(B+256*C+65536*D+16777216*E+4294967296*F+1099511627776*G+281474976710656*I):=by omega
theorem lin2(A B C D E F G I:Nat):A+256*(B+256*C+65536*D+16777216*E+4294967296*F+1099511627776*G+281474976710656*I)+(B+256*C+65536*D+16777216*E+4294967296*F+1099511627776*G+281474976710656*I)=
  ((A+B)+256*(B+C))+65536*((C+D)+256*(D+E)+65536*(E+F)+16777216*(F+G)+4294967296*(G+I)+1099511627776*I):=by omega
theorem lin3(A B C D E F G I:Nat):((A+B)+256*(B+C))+65536*((C+D)+256*(D+E)+65536*(E+F)+16777216*(F+G)+4294967296*(G+I)+1099511627776*I)+((C+D)+256*(D+E)+65536*(E+F)+16777216*(F+G)+4294967296*(G+I)+1099511627776*I)=
  ((A+B+C+D)+256*(B+C+D+E)+65536*(C+D+E+F)+16777216*(D+E+F+G))+4294967296*((E+F+G+I)+256*(F+G+I)+65536*(G+I)+16777216*I):=by omega
theorem lin4(A B C D E F G I:Nat):((A+B+C+D)+256*(B+C+D+E)+65536*(C+D+E+F)+16777216*(D+E+F+G))+4294967296*((E+F+G+I)+256*(F+G+I)+65536*(G+I)+16777216*I)+((E+F+G+I)+256*(F+G+I)+65536*(G+I)+16777216*I)=
  (A+B+C+D+E+F+G+I)+128*(2*((B+C+D+E)+256*(C+D+E+F)+65536*(D+E+F+G)+16777216*((E+F+G+I)+256*(F+G+I)+65536*(G+I)+16777216*I)+(F+G+I)+256*(G+I)+65536*I)):=by omega
theorem fold8(A B C D E F G I:Nat)(p0:A≤8)(p1:B≤8)(p2:C≤8)(p3:D≤8)(p4:E≤8)(p5:F≤8)(p6:G≤8)(p7:I≤8):
    (A+256*(B+256*(C+256*(D+256*(E+256*(F+256*(G+256*(I+256*0)))))))+(A+256*(B+256*(C+256*(D+256*(E+256*(F+256*(G+256*(I+256*0))))))))/256+
      (A+256*(B+256*(C+256*(D+256*(E+256*(F+256*(G+256*(I+256*0)))))))+(A+256*(B+256*(C+256*(D+256*(E+256*(F+256*(G+256*(I+256*0))))))))/256)/65536+
      (A+256*(B+256*(C+256*(D+256*(E+256*(F+256*(G+256*(I+256*0)))))))+(A+256*(B+256*(C+256*(D+256*(E+256*(F+256*(G+256*(I+256*0))))))))/256+
      (A+256*(B+256*(C+256*(D+256*(E+256*(F+256*(G+256*(I+256*0)))))))+(A+256*(B+256*(C+256*(D+256*(E+256*(F+256*(G+256*(I+256*0))))))))/256)/65536)/4294967296)%128=
      A+(B+(C+(D+(E+(F+(G+(I+0))))))):=by
  rw[lin1,dv A _ 256 (by omega),lin2,dv _ _ 65536 (by omega),lin3,dv _ _ 4294967296 (by omega),lin4,Nat.add_mul_mod_self_left,Nat.mod_eq_of_lt (by omega)];omega
theorem swar(x:Nat)(h:x<18446744073709551616)(y:Nat)(hy:y=((x/2)&&&6148914691236517205)+(x&&&6148914691236517205))(z:Nat)(hz:z=((y/4)&&&3689348814741910323)+(y&&&3689348814741910323))
    (t:Nat) (ht:t=(z/16+z)&&&1085102592571150095):y<18446744073709551616∧z/16+z<18446744073709551616∧z<18446744073709551616∧t<1000000000000000000∧
      ∃u,u=t+t/256∧u<9000000000000000000∧∃v,v=u+u/65536∧v<9100000000000000000∧∃w,w=v+v/4294967296∧w<9200000000000000000∧w%128=pop 64 x:=by
  obtain⟨a,b,c,d,e,f,g,i,ha,hb,hc,hd,he,hf,hg,hi,rfl⟩:=bytes8 x h;have hl:∀q∈[a,b,c,d,e,f,g,i],q<256:=by simp;omega
  have s1:=stage1 _ hl;rw[show rep 85 [a,b,c,d,e,f,g,i]=6148914691236517205 by simp[rep,val],←hy]at s1;have hl1:∀q∈[f1 a,f1 b,f1 c,f1 d,f1 e,f1 f,f1 g,f1 i],q<256:=by
    simp;exact⟨f1_lt a ha,f1_lt b hb,f1_lt c hc,f1_lt d hd,f1_lt e he,f1_lt f hf,f1_lt g hg,f1_lt i hi⟩
  have s2:=stage2 _ hl1;rw[show rep 51 [f1 a,f1 b,f1 c,f1 d,f1 e,f1 f,f1 g,f1 i]=3689348814741910323 by simp[rep,val]]at s2;simp only[List.map_cons,List.map_nil]at s1 s2;rw[←s1,←hz]at s2;have hl2:∀q∈[f2 (f1 a),f2 (f1 b),f2 (f1 c),f2 (f1 d),f2 (f1 e),f2 (f1 f),f2 (f1 g),f2 (f1 i)],q/16≤4∧q%16≤4:=by
    simp only[List.mem_cons,List.not_mem_nil,or_false,forall_eq_or_imp,forall_eq];have:=f2_lt a ha;have:=f2_lt b hb;have:=f2_lt c hc;have:=f2_lt d hd;have:=f2_lt e he;have:=f2_lt f hf;have:=f2_lt g hg;have:=f2_lt i hi;omega
  have s3:=stage3 _ hl2;rw[show rep 15 [f2 (f1 a),f2 (f1 b),f2 (f1 c),f2 (f1 d),f2 (f1 e),f2 (f1 f),f2 (f1 g),f2 (f1 i)]=1085102592571150095 by simp[rep,val]]at s3;simp only[List.map_cons,List.map_nil]at s3;rw[←s2,←ht]at s3;rw[(pop8 a ha).1,(pop8 b hb).1,(pop8 c hc).1,(pop8 d hd).1,(pop8 e he).1,(pop8 f hf).1,(pop8 g hg).1,(pop8 i hi).1]at s3;have hp:=pop_val _ hl;simp only[List.length_cons,List.length_nil,List.map_cons,List.map_nil,List.sum_cons,List.sum_nil,Nat.reduceAdd,Nat.reduceMul]at hp;have p0:=(pop8 a ha).2;have p1:=(pop8 b hb).2;have p2:=(pop8 c hc).2;have p3:=(pop8 d hd).2;have p4:=(pop8 e he).2;have p5:=(pop8 f hf).2;have p6:=(pop8 g hg).2;have p7:=(pop8 i hi).2;have q0:=f1_lt a ha;have q1:=f1_lt b hb;have q2:=f1_lt c hc;have q3:=f1_lt d hd;have q4:=f1_lt e he;have q5:=f1_lt f hf;have q6:=f1_lt g hg;have q7:=f1_lt i hi;have r0:=f2_lt a ha;have r1:=f2_lt b hb;have r2:=f2_lt c hc;have r3:=f2_lt d hd;have r4:=f2_lt e he;have r5:=f2_lt f hf;have r6:=f2_lt g hg;have r7:=f2_lt i hi;rw[hp];simp only[val]at s1 s2 s3;refine⟨by omega,by omega,by omega,by omega,_,rfl,by omega,_,rfl,by omega,_,rfl,by omega,?_⟩;generalize pop 8 a=A at *;generalize pop 8 b=B at *;generalize pop 8 c=C at *;generalize pop 8 d=D at *;generalize pop 8 e=E at *;generalize pop 8 f=F at *;generalize pop 8 g=G at *;generalize pop 8 i=I at *;clear hl hl1 hl2 s1 s2 hp hy hz ht q0 q1 q2 q3 q4 q5 q6 q7 r0 r1 r2 r3 r4 r5 r6 r7 h ha hb hc hd he hf hg hi;rw[s3];exact fold8 A B C D E F G I p0 p1 p2 p3 p4 p5 p6 p7
theorem countP_getD:∀(n:Nat)(l:List Bool),(List.range n).countP (fun j=>l.getD j false)=(l.take n).count true:=by
  intro n;induction n with
  |zero=>intro l;simp
  |succ n ih=>
    intro l;rw[List.range_succ,List.countP_append,ih,List.take_add_one,List.count_append];congr 1;cases h:l[n]? with
    |none=>simp[List.countP_cons,List.getD,h]
    |some b=>cases b<;>simp[List.countP_cons,List.getD,h]
theorem pop_bits{x n:Nat}{bs:List Bool}{k:Nat}(hn:n≤64)(h:∀j,j<64→x.testBit j=bs.getD (64*k+j) false):pop n x=((bs.drop (64*k)).take n).count true:=by
  rw[←countP_getD];unfold pop;refine List.countP_congr fun j hj=>?_;simp at hj;rw[h j (by omega)];simp[List.getD,List.getElem?_drop]
theorem pop_shl{x r:Nat}(hr:r≤64):pop 64 ((x*2^(64-r))%18446744073709551616)=pop r x:=by
  unfold pop;have e:List.range 64=List.range (64-r)++(List.range r).map (fun j=>(64-r)+j):=by rw[←List.range_add];congr 1;omega
  rw[e,List.countP_append,List.countP_map];have tb:∀j,j<64→((x*2^(64-r))%18446744073709551616).testBit j=(decide (64-r≤j)&&x.testBit (j-(64-r))):=by
    intro j hj;rw[show(18446744073709551616:Nat)=2^64 from rfl,Nat.testBit_mod_two_pow,Nat.mul_comm,Nat.testBit_two_pow_mul];simp[hj]
  have z:(List.range (64-r)).countP (fun j=>((x*2^(64-r))%18446744073709551616).testBit j)=0:=by
    rw[List.countP_eq_zero];intro j hj;simp at hj;rw[tb j (by omega)];simp;omega
  rw[z,Nat.zero_add];refine List.countP_congr fun j hj=>?_;simp at hj;simp only[Function.comp];rw[tb _ (by omega)];simp
/-- the lowest bit that is set -/
def Low(x t:Nat):Prop:=x.testBit t=true∧∀j,j<t→x.testBit j=false
theorem low_form{x t:Nat}(h:Low x t):∃q,x=2^(t+1) *q+2^t:=by
  obtain⟨h1,h2⟩:=h;have hm:x%2^t=0:=by
    apply Nat.eq_of_testBit_eq;intro i;rw[Nat.testBit_mod_two_pow,Nat.zero_testBit];by_cases c:i<t
    ·simp[c,h2 i c]
    ·simp[c]
  have hd:x/2^t%2=1:=by
    rw[Nat.testBit_eq_decide_div_mod_eq]at h1;simpa using h1
  refine⟨x/2^t/2,?_⟩;have e1:=Nat.div_add_mod x (2^t);rw[hm,Nat.add_zero]at e1;have e2:=Nat.div_add_mod (x/2^t) 2;rw[hd]at e2;rw[Nat.pow_succ,Nat.mul_assoc,←Nat.mul_succ];conv=>lhs;rw[←e1,←e2]
theorem low_pred{x t:Nat}(h:Low x t):∀j,(x-1).testBit j=if j<t then true else if j=t then false else x.testBit j:=by
  obtain⟨q,rfl⟩:=low_form h;intro j;have hp:0<2^t:=Nat.two_pow_pos t;have hs:2^(t+1)=2^t+2^t:=by rw[Nat.pow_succ];omega
  have e:2^(t+1) *q+2^t-1=2^(t+1) *q+(2^t-1):=by omega
  rw[e,Nat.testBit_two_pow_mul_add q (show 2^t-1<2^(t+1) by omega),Nat.testBit_two_pow_mul_add q (show 2^t<2^(t+1) by omega)];by_cases c1:j<t
  ·rw[if_pos (by omega),if_pos c1,Nat.testBit_two_pow_sub_one];simp[c1]
  ·by_cases c2:j=t
   ·subst c2;simp[Nat.testBit_two_pow_sub_one]
   ·rw[if_neg (by omega),if_neg c1,if_neg c2,if_neg (by omega)]
theorem low_clear{x t:Nat}(h:Low x t)(j:Nat):(x&&&(x-1)).testBit j=(x.testBit j&& !decide (j=t)):=by
  rw[Nat.testBit_and,low_pred h];by_cases c1:j<t
  ·rw[if_pos c1,h.2 j c1];simp
  ·by_cases c2:j=t
   ·subst c2;simp
   ·rw[if_neg c1,if_neg c2];simp[c2]
theorem low_neg{x t:Nat}(h:Low x t)(hx:x<18446744073709551616)(ht:t<64):x&&&(18446744073709551616-x)=2^t:=by
  have hx0:x≠0:=by rintro rfl;simp[Low]at h
  apply Nat.eq_of_testBit_eq;intro i;have e:18446744073709551616-x=2^64-((x-1)+1):=by omega
  rw[Nat.testBit_and,e,Nat.testBit_two_pow_sub_succ (by omega),low_pred h,Nat.testBit_two_pow];by_cases c1:i<t
  ·rw[if_pos c1];simp;omega
  ·by_cases c2:i=t
   ·subst c2;simp[h.1,ht]
   ·rw[if_neg c1,if_neg c2];have:t≠i:=Ne.symm c2;simp[this];intro a _;exact a
theorem min_ex(p:Nat→Bool):∀t,p t=true→∃t,p t=true∧∀j,j<t→p j=false:=by
  intro t;induction t using Nat.strongRecOn with
  |ind t ih=>
    intro ht;by_cases h:∃j,j<t∧p j=true
    ·obtain⟨j,hj,hp⟩:=h;exact ih j hj hp
    ·refine⟨t,ht,fun j hj=>?_⟩;cases hp:p j
     ·rfl
     ·exact absurd ⟨j,hj,hp⟩ h
theorem low_exists{x:Nat}(hx:x≠0):∃t,Low x t:=by
  obtain⟨i,hi⟩:=Nat.exists_testBit_of_ne_zero hx;exact min_ex _ i hi
def tab64:List Nat:=[0,1,56,2,57,49,28,3,61,58,42,50,38,29,17,4,62,47,59,36,45,43,51,22,53,39,33,30,24,18,12,5,63,55,48,27,60,41,37,16,46,35,44,21,52,32,23,11,54,26,40,15,34,20,31,10,25,14,19,9,13,8,7,6]
def tabc:List V:=tab64.map fun(x:Nat)=>V.int .u8 (x:Int)
theorem bruijn:∀t,t<64→tab64[(2^t*285870213051353865%18446744073709551616)/288230376151711744]? =some t∧(2^t*285870213051353865%18446744073709551616)/288230376151711744<64:=by decide+kernel
end Go.Ev.Lay
namespace Go.Ev.Ab
abbrev i (k : Int) : Opd := .c (.int .i64 k)
abbrev b (k : Int) : Opd := .c (.int .u8 k)
abbrev u (k : Int) : Opd := .c (.int .u64 k)
abbrev tt : Opd := .c (.bool true)
abbrev ff : Opd := .c (.bool false)
abbrev p (k : PK) (x : List Opd) : IStep := ⟨none, .p k x, none⟩
abbrev q (k : PK) (x : List Opd) (d : Nat) : IStep := ⟨none, .p k x, some d⟩
abbrev m (x : Opd) : IStep := ⟨none, .p .mv [x], none⟩
abbrev o (x : Opd) (d : Nat) : IStep := ⟨none, .p .mv [x], some d⟩
abbrev a (k : Nat) : IStep := ⟨none, .p (.faddr k) [.l 0], none⟩
abbrev A (k v : Nat) : IStep := ⟨none, .p (.faddr k) [.v v], none⟩
abbrev e (k : Nat) : IStep := ⟨none, .p (.ext k) [.l k], none⟩
abbrev L : IStep := ⟨none, .ld 1 false (.l 0), none⟩
abbrev c (f : Nat) (x : List Opd) : IStep := ⟨none, .cf f x, none⟩
abbrev n (o : IOp) : IStep := ⟨none, o, none⟩
abbrev N (o : IOp) (d : Nat) : IStep := ⟨none, o, some d⟩
abbrev f (j : Nat) (k : PK) (y : List Opd) : IStep := ⟨some (.l j, false), .p k y, none⟩
abbrev y (j : Nat) (x : Opd) : IStep := ⟨some (.l j, false), .p .mv [x], none⟩
abbrev z (j : Nat) (x : Opd) : IStep := ⟨some (.l j, true), .p .mv [x], none⟩
abbrev t (j : Nat) (k : PK) (y : List Opd) : IStep := ⟨some (.l j, true), .p k y, none⟩
abbrev g (j : Nat) (o : IOp) : IStep := ⟨some (.l j, false), o, none⟩
abbrev h (j : Nat) (o : IOp) : IStep := ⟨some (.l j, true), o, none⟩
abbrev G (x : Opd) (w : Bool) (o : IOp) (d : Nat) : IStep := ⟨some (x, w), o, some d⟩
abbrev s (l : List IStep) (k : IC) : IC := .seq (.ops l) k
abbrev zK : List V := [.int .u8 0, .str [], .str [], .nils, .str [], .nils, .int .i64 0, .bool false, .int .i64 0]
abbrev zE : List V := [.int .u64 0, .int .u8 0, .str [], .nils, .int .i64 0, .bool false]
abbrev zO : List V := [.int .u8 0, .int .i64 0, .int .i64 0, .int .i64 0, .nils]
abbrev zN : List V := [.int .u8 0, .str [], .str [], .nils, .str [], .nils]
abbrev zI : List V := [.int .u64 0, .int .u8 0, .str [], .nils]
abbrev r (v : Nat) (l : List IStep) : IC := .cond (.v v) (.seq (.ops l) .ret) .skip
abbrev ad : PK := .ib .add
abbrev su : PK := .ib .sub
abbrev mu : PK := .ib .mul
abbrev eq : PK := .ib .eql
abbrev ne : PK := .ib .neq
abbrev lt : PK := .ib .lss
abbrev gt : PK := .ib .gtr
abbrev le : PK := .ib .leq
abbrev ge : PK := .ib .geq
abbrev P (k : Nat) : IStep := ⟨none, .p .pick [.l k, .c (.bool true), .l 0], none⟩
abbrev Q (k : Nat) : IStep := ⟨none, .p .pick [.l k, .l 0, .c (.bool false)], none⟩
abbrev v (k : Nat) : IStep := ⟨none, .p .nilck [.v k], none⟩
abbrev k : IStep := ⟨none, .p .nilck [.l 0], none⟩
abbrev l : IOp := .ld 1 false (.l 0)
abbrev d (k j : Nat) : IStep := ⟨none, .ld k true (.l j), none⟩
abbrev D (k j : Nat) : IStep := ⟨none, .ld k true (.v j), none⟩
abbrev ls : IStep := ⟨none, .p .lenS [.l 0], none⟩
abbrev lv (k : Nat) : IStep := ⟨none, .p .lenS [.v k], none⟩
abbrev S (k j : Nat) : IStep := ⟨none, .st k (.v j) (.l 0), none⟩
abbrev w (k : Nat) : IStep := ⟨none, .st k (.l 0) (.l 1), none⟩
abbrev al (z : List V) (d : Nat) : IStep := ⟨none, .al z, some d⟩
abbrev bx (k d : Nat) : IStep := ⟨none, .bx (.v k), some d⟩
abbrev x (k n : Nat) : IC := .cond (.v k) .skip (.exit n)
abbrev I (k : Nat) : IC := .ops [m (.v k), p ad [.l 0, i 1], o (.l 0) k]
abbrev J (k : Nat) : IC := .ops [p ad [.v k, i 1], o (.l 0) k]
abbrev ds (l : List IStep) (B R : List Nat) (r : List (Nat × Nat × Nat)) (t : List (Nat × Nat)) : IC := .dops l [] B R r t
abbrev lp (n k : Nat) (l : List IStep) (c b i : IC) : IC := .block n (.loop (.seq (.seq (.ops l) c) (.seq (.block k b) i)))
abbrev zH : List V := [.int .u64 0, .int .i64 0]
abbrev fv (j : Nat) (k : PK) (y : List Opd) : IStep := ⟨some (.v j, false), .p k y, none⟩
abbrev tv (j : Nat) (k : PK) (y : List Opd) : IStep := ⟨some (.v j, true), .p k y, none⟩
abbrev gv (j : Nat) (o : IOp) : IStep := ⟨some (.v j, false), o, none⟩
abbrev hv (j : Nat) (o : IOp) : IStep := ⟨some (.v j, true), o, none⟩
abbrev Y : Opd := .l 0
abbrev O : Opd := .c (.int .i64 0)
abbrev U : List Opd := [.l 0]
abbrev B (k : Nat) : List Opd := [.l k, .l 0]
abbrev O1 (d : Nat) : IStep := ⟨none, .p .mv [.l 0], some d⟩
abbrev O0 (d : Nat) : IStep := ⟨none, .p .mv [.c (.int .i64 0)], some d⟩
abbrev On (d : Nat) : IStep := ⟨none, .p .mv [.c .nils], some d⟩
abbrev Of (d : Nat) : IStep := ⟨none, .p .mv [.c (.bool false)], some d⟩
abbrev mv (k : Nat) : IStep := ⟨none, .p .mv [.v k], none⟩
abbrev yv (j k : Nat) : IStep := ⟨some (.l j, false), .p .mv [.v k], none⟩
abbrev zv (j k : Nat) : IStep := ⟨some (.l j, true), .p .mv [.v k], none⟩
end Go.Ev.Ab
