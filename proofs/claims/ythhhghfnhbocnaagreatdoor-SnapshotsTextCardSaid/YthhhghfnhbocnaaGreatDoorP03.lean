/- An evaluator of the program, and contracts over it: EvS to EvZ. -/
import Derived.Test.YthhhghfnhbocnaaGreatDoorP02
set_option linter.unusedSimpArgs false
set_option linter.unusedVariables false
set_option linter.constructorNameAsVariable false
set_option linter.unnecessarySimpa false
namespace Go.Ev
inductive Out where
  |ok (e:Ex) (env:T V) (h:Heap)
  |fail
noncomputable def evO(loc:List V)(env:T V)(x:Opd):Option V:=
  Opd.rec (motive:=fun _=>Option V) (fun k=>nth loc k) (fun s=>env.get s) (fun v=>some v) (fun n=>some (.ptr n 0)) x
noncomputable def evOs(loc:List V)(env:T V)(xs:List Opd):Option (List V):=
  List.rec (motive:=fun _=>Option (List V)) (some []) (fun x _ ih=>
    Option.rec (motive:=fun _=>Option (List V)) none (fun v=>Option.rec (motive:=fun _=>Option (List V)) none (fun vs=>some (v::vs)) ih) (evO loc env x)) xs
noncomputable def fN{β:Type}(n:Nat)(k:Nat→β):β:=Nat.rec (motive:=fun _=>β) (k 0) (fun j _=>k (Nat.succ j)) n
theorem fN_eq{β:Type}(n:Nat)(k:Nat→β):fN n k=k n:=by cases n<;>rfl
noncomputable def fI{β:Type}(n:Int)(k:Int→β):β:=Int.rec (motive:=fun _=>β) (fun a=>fN a fun a=>k (.ofNat a)) (fun a=>fN a fun a=>k (.negSucc a)) n
theorem fI_eq{β:Type}(n:Int)(k:Int→β):fI n k=k n:=by cases n<;>simp[fI,fN_eq]
noncomputable def fB{β:Type}(b:Bool)(k:Bool→β):β:=Bool.rec (motive:=fun _=>β) (k false) (k true) b
theorem fB_eq{β:Type}(b:Bool)(k:Bool→β):fB b k=k b:=by cases b<;>rfl
noncomputable def fV{β:Type}(v:V)(k:V→β):β:=
  match v with
  |.bool b=>fB b fun b=>k (.bool b)
  |.int t n=>fI n fun n=>k (.int t n)
  |.ptr b o=>fN b fun b=>fN o fun o=>k (.ptr b o)
  |.slice b o l c=>fN b fun b=>fN o fun o=>fN l fun l=>fN c fun c=>k (.slice b o l c)
  |.sliceU b o l c=>fN b fun b=>fN o fun o=>fN l fun l=>fN c fun c=>k (.sliceU b o l c)
  |v=>k v
theorem fV_eq{β:Type}(v:V)(k:V→β):fV v k=k v:=by
  cases v<;>simp[fV,fB_eq,fI_eq,fN_eq]
abbrev CallF:=Nat→List V→Heap→Option (V×Heap)
noncomputable def tabF:List (Nat×Nat)→Nat→Option Nat
  |[],_=>none
  |(t,f)::r,u=>bif Nat.beq t u then some f else tabF r u
/-- the deferred calls -/
def dsL:Option V→Option (List V)
  |none=>some []
  |some (.agg l)=>some l
  |_=>none
/-- one operation -/
noncomputable def evOp(call:CallF)(loc:List V)(env:T V)(h:Heap)(o:IOp):Option (V×Heap):=
  match o with
  |.p k xs=>match evOs loc env xs with
    |some vs=>match aP k vs with
      |some v=>some (v,h)
      |none=>none
    |none=>none
  |.ld n ia x=>match evO loc env x with
    |some v=>match aload h n ia v with
      |some v=>some (v,h)
      |none=>none
    |none=>none
  |.st n x y=>match evO loc env x with
    |some p=>match evO loc env y with
      |some v=>match astore h n p v with
        |some h=>some (.tup [],h)
        |none=>none
      |none=>none
    |none=>none
  |.al zero=>some (.ptr h.next 0,halloc h zero)
  |.bx x=>match evO loc env x with
    |some v=>some (.ptr h.next 0,halloc h v.cells)
    |none=>none
  |.bs zero places len xs=>match evOs loc env xs with
    |some vs=>abslice h zero places len vs
    |none=>none
  |.mk zero bytes x y=>match evO loc env x with
    |some l=>match evO loc env y with
      |some c=>amake h zero bytes l c
      |none=>none
    |none=>none
  |.ap esz bytes x y=>match evO loc env x with
    |some s=>match evO loc env y with
      |some v=>aapp h esz bytes s v
      |none=>none
    |none=>none
  |.cp esz x y=>match evO loc env x with
    |some s=>match evO loc env y with
      |some v=>acopy h esz s v
      |none=>none
    |none=>none
  |.cf f xs=>match evOs loc env xs with
    |some vs=>call f vs h
    |none=>none
  |.cv x xs=>match evO loc env x with
    |some (.func (.func f) first caps)=>match evOs loc env xs with
      |some vs=>bif Nat.blt f YB then call f (first++vs++caps) h else none
      |none=>none
    |some (.yld b)=>match evOs loc env xs with
      |some vs=>call (YB+b) vs h
      |none=>none
    |_=>none
  |.mm xs=>match evOs loc env xs with
    |some vs=>amm h vs
    |none=>none
  |.lk ks zero ok xs=>match evOs loc env xs with
    |some [x,key]=>match alk h ks zero ok x key with
      |some v=>some (v,h)
      |none=>none
    |_=>none
  |.mu ks xs=>match evOs loc env xs with
    |some [x,key,val]=>amu h ks x key val
    |_=>none
  |.clr zero x=>match evO loc env x with
    |some d=>aclr h zero d
    |none=>none
  |.b2s x=>match evO loc env x with
    |some d=>match ab2s h d with
      |some v=>some (v,h)
      |none=>none
    |none=>none
  |.df x xs=>match evO loc env x with
    |some (.func (.func f) first caps)=>match evOs loc env xs with
      |some vs=>(match dsL (env.get DSL)with
        |some l=>bif Nat.blt f YB then some (.agg (.tup (.func (.func f) first caps::vs)::l),h)else none
        |none=>none)
      |none=>none
    |_=>none
  |.it nx x=>match evO loc env x with
    |some d=>ait h nx d
    |none=>none
  |.me ks zero st xs=>match evOs loc env xs with
    |some vs=>ame h ks zero st vs
    |none=>none
  |.slu esz xs=>match evOs loc env xs with
    |some (v::bs)=>match aslu h esz v bs with
      |some v=>some (v,h)
      |none=>none
    |_=>none
  |.ux k xs=>match evOs loc env xs with
    |some vs=>aux h k vs
    |none=>none
  |.iv tab x xs=>match evO loc env x with
    |some (.iface t v)=>match evOs loc env xs with
      |some vs=>match tabF tab t with
        |some f=>bif Nat.blt f YB then call f (v::vs) h else none
        |none=>none
      |none=>none
    |_=>none
  |.bad=>none
/-- does it run? (none: that can't be told) -/
noncomputable def evG(loc:List V)(env:T V)(g:Option (Opd×Bool)):Option Bool:=
  match g with
  |none=>some true
  |some (x,want)=>match evO loc env x with
    |some (.bool b)=>some (!(xor b want))
    | some (.tup _) => some false -- the guard was passed over itself
    |_=>none
noncomputable def evSteps(call:CallF)(l:List IStep):List V→T V→Heap→Out:=
  List.rec (motive:=fun _=>List V→T V→Heap→Out) (fun _ env h=>.ok .norm env h)
    (fun s _ ih loc env h=>
      match evG loc env s.gd with
      |some true=>match evOp call loc env h s.op with
        |some (v,h)=>fV v fun v=>match s.dst with
          |none=>ih (v::loc) env h
          |some d=>ih loc (env.set d v) h
        |none=>.fail
      |some false=>match s.dst with
        |none=>ih (.tup []::loc) env h
        |some d=>ih loc (env.set d (.tup [])) h
      |none=>.fail) l
def eff:IOp→Bool
  |.p _ _=>false
  |.ld _ _ _=>false
  |.lk _ _ _ _=>false
  |.b2s _=>false
  |_=>true
/-- blocks that are made in a region, unordered beside its effects: what they hold, and the value that leads to them -/
noncomputable def lateC(loc:List V)(env:T V)(o:IOp):Option (List V×Option (Nat×Nat)):=
  match o with
  |.al zero=>some (zero,none)
  |.bx x=>match evO loc env x with
    |some v=>some (v.cells,none)
    |none=>none
  |.bs zero places len xs=>match evOs loc env xs with
    |some vs=>match afill (repL zero len) places vs with
      |some c=>some (c,some (len,len))
      |none=>none
    |none=>none
  |.mk zero bytes x y=>match evO loc env x with
    |some l=>match evO loc env y with
      |some c=>match mkN bytes l c with
        |some (n,k)=>some (repL zero k,some (n,k))
        |none=>none
      |none=>none
    |none=>none
  |_=>none
def lateV(id:Nat):Option (Nat×Nat)→V
  |some (n,k)=>.slice id 0 n k
  |none=>.ptr id 0
/-- the block that a late value leads to -/
def lid:V→Nat
  |.ptr b _=>b
  |.slice b _ _ _=>b
  |_=>0
/-- a step, and (of a late one) its value and what it holds -/
abbrev DS:=IStep×Option (V×List V)
def effS(s:DS):Bool:=match s.2 with
  |some _=>false
  |none=>eff s.1.op
/-- what a step that is not late will most likely give (held against the real value afterwards) -/
noncomputable def guess(call:CallF)(loc:List V)(env:T V)(h:Heap)(s:IStep):V:=
  bif eff s.op then .tup []else match evOp call loc env h s.op with
    |some (v,_)=>v
    |none=>.tup []
/-- all late blocks, made ahead of the region -/
noncomputable def lay(call:CallF)(env:T V)(late:List Nat):List IStep→Nat→List V→Heap→Option (List DS×Heap)
  |[],_,_,h=>some ([],h)
  |s::l,i,loc,h=>
    bif late.contains i then
      match lateC loc env s.op with
      |some (c,k)=>match lay call env late l (i+1) (lateV h.next k::loc) (halloc h c)with
        |some (r,h')=>some ((s,some (lateV h.next k,c))::r,h')
        |none=>none
      |none=>none
    else
      match lay call env late l (i+1) (guess call loc env h s::loc) h with
      |some (r,h')=>some ((s,none)::r,h')
      |none=>none
/-- is a late step's block what was laid? -/
noncomputable def lateOK(loc:List V)(env:T V)(o:IOp)(u:V)(c:List V):Bool:=
  match lateC loc env o with
  |some (c',k)=>vsEq c c'&&vEq u (lateV (lid u) k)
  |none=>false
noncomputable def evDr(call:CallF)(env:T V)(l:List DS):List V→List Heap→Heap→Option (List V×List Heap):=
  List.rec (motive:=fun _=>List V→List Heap→Heap→Option (List V×List Heap)) (fun loc hs _=>some (loc,hs))
    (fun s _ ih loc hs h=>
      match s.2 with
      |some (u,c)=>bif lateOK loc env s.1.op u c then ih (u::loc) hs h else none
      |none=>
        match evG loc env s.1.gd with
        |some true=>match evOp call loc env h s.1.op with
          |some (v,h')=>fV v fun v=>bif eff s.1.op then ih (v::loc) (h'::hs) h' else ih (v::loc) hs h
          |none=>none
        |some false=>bif eff s.1.op then ih (.tup []::loc) (h::hs) h else ih (.tup []::loc) hs h
        |none=>none) l
noncomputable def rdAll(call:CallF)(loc:List V)(env:T V)(o:IOp)(v:V):List Heap→Bool
  |[]=>true
  |h::hs=>(match evOp call loc env h o with
    |some (u,_)=>vEq u v
    |none=>false)&&rdAll call loc env o v hs
/-- hs: the heaps, the last one first; those behind lo to hi effects -/
noncomputable def rdOK(call:CallF)(env:T V)(l:List IStep)(loc:List V)(hs:List Heap)(r:Nat×Nat×Nat):Bool:=
  match r with
  |(i,lo,hi)=>match l[i]?,loc.drop (l.length-i-1)with
    |some s,v::loc'=>(match evG loc' env s.gd with
      |some true=>rdAll call loc' env s.op v ((hs.reverse.drop lo).take (hi+1-lo))
      |_=>true)
    |_,_=>false
noncomputable def setsE(n:Nat)(loc:List V):List (Nat×Nat)→T V→Option (T V)
  |[],env=>some env
  |(s,i)::r,env=>match loc[n-i-1]? with
    |some v=>setsE n loc r (env.set s v)
    |none=>none
noncomputable def evD(call:CallF)(l:List IStep)(late:List Nat)(reads:List (Nat×Nat×Nat))(sets:List (Nat×Nat))(env:T V)(h0:Heap):Out:=
  match lay call env late l 0 [] h0 with
  |none=>.fail
  |some (dl,h)=>
  match evDr call env dl [] [h] h with
  |some (loc,hs)=>bif reads.all (rdOK call env l loc hs)then
      (match setsE l.length loc sets env,hs with
        |some env',h'::_=>.ok .norm env' h'
        |_,_=>.fail)
    else .fail
  |none=>.fail
noncomputable def dbl(body:T V→Heap→Out)(k:Nat):T V→Heap→Out:=
  Nat.rec (motive:=fun _=>T V→Heap→Out) body (fun _ ih env h=>match ih env h with
    |.ok .norm env h=>ih env h
    |r=>r) k
/-- the deferred calls, at a function's end -/
noncomputable def evDs(call:CallF):List V→Heap→Option Heap
  |[],h=>some h
  |.tup (.func (.func f) first caps::args)::l,h=>(match call f (first++args++caps) h with
    |some (_,h)=>evDs call l h
    |none=>none)
  |_::_,_=>none
noncomputable def evEnd(call:CallF)(e:Ex)(env:T V)(h:Heap):Out:=
  match dsL (env.get DSL)with
  |some l=>(match evDs call l h with
    |some h=>.ok e env h
    |none=>.fail)
  |none=>.fail
noncomputable def evC(call:CallF)(c:IC):T V→Heap→Out:=
  IC.rec (motive:=fun _=>T V→Heap→Out)
    (fun env h=>.ok .norm env h)
    (fun l env h=>evSteps call l [] env h)
    (fun _ _ a b env h=>match a env h with
      |.ok .norm env h=>b env h
      |r=>r)
    (fun x _ _ a b env h=>match evO [] env x with
      |some (.bool t)=>bif t then a env h else b env h
      |_=>.fail)
    (fun id _ c env h=>match c env h with
      |.ok (.exit i) env h=>bif Nat.beq i id then .ok .norm env h else .ok (.exit i) env h
      |r=>r)
    (fun _ c env h=>match dbl c 48 env h with
      |.ok .norm _ _=>.fail
      |r=>r)
    (fun id env h=>.ok (.exit id) env h)
    (fun env h=>.ok .ret env h)
    (fun _ l _ c r env h=>match c env h with
      |.ok (.goto i) env h=>bif Nat.beq i l then
          (match dbl (fun env h=>match r env h with
              |.ok (.goto i) env h=>bif Nat.beq i l then .ok .norm env h else .ok (.goto i) env h
              |.ok .norm env h=>.ok (.goto l) env h
              |r=>r) 48 env h with
            |.ok .norm _ _=>.fail
            |.ok (.goto i) env h=>bif Nat.beq i l then .ok .norm env h else .fail
            |r=>r)
        else .fail
      |r=>r)
    (fun l env h=>.ok (.goto l) env h)
    (fun l late _ _ reads sets env h=>evD call l late reads sets env h)
    (fun _ _=>.fail)
    (fun g ps as bd _ _ env h=>match evO [] env g with
      |some (.func (.func f) first caps)=>bif Nat.blt f YB then
          (match call f (first++[.yld h.next]++caps) (hnew h (.lp ps as bd env 0 none))with
            |some (_,h2)=>(match h2.bl.get h.next with
              |some (.lp _ _ _ _ st pend)=>bif Nat.beq st 1 then .fail else .ok (match pend with|some ex=>ex|none=>.norm) env (hset h2 h.next .dead)
              |_=>.fail)
            |none=>.fail)
        else .fail
      |_=>.fail)
    (fun _ c env h=>match c env h with
      |.ok .norm env h=>evEnd call .norm env h
      |.ok .ret env h=>evEnd call .ret env h
      |_=>.fail) c
noncomputable def bindP:List Nat→List V→T V→T V
  |p::ps,v::vs,env=>bindP ps vs (env.set p v)
  |_,_,env=>env
/-- a call of yield: a round -/
noncomputable def evY(run:IC→T V→Heap→Out)(b:Nat)(vs:List V)(h:Heap):Option (V×Heap):=
  match h.bl.get b with
  |some (.lp ps as bd env 0 none)=>bif Nat.beq vs.length ps.length then
      (match run as (bindP ps vs env) h with
        |.ok .norm env1 h1=>(match h1.bl.get b with
          |some (.lp ps1 as1 bd1 en1 0 p1)=>(match run bd env1 (hset h1 b (.lp ps1 as1 bd1 en1 1 p1))with
            |.ok ex _ h2=>(match h2.bl.get b with
              |some (.lp ps2 as2 bd2 en2 _ _)=>(match ex with
                |.norm=>some (.bool true,hset h2 b (.lp ps2 as2 bd2 en2 0 none))
                |ex=>some (.bool false,hset h2 b (.lp ps2 as2 bd2 en2 2 (some ex))))
              |_=>none)
            |.fail=>none)
          |_=>none)
        |_=>none)
    else none
  |_=>none
/-- a result: a variable, or the n cells at the address that a variable holds -/
inductive RV where
  |t (s:Nat)
  |c (s n:Nat) (ia:Bool)
structure IFn where
  nargs:Nat
  body:IC
  results:List RV
  vars:List Nat
noncomputable def evR(env:T V)(h:Heap):RV→Option V
  |.t s=>env.get s
  |.c s n ia=>match env.get s with
    |some v=>aload h n ia v
    |none=>none
noncomputable def evRs(env:T V)(h:Heap):List RV→Option (List V)
  |[]=>some []
  |r::rs=>match evR env h r with
    |some v=>match evRs env h rs with
      |some vs=>some (v::vs)
      |none=>none
    |none=>none
noncomputable def bindA(vs:List V):Nat→T V→T V:=
  List.rec (motive:=fun _=>Nat→T V→T V) (fun _ en=>en) (fun v _ ih i en=>ih (Nat.succ i) (en.set i v)) vs
/-- ov: functions whose contracts are known otherwise -/
noncomputable def evF(ov:CallF)(F:T IFn)(n:Nat):CallF:=
  Nat.rec (motive:=fun _=>CallF) (fun _ _ _=>none)
    (fun _ ih f vs h=>match F.get f with
      |some fn=>bif Nat.beq vs.length fn.nargs then
          (match evC ih fn.body (bindA vs 0 .e) h with
            |.ok .norm env h=>match evRs env h fn.results with
              |some [v]=>fV v fun v=>some (v,h)
              |some vs=>some (.tup vs,h)
              |none=>none
            |.ok .ret env h=>match evRs env h fn.results with
              |some [v]=>fV v fun v=>some (v,h)
              |some vs=>some (.tup vs,h)
              |none=>none
            |_=>none)
        else none
      |none=>bif Nat.ble YB f then evY (evC ih) (f-YB) vs h else ov f vs h) n
/-- what a temporary of a region stands for -/
inductive Src where
  |l (k:Nat)
  |v (s:Nat)
  |x (o:Operand)
  |bad
abbrev Sg:=List (Nat×Src)
def look:Sg→Nat→Option Src
  |[],_=>none
  |(d,s)::r,t=>if d=t then some s else look r t
def bumpS:Src→Src
  |.l k=>.l (k+1)
  |s=>s
def bump:Sg→Sg
  |[]=>[]
  |(d,s)::r=>(d,bumpS s)::bump r
/-- without what a variable stood for that is set anew -/
def unsetS(d t:Nat):Src→Src
  |.v s=>if t=d∨s=d then .bad else .v s
  |s=>if t=d then .bad else s
def unset(d:Nat):Sg→Sg
  |[]=>[]
  |(t,s)::r=>(t,unsetS d t s)::unset d r
def conOK(G:Nat):Operand→Opd→Bool
  |.const x,.c v=>vis v x
  |.global g,.g n=>Nat.beq g n&&Nat.blt g G
  |.func f,.c (.func (.func f') [] [])=>Nat.beq f f'
  |_,_=>false
def srcOK(G:Nat):Src→Opd→Bool
  |.l k,.l j=>Nat.beq k j
  |.v s,.v t=>Nat.beq s t
  |.x o,y=>conOK G o y
  |_,_=>false
structure Cx where
  G:Nat
  vars:List Nat
  N:Nat
  df:Bool
def opdOK(C:Cx)(σ:Sg):Operand→Opd→Bool
  |.tmp t,y=>match look σ t with
    |some s=>srcOK C.G s y
    |none=>match y with
      |.v s=>Nat.beq s t&&C.vars.contains t
      |_=>false
  |o,y=>conOK C.G o y
def opdsOK(C:Cx)(σ:Sg):List Operand→List Opd→Bool
  |[],[]=>true
  |o::os,y::ys=>opdOK C σ o y&&opdsOK C σ os ys
  |_,_=>false
/-- a method of a pointer -/
def chkMeth(P:Program)(t:TypeId)(name:String)(f:Nat):Bool:=
  match P.info? t with
  |some i=>(match i.methods.find? (fun x=>x.name==name)with
    |some mt=>mt.path.isEmpty&&(match mt.func with
      |some (g,true)=>Nat.beq g f
      |_=>false)
    |none=>false)&&(match P.underlying t with
      |some (.pointer _)=>true
      |_=>false)
  |none=>false
theorem run_meth{P:Program}{t:TypeId}{name:String}{f:Nat}(h:chkMeth P t name f=true)(v:Value)(args:Array Value)(w:World):
    (callMethod (.iface t v) name args).run P w=(callFunc f (#[v]++args)).run P w:=by
  unfold chkMeth at h;split at h
  ·rename_i i hi;simp only[Bool.and_eq_true]at h;obtain⟨h,hp⟩:=h;split at h
   ·rename_i mt hf;simp only[Bool.and_eq_true]at h;obtain⟨h1,h2⟩:=h;split at h2
    ·rename_i g hg;have:=Nat.eq_of_beq_eq_true h2;subst this;split at hp
     ·rename_i e hu;have hpath:mt.path.toList=[]:=by simpa using h1
      have hfu:P.types.size+Made.depth=(P.types.size+Made.depth-1)+1:=by
        have:0<Made.depth:=by decide
        omega
      simp only[callMethod,Sem.run_bind,run_program,Result.andThen_ok];rw[hfu];simp only[method,Sem.run_bind,run_info hi,Result.andThen_ok,hf,hpath,follow,Sem.run_pure,hg,receiverAt,run_under hu,Place.get]
     ·cases hp
    ·cases h2
   ·cases h
  ·cases h
def chkOp0(P:Program)(C:Cx)(σ:Sg)(o:Oper):IOp→Bool
  |.p k xs=>chkP P o.op k&&opdsOK C σ o.op.operands.toList xs
  |.ld n ia x=>chkLoad P o.op n ia&&opdsOK C σ o.op.operands.toList [x]
  |.st n x y=>chkStore P o.op n&&opdsOK C σ o.op.operands.toList [x,y]
  |.al zero=>chkAlloc P o.op zero
  |.bx x=>chkBox o.op&&opdsOK C σ o.op.operands.toList [x]
  |.bs zero places len xs=>chkBslice P o.op zero places len&&opdsOK C σ o.op.operands.toList xs
  |.mk zero bytes x y=>chkMake P o.op zero bytes&&opdsOK C σ o.op.operands.toList [x,y]
  |.ap esz bytes x y=>chkApp P o.op esz bytes&&opdsOK C σ o.op.operands.toList [x,y]
  |.cp esz x y=>chkCopy P o.op esz&&opdsOK C σ o.op.operands.toList [x,y]
  |.cf f xs=>match o.op with
    |.call {callee:=.value (.func f'),args, .. }=>Nat.beq f f'&&opdsOK C σ args.toList xs&&Nat.blt f YB
    |_=>false
  |.cv x xs=>match o.op with
    |.call {callee:=.value y,args, .. }=>opdOK C σ y x&&opdsOK C σ args.toList xs
    |_=>false
  |.mm xs=>chkMM P o.op&&opdsOK C σ o.op.operands.toList xs
  |.lk ks zero ok xs=>chkLk P o.op ks zero ok&&opdsOK C σ o.op.operands.toList xs
  |.mu ks xs=>chkMu P o.op ks&&opdsOK C σ o.op.operands.toList xs
  |.clr zero x=>chkClr P o.op zero&&opdsOK C σ o.op.operands.toList [x]
  |.b2s x=>chkB2s P o.op&&opdsOK C σ o.op.operands.toList [x]
  |.df _ _=>false
  |.it nx x=>chkIt P o.op nx&&opdsOK C σ o.op.operands.toList [x]
  |.me ks zero st xs=>chkMe P o.op ks zero st&&opdsOK C σ o.op.operands.toList xs
  |.slu esz xs=>chkP P o.op (.sl none esz true true false)&&opdsOK C σ o.op.operands.toList xs
  |.ux k xs=>chkUx P o.op k&&opdsOK C σ (uxArgs o.op k) xs
  |.iv tab x xs=>match o.op with
    |.call {callee:=.invoke y name,args, .. }=>opdOK C σ y x&&opdsOK C σ args.toList xs&&tab.all (fun r=>Nat.blt r.2 YB&&chkMeth P r.1 name r.2)
    |_=>false
  |.bad=>true
def notDf:Op→Bool
  |.defer _=>false
  |_=>true
def chkOp(P:Program)(C:Cx)(σ:Sg)(o:Oper)(i:IOp):Bool:=notDf o.op&&chkOp0 P C σ o i
/-- a deferred call -/
def chkDf(C:Cx)(σ:Sg)(o:Oper)(s:IStep):Bool:=
  C.df&&(match s.dst with|some d=>Nat.beq d DSL|none=>false)&&(match o.dst with|none=>true|some _=>false)&&(match o.guard,s.gd with|none,none=>true|_,_=>false)&&
  (match s.op with
    |.df x xs=>(match o.op with
      |.defer {callee:=.value y,args, .. }=>opdOK C σ y x&&opdsOK C σ args.toList xs
      |_=>false)
    |_=>false)
def chkG(C:Cx)(σ:Sg)(ops:Array Oper)(g:Option (Nat×Bool))(s:Option (Opd×Bool)):Bool:=
  match g,s with
  |none,none=>true
  |some (j,want),some (x,want')=>(want==want')&&(match(ops[j]?).bind (·.dst)with
    |some d=>Nat.blt d C.N&&opdOK C σ (.tmp d) x
    |none=>false)
  |_,_=>false
def dstOK(C:Cx)(d:Option Nat)(s:Option Nat):Bool:=
  match d,s with
  |none,none=>true
  |some d,none=> !C.vars.contains d&&Nat.blt d C.N
  |some d,some e=>Nat.beq d e&&C.vars.contains d&&Nat.blt d C.N
  |none,some _=>false
def after(σ:Sg)(d:Option Nat)(s:Option Nat):Sg:=
  match d,s with
  |none,_=>bump σ
  |some d,none=>(d,.l 0)::bump σ
  |some d,some _=>unset d σ
/-- a move that only gives a value another name -/
def aliasOf(C:Cx)(σ:Sg)(ops:Array Oper)(o:Oper):Option (Nat×Src):=
  match o.op,o.guard,o.dst with
  |.move x,none,some d=>
    if !C.vars.contains d&&Nat.blt d C.N then
      match x with
      |.tmp t=>
        match look σ t with
        |some (.v s)=>if ops.any (fun p=>p.dst==some s)then none else some (d,.v s)
        |some s=>some (d,s)
        |none=>if C.vars.contains t&& !ops.any (fun p=>p.dst==some t)then some (d,.v t)else none
      |x=>some (d,.x x)
    else none
  |_,_,_=>none
/-- without what the slot of the deferred call stood for -/
def bump0(σ:Sg):Sg:=unset DSL σ
def chkSteps(P:Program)(C:Cx)(ops:Array Oper):List Oper→List IStep→Sg→Bool
  |[],[],_=>true
  |[],_::_,_=>false
  |o::os,steps,σ=>
    match aliasOf C σ ops o with
    |some p=>chkSteps P C ops os steps (p::σ)
    |none=>match steps with
      |[]=>false
      |s::rest=>chkG C σ ops o.guard s.gd&&chkOp P C σ o s.op&&dstOK C o.dst s.dst&&chkSteps P C ops os rest (after σ o.dst s.dst)||(chkDf C σ o s&&chkSteps P C ops os rest (bump0 σ))
def Glob(K:LG→Prop)(G:Nat)(m:M):Prop:=(∀g,g<G→∃r,m g=some ⟨g,0,r,none⟩)∧∀p loc g,m p=some loc→loc.lp=some g→K g
theorem Glob.ext{K:LG→Prop}{G:Nat}{m m':M}{h h':Heap}{w w':World}(a:Glob K G m)(E:Ext m h w m' h' w'):Glob K G m':=
  ⟨fun g hg=>let⟨r,hr⟩:=a.1 g hg;⟨r,E.le _ _ hr⟩,fun p loc g hp hl=>by
    cases h0:m p with
    |some l0=>
      have:=E.le _ _ h0;rw[hp]at this;cases this;exact a.2 p loc g h0 hl
    |none=>rw[E.lps p loc hp h0]at hl;cases hl⟩
variable {K : LG → Prop}
def Inv(G:Nat)(m:M)(loc:List V)(env:T V)(a:Act)(σ:Sg):Prop:=
  ∀t s,look σ t=some s→∀y v,srcOK G s y=true→evO loc env y=some v→VRel m v (a.tmps.getD t undef)
def ERel(C:Cx)(m:M)(env:T V)(a:Act):Prop:=
  a.tmps.size=C.N∧(∀s v,env.get s=some v→s=DSL∨(C.vars.contains s=true∧VRel m v (a.tmps.getD s undef)))∧C.vars.contains DSL=false
theorem ERel.var{C:Cx}{m:M}{env:T V}{a:Act}(hE:ERel C m env a){s:Nat}{v:V}(hc:C.vars.contains s=true)(e:env.get s=some v):VRel m v (a.tmps.getD s undef):=by
  rcases hE.2.1 s v e with q|q
  ·rw[q,hE.2.2]at hc;cases hc
  ·exact q.2
theorem con_sound{G:Nat}{m:M}{o:Operand}{y:Opd}{loc:List V}{env:T V}{v:V}{a:Act}(hG:Glob K G m)(h:conOK G o y=true)(e:evO loc env y=some v):VRel m v (a.eval o):=by
  unfold conOK at h;split at h
  ·cases e;exact vis_rel m _ _ h
  ·cases e;simp only[Bool.and_eq_true,Nat.blt_eq]at h;have:=Nat.eq_of_beq_eq_true h.1;subst this;obtain⟨r,hr⟩:=hG.1 _ h.2;exact⟨_,hr,rfl⟩
  ·cases e;have:=Nat.eq_of_beq_eq_true h;subst this;exact⟨[],[],rfl,rfl,rfl⟩
  ·cases h
theorem opd_sound{C:Cx}{m:M}{σ:Sg}{o:Operand}{y:Opd}{loc:List V}{env:T V}{v:V}{a:Act}(hG:Glob K C.G m)(hI:Inv C.G m loc env a σ)(hE:ERel C m env a)
    (h:opdOK C σ o y=true) (e:evO loc env y=some v):VRel m v (a.eval o):=by
  unfold opdOK at h;split at h
  ·rename_i t;split at h
   ·rename_i s hs;exact hI t s hs y v h e
   ·split at h
    ·rename_i s;simp only[Bool.and_eq_true]at h;have:=Nat.eq_of_beq_eq_true h.1;subst this;exact hE.var h.2 e
    ·cases h
  ·exact con_sound hG h e
theorem evOs_cons(loc:List V)(env:T V)(x:Opd)(xs:List Opd):evOs loc env (x::xs)=match evO loc env x with
    |some v=>(match evOs loc env xs with|some vs=>some (v::vs)|none=>none)
    |none=>none:=by
  show Option.rec (motive:=fun _=>Option (List V)) none (fun v=>Option.rec (motive:=fun _=>Option (List V)) none (fun vs=>some (v::vs)) (evOs loc env xs)) (evO loc env x)=_;cases evO loc env x with
  |none=>rfl
  |some v=>cases evOs loc env xs<;>rfl
/-- the operands' values are those of the model's -/
def OpdS(C:Cx)(m:M)(σ:Sg)(loc:List V)(env:T V)(a:Act):Prop:=∀(o:Operand)(y:Opd)(v:V),opdOK C σ o y=true→evO loc env y=some v→VRel m v (a.eval o)
theorem opds_sound{C:Cx}{m:M}{σ:Sg}{loc:List V}{env:T V}{a:Act}(hO:OpdS C m σ loc env a):
    ∀(os:List Operand)(ys:List Opd)(vs:List V),opdsOK C σ os ys=true→evOs loc env ys=some vs→VsRel m vs (os.map a.eval)
  |[],[],vs,_,e=>by cases e;rfl
  |[],_::_,_,h,_=>by simp[opdsOK]at h
  |_::_,[],_,h,_=>by simp[opdsOK]at h
  |o::os,y::ys,vs,h,e=>by
    simp only[opdsOK,Bool.and_eq_true]at h;rw[evOs_cons]at e;cases h1:evO loc env y with
    |none=>rw[h1]at e;cases e
    |some v=>
      rw[h1]at e;cases h2:evOs loc env ys with
      |none=>rw[h2]at e;cases e
      |some ws=>
        rw[h2]at e;cases e;exact⟨_,_,rfl,hO _ _ _ h.1 h1,opds_sound hO os ys ws h.2 h2⟩
theorem evOs_one{loc:List V}{env:T V}{x:Opd}{v:V}(h:evO loc env x=some v):evOs loc env [x]=some [v]:=by
  rw[evOs_cons,h];rfl
theorem evOs_two{loc:List V}{env:T V}{x y:Opd}{v u:V}(h:evO loc env x=some v)(k:evO loc env y=some u):evOs loc env [x,y]=some [v,u]:=by
  rw[evOs_cons,h,evOs_one k]
/-- how a call, or a round, ends -/
def Post(m:M)(h:Heap)(w:World)(v:V)(h':Heap):Ending→World→Prop:=fun e w'=>∃x m',e=.returned x∧VRel m' v x∧HRel m' h' w'∧Ext m h w m' h' w'
abbrev FR(ro:Option Nat):Fence:={Fence.wide with round:=ro}
/-- what is known of the calls -/
def CallsOK(P:Program)(K:LG→Prop)(G:Nat)(call:CallF):Prop:=∀f vs h v h',call f vs h=some (v,h')→
  (f<YB→(∃fn,P.funcs[f]? =some fn∧fn.body.isSome=true∧(fn.name== "runtime.NumGoroutine")=false)∧
    ∀m w (args:List Value),VsRel m vs args→HRel m h w→Glob K G m→
      Calls P f (List.toArray args) w (Post m h w v h')∧∀u,CallsDIn Fence.wide 0 P f (List.toArray args) u w (fun e u' w'=>u'=u∧Post m h w v h' e w'))∧
  (YB≤f→∀m w (args:List Value) loc,m (f-YB)=some loc→VsRel m vs args→HRel m h w→Glob K G m→
    ∃r:Loop,w.heap[loc.block]? =some (.loop r)∧args.length=r.params.size∧
      RoundIn Fence.wide 0 P loc.block r.fn ((r.params.zip (List.toArray args)).foldl (fun tmps (t,a)=>tmps.setIfInBounds t a) r.tmps) r.assign r.body w (Post m h w v h'))
theorem run_callFunc{P:Program}{w:World}{f:FuncId}{args:Array Value}(h:∃fn,P.funcs[f]? =some fn∧fn.body.isSome=true∧(fn.name== "runtime.NumGoroutine")=false):
    (callFunc f args).run P w=.ok (.enter f args) w:=by
  obtain⟨fn,hf,hb,hn⟩:=h;have hb':fn.body.isNone=false:=by cases hh:fn.body<;>simp_all
  simp only[callFunc,Sem.run_bind,run_program,Result.andThen_ok,hf,hn,hb',Bool.false_eq_true,if_false,Sem.run_pure]
/-- one operation: what follows it -/
theorem op_sound{P:Program}{C:Cx}{call:CallF}(hcall:CallsOK P K C.G call){m:M}{h h':Heap}{w:World}{σ:Sg}{loc:List V}{env:T V}{a:Act}{o:Oper}{i:IOp}{v:V}
    (hG:Glob K C.G m) (hO:OpdS C m σ loc env a) (H:HRel m h w) (hc:chkOp P C σ o i=true) (e:evOp call loc env h i=some (v,h')) {K0:Act→World→Prop} {Q:Exit→Act→World→Prop}
    (hK:∀x w' m',VRel m' v x→HRel m' h' w'→Ext m h w m' h' w'→K0 (a.put o.dst x) w') {ro:Option Nat}:o.wpIn (FR ro) 0 P a w K0 Q:=by
  unfold chkOp at hc;simp only[Bool.and_eq_true]at hc;obtain⟨hnd,hc⟩:=hc;have hsem:o.semAt ro a.eval=execOp a.eval o:=Oper.semAt_eq ro a.eval o (fun c hcc=>by rw[hcc]at hnd;cases hnd);have fin:MS P m h w o a.eval v h'→o.wpIn (FR ro) 0 P a w K0 Q:=by
    rintro⟨x,w',m',hg,r,H',E'⟩;refine⟨fun _ _=>trivial,?_⟩;show o.uponIn (FR ro) 0 P a K0 Q ((o.semAt ro a.eval).run P w);rw[hsem];rcases hg with hg|⟨hg,rfl⟩
    ·rw[hg];exact hK x w' m' r H' E'
    ·rw[hg];exact hK undef w' m' r H' E'
  have entered:∀{f:Nat}{args:List Value},(execOp a.eval o).run P w=.ok (.enter f (List.toArray args)) w→Calls P f (List.toArray args) w (Post m h w v h')→o.wpIn (FR ro) 0 P a w K0 Q:=by
    intro f args hr hcl;refine⟨fun _ _=>trivial,?_⟩;show o.uponIn (FR ro) 0 P a K0 Q ((o.semAt ro a.eval).run P w);rw[hsem,hr];have hcl2:CallsIn Fence.wide 0 P f (List.toArray args) w (Post m h w v h'):=callsIn_wide.2 hcl;refine⟨fun q=>absurd q (by simp[Fence.wide]),CallsIn.mono (F:=FR ro) (n:=0) hcl2 ?_⟩;rintro en w' ⟨x,m',rfl,r,H',E'⟩;exact hK x w' m' r H' E'
  have one:∀x u,opdsOK C σ o.op.operands.toList [x]=true→evO loc env x=some u→VsRel m [u] (OV a.eval o.op):=fun x u h1 h2=>opds_sound hO _ _ _ h1 (evOs_one h2);have two:∀x y u t,opdsOK C σ o.op.operands.toList [x,y]=true→evO loc env x=some u→evO loc env y=some t→VsRel m [u,t] (OV a.eval o.op):=fun x y u t h1 h2 h3=>opds_sound hO _ _ _ h1 (evOs_two h2 h3);unfold evOp at e;split at e
  ·rename_i k xs;simp only[chkOp0,Bool.and_eq_true]at hc;split at e
   ·rename_i vs hvs;split at e
    ·rename_i u hu;cases e;exact fin (MS_of_PS H (aP_sound hc.1 (opds_sound hO _ _ _ hc.2 hvs) hu))
    ·cases e
   ·cases e
  ·rename_i n ia x;simp only[chkOp0,Bool.and_eq_true]at hc;split at e
   ·rename_i u hu;split at e
    ·rename_i t ht;cases e;obtain⟨x,r,hr⟩:=aload_sound (P:=P) H hc.1 (one _ _ hc.2 hu) ht;exact fin ⟨x,w,m,.inl hr,r,H,Ext.refl _ _ _⟩
    ·cases e
   ·cases e
  ·rename_i n x y;simp only[chkOp0,Bool.and_eq_true]at hc;split at e
   ·rename_i p hp;split at e
    ·rename_i u hu;split at e
     ·rename_i h2 hh2;cases e;exact fin (astore_sound H hc.1 (two _ _ _ _ hc.2 hp hu) hh2)
     ·cases e
    ·cases e
   ·cases e
  ·cases e;simp only[chkOp0]at hc;exact fin (aalloc_sound H hc)
  ·simp only[chkOp0,Bool.and_eq_true]at hc;split at e
   ·rename_i u hu;cases e;exact fin (abox_sound H hc.1 (one _ _ hc.2 hu))
   ·cases e
  ·simp only[chkOp0,Bool.and_eq_true]at hc;split at e
   ·rename_i vs hvs;exact fin (abslice_sound H hc.1 (opds_sound hO _ _ _ hc.2 hvs) e)
   ·cases e
  ·simp only[chkOp0,Bool.and_eq_true]at hc;split at e
   ·rename_i p hp;split at e
    ·rename_i u hu;exact fin (amake_sound H hc.1 (two _ _ _ _ hc.2 hp hu) e)
    ·cases e
   ·cases e
  ·simp only[chkOp0,Bool.and_eq_true]at hc;split at e
   ·rename_i p hp;split at e
    ·rename_i u hu;exact fin (aapp_sound H hc.1 (two _ _ _ _ hc.2 hp hu) e)
    ·cases e
   ·cases e
  ·simp only[chkOp0,Bool.and_eq_true]at hc;split at e
   ·rename_i p hp;split at e
    ·rename_i u hu;exact fin (acopy_sound H hc.1 (two _ _ _ _ hc.2 hp hu) e)
    ·cases e
   ·cases e
  ·rename_i f xs;simp only[chkOp0]at hc;split at hc
   ·rename_i f' args ts hy;simp only[Bool.and_eq_true,Nat.blt_eq]at hc;have:=Nat.eq_of_beq_eq_true hc.1.1;subst this;split at e
    ·rename_i vs hvs;have hv:=opds_sound hO _ _ _ hc.1.2 hvs;obtain⟨hf,hcl⟩:=(hcall f vs h v h' e).1 hc.2;have hr:(execOp a.eval o).run P w=.ok (.enter f (List.toArray (args.toList.map a.eval))) w:=by
       have q:args.map a.eval=List.toArray (args.toList.map a.eval):=Array.ext' (by simp);simp only[execOp,hy,resolve,Act.eval,Deferred.ofValue,Sem.run_bind,Sem.run_pure,Result.andThen_ok,invoke];rw[show((#[]:Array Value)++args.map a.eval++(#[]:Array Value))=List.toArray (args.toList.map a.eval) by simp[q]];exact run_callFunc hf
     exact entered hr (hcl m w _ hv H hG).1
    ·cases e
   ·cases hc
  ·rename_i x xs;simp only[chkOp0]at hc;split at hc
   ·rename_i y args ts hy;simp only[Bool.and_eq_true]at hc;split at e
    ·rename_i f first caps hx
     split at e
     ·rename_i vs hvs;have hv:=opds_sound hO _ _ _ hc.2 hvs;have hfx:=hO _ _ _ hc.1 hx;obtain⟨f',c',hfe,rf,rc⟩:=hfx;cases hlt:Nat.blt f YB
      ·rw[hlt]at e;cases e
      ·rw[hlt]at e;simp only[cond_true]at e;obtain⟨hf,hcl⟩:=(hcall f _ h v h' e).1 ((Nat.blt_eq ..).mp hlt);have hr:(execOp a.eval o).run P w=.ok (.enter f (List.toArray (f'++args.toList.map a.eval++c'))) w:=by
         have q:args.map a.eval=List.toArray (args.toList.map a.eval):=Array.ext' (by simp);simp only[execOp,hy,resolve,hfe,Deferred.ofValue,Sem.run_bind,Sem.run_pure,Result.andThen_ok,invoke];rw[show(List.toArray f'++args.map a.eval++List.toArray c')=List.toArray (f'++args.toList.map a.eval++c') by simp[q]];exact run_callFunc hf
       exact entered hr (hcl m w _ (VsRel.append (VsRel.append rf hv) rc) H hG).1
     ·cases e
    ·rename_i b hx;split at e
     ·rename_i vs hvs;have hv:=opds_sound hO _ _ _ hc.2 hvs;obtain⟨loc,hm,hfe⟩:=hO _ _ _ hc.1 hx;obtain⟨r,hr1,hr2,hr3⟩:=(hcall _ vs h v h' e).2 (Nat.le_add_right _ _) m w _ loc (by rw[Nat.add_sub_cancel_left];exact hm) hv H hG;refine⟨fun _ _=>trivial,?_⟩;show o.uponIn (FR ro) 0 P a K0 Q ((o.semAt ro a.eval).run P w);rw[hsem];have hr:(execOp a.eval o).run P w=.ok (.round loc.block r.fn ((r.params.zip (List.toArray (args.toList.map a.eval))).foldl (fun tmps (t,a)=>tmps.setIfInBounds t a) r.tmps) r.assign r.body) w:=by
        have q:args.map a.eval=List.toArray (args.toList.map a.eval):=Array.ext' (by simp);simp only[execOp,hy,resolve,hfe,Deferred.ofValue,Sem.run_bind,Sem.run_pure,Result.andThen_ok,invoke];rw[show((#[]:Array Value)++args.map a.eval)=List.toArray (args.toList.map a.eval) by simp[q]];exact run_yield hr1 (by simpa using hr2)
      rw[hr];refine⟨fun q=>absurd q (by simp[Fence.wide]),RoundIn.mono hr3 ?_⟩;rintro en w' ⟨x,m',rfl,r,H',E'⟩;exact hK x w' m' r H' E'
     ·cases e
    ·cases e
   ·cases hc
  ·simp only[chkOp0,Bool.and_eq_true]at hc;split at e
   ·rename_i vs hvs;exact fin (amm_sound H hc.1 (opds_sound hO _ _ _ hc.2 hvs) e)
   ·cases e
  ·simp only[chkOp0,Bool.and_eq_true]at hc;split at e
   ·rename_i x key hvs;split at e
    ·rename_i u hu;cases e;exact fin (alk_sound H hc.1 (opds_sound hO _ _ _ hc.2 hvs) hu)
    ·cases e
   ·cases e
  ·simp only[chkOp0,Bool.and_eq_true]at hc;split at e
   ·rename_i x key val hvs;exact fin (amu_sound H hc.1 (opds_sound hO _ _ _ hc.2 hvs) e)
   ·cases e
  ·simp only[chkOp0,Bool.and_eq_true]at hc;split at e
   ·rename_i d hd;exact fin (aclr_sound H hc.1 (one _ _ hc.2 hd) e)
   ·cases e
  ·simp only[chkOp0,Bool.and_eq_true]at hc;split at e
   ·rename_i d hd;split at e
    ·rename_i u hu;cases e;exact fin (ab2s_sound H hc.1 (one _ _ hc.2 hd) hu)
    ·cases e
   ·cases e
  ·simp only[chkOp0,Bool.false_eq_true]at hc
  ·simp only[chkOp0,Bool.and_eq_true]at hc;split at e
   ·rename_i d hd;exact fin (ait_sound H hc.1 (one _ _ hc.2 hd) e)
   ·cases e
  ·simp only[chkOp0,Bool.and_eq_true]at hc;split at e
   ·rename_i vs hvs;exact fin (ame_sound H hc.1 (opds_sound hO _ _ _ hc.2 hvs) e)
   ·cases e
  ·simp only[chkOp0,Bool.and_eq_true]at hc;split at e
   ·rename_i v bs hvs;split at e
    ·rename_i u hu;cases e;exact fin (aslu_sound H hc.1 (opds_sound hO _ _ _ hc.2 hvs) hu)
    ·cases e
   ·cases e
  ·simp only[chkOp0,Bool.and_eq_true]at hc;split at e
   ·rename_i vs hvs;exact fin (aux_sound H (fun _=>rfl) hc.1 (opds_sound hO _ _ _ hc.2 hvs) e)
   ·cases e
  ·rename_i tab x xs;simp only[chkOp0]at hc;split at hc
   ·rename_i y name args ts hy;simp only[Bool.and_eq_true]at hc;split at e
    ·rename_i t u hx;split at e
     ·rename_i vs hvs;split at e
      ·rename_i f hf;cases hlt:Nat.blt f YB
       ·rw[hlt]at e;cases e
       ·rw[hlt]at e;simp only[cond_true]at e;have hmem:∃r∈tab,r.1=t∧r.2=f:=by
          clear hc
          revert hf
          induction tab with
          |nil=>intro hf;cases hf
          |cons r l ih=>
            intro hf;obtain⟨a,b⟩:=r;unfold tabF at hf;cases hab:Nat.beq a t
            ·rw[hab]at hf;obtain⟨r,h1,h2⟩:=ih hf;exact⟨r,by simp[h1],h2⟩
            ·rw[hab]at hf;simp only[cond_true,Option.some.injEq]at hf;exact⟨(a,b),by simp,Nat.eq_of_beq_eq_true hab,hf⟩
        obtain⟨r,hr1,rfl,rfl⟩:=hmem;have hme:=List.all_eq_true.1 hc.2 r hr1;simp only[Bool.and_eq_true]at hme;have hv:=opds_sound hO _ _ _ hc.1.2 hvs;obtain⟨u',hu',ru⟩:=hO _ _ _ hc.1.1 hx;obtain⟨hf2,hcl⟩:=(hcall r.2 _ h v h' e).1 ((Nat.blt_eq ..).mp hlt);have hrun:(execOp a.eval o).run P w=.ok (.enter r.2 (List.toArray (u'::args.toList.map a.eval))) w:=by
          have q:args.map a.eval=List.toArray (args.toList.map a.eval):=Array.ext' (by simp);simp only[execOp,hy,resolve,hu',Sem.run_bind,Sem.run_pure,Result.andThen_ok,invoke];have q0: #[Value.iface r.1 u']++args.map a.eval=List.toArray (.iface r.1 u'::args.toList.map a.eval):=Array.ext' (by simp);have q2:(List.toArray (Value.iface r.1 u'::args.toList.map a.eval))[0]? =some (.iface r.1 u'):=rfl;have q3:(List.toArray (Value.iface r.1 u'::args.toList.map a.eval)).extract 1 (List.toArray (Value.iface r.1 u'::args.toList.map a.eval)).size=List.toArray (args.toList.map a.eval):=Array.ext' (by simp;exact List.take_of_length_le (by simp));rw[q0,q2];simp only[];rw[q3,run_meth hme.2];rw[show(#[u']++List.toArray (args.toList.map a.eval))=List.toArray (u'::args.toList.map a.eval)from Array.ext' (by simp)];exact run_callFunc hf2
        exact entered hrun (hcl m w _ ⟨_,_,rfl,ru,hv⟩ H hG).1
      ·cases e
     ·cases e
    ·cases e
   ·cases hc
  ·cases e
variable {K : LG → Prop}
theorem look_bump(σ:Sg)(t:Nat):look (bump σ) t=(look σ t).map bumpS:=by
  induction σ with
  |nil=>rfl
  |cons p r ih=>
    obtain⟨d,s⟩:=p;simp only[bump,look];by_cases h:d=t
    ·rw[if_pos h,if_pos h];rfl
    ·rw[if_neg h,if_neg h];exact ih
theorem look_unset(d:Nat)(σ:Sg)(t:Nat):look (unset d σ) t=(look σ t).map (unsetS d t):=by
  induction σ with
  |nil=>rfl
  |cons p r ih=>
    obtain⟨e,s⟩:=p;simp only[unset,look];by_cases h:e=t
    ·subst h;rw[if_pos rfl,if_pos rfl];rfl
    ·rw[if_neg h,if_neg h];exact ih
theorem put_getD(a:Act)(d:Nat)(x:Value)(t:Nat)(hd:d<a.tmps.size):(a.put (some d) x).tmps.getD t undef=if t=d then x else a.tmps.getD t undef:=by
  simp only[Act.put,Array.getD_eq_getD_getElem?];by_cases h:t=d
  ·subst h;rw[if_pos rfl];simp[hd]
  ·rw[if_neg h,Array.getElem?_setIfInBounds_ne (by omega)]
theorem put_size(a:Act)(d:Option Nat)(x:Value):(a.put d x).tmps.size=a.tmps.size:=by
  cases d<;>simp[Act.put]
theorem evO_bump{G:Nat}{s:Src}{y:Opd}{loc:List V}{env:T V}{u v:V}(h:srcOK G (bumpS s) y=true)(e:evO (u::loc) env y=some v):
    ∃y',srcOK G s y'=true∧evO loc env y'=some v:=by
  cases s with
  |l k=>
    simp only[bumpS]at h;cases y with
    |l j=>
      simp only[srcOK]at h;have:=Nat.eq_of_beq_eq_true h;subst this;exact⟨.l k,by simp[srcOK],e⟩
    |_=>simp[srcOK]at h
  |v s=>
    refine⟨y,h,?_⟩;simp only[bumpS]at h;cases y<;>simp[srcOK]at h;exact e
  |x o=>
    refine⟨y,h,?_⟩;simp only[bumpS,srcOK]at h;cases y with
    |l k=>cases o<;>simp[conOK]at h
    |v s=>cases o<;>simp[conOK]at h
    |c x=>exact e
    |g n=>exact e
  |bad=>simp[bumpS,srcOK]at h
theorem evO_unset{G:Nat}{d t:Nat}{s:Src}{y:Opd}{loc:List V}{env:T V}{u v:V}(h:srcOK G (unsetS d t s) y=true)(e:evO loc (env.set d u) y=some v):
    t≠d∧srcOK G s y=true∧evO loc env y=some v:=by
  cases s with
  |l k=>
    simp only[unsetS]at h;by_cases c:t=d
    ·rw[if_pos c]at h;simp[srcOK]at h
    ·rw[if_neg c]at h;refine⟨c,h,?_⟩;cases y<;>simp[srcOK]at h;exact e
  |v s=>
    simp only[unsetS]at h;by_cases c:t=d∨s=d
    ·rw[if_pos c]at h;simp[srcOK]at h
    ·rw[if_neg c]at h;refine⟨fun q=>c (.inl q),h,?_⟩;cases y<;>simp[srcOK]at h;subst h;show env.get s=some v;rw[←T.get_set_ne env u (fun q=>c (.inr q))];exact e
  |x o=>
    simp only[unsetS]at h;by_cases c:t=d
    ·rw[if_pos c]at h;simp[srcOK]at h
    ·rw[if_neg c]at h;refine⟨c,h,?_⟩;simp only[srcOK]at h;cases y with
     |l k=>cases o<;>simp[conOK]at h
     |v s=>cases o<;>simp[conOK]at h
     |c x=>exact e
     |g n=>exact e
  |bad=>
    simp only[unsetS]at h;by_cases c:t=d<;>simp[c,srcOK]at h
/-- the values and the variables behind a step -/
def nextL(loc:List V)(v:V):Option Nat→List V
  |none=>v::loc
  |some _=>loc
noncomputable def nextE(env:T V)(v:V):Option Nat→T V
  |none=>env
  |some d=>env.set d v
theorem after_sound{C:Cx}{m m':M}(hle:Le m m'){loc:List V}{env:T V}{a:Act}{σ:Sg}(hI:Inv C.G m loc env a σ)(hE:ERel C m env a){d s:Option Nat}(hd:dstOK C d s=true)
    {v:V} {x:Value} (r:VRel m' v x):Inv C.G m' (nextL loc v s) (nextE env v s) (a.put d x) (after σ d s)∧ERel C m' (nextE env v s) (a.put d x):=by
  have bumpI:∀t s',look (bump σ) t=some s'→∀y u,srcOK C.G s' y=true→evO (v::loc) env y=some u→VRel m' u (a.tmps.getD t undef):=by
    intro t s' hs y u hy he;rw[look_bump]at hs;cases hl:look σ t with
    |none=>rw[hl]at hs;cases hs
    |some s0=>
      rw[hl]at hs;cases hs;obtain⟨y',h1,h2⟩:=evO_bump hy he;exact VRel.mono hle _ _ (hI t s0 hl y' u h1 h2)
  unfold dstOK at hd;split at hd
  ·refine⟨bumpI,hE.1,fun s u hs=>(hE.2.1 s u hs).imp id fun q=>⟨q.1,VRel.mono hle _ _ q.2⟩,hE.2.2⟩
  ·rename_i d;simp only[Bool.and_eq_true,Bool.not_eq_true',Nat.blt_eq]at hd;have hlt:d<a.tmps.size:=by rw[hE.1];exact hd.2
   refine⟨?_,by rw[put_size];exact hE.1,fun s u hs=>?_,hE.2.2⟩
   ·intro t s' hs y u hy he;simp only[after,look]at hs;rw[put_getD a d x t hlt];by_cases c:d=t
    ·rw[if_pos c]at hs;cases hs;rw[if_pos c.symm];cases y<;>simp[srcOK]at hy;subst hy;cases he;exact r
    ·rw[if_neg c]at hs;rw[if_neg (Ne.symm c)];exact bumpI t s' hs y u hy he
   ·rcases hE.2.1 s u hs with q|⟨h1,h2⟩
    ·exact .inl q
    refine .inr ⟨h1,?_⟩;rw[put_getD a d x s hlt,if_neg (by intro q;subst q;rw[h1]at hd;simp at hd)];exact VRel.mono hle _ _ h2
  ·rename_i d e;simp only[Bool.and_eq_true,Nat.blt_eq]at hd;have:=Nat.eq_of_beq_eq_true hd.1.1;subst this;have hlt:d<a.tmps.size:=by rw[hE.1];exact hd.2
   refine⟨?_,by rw[put_size];exact hE.1,fun s u hs=>?_,hE.2.2⟩
   ·intro t s' hs y u hy he;simp only[after]at hs;rw[look_unset]at hs;cases hl:look σ t with
    |none=>rw[hl]at hs;cases hs
    |some s0=>
      rw[hl]at hs;cases hs;obtain⟨hne,h1,h2⟩:=evO_unset hy he;rw[put_getD a d x t hlt,if_neg hne];exact VRel.mono hle _ _ (hI t s0 hl y u h1 h2)
   ·simp only[nextE]at hs;rw[T.get_set]at hs;rw[put_getD a d x s hlt];by_cases c:s=d
    ·rw[if_pos c]at hs;cases hs;rw[if_pos c];subst c;exact .inr ⟨hd.1.2,r⟩
    ·rw[if_neg c]at hs;rw[if_neg c];exact(hE.2.1 s u hs).imp id fun q=>⟨q.1,VRel.mono hle _ _ q.2⟩
  ·cases hd
theorem guard_sound{C:Cx}{m:M}{loc:List V}{env:T V}{a:Act}{σ:Sg}{ops:Array Oper}(hG:Glob K C.G m)(hI:Inv C.G m loc env a σ)(hE:ERel C m env a){o:Oper}{s:Option (Opd×Bool)}
    (hc:chkG C σ ops o.guard s=true) {b:Bool} (e:evG loc env s=some b):Region.wanted o (yielded ops a.tmps)=b:=by
  unfold Region.wanted;unfold chkG at hc;split at hc
  ·rename_i hg;rw[hg];cases e;rfl
  ·rename_i j want x want' hg;rw[hg];simp only[Bool.and_eq_true,beq_iff_eq]at hc;obtain⟨rfl,hc⟩:=hc;split at hc
   ·rename_i d hd;simp only[Bool.and_eq_true,Nat.blt_eq]at hc;unfold evG at e;simp only[]at e;split at e
    ·rename_i c hx;cases e;have hr:=opd_sound hG hI hE hc.2 hx;simp only[VRel,Act.eval]at hr;have hlt:d<a.tmps.size:=by rw[hE.1];exact hc.1
     have:a.tmps[d]? =some (.bool c):=by
       rw[Array.getD_eq_getD_getElem?,Array.getElem?_eq_getElem hlt]at hr;rw[Array.getElem?_eq_getElem hlt];simpa using hr
     simp only[yielded,hd,Option.bind_some,this];cases c<;>cases want<;>rfl
    ·rename_i c hx;cases e;have hr:=opd_sound hG hI hE hc.2 hx;simp only[VRel,Act.eval]at hr;obtain⟨c',hr,_⟩:=hr;have hlt:d<a.tmps.size:=by rw[hE.1];exact hc.1
     have:a.tmps[d]? =some (.tuple c'.toArray):=by
       rw[Array.getD_eq_getD_getElem?,Array.getElem?_eq_getElem hlt]at hr;rw[Array.getElem?_eq_getElem hlt];simpa using hr
     simp only[yielded,hd,Option.bind_some,this];cases want<;>rfl
    ·cases e
   ·cases hc
  ·cases hc
theorem alias_sound{C:Cx}{m:M}{loc:List V}{env:T V}{a:Act}{σ:Sg}{ops:Array Oper}(hG:Glob K C.G m)(hI:Inv C.G m loc env a σ)(hE:ERel C m env a){o:Oper}{p:Nat×Src}
    (h:aliasOf C σ ops o=some p):∃x,o.op=.move x∧o.guard=none∧o.dst=some p.1∧Inv C.G m loc env (a.put o.dst (a.eval x)) (p::σ)∧ERel C m env (a.put o.dst (a.eval x)):=by
  unfold aliasOf at h;split at h
  ·rename_i x d hop hgd hds;split at h
   ·rename_i hcd;simp only[Bool.and_eq_true,Bool.not_eq_true',Nat.blt_eq]at hcd;have hlt:d<a.tmps.size:=by rw[hE.1];exact hcd.2
    have hE':ERel C m env (a.put (some d) (a.eval x)):=by
      refine⟨by rw[put_size];exact hE.1,fun s u hs=>?_,hE.2.2⟩;rcases hE.2.1 s u hs with q|⟨h1,h2⟩
      ·exact .inl q
      refine .inr ⟨h1,?_⟩;rw[put_getD a d _ s hlt,if_neg (by intro q;subst q;rw[h1]at hcd;simp at hcd)];exact h2
    have hI':∀s0:Src,(∀y v,srcOK C.G s0 y=true→evO loc env y=some v→VRel m v (a.eval x))→Inv C.G m loc env (a.put (some d) (a.eval x)) ((d,s0)::σ):=by
      intro s0 hs0 t s' hs y u hy he;simp only[look]at hs;rw[put_getD a d _ t hlt];by_cases c:d=t
      ·rw[if_pos c]at hs;cases hs;rw[if_pos c.symm];exact hs0 y u hy he
      ·rw[if_neg c]at hs;rw[if_neg (Ne.symm c)];exact hI t s' hs y u hy he
    split at h
    ·rename_i t;split at h
     ·rename_i s hl;split at h
      ·cases h
      ·cases h;exact⟨_,hop,hgd,hds,by rw[hds];exact hI' _ (fun y v hy he=>hI t _ hl y v hy he),by rw[hds];exact hE'⟩
     ·rename_i s hl;cases h;exact⟨_,hop,hgd,hds,by rw[hds];exact hI' _ (fun y v hy he=>hI t _ hl y v hy he),by rw[hds];exact hE'⟩
     ·rename_i hl;split at h
      ·cases h;have key:∀y v,srcOK C.G (.v t) y=true→evO loc env y=some v→VRel m v (a.eval (.tmp t)):=by
         intro y v hy he;cases y<;>simp[srcOK]at hy;subst hy;rename_i hcc;simp only[Bool.and_eq_true]at hcc;exact hE.var hcc.1 he
       exact⟨_,hop,hgd,hds,by rw[hds];exact hI' _ key,by rw[hds];exact hE'⟩
      ·cases h
    ·cases h;exact⟨_,hop,hgd,hds,by rw[hds];exact hI' _ (fun y v hy he=>con_sound hG hy he),by rw[hds];exact hE'⟩
   ·cases h
  ·cases h
theorem put_defers(a:Act)(d:Option Nat)(x:Value):(a.put d x).defers=a.defers:=by cases d<;>rfl
theorem evSteps_cons(call:CallF)(s:IStep)(l:List IStep)(loc:List V)(env:T V)(h:Heap):evSteps call (s::l) loc env h=
    match evG loc env s.gd with
      |some true=>(match evOp call loc env h s.op with
        |some (v,h)=>evSteps call l (nextL loc v s.dst) (nextE env v s.dst) h
        |none=>.fail)
      |some false=>evSteps call l (nextL loc (.tup []) s.dst) (nextE env (.tup []) s.dst) h
      |none=>.fail:=by
  show(match evG loc env s.gd with
      |some true=>(match evOp call loc env h s.op with
        |some (v,h)=>fV v fun v=>(match s.dst with
          |none=>evSteps call l (v::loc) env h
          |some d=>evSteps call l loc (env.set d v) h)
        |none=>.fail)
      |some false=>(match s.dst with
        |none=>evSteps call l (.tup []::loc) env h
        |some d=>evSteps call l loc (env.set d (.tup [])) h)
      |none=>.fail)=_
  cases evG loc env s.gd with
  |none=>rfl
  |some b=>
    cases b
    ·cases s.dst<;>rfl
    ·simp only[];cases evOp call loc env h s.op with
     |none=>rfl
     |some p=>
       obtain⟨v,h'⟩:=p;simp only[fV_eq];cases s.dst<;>rfl
/-- a deferred call -/
def DefR(m:M)(v:V)(d:Deferred):Prop:=∃f first caps args A C',v=.tup (.func (.func f) first caps::args)∧f<YB∧
  d={target:=.fn (.func f) (List.toArray C'),args:=List.toArray A}∧VsRel m (first++args) A∧VsRel m caps C'
/-- deferred calls: marks, and what the list tells -/
def DsL(B:Nat)(m:M)(w:World):List Deferred→List V→Prop
  |[],vs=>vs=[]
  |d::ds,vs=>((∃r,d={target:=.collected r,args:= #[]}∧B≤r∧w.heap[r]? =some (.deferred (some []))∧Off m r∧∀d'∈ds,d'.target≠.collected r)∧DsL B m w ds vs)∨
      ∃v vs',vs=v::vs'∧DefR m v d∧DsL B m w ds vs'
/-- the deferred calls of a function -/
def DsR(C:Cx)(B:Nat)(m:M)(w:World)(env:T V)(ds:List Deferred):Prop:=
  (C.df=true→∃l,dsL (env.get DSL)=some l∧DsL B m w ds l)∧(C.df=false→DsL B m w ds [])
theorem DefR.mono{m m':M}(l:Le m m'){v:V}{d:Deferred}:DefR m v d→DefR m' v d
  |⟨f,first,caps,args,A,C',h1,h2,h3,h4,h5⟩=>⟨f,first,caps,args,A,C',h1,h2,h3,VsRel.mono l _ _ h4,VsRel.mono l _ _ h5⟩
theorem DsL.ext{B:Nat}{m m':M}{h h':Heap}{w w':World}(E:Ext m h w m' h' w'):∀{ds:List Deferred}{vs:List V},DsL B m w ds vs→DsL B m' w' ds vs
  |[],_,e=>e
  |_::_,_,.inl ⟨⟨r,h1,h2,h3,h4,h5⟩,t⟩=>
    have hlt:=(Array.getElem?_eq_some_iff.1 h3).1
    .inl ⟨⟨r,h1,h2,(E.keep r h4 hlt).trans h3,h4.ext E hlt,h5⟩,DsL.ext E t⟩
  |_::_,_,.inr ⟨v,vs',e,d,t⟩=>.inr ⟨v,vs',e,d.mono E.le,DsL.ext E t⟩
theorem DsL.put{B:Nat}{m:M}{w:World}{r:Nat}{x:Obj}:∀{ds:List Deferred}{vs:List V},(∀d∈ds,d.target≠.collected r)→DsL B m w ds vs→DsL B m (w.putObj r x) ds vs
  |[],_,_,e=>e
  |d::ds,_,hn,.inl ⟨⟨r',h1,h2,h3,h4,h5⟩,t⟩=>
    .inl ⟨⟨r',h1,h2,(World.putObj_heap_other (fun e=>hn d (by simp) (by rw[h1,e]))).trans h3,h4,h5⟩,DsL.put (fun d' hd=>hn d' (by simp[hd])) t⟩
  |d::ds,_,hn,.inr ⟨v,vs',e,q,t⟩=>.inr ⟨v,vs',e,q,DsL.put (fun d' hd=>hn d' (by simp[hd])) t⟩
theorem DsR.ext{C:Cx}{B:Nat}{m m':M}{h h':Heap}{w w':World}(E:Ext m h w m' h' w'){env:T V}{ds:List Deferred}(D:DsR C B m w env ds):DsR C B m' w' env ds:=
  ⟨fun q=>let⟨l,a,b⟩:=D.1 q;⟨l,a,b.ext E⟩,fun q=>(D.2 q).ext E⟩
theorem DsR.congr{C:Cx}{B:Nat}{m:M}{w:World}{env env':T V}{ds:List Deferred}(e:env'.get DSL=env.get DSL)(D:DsR C B m w env ds):DsR C B m w env' ds:=
  ⟨fun q=>by rw[e];exact D.1 q,D.2⟩
theorem DsR.push{C:Cx}{B:Nat}{m:M}{w:World}{env:T V}{ds:List Deferred}(D:DsR C B m w env ds){r:Nat}(h1:B≤r)(h2:w.heap[r]? =some (.deferred (some [])))(h3:Off m r)(h4:∀d∈ds,d.target≠.collected r):
    DsR C B m w env ({target:=.collected r,args:= #[]}::ds):=
  ⟨fun q=>let⟨l,a,b⟩:=D.1 q;⟨l,a,.inl ⟨⟨r,rfl,h1,h2,h3,h4⟩,b⟩⟩,fun q=>.inl ⟨⟨r,rfl,h1,h2,h3,h4⟩,D.2 q⟩⟩
theorem df_notin{C:Cx}{m:M}{env:T V}{a:Act}(hE:ERel C m env a){d s:Option Nat}(hd:dstOK C d s=true)(v:V):(nextE env v s).get DSL=env.get DSL:=by
  cases s with
  |none=>rfl
  |some t=>
    cases d with
    |none=>cases hd
    |some d=>
      simp only[dstOK,Bool.and_eq_true]at hd;have:=Nat.eq_of_beq_eq_true hd.1.1;subst this;simp only[nextE];rw[T.get_set_ne];intro q;rw[←q,hE.2.2]at hd;simp at hd
theorem steps_sound{P:Program}{C:Cx}{call:CallF}(hcall:CallsOK P K C.G call){ops:Array Oper}{Q:Exit→Act→World→Prop}{ro:Option Nat}{B:Nat}(hro:C.df=true→ro=none):
    ∀(os:List Oper)(i:Nat)(steps:List IStep)(σ:Sg)(loc:List V)(env:T V)(h:Heap)(m:M)(a:Act)(w:World)(ex:Ex)(env':T V)(h':Heap),
      ops.toList.drop i=os→chkSteps P C ops os steps σ=true→Glob K C.G m→Inv C.G m loc env a σ→ERel C m env a→HRel m h w→DsR C B m w env a.defers→
      evSteps call steps loc env h=.ok ex env' h'→
      (∀a' w' m',ex=.norm→ERel C m' env' a'→HRel m' h' w'→Ext m h w m' h' w'→DsR C B m' w' env' a'.defers→Q .normal a' w')→
      wpOpsIn (FR ro) 0 P ops Q (List.range' i os.length) a w:=by
  intro os;induction os with
  |nil=>
    intro i steps σ loc env h m a w ex env' h' hdrop hchk hG hI hE H hD e hQ;cases steps with
    |nil=>
      cases e;exact hQ a w m rfl hE H (Ext.refl _ _ _) hD
    |cons s l=>simp[chkSteps]at hchk
  |cons o os ih=>
    intro i steps σ loc env h m a w ex env' h' hdrop hchk hG hI hE H hD e hQ;have hoi:ops[i]? =some o:=by
      have:(ops.toList.drop i)[0]? =some o:=by rw[hdrop];rfl
      rw[List.getElem?_drop]at this;simpa using this
    have hdrop':ops.toList.drop (i+1)=os:=by
      rw[←List.drop_drop,hdrop];rfl
    simp only[List.length_cons,List.range'_succ];rw[wpOpsIn_cons];unfold wpOpIn;rw[hoi];simp only[];unfold chkSteps at hchk;split at hchk
    ·rename_i p hal;obtain⟨x,hop,hgd,hds,hI',hE'⟩:=alias_sound hG hI hE hal;have hw:Region.wanted o (yielded ops a.tmps)=true:=by unfold Region.wanted;rw[hgd]
     rw[if_pos hw];refine⟨fun _ _=>trivial,?_⟩;show o.uponIn (FR ro) 0 P a _ Q ((o.semAt ro a.eval).run P w);have hr:(o.semAt ro a.eval).run P w=.ok (.value (a.eval x)) w:=by
       rw[Oper.semAt_eq ro a.eval o (fun c hcc=>by rw[hop]at hcc;cases hcc)];simp[execOp,hop]
     rw[hr];exact ih (i+1) steps (p::σ) loc env h m _ w ex env' h' hdrop' hchk hG hI' hE' H (by rw[put_defers];exact hD) e hQ
    ·split at hchk
     ·cases hchk
     ·rename_i s rest;simp only[Bool.or_eq_true,Bool.and_eq_true]at hchk;rw[evSteps_cons]at e;rcases hchk with⟨⟨⟨hcg,hco⟩,hcd⟩,hrest⟩|⟨hcf,hrest⟩
      ·cases hg:evG loc env s.gd with
       |none=>rw[hg]at e;cases e
       |some b=>
         rw[hg]at e;have hw:=guard_sound hG hI hE hcg hg;cases b
         ·simp only[]at e;rw[if_neg (by rw[hw];simp)];refine⟨fun _ _=>trivial,?_⟩;obtain⟨hI',hE'⟩:=after_sound (fun _ _ x=>x) hI hE hcd (v:=.tup []) (x:=undef) ⟨[],rfl,rfl⟩;exact ih (i+1) rest _ _ _ h m _ w ex env' h' hdrop' hrest hG hI' hE' H (by rw[put_defers];exact hD.congr (df_notin hE hcd _)) e hQ
         ·simp only[]at e;rw[if_pos hw];cases hop:evOp call loc env h s.op with
          |none=>rw[hop]at e;cases e
          |some p=>
            obtain⟨v,h1⟩:=p;rw[hop]at e;simp only[]at e;refine op_sound hcall hG (fun o y v h1 h2=>opd_sound hG hI hE h1 h2) H hco hop (fun x w' m' r H' E'=>?_);obtain⟨hI',hE'⟩:=after_sound E'.le hI hE hcd r;exact ih (i+1) rest _ _ _ h1 m' _ w' ex env' h' hdrop' hrest (hG.ext E') hI' hE' H' (by rw[put_defers];exact(hD.ext E').congr (df_notin hE hcd _)) e
              (fun a' w'' m'' h1 h2 h3 h4 h5=>hQ a' w'' m'' h1 h2 h3 (E'.trans h4) h5)
      ·
       unfold chkDf at hcf;simp only[Bool.and_eq_true]at hcf;obtain⟨⟨⟨⟨hdf,hsd⟩,hod⟩,hgd⟩,hop⟩:=hcf;split at hop
       ·rename_i x xs hsop;split at hop
        ·rename_i y args ts hy;simp only[Bool.and_eq_true]at hop;split at hsd
         ·rename_i d hsd';have:=Nat.eq_of_beq_eq_true hsd;subst this;split at hod
          ·rename_i hod';split at hgd
           ·rename_i g1 g2;have hro':=hro hdf;subst hro';have hw:Region.wanted o (yielded ops a.tmps)=true:=by unfold Region.wanted;rw[g1]
            rw[if_pos hw];rw[g2,hsop]at e;simp only[evG,evOp]at e;split at e
            ·rename_i v h1 hev;split at hev
             ·rename_i f first caps hx
              split at hev
              ·rename_i vs hvs;split at hev
               ·rename_i l0 hl0;cases hlt:Nat.blt f YB
                ·rw[hlt]at hev;cases hev
                ·rw[hlt]at hev;simp only[cond_true,Option.some.injEq,Prod.mk.injEq]at hev;obtain⟨rfl,rfl⟩:=hev;have hO:OpdS C m σ loc env a:=fun o y v h1 h2=>opd_sound hG hI hE h1 h2;have hv:=opds_sound hO _ _ _ hop.2 hvs;obtain⟨f',c',hfe,rf,rc⟩:=hO _ _ _ hop.1 hx;refine⟨fun _ _=>trivial,?_⟩;show o.uponIn (FR none) 0 P a _ Q ((o.semAt none a.eval).run P w);have hr:(o.semAt none a.eval).run P w=.ok (.defer {target:=.fn (.func f) (List.toArray c'),args:=List.toArray (f'++args.toList.map a.eval)}) w:=by
                   have q:args.map a.eval=List.toArray (args.toList.map a.eval):=Array.ext' (by simp);rw[Oper.semAt_none];simp only[execOp,hy,resolve,hfe,Deferred.ofValue,Sem.run_bind,Sem.run_pure,Result.andThen_ok];rw[show(List.toArray f'++args.map a.eval)=List.toArray (f'++args.toList.map a.eval) by simp[q]]
                 rw[hr];show wpOpsIn (FR none) 0 P ops Q (List.range' (i+1) os.length) (Act.put _ o.dst undef) w;rw[hod',hsd']at *;have hI':Inv C.G m loc (env.set DSL (.agg (.tup (.func (.func f) first caps::vs)::l0))) {a with defers:={target:=.fn (.func f) (List.toArray c'),args:=List.toArray (f'++args.toList.map a.eval)}::a.defers} (bump0 σ):=by
                   intro t s' hs y u hy he;unfold bump0 at hs;rw[look_unset]at hs;cases hl:look σ t with
                   |none=>rw[hl]at hs;cases hs
                   |some s0=>
                     rw[hl]at hs;cases hs;obtain⟨hne,h1,h2⟩:=evO_unset hy he;exact hI t s0 hl y u h1 h2
                 have hE':ERel C m (env.set DSL (.agg (.tup (.func (.func f) first caps::vs)::l0))) {a with defers:={target:=.fn (.func f) (List.toArray c'),args:=List.toArray (f'++args.toList.map a.eval)}::a.defers}:=by
                   refine⟨hE.1,fun s u hs=>?_,hE.2.2⟩;rw[T.get_set]at hs;by_cases c:s=DSL
                   ·exact .inl c
                   ·rw[if_neg c]at hs;exact hE.2.1 s u hs
                 refine ih (i+1) rest (bump0 σ) loc _ h m _ w ex env' h' hdrop' hrest hG hI' hE' H ?_ e hQ;obtain⟨l1,hl1,D⟩:=hD.1 hdf;rw[hl0]at hl1;cases hl1;exact⟨fun _=>⟨_,by rw[T.get_set_self];rfl,.inr ⟨_,_,rfl,⟨f,first,caps,vs,_,c',rfl,(Nat.blt_eq ..).mp hlt,rfl,VsRel.append rf hv,rc⟩,D⟩⟩,fun q=>absurd (hdf.symm.trans q) (by simp)⟩
               ·cases hev
              ·cases hev
             ·cases hev
            ·cases e
           ·cases hgd
          ·cases hod
         ·cases hsd
        ·cases hop
       ·cases hop
/-- the run in the order of the text: each operation's value, and the heap behind each effect -/
def Canon(call:CallF)(env:T V):List DS→List V→Heap→List V→List Heap→Prop
  |[],_,_,vs,hp=>vs=[]∧hp=[]
  |s::l,loc,h,vs,hp=>∃v vs' h',vs=v::vs'∧
      (((∃c,s.2=some (v,c)∧lateOK loc env s.1.op v c=true)∧h'=h)∨(s.2=none∧evG loc env s.1.gd=some true∧evOp call loc env h s.1.op=some (v,h'))∨(s.2=none∧evG loc env s.1.gd=some false∧v=.tup []∧h'=h))∧
      ((effS s=true∧∃hp',hp=h'::hp'∧Canon call env l (v::loc) h' vs' hp')∨(effS s=false∧h'=h∧Canon call env l (v::loc) h vs' hp))
theorem evOp_same{call:CallF}{loc:List V}{env:T V}{h h':Heap}{o:IOp}{v:V}(he:eff o=false)(e:evOp call loc env h o=some (v,h')):h'=h:=by
  cases o<;>simp[eff]at he<;>simp only[evOp]at e;all_goals
    split at e
    ·split at e
     ·cases e;rfl
     ·cases e
    ·cases e
theorem evOp_pure{call:CallF}{loc:List V}{env:T V}{h h':Heap}{k:PK}{xs:List Opd}{v:V}(e:evOp call loc env h (.p k xs)=some (v,h'))(g:Heap):evOp call loc env g (.p k xs)=some (v,g):=by
  simp only[evOp]at e⊢;split at e
  ·rename_i vs hvs;split at e
   ·rename_i u hu;cases e;rfl
   ·cases e
  ·cases e
theorem evDr_cons(call:CallF)(env:T V)(s:DS)(l:List DS)(loc:List V)(hs:List Heap)(h:Heap):evDr call env (s::l) loc hs h=match s.2 with
      |some (u,c)=>bif lateOK loc env s.1.op u c then evDr call env l (u::loc) hs h else none
      |none=>(match evG loc env s.1.gd with
        |some true=>(match evOp call loc env h s.1.op with
          |some (v,h')=>fV v fun v=>bif eff s.1.op then evDr call env l (v::loc) (h'::hs) h' else evDr call env l (v::loc) hs h
          |none=>none)
        |some false=>bif eff s.1.op then evDr call env l (.tup []::loc) (h::hs) h else evDr call env l (.tup []::loc) hs h
        |none=>none):=rfl
theorem canon_of{call:CallF}{env:T V}:∀(l:List DS)(loc:List V)(hs:List Heap)(h:Heap)(locF:List V)(hsF:List Heap),evDr call env l loc hs h=some (locF,hsF)→
    ∃vs hp,Canon call env l loc h vs hp∧locF=vs.reverse++loc∧hsF=hp.reverse++hs
  |[],loc,hs,h,locF,hsF,e=>by cases e;exact⟨[],[],⟨rfl,rfl⟩,rfl,rfl⟩
  |(s,some (u,cs))::l,loc,hs,h,locF,hsF,e=>by
    rw[evDr_cons]at e;simp only[]at e;cases hl:lateOK loc env s.op u cs
    ·rw[hl]at e;cases e
    ·rw[hl]at e;simp only[cond_true]at e;obtain⟨vs,hp,c,rfl,rfl⟩:=canon_of l _ _ _ _ _ e;exact⟨u::vs,hp,⟨u,vs,h,rfl,.inl ⟨⟨cs,rfl,hl⟩,rfl⟩,.inr ⟨rfl,rfl,c⟩⟩,by simp,rfl⟩
  |(s,none)::l,loc,hs,h,locF,hsF,e=>by
    rw[evDr_cons]at e;simp only[]at e;cases hg:evG loc env s.gd with
    |none=>rw[hg]at e;cases e
    |some b=>
      rw[hg]at e;cases b
      ·simp only[]at e;cases he:eff s.op
       ·rw[he]at e;simp only[cond_false]at e;obtain⟨vs,hp,c,rfl,rfl⟩:=canon_of l _ _ _ _ _ e;exact⟨.tup []::vs,hp,⟨.tup [],vs,h,rfl,.inr (.inr ⟨rfl,hg,rfl,rfl⟩),.inr ⟨he,rfl,c⟩⟩,by simp,rfl⟩
       ·rw[he]at e;simp only[cond_true]at e;obtain⟨vs,hp,c,rfl,rfl⟩:=canon_of l _ _ _ _ _ e;exact⟨.tup []::vs,h::hp,⟨.tup [],vs,h,rfl,.inr (.inr ⟨rfl,hg,rfl,rfl⟩),.inl ⟨he,hp,rfl,c⟩⟩,by simp,by simp⟩
      ·simp only[]at e;cases ho:evOp call loc env h s.op with
       |none=>rw[ho]at e;cases e
       |some p=>
         obtain⟨v,h'⟩:=p;rw[ho]at e;simp only[fV_eq]at e;cases he:eff s.op
         ·rw[he]at e;simp only[cond_false]at e;obtain⟨vs,hp,c,rfl,rfl⟩:=canon_of l _ _ _ _ _ e;have:=evOp_same he ho;subst this;exact⟨v::vs,hp,⟨v,vs,h',rfl,.inr (.inl ⟨rfl,hg,ho⟩),.inr ⟨he,rfl,c⟩⟩,by simp,rfl⟩
         ·rw[he]at e;simp only[cond_true]at e;obtain⟨vs,hp,c,rfl,rfl⟩:=canon_of l _ _ _ _ _ e;exact⟨v::vs,h'::hp,⟨v,vs,h',rfl,.inr (.inl ⟨rfl,hg,ho⟩),.inl ⟨he,hp,rfl,c⟩⟩,by simp,by simp⟩
/-- how many effects stand ahead of a place -/
def effs(l:List DS)(i:Nat):Nat:=((l.take i).filter effS).length
theorem canon_at{call:CallF}{env:T V}:∀(l:List DS)(loc:List V)(h:Heap)(vs:List V)(hp:List Heap),Canon call env l loc h vs hp→
    vs.length=l.length∧hp.length=effs l l.length∧∀(i:Nat) s,l[i]? =some s→∃v hb ha,vs[i]? =some v∧(h::hp)[effs l i]? =some hb∧
      (((∃c,s.2=some (v,c)∧lateOK ((vs.take i).reverse++loc) env s.1.op v c=true)∧ha=hb)∨(s.2=none∧evG ((vs.take i).reverse++loc) env s.1.gd=some true∧evOp call ((vs.take i).reverse++loc) env hb s.1.op=some (v,ha))∨(s.2=none∧evG ((vs.take i).reverse++loc) env s.1.gd=some false∧v=.tup []∧ha=hb))∧
      (effS s=true→(h::hp)[effs l i+1]? =some ha)∧(effS s=false→ha=hb)
  |[],loc,h,vs,hp,c=>by
    obtain⟨rfl,rfl⟩:=c;refine⟨rfl,rfl,fun i s hi=>by simp at hi⟩
  |s::l,loc,h,vs,hp,c=>by
    obtain⟨v,vs',h',rfl,hv,hc⟩:=c;rcases hc with⟨he,hp',rfl,c⟩|⟨he,rfl,c⟩
    ·obtain⟨l1,l2,l3⟩:=canon_at l (v::loc) h' vs' hp' c;refine⟨by simp[l1],by simp[effs,he]at l2⊢;exact l2,fun i t hi=>?_⟩;cases i with
     |zero=>
       simp at hi;subst hi;refine⟨v,h,h',rfl,by simp[effs],by simpa using hv,fun _=>by simp[effs],fun q=>by rw[he]at q;cases q⟩
     |succ i=>
       obtain⟨u,hb,ha,a1,a2,a3,a4,a5⟩:=l3 i t (by simpa using hi);refine⟨u,hb,ha,by simpa using a1,?_,by simpa using a3,fun q=>?_,a5⟩
       ·simpa[effs,he]using a2
       ·simpa[effs,he]using a4 q
    ·obtain⟨l1,l2,l3⟩:=canon_at l (v::loc) h' vs' hp c;refine⟨by simp[l1],by simp[effs,he]at l2⊢;exact l2,fun i t hi=>?_⟩;cases i with
     |zero=>
       simp at hi;subst hi;refine⟨v,h',h',rfl,by simp[effs],by simpa using hv,fun q=>(by rw[he]at q;cases q),fun _=>rfl⟩
     |succ i=>
       obtain⟨u,hb,ha,a1,a2,a3,a4,a5⟩:=l3 i t (by simpa using hi);refine⟨u,hb,ha,by simpa using a1,?_,by simpa using a3,fun q=>?_,a5⟩
       ·simpa[effs,he]using a2
       ·simpa[effs,he]using a4 q
theorem lay_length{call:CallF}{env:T V}{late:List Nat}:∀(l:List IStep)(i:Nat)(loc:List V)(h:Heap)(r:List DS)(h':Heap),lay call env late l i loc h=some (r,h')→r.length=l.length
  |[],i,loc,h,r,h',e=>by simp only[lay,Option.some.injEq,Prod.mk.injEq]at e;obtain⟨rfl,_⟩:=e;rfl
  |s::l,i,loc,h,r,h',e=>by
    simp only[lay]at e;cases hc:late.contains i
    ·rw[hc]at e;simp only[cond_false]at e;split at e
     ·rename_i r' h2 h3;cases e;simp[lay_length l _ _ _ _ _ h3]
     ·cases e
    ·rw[hc]at e;simp only[cond_true]at e;split at e
     ·split at e
      ·rename_i r' h2 h3;cases e;simp[lay_length l _ _ _ _ _ h3]
      ·cases e
     ·cases e
theorem lid_lateV(id:Nat)(k:Option (Nat×Nat)):lid (lateV id k)=id:=by cases k<;>rfl
/-- at each place: the step itself; and of a late one its block -/
theorem lay_at{call:CallF}{env:T V}{late:List Nat}:∀(l:List IStep)(i:Nat)(loc:List V)(h:Heap)(r:List DS)(h':Heap),lay call env late l i loc h=some (r,h')→
    (∀(j:Nat) s,l[j]? =some s→(late.contains (i+j)=false∧r[j]? =some (s,none))∨
      (late.contains (i+j)=true∧∃u c,r[j]? =some (s,some (u,c))∧h.next≤lid u∧lid u<h'.next∧h'.bl.get (lid u)=some (.row c (lid u) 0)))∧
    (∀(j k:Nat) s t u v cu cv,j<k→r[j]? =some (s,some (u,cu))→r[k]? =some (t,some (v,cv))→lid u<lid v)∧(∀(j:Nat) s u cu,r[j]? =some (s,some (u,cu))→h.next≤lid u)∧
    h.next≤h'.next∧(∀p,p<h.next→h'.bl.get p=h.bl.get p)∧∀m w,HRel m h w→HRel m h' w
  |[],i,loc,h,r,h',e=>by
    simp only[lay,Option.some.injEq,Prod.mk.injEq]at e;obtain⟨rfl,rfl⟩:=e;exact⟨fun j s hj=>by simp at hj,fun j k s t u v _ _ _ hj=>by simp at hj,fun j s u _ hj=>by simp at hj,Nat.le_refl _,fun _ _=>rfl,fun _ _ H=>H⟩
  |s::l,i,loc,h,r,h',e=>by
    simp only[lay]at e;cases hc:late.contains i
    ·rw[hc]at e;simp only[cond_false]at e;split at e
     ·rename_i r' h2 h3;cases e;obtain⟨a3,a4,a5,a1,a2,a6⟩:=lay_at l _ _ _ _ _ h3;refine⟨fun j t hj=>?_,fun j k s' t u v cu cv hjk hj hk=>?_,fun j s' u cu hj=>?_,a1,a2,a6⟩
      ·cases j with
       |zero=>simp at hj;subst hj;exact .inl ⟨by simpa using hc,rfl⟩
       |succ j=>
         rcases a3 j t (by simpa using hj)with⟨b1,b2⟩|⟨b1,u,c,b2,b3⟩
         ·exact .inl ⟨by rw[show i+(j+1)=i+1+j by omega];exact b1,by simpa using b2⟩
         ·exact .inr ⟨by rw[show i+(j+1)=i+1+j by omega];exact b1,u,c,by simpa using b2,b3⟩
      ·cases j with
       |zero=>simp at hj
       |succ j=>cases k with
         |zero=>omega
         |succ k=>exact a4 j k s' t u v cu cv (by omega) (by simpa using hj) (by simpa using hk)
      ·cases j with
       |zero=>simp at hj
       |succ j=>exact a5 j s' u cu (by simpa using hj)
     ·cases e
    ·rw[hc]at e;simp only[cond_true]at e;split at e
     ·rename_i c kk hlc;split at e
      ·rename_i r' h2 h3;cases e;obtain⟨a3,a4,a5,a1,a2,a6⟩:=lay_at l _ _ _ _ _ h3;have hnx:(halloc h c).next=h.next+1:=rfl;rw[hnx]at a1 a2 a5;have hlid:=lid_lateV h.next kk;refine⟨fun j t hj=>?_,fun j k s' t u v cu cv hjk hj hk=>?_,fun j s' u cu hj=>?_,by omega,fun p hp=>?_,fun m w H=>a6 m w ?_⟩
       ·cases j with
        |zero=>
          simp at hj;subst hj;refine .inr ⟨by simpa using hc,lateV h.next kk,c,rfl,by omega,by omega,?_⟩;rw[hlid,a2 _ (by omega),halloc,T.get_set_self]
        |succ j=>
          rcases a3 j t (by simpa using hj)with⟨b1,b2⟩|⟨b1,u,c',b2,b5,b6,b7⟩
          ·exact .inl ⟨by rw[show i+(j+1)=i+1+j by omega];exact b1,by simpa using b2⟩
          ·rw[hnx]at b5;exact .inr ⟨by rw[show i+(j+1)=i+1+j by omega];exact b1,u,c',by simpa using b2,by omega,b6,b7⟩
       ·cases j with
        |zero=>
          simp at hj;obtain⟨rfl,rfl,rfl⟩:=hj;cases k with
          |zero=>omega
          |succ k=>have:=a5 k t v cv (by simpa using hk);rw[hlid];omega
        |succ j=>cases k with
          |zero=>omega
          |succ k=>exact a4 j k s' t u v cu cv (by omega) (by simpa using hj) (by simpa using hk)
       ·cases j with
        |zero=>simp at hj;obtain⟨rfl,rfl,rfl⟩:=hj;rw[hlid];exact Nat.le_refl _
        |succ j=>have:=a5 j s' u cu (by simpa using hj);omega
       ·rw[a2 p (by omega),halloc,T.get_set_ne _ _ (by omega)]
       ·have hold:∀p loc,m p=some loc→p≠h.next:=fun p loc hp q=>by subst q;rw[H.unmapped (Nat.le_refl _)]at hp;cases hp
        refine⟨⟨⟨?_,?_⟩,?_,H.inb,?_⟩,H.tg⟩
        ·intro p cp f k hp;show match h.fams.get f with|none=>f=p|some (_,e)=>k≤e
         rw[halloc,T.get_set]at hp;by_cases q:p=h.next
         ·rw[if_pos q]at hp;cases hp;rw[(H.wf.fresh h.next (Nat.le_refl _)).2];exact q.symm
         ·rw[if_neg q]at hp;exact H.wf.fam _ _ _ _ hp
        ·intro p hp;have hp':h.next+1≤p:=hp;refine⟨?_,(H.wf.fresh p (by omega)).2⟩;rw[halloc,T.get_set_ne _ _ (by omega)];exact(H.wf.fresh p (by omega)).1
        ·intro p loc hp;obtain⟨b,hb,rb⟩:=H.blk p loc hp;exact⟨b,by rw[halloc,T.get_set_ne _ _ (hold p loc hp)];exact hb,rb.mono (fun _ _ x=>x) (fun _ _ _ _ x=>x) rfl⟩
        ·intro p q lp lq hp hq he hne;obtain⟨cp,cq,f,kp,kq,b1,b2,b3⟩:=H.sep p q lp lq hp hq he hne;exact⟨cp,cq,f,kp,kq,by rw[halloc,T.get_set_ne _ _ (hold p lp hp)];exact b1,by rw[halloc,T.get_set_ne _ _ (hold q lq hq)];exact b2,b3⟩
      ·cases e
     ·cases e
/-- the steps, with the late ones marked -/
def markL(late:List Nat):List IStep→Nat→List DS
  |[],_=>[]
  |s::l,i=>(s,bif late.contains i then some (.nilp,[])else none)::markL late l (i+1)
theorem markL_effS{call:CallF}{env:T V}{late:List Nat}:∀(l:List IStep)(i:Nat)(loc:List V)(h:Heap)(r:List DS)(h':Heap),lay call env late l i loc h=some (r,h')→(markL late l i).map effS=r.map effS
  |[],i,loc,h,r,h',e=>by simp only[lay,Option.some.injEq,Prod.mk.injEq]at e;obtain⟨rfl,_⟩:=e;rfl
  |s::l,i,loc,h,r,h',e=>by
    simp only[lay]at e;cases hc:late.contains i
    ·rw[hc]at e;simp only[cond_false]at e;split at e
     ·rename_i r' h2 h3;cases e;simp only[markL,hc,cond_false,List.map_cons,markL_effS l _ _ _ _ _ h3]
     ·cases e
    ·rw[hc]at e;simp only[cond_true]at e;split at e
     ·split at e
      ·rename_i r' h2 h3;cases e;simp only[markL,hc,cond_true,List.map_cons,markL_effS l _ _ _ _ _ h3];rfl
      ·cases e
     ·cases e
def bef (B : List Nat) (i j : Nat) : Bool := Nat.testBit (B.getD i 0) j
/-- B tells, of each operation, some of those that come before it in every order -/
def chkB (ops : Array Oper) (B : List Nat) : Bool :=
  (List.range ops.size).all fun i => (List.range ops.size).all fun j => !bef B i j ||
    (match ops[i]? with
      | some o => o.after.toList.any fun e => Region.binds .any e && Nat.blt e.on i && (Nat.beq e.on j || bef B e.on j)
      | none => false)
/-- the edges lead back, in each mode by some numbering -/
def rankOK (md : Region.Mode) (ops : Array Oper) (R : Nat → Nat) : Bool :=
  (List.range ops.size).all fun i => match ops[i]? with
    | some o => o.after.toList.all fun e => !Region.binds md e || (Nat.blt (R e.on) (R i) && Nat.blt e.on ops.size)
    | none => false
def chkEdges (ops : Array Oper) (R : List Nat) : Bool := rankOK .any ops id && rankOK .text ops id && rankOK .gc ops (fun i => R.getD i 0)
/-- what the temporaries stand for at the i-th operation -/
def sigFrom (ops : Array Oper) (B : List Nat) (i : Nat) : List Nat → Sg
  | [] => []
  | j :: js => match (ops[j]?).bind (·.dst) with
    | some t => if bef B i j then (t, .l (i - 1 - j)) :: sigFrom ops B i js
                else if i = j ∨ bef B j i = true then sigFrom ops B i js
                else (t, .bad) :: sigFrom ops B i js
    | none => sigFrom ops B i js
def sig (ops : Array Oper) (B : List Nat) (i : Nat) : Sg := sigFrom ops B i (List.range ops.size)
def isLd : IOp → Bool
  | .ld _ _ _ => true
  | .lk _ _ _ _ => true
  | .b2s _ => true
  | _ => false
def effIx (l : List DS) : List Nat := (List.range l.length).filter fun i => match l[i]? with | some s => effS s | none => false
def readOK (l : List DS) (B : List Nat) (reads : List (Nat × Nat × Nat)) (i : Nat) : Bool :=
  reads.any fun (r : Nat × Nat × Nat) => Nat.beq r.1 i && Nat.ble r.2.1 ((effIx l).filter fun e => bef B i e).length && Nat.ble ((effIx l).length - ((effIx l).filter fun e => bef B e i).length) r.2.2
def dstsOK (C : Cx) (ops : Array Oper) (sets : List (Nat × Nat)) : Bool :=
  ((List.range ops.size).all fun i => match (ops[i]?).bind (·.dst) with
    | some t => Nat.blt t C.N && (!C.vars.contains t || sets.contains (t, i)) && (List.range ops.size).all (fun j => Nat.beq i j || (match (ops[j]?).bind (·.dst) with | some u => !Nat.beq t u | none => true))
    | none => true) &&
  sets.all fun (p : Nat × Nat) => Nat.blt p.2 ops.size && C.vars.contains p.1 && (match (ops[p.2]?).bind (·.dst) with | some t => Nat.beq t p.1 | none => false)
def chkD (P : Program) (C : Cx) (ops : Array Oper) (l : List IStep) (late B R : List Nat) (reads : List (Nat × Nat × Nat)) (sets : List (Nat × Nat)) : Bool :=
  Nat.beq ops.size l.length && chkEdges ops R && chkB ops B && dstsOK C ops sets &&
  ((List.range ops.size).all fun i => match ops[i]?, l[i]? with
    | some o, some s => chkG C (sig ops B i) ops o.guard s.gd && chkOp P C (sig ops B i) o s.op && (!isLd s.op || readOK (markL late l 0) B reads i) && (!late.contains i || o.guard.isNone)
    | _, _ => false) &&
  ((effIx (markL late l 0)).all fun i => (effIx (markL late l 0)).all fun j => !Nat.blt i j || bef B j i)
theorem range_all {n : Nat} {p : Nat → Bool} (h : (List.range n).all p = true) {i : Nat} (hi : i < n) : p i = true := List.all_eq_true.1 h i (by simpa using hi)
abbrev dn (L : Array Bool) (i : Nat) : Prop := L.getD i false = true
theorem bef_done {ops : Array Oper} {B : List Nat} (hB : chkB ops B = true) {L : Array Bool} (hcl : ∀ i o, ops[i]? = some o → dn L i → ∀ e ∈ o.after, Region.binds .any e = true → dn L e.on) :
    ∀ (i : Nat) o, ops[i]? = some o → (∀ e ∈ o.after, Region.binds .any e = true → dn L e.on) → ∀ j, bef B i j = true → j < ops.size → dn L j := by
  intro i
  induction i using Nat.strongRecOn with
  | _ i ih =>
    intro o ho hed j hb hj
    have hi : i < ops.size := (Array.getElem?_eq_some_iff.1 ho).1
    have h1 := range_all (range_all hB hi) hj
    simp only [hb, Bool.not_true, Bool.false_or, ho] at h1
    obtain ⟨e, he, h2⟩ := List.any_eq_true.1 h1
    simp only [Bool.and_eq_true, Nat.blt_eq, Bool.or_eq_true] at h2
    have hde := hed e (by simpa using he) h2.1.1
    rcases h2.2 with q | q
    · have := Nat.eq_of_beq_eq_true q; subst this; exact hde
    · have hle : e.on < ops.size := by have := h2.1.2; omega
      exact ih e.on h2.1.2 _ (Array.getElem?_eq_getElem hle) (hcl e.on _ (Array.getElem?_eq_getElem hle) hde) j q hj
theorem look_sig {ops : Array Oper} {B : List Nat} {i : Nat} : ∀ (js : List Nat) t s, look (sigFrom ops B i js) t = some s → ∃ j, j ∈ js ∧ (ops[j]?).bind (·.dst) = some t ∧ ((bef B i j = true ∧ s = .l (i - 1 - j)) ∨ s = .bad)
  | [], t, s, h => by simp [sigFrom, look] at h
  | j :: js, t, s, h => by
    simp only [sigFrom] at h
    split at h
    · rename_i u hu
      split at h
      · rename_i hb
        simp only [look] at h
        by_cases c : u = t
        · rw [if_pos c] at h; cases h; subst c
          exact ⟨j, by simp, hu, .inl ⟨hb, rfl⟩⟩
        · rw [if_neg c] at h
          obtain ⟨j', h1, h2⟩ := look_sig js t s h
          exact ⟨j', by simp [h1], h2⟩
      · split at h
        · obtain ⟨j', h1, h2⟩ := look_sig js t s h
          exact ⟨j', by simp [h1], h2⟩
        · simp only [look] at h
          by_cases c : u = t
          · rw [if_pos c] at h; cases h; subst c
            exact ⟨j, by simp, hu, .inr rfl⟩
          · rw [if_neg c] at h
            obtain ⟨j', h1, h2⟩ := look_sig js t s h
            exact ⟨j', by simp [h1], h2⟩
    · obtain ⟨j', h1, h2⟩ := look_sig js t s h
      exact ⟨j', by simp [h1], h2⟩
theorem look_sig_none {ops : Array Oper} {B : List Nat} {i : Nat} : ∀ (js : List Nat) t, look (sigFrom ops B i js) t = none → ∀ j ∈ js, (ops[j]?).bind (·.dst) = some t → bef B i j = false ∧ (i = j ∨ bef B j i = true)
  | [], t, h, j, hj, _ => by simp at hj
  | k :: js, t, h, j, hj, hd => by
    simp only [sigFrom] at h
    rcases List.mem_cons.1 hj with rfl | hj
    · rw [hd] at h
      simp only [] at h
      cases hb : bef B i j
      · simp only [hb, Bool.false_eq_true, if_false] at h
        by_cases c : i = j ∨ bef B j i = true
        · exact ⟨rfl, c⟩
        · rw [if_neg c] at h; simp [look] at h
      · simp [hb, look] at h
    · have : look (sigFrom ops B i js) t = none := by
        split at h
        · rename_i u hu
          split at h
          · simp only [look] at h
            by_cases c : u = t
            · rw [if_pos c] at h; cases h
            · rw [if_neg c] at h; exact h
          · split at h
            · exact h
            · simp only [look] at h
              by_cases c : u = t
              · rw [if_pos c] at h; cases h
              · rw [if_neg c] at h; exact h
        · exact h
      exact look_sig_none js t this j hj hd
noncomputable def cnt (l : List DS) (L : Array Bool) : Nat := ((effIx l).filter fun e => L.getD e false).length
theorem filter_le {α : Type} {p q : α → Bool} : ∀ (l : List α), (∀ x ∈ l, p x = true → q x = true) → (l.filter p).length ≤ (l.filter q).length
  | [], _ => by simp
  | x :: l, h => by
    have ih := filter_le l fun y hy => h y (by simp [hy])
    by_cases hp : p x = true
    · have hq := h x (by simp) hp
      simp [hp, hq]; exact ih
    · by_cases hq : q x = true
      · simp [hp, hq]; omega
      · simp [hp, hq]; exact ih
theorem filter_split {α : Type} {p q : α → Bool} : ∀ (l : List α), (∀ x ∈ l, p x = true → q x = false) → (l.filter p).length + (l.filter q).length ≤ l.length
  | [], _ => by simp
  | x :: l, h => by
    have ih := filter_split l fun y hy => h y (by simp [hy])
    by_cases hp : p x = true
    · have hq := h x (by simp) hp
      simp [hp, hq]; omega
    · by_cases hq : q x = true
      · simp [hp, hq]; omega
      · simp [hp, hq]; omega
theorem effIx_mem {l : List DS} {i : Nat} : i ∈ effIx l ↔ ∃ s, l[i]? = some s ∧ effS s = true := by
  unfold effIx
  rw [List.mem_filter]
  constructor
  · rintro ⟨_, h⟩
    split at h
    · rename_i s hs; exact ⟨s, hs, h⟩
    · cases h
  · rintro ⟨s, hs, he⟩
    have := (List.getElem?_eq_some_iff.1 hs).1
    exact ⟨by simpa using this, by rw [hs]; exact he⟩
theorem effIx_of {l : List DS} {a : Nat} (h : (match l[a]? with | some s => effS s | none => false) = true) : a ∈ effIx l := by
  rw [effIx_mem]
  split at h
  · rename_i s hs; exact ⟨s, hs, h⟩
  · cases h
theorem effIx_take (l : List DS) : ∀ i, i ≤ l.length → effs l i = ((List.range i).filter fun j => match l[j]? with | some s => effS s | none => false).length := by
  intro i
  induction i with
  | zero => intro _; simp [effs]
  | succ i ih =>
    intro hi
    have hlt : i < l.length := by omega
    rw [List.range_succ, List.filter_append, List.length_append, ← ih (by omega)]
    unfold effs
    rw [List.take_succ_eq_append_getElem hlt, List.filter_append, List.length_append]
    congr 1
    simp [List.filter_cons, hlt]
    split <;> simp
/-- all effects ahead of i, and no other, are done -/
theorem cnt_eq {l : List DS} {L : Array Bool} {i : Nat} (hi : i ≤ l.length) (h1 : ∀ e ∈ effIx l, e < i → dn L e) (h2 : ∀ e ∈ effIx l, i ≤ e → ¬ dn L e) : cnt l L = effs l i := by
  rw [effIx_take l i (by omega)]
  unfold cnt effIx
  rw [List.filter_filter]
  have : ∀ n, i ≤ n → n ≤ l.length → ((List.range n).filter fun a => L.getD a false && (match l[a]? with | some s => effS s | none => false)).length = ((List.range i).filter fun j => match l[j]? with | some s => effS s | none => false).length := by
    intro n hn
    induction n with
    | zero => intro _; have : i = 0 := by omega
              subst this; rfl
    | succ n ih =>
      intro hnl
      by_cases c : i = n + 1
      · subst c
        congr 1
        apply List.filter_congr
        intro a ha
        have ha' : a < n + 1 := by simpa using ha
        cases hm : (match l[a]? with | some s => effS s | none => false)
        · simp
        · have : dn L a := h1 a (effIx_of hm) ha'
          rw [this]; rfl
      · rw [List.range_succ, List.filter_append, List.length_append, ih (by omega) (by omega)]
        have : ((List.filter (fun a => L.getD a false && (match l[a]? with | some s => effS s | none => false)) [n]).length = 0) := by
          simp only [List.filter_cons, List.filter_nil]
          cases hm : (match l[n]? with | some s => effS s | none => false)
          · simp
          · have : ¬ dn L n := h2 n (effIx_of hm) (by omega)
            have : L.getD n false = false := by simpa [dn] using this
            rw [this]; rfl
        omega
  exact this l.length (by omega) (Nat.le_refl _)
theorem effIx_map {l r : List DS} (h : l.map effS = r.map effS) : effIx l = effIx r := by
  have hl : l.length = r.length := by have := congrArg List.length h; simpa using this
  unfold effIx
  rw [hl]
  apply List.filter_congr
  intro i _
  have : (l.map effS)[i]? = (r.map effS)[i]? := by rw [h]
  rw [List.getElem?_map, List.getElem?_map] at this
  cases h1 : l[i]? <;> cases h2 : r[i]? <;> simp_all
variable {K : LG → Prop}
theorem effs_succ{l:List DS}{i:Nat}{s:DS}(hs:l[i]? =some s)(he:effS s=true):effs l (i+1)=effs l i+1:=by
  have hlt:=(List.getElem?_eq_some_iff.1 hs).1;have hg:l[i]=s:=by rw[List.getElem?_eq_getElem hlt]at hs;cases hs;rfl
  unfold effs;rw[List.take_succ_eq_append_getElem hlt,List.filter_append,List.length_append,hg];simp[he]
theorem cnt_set_ne{l:List DS}{L:Array Bool}{i:Nat}(h:i∉effIx l):cnt l (L.setIfInBounds i true)=cnt l L:=by
  unfold cnt;congr 1;apply List.filter_congr;intro e he;exact getD_set_ne false (fun q=>h (q▸he))
theorem dn_set{L:Array Bool}{i j:Nat}(hi:i<L.size):dn (L.setIfInBounds i true) j↔j=i∨dn L j:=by
  by_cases c:i=j
  ·subst c;simp[dn,hi]
  ·unfold dn;rw[getD_set_ne false c];constructor
   ·exact fun h=>.inr h
   ·rintro(h|h)
    ·exact absurd h.symm c
    ·exact h
theorem loc_get{vals:List V}{i j:Nat}(hi:i≤vals.length)(hj:j<i):((vals.take i).reverse++[])[i-1-j]? =vals[j]? :=by
  have hl:(vals.take i).length=i:=by simp;omega
  rw[List.append_nil,List.getElem?_reverse (by omega),hl,List.getElem?_take,if_pos (by omega)];congr 1;omega
theorem setsE_get{n:Nat}{loc:List V}:∀(sets:List (Nat×Nat))(env env':T V),setsE n loc sets env=some env'→∀s v,env'.get s=some v→
    (∃i,(s,i)∈sets∧loc[n-i-1]? =some v)∨((∀i,(s,i)∉sets)∧env.get s=some v)
  |[],env,env',e,s,v,h=>by cases e;exact .inr ⟨by simp,h⟩
  |(t,i)::r,env,env',e,s,v,h=>by
    simp only[setsE]at e;split at e
    ·rename_i u hu;rcases setsE_get r _ _ e s v h with⟨j,hj,hv⟩|⟨hn,hv⟩
     ·exact .inl ⟨j,by simp[hj],hv⟩
     ·rw[T.get_set]at hv;by_cases c:s=t
      ·subst c;rw[if_pos rfl]at hv;cases hv;exact .inl ⟨i,by simp,hu⟩
      ·rw[if_neg c]at hv;exact .inr ⟨fun j hj=>by
         rcases List.mem_cons.1 hj with q|q
         ·cases q;exact c rfl
         ·exact hn j q,hv⟩
    ·cases e
theorem rdAll_get{call:CallF}{loc:List V}{env:T V}{o:IOp}{v:V}:∀(hs:List Heap),rdAll call loc env o v hs=true→∀g∈hs,∃g',evOp call loc env g o=some (v,g')
  |[],_,g,hg=>by simp at hg
  |h::hs,hr,g,hg=>by
    simp only[rdAll,Bool.and_eq_true]at hr;rcases List.mem_cons.1 hg with rfl|hg
    ·obtain⟨h1,_⟩:=hr;split at h1
     ·rename_i u g' hu;have:=vEq_eq _ _ h1;subst this;exact⟨g',hu⟩
     ·cases h1
    ·exact rdAll_get hs hr.2 g hg
section
variable {P : Program} {C : Cx} {call : CallF} {ops : Array Oper} {l : List DS} {B : List Nat} {reads : List (Nat × Nat × Nat)} {sets : List (Nat × Nat)}
structure DI(C:Cx)(ops:Array Oper)(l:List DS)(env:T V)(vals:List V)(Hs:List Heap)(m0:M)(h:Heap)(w0:World)(a0:Act)(L:Array Bool)(a:Act)(w:World)(m:M)(hk:Heap):Prop where
  lsz:L.size=ops.size
  closed:∀i o,ops[i]? =some o→dn L i→∀e∈o.after,Region.binds .any e=true→dn L e.on
  size:a.tmps.size=C.N
  defers:a.defers=a0.defers
  old:∀t,(∀i,dn L i→(ops[i]?).bind (·.dst)≠some t)→a.tmps.getD t undef=a0.tmps.getD t undef
  at_:Hs[cnt l L]? =some hk
  rel:HRel m hk w
  ext:Ext m0 h w0 m hk w
  vals:∀i v t,dn L i→vals[i]? =some v→(ops[i]?).bind (·.dst)=some t→VRel m v (a.tmps.getD t undef)
  unm:∀(i:Nat) s u c,l[i]? =some (s,some (u,c))→¬dn L i→m (lid u)=none∧hk.bl.get (lid u)=some (.row c (lid u) 0)∧lid u<hk.next
theorem DI.next{env:T V}{vals:List V}{Hs:List Heap}{m0 m m':M}{h hk hk':Heap}{w0 w w':World}{a0 a:Act}{L:Array Bool}(D:DI C ops l env vals Hs m0 h w0 a0 L a w m hk)
    (hds:dstsOK C ops sets=true) {i:Nat} {o:Oper} (ho:ops[i]? =some o) (hni:¬dn L i) (hed:∀e∈o.after,Region.binds .any e=true→dn L e.on) {v:V} {x:Value} (hv:vals[i]? =some v) (r:VRel m' v x)
    (H':HRel m' hk' w') (hle:Le m m') (E0:Ext m0 h w0 m' hk' w') (hat:Hs[cnt l (L.setIfInBounds i true)]? =some hk')
    (hun:∀(j:Nat) s u c,l[j]? =some (s,some (u,c))→¬dn (L.setIfInBounds i true) j→m' (lid u)=none∧hk'.bl.get (lid u)=some (.row c (lid u) 0)∧lid u<hk'.next):
    DI C ops l env vals Hs m0 h w0 a0 (L.setIfInBounds i true) (a.put o.dst x) w' m' hk':=by
  have hi:i<ops.size:=(Array.getElem?_eq_some_iff.1 ho).1;have hiL:i<L.size:=by rw[D.lsz];exact hi
  have hds1:=range_all (Bool.and_eq_true_iff.1 hds).1 hi;have hoi:(ops[i]?).bind (·.dst)=o.dst:=by rw[ho];rfl
  rw[hoi]at hds1;have hlt:∀t,o.dst=some t→t<a.tmps.size:=by
    intro t ht;rw[ht]at hds1;simp only[Bool.and_eq_true,Nat.blt_eq]at hds1;rw[D.size];exact hds1.1.1
  have huniq:∀t,o.dst=some t→∀j,j<ops.size→j≠i→(ops[j]?).bind (·.dst)≠some t:=by
    intro t ht j hj hne hd;rw[ht]at hds1;simp only[Bool.and_eq_true]at hds1;have:=range_all hds1.2 hj;rw[hd]at this;simp only[Bool.or_eq_true]at this;rcases this with q|q
    ·exact hne (Nat.eq_of_beq_eq_true q).symm
    ·simp at q
  refine⟨by simpa using D.lsz,?_,by rw[put_size];exact D.size,by rw[put_defers];exact D.defers,?_,hat,H',E0,?_,hun⟩
  ·intro j p hj hdj e he hbi;rw[dn_set hiL]at hdj⊢;rcases hdj with rfl|hdj
   ·rw[ho]at hj;cases hj;exact .inr (hed e he hbi)
   ·exact .inr (D.closed j p hj hdj e he hbi)
  ·intro t ht;have h1:o.dst≠some t:=by
     have:=ht i ((dn_set hiL).2 (.inl rfl));rwa[hoi]at this
   have h2:=D.old t (fun j hj=>ht j ((dn_set hiL).2 (.inr hj)));cases hd:o.dst with
   |none=>exact h2
   |some d=>
     rw[put_getD a d x t (hlt d hd),if_neg (by intro q;subst q;exact h1 hd)];exact h2
  ·intro j u t hj hu ht;rw[dn_set hiL]at hj;by_cases c:j=i
   ·subst c;rw[hoi]at ht;rw[hv]at hu;cases hu;rw[ht,put_getD a t x t (hlt t ht),if_pos rfl];exact r
   ·have hdj:dn L j:=hj.resolve_left c;have:=D.vals j u t hdj hu ht;cases hd:o.dst with
    |none=>exact VRel.mono hle _ _ this
    |some d=>
      have hjlt:j<ops.size:=by
        rcases Nat.lt_or_ge j ops.size with q|q
        ·exact q
        ·rw[Array.getElem?_eq_none q]at ht;cases ht
      rw[put_getD a d x t (hlt d hd),if_neg (by intro q;subst q;exact huniq t hd j hjlt c ht)];exact VRel.mono hle _ _ this
/-- what is not made yet stays so, whatever happens besides -/
theorem DI.unm_next{env:T V}{vals:List V}{Hs:List Heap}{m0 m m':M}{h hk hk':Heap}{w0 w w':World}{a0 a:Act}{L:Array Bool}(D:DI C ops l env vals Hs m0 h w0 a0 L a w m hk)
    {i:Nat} (hi:i<L.size) (E':Ext m hk w m' hk' w'):∀(j:Nat) s u c,l[j]? =some (s,some (u,c))→¬dn (L.setIfInBounds i true) j→
      m' (lid u)=none∧hk'.bl.get (lid u)=some (.row c (lid u) 0)∧lid u<hk'.next:=by
  intro j s u c hj hnd;obtain⟨b1,b2,b3⟩:=D.unm j s u c hj (fun hd=>hnd ((dn_set hi).2 (.inr hd)));refine⟨?_,(E'.phan _ b1 b3).trans b2,Nat.lt_of_lt_of_le b3 E'.next⟩;cases hm:m' (lid u)with
  |none=>rfl
  |some loc=>have:=(E'.new _ _ hm b1).1;omega
/-- a block that the model makes in its place -/
theorem HRel.materialize{m:M}{h:Heap}{w:World}(H:HRel m h w){p:Nat}{c:List V}{f k:Nat}{X:Array Value}{elem:TypeId}(hm:m p=none)(hb:h.bl.get p=some (.row c f k))(hX:VsRel m c X.toList):
    HRel (mset m p ⟨w.heap.size,0,X.size,none⟩) h (w.alloc (.cells X elem)):=by
  have hle:Le m (mset m p ⟨w.heap.size,0,X.size,none⟩):=by
    intro q l hq;rw[mset_ne]
    ·exact hq
    ·intro e;subst e;rw[hm]at hq;cases hq
  have hXl:=hX.length;refine⟨⟨H.wf,?_,?_,?_⟩,fun q ty n hp=>let⟨loc,C,fz,a,b,c,d⟩:=H.tg q ty n hp;⟨loc,C,fz,hle _ _ a,b,(heap_alloc_old w _ _ (H.inb q loc a)).trans c,d⟩⟩
  ·intro q loc hq;by_cases e:q=p
   ·subst e;rw[mset_self]at hq;cases hq;refine⟨_,hb,fun _=>⟨X,elem,(0,0),heap_alloc_new w _,by simp,by simp at hXl;simp only[];omega,fun i v hi=>?_,fun i _=>by simp⟩⟩;obtain⟨x,hx,rx⟩:=hX.get i v hi;exact⟨x,by simpa using hx,VRel.mono hle _ _ rx⟩
   ·rw[mset_ne _ _ e]at hq;obtain⟨b,hb',r⟩:=H.blk q loc hq;exact⟨b,hb',r.mono hle (fun _ _ _ _ x=>x) (heap_alloc_old w _ _ (H.inb q loc hq))⟩
  ·intro q loc hq;by_cases e:q=p
   ·subst e;rw[mset_self]at hq;cases hq;simp
   ·rw[mset_ne _ _ e]at hq;have:=H.inb q loc hq;simp;omega
  ·intro q r lq lr hq hr he hne;by_cases e:q=p
   ·subst e;rw[mset_self]at hq;cases hq;rw[mset_ne _ _ (Ne.symm hne)]at hr;have:=H.inb r lr hr;simp only[]at he;omega
   ·rw[mset_ne _ _ e]at hq;by_cases e2:r=p
    ·subst e2;rw[mset_self]at hr;cases hr;have:=H.inb q lq hq;simp only[]at he;omega
    ·rw[mset_ne _ _ e2]at hr;exact H.sep q r lq lr hq hr he hne
/-- a late block is made in the model -/
theorem late_run{m:M}{env:T V}{loc:List V}{a:Act}{σ:Sg}(hO:OpdS C m σ loc env a){o:Oper}{op:IOp}{c:List V}{k:Option (Nat×Nat)}(hco:chkOp P C σ o op=true)(hlc:lateC loc env op=some (c,k))(w:World):
    ∃x X elem,(execOp a.eval o).run P w=.ok (.value x) (w.alloc (.cells X elem))∧VsRel m c X.toList∧∀id m',m' id=some ⟨w.heap.size,0,X.size,none⟩→VRel m' (lateV id k) x:=by
  unfold lateC at hlc;split at hlc
  ·rename_i zero;cases hlc;simp only[chkOp,chkOp0,Bool.and_eq_true]at hco;replace hco:=hco.2;unfold chkAlloc at hco;split at hco
   ·rename_i t hy;obtain⟨z,hz,hv⟩:=run_zero (w:=w) hco;have hnr:=newRow_run (P:=P) (w:=w) z.cells t;refine⟨.pointer (some ⟨w.heap.size,0,none⟩),z.cells,t,?_,vsis_rel m _ _ hv,fun id m' hm=>⟨_,hm,rfl⟩⟩;simp[execOp,hy,Instr.alloc,hz,newVar,hnr]
   ·cases hco
  ·rename_i x;split at hlc
   ·rename_i v hv;cases hlc;simp only[chkOp,chkOp0,Bool.and_eq_true]at hco;replace hco:=hco.2;have hvr:=opds_sound hO _ _ _ hco.2 (evOs_one hv);obtain⟨hcb,_⟩:=hco;unfold chkBox at hcb;split at hcb
    ·rename_i t ad hy;obtain⟨y,e,ry⟩:=one_of hvr;rw[hy]at e;simp[Op.operands]at e;have hnr:=newRow_run (P:=P) (w:=w) y.cells t;refine⟨.pointer (some ⟨w.heap.size,0,none⟩),y.cells,t,?_,ry.cells,fun id m' hm=>⟨_,hm,rfl⟩⟩;simp[execOp,hy,e,Instr.box,newVar,hnr]
    ·cases hcb
   ·cases hlc
  ·rename_i zero places len xs;split at hlc
   ·rename_i vs hvs;split at hlc
    ·rename_i c' hf;cases hlc;simp only[chkOp,chkOp0,Bool.and_eq_true]at hco;replace hco:=hco.2;have hvr:=opds_sound hO _ _ _ hco.2 hvs;obtain⟨X,elem,h1,h2⟩:=abslice_run (P:=P) (m:=m) (w:=w) hco.1 hvr hf;exact⟨_,X,elem,h1,h2,fun id m' hm=>⟨_,hm,Nat.le_refl _,rfl⟩⟩
    ·cases hlc
   ·cases hlc
  ·rename_i zero bytes x y;split at hlc
   ·rename_i lv hl;split at hlc
    ·rename_i cv hcv;split at hlc
     ·rename_i n kk hn;cases hlc;simp only[chkOp,chkOp0,Bool.and_eq_true]at hco;replace hco:=hco.2;have hvr:=opds_sound hO _ _ _ hco.2 (evOs_two hl hcv);obtain⟨X,elem,h1,h2,h3⟩:=amake_run (P:=P) (m:=m) (w:=w) hco.1 hvr hn;exact⟨_,X,elem,h1,h2,fun id m' hm=>⟨_,hm,h3,rfl⟩⟩
     ·cases hlc
    ·cases hlc
   ·cases hlc
  ·cases hlc
/-- the operands of the i-th operation, when it is its turn -/
theorem DI.opds{vals:List V}{Hs:List Heap}{m0 m:M}{h hk:Heap}{w0 w:World}{a0 a:Act}{L:Array Bool}{env:T V}(D:DI C ops l env vals Hs m0 h w0 a0 L a w m hk)
    (hG:Glob K C.G m0) (hE:ERel C m0 env a0) (hB:chkB ops B=true) (hlen:vals.length=ops.size)
    {i:Nat} {o:Oper} (ho:ops[i]? =some o) (hni:¬dn L i) (hed:∀e∈o.after,Region.binds .any e=true→dn L e.on):OpdS C m (sig ops B i) ((vals.take i).reverse++[]) env a:=by
  have hi:i<ops.size:=(Array.getElem?_eq_some_iff.1 ho).1;have hG':=hG.ext D.ext;intro od y v hok ev;unfold opdOK at hok;split at hok
  ·rename_i t;split at hok
   ·rename_i s hs;obtain⟨j,hj,hd,hcase⟩:=look_sig _ _ _ hs;have hj':j<ops.size:=by simpa using hj
    rcases hcase with⟨hb,rfl⟩|rfl
    ·have hdj:=bef_done hB D.closed i o ho hed j hb hj';cases y<;>simp[srcOK]at hok;subst hok;have hji:j<i:=by
       have h1:=range_all (range_all hB hi) hj';simp only[hb,Bool.not_true,Bool.false_or,ho]at h1;obtain⟨e,he,h2⟩:=List.any_eq_true.1 h1;simp only[Bool.and_eq_true,Nat.blt_eq,Bool.or_eq_true]at h2;have h21:=h2.1.2;rcases h2.2 with q|q
       ·have:=Nat.eq_of_beq_eq_true q;omega
       ·
        have key:∀k,k<ops.size→∀j,j<ops.size→bef B k j=true→j<k:=by
          intro k;induction k using Nat.strongRecOn with
          |_ k ih=>
            intro hk j hj hb;have h1:=range_all (range_all hB hk) hj;simp only[hb,Bool.not_true,Bool.false_or]at h1;split at h1
            ·obtain⟨e,he,h2⟩:=List.any_eq_true.1 h1;simp only[Bool.and_eq_true,Nat.blt_eq,Bool.or_eq_true]at h2;rcases h2.2 with q|q
             ·have:=Nat.eq_of_beq_eq_true q;have:=h2.1.2;omega
             ·have:=h2.1.2;have:=ih e.on h2.1.2 (by omega) j hj q;omega
            ·cases h1
        have:=key e.on (by omega) j hj' q;omega
     have ev':((vals.take i).reverse++[])[i-1-j]? =some v:=by rw[←nth_eq];exact ev
     rw[loc_get (by omega) hji]at ev';exact D.vals j v t hdj ev' hd
    ·cases y<;>simp[srcOK]at hok
   ·rename_i hs;split at hok
    ·rename_i s;simp only[Bool.and_eq_true]at hok;have:=Nat.eq_of_beq_eq_true hok.1;subst this;have hold:=D.old s (fun j hj hd=>by
       have hj':j<ops.size:=by
         rcases Nat.lt_or_ge j ops.size with q|q
         ·exact q
         ·rw[Array.getElem?_eq_none q]at hd;cases hd
       obtain⟨_,hc⟩:=look_sig_none _ _ hs j (by simpa using hj') hd;rcases hc with rfl|hc
       ·exact hni hj
       ·exact hni (bef_done hB D.closed j _ (Array.getElem?_eq_getElem hj') (D.closed j _ (Array.getElem?_eq_getElem hj') hj) i hc hi))
     show VRel m v (a.tmps.getD s undef);rw[hold];exact VRel.mono D.ext.le _ _ (hE.var hok.2 ev)
    ·cases hok
  ·exact con_sound hG' hok ev
end
end Go.Ev
