/- An evaluator of the program, and contracts over it: EvA to EvJ. -/
import GoSem.Step
import Derived.Orders
import Derived.Laws.Rows
import Derived.Laws.Cells
import Derived.Laws.Sem
set_option linter.unusedSimpArgs false
set_option linter.unusedVariables false
set_option linter.constructorNameAsVariable false
set_option linter.unnecessarySimpa false
namespace Go.Ev
inductive T(α:Type) where
  |e
  |n (l:T α) (v:Option α) (r:T α)
namespace T
variable {α : Type}
/-- the half of a key, and which -/
noncomputable def get(t:T α):Nat→Option α:=
  T.rec (motive:=fun _=>Nat→Option α) (fun _=>none)
    (fun _ v _ gl gr i=>Nat.rec (motive:=fun _=>Option α) v
      (fun j _=>Nat.rec (motive:=fun _=>Option α) (gl (Nat.div j 2)) (fun _ _=>gr (Nat.div j 2)) (Nat.mod j 2)) i) t
noncomputable def put(v:α)(d:Nat):T α→Nat→T α:=
  Nat.rec (motive:=fun _=>T α→Nat→T α) (fun t _=>t)
    (fun _ rec t i=>T.rec (motive:=fun _=>T α)
      (Nat.rec (motive:=fun _=>T α) (.n .e (some v) .e)
        (fun j _=>Nat.rec (motive:=fun _=>T α) (.n (rec .e (Nat.div j 2)) none .e) (fun _ _=>.n .e none (rec .e (Nat.div j 2))) (Nat.mod j 2)) i)
      (fun l x r _ _=>Nat.rec (motive:=fun _=>T α) (.n l (some v) r)
        (fun j _=>Nat.rec (motive:=fun _=>T α) (.n (rec l (Nat.div j 2)) x r) (fun _ _=>.n l x (rec r (Nat.div j 2))) (Nat.mod j 2)) i)
      t) d
noncomputable def set(t:T α)(i:Nat)(v:α):T α:=put v (Nat.succ i) t i
@[simp] theorem get_e (i : Nat) : (T.e : T α).get i = none := rfl
theorem get_n0(l:T α)(v:Option α)(r:T α):(T.n l v r).get 0=v:=rfl
theorem get_nS(l:T α)(v:Option α)(r:T α)(j:Nat):(T.n l v r).get (j+1)=if j%2=0 then l.get (j/2)else r.get (j/2):=by
  show Nat.rec (motive:=fun _=>Option α) (l.get (j/2)) (fun _ _=>r.get (j/2)) (j%2)=_;have h:j%2=0∨j%2=1:=by omega
  rcases h with h|h<;>rw[h]<;>rfl
theorem put_e0(v:α)(d:Nat):put v (d+1) .e 0=.n .e (some v) .e:=rfl
theorem put_eS(v:α)(d j:Nat):put v (d+1) .e (j+1)=if j%2=0 then .n (put v d .e (j/2)) none .e else .n .e none (put v d .e (j/2)):=by
  show Nat.rec (motive:=fun _=>T α) (.n (put v d .e (j/2)) none .e) (fun _ _=>.n .e none (put v d .e (j/2))) (j%2)=_;have h:j%2=0∨j%2=1:=by omega
  rcases h with h|h<;>rw[h]<;>rfl
theorem put_n0(v:α)(d:Nat)(l r:T α)(x:Option α):put v (d+1) (.n l x r) 0=.n l (some v) r:=rfl
theorem put_nS(v:α)(d j:Nat)(l r:T α)(x:Option α):put v (d+1) (.n l x r) (j+1)=if j%2=0 then .n (put v d l (j/2)) x r else .n l x (put v d r (j/2)):=by
  show Nat.rec (motive:=fun _=>T α) (.n (put v d l (j/2)) x r) (fun _ _=>.n l x (put v d r (j/2))) (j%2)=_;have h:j%2=0∨j%2=1:=by omega
  rcases h with h|h<;>rw[h]<;>rfl
theorem get_put(v:α)(d:Nat):∀(t:T α)(i j:Nat),i<d→(put v d t i).get j=if j=i then some v else t.get j:=by
  induction d with
  |zero=>intro t i j h;omega
  |succ d ih=>
    intro t i j h;cases t with
    |e=>
      cases i with
      |zero=>
        rw[put_e0];cases j with
        |zero=>simp[get_n0]
        |succ j=>rw[get_nS];simp
      |succ i=>
        rw[put_eS];cases j with
        |zero=>split<;>simp[get_n0]
        |succ j=>
          split
          ·rename_i hi;rw[get_nS,ih _ _ _ (by omega)];split
           ·rename_i hj;by_cases hij:j=i
            ·subst hij;simp
            ·rw[if_neg (by omega),if_neg (by omega)];simp
           ·rw[if_neg (by omega)];simp
          ·rename_i hi;rw[get_nS,ih _ _ _ (by omega)];split
           ·rw[if_neg (by omega)];simp
           ·rename_i hj;by_cases hij:j=i
            ·subst hij;simp
            ·rw[if_neg (by omega),if_neg (by omega)];simp
    |n l x r=>
      cases i with
      |zero=>
        rw[put_n0];cases j with
        |zero=>simp[get_n0]
        |succ j=>rw[get_nS,get_nS];simp
      |succ i=>
        rw[put_nS];cases j with
        |zero=>split<;>simp[get_n0]
        |succ j=>
          split
          ·rename_i hi;rw[get_nS,get_nS,ih _ _ _ (by omega)];split
           ·rename_i hj;by_cases hij:j=i
            ·subst hij;simp
            ·rw[if_neg (by omega),if_neg (by omega)]
           ·rw[if_neg (by omega)]
          ·rename_i hi;rw[get_nS,get_nS,ih _ _ _ (by omega)];split
           ·rw[if_neg (by omega)]
           ·rename_i hj;by_cases hij:j=i
            ·subst hij;simp
            ·rw[if_neg (by omega),if_neg (by omega)]
theorem get_set(t:T α)(i j:Nat)(v:α):(t.set i v).get j=if j=i then some v else t.get j:=get_put v _ t i j (Nat.lt_succ_self i)
theorem get_set_self(t:T α)(i:Nat)(v:α):(t.set i v).get i=some v:=by rw[get_set,if_pos rfl]
theorem get_set_ne(t:T α){i j:Nat}(v:α)(h:j≠i):(t.set i v).get j=t.get j:=by rw[get_set,if_neg h]
end T
/-- the i-th of a list -/
noncomputable def nth{α:Type}(l:List α):Nat→Option α:=
  List.rec (motive:=fun _=>Nat→Option α) (fun _=>none) (fun v _ ih i=>Nat.rec (motive:=fun _=>Option α) (some v) (fun j _=>ih j) i) l
theorem nth_eq{α:Type}(l:List α)(i:Nat):nth l i=l[i]? :=by
  induction l generalizing i with
  |nil=>rfl
  |cons v l ih=>cases i with
    |zero=>rfl
    |succ i=>exact(ih i).trans (by simp)
/-- the list with the cells from the i-th on replaced -/
noncomputable def upd{α:Type}(l:List α):Nat→List α→List α:=
  List.rec (motive:=fun _=>Nat→List α→List α) (fun _ _=>[]) (fun x _ ih i vs=>Nat.rec (motive:=fun _=>List α)
    (List.rec (motive:=fun _=>List α) (x::ih 0 []) (fun v vs _=>v::ih 0 vs) vs) (fun j _=>x::ih j vs) i) l
@[simp] theorem upd_nil {α : Type} (i : Nat) (vs : List α) : upd [] i vs = [] := rfl
theorem upd_zero_nil{α:Type}(x:α)(l:List α):upd (x::l) 0 []=x::upd l 0 []:=rfl
theorem upd_zero_cons{α:Type}(x:α)(l:List α)(v:α)(vs:List α):upd (x::l) 0 (v::vs)=v::upd l 0 vs:=rfl
theorem upd_succ{α:Type}(x:α)(l:List α)(i:Nat)(vs:List α):upd (x::l) (i+1) vs=x::upd l i vs:=rfl
theorem upd_length{α:Type}(l:List α):∀(i:Nat)(vs:List α),(upd l i vs).length=l.length:=by
  induction l with
  |nil=>intro i vs;rfl
  |cons x l ih=>
    intro i vs;cases i with
    |zero=>cases vs with
      |nil=>rw[upd_zero_nil];simp[ih]
      |cons v vs=>rw[upd_zero_cons];simp[ih]
    |succ i=>rw[upd_succ];simp[ih]
theorem upd_get{α:Type}(l:List α):∀(i:Nat)(vs:List α)(j:Nat),j<l.length→
    (upd l i vs)[j]? =if i≤j∧j<i+vs.length then vs[j-i]? else l[j]? :=by
  induction l with
  |nil=>intro i vs j h;simp at h
  |cons x l ih=>
    intro i vs j h;cases i with
    |zero=>cases vs with
      |nil=>
        rw[upd_zero_nil];cases j with
        |zero=>simp
        |succ j=>simp[ih 0 [] j (by simpa using h)]
      |cons v vs=>
        rw[upd_zero_cons];cases j with
        |zero=>simp
        |succ j=>simp[ih 0 vs j (by simpa using h)]
    |succ i=>
      rw[upd_succ];cases j with
      |zero=>simp
      |succ j=>
        simp only[List.getElem?_cons_succ,ih i vs j (by simpa using h)];by_cases c:i≤j∧j<i+vs.length
        ·rw[if_pos c,if_pos (by omega)];congr 1;omega
        ·rw[if_neg c,if_neg (by omega)]
inductive V where
  |bool (b:Bool)
  |int (k:IntKind) (n:Int)
  |str (s:List UInt8)
  |nilp
  |ptr (b o:Nat)
  |nils
  |slice (b o len cap:Nat)
  |sliceU (b o len esz:Nat)
  |sliceE
  |nilm
  |map (b:Nat)
  |nilf
  |func (fn:Fn) (first caps:List V)
  |nili
  |iface (t:Nat) (v:V)
  |agg (l:List V)
  |tup (l:List V)
  |yld (b:Nat)
  |sliceZ (a:Addr) (cap:Nat)
inductive PK where
  |mv|pick|nilck
  |ib (op:BinOp)|sh (left:Bool)
  |not|neg|cmpl
  |bb (ne:Bool)
  |nil (kind:Nat) (ne:Bool)
  |faddr (off:Nat)
  |field (off n:Nat) (isAgg:Bool)
  |ixa (len esz:Nat)|ixs (esz:Nat)|ixarr (len esz:Nat) (isAgg:Bool)
  |ext (i:Nat)
  |mkf (fn:Fn) (nfirst:Nat)
  |mki (t:Nat)
  |build (zero:List V) (places:List (Nat×Nat))
  |sl (arr:Option Nat) (esz:Nat) (lo hi mx:Bool)
  |lenS|lenArr (n:Nat)
  |capS|capArr (n:Nat)
  |mn|mx
  |conv (k:IntKind)
  |seq (ne:Bool) (ks:List Nat)
  |sb (op:BinOp)
  |lenStr|ixstr
  |slstr (lo hi:Bool)
/-- an operand: a value made in this region, a variable, a constant, the address of a package's variable -/
inductive Opd where
  |l (k:Nat)
  |v (s:Nat)
  |c (x:V)
  |g (n:Nat)
/-- functions without a body -/
inductive XK where
  |same|ld|sto|cas|add|acq|rel|rlm|en|di
/-- what asks for the types of rows, and functions without a body -/
inductive UK where
  |alt (ty:Nat) (zero:List V)
  |tou
  |fru (tab:List (Nat×Nat×Nat))
  |sd
  |us (ty:Nat)
  |apt (ty esz bytes:Nat)
  |s2b
  |pe
  |ext (k:XK)
inductive IOp where
  |p (k:PK) (xs:List Opd)
  |ld (n:Nat) (ia:Bool) (x:Opd)
  |st (n:Nat) (x y:Opd)
  |al (zero:List V)
  |bx (x:Opd)
  |bs (zero:List V) (places:List (Nat×Nat)) (len:Nat) (xs:List Opd)
  |mk (zero:List V) (bytes:Nat) (x y:Opd)
  |ap (esz bytes:Nat) (x y:Opd)
  |cp (esz:Nat) (x y:Opd)
  |cf (f:Nat) (xs:List Opd)
  |cv (x:Opd) (xs:List Opd)
  |mm (xs:List Opd)
  |lk (ks:Option (List Nat)) (zero:V) (ok:Bool) (xs:List Opd)
  |mu (ks:Option (List Nat)) (xs:List Opd)
  |clr (zero:List V) (x:Opd)
  |b2s (x:Opd)
  |df (x:Opd) (xs:List Opd)
  |it (nx:Bool) (x:Opd)
  |me (ks:Option (List Nat)) (zero:V) (st:Bool) (xs:List Opd)
  |slu (esz:Nat) (xs:List Opd)
  |ux (k:UK) (xs:List Opd)
  |iv (tab:List (Nat×Nat)) (x:Opd) (xs:List Opd)
  |bad
/-- one step: under which condition, what, and where to (none: among the values of this region) -/
structure IStep where
  gd:Option (Opd×Bool)
  op:IOp
  dst:Option Nat
inductive IC where
  |skip
  |ops (l:List IStep)
  |seq (a b:IC)
  |cond (x:Opd) (a b:IC)
  |block (id:Nat) (c:IC)
  |loop (c:IC)
  |exit (id:Nat)
  |ret
  |scope (c:IC) (l:Nat) (r:IC)
  |goto (l:Nat)
  |dops (l:List IStep) (late B R:List Nat) (reads:List (Nat×Nat×Nat)) (sets:List (Nat×Nat))
  |bad
  |rf (g:Opd) (ps:List Nat) (a b:IC)
  |wd (c:IC)
inductive Ex where
  |norm|ret
  |exit (id:Nat)
  |goto (l:Nat)
/-- the numbers that stand for a loop's yield begin here -/
def YB:Nat:=1099511627776
/-- where the deferred calls are kept among the variables -/
def DSL:Nat:=1048576
/-- what is known of a range over a function beside its state: the model's record, and the code it stands for -/
structure LG where
  r:Loop
  ps:List Nat
  as:IC
  bd:IC
  vars:List Nat
  N:Nat
/-- where a block lies in the model's memory -/
structure Loc where
  block:Nat
  base:Nat
  room:Nat
  lp:Option LG
abbrev M:=Nat→Option Loc
mutual
def VRel(m:M):V→Value→Prop
  |.bool b,x=>x=.bool b
  |.int k n,x=>x=.int k n
  |.str s,x=>x=.string ⟨s.toArray⟩
  |.nilp,x=>x=.pointer none
  |.ptr b o,x=>∃loc,m b=some loc∧x=.pointer (some ⟨loc.block,loc.base+o,none⟩)
  |.nils,x=>x=.slice none 0 0
  |.slice b o len cap,x=>∃loc,m b=some loc∧len≤cap∧x=.slice (some ⟨loc.block,loc.base+o,none⟩) len cap
  |.sliceU b o len esz,x=>∃loc,m b=some loc∧len≤(loc.room-o)/esz∧x=.slice (some ⟨loc.block,loc.base+o,none⟩) len ((loc.room-o)/esz)
  |.sliceE,x=>∃a cap,x=.slice (some a) 0 cap
  |.nilm,x=>x=.map none
  |.map b,x=>∃loc,m b=some loc∧x=.map (some loc.block)
  |.nilf,x=>x=.nilFunc
  |.func fn first caps,x=>∃f' c',x=.func fn (List.toArray f') (List.toArray c')∧VsRel m first f'∧VsRel m caps c'
  |.nili,x=>x=.nilIface
  |.iface t v,x=>∃v',x=.iface t v'∧VRel m v v'
  |.agg l,x=>∃l',x=.agg (List.toArray l')∧VsRel m l l'
  |.tup l,x=>∃l',x=.tuple (List.toArray l')∧VsRel m l l'
  |.yld b,x=>∃loc,m b=some loc∧x=.func (.yield loc.block) #[] #[]
  |.sliceZ a cap,x=>x=.slice (some a) 0 cap
def VsRel(m:M):List V→List Value→Prop
  |[],l=>l=[]
  |v::vs,l=>∃v' vs',l=v'::vs'∧VRel m v v'∧VsRel m vs vs'
end
def Le(m m':M):Prop:=∀b loc,m b=some loc→m' b=some loc
mutual
theorem VRel.mono{m m':M}(h:Le m m'):∀(v:V)(x:Value),VRel m v x→VRel m' v x
  |.bool _,_,r=>r
  |.int _ _,_,r=>r
  |.str _,_,r=>r
  |.nilp,_,r=>r
  |.ptr _ _,_,⟨loc,hb,r⟩=>⟨loc,h _ _ hb,r⟩
  |.nils,_,r=>r
  |.slice _ _ _ _,_,⟨loc,hb,r⟩=>⟨loc,h _ _ hb,r⟩
  |.sliceU _ _ _ _,_,⟨loc,hb,r⟩=>⟨loc,h _ _ hb,r⟩
  |.sliceE,_,r=>r
  |.nilm,_,r=>r
  |.map _,_,⟨loc,hb,r⟩=>⟨loc,h _ _ hb,r⟩
  |.nilf,_,r=>r
  |.func _ first caps,_,⟨f',c',r,a,b⟩=>⟨f',c',r,VsRel.mono h first f' a,VsRel.mono h caps c' b⟩
  |.nili,_,r=>r
  |.iface _ v,_,⟨v',r,a⟩=>⟨v',r,VRel.mono h v v' a⟩
  |.agg l,_,⟨l',r,a⟩=>⟨l',r,VsRel.mono h l l' a⟩
  |.tup l,_,⟨l',r,a⟩=>⟨l',r,VsRel.mono h l l' a⟩
  |.yld _,_,⟨loc,hb,r⟩=>⟨loc,h _ _ hb,r⟩
  |.sliceZ _ _,_,r=>r
theorem VsRel.mono{m m':M}(h:Le m m'):∀(l:List V)(x:List Value),VsRel m l x→VsRel m' l x
  |[],_,r=>r
  |v::vs,_,⟨v',vs',r,a,b⟩=>⟨v',vs',r,VRel.mono h v v' a,VsRel.mono h vs vs' b⟩
end
/-- the same places -/
def Geo(m m':M):Prop:=∀b loc,m b=some loc→∃l',m' b=some l'∧l'.block=loc.block∧l'.base=loc.base∧l'.room=loc.room
mutual
theorem VRel.geo{m m':M}(h:Geo m m'):∀(v:V)(x:Value),VRel m v x→VRel m' v x
  |.bool _,_,r=>r
  |.int _ _,_,r=>r
  |.str _,_,r=>r
  |.nilp,_,r=>r
  |.ptr _ _,_,⟨loc,hb,r⟩=>let⟨l',h1,h2,h3,_⟩:=h _ _ hb;⟨l',h1,by rw[h2,h3];exact r⟩
  |.nils,_,r=>r
  |.slice _ _ _ _,_,⟨loc,hb,r⟩=>let⟨l',h1,h2,h3,_⟩:=h _ _ hb;⟨l',h1,by rw[h2,h3];exact r⟩
  |.sliceU _ _ _ _,_,⟨loc,hb,r⟩=>let⟨l',h1,h2,h3,h4⟩:=h _ _ hb;⟨l',h1,by rw[h2,h3,h4];exact r⟩
  |.sliceE,_,r=>r
  |.nilm,_,r=>r
  |.map _,_,⟨loc,hb,r⟩=>let⟨l',h1,h2,_⟩:=h _ _ hb;⟨l',h1,by rw[h2];exact r⟩
  |.nilf,_,r=>r
  |.func _ first caps,_,⟨f',c',r,a,b⟩=>⟨f',c',r,VsRel.geo h first f' a,VsRel.geo h caps c' b⟩
  |.nili,_,r=>r
  |.iface _ v,_,⟨v',r,a⟩=>⟨v',r,VRel.geo h v v' a⟩
  |.agg l,_,⟨l',r,a⟩=>⟨l',r,VsRel.geo h l l' a⟩
  |.tup l,_,⟨l',r,a⟩=>⟨l',r,VsRel.geo h l l' a⟩
  |.yld _,_,⟨loc,hb,r⟩=>let⟨l',h1,h2,_⟩:=h _ _ hb;⟨l',h1,by rw[h2];exact r⟩
  |.sliceZ _ _,_,r=>r
theorem VsRel.geo{m m':M}(h:Geo m m'):∀(l:List V)(x:List Value),VsRel m l x→VsRel m' l x
  |[],_,r=>r
  |v::vs,_,⟨v',vs',r,a,b⟩=>⟨v',vs',r,VRel.geo h v v' a,VsRel.geo h vs vs' b⟩
end
theorem VsRel.nil{m:M}:VsRel m [] []:=rfl
theorem VsRel.cons{m:M}{v:V}{vs:List V}{x:Value}{xs:List Value}(h:VRel m v x)(t:VsRel m vs xs):VsRel m (v::vs) (x::xs):=⟨x,xs,rfl,h,t⟩
theorem VsRel.length{m:M}:∀{vs:List V}{xs:List Value},VsRel m vs xs→xs.length=vs.length
  |[],_,rfl=>rfl
  |_::_,_,⟨_,_,rfl,_,t⟩=>by simp[VsRel.length t]
theorem VsRel.get{m:M}:∀{vs:List V}{xs:List Value}(i:Nat)(v:V),VsRel m vs xs→vs[i]? =some v→∃x,xs[i]? =some x∧VRel m v x
  |[],_,_,_,_,h=>by simp at h
  |_::_,_,0,_,⟨x,_,rfl,r,_⟩,h=>by simp at h;subst h;exact⟨x,by simp,r⟩
  |_::_,_,i+1,v,⟨_,_,rfl,_,t⟩,h=>by simpa using VsRel.get i v t (by simpa using h)
theorem VsRel.append{m:M}:∀{as bs:List V}{xs ys:List Value},VsRel m as xs→VsRel m bs ys→VsRel m (as++bs) (xs++ys)
  |[],_,_,_,rfl,h=>h
  |_::_,_,_,_,⟨_,_,rfl,r,t⟩,h=>⟨_,_,rfl,r,VsRel.append t h⟩
theorem VsRel.of_get{m:M}:∀{vs:List V}{xs:List Value},xs.length=vs.length→(∀(i:Nat) v,vs[i]? =some v→∃x,xs[i]? =some x∧VRel m v x)→VsRel m vs xs
  |[],xs,h,_=>by cases xs<;>simp_all [VsRel]
  |v::vs,[],h,_=>by simp at h
  |v::vs,x::xs,h,g=>by
    refine⟨x,xs,rfl,?_,VsRel.of_get (by simpa using h) fun i u hu=>by simpa using g (i+1) u (by simpa using hu)⟩;obtain⟨y,hy,r⟩:=g 0 v rfl;simp at hy;subst hy;exact r
/-- the value of one cell -/
def V.one:V→Bool
  |.agg _=>false
  |.tup _=>false
  |_=>true
/-- so in the model -/
def oneCell:Value→Bool
  |.agg _|.tuple _=>false
  |_=>true
theorem VRel.one{m:M}{v:V}{x:Value}(h:VRel m v x)(o:v.one=true):oneCell x=true:=by
  cases v<;>simp[V.one]at o<;>simp only[VRel]at h;all_goals first
    |(subst h;rfl)
    |(obtain⟨_,_,rfl⟩:=h;rfl)
    |(obtain⟨_,_,_,rfl⟩:=h;rfl)
    |(obtain⟨_,rfl,_⟩:=h;rfl)
    |(obtain⟨_,_,rfl,_⟩:=h;rfl)
def onesB(l:List V):Bool:=l.all V.one
/-- a block -/
inductive Blk where
  |row (c:List V) (fam mk:Nat)
  |mp (es:List (V×V×Nat)) (clock:Nat)
  |lp (ps:List Nat) (as bd:IC) (env:T V) (st:Nat) (pend:Option Ex)
  |si (s:List UInt8) (pos:Nat)
  |dead
structure Heap where
  bl:T Blk
  next:Nat
  fams:T (Nat×Nat)
  tys:T (Nat×Nat)
/-- may the block be read? -/
noncomputable def rd(h:Heap)(p f k:Nat):Bool:=
  match h.fams.get f with
  |none=>true
  |some (o,e)=>Nat.beq o p||Nat.beq k e
structure HWF(h:Heap):Prop where
  fam:∀p c f k,h.bl.get p=some (.row c f k)→match h.fams.get f with
    |none=>f=p
    |some (_,e)=>k≤e
  fresh:∀p,h.next≤p→h.bl.get p=none∧h.fams.get p=none
def lst:Nat→LoopState
  |0=>.ready
  |1=>.busy
  |2=>.done
  |_=>.exhausted
def jumpOf:Ex→Code
  |.norm=>.skip
  |.ret=>.ret
  |.exit id=>.exit id
  |.goto l=>.goto l
def BRel(m:M)(h:Heap)(p:Nat)(loc:Loc)(w:World):Blk→Prop
  |.row c f k=>rd h p f k=true→∃C elem fz,w.heap[loc.block]? =some (.cells C elem fz)∧loc.base+loc.room≤C.size∧c.length≤loc.room∧
      (∀(i:Nat) v,c[i]? =some v→∃x,C[loc.base+i]? =some x∧VRel m v x)∧
      (∀i:Nat,i<loc.room→¬(fz.1≤loc.base+i∧loc.base+i<fz.2))
  |.mp es clock=>∃es',w.heap[loc.block]? =some (.map (List.toArray es') clock)∧es'.length=es.length∧
      ∀(i:Nat) k v n,es[i]? =some (k,v,n)→∃e:MapEntry,es'[i]? =some e∧VRel m k e.key∧VRel m v e.val∧e.born=n
  |.lp ps as bd env st pend=>∃g,loc.lp=some g∧g.ps=ps∧g.as=as∧g.bd=bd∧w.heap[loc.block]? =some (.loop {g.r with state:=lst st,pending:=pend.map jumpOf})∧
      ∀s v,env.get s=some v→s=DSL∨(g.vars.contains s=true∧VRel m v (g.r.tmps.getD s undef))
  |.si s pos=>loc.base=0∧w.heap[loc.block]? =some (.stringIter ⟨s.toArray⟩ pos)
  |.dead=>True
/-- what is known of the types of rows: the type, and how many cells (0: not known) -/
def TG(m:M)(t:T (Nat×Nat))(w:World):Prop:=∀p ty n,t.get p=some (ty,n)→∃loc C fz,m p=some loc∧loc.base=0∧w.heap[loc.block]? =some (.cells C ty fz)∧(n=0∨C.size=n)
structure HRel0(m:M)(h:Heap)(w:World):Prop where
  wf:HWF h
  blk:∀p loc,m p=some loc→∃b,h.bl.get p=some b∧BRel m h p loc w b
  inb:∀p loc,m p=some loc→loc.block<w.heap.size
  sep:∀p q lp lq,m p=some lp→m q=some lq→lp.block=lq.block→p≠q→
    ∃cp cq f kp kq,h.bl.get p=some (.row cp f kp)∧h.bl.get q=some (.row cq f kq)∧
      (∀e,h.fams.get f=some (q,e)→lp.base+cp.length≤lq.base+cq.length)
structure HRel(m:M)(h:Heap)(w:World):Prop extends HRel0 m h w where
  tg:TG m h.tys w
/-- the cells that blocks of the evaluator stand for -/
def Cov(m:M)(b i:Nat):Prop:=∃p loc,m p=some loc∧loc.block=b∧loc.base≤i∧i<loc.base+loc.room
/-- beside the cells that blocks stand for nothing has changed -/
def Kept(m:M)(b:Nat)(o o':Option Obj):Prop:=∀x,o=some x→∃x',o'=some x'∧match x,x' with
  |.cells c t fr,.cells c' t' fr'=>t'=t∧(fr'=fr∨∃j:Nat,fr'.1≤j∧j<fr'.2∧Cov m b j)∧c'.size=c.size∧∀j:Nat,¬Cov m b j→c'[j]? =c[j]?
  |.map _ _,.map _ _=>True
  |.loop _,.loop _=>True
  |.stringIter _ _,.stringIter _ _=>True
  |x,x'=>x'=x
theorem Kept.refl(m:M)(b:Nat)(o:Option Obj):Kept m b o o:=fun x h=>⟨x,h,by cases x<;>simp⟩
theorem Kept.of_eq{m:M}{b:Nat}{o o':Option Obj}(e:o'=o):Kept m b o o':=e▸Kept.refl m b o
theorem Kept.trans{m m₁:M}{b:Nat}{o o₁ o₂:Option Obj}(hc:∀j,Cov m₁ b j→Cov m b j)(a:Kept m b o o₁)(d:Kept m₁ b o₁ o₂):Kept m b o o₂:=by
  intro x hx;obtain⟨x1,h1,a⟩:=a x hx;obtain⟨x2,h2,d⟩:=d x1 h1;refine⟨x2,h2,?_⟩;cases x with
  |cells c t fr=>
    cases x1 with
    |cells c1 t1 f1=>
      cases x2 with
      |cells c2 t2 f2=>
        obtain⟨a1,a2,a3,a4⟩:=a;obtain⟨d1,d2,d3,d4⟩:=d;refine⟨d1.trans a1,?_,d3.trans a3,fun j hj=>(d4 j fun x=>hj (hc j x)).trans (a4 j hj)⟩;rcases d2 with rfl|⟨j,j1,j2,j3⟩
        ·exact a2
        ·exact .inr ⟨j,j1,j2,hc j j3⟩
      |_=>simp at d
    |_=>simp at a
  |map es k=>
    cases x1 with
    |map es1 k1=>
      cases x2 with
      |map es2 k2=>trivial
      |_=>simp at d
    |_=>simp at a
  |loop r=>
    cases x1 with
    |loop r1=>
      cases x2 with
      |loop r2=>trivial
      |_=>simp at d
    |_=>simp at a
  |stringIter s p=>
    cases x1 with
    |stringIter s1 p1=>
      cases x2 with
      |stringIter s2 p2=>trivial
      |_=>simp at d
    |_=>simp at a
  |_=>
    simp at a;subst a;simpa using d
/-- what a stretch of the program does to everything else: nothing -/
structure Ext(m:M)(h:Heap)(w:World)(m':M)(h':Heap)(w':World):Prop where
  le:Le m m'
  new:∀p loc,m' p=some loc→m p=none→h.next≤p∧(w.heap.size≤loc.block∨∃q lq,m q=some lq∧lq.block=loc.block)
  next:h.next≤h'.next
  phan:∀p,m p=none→p<h.next→h'.bl.get p=h.bl.get p
  size:w.heap.size≤w'.heap.size
  keep:∀b,(∀p loc,m p=some loc→loc.block≠b)→b<w.heap.size→w'.heap[b]? =w.heap[b]?
  os:w'.os=w.os
  tape:w'.tape=w.tape
  output:w'.output=w.output
  cov:∀b i,b<w.heap.size→Cov m' b i→Cov m b i
  out:∀b,b<w.heap.size→Kept m b w.heap[b]? w'.heap[b]?
  lps:∀p loc,m' p=some loc→m p=none→loc.lp=none
theorem Ext.refl(m:M)(h:Heap)(w:World):Ext m h w m h w:=
  ⟨fun _ _ x=>x,fun _ _ a b=>by simp[a]at b,Nat.le_refl _,fun _ _ _=>rfl,Nat.le_refl _,fun _ _ _=>rfl,rfl,rfl,rfl,fun _ _ _ x=>x,fun _ _=>Kept.refl _ _ _,fun _ _ a b=>by simp[a]at b⟩
theorem Ext.trans{m m₁ m₂:M}{h h₁ h₂:Heap}{w w₁ w₂:World}(a:Ext m h w m₁ h₁ w₁)(b:Ext m₁ h₁ w₁ m₂ h₂ w₂):Ext m h w m₂ h₂ w₂ where
  le:=fun p loc x=>b.le _ _ (a.le _ _ x)
  new:=fun p loc h2 h0=>by
    cases h1:m₁ p with
    |some l1=>
      have e:=b.le _ _ h1;rw[e]at h2;cases h2;exact a.new _ _ h1 h0
    |none=>
      obtain⟨n1,n2⟩:=b.new _ _ h2 h1;refine⟨Nat.le_trans a.next n1,?_⟩;rcases n2 with n2|⟨q,lq,hq,e⟩
      ·exact .inl (Nat.le_trans a.size n2)
      ·cases hq0:m q with
       |some l0=>
         have e0:=a.le _ _ hq0;rw[hq]at e0;cases e0;exact .inr ⟨q,lq,hq0,e⟩
       |none=>
         rcases(a.new _ _ hq hq0).2 with s|⟨r,lr,hr,e2⟩
         ·exact .inl (e▸s)
         ·exact .inr ⟨r,lr,hr,e2.trans e⟩
  next:=Nat.le_trans a.next b.next
  phan:=fun p h0 hp=>by
    cases h1:m₁ p with
    |some l1=>have:=(a.new _ _ h1 h0).1;omega
    |none=>exact(b.phan p h1 (Nat.lt_of_lt_of_le hp a.next)).trans (a.phan p h0 hp)
  size:=Nat.le_trans a.size b.size
  keep:=fun c h0 hc=>by
    refine(b.keep c (fun p loc hp he=>?_) (Nat.lt_of_lt_of_le hc a.size)).trans (a.keep c h0 hc);cases hp0:m p with
    |some l0=>
      have e0:=a.le _ _ hp0;rw[hp]at e0;cases e0;exact h0 p loc hp0 he
    |none=>
      rcases(a.new _ _ hp hp0).2 with s|⟨r,lr,hr,e2⟩
      ·omega
      ·exact h0 r lr hr (e2.trans he)
  os:=b.os.trans a.os
  tape:=b.tape.trans a.tape
  output:=b.output.trans a.output
  cov:=fun c i hc x=>a.cov c i hc (b.cov c i (Nat.lt_of_lt_of_le hc a.size) x)
  lps:=fun p loc h2 h0=>by
    cases h1:m₁ p with
    |some l1=>
      have e:=b.le _ _ h1;rw[e]at h2;cases h2;exact a.lps _ _ h1 h0
    |none=>exact b.lps _ _ h2 h1
  out:=fun c hc=>(a.out c hc).trans (fun j x=>a.cov c j hc x) (b.out c (Nat.lt_of_lt_of_le hc a.size))
theorem TG.ext{m m':M}{h h':Heap}{w w':World}{t:T (Nat×Nat)}(a:TG m t w)(i:∀p loc,m p=some loc→loc.block<w.heap.size)(E:Ext m h w m' h' w'):TG m' t w':=by
  intro p ty n hp;obtain⟨loc,C,fz,q1,q2,q3,q4⟩:=a p ty n hp;obtain⟨x',hx,hk⟩:=E.out loc.block (i p loc q1) _ q3;cases x' with
  |cells C' ty' fz'=>
    obtain⟨r1,_,r3,_⟩:=hk;subst r1;exact⟨loc,C',fz',E.le _ _ q1,q2,hx,q4.imp id fun e=>r3.trans e⟩
  |_=>simp at hk
theorem HRel.up{m m':M}{h h':Heap}{w w':World}(H:HRel m h w)(e:h'.tys=h.tys)(a:HRel0 m' h' w'∧Ext m h w m' h' w'):HRel m' h' w'∧Ext m h w m' h' w':=
  ⟨⟨a.1,by rw[e];exact H.tg.ext H.inb a.2⟩,a.2⟩
theorem add_mk(b o n:Nat):Addr.add ⟨b,o,none⟩ n=⟨b,o+n,none⟩:=by
  unfold Addr.add;split
  ·rename_i h;subst h;rfl
  ·rfl
theorem oneCell_eq(x:Value):oneCell x=x.oneCell':=by cases x<;>rfl
/-- the world behind some stores into one row -/
structure Stored(g lo:Nat)(vs:List Value)(w w':World):Prop where
  row:∀cur t fz,w.heap[g]? =some (.cells cur t fz)→∃cur',w'.heap[g]? =some (.cells cur' t fz)∧cur'.size=cur.size∧
    ∀j:Nat,cur'[j]? =if lo≤j∧j<lo+vs.length then(if j<cur.size then vs[j-lo]? else none)else cur[j]?
  other:∀k,k≠g→w'.heap[k]? =w.heap[k]?
  size:w'.heap.size=w.heap.size
  os:w'.os=w.os
  tape:w'.tape=w.tape
  output:w'.output=w.output
theorem run_storeCells(P:Program)(g o:Nat)(t:TypeId)(fz:Nat×Nat):∀(vs:List Value)(i:Nat)(cur:Array Value)(w:World),
    w.heap[g]? =some (.cells cur t fz)→o+i+vs.length≤cur.size→(∀j:Nat,j<vs.length→¬(fz.1≤o+i+j∧o+i+j<fz.2))→
    (∀v∈vs,oneCell v=true)→∃w',(storeCells ⟨g,o,none⟩ vs i).run P w=.ok () w'∧Stored g (o+i) vs w w':=by
  intro vs;induction vs with
  |nil=>
    intro i cur w hg _ _ _;refine⟨w,rfl,⟨fun c t' f' h=>⟨c,h,rfl,fun j=>by simp;intro a b;omega⟩,fun _ _=>rfl,rfl,rfl,rfl,rfl⟩⟩
  |cons v vs ih=>
    intro i cur w hg hsz hfz hone;simp only[List.length_cons]at hsz;have hlt:o+i<cur.size:=by omega
    have hcell:w.cell? ⟨g,o+i,none⟩=some cur[o+i]:=by
      rw[cell_of_row w g (o+i) cur t fz hg];simp[hlt]
    have hfr:w.frozen? ⟨g,o+i,none⟩=false:=by
      have:=hfz 0 (by simp);simp only[World.frozen?,hg];simp only[Nat.add_zero]at this;cases h1:decide (fz.1≤o+i)<;>simp_all
    have hv:v.oneCell'=true:=by rw[←oneCell_eq];exact hone v (by simp)
    have hg':(w.setCell ⟨g,o+i,none⟩ v).heap[g]? =some (.cells (cur.setIfInBounds (o+i) v) t fz):=by
      simp only[World.setCell,Array.getElem?_modify,hg];simp
    obtain⟨w',hr,hst⟩:=ih (i+1) (cur.setIfInBounds (o+i) v) (w.setCell ⟨g,o+i,none⟩ v) hg' (by simp;omega)
      (fun j hj=>by have:=hfz (j+1) (by simp;omega);rwa[show o+i+(j+1)=o+(i+1)+j by omega]at this) (fun u hu=>hone u (by simp[hu]))
    refine⟨w',?_,?_⟩
    ·unfold storeCells;simp only[Sem.run_bind,add_mk,run_store P w _ v .plain hv,hcell,hfr];simpa using hr
    ·refine⟨?_,fun k hk=>(hst.other k hk).trans (heap_setCell_other w _ k v hk),hst.size.trans (by simp),hst.os,hst.tape,hst.output⟩;intro c t' f' hc;rw[hg]at hc;cases hc;obtain⟨cur',h1,h2,h3⟩:=hst.row _ _ _ hg';refine⟨cur',h1,h2.trans (by simp),fun j=>?_⟩;rw[h3 j];simp only[Array.size_setIfInBounds,List.length_cons];by_cases hj:j=o+i
     ·subst hj;rw[if_neg (by omega),if_pos (by omega)];simp[hlt]
     ·rw[Array.getElem?_setIfInBounds_ne (by omega)];by_cases hc:o+i+1≤j∧j<o+i+1+vs.length
      ·rw[if_pos (by omega),if_pos (by omega)];rw[show j-(o+i)=(j-(o+(i+1)))+1 by omega,if_pos (by omega),if_pos (by omega)];simp
      ·rw[if_neg (by omega),if_neg (by omega)]
noncomputable def dropL(l:List V):Nat→List V:=
  List.rec (motive:=fun _=>Nat→List V) (fun _=>[]) (fun x xs ih o=>Nat.rec (motive:=fun _=>List V) (x::xs) (fun j _=>ih j) o) l
theorem dropL_eq(l:List V)(o:Nat):dropL l o=l.drop o:=by
  induction l generalizing o with
  |nil=>cases o<;>rfl
  |cons x xs ih=>cases o with
    |zero=>rfl
    |succ o=>exact(ih o).trans (by simp)
noncomputable def takeL(n:Nat):List V→Option (List V):=
  Nat.rec (motive:=fun _=>List V→Option (List V)) (fun _=>some [])
    (fun _ ih l=>List.rec (motive:=fun _=>Option (List V)) none (fun x xs _=>Option.rec (motive:=fun _=>Option (List V)) none (fun r=>some (x::r)) (ih xs)) l) n
theorem takeL_zero(l:List V):takeL 0 l=some []:=rfl
theorem takeL_nil(n:Nat):takeL (n+1) []=none:=rfl
theorem takeL_cons(n:Nat)(x:V)(xs:List V):takeL (n+1) (x::xs)=(takeL n xs).map (x:: ·):=by
  show Option.rec (motive:=fun _=>Option (List V)) none (fun r=>some (x::r)) (takeL n xs)=_;cases takeL n xs<;>rfl
theorem takeL_eq{n:Nat}:∀{l r:List V},takeL n l=some r→r=l.take n∧n≤l.length:=by
  induction n with
  |zero=>intro l r h;cases h;simp
  |succ n ih=>
    intro l r h;cases l with
    |nil=>rw[takeL_nil]at h;cases h
    |cons x xs=>
      rw[takeL_cons]at h;cases hx:takeL n xs with
      |none=>rw[hx]at h;cases h
      |some y=>
        rw[hx]at h;cases h;obtain⟨rfl,hl⟩:=ih hx;exact⟨by simp,by simp;omega⟩
/-- the cells of a block that may be read -/
noncomputable def cellsAt(h:Heap)(b:Nat):Option (List V):=
  match h.bl.get b with
  |some (.row c f k)=>bif rd h b f k then some c else none
  |_=>none
noncomputable def hload(h:Heap)(b o n:Nat):Option (List V):=
  match cellsAt h b with
  |some c=>takeL n (dropL c o)
  |none=>none
noncomputable def hload1(h:Heap)(b o:Nat):Option V:=
  match cellsAt h b with
  |some c=>nth c o
  |none=>none
theorem cellsAt_some{h:Heap}{b:Nat}{c:List V}(x:cellsAt h b=some c):∃f k,h.bl.get b=some (.row c f k)∧rd h b f k=true:=by
  unfold cellsAt at x;split at x
  ·rename_i c' f k hg;cases hr:rd h b f k
   ·simp[hr]at x
   ·simp[hr]at x;subst x;exact⟨f,k,hg,hr⟩
  ·cases x
theorem HRel.cell{m:M}{h:Heap}{w:World}(H:HRel m h w){b o:Nat}{loc:Loc}{c:List V}{v:V}(hm:m b=some loc)(hc:cellsAt h b=some c)(hv:c[o]? =some v):
    ∃x,w.cell? ⟨loc.block,loc.base+o,none⟩=some x∧VRel m v x:=by
  obtain⟨f,k,hg,hr⟩:=cellsAt_some hc;obtain⟨bk,hb,rel⟩:=H.blk b loc hm;rw[hg]at hb;cases hb;obtain⟨C,el,fz,h1,_,_,h4,_⟩:=rel hr;obtain⟨x,hx,r⟩:=h4 o v hv;exact⟨x,by rw[cell_of_row w _ _ C el fz h1];exact hx,r⟩
theorem HRel.load1{m:M}{h:Heap}{w:World}(H:HRel m h w){b o:Nat}{loc:Loc}{v:V}(hm:m b=some loc)(hl:hload1 h b o=some v):
    ∃x,w.cell? ⟨loc.block,loc.base+o,none⟩=some x∧VRel m v x:=by
  unfold hload1 at hl;cases hc:cellsAt h b with
  |none=>rw[hc]at hl;cases hl
  |some c=>
    rw[hc]at hl;exact H.cell hm hc (by rw[←nth_eq];exact hl)
theorem HRel.load{m:M}{h:Heap}{w:World}(H:HRel m h w)(P:Program){b o n:Nat}{loc:Loc}{vs:List V}(hm:m b=some loc)(hl:hload h b o n=some vs):
    ∃xs,(loadCells ⟨loc.block,loc.base+o,none⟩ n).run P w=.ok (List.toArray xs) w∧VsRel m vs xs∧vs.length=n:=by
  unfold hload at hl;cases hc:cellsAt h b with
  |none=>rw[hc]at hl;cases hl
  |some c=>
    rw[hc]at hl;simp only[]at hl;obtain⟨rfl,hn⟩:=takeL_eq hl;rw[dropL_eq]at *;have hlen:(List.take n (List.drop o c)).length=n:=by simp at hn⊢;omega
    have cell:∀i:Nat,i<n→∃x,w.cell? ⟨loc.block,loc.base+o+i,none⟩=some x∧∀v,(List.take n (List.drop o c))[i]? =some v→VRel m v x:=by
      intro i hi;have hi':o+i<c.length:=by simp at hn;omega
      obtain⟨x,hx,r⟩:=H.cell hm hc (o:=o+i) (v:=c[o+i]) (by simp[hi']);refine⟨x,by rw[Nat.add_assoc];exact hx,fun v hv=>?_⟩;have:v=c[o+i]:=by
        rw[List.getElem?_take,if_pos hi,List.getElem?_drop]at hv;simp[hi']at hv;exact hv.symm
      rw[this];exact r
    let xs:List Value:=(List.range n).map fun i=>((w.cell? ⟨loc.block,loc.base+o+i,none⟩).getD undef);have hxl:xs.length=n:=by simp[xs]
    have hxg:∀(j:Nat) x,xs[j]? =some x→w.cell? ⟨loc.block,loc.base+o+j,none⟩=some x:=by
      intro j x hx;have hj:j<n:=by
        rcases Nat.lt_or_ge j n with h|h
        ·exact h
        ·rw[List.getElem?_eq_none (by omega)]at hx;cases hx
      obtain⟨y,hy,_⟩:=cell j hj;simp[xs,hj,hy]at hx;rw[hy,hx]
    refine⟨xs,?_,VsRel.of_get (by omega) ?_,hlen⟩
    ·have:=run_loadCells_list (P:=P) w ⟨loc.block,loc.base+o,none⟩ xs (fun j x hx=>by rw[add_mk];exact hxg j x hx);rw[hxl]at this;exact this
    ·intro i v hv;have hi:i<n:=by
       rcases Nat.lt_or_ge i n with h|h
       ·exact h
       ·rw[List.getElem?_eq_none (by omega)]at hv;cases hv
     obtain⟨x,hx,r⟩:=cell i hi;exact⟨x,by simp[xs,hi,hx],r v hv⟩
noncomputable def updO(l:List V):Nat→List V→Option (List V):=
  List.rec (motive:=fun _=>Nat→List V→Option (List V))
    (fun _ vs=>List.rec (motive:=fun _=>Option (List V)) (some []) (fun _ _ _=>none) vs)
    (fun x xs ih i vs=>Nat.rec (motive:=fun _=>Option (List V))
      (List.rec (motive:=fun _=>Option (List V)) (some (x::xs)) (fun v vs _=>Option.rec (motive:=fun _=>Option (List V)) none (fun r=>some (v::r)) (ih 0 vs)) vs)
      (fun j _=>Option.rec (motive:=fun _=>Option (List V)) none (fun r=>some (x::r)) (ih j vs)) i) l
theorem opt_rec{α β:Type}(f:α→β)(o:Option α):Option.rec (motive:=fun _=>Option β) none (fun r=>some (f r)) o=o.map f:=by cases o<;>rfl
theorem updO_nil(i:Nat):updO [] i []=some []:=rfl
theorem updO_nil_cons(i:Nat)(v:V)(vs:List V):updO [] i (v::vs)=none:=rfl
theorem updO_zero_nil(x:V)(l:List V):updO (x::l) 0 []=some (x::l):=rfl
theorem updO_zero_cons(x:V)(l:List V)(v:V)(vs:List V):updO (x::l) 0 (v::vs)=(updO l 0 vs).map (v:: ·):=opt_rec _ _
theorem updO_succ(x:V)(l:List V)(i:Nat)(vs:List V):updO (x::l) (i+1) vs=(updO l i vs).map (x:: ·):=opt_rec _ _
theorem updO_spec:∀(l:List V)(i:Nat)(vs r:List V),updO l i vs=some r→
    r.length=l.length∧(vs≠[]→i+vs.length≤l.length)∧∀j:Nat,r[j]? =if i≤j∧j<i+vs.length then vs[j-i]? else l[j]? :=by
  intro l;induction l with
  |nil=>
    intro i vs r h;cases vs with
    |nil=>rw[updO_nil]at h;cases h;simp
    |cons v vs=>rw[updO_nil_cons]at h;cases h
  |cons x l ih=>
    intro i vs r h;cases i with
    |zero=>
      cases vs with
      |nil=>rw[updO_zero_nil]at h;cases h;simp
      |cons v vs=>
        rw[updO_zero_cons]at h;cases hu:updO l 0 vs with
        |none=>rw[hu]at h;cases h
        |some q=>
          rw[hu]at h;cases h;obtain⟨a,b,c⟩:=ih 0 vs q hu;refine⟨by simp[a],fun _=>?_,fun j=>?_⟩
          ·cases vs with
           |nil=>simp
           |cons y ys=>have:=b (by simp);simp at this⊢;omega
          ·cases j with
           |zero=>simp
           |succ j=>
             have:=c j;simp only[List.getElem?_cons_succ,this];by_cases hc:j<vs.length
             ·rw[if_pos (by omega),if_pos (by simp;omega)];simp
             ·rw[if_neg (by omega),if_neg (by simp;omega)]
    |succ i=>
      rw[updO_succ]at h;cases hu:updO l i vs with
      |none=>rw[hu]at h;cases h
      |some q=>
        rw[hu]at h;cases h;obtain⟨a,b,c⟩:=ih i vs q hu;refine⟨by simp[a],fun hn=>by have:=b hn;simp;omega,fun j=>?_⟩;cases j with
        |zero=>simp
        |succ j=>
          have:=c j;simp only[List.getElem?_cons_succ,this];by_cases hc:i≤j∧j<i+vs.length
          ·rw[if_pos hc,if_pos (by omega)];congr 1;omega
          ·rw[if_neg hc,if_neg (by omega)]
noncomputable def hstore(h:Heap)(b o:Nat)(vs:List V):Option Heap:=
  match h.bl.get b with
  |some (.row c f k)=>
    bif onesB vs then
      match updO c o vs with
      |some c'=>
        match h.fams.get f with
        |none=>some ⟨h.bl.set b (.row c' f k),h.next,h.fams,h.tys⟩
        |some (ow,e)=>bif Nat.beq ow b then some ⟨h.bl.set b (.row c' f k),h.next,h.fams.set f (ow,e+1),h.tys⟩else none
      |none=>none
    else none
  |_=>none
theorem hstore_some{h h':Heap}{b o:Nat}{vs:List V}(x:hstore h b o vs=some h'):∃c f k c',h.bl.get b=some (.row c f k)∧onesB vs=true∧updO c o vs=some c'∧
    h'.bl=h.bl.set b (.row c' f k)∧h'.next=h.next∧
    ((h.fams.get f=none∧h'.fams=h.fams)∨∃e,h.fams.get f=some (b,e)∧h'.fams=h.fams.set f (b,e+1)):=by
  unfold hstore at x;split at x
  ·rename_i c f k hg;cases ho:onesB vs
   ·simp[ho]at x
   ·simp only[ho,cond_true]at x;split at x
    ·rename_i c' hu;split at x
     ·rename_i hf;cases x;exact⟨c,f,k,c',hg,rfl,hu,rfl,rfl,.inl ⟨hf,rfl⟩⟩
     ·rename_i ow e hf;cases hb:Nat.beq ow b
      ·simp[hb]at x
      ·simp only[hb,cond_true]at x;cases x;have:ow=b:=Nat.eq_of_beq_eq_true hb;subst this;exact⟨c,f,k,c',hg,rfl,hu,rfl,rfl,.inr ⟨e,hf,rfl⟩⟩
    ·cases x
  ·cases x
theorem hstore_tys{h h':Heap}{b o:Nat}{vs:List V}(x:hstore h b o vs=some h'):h'.tys=h.tys:=by
  unfold hstore at x;split at x
  ·cases ho:onesB vs
   ·simp[ho]at x
   ·simp only[ho,cond_true]at x;split at x
    ·split at x
     ·cases x;rfl
     ·rename_i ow e hf;cases hb:Nat.beq ow b
      ·simp[hb]at x
      ·simp only[hb,cond_true]at x;cases x;rfl
    ·cases x
  ·cases x
theorem rd_owner{h:Heap}{b f k:Nat}(x:h.fams.get f=none∨∃e,h.fams.get f=some (b,e)):rd h b f k=true:=by
  unfold rd;rcases x with x|⟨e,x⟩<;>rw[x];show(Nat.beq b b||_)=true;have:Nat.beq b b=true:=Nat.beq_refl b;rw[this];rfl
/-- what is read of the others behind a write to b -/
theorem rd_other{h h':Heap}(W:HWF h){b f p:Nat}{cp:List V}{fp kp:Nat}{c:List V}{k:Nat}
    (hb:h.bl.get b=some (.row c f k)) (hp:h.bl.get p=some (.row cp fp kp)) (hne:p≠b)
    (hf:(h.fams.get f=none∧h'.fams=h.fams)∨∃e,h.fams.get f=some (b,e)∧h'.fams=h.fams.set f (b,e+1))
    (hr:rd h' p fp kp=true):fp≠f∧rd h p fp kp=true:=by
  rcases hf with⟨hn,he⟩|⟨e,hs,he⟩
  ·have hfp:fp≠f:=by
     intro e;subst e;have h1:=W.fam _ _ _ _ hb;have h2:=W.fam _ _ _ _ hp;rw[hn]at h1 h2;simp only[]at h1 h2;omega
   exact⟨hfp,by unfold rd at *;rw[he]at hr;exact hr⟩
  ·have hfp:fp≠f:=by
     intro q;subst q;unfold rd at hr;rw[he,T.get_set_self]at hr;have h2:=W.fam _ _ _ _ hp;rw[hs]at h2;simp only[]at h2;simp only[Bool.or_eq_true]at hr;rcases hr with hr|hr
     ·have:=Nat.eq_of_beq_eq_true hr;omega
     ·have:=Nat.eq_of_beq_eq_true hr;omega
   exact⟨hfp,by unfold rd at *;rw[he,T.get_set_ne _ _ hfp]at hr;exact hr⟩
theorem onesB_mem{vs:List V}{xs:List Value}{m:M}(h:onesB vs=true)(r:VsRel m vs xs):∀x∈xs,oneCell x=true:=by
  intro x hx;obtain⟨i,hi,he⟩:=List.getElem_of_mem hx;have hl:=r.length;have hi':i<vs.length:=by omega
  obtain⟨y,hy,ry⟩:=r.get i vs[i] (by simp[hi']);have:y=x:=by rw[List.getElem?_eq_getElem hi]at hy;cases hy;exact he
  subst this;exact ry.one (List.all_eq_true.1 h _ (List.getElem_mem hi'))
theorem HRel.store{m:M}{h h':Heap}{w:World}(H:HRel m h w)(P:Program){b o:Nat}{loc:Loc}{vs:List V}{xs:List Value}(hm:m b=some loc)
    (hs:hstore h b o vs=some h') (hv:VsRel m vs xs):
    ∃w',(storeCells ⟨loc.block,loc.base+o,none⟩ xs).run P w=.ok () w'∧HRel m h' w'∧Ext m h w m h' w':=by
  obtain⟨c,f,k,c',hg,h1,hu,hbl,hnx,hf⟩:=hstore_some hs;obtain⟨ul,ub,ug⟩:=updO_spec _ _ _ _ hu;have hrd:rd h b f k=true:=rd_owner (by rcases hf with⟨a,_⟩|⟨e,a,_⟩<;>simp[a])
  obtain⟨bk,hb,rel⟩:=H.blk b loc hm;rw[hg]at hb;cases hb;obtain⟨C,el,fz,hC,hroom,hcl,hcell,hfz⟩:=rel hrd;have hxl:=hv.length;have hbnd:xs≠[]→o+xs.length≤c.length:=by
    intro hn;have:=ub (by intro e;subst e;simp at hxl;exact hn hxl);omega
  obtain⟨w',hrun,hst⟩:∃w',(storeCells ⟨loc.block,loc.base+o,none⟩ xs).run P w=.ok () w'∧Stored loc.block (loc.base+o) xs w w':=by
    cases xs with
    |nil=>exact⟨w,rfl,⟨fun cur t f' e=>⟨cur,e,rfl,fun j=>by simp;intro a b;omega⟩,fun _ _=>rfl,rfl,rfl,rfl,rfl⟩⟩
    |cons y ys=>
      have hb':=hbnd (by simp);exact run_storeCells P loc.block (loc.base+o) el fz (y::ys) 0 C w hC (by omega)
        (fun j hj=>by have:=hfz (o+j) (by omega);rwa[show loc.base+(o+j)=loc.base+o+0+j by omega]at this) (onesB_mem h1 hv)
  refine⟨w',hrun,H.up (hstore_tys hs) ⟨?_,?_⟩⟩
  ·refine⟨?_,?_,?_,?_⟩
   ·refine⟨?_,?_⟩
    ·intro p cp fp kp hp;rw[hbl,T.get_set]at hp;have key:∀cq,h.bl.get p=some (.row cq fp kp)→match h'.fams.get fp with|none=>fp=p|some (_,e)=>kp≤e:=by
       intro cq hq;have:=H.wf.fam _ _ _ _ hq;rcases hf with⟨_,he⟩|⟨e,hse,he⟩
       ·rw[he];exact this
       ·rw[he,T.get_set];by_cases hff:fp=f
        ·subst hff;rw[hse]at this;rw[if_pos rfl];exact Nat.le_succ_of_le this
        ·rw[if_neg hff];exact this
     by_cases hpb:p=b
     ·rw[if_pos hpb]at hp;cases hp;subst hpb;exact key _ hg
     ·rw[if_neg hpb]at hp;exact key _ hp
    ·intro p hp;rw[hnx]at hp;have hfr:=H.wf.fresh p hp;have hpb:p≠b:=by intro e;subst e;rw[hg]at hfr;simp at hfr
     refine⟨by rw[hbl,T.get_set_ne _ _ hpb];exact hfr.1,?_⟩;rcases hf with⟨_,he⟩|⟨e,hse,he⟩
     ·rw[he];exact hfr.2
     ·rw[he,T.get_set_ne]
      ·exact hfr.2
      ·intro q;subst q;rw[hse]at hfr;simp at hfr
   ·intro p lp hp;by_cases hpb:p=b
    ·subst hpb;rw[hm]at hp;cases hp;refine⟨.row c' f k,by rw[hbl,T.get_set_self],fun _=>?_⟩;obtain⟨C',hC',hsz,hget⟩:=hst.row _ _ _ hC;refine⟨C',el,fz,hC',by omega,by omega,?_,hfz⟩;intro i v hi;rw[ug i]at hi;rw[hget (loc.base+i)];by_cases hc:o≤i∧i<o+vs.length
     ·rw[if_pos hc]at hi;obtain⟨x,hx,r⟩:=hv.get _ _ hi;have:i<c.length:=by
        have:=ub (by intro e;subst e;simp at hi);omega
      refine⟨x,?_,r⟩;rw[if_pos (by omega),if_pos (by omega),show loc.base+i-(loc.base+o)=i-o by omega];exact hx
     ·rw[if_neg hc]at hi;rw[if_neg (by omega)];exact hcell i v hi
    ·obtain⟨bp,hgp,relp⟩:=H.blk p lp hp;refine⟨bp,by rw[hbl,T.get_set_ne _ _ hpb];exact hgp,?_⟩;cases bp with
     |row cp fp kp=>
       intro hr;obtain⟨hff,hr0⟩:=rd_other H.wf hg hgp hpb hf hr;have hbk:lp.block≠loc.block:=by
         intro e;obtain⟨cp',cq',f',kp',kq',ha,hb2,_⟩:=H.sep p b lp loc hp hm e hpb;rw[hgp]at ha;cases ha;rw[hg]at hb2;cases hb2;exact hff rfl
       have:=relp hr0;rw[hst.other _ hbk];exact this
     |mp es clock=>
       have hbk:lp.block≠loc.block:=by
         intro e;obtain⟨cp',cq',f',kp',kq',ha,hb2,_⟩:=H.sep p b lp loc hp hm e hpb;rw[hgp]at ha;cases ha
       show∃es',w'.heap[lp.block]? =_∧_;rw[hst.other _ hbk];exact relp
     |lp ps as bd en st pend=>
       have hbk:lp.block≠loc.block:=by
         intro e;obtain⟨cp',cq',f',kp',kq',ha,hb2,_⟩:=H.sep p b lp loc hp hm e hpb;rw[hgp]at ha;cases ha
       obtain⟨g,q1,q2,q3,q4,q5,q6⟩:=relp;exact⟨g,q1,q2,q3,q4,(hst.other _ hbk).trans q5,q6⟩
     |si s pos=>
       have hbk:lp.block≠loc.block:=by
         intro e;obtain⟨cp',cq',f',kp',kq',ha,hb2,_⟩:=H.sep p b lp loc hp hm e hpb;rw[hgp]at ha;cases ha
       exact⟨relp.1,(hst.other _ hbk).trans relp.2⟩
     |dead=>trivial
   ·intro p lp hp;rw[hst.size];exact H.inb p lp hp
   ·intro p q lp lq hp hq he hne;obtain⟨cp,cq,f',kp,kq,ha,hb2,hl⟩:=H.sep p q lp lq hp hq he hne;have fin:∀cp' cq':List V,cp'.length=cp.length→cq'.length=cq.length→h'.bl.get p=some (.row cp' f' kp)→h'.bl.get q=some (.row cq' f' kq)→
        ∃cp cq f kp kq,h'.bl.get p=some (.row cp f kp)∧h'.bl.get q=some (.row cq f kq)∧(∀e,h'.fams.get f=some (q,e)→lp.base+cp.length≤lq.base+cq.length):=by
      intro cp' cq' e1 e2 g1 g2;refine⟨cp',cq',f',kp,kq,g1,g2,fun e hfe=>?_⟩;rw[e1,e2];rcases hf with⟨_,hee⟩|⟨e',hse,hee⟩
      ·rw[hee]at hfe;exact hl e hfe
      ·rw[hee,T.get_set]at hfe;by_cases hff:f'=f
       ·subst hff;rw[if_pos rfl]at hfe;cases hfe;exact hl _ hse
       ·rw[if_neg hff]at hfe;exact hl e hfe
    by_cases hpb:p=b
    ·subst hpb;rw[hg]at ha;cases ha;exact fin c' cq ul rfl (by rw[hbl,T.get_set_self]) (by rw[hbl,T.get_set_ne _ _ (Ne.symm hne)];exact hb2)
    ·by_cases hqb:q=b
     ·subst hqb;rw[hg]at hb2;cases hb2;exact fin cp c' rfl ul (by rw[hbl,T.get_set_ne _ _ hpb];exact ha) (by rw[hbl,T.get_set_self])
     ·exact fin cp cq rfl rfl (by rw[hbl,T.get_set_ne _ _ hpb];exact ha) (by rw[hbl,T.get_set_ne _ _ hqb];exact hb2)
  ·refine⟨fun _ _ x=>x,fun _ _ a b=>by simp[a]at b,by rw[hnx];exact Nat.le_refl _,?_,by rw[hst.size];exact Nat.le_refl _,?_,hst.os,hst.tape,hst.output,fun _ _ _ x=>x,?_,fun _ _ a b=>by simp[a]at b⟩
   ·intro p hp _;have hpb:p≠b:=by intro e;subst e;rw[hm]at hp;cases hp
    rw[hbl,T.get_set_ne _ _ hpb]
   ·intro g hgn _;exact hst.other g (fun e=>hgn b loc hm e.symm)
   ·intro g hgl;by_cases hgb:g=loc.block
    ·subst hgb;obtain⟨C',hC',hsz,hget⟩:=hst.row _ _ _ hC;intro x hx;rw[hC]at hx;cases hx;refine⟨_,hC',rfl,.inl rfl,hsz,fun j hj=>?_⟩;rw[hget j];by_cases hc:loc.base+o≤j∧j<loc.base+o+xs.length
     ·exfalso;have:=hbnd (by intro e;subst e;simp at hc;omega);exact hj ⟨b,loc,hm,rfl,by omega,by omega⟩
     ·rw[if_neg hc]
    ·exact Kept.of_eq (hst.other g hgb)
theorem HRel.congr{m:M}{h:Heap}{w w':World}(H:HRel m h w)(e:w'.heap=w.heap):HRel m h w':=by
  refine⟨⟨H.wf,fun p loc hp=>?_,fun p loc hp=>by rw[e];exact H.inb p loc hp,H.sep⟩,fun p ty n hp=>by rw[e];exact H.tg p ty n hp⟩;obtain⟨b,hb,r⟩:=H.blk p loc hp;refine⟨b,hb,?_⟩;cases b with
  |row c f k=>intro hr;rw[e];exact r hr
  |mp es clock=>show∃es',w'.heap[loc.block]? =_∧_;rw[e];exact r
  |lp ps as bd en st pend=>
    obtain⟨g,q1,q2,q3,q4,q5,q6⟩:=r;exact⟨g,q1,q2,q3,q4,by rw[e];exact q5,q6⟩
  |si s pos=>exact⟨r.1,by rw[e];exact r.2⟩
  |dead=>trivial
theorem Ext.drew(m:M)(h:Heap)(w:World):Ext m h w m h w.drew:=
  ⟨fun _ _ x=>x,fun _ _ a b=>by simp[a]at b,Nat.le_refl _,fun _ _ _=>rfl,Nat.le_refl _,fun _ _ _=>rfl,rfl,rfl,rfl,fun _ _ _ x=>x,fun _ _=>Kept.refl _ _ _,fun _ _ a b=>by simp[a]at b⟩
def mset(m:M)(p:Nat)(loc:Loc):M:=fun q=>if q=p then some loc else m q
theorem mset_self(m:M)(p:Nat)(loc:Loc):mset m p loc p=some loc:=if_pos rfl
theorem mset_ne(m:M){p q:Nat}(loc:Loc)(h:q≠p):mset m p loc q=m q:=if_neg h
theorem HRel.unmapped{m:M}{h:Heap}{w:World}(H:HRel m h w){p:Nat}(hp:h.next≤p):m p=none:=by
  cases hm:m p with
  |none=>rfl
  |some loc=>
    obtain⟨b,hb,_⟩:=H.blk p loc hm;rw[(H.wf.fresh p hp).1]at hb;cases hb
theorem HRel.le_mset{m:M}{h:Heap}{w:World}(H:HRel m h w)(loc:Loc):Le m (mset m h.next loc):=by
  intro p l hp;rw[mset_ne]
  ·exact hp
  ·intro e;subst e;rw[H.unmapped (Nat.le_refl _)]at hp;cases hp
theorem Cov.new{n:Nat}(m:M)(p:Nat)(loc:Loc)(h:loc.block=n):∀b i,b<n→Cov (mset m p loc) b i→Cov m b i:=by
  rintro b i hb ⟨q,l,hq,h1,h2,h3⟩;by_cases e:q=p
  ·subst e;rw[mset_self]at hq;cases hq;omega
  ·rw[mset_ne _ _ e]at hq;exact⟨q,l,hq,h1,h2,h3⟩
noncomputable def halloc(h:Heap)(c:List V):Heap:=⟨h.bl.set h.next (.row c h.next 0),h.next+1,h.fams,h.tys⟩
theorem BRel.mono{m m':M}(hle:Le m m'){h h':Heap}{p:Nat}{loc:Loc}{w w':World}{b:Blk}(r:BRel m h p loc w b)
    (hr:∀c f k,b=.row c f k→rd h' p f k=true→rd h p f k=true) (hw:w'.heap[loc.block]? =w.heap[loc.block]?):BRel m' h' p loc w' b:=by
  cases b with
  |row c f k=>
    intro hrd;obtain⟨C,el,fz,a,b,c',d,e⟩:=r (hr c f k rfl hrd);exact⟨C,el,fz,hw.trans a,b,c',fun i v hi=>let⟨x,hx,rx⟩:=d i v hi;⟨x,hx,VRel.mono hle _ _ rx⟩,e⟩
  |mp es clock=>
    obtain⟨es',a,b,c⟩:=r;refine⟨es',hw.trans a,b,fun i k v n hi=>?_⟩;obtain⟨e,he,r1,r2,r3⟩:=c i k v n hi;exact⟨e,he,VRel.mono hle _ _ r1,VRel.mono hle _ _ r2,r3⟩
  |lp ps as bd en st pend=>
    obtain⟨g,q1,q2,q3,q4,q5,q6⟩:=r;exact⟨g,q1,q2,q3,q4,hw.trans q5,fun s v hs=>(q6 s v hs).imp id fun q=>⟨q.1,VRel.mono hle _ _ q.2⟩⟩
  |si s pos=>exact⟨r.1,hw.trans r.2⟩
  |dead=>trivial
theorem lps_mset{m:M}{p:Nat}{loc:Loc}(h:loc.lp=none):∀q l,mset m p loc q=some l→m q=none→l.lp=none:=by
  intro q l hq hn;by_cases e:q=p
  ·subst e;rw[mset_self]at hq;cases hq;exact h
  ·rw[mset_ne _ _ e,hn]at hq;cases hq
theorem HRel.alloc{m:M}{h:Heap}{w:World}(H:HRel m h w)(c:List V)(X:Array Value)(elem:TypeId)(hlen:c.length≤X.size)
    (hr:∀(i:Nat) v,c[i]? =some v→∃x,X[i]? =some x∧VRel m v x):
    HRel (mset m h.next ⟨w.heap.size,0,X.size,none⟩) (halloc h c) (w.alloc (.cells X elem))∧
    Ext m h w (mset m h.next ⟨w.heap.size,0,X.size,none⟩) (halloc h c) (w.alloc (.cells X elem)):=by
  have hle:=H.le_mset ⟨w.heap.size,0,X.size,none⟩;have hold:∀p loc,m p=some loc→p≠h.next:=fun p loc hp e=>by subst e;rw[H.unmapped (Nat.le_refl _)]at hp;cases hp
  refine H.up rfl ⟨⟨⟨?_,?_⟩,?_,?_,?_⟩,⟨hle,?_,Nat.le_succ _,?_,by simp,?_,rfl,rfl,rfl,Cov.new m _ _ rfl,fun b hb=>Kept.of_eq (heap_alloc_old w _ _ hb),lps_mset rfl⟩⟩
  ·intro p cp f k hp;show match h.fams.get f with|none=>f=p|some (_,e)=>k≤e
   rw[halloc,T.get_set]at hp;by_cases e:p=h.next
   ·rw[if_pos e]at hp;cases hp;rw[(H.wf.fresh h.next (Nat.le_refl _)).2];exact e.symm
   ·rw[if_neg e]at hp;exact H.wf.fam _ _ _ _ hp
  ·intro p hp;have hp':h.next+1≤p:=hp;refine⟨?_,(H.wf.fresh p (by omega)).2⟩;rw[halloc,T.get_set_ne _ _ (by omega)];exact(H.wf.fresh p (by omega)).1
  ·intro p loc hp;by_cases e:p=h.next
   ·subst e;rw[mset_self]at hp;cases hp;refine⟨.row c h.next 0,by rw[halloc,T.get_set_self],fun _=>?_⟩;refine⟨X,elem,(0,0),heap_alloc_new w _,by simp,hlen,fun i v hi=>?_,fun i _=>by simp⟩;obtain⟨x,hx,rx⟩:=hr i v hi;exact⟨x,by simpa using hx,VRel.mono hle _ _ rx⟩
   ·rw[mset_ne _ _ e]at hp;obtain⟨b,hb,r⟩:=H.blk p loc hp;refine⟨b,by rw[halloc,T.get_set_ne _ _ e];exact hb,r.mono hle (fun _ _ _ _ x=>x) (heap_alloc_old w _ _ (H.inb p loc hp))⟩
  ·intro p loc hp;by_cases e:p=h.next
   ·subst e;rw[mset_self]at hp;cases hp;simp
   ·rw[mset_ne _ _ e]at hp;have:=H.inb p loc hp;simp;omega
  ·intro p q lp lq hp hq he hne;by_cases e:p=h.next
   ·subst e;rw[mset_self]at hp;cases hp;rw[mset_ne _ _ (Ne.symm hne)]at hq;have:=H.inb q lq hq;simp only[]at he;omega
   ·rw[mset_ne _ _ e]at hp;by_cases e2:q=h.next
    ·subst e2;rw[mset_self]at hq;cases hq;have:=H.inb p lp hp;simp only[]at he;omega
    ·rw[mset_ne _ _ e2]at hq;obtain⟨cp,cq,f,kp,kq,a,b,d⟩:=H.sep p q lp lq hp hq he hne;exact⟨cp,cq,f,kp,kq,by rw[halloc,T.get_set_ne _ _ e];exact a,by rw[halloc,T.get_set_ne _ _ e2];exact b,d⟩
  ·intro p loc hp hn;by_cases e:p=h.next
   ·subst e;rw[mset_self]at hp;cases hp;exact⟨Nat.le_refl _,.inl (Nat.le_refl _)⟩
   ·rw[mset_ne _ _ e]at hp;rw[hp]at hn;cases hn
  ·intro p _ hp;rw[halloc,T.get_set_ne _ _ (by omega)]
  ·intro b _ hb;exact heap_alloc_old w _ _ hb
/-- a block takes the place of another in its family -/
noncomputable def hsuper(h:Heap)(b pos:Nat)(c':List V):Option Heap:=
  match h.bl.get b with
  |some (.row c f _)=>
    let go (e:Nat):Option Heap:=some ⟨(h.bl.set b (.row c f e)).set h.next (.row c' f 0),h.next+1,h.fams.set f (h.next,bif Nat.beq pos c.length then e else e+1),h.tys⟩;match h.fams.get f with
    |none=>go 0
    |some (ow,e)=>bif Nat.beq ow b then go e else none
  |_=>none
theorem hsuper_some{h h':Heap}{b pos:Nat}{c':List V}(W:HWF h)(x:hsuper h b pos c'=some h'):∃c f k e e',h.bl.get b=some (.row c f k)∧
    ((h.fams.get f=none∧f=b∧e=0)∨h.fams.get f=some (b,e))∧(e'=e∧pos=c.length∨e'=e+1)∧
    h'.bl=(h.bl.set b (.row c f e)).set h.next (.row c' f 0)∧h'.next=h.next+1∧h'.fams=h.fams.set f (h.next,e'):=by
  unfold hsuper at x;split at x
  ·rename_i c f k hg;have hee:∀e:Nat,(bif Nat.beq pos c.length then e else e+1)=e∧pos=c.length∨(bif Nat.beq pos c.length then e else e+1)=e+1:=by
     intro e;cases hb:Nat.beq pos c.length
     ·right;rfl
     ·left;exact⟨rfl,Nat.eq_of_beq_eq_true hb⟩
   split at x
   ·rename_i hf;cases x;refine⟨c,f,k,0,_,hg,.inl ⟨hf,?_,rfl⟩,hee 0,rfl,rfl,rfl⟩;have:=W.fam _ _ _ _ hg;rw[hf]at this;exact this
   ·rename_i ow e hf;cases hb:Nat.beq ow b
    ·simp[hb]at x
    ·simp only[hb,cond_true]at x;cases x;have:ow=b:=Nat.eq_of_beq_eq_true hb;subst this;exact⟨c,f,k,e,_,hg,.inr hf,hee e,rfl,rfl,rfl⟩
  ·cases x
theorem hsuper_tys{h h':Heap}{b pos:Nat}{c':List V}(x:hsuper h b pos c'=some h'):h'.tys=h.tys:=by
  unfold hsuper at x;split at x
  ·split at x
   ·cases x;rfl
   ·rename_i ow e hf;cases hb:Nat.beq ow b
    ·simp[hb]at x
    ·simp only[hb,cond_true]at x;cases x;rfl
  ·cases x
/-- the model's memory behind it: the old row written behind its end, or a new row -/
theorem HRel.super{m:M}{h h':Heap}{w w':World}(H:HRel m h w){b o n:Nat}{loc:Loc}{c' news:List V}{c:List V}{f k:Nat}{loc':Loc}
    (hm:m b=some loc) (hg:h.bl.get b=some (.row c f k)) (hs:hsuper h b (o+n) c'=some h')
    (hlen:c'.length=n+news.length) (hon:o+n≤c.length) (hbig:c.length≤o+n+news.length)
    (hnew:loc'.base+loc'.room≤loc'.base+loc'.room∧c'.length≤loc'.room)
    (hcell:∃C' el fz',w'.heap[loc'.block]? =some (.cells C' el fz')∧loc'.base+loc'.room≤C'.size∧
      (∀(i:Nat) v,c'[i]? =some v→∃x,C'[loc'.base+i]? =some x∧VRel m v x)∧(∀i:Nat,i<loc'.room→¬(fz'.1≤loc'.base+i∧loc'.base+i<fz'.2)))
    (hcase:(loc'.block=w.heap.size∧(∀i,i<w.heap.size→w'.heap[i]? =w.heap[i]?))∨
      (loc'.block=loc.block∧loc'.base=loc.base+o∧(∀i,i≠loc.block→w'.heap[i]? =w.heap[i]?)∧
        ∀C el fz,w.heap[loc.block]? =some (.cells C el fz)→∃C',w'.heap[loc.block]? =some (.cells C' el fz)∧C'.size=C.size∧∀j:Nat,j<loc.base+(o+n)→C'[j]? =C[j]?))
    (hcov:loc'.block=loc.block→loc'.base+loc'.room≤loc.base+loc.room∧∀C el fz C',w.heap[loc.block]? =some (.cells C el fz)→w'.heap[loc.block]? =some (.cells C' el fz)→∀j:Nat,loc.base+loc.room≤j→C'[j]? =C[j]?)
    (hsz:w.heap.size≤w'.heap.size) (hin:loc'.block<w'.heap.size) (hos:w'.os=w.os) (htp:w'.tape=w.tape) (hout:w'.output=w.output) (hlp:loc'.lp=none:=by rfl):
    HRel (mset m h.next loc') h' w'∧Ext m h w (mset m h.next loc') h' w':=by
  obtain⟨c0,f0,k0,e,e',hg0,hfam,hee,hbl,hnx,hfs⟩:=hsuper_some H.wf hs;rw[hg]at hg0;cases hg0;have hle:=H.le_mset loc';have hbn:b≠h.next:=fun x=>by subst x;rw[H.unmapped (Nat.le_refl _)]at hm;cases hm
  have hfn:f<h.next:=by
    rcases Nat.lt_or_ge f h.next with q|q
    ·exact q
    ·have hfr:=H.wf.fresh f q;rcases hfam with⟨_,rfl,_⟩|hf
     ·rw[hg]at hfr;simp at hfr
     ·rw[hf]at hfr;simp at hfr
  have hfb:∀p cp kp,h.bl.get p=some (.row cp f kp)→p≠b→h.fams.get f=some (b,e)∧kp≤e:=by
    intro p cp kp hp hne;have hw:=H.wf.fam _ _ _ _ hp;rcases hfam with⟨hn,hfb,_⟩|hf
    ·rw[hn]at hw;simp only[]at hw;omega
    ·rw[hf]at hw;exact⟨hf,hw⟩
  have gb:h'.bl.get b=some (.row c f e):=by rw[hbl,T.get_set_ne _ _ hbn,T.get_set_self]
  have gn:h'.bl.get h.next=some (.row c' f 0):=by rw[hbl,T.get_set_self]
  have go:∀p,p≠b→p≠h.next→h'.bl.get p=h.bl.get p:=fun p h1 h2=>by rw[hbl,T.get_set_ne _ _ h2,T.get_set_ne _ _ h1]
  have gf:h'.fams.get f=some (h.next,e'):=by rw[hfs,T.get_set_self]
  have gfo:∀g,g≠f→h'.fams.get g=h.fams.get g:=fun g hgf=>by rw[hfs,T.get_set_ne _ _ hgf]
  have hold:∀p l,m p=some l→p≠h.next:=fun p l hp x=>by subst x;rw[H.unmapped (Nat.le_refl _)]at hp;cases hp
  refine H.up (hsuper_tys hs) ⟨⟨⟨?_,?_⟩,?_,?_,?_⟩,⟨hle,?_,by omega,?_,hsz,?_,hos,htp,hout,?_,?_,lps_mset hlp⟩⟩
  ·intro p cp fp kp hp;by_cases hfp:fp=f
   ·subst hfp;rw[gf];show kp≤e';by_cases h1:p=h.next
    ·subst h1;rw[gn]at hp;cases hp;exact Nat.zero_le _
    ·by_cases h2:p=b
     ·subst h2;rw[gb]at hp;cases hp;omega
     ·rw[go p h2 h1]at hp;have:=(hfb p cp kp hp h2).2;omega
   ·rw[gfo fp hfp];by_cases h1:p=h.next
    ·subst h1;rw[gn]at hp;cases hp;exact absurd rfl hfp
    ·by_cases h2:p=b
     ·subst h2;rw[gb]at hp;cases hp;exact absurd rfl hfp
     ·rw[go p h2 h1]at hp;exact H.wf.fam _ _ _ _ hp
  ·intro p hp;rw[hnx]at hp;have hb':b<h.next:=by
     rcases Nat.lt_or_ge b h.next with q|q
     ·exact q
     ·rw[H.unmapped q]at hm;cases hm
   rw[go p (by omega) (by omega),gfo p (by omega)];exact H.wf.fresh p (by omega)
  ·intro p lp hp;by_cases h1:p=h.next
   ·subst h1;rw[mset_self]at hp;cases hp;refine⟨_,gn,fun _=>?_⟩;obtain⟨C',el,fz',a1,a2,a3,a4⟩:=hcell;exact⟨C',el,fz',a1,a2,hnew.2,fun i v hi=>let⟨x,hx,rx⟩:=a3 i v hi;⟨x,hx,VRel.mono hle _ _ rx⟩,a4⟩
   ·rw[mset_ne _ _ h1]at hp;by_cases h2:p=b
    ·subst h2;rw[hm]at hp;cases hp;refine⟨_,gb,fun hr=>?_⟩;have hpos:o+n=c.length:=by
       unfold rd at hr;rw[gf]at hr;simp only[Bool.or_eq_true]at hr;rcases hr with hr|hr
       ·have:=Nat.eq_of_beq_eq_true hr;omega
       ·have:=Nat.eq_of_beq_eq_true hr;omega
     obtain⟨bk,hb,rel⟩:=H.blk p loc hm;rw[hg]at hb;cases hb;obtain⟨C,el,fz,hC,a2,a3,a4,a5⟩:=rel (rd_owner (by rcases hfam with⟨q,_⟩|q<;>simp[q]));rcases hcase with⟨_,hk⟩|⟨_,_,_,hk⟩
     ·exact⟨C,el,fz,by rw[hk _ (H.inb p loc hm)];exact hC,a2,a3,fun i v hi=>let⟨x,hx,rx⟩:=a4 i v hi;⟨x,hx,VRel.mono hle _ _ rx⟩,a5⟩
     ·obtain⟨C',hC',hs',hj⟩:=hk C el fz hC;refine⟨C',el,fz,hC',by omega,a3,fun i v hi=>?_,a5⟩;obtain⟨x,hx,rx⟩:=a4 i v hi;have:i<c.length:=by
        rcases Nat.lt_or_ge i c.length with q|q
        ·exact q
        ·rw[List.getElem?_eq_none q]at hi;cases hi
      exact⟨x,by rw[hj _ (by omega)];exact hx,VRel.mono hle _ _ rx⟩
    ·obtain⟨bp,hgp,relp⟩:=H.blk p lp hp;refine⟨bp,by rw[go p h2 h1];exact hgp,?_⟩;have hinb:=H.inb p lp hp;cases bp with
     |mp es clock=>
       have hbk:lp.block≠loc.block:=by
         intro q;obtain⟨_,_,_,_,_,ha,_,_⟩:=H.sep p b lp loc hp hm q h2;rw[hgp]at ha;cases ha
       exact relp.mono hle (fun _ _ _ q=>by cases q) (by rcases hcase with⟨_,hk⟩|⟨_,_,hk,_⟩<;>exact hk _ (by assumption))
     |lp ps as bd en st pend=>
       have hbk:lp.block≠loc.block:=by
         intro q;obtain⟨_,_,_,_,_,ha,_,_⟩:=H.sep p b lp loc hp hm q h2;rw[hgp]at ha;cases ha
       exact relp.mono hle (fun _ _ _ q=>by cases q) (by rcases hcase with⟨_,hk⟩|⟨_,_,hk,_⟩<;>exact hk _ (by assumption))
     |si s pos=>
       have hbk:lp.block≠loc.block:=by
         intro q;obtain⟨_,_,_,_,_,ha,_,_⟩:=H.sep p b lp loc hp hm q h2;rw[hgp]at ha;cases ha
       exact relp.mono hle (fun _ _ _ q=>by cases q) (by rcases hcase with⟨_,hk⟩|⟨_,_,hk,_⟩<;>exact hk _ (by assumption))
     |dead=>trivial
     |row cp fp kp=>
       intro hr;by_cases hfp:fp=f
       ·subst hfp;obtain⟨hfe,hke⟩:=hfb p cp kp hgp h2;have hkk:kp=e':=by
          unfold rd at hr;rw[gf]at hr;simp only[Bool.or_eq_true]at hr;rcases hr with hr|hr
          ·have:=Nat.eq_of_beq_eq_true hr;omega
          ·exact Nat.eq_of_beq_eq_true hr
        have hpe:kp=e∧o+n=c.length:=by omega
        have hr0:rd h p fp kp=true:=by
          unfold rd;rw[hfe];show(_||Nat.beq kp e)=true;rw[hpe.1,Nat.beq_refl];simp
        obtain⟨C,el,fz,hC,a2,a3,a4,a5⟩:=relp hr0;by_cases hbk:lp.block=loc.block
        ·obtain⟨cp',cq',f',kp',kq',ha,hb2,hl⟩:=H.sep p b lp loc hp hm hbk h2;rw[hgp]at ha;cases ha;rw[hg]at hb2;cases hb2;have hext:=hl e hfe;rcases hcase with⟨_,hk⟩|⟨_,_,_,hk⟩
         ·exact⟨C,el,fz,by rw[hk _ hinb];exact hC,a2,a3,fun i v hi=>let⟨x,hx,rx⟩:=a4 i v hi;⟨x,hx,VRel.mono hle _ _ rx⟩,a5⟩
         ·obtain⟨C',hC',hs',hj⟩:=hk C el fz (by rw[←hbk];exact hC);refine⟨C',el,fz,by rw[hbk];exact hC',by omega,a3,fun i v hi=>?_,a5⟩;obtain⟨x,hx,rx⟩:=a4 i v hi;have:i<cp.length:=by
            rcases Nat.lt_or_ge i cp.length with q|q
            ·exact q
            ·rw[List.getElem?_eq_none q]at hi;cases hi
          exact⟨x,by rw[hj _ (by omega)];exact hx,VRel.mono hle _ _ rx⟩
        ·refine⟨C,el,fz,?_,a2,a3,fun i v hi=>let⟨x,hx,rx⟩:=a4 i v hi;⟨x,hx,VRel.mono hle _ _ rx⟩,a5⟩;rw[←hC];rcases hcase with⟨_,hk⟩|⟨_,_,hk,_⟩<;>exact hk _ (by assumption)
       ·have hbk:lp.block≠loc.block:=by
          intro q;obtain⟨_,_,_,_,_,ha,hb2,_⟩:=H.sep p b lp loc hp hm q h2;rw[hgp]at ha;cases ha;rw[hg]at hb2;cases hb2;exact hfp rfl
        have hr0:rd h p fp kp=true:=by unfold rd at *;rw[gfo fp hfp]at hr;exact hr
        obtain⟨C,el,fz,hC,a2,a3,a4,a5⟩:=relp hr0;refine⟨C,el,fz,?_,a2,a3,fun i v hi=>let⟨x,hx,rx⟩:=a4 i v hi;⟨x,hx,VRel.mono hle _ _ rx⟩,a5⟩;rw[←hC];rcases hcase with⟨_,hk⟩|⟨_,_,hk,_⟩<;>exact hk _ (by assumption)
  ·intro p lp hp;by_cases h1:p=h.next
   ·subst h1;rw[mset_self]at hp;cases hp;exact hin
   ·rw[mset_ne _ _ h1]at hp;have:=H.inb p lp hp;omega
  ·intro p q lp lq hp hq he hne;have own:∀g q',q'≠h.next→∀x,h'.fams.get g=some (q',x)→g≠f:=by
     intro g q' hq' x hx hgf;subst hgf;rw[gf]at hx;cases hx;exact hq' rfl
   by_cases h1:p=h.next
   ·subst h1;rw[mset_self]at hp;cases hp;rw[mset_ne _ _ (Ne.symm hne)]at hq;have hqb:=H.inb q lq hq;rcases hcase with⟨hk,_⟩|⟨hk,hk2,_,_⟩
    ·omega
    ·by_cases h3:q=b
     ·subst h3;exact⟨c',c,f,0,e,gn,gb,fun x hx=>absurd rfl (own f q hbn x hx)⟩
     ·obtain⟨cq,c0,f0,kq,kb,ha,hb2,_⟩:=H.sep q b lq loc hq hm (by omega) h3;rw[hg]at hb2;cases hb2;exact⟨c',cq,f,0,kq,gn,by rw[go q h3 (Ne.symm hne)];exact ha,fun x hx=>absurd rfl (own f q (Ne.symm hne) x hx)⟩
   ·rw[mset_ne _ _ h1]at hp;have hpb:=H.inb p lp hp;by_cases h2:q=h.next
    ·subst h2;rw[mset_self]at hq;cases hq;rcases hcase with⟨hk,_⟩|⟨hk,hk2,_,_⟩
     ·omega
     ·by_cases h3:p=b
      ·subst h3;rw[hm]at hp;cases hp;exact⟨c,c',f,e,0,gb,gn,fun x hx=>by rw[hk2,hlen];omega⟩
      ·obtain⟨cp,c0,f0,kp,kb,ha,hb2,hl⟩:=H.sep p b lp loc hp hm (by omega) h3;rw[hg]at hb2;cases hb2;refine⟨cp,c',f,kp,0,by rw[go p h3 h1];exact ha,gn,fun x hx=>?_⟩;have:=hl e (hfb p cp kp ha h3).1;rw[hk2,hlen];omega
    ·rw[mset_ne _ _ h2]at hq;obtain⟨cp,cq,f',kp,kq,ha,hb2,hl⟩:=H.sep p q lp lq hp hq he hne;have fin:∀kp' kq',h'.bl.get p=some (.row cp f' kp')→h'.bl.get q=some (.row cq f' kq')→
         ∃cp cq f kp kq,h'.bl.get p=some (.row cp f kp)∧h'.bl.get q=some (.row cq f kq)∧(∀e,h'.fams.get f=some (q,e)→lp.base+cp.length≤lq.base+cq.length):=
       fun kp' kq' g1 g2=>⟨cp,cq,f',kp',kq',g1,g2,fun x hx=>by
         have:=own f' q h2 x hx;rw[gfo f' this]at hx;exact hl x hx⟩
     by_cases h3:p=b
     ·subst h3;rw[hg]at ha;cases ha;exact fin e kq gb (by rw[go q (Ne.symm hne) h2];exact hb2)
     ·by_cases h4:q=b
      ·subst h4;rw[hg]at hb2;cases hb2;exact fin kp e (by rw[go p h3 h1];exact ha) gb
      ·exact fin kp kq (by rw[go p h3 h1];exact ha) (by rw[go q h4 h2];exact hb2)
  ·intro p lp hp hn;by_cases h1:p=h.next
   ·subst h1;rw[mset_self]at hp;cases hp;refine⟨Nat.le_refl _,?_⟩;rcases hcase with⟨hk,_⟩|⟨hk,_⟩
    ·exact .inl (by omega)
    ·exact .inr ⟨b,loc,hm,hk.symm⟩
   ·rw[mset_ne _ _ h1]at hp;rw[hp]at hn;cases hn
  ·intro p hp hlt;exact go p (fun x=>by subst x;rw[hm]at hp;cases hp) (by omega)
  ·intro g hgn hgl;rcases hcase with⟨_,hk⟩|⟨_,_,hk,_⟩
   ·exact hk g hgl
   ·exact hk g (fun x=>hgn b loc hm x.symm)
  ·rintro g i hgl ⟨q,l,hq,h1,h2,h3⟩;by_cases h4:q=h.next
   ·subst h4;rw[mset_self]at hq;cases hq;rcases hcase with⟨hk,_⟩|⟨hk,hk2,_⟩
    ·omega
    ·have:=(hcov hk).1;exact⟨b,loc,hm,by omega,by omega,by omega⟩
   ·rw[mset_ne _ _ h4]at hq;exact⟨q,l,hq,h1,h2,h3⟩
  ·intro g hgl;rcases hcase with⟨_,hk⟩|⟨hk1,_,hk,hk3⟩
   ·exact Kept.of_eq (hk g hgl)
   ·by_cases h4:g=loc.block
    ·subst h4;obtain⟨bk,hb,rel⟩:=H.blk b loc hm;rw[hg]at hb;cases hb;obtain⟨C,el,fz,hC,a2,a3,a4,a5⟩:=rel (rd_owner (by rcases hfam with⟨q,_⟩|q<;>simp[q]));obtain⟨C',hC',hs',hj⟩:=hk3 C el fz hC;intro x hx;rw[hC]at hx;cases hx;refine⟨_,hC',rfl,.inl rfl,hs',fun j hjn=>?_⟩;rcases Nat.lt_or_ge j (loc.base+(o+n))with c1|c1
     ·exact hj j c1
     ·rcases Nat.lt_or_ge j (loc.base+loc.room)with c2|c2
      ·exact absurd ⟨b,loc,hm,rfl,by omega,c2⟩ hjn
      ·exact(hcov hk1).2 C el fz C' hC hC' j c2
    ·exact Kept.of_eq (hk g h4)
def lim:IntKind→Nat
  |.i8=>128|.i16=>32768|.i32=>2147483648|.i64=>9223372036854775808
  |.u8=>256|.u16=>65536|.u32=>4294967296|.u64=>18446744073709551616
def fwrap(k:IntKind)(n:Int):Int:=
  match n with
  |.ofNat a=>bif Nat.blt a (lim k)then .ofNat a else k.wrap (.ofNat a)
  |.negSucc a=>bif k.signed&&Nat.blt a (lim k)then .negSucc a else k.wrap (.negSucc a)
theorem fwrap_eq(k:IntKind)(n:Int):fwrap k n=k.wrap n:=by
  cases n with
  |ofNat a=>
    simp only[fwrap];cases h:Nat.blt a (lim k)
    ·rfl
    ·have h':a<lim k:=by simpa[Nat.blt_eq]using h
     simp only[cond_true,IntKind.wrap];cases k<;>simp[lim]at h'<;>simp[IntKind.bits,IntKind.signed]<;>omega
  |negSucc a=>
    simp only[fwrap];cases hs:k.signed
    ·rfl
    ·cases h:Nat.blt a (lim k)
     ·rfl
     ·have h':a<lim k:=by simpa[Nat.blt_eq]using h
      simp only[Bool.and_self,cond_true,IntKind.wrap];have e:Int.negSucc a=-(a:Int)-1:=by omega
      rw[e];cases k<;>simp only[IntKind.signed,Bool.false_eq_true]at hs<;>simp only[lim]at h'<;>
        simp only[IntKind.bits,IntKind.signed,Bool.true_and,Nat.reduceSub,Int.reducePow]<;>split<;>rename_i hh<;>simp only[decide_eq_true_eq,ge_iff_le]at hh<;>omega
def ilt:Int→Int→Bool
  |.ofNat a,.ofNat b=>Nat.blt a b
  |.ofNat _,.negSucc _=>false
  |.negSucc _,.ofNat _=>true
  |.negSucc a,.negSucc b=>Nat.blt b a
theorem ilt_eq(a b:Int):ilt a b=decide (a<b):=by
  rw[Bool.eq_iff_iff];cases a<;>cases b<;>simp[ilt,Nat.blt_eq]<;>omega
def ieq:Int→Int→Bool
  |.ofNat a,.ofNat b=>Nat.beq a b
  |.negSucc a,.negSucc b=>Nat.beq a b
  |_,_=>false
theorem ieq_eq(a b:Int):ieq a b=(a==b):=by
  rw[Bool.eq_iff_iff];cases a<;>cases b<;>simp[ieq];omega
def kbeq(k k':IntKind):Bool:=Nat.beq k.ctorIdx k'.ctorIdx
theorem kbeq_eq{k k':IntKind}(h:kbeq k k'=true):k=k':=by
  cases k<;>cases k'<;>first|rfl|(simp[kbeq,IntKind.ctorIdx]at h)
def ibin(op:BinOp)(k:IntKind)(a b:Int):Option V:=
  match op with
  |.add=>some (.int k (fwrap k (Int.add a b)))
  |.sub=>some (.int k (fwrap k (Int.sub a b)))
  |.mul=>some (.int k (fwrap k (Int.mul a b)))
  |.quo=>bif ieq b 0 then none else some (.int k (fwrap k (Int.tdiv a b)))
  |.rem=>bif ieq b 0 then none else some (.int k (Int.tmod a b))
  |.and=>some (.int k (fwrap k (BitVec.toNat (BitVec.ofInt k.bits a&&&BitVec.ofInt k.bits b))))
  |.or=>some (.int k (fwrap k (BitVec.toNat (BitVec.ofInt k.bits a|||BitVec.ofInt k.bits b))))
  |.xor=>some (.int k (fwrap k (BitVec.toNat (BitVec.ofInt k.bits a^^^BitVec.ofInt k.bits b))))
  |.andNot=>some (.int k (fwrap k (BitVec.toNat (BitVec.ofInt k.bits a&&& ~~~BitVec.ofInt k.bits b))))
  |.eql=>some (.bool (ieq a b))
  |.neq=>some (.bool (!ieq a b))
  |.lss=>some (.bool (ilt a b))
  |.leq=>some (.bool (!ilt b a))
  |.gtr=>some (.bool (ilt b a))
  |.geq=>some (.bool (!ilt a b))
  |_=>none
theorem ibin_run{op:BinOp}{k:IntKind}{a b:Int}{v:V}(h:ibin op k a b=some v)(P:Program)(w:World)(t:TypeId):
    ∃x,(binOp op t (.int k a) (.int k b)).run P w=.ok x w∧(∀m,VRel m v x)∧v.one=true:=by
  have dl:∀a b:Int,(!ilt b a)=decide (a≤b):=by
    intro a b;rw[ilt_eq,Bool.eq_iff_iff];simp
  cases op<;>simp only[ibin]at h;case shl=>cases h
  case shr=>cases h
  case quo=>
    cases hb:ieq b 0
    ·rw[hb]at h;simp only[cond_false]at h;cases h;have hb0:¬b=0:=by rw[ieq_eq]at hb;simpa using hb
     exact⟨.int k (k.wrap (a.tdiv b)),by simp[binOp,Op.intDiv,hb0],fun m=>by rw[fwrap_eq];rfl,rfl⟩
    ·rw[hb]at h;cases h
  case rem=>
    cases hb:ieq b 0
    ·rw[hb]at h;simp only[cond_false]at h;cases h;have hb0:¬b=0:=by rw[ieq_eq]at hb;simpa using hb
     exact⟨.int k (a.tmod b),by simp[binOp,Op.intDiv,hb0],fun m=>rfl,rfl⟩
    ·rw[hb]at h;cases h
  all_goals cases h
  all_goals first
    |exact⟨_,by simp only[binOp,ne_eq,not_true_eq_false,if_false,Op.intArith,Op.intBits];rfl,fun m=>by rw[fwrap_eq];rfl,rfl⟩
    |exact⟨_,by simp only[binOp,ne_eq,not_true_eq_false,if_false,Op.intCmp];rfl,fun m=>by rw[ieq_eq];rfl,rfl⟩
    |exact⟨_,by simp only[binOp,ne_eq,not_true_eq_false,if_false,Op.intCmp];rfl,fun m=>by rw[ilt_eq];rfl,rfl⟩
    |exact⟨_,by simp only[binOp,ne_eq,not_true_eq_false,if_false,Op.intCmp];rfl,fun m=>by rw[dl];rfl,rfl⟩
/-- shifts -/
def ishift(left:Bool)(k:IntKind)(a:Int)(b:Int):Option V:=
  match b with
  |.ofNat n=>
    let p:Int:=Int.ofNat (Nat.pow 2 (Nat.min n k.bits))
    some (.int k (bif left then fwrap k (Int.mul a p)else Int.fdiv a p))
  |.negSucc _=>none
theorem ishift_run{left:Bool}{k k':IntKind}{a b:Int}{v:V}(h:ishift left k a b=some v)(P:Program)(w:World)(t:TypeId):
    ∃x,(binOp (bif left then .shl else .shr) t (.int k a) (.int k' b)).run P w=.ok x w∧(∀m,VRel m v x)∧v.one=true:=by
  cases b with
  |negSucc n=>cases h
  |ofNat n=>
    simp only[ishift]at h;cases h;have hp:(Int.ofNat (Nat.pow 2 (Nat.min n k.bits)))=(2:Int)^(min n k.bits):=by
      show((2^(min n k.bits):Nat):Int)=_;simp
    have hn:¬(Int.ofNat n<0):=by simp
    cases left
    ·exact⟨.int k (a.fdiv (2^min n k.bits)),by simp only[cond_false,binOp,Op.shift,if_neg hn];rfl,fun m=>by show _=_;simp only[cond_false];rw[hp],rfl⟩
    ·exact⟨.int k (k.wrap (a*2^min n k.bits)),by simp only[cond_true,binOp,Op.shift,if_neg hn];rfl,fun m=>by show _=_;simp only[cond_true];rw[hp,fwrap_eq];rfl,rfl⟩
/-- structs of numbers, bools and strings -/
def cmpL:List Nat→List V→List V→Option Bool
  |[],_,_=>some true
  |0::ks,.int k a::l,.int k' b::l'=>bif kbeq k k' then(bif ieq a b then cmpL ks l l' else some false)else none
  |1::ks,.bool a::l,.bool b::l'=>bif xor a b then some false else cmpL ks l l'
  |2::ks,.str a::l,.str b::l'=>bif a==b then cmpL ks l l' else some false
  |_,_,_=>none
def strBin(op:BinOp)(a b:List UInt8):Option V:=
  match op with
  |.add=>bif Nat.blt (a.length+b.length) 9223372036854775808 then some (.str (a++b))else none
  |.eql=>some (.bool (a==b))
  |.neq=>some (.bool (!(a==b)))
  |.lss=>some (.bool (Op.bytesLess a b))
  |.leq=>some (.bool (Op.bytesLess a b||a==b))
  |.gtr=>some (.bool (!(Op.bytesLess a b||a==b)))
  |.geq=>some (.bool (!Op.bytesLess a b))
  |_=>none
def nilEq:Nat→V→V→Option Bool
  |0,.nilp,.nilp=>some true
  |0,.nilp,.ptr _ _=>some false
  |0,.ptr _ _,.nilp=>some false
  |1,.nils,.nils=>some true
  |1,.nils,.slice _ _ _ _=>some false
  |1,.nils,.sliceU _ _ _ _=>some false
  |1,.nils,.sliceE=>some false
  |1,.nils,.sliceZ _ _=>some false
  |1,.slice _ _ _ _,.nils=>some false
  |1,.sliceU _ _ _ _,.nils=>some false
  |1,.sliceE,.nils=>some false
  |1,.sliceZ _ _,.nils=>some false
  |2,.nilm,.nilm=>some true
  |2,.nilm,.map _=>some false
  |2,.map _,.nilm=>some false
  |3,.nilf,.nilf=>some true
  |3,.nilf,.func _ _ _=>some false
  |3,.func _ _ _,.nilf=>some false
  |4,.nili,.nili=>some true
  |4,.nili,.iface _ _=>some false
  |4,.iface _ _,.nili=>some false
  |_,_,_=>none
/-- the cells of a value -/
def V.cells:V→List V
  |.agg l=>l
  |v=>[v]
noncomputable def afill(c:List V):List (Nat×Nat)→List V→Option (List V)
  |[],[]=>some c
  |(off,size)::ps,v::vs=>
    bif Nat.beq v.cells.length size&&Nat.blt 0 size then
      match updO c off v.cells with
      |some c'=>afill c' ps vs
      |none=>none
    else none
  |_,_=>none
/-- a bound of a slice: a number up to y -/
def abound(v:V)(y:Nat):Option Nat:=
  match v with
  |.int _ (.ofNat n)=>bif Nat.ble n y then some n else none
  |_=>none
/-- low, high and max -/
def abounds(len y:Nat)(lo hi mx:Bool)(bs:List V):Option (Nat×Nat×Option Nat):=
  match lo,hi,mx,bs with
  |false,false,false,[]=>some (0,len,none)
  |true,false,false,[a]=>(abound a len).map fun l=>(l,len,none)
  |false,true,false,[b]=>(abound b y).map fun h=>(0,h,none)
  |true,true,false,[a,b]=>(abound b y).bind fun h=>(abound a h).map fun l=>(l,h,none)
  |false,true,true,[b,c]=>(abound c y).bind fun m=>(abound b m).map fun h=>(0,h,some m)
  |true,true,true,[a,b,c]=>(abound c y).bind fun m=>(abound b m).bind fun h=>(abound a h).map fun l=>(l,h,some m)
  |_,_,_,_=>none
def aslice(v:V)(esz:Nat)(lo hi mx:Bool)(bs:List V):Option V:=
  match v with
  |.nils=>(abounds 0 0 lo hi mx bs).map fun _=>.nils
  |.slice b o len cap=>(abounds len cap lo hi mx bs).map fun(l,h,m)=>
      let m:=m.getD cap
      .slice b (bif Nat.beq m l then o else o+l*esz) (h-l) (m-l)
  |.sliceU b o len e=>bif Nat.beq e esz&&Nat.blt 0 e then
      (abounds len len lo hi mx bs).bind fun(l,h,m)=>
        match m with
        |some m=>some (.slice b (bif Nat.beq m l then o else o+l*esz) (h-l) (m-l))
        |none=>bif Nat.blt l len then some (.sliceU b (o+l*esz) (h-l) e)
                  else bif Nat.beq l 0 then some (.sliceU b o (h-l) e)else some .sliceE
    else none
  |_=>none
def aslarr(n:Nat)(v:V)(esz:Nat)(lo hi mx:Bool)(bs:List V):Option V:=
  match v with
  |.ptr b o=>(abounds n n lo hi mx bs).map fun(l,h,m)=>
      let m:=m.getD n
      .slice b (bif Nat.beq m l then o else o+l*esz) (h-l) (m-l)
  |_=>none
def aidx(v:V)(len:Nat):Option Nat:=
  match v with
  |.int _ (.ofNat n)=>bif Nat.blt n len then some n else none
  |_=>none
noncomputable def aP(k:PK)(vs:List V):Option V:=
  match k,vs with
  |.mv,[x]=>some x
  |.pick,[.bool c,a,b]=>some (bif c then a else b)
  |.nilck,[.ptr b o]=>some (.ptr b o)
  |.nilck,[.func (.func f) x y]=>some (.func (.func f) x y)
  |.ib op,[.int k a,.int k' b]=>bif kbeq k k' then ibin op k a b else none
  |.sh left,[.int k a,.int _ b]=>ishift left k a b
  |.not,[.bool b]=>some (.bool (!b))
  |.neg,[.int k n]=>some (.int k (fwrap k (Int.sub 0 n)))
  |.cmpl,[.int k n]=>ibin .xor k (bif k.signed then-1 else k.max) n
  |.bb ne,[.bool a,.bool b]=>some (.bool (bif ne then xor a b else !(xor a b)))
  |.nil kd ne,[a,b]=>(nilEq kd a b).map fun r=>.bool (bif ne then !r else r)
  |.faddr off,[.ptr b o]=>some (.ptr b (o+off))
  |.field off n isAgg,[.agg l]=>bif isAgg then(takeL n (dropL l off)).map .agg else nth l off
  |.ixa len esz,[.ptr b o,i]=>(aidx i len).map fun n=>.ptr b (o+n*esz)
  |.ixs esz,[.slice b o len _,i]=>(aidx i len).map fun n=>.ptr b (o+n*esz)
  |.ixs esz,[.sliceU b o len _,i]=>(aidx i len).map fun n=>.ptr b (o+n*esz)
  |.ixarr len esz isAgg,[.agg l,i]=>(aidx i len).bind fun n=>bif isAgg then(takeL esz (dropL l (n*esz))).map .agg else nth l (n*esz)
  |.ext i,[.tup l]=>nth l i
  |.mkf fn n,vs=>(takeL n vs).map fun f=>.func fn f (dropL vs n)
  |.mki t,[v]=>some (.iface t v)
  |.build zero places,vs=>(afill zero places vs).map .agg
  |.sl none esz lo hi mx,v::bs=>aslice v esz lo hi mx bs
  |.sl (some n) esz lo hi mx,v::bs=>aslarr n v esz lo hi mx bs
  |.lenS,[.nils]=>some (.int .i64 0)
  |.lenS,[.slice _ _ len _]=>some (.int .i64 len)
  |.lenS,[.sliceU _ _ len _]=>some (.int .i64 len)
  |.lenS,[.sliceE]=>some (.int .i64 0)
  |.lenS,[.sliceZ _ _]=>some (.int .i64 0)
  |.lenArr n,[_]=>some (.int .i64 n)
  |.capS,[.nils]=>some (.int .i64 0)
  |.capS,[.slice _ _ _ cap]=>some (.int .i64 cap)
  |.capArr n,[_]=>some (.int .i64 n)
  |.mn,[.int k a,.int _ b]=>some (.int k (bif ilt b a then b else a))
  |.mx,[.int k a,.int _ b]=>some (.int k (bif ilt a b then b else a))
  |.conv k,[.int _ n]=>some (.int k (fwrap k n))
  |.seq ne ks,[.agg l,.agg l']=>(cmpL ks l l').map fun r=>.bool (bif ne then !r else r)
  |.sb op,[.str a,.str b]=>strBin op a b
  |.lenStr,[.str a]=>some (.int .i64 (a.length:Nat))
  |.ixstr,[.str a,.int _ (.ofNat i)]=>(a[i]?).map fun c=>.int .u8 (c.toNat:Nat)
  |.slstr lo hi,.str a::bs=>(abounds a.length a.length lo hi false bs).map fun(l,h,_)=>.str ((a.drop l).take (h-l))
  |_,_=>none
mutual
def vis:V→Value→Bool
  |.bool b,.bool c=>b==c
  |.int k n,.int k' n'=>kbeq k k'&&ieq n n'
  |.str s,.string t=>t.data.toList==s
  |.nilp,.pointer none=>true
  |.nils,.slice none 0 0=>true
  |.nilm,.map none=>true
  |.nilf,.nilFunc=>true
  |.nili,.nilIface=>true
  |.func fn f c,.func fn' f' c'=>decide (fn=fn')&&vsis f f'.toList&&vsis c c'.toList
  |.agg l,.agg a=>vsis l a.toList
  |.tup l,.tuple a=>vsis l a.toList
  |_,_=>false
def vsis:List V→List Value→Bool
  |[],[]=>true
  |v::vs,x::xs=>vis v x&&vsis vs xs
  |_,_=>false
end
mutual
theorem vis_rel(m:M):∀(v:V)(x:Value),vis v x=true→VRel m v x
  |.bool b,x,h=>by cases x<;>simp[vis]at h;subst h;rfl
  |.int k n,x,h=>by
    cases x<;>simp[vis]at h;obtain⟨a,b⟩:=h;rw[ieq_eq]at b;have:=kbeq_eq a;subst this;simp at b;subst b;rfl
  |.str s,x,h=>by
    cases x<;>simp[vis]at h;rename_i t;cases t;rename_i d;cases d;simp at h;subst h;rfl
  |.nilp,x,h=>by
    cases x with
    |pointer a=>cases a with
      |none=>rfl
      |some a=>simp[vis]at h
    |_=>simp[vis]at h
  |.nils,x,h=>by
    cases x with
    |slice a l c=>
      cases a with
      |some a=>simp[vis]at h
      |none=>cases l with
        |succ l=>simp[vis]at h
        |zero=>cases c with
          |zero=>rfl
          |succ c=>simp[vis]at h
    |_=>simp[vis]at h
  |.nilm,x,h=>by
    cases x with
    |map a=>cases a with
      |none=>rfl
      |some a=>simp[vis]at h
    |_=>simp[vis]at h
  |.nilf,x,h=>by cases x<;>simp[vis]at h;rfl
  |.nili,x,h=>by cases x<;>simp[vis]at h;rfl
  |.func fn f c,x,h=>by
    cases x<;>simp only[vis,Bool.false_eq_true]at h;rename_i fn' f' c';simp only[Bool.and_eq_true,decide_eq_true_eq]at h;obtain⟨⟨rfl,h1⟩,h2⟩:=h;exact⟨f'.toList,c'.toList,by simp,vsis_rel m f _ h1,vsis_rel m c _ h2⟩
  |.agg l,x,h=>by
    cases x<;>simp only[vis,Bool.false_eq_true]at h;rename_i a;exact⟨a.toList,by simp,vsis_rel m l _ h⟩
  |.tup l,x,h=>by
    cases x<;>simp only[vis,Bool.false_eq_true]at h;rename_i a;exact⟨a.toList,by simp,vsis_rel m l _ h⟩
  |.ptr _ _,x,h=>by cases x<;>simp[vis]at h
  |.slice _ _ _ _,x,h=>by cases x<;>simp[vis]at h
  |.sliceU _ _ _ _,x,h=>by cases x<;>simp[vis]at h
  |.sliceE,x,h=>by cases x<;>simp[vis]at h
  |.map _,x,h=>by cases x<;>simp[vis]at h
  |.iface _ _,x,h=>by cases x<;>simp[vis]at h
theorem vsis_rel(m:M):∀(vs:List V)(xs:List Value),vsis vs xs=true→VsRel m vs xs
  |[],[],_=>rfl
  |[],_::_,h=>by simp[vsis]at h
  |_::_,[],h=>by simp[vsis]at h
  |v::vs,x::xs,h=>by
    simp only[vsis,Bool.and_eq_true]at h;exact⟨x,xs,rfl,vis_rel m v x h.1,vsis_rel m vs xs h.2⟩
end
def isInt(P:Program)(t:TypeId)(k:IntKind):Bool:=match P.underlying t with|some (.int k')=>kbeq k k'|_=>false
def hasDesc(P:Program)(t:TypeId):Bool:=(P.underlying t).isSome
def sizeIs(P:Program)(t:TypeId)(n:Nat):Bool:=match P.info? t with|some i=>Nat.beq i.size n|none=>false
def aggIs(P:Program)(t:TypeId)(b:Bool):Bool:=match P.underlying t with
  |some (.struct _)|some (.array _ _)=>b
  |some _=> !b
  |none=>false
def zeroIs(P:Program)(t:TypeId)(z:List V):Bool:=match P.info? t with
  |some i=>match i.zero with
    |some x=>vsis z x.cells.toList
    |none=>false
  |none=>false
def kindIs(P:Program)(t:TypeId)(kd:Nat):Bool:=match kd,P.underlying t with
  |0,some (.pointer _)|1,some (.slice _)|2,some (.map _ _)|3,some (.func _ _ _)|4,some (.interface _)=>true
  |_,_=>false
def fieldIs(P:Program)(s:TypeId)(f off n:Nat)(isAgg:Bool):Bool:=match P.underlying s with
  |some (.struct fields)=>match fields[f]? with
    |some fd=>Nat.beq fd.offset off&&sizeIs P fd.type n&&aggIs P fd.type isAgg
    |none=>false
  |_=>false
def elemIs(P:Program)(t:TypeId)(arr:Option Nat)(esz:Nat):Bool:=match arr,P.underlying t with
  |none,some (.slice e)=>sizeIs P e esz
  |some n,some (.array n' e)=>Nat.beq n n'&&sizeIs P e esz
  |_,_=>false
section
variable {P : Program} {w : World} {t : TypeId}
theorem run_under{d:TypeDesc}(h:P.underlying t=some d):(underlying t).run P w=.ok d w:=by simp[underlying,h]
theorem run_info{i:TypeInfo}(h:P.info? t=some i):(typeInfo t).run P w=.ok i w:=by simp[typeInfo,h]
theorem run_size{n:Nat}(h:sizeIs P t n=true):(sizeOf t).run P w=.ok n w:=by
  unfold sizeIs at h;split at h
  ·rename_i i hi;simp[sizeOf,run_info hi,Nat.eq_of_beq_eq_true h]
  ·cases h
theorem run_agg{b:Bool}(h:aggIs P t b=true):(isAgg t).run P w=.ok b w:=by
  unfold aggIs at h;split at h
  ·rename_i f hf;subst h;simp[isAgg,run_under hf]
  ·rename_i n e hf;subst h;simp[isAgg,run_under hf]
  ·rename_i d hs ha hd;cases b<;>simp at h;cases d<;>simp_all [isAgg,run_under]
  ·cases h
theorem run_zero{z:List V}(h:zeroIs P t z=true):∃x,(zeroValue t).run P w=.ok x w∧vsis z x.cells.toList=true:=by
  unfold zeroIs at h;split at h
  ·rename_i i hi;split at h
   ·rename_i x hx;exact⟨x,by simp[zeroValue,run_info hi,hx],h⟩
   ·cases h
  ·cases h
end
def isCon:Operand→Bool
  |.const _=>true
  |_=>false
def placesOK(P:Program)(t:TypeId):List (Nat×Operand)→List (Nat×Nat)→Bool
  |[],[]=>true
  |(i,_)::ps,(off,n)::qs=>
    (match P.underlying t with
      |some (.struct fields)=>match fields[i]? with
        |some fd=>Nat.beq fd.offset off&&sizeIs P fd.type n
        |none=>false
      |some (.array _ e)=>Nat.beq off (i*n)&&sizeIs P e n
      |_=>false)&&placesOK P t ps qs
  |_,_=>false
def sizesOK(P:Program)(t:TypeId):Bool:=
  match P.underlying t with
  |some (.struct fields)=>fields.toList.all fun f=>(P.info? f.type).isSome
  |some (.array _ e)=>(P.info? e).isSome
  |_=>false
def faddrIs(P:Program)(s:TypeId)(f off:Nat):Bool:=match P.underlying s with
  |some (.struct fields)=>match fields[f]? with
    |some fd=>Nat.beq fd.offset off&&(match P.info? fd.type with|some i=> !(Nat.beq i.size 0)|none=>false)
    |none=>false
  |_=>false
def callOf(op:Op)(b:Builtin):Option (Array Operand×Array TypeId):=
  match op with
  |.call {callee:=.builtin b',args,argTypes}=>if b=b' then some (args,argTypes)else none
  |_=>none
def oneArg(P:Program)(op:Op)(b:Builtin)(ok:TypeDesc→Bool):Bool:=
  match callOf op b with
  |some (args,ts)=>Nat.beq args.size 1&&(match ts[0]? with
    |some t=>match P.underlying t with
      |some d=>ok d
      |none=>false
    |none=>false)
  |none=>false
def leafIs(P:Program)(t:TypeId)(k:Nat):Bool:=match k,P.underlying t with
  |0,some (.int _)|1,some .bool|2,some .string=>true
  |_,_=>false
def flatOK(P:Program):Nat→List Field→List Nat→Bool
  |_,[],[]=>true
  |j,f::fs,k::ks=> !(f.name== "_")&&Nat.beq f.offset j&&leafIs P f.type k&&flatOK P (j+1) fs ks
  |_,_,_=>false
def seqIs(P:Program)(t:TypeId)(ks:List Nat):Bool:=match P.underlying t with
  |some (.struct fields)=> !P.stoodInHeld t&& !P.eqGuardType P.depth t&&flatOK P 0 fields.toList ks
  |_=>false
def isStr(P:Program)(t:TypeId):Bool:=match P.underlying t with|some .string=>true|_=>false
def chkP(P:Program)(op:Op):PK→Bool
  |.mv=>match op with|.move _|.assign _=>true|_=>false
  |.pick=>match op with|.pick _ _ _=>true|_=>false
  |.nilck=>match op with|.nilCheck _=>true|_=>false
  |.ib b=>match op with|.binOp b' _ _ _ _=>decide (b=b')|_=>false
  |.sh l=>match op with|.binOp b' _ _ _ _=>decide (b'=bif l then BinOp.shl else BinOp.shr)|_=>false
  |.not=>match op with|.unOp .not _ _=>true|_=>false
  |.neg=>match op with|.unOp .neg _ _=>true|_=>false
  |.cmpl=>match op with|.unOp .xor _ _=>true|_=>false
  |.bb ne=>match op with|.binOp b t _ _ _=>decide (b=bif ne then BinOp.neq else BinOp.eql)&&(match P.underlying t with|some .bool=>true|_=>false)|_=>false
  |.nil kd ne=>match op with|.binOp b t x y _=>decide (b=bif ne then BinOp.neq else BinOp.eql)&&kindIs P t kd&&(isCon x||isCon y)|_=>false
  |.faddr off=>match op with|.fieldAddr s _ f=>faddrIs P s f off|_=>false
  |.field off n a=>match op with|.field s _ f=>fieldIs P s f off n a|_=>false
  |.ixa len esz=>match op with|.indexAddr t _ _=>elemIs P t (some len) esz|_=>false
  |.ixs esz=>match op with|.indexAddr t _ _=>elemIs P t none esz|_=>false
  |.ixarr len esz a=>match op with|.index t _ _=>(match P.underlying t with|some (.array n e)=>Nat.beq n len&&sizeIs P e esz&&aggIs P e a|_=>false)|_=>false
  |.ext i=>match op with|.extract _ j=>Nat.beq i j|_=>false
  |.mkf fn n=>match op with|.makeFunc fn' first _=>decide (fn=fn')&&Nat.beq first.size n|_=>false
  |.mki t=>match op with|.makeInterface t' _=>Nat.beq t t'&&(match P.underlying t with|some (.interface _)=>false|some _=>true|none=>false)|_=>false
  |.build zero places=>match op with|.build t parts=>zeroIs P t zero&&placesOK P t parts.toList places&&sizesOK P t|_=>false
  |.sl arr esz lo hi mx=>match op with|.slice t _ l h m=>elemIs P t arr esz&&(l.isSome==lo)&&(h.isSome==hi)&&(m.isSome==mx)|_=>false
  |.lenS=>oneArg P op .len fun|.slice _=>true|_=>false
  |.lenArr n=>oneArg P op .len fun|.array n' _=>Nat.beq n n'|_=>false
  |.capS=>oneArg P op .cap fun|.slice _=>true|_=>false
  |.capArr n=>oneArg P op .cap fun|.array n' _=>Nat.beq n n'|_=>false
  |.mn=>match callOf op .min with|some (args,_)=>Nat.beq args.size 2|none=>false
  |.mx=>match callOf op .max with|some (args,_)=>Nat.beq args.size 2|none=>false
  |.conv k=>match op with|.convert s d _=>hasDesc P s&&isInt P d k|_=>false
  |.seq ne ks=>match op with|.binOp b t _ _ _=>decide (b=bif ne then BinOp.neq else BinOp.eql)&&seqIs P t ks|_=>false
  |.sb b=>match op with|.binOp b' _ _ _ _=>decide (b=b')|_=>false
  |.lenStr=>oneArg P op .len fun|.string=>true|_=>false
  |.ixstr=>match op with|.index t _ _=>isStr P t|_=>false
  |.slstr lo hi=>match op with|.slice t _ l h m=>isStr P t&&(l.isSome==lo)&&(h.isSome==hi)&&m.isNone|_=>false
section
variable {P : Program} {w : World}
theorem eqGuard_int{op:BinOp}{t:TypeId}{x y:Operand}{k k':IntKind}{a b:Int}:(eqGuard op t x y (.int k a) (.int k' b)).run P w=.ok () w:=by cases op<;>rfl
theorem eqGuard_bool{op:BinOp}{t:TypeId}{x y:Operand}{a b:Bool}:(eqGuard op t x y (.bool a) (.bool b)).run P w=.ok () w:=by cases op<;>rfl
theorem eqGuard_ptr{op:BinOp}{t:TypeId}{x y:Operand}{a b:Option Addr}:(eqGuard op t x y (.pointer a) (.pointer b)).run P w=.ok () w:=by cases op<;>rfl
theorem eqGuard_slice{op:BinOp}{t:TypeId}{x y:Operand}{a b:Option Addr}{l c l' c':Nat}:(eqGuard op t x y (.slice a l c) (.slice b l' c')).run P w=.ok () w:=by cases op<;>rfl
theorem eqGuard_map{op:BinOp}{t:TypeId}{x y:Operand}{a b:Option Nat}:(eqGuard op t x y (.map a) (.map b)).run P w=.ok () w:=by cases op<;>rfl
theorem eqGuard_func0{op:BinOp}{t:TypeId}{x y:Operand}:(eqGuard op t x y .nilFunc .nilFunc).run P w=.ok () w:=by cases op<;>rfl
theorem eqGuard_func1{op:BinOp}{t:TypeId}{x y:Operand}{f:Fn}{a b:Array Value}:(eqGuard op t x y .nilFunc (.func f a b)).run P w=.ok () w:=by cases op<;>rfl
theorem eqGuard_func2{op:BinOp}{t:TypeId}{x y:Operand}{f:Fn}{a b:Array Value}:(eqGuard op t x y (.func f a b) .nilFunc).run P w=.ok () w:=by cases op<;>rfl
theorem eqGuard_if0{op:BinOp}{t:TypeId}{x y:Operand}(h:(isCon x||isCon y)=true):(eqGuard op t x y .nilIface .nilIface).run P w=.ok () w:=by
  unfold eqGuard;cases x<;>cases y<;>simp[isCon]at h<;>cases op<;>rfl
theorem eqGuard_if1{op:BinOp}{t:TypeId}{x y:Operand}{u:TypeId}{a:Value}:(eqGuard op t x y .nilIface (.iface u a)).run P w=.ok () w:=by cases op<;>rfl
theorem eqGuard_if2{op:BinOp}{t:TypeId}{x y:Operand}{u:TypeId}{a:Value}:(eqGuard op t x y (.iface u a) .nilIface).run P w=.ok () w:=by cases op<;>rfl
theorem kind0{t:TypeId}(h:kindIs P t 0=true):∃e,P.underlying t=some (.pointer e):=by unfold kindIs at h;split at h<;>simp_all
theorem kind1{t:TypeId}(h:kindIs P t 1=true):∃e,P.underlying t=some (.slice e):=by unfold kindIs at h;split at h<;>simp_all
theorem kind2{t:TypeId}(h:kindIs P t 2=true):∃e f,P.underlying t=some (.map e f):=by unfold kindIs at h;split at h<;>simp_all
theorem kind3{t:TypeId}(h:kindIs P t 3=true):∃e f g,P.underlying t=some (.func e f g):=by unfold kindIs at h;split at h<;>simp_all
theorem kind4{t:TypeId}(h:kindIs P t 4=true):∃e,P.underlying t=some (.interface e):=by unfold kindIs at h;split at h<;>simp_all
theorem nilEq_run{kd:Nat}{a b:V}{r:Bool}(h:nilEq kd a b=some r){t:TypeId}(hk:kindIs P t kd=true){m:M}{x y:Value}(ra:VRel m a x)(rb:VRel m b y)(d:Nat):
    (Op.equalIn (d+1) t x y).run P w=.ok r w:=by
  unfold nilEq at h;split at h;case h_22=>cases h
  all_goals
    simp only[Option.some.injEq]at h;subst h;simp only[VRel]at ra rb;first
      |(obtain⟨e,hu⟩:=kind0 hk)
      |(obtain⟨e,hu⟩:=kind1 hk)
      |(obtain⟨e,f,hu⟩:=kind2 hk)
      |(obtain⟨e,f,g,hu⟩:=kind3 hk)
      |(obtain⟨e,hu⟩:=kind4 hk)
    simp only[Op.equalIn,Sem.run_bind,run_under hu,Result.andThen_ok];first
      |(subst ra;subst rb;rfl)
      |(subst ra;obtain⟨_,_,rfl⟩:=rb;rfl)
      |(obtain⟨_,_,rfl⟩:=ra;subst rb;rfl)
      |(subst ra;obtain⟨_,_,_,rfl⟩:=rb;rfl)
      |(obtain⟨_,_,_,rfl⟩:=ra;subst rb;rfl)
      |(subst ra;obtain⟨_,_,rfl,_⟩:=rb;rfl)
      |(obtain⟨_,_,rfl,_⟩:=ra;subst rb;rfl)
      |(subst ra;obtain⟨_,rfl,_⟩:=rb;rfl)
      |(obtain⟨_,rfl,_⟩:=ra;subst rb;rfl)
theorem nilEq_guard{kd:Nat}{a b:V}{r:Bool}(h:nilEq kd a b=some r){t:TypeId}{m:M}{x y:Value}(ra:VRel m a x)(rb:VRel m b y){op:BinOp}{u v:Operand}(hc:(isCon u||isCon v)=true):
    (eqGuard op t u v x y).run P w=.ok () w:=by
  have h':(nilEq kd a b).isSome=true:=by rw[h];rfl
  clear h;unfold nilEq at h';split at h'<;>simp at h'<;>simp only[VRel]at ra rb;all_goals first
    |(subst ra;subst rb;first|exact eqGuard_ptr|exact eqGuard_slice|exact eqGuard_map|exact eqGuard_func0|exact eqGuard_if0 hc)
    |(subst ra;obtain⟨_,_,rfl⟩:=rb;first|exact eqGuard_ptr|exact eqGuard_slice|exact eqGuard_map)
    |(obtain⟨_,_,rfl⟩:=ra;subst rb;first|exact eqGuard_ptr|exact eqGuard_slice|exact eqGuard_map)
    |(subst ra;obtain⟨_,_,_,rfl⟩:=rb;exact eqGuard_slice)
    |(obtain⟨_,_,_,rfl⟩:=ra;subst rb;exact eqGuard_slice)
    |(subst ra;obtain⟨_,_,rfl,_⟩:=rb;exact eqGuard_func1)
    |(obtain⟨_,_,rfl,_⟩:=ra;subst rb;exact eqGuard_func2)
    |(subst ra;obtain⟨_,rfl,_⟩:=rb;exact eqGuard_if1)
    |(obtain⟨_,rfl,_⟩:=ra;subst rb;exact eqGuard_if2)
theorem nilEq_bin{kd:Nat}{a b:V}{r:Bool}(h:nilEq kd a b=some r){m:M}{x y:Value}(ra:VRel m a x)(rb:VRel m b y)(t:TypeId):
    (binOp .eql t x y=do pure (.bool (←Op.equal t x y)))∧(binOp .neq t x y=do pure (.bool (!(←Op.equal t x y)))):=by
  have h':(nilEq kd a b).isSome=true:=by rw[h];rfl
  clear h;unfold nilEq at h';split at h'<;>simp at h'<;>simp only[VRel]at ra rb;all_goals first
    |(subst ra;subst rb;exact⟨rfl,rfl⟩)
    |(subst ra;obtain⟨_,_,rfl⟩:=rb;exact⟨rfl,rfl⟩)
    |(obtain⟨_,_,rfl⟩:=ra;subst rb;exact⟨rfl,rfl⟩)
    |(subst ra;obtain⟨_,_,_,rfl⟩:=rb;exact⟨rfl,rfl⟩)
    |(obtain⟨_,_,_,rfl⟩:=ra;subst rb;exact⟨rfl,rfl⟩)
    |(subst ra;obtain⟨_,_,rfl,_⟩:=rb;exact⟨rfl,rfl⟩)
    |(obtain⟨_,_,rfl,_⟩:=ra;subst rb;exact⟨rfl,rfl⟩)
    |(subst ra;obtain⟨_,rfl,_⟩:=rb;exact⟨rfl,rfl⟩)
    |(obtain⟨_,rfl,_⟩:=ra;subst rb;exact⟨rfl,rfl⟩)
end
theorem VRel.cells{m:M}{v:V}{x:Value}(h:VRel m v x):VsRel m v.cells x.cells.toList:=by
  cases v<;>simp only[V.cells];case agg l=>
    obtain⟨l',rfl,r⟩:=h;simpa[Value.cells]using r
  all_goals
    have h0:=h;simp only[VRel]at h;first
      |(subst h;exact⟨_,[],rfl,h0,rfl⟩)
      |(obtain⟨_,_,rfl⟩:=h;exact⟨_,[],rfl,h0,rfl⟩)
      |(obtain⟨_,_,_,rfl⟩:=h;exact⟨_,[],rfl,h0,rfl⟩)
      |(obtain⟨_,rfl,_⟩:=h;exact⟨_,[],rfl,h0,rfl⟩)
      |(obtain⟨_,_,rfl,_⟩:=h;exact⟨_,[],rfl,h0,rfl⟩)
section
variable {P : Program} {m : M}
/-- the operands' values -/
abbrev OV(ρ:Operand→Value)(op:Op):List Value:=op.operands.toList.map ρ
def PS(P:Program)(m:M)(o:Oper)(ρ:Operand→Value)(v:V):Prop:=∃x,VRel m v x∧∀w,(execOp ρ o).run P w=.ok (.value x) w
theorem one_of{v:V}{xs:List Value}(h:VsRel m [v] xs):∃x,xs=[x]∧VRel m v x:=by
  obtain⟨x,r,rfl,a,rfl⟩:=h;exact⟨x,rfl,a⟩
theorem two_of{u v:V}{xs:List Value}(h:VsRel m [u,v] xs):∃x y,xs=[x,y]∧VRel m u x∧VRel m v y:=by
  obtain⟨x,r,rfl,a,h⟩:=h;obtain⟨y,rfl,b⟩:=one_of h;exact⟨x,y,rfl,a,b⟩
theorem three_of{u v t:V}{xs:List Value}(h:VsRel m [u,v,t] xs):∃x y z,xs=[x,y,z]∧VRel m u x∧VRel m v y∧VRel m t z:=by
  obtain⟨x,r,rfl,a,h⟩:=h;obtain⟨y,z,rfl,b⟩:=two_of h;exact⟨x,y,z,rfl,a,b⟩
theorem PS_mv{o:Oper}{ρ:Operand→Value}{x v:V}(hc:chkP P o.op .mv=true)(hv:VsRel m [x] (OV ρ o.op))(h:some x=some v):PS P m o ρ v:=by
  cases h;simp only[chkP]at hc;split at hc
  ·rename_i y hy;obtain⟨z,e,r⟩:=one_of hv;rw[hy]at e;simp[Op.operands]at e;exact⟨z,r,fun w=>by simp[execOp,hy,e]⟩
  ·rename_i y hy;obtain⟨z,e,r⟩:=one_of hv;rw[hy]at e;simp[Op.operands]at e;exact⟨z,r,fun w=>by simp[execOp,hy,e]⟩
  ·cases hc
theorem PS_pick{o:Oper}{ρ:Operand→Value}{c:Bool}{a b:V}(hc:chkP P o.op .pick=true)(hv:VsRel m [.bool c,a,b] (OV ρ o.op)):PS P m o ρ (bif c then a else b):=by
  simp only[chkP]at hc;split at hc
  ·rename_i p q r hy;obtain⟨x,y,z,e,rx,ry,rz⟩:=three_of hv;rw[hy]at e;change[ρ p,ρ q,ρ r]=[x,y,z]at e;simp only[List.cons.injEq,and_true]at e;obtain⟨e1,e2,e3⟩:=e;simp only[VRel]at rx;cases c
   ·exact⟨z,rz,fun w=>by simp[execOp,hy,e1,e3,rx,asBool]⟩
   ·exact⟨y,ry,fun w=>by simp[execOp,hy,e1,e2,rx,asBool]⟩
  ·cases hc
theorem PS_nilck{o:Oper}{ρ:Operand→Value}{b off:Nat}(hc:chkP P o.op .nilck=true)(hv:VsRel m [.ptr b off] (OV ρ o.op)):PS P m o ρ (.ptr b off):=by
  simp only[chkP]at hc;split at hc
  ·rename_i p hy;obtain⟨x,e,r⟩:=one_of hv;rw[hy]at e;simp[Op.operands]at e;have r0:=r;obtain⟨loc,hm,rfl⟩:=r;exact⟨_,r0,fun w=>by simp[execOp,hy,e]⟩
  ·cases hc
theorem PS_nilckf{o:Oper}{ρ:Operand→Value}{f:FuncId}{a c:List V}(hc:chkP P o.op .nilck=true)(hv:VsRel m [.func (.func f) a c] (OV ρ o.op)):PS P m o ρ (.func (.func f) a c):=by
  simp only[chkP]at hc;split at hc
  ·rename_i p hy;obtain⟨x,e,r⟩:=one_of hv;rw[hy]at e;simp[Op.operands]at e;have r0:=r;obtain⟨f',c',rfl,_⟩:=r;exact⟨_,r0,fun w=>by simp[execOp,hy,e]⟩
  ·cases hc
theorem PS_ib{o:Oper}{ρ:Operand→Value}{op:BinOp}{k k':IntKind}{a b:Int}{v:V}(hc:chkP P o.op (.ib op)=true)(hv:VsRel m [.int k a,.int k' b] (OV ρ o.op))
    (h:(bif kbeq k k' then ibin op k a b else none)=some v):PS P m o ρ v:=by
  cases hk:kbeq k k'
  ·rw[hk]at h;cases h
  ·rw[hk]at h;simp only[cond_true]at h;have:=kbeq_eq hk;subst this;simp only[chkP]at hc;split at hc
   ·rename_i b' t x y yt hy;have hb:op=b':=by simpa using hc
    subst hb;obtain⟨x',y',e,rx,ry⟩:=two_of hv;rw[hy]at e;change[ρ x,ρ y]=[x',y']at e;simp only[List.cons.injEq,and_true]at e;simp only[VRel]at rx ry;obtain⟨z,_,rz,_⟩:=ibin_run h P default t;refine⟨z,rz m,fun w=>?_⟩;obtain⟨z',hz,rz',_⟩:=ibin_run h P w t;have:z'=z:=by
      have r1:=rz m;have r2:=rz' m;cases v with
      |int k n=>simp only[VRel]at r1 r2;rw[r1,r2]
      |bool b=>simp only[VRel]at r1 r2;rw[r1,r2]
      |_=>cases op<;>simp only[ibin]at h<;>first|(cases h;done)|(cases hq:ieq b 0<;>rw[hq]at h<;>cases h)
    rw[←this];simp[execOp,hy,e.1,e.2,rx,ry,eqGuard_int,hz]
   ·cases hc
theorem PS_sh{o:Oper}{ρ:Operand→Value}{left:Bool}{k k':IntKind}{a b:Int}{v:V}(hc:chkP P o.op (.sh left)=true)(hv:VsRel m [.int k a,.int k' b] (OV ρ o.op))
    (h:ishift left k a b=some v):PS P m o ρ v:=by
  simp only[chkP]at hc;split at hc
  ·rename_i b' t x y yt hy;have hb:b'=bif left then BinOp.shl else BinOp.shr:=by simpa using hc
   obtain⟨x',y',e,rx,ry⟩:=two_of hv;rw[hy]at e;change[ρ x,ρ y]=[x',y']at e;simp only[List.cons.injEq,and_true]at e;simp only[VRel]at rx ry;obtain⟨z,_,rz,_⟩:=ishift_run (k':=k') h P default t;refine⟨z,rz m,fun w=>?_⟩;obtain⟨z',hz,rz',_⟩:=ishift_run (k':=k') h P w t;have:z'=z:=by
     have r1:=rz m;have r2:=rz' m;cases b with
     |ofNat n=>simp only[ishift,Option.some.injEq]at h;subst h;simp only[VRel]at r1 r2;rw[r1,r2]
     |negSucc n=>cases h
   rw[←this];subst hb;simp[execOp,hy,e.1,e.2,rx,ry,eqGuard_int,hz]
  ·cases hc
theorem PS_not{o:Oper}{ρ:Operand→Value}{b:Bool}(hc:chkP P o.op .not=true)(hv:VsRel m [.bool b] (OV ρ o.op)):PS P m o ρ (.bool (!b)):=by
  simp only[chkP]at hc;split at hc
  ·rename_i t p hy;obtain⟨x,e,r⟩:=one_of hv;rw[hy]at e;simp[Op.operands]at e;simp only[VRel]at r;exact⟨.bool (!b),rfl,fun w=>by simp[execOp,hy,e,r,Op.unary]⟩
  ·cases hc
theorem PS_neg{o:Oper}{ρ:Operand→Value}{k:IntKind}{n:Int}(hc:chkP P o.op .neg=true)(hv:VsRel m [.int k n] (OV ρ o.op)):PS P m o ρ (.int k (fwrap k (Int.sub 0 n))):=by
  simp only[chkP]at hc;split at hc
  ·rename_i t p hy;obtain⟨x,e,r⟩:=one_of hv;rw[hy]at e;simp[Op.operands]at e;simp only[VRel]at r;exact⟨.int k (k.wrap (0-n)),by rw[fwrap_eq];rfl,fun w=>by simp[execOp,hy,e,r,Op.unary,Op.intArith]⟩
  ·cases hc
theorem PS_cmpl{o:Oper}{ρ:Operand→Value}{k:IntKind}{n:Int}{v:V}(hc:chkP P o.op .cmpl=true)(hv:VsRel m [.int k n] (OV ρ o.op))
    (h:ibin .xor k (bif k.signed then-1 else k.max) n=some v):PS P m o ρ v:=by
  simp only[chkP]at hc;split at hc
  ·rename_i t p hy;obtain⟨x,e,r⟩:=one_of hv;rw[hy]at e;simp[Op.operands]at e;simp only[VRel]at r;simp only[ibin,Option.some.injEq]at h;subst h;refine⟨.int k (k.wrap (BitVec.toNat (BitVec.ofInt k.bits (if k.signed then-1 else k.max)^^^BitVec.ofInt k.bits n))),?_,fun w=>by simp only[execOp,hy,e,r,Op.unary,Op.intBits];rfl⟩;rw[fwrap_eq];simp only[VRel];congr 6;cases k.signed<;>rfl
  ·cases hc
theorem equal_bool{t:TypeId}(hu:P.underlying t=some .bool){w:World}(a b:Bool)(d:Nat):(Op.equalIn (d+1) t (.bool a) (.bool b)).run P w=.ok (a==b) w:=by
  simp only[Op.equalIn,Sem.run_bind,run_under hu,Result.andThen_ok];rfl
theorem PS_bb{o:Oper}{ρ:Operand→Value}{ne a b:Bool}(hc:chkP P o.op (.bb ne)=true)(hv:VsRel m [.bool a,.bool b] (OV ρ o.op)):PS P m o ρ (.bool (bif ne then xor a b else !(xor a b))):=by
  simp only[chkP]at hc;split at hc
  ·rename_i b' t x y yt hy;simp only[Bool.and_eq_true,decide_eq_true_eq]at hc;obtain⟨hb,hu⟩:=hc;have hu':P.underlying t=some .bool:=by split at hu<;>simp_all
   obtain⟨x',y',e,rx,ry⟩:=two_of hv;rw[hy]at e;change[ρ x,ρ y]=[x',y']at e;simp only[List.cons.injEq,and_true]at e;simp only[VRel]at rx ry;refine⟨_,rfl,fun w=>?_⟩;have heq:(Op.equal t (.bool a) (.bool b)).run P w=.ok (a==b) w:=equal_bool hu' a b 9999;subst hb;cases ne
   ·simp only[cond_false]at hy;simp only[cond_false,execOp,hy,e.1,e.2,rx,ry,Sem.run_bind,eqGuard_bool,Result.andThen_ok];have:binOp BinOp.eql t (.bool a) (.bool b)=(do pure (.bool (←Op.equal t (.bool a) (.bool b)))):=rfl;rw[this];simp only[Sem.run_bind,heq,Result.andThen_ok];cases a<;>cases b<;>rfl
   ·simp only[cond_true]at hy;simp only[cond_true,execOp,hy,e.1,e.2,rx,ry,Sem.run_bind,eqGuard_bool,Result.andThen_ok];have:binOp BinOp.neq t (.bool a) (.bool b)=(do pure (.bool (!(←Op.equal t (.bool a) (.bool b))))):=rfl;rw[this];simp only[Sem.run_bind,heq,Result.andThen_ok];cases a<;>cases b<;>rfl
  ·cases hc
theorem PS_nil{o:Oper}{ρ:Operand→Value}{kd:Nat}{ne:Bool}{a b:V}{r:Bool}(hc:chkP P o.op (.nil kd ne)=true)(hv:VsRel m [a,b] (OV ρ o.op))(h:nilEq kd a b=some r):
    PS P m o ρ (.bool (bif ne then !r else r)):=by
  simp only[chkP]at hc;split at hc
  ·rename_i b' t x y yt hy;simp only[Bool.and_eq_true,decide_eq_true_eq]at hc;obtain⟨⟨hb,hk⟩,hcon⟩:=hc;obtain⟨x',y',e,rx,ry⟩:=two_of hv;rw[hy]at e;change[ρ x,ρ y]=[x',y']at e;simp only[List.cons.injEq,and_true]at e;refine⟨_,rfl,fun w=>?_⟩;have heq:(Op.equal t x' y').run P w=.ok r w:=nilEq_run h hk rx ry 9999;have hg:(eqGuard b' t x y x' y').run P w=.ok () w:=nilEq_guard h rx ry hcon;obtain⟨b1,b2⟩:=nilEq_bin h rx ry t;subst hb;cases ne
   ·simp only[cond_false]at hg hy⊢;simp only[execOp,hy,e.1,e.2,Sem.run_bind,hg,Result.andThen_ok,b1,heq];rfl
   ·simp only[cond_true]at hg hy⊢;simp only[execOp,hy,e.1,e.2,Sem.run_bind,hg,Result.andThen_ok,b2,heq];rfl
  ·cases hc
theorem PS_faddr{o:Oper}{ρ:Operand→Value}{off b k:Nat}(hc:chkP P o.op (.faddr off)=true)(hv:VsRel m [.ptr b k] (OV ρ o.op)):PS P m o ρ (.ptr b (k+off)):=by
  simp only[chkP]at hc;split at hc
  ·rename_i s x f hy;obtain⟨x',e,r⟩:=one_of hv;rw[hy]at e;simp[Op.operands]at e;obtain⟨loc,hm,rfl⟩:=r;unfold faddrIs at hc;split at hc
   ·rename_i fields hu;split at hc
    ·rename_i fd hf;simp only[Bool.and_eq_true]at hc;obtain⟨ho,hi⟩:=hc;split at hi
     ·rename_i i hi';have hs:¬i.size=0:=by intro q;rw[q]at hi;simp at hi
      refine⟨_,⟨loc,hm,rfl⟩,fun w=>?_⟩;have:=Nat.eq_of_beq_eq_true ho;simp[execOp,hy,e,Instr.fieldAt,run_under hu,hf,Instr.sureAddr,fieldPlace,sizeOf,run_info hi',hs,add_mk,this,Nat.add_assoc]
     ·cases hi
    ·cases hc
   ·cases hc
  ·cases hc
end
end Go.Ev
