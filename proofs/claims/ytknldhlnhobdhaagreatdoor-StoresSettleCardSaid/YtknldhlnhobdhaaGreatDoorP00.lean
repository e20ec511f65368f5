/- An evaluator of the program, and contracts over it: EvA to EvL. -/
import GoSem.Step
import Derived.Orders
import Derived.Laws.Rows
import Derived.Laws.Cells
import Derived.Laws.Sem
import Derived.Laws.Tables
set_option linter.unusedSimpArgs false
set_option linter.unusedVariables false
set_option linter.constructorNameAsVariable false
set_option linter.unnecessarySimpa false
noncomputable section
theorem oM{p:Prop}(h:p:=by omega):p:=h
theorem iS{p:Prop}(h:p:=by simp):p:=h
theorem oO{p:Prop}(h:p:=by simp;omega):p:=h
theorem dI{p:Prop}(h:p:=by decide):p:=h
theorem iR{p:Prop}(h:p:=by rfl):p:=h
theorem iX{p:Prop}(h:p:=by simp[*]):p:=h
theorem eG{p q:Prop}(h:q)(k:p=q:=by simp):p:=k▸h
theorem eV{p q:Prop}(h:q)(k:q->p:=by simpa):p:=k h
namespace Go.Ev
abbrev pi:=@Int.toNat_natCast
abbrev VY:=@Bool.and_eq_true
abbrev VZ:=@Nat.le_refl
abbrev Wa:=@List.mem_append
abbrev Wb:=@Nat.eq_of_beq_eq_true
abbrev Wc:=@List.mem_of_getElem?
abbrev Wd:=@Go.Result.andThen_ok
abbrev Wf:=@List.getElem?_eq_getElem
abbrev Wg:=@Option.some.injEq
abbrev Wh:=@Nat.le_of_ble_eq_true
abbrev Wi:=@List.mem_singleton
abbrev Wj:=@List.take_of_length_le
abbrev Wk:=@List.getElem?_eq_some_iff
abbrev Wm:=@Go.Sem.run_bind
abbrev Wn:=@List.take_add_one
abbrev Wo:=@List.drop_of_length_le
abbrev Wq:=@List.length_append
abbrev Ws:=@Option.map_some
abbrev Wt:=@List.mem_cons
abbrev Wu:=@List.length_eq_zero_iff
abbrev Wv:=@List.length_cons
abbrev Ww:=@List.cons.injEq
abbrev Wx:=@Go.Sem.run_pure
abbrev Wy:=@Nat.le_trans
abbrev Wz:=@Array.getElem?_eq_getElem
abbrev WB:=@Nat.blt_eq
abbrev WC:=@Prod.mk.injEq
abbrev WE:=@Bool.false_eq_true
abbrev WG:=@Nat.zero_add
abbrev WH:=@List.flatMap_cons
abbrev WJ:=@Array.getD_eq_getD_getElem?
abbrev WK:=@List.map_cons
abbrev WL:=@List.map_map
abbrev WM:=@List.getElem?_map
abbrev WN:=@Option.bind_some
abbrev WO:=@List.take_append_drop
abbrev WP:=@List.mem_map
abbrev WQ:=@List.mem_or_eq_of_mem_set
abbrev WR:=@List.mem_of_mem_drop
abbrev WT:=@Array.getElem?_eq_some_iff
abbrev WU:=@List.append_assoc
abbrev WV:=@List.length_set
abbrev WW:=@Nat.mul_le_mul_right
abbrev WX:=@List.mem_of_mem_take
abbrev WY:=@Nat.lt_or_ge
abbrev Xa:=@List.getElem?_eq_none
abbrev Xb:=@List.not_mem_nil
abbrev Xd:=@List.length_map
abbrev Xe:=@List.map_append
abbrev Xf:=@List.drop_eq_getElem_cons
abbrev Xg:=@List.append_nil
abbrev Xh:=@Nat.lt_of_lt_of_le
abbrev Xi:=@List.take_append_of_le_length
abbrev Xj:=@List.drop_append_of_le_length
abbrev Xk:=@List.getElem?_drop
abbrev Xl:=@Option.some.inj
abbrev Xm:=@List.drop_length_add_append
abbrev Xo:=@List.getD_eq_getElem?_getD
abbrev Xp:=@List.take_sublist
abbrev Xq:=@List.take_length
abbrev Xu:=@List.filter_append
abbrev Xv:=@Nat.mul_one
abbrev Xw:=@List.all_eq_true
abbrev Xx:=@List.drop_drop
abbrev Xz:=@List.cons_append
abbrev XA:=@Nat.add_assoc
abbrev XB:=@Bool.not_eq_true'
abbrev XC:=@Nat.mod_lt
abbrev XE:=@List.count_le_length
abbrev XF:=@List.getElem?_append_left
abbrev XG:=@List.sum_append
abbrev XH:=@List.sum_cons
abbrev XI:=@List.replicate_succ
abbrev XJ:=@Bool.or_eq_true
abbrev XK:=@Ne.symm
abbrev XL:=@List.set_eq_take_append_cons_drop
abbrev XM:=@List.length_nil
abbrev XN:=@Nat.min_eq_left
abbrev XO:=@List.nil_append
abbrev XP:=@Nat.mod_eq_of_lt
abbrev XQ:=@List.map_nil
abbrev XR:=@List.drop_length
abbrev XS:=@List.flatMap_append
abbrev XT:=@List.length_pos_iff
abbrev XU:=@Nat.beq_refl
abbrev XV:=@Bool.eq_iff_iff
abbrev XW:=@List.getElem?_take
abbrev XY:=@List.getElem?_set_ne
abbrev XZ:=@List.getElem?_cons_succ
abbrev Ya:=@Bool.and_self
abbrev Yb:=@List.all_cons
abbrev Yc:=@Iff.rfl
abbrev Yd:=@List.getElem?_replicate
abbrev Ye:=@List.drop_left
abbrev Yf:=@Nat.sub_self
abbrev Yg:=@Nat.ble_eq
abbrev Yh:=@List.drop_sublist
abbrev Yi:=@Nat.add_mul
abbrev Yj:=@List.mem_filter
abbrev Yk:=@List.length_take
abbrev Yl:=@List.length_drop
abbrev Yp:=@Nat.add_zero
abbrev Yq:=@Nat.succ_mul
abbrev Yr:=@Bool.false_or
abbrev Ys:=@List.length_filter_le
abbrev Yt:=@List.set_cons_zero
abbrev Yu:=@List.take_take
abbrev Yv:=@List.take_succ_eq_append_getElem
abbrev Yw:=@Function.comp_def
abbrev Yx:=@List.Sublist.refl
abbrev Yy:=@List.ext_getElem?
abbrev Yz:=@Nat.add_comm
abbrev YC:=@List.getElem?_cons_zero
abbrev YD:=@List.take_succ_cons
abbrev YE:=@List.replicate_zero
abbrev YF:=@List.filter_cons
abbrev YG:=@List.drop_zero
abbrev YH:=@List.take_left
abbrev YI:=@Nat.mul_div_cancel
abbrev YJ:=@List.countP_append
abbrev YK:=@Nat.sub_zero
abbrev YL:=@List.getElem?_toArray
abbrev YM:=@List.range_succ
abbrev YN:=@Nat.testBit_two_pow_mul_add
abbrev YO:=@List.map_set
abbrev YP:=@List.set_append
abbrev YQ:=@List.take_length_add_append
abbrev YS:=@List.count_append
abbrev YT:=@List.nodup_append
abbrev YU:=@List.getElem?_append_right
abbrev YV:=@Array.getElem?_append_left
abbrev YW:=@Bool.and_eq_true_iff
abbrev YY:=@List.mem_cons_of_mem
abbrev YZ:=@List.take_zero
abbrev Za:=@List.getElem?_eq_none_iff
abbrev Zb:=@Option.getD_some
abbrev Zc:=@Option.getD_none
abbrev Zd:=@List.countP_cons
abbrev Ze:=@Option.isSome_iff_exists
abbrev Zf:=@List.eq_of_mem_replicate
abbrev Zg:=@Bool.not_true
abbrev Zh:=@Nat.add_sub_cancel_left
abbrev Zi:=@List.map_take
abbrev Zj:=@List.getLast?_singleton
abbrev Zk:=@Option.toList_some
abbrev Zl:=@List.set_cons_succ
abbrev Zm:=@List.filter_congr
abbrev Zn:=@List.countP_congr
abbrev Zo:=@List.any_eq_false
abbrev Zp:=@List.getElem?_set
abbrev Zq:=@Nat.zero_mul
abbrev Zr:=@Nat.ble_eq_true_of_le
abbrev Zt:=@List.getElem_mem
abbrev Zu:=@List.map_toArray
abbrev Zv:=@List.any_eq_true
abbrev Zw:=@List.take_append
abbrev Zx:=@List.getLast?_append
abbrev Zy:=@Nat.pow_lt_pow_right
abbrev Zz:=@Bool.true_and
abbrev ZA:=@List.any_cons
abbrev ZB:=@Nat.le_succ
abbrev ZC:=@List.foldl_cons
abbrev ZD:=@Int.natCast_add
abbrev ZE:=@List.countP_pos_iff
abbrev ZG:=@List.nodup_cons
abbrev ZH:=@Nat.eq_zero_or_pos
abbrev ZJ:=@Int.natCast_nonneg
abbrev ZK:=@Nat.lt_of_le_of_lt
abbrev ZL:=@List.mapM_cons
abbrev ZM:=@List.drop_take
abbrev ZN:=@Array.ext'
abbrev ZP:=@Nat.lt_trichotomy
abbrev ZQ:=@Nat.mul_pos
abbrev ZR:=@Bool.or_false
abbrev ZS:=@List.take_add
end Go.Ev
namespace Go.Ev
inductive T(α:Type) where
 |e
 |n (l:T α) (v:Option α) (r:T α)
namespace T
variable {α : Type}
def c_(t:T α):Nat->Option α:=
 T.rec (motive:=fun _=>Nat->Option α) (fun _=>none)
  (fun _ v _ gl gr i=>Nat.rec (motive:=fun _=>Option α) v
   (fun j _=>Nat.rec (motive:=fun _=>Option α) (gl (Nat.div j 2)) (fun _ _=>gr (Nat.div j 2)) (Nat.mod j 2)) i) t
def K?(v:α)(d:Nat):T α->Nat->T α:=
 Nat.rec (motive:=fun _=>T α->Nat->T α) (fun t _=>t)
  (fun _ rec t i=>T.rec (motive:=fun _=>T α)
   (Nat.rec (motive:=fun _=>T α) (.n .e (some v) .e)
    (fun j _=>Nat.rec (motive:=fun _=>T α) (.n (rec .e (Nat.div j 2)) none .e) (fun _ _=>.n .e none (rec .e (Nat.div j 2))) (Nat.mod j 2)) i)
   (fun l x r _ _=>Nat.rec (motive:=fun _=>T α) (.n l (some v) r)
    (fun j _=>Nat.rec (motive:=fun _=>T α) (.n (rec l (Nat.div j 2)) x r) (fun _ _=>.n l x (rec r (Nat.div j 2))) (Nat.mod j 2)) i)
   t) d
def A_(t:T α)(i:Nat)(v:α):T α:=K? v (Nat.succ i) t i
@[simp] theorem PL (i : Nat) : (T.e : T α).c_ i = none := rfl
theorem J?(l:T α)(v:Option α)(r:T α):(T.n l v r).c_ 0=v:=rfl
theorem W0(l:T α)(v:Option α)(r:T α)(j:Nat):(T.n l v r).c_ (j+1)=if j%2=0 then l.c_ (j/2)else r.c_ (j/2):=by show Nat.rec (motive:=fun _=>Option α) (l.c_ (j/2)) (fun _ _=>r.c_ (j/2)) (j%2)=_;have h:j%2=0\/j%2=1:=oM;obtain h|h:=h<;>rw[h]<;>rfl
theorem MH(v:α)(d:Nat):K? v (d+1) .e 0=.n .e (some v) .e:=rfl
theorem MG(v:α)(d j:Nat):K? v (d+1) .e (j+1)=if j%2=0 then .n (K? v d .e (j/2)) none .e else .n .e none (K? v d .e (j/2)):=by show Nat.rec (motive:=fun _=>T α) (.n (K? v d .e (j/2)) none .e) (fun _ _=>.n .e none (K? v d .e (j/2))) (j%2)=_;have h:j%2=0\/j%2=1:=oM;obtain h|h:=h<;>rw[h]<;>rfl
theorem MF(v:α)(d:Nat)(l r:T α)(x:Option α):K? v (d+1) (.n l x r) 0=.n l (some v) r:=rfl
theorem ME(v:α)(d j:Nat)(l r:T α)(x:Option α):K? v (d+1) (.n l x r) (j+1)=if j%2=0 then .n (K? v d l (j/2)) x r else .n l x (K? v d r (j/2)):=by show Nat.rec (motive:=fun _=>T α) (.n (K? v d l (j/2)) x r) (fun _ _=>.n l x (K? v d r (j/2))) (j%2)=_;have h:j%2=0\/j%2=1:=oM;obtain h|h:=h<;>rw[h]<;>rfl
theorem KA(v:α)(d:Nat):∀(t:T α)(i j:Nat),i<d->(K? v d t i).c_ j=if j=i then some v else t.c_ j:=by
 induction d with
 |zero=>intro t i j h;omega
 |succ d ih=>
  intro t i j h;cases t with
  |e=>
   cases i with
   |zero=>
    rw[MH];cases j with
    |zero=>simp[J?]
    |succ j=>rw[W0];simp
   |succ i=>
    rw[MG];cases j with
    |zero=>split<;>simp[J?]
    |succ j=>split;rename_i K;rw[W0,ih _ _ _ oM];split;rename_i hj;by_cases Z:j=i;subst Z;simp;rw[if_neg oM,if_neg oM];simp;rw[if_neg oM];simp;rename_i K;rw[W0,ih _ _ _ oM];split;rw[if_neg oM];simp;rename_i hj;by_cases Z:j=i;subst Z;simp;rw[if_neg oM,if_neg oM];simp
  |n l x r=>
   cases i with
   |zero=>
    rw[MF];cases j with
    |zero=>simp[J?]
    |succ j=>rw[W0,W0];simp
   |succ i=>
    rw[ME];cases j with
    |zero=>split<;>simp[J?]
    |succ j=>split;rename_i K;rw[W0,W0,ih _ _ _ oM];split;grind;grind;rename_i K;rw[W0,W0,ih _ _ _ oM];split;grind;grind
theorem Q0(t:T α)(i j:Nat)(v:α):(t.A_ i v).c_ j=if j=i then some v else t.c_ j:=KA v _ t i j (Nat.lt_succ_self i)
theorem K_(t:T α)(i:Nat)(v:α):(t.A_ i v).c_ i=some v:=by rw[Q0,if_pos rfl]
theorem v_(t:T α){i j:Nat}(v:α)(h:j≠i):(t.A_ i v).c_ j=t.c_ j:=by rw[Q0,if_neg h]
end T
def X8{α:Type}(l:List α):Nat->Option α:=
 List.rec (motive:=fun _=>Nat->Option α) (fun _=>none) (fun v _ ih i=>Nat.rec (motive:=fun _=>Option α) (some v) (fun j _=>ih j) i) l
theorem eZ{α:Type}(l:List α)(i:Nat):X8 l i=l[i]? :=by
 induction l generalizing i with
 |nil=>rfl
 |cons v l ih=>cases i with
  |zero=>rfl
  |succ i=>exact(ih i).trans iS
def upd{α:Type}(l:List α):Nat->List α->List α:=
 List.rec (motive:=fun _=>Nat->List α->List α) (fun _ _=>[]) (fun x _ ih i vs=>Nat.rec (motive:=fun _=>List α)
  (List.rec (motive:=fun _=>List α) (x::ih 0 []) (fun v vs _=>v::ih 0 vs) vs) (fun j _=>x::ih j vs) i) l
@[simp] theorem Pb {α : Type} (i : Nat) (vs : List α) : upd [] i vs = [] := rfl
inductive V where
 |h (b:Bool)
 |A (k:IntKind) (n:Int)
 |f (s:List UInt8)
 |O
 |u (b o:Nat)
 |r
 |y (b o len cap:Nat)
 |G (b o len esz:Nat)
 |L
 |nilm
 |map (b:Nat)
 |R
 |E (fn:Fn) (first caps:List V)
 |nili
 |iface (t:Nat) (v:V)
 |B (l:List V)
 |D (l:List V)
 |yld (b:Nat)
 |sliceZ (a:Addr) (cap:Nat)
inductive PK where
 |o|r|h
 |e (op:BinOp)|E (left:Bool)
 |u|G|H
 |J (ne:Bool)
 |j (kind:Nat) (ne:Bool)
 |b (off:Nat)
 |z (off n:Nat) (isAgg:Bool)
 |l (len esz:Nat)|c (esz:Nat)|f (len esz:Nat) (isAgg:Bool)
 |v (i:Nat)
 |A (fn:Fn) (nfirst:Nat)
 |L (t:Nat)
 |a (zero:List V) (places:List (Nat×Nat))
 |s (arr:Option Nat) (esz:Nat) (lo hi mx:Bool)
 |d|x (n:Nat)
 |y|D (n:Nat)
 |K|F
 |q (k:IntKind)
 |I (ne:Bool) (ks:List Nat)
 |B (op:BinOp)
 |g|p
 |C (lo hi:Bool)
inductive H_ where
 |l (k:Nat)
 |v (s:Nat)
 |c (x:V)
 |g (n:Nat)
inductive Q8 where
 |p (k:PK) (xs:List H_)
 |a (n:Nat) (ia:Bool) (x:H_)
 |h (n:Nat) (x y:H_)
 |c (zero:List V)
 |r (x:H_)
 |b (zero:List V) (places:List (Nat×Nat)) (len:Nat) (xs:List H_)
 |g (zero:List V) (bytes:Nat) (x y:H_)
 |i (esz bytes:Nat) (x y:H_)
 |q (esz:Nat) (x y:H_)
 |d (f:Nat) (xs:List H_)
 |e (x:H_) (xs:List H_)
 |s (xs:List H_)
 |o (ks:Option (List Nat)) (zero:V) (ok:Bool) (xs:List H_)
 |z (ks:Option (List Nat)) (xs:List H_)
 |l (zero:List V) (x:H_)
 |j (x:H_)
 |A (x:H_) (xs:List H_)
 |v (nx:Bool) (x:H_)
 |u
structure n_ where
 c:Option (H_×Bool)
 a:Q8
 b:Option Nat
inductive IC where
 |f
 |n (l:List n_)
 |e (a b:IC)
 |d (x:H_) (a b:IC)
 |h (id:Nat) (c:IC)
 |o (c:IC)
 |k (id:Nat)
 |q
 |j (c:IC) (l:Nat) (r:IC)
 |p (l:Nat)
 |i (l:List n_) (late R:List Nat) (reads:List (Nat×Nat×Nat)) (sets:List (Nat×Nat))
 |s
 |u (g:H_) (ps:List Nat) (a b:IC)
 |v (c:IC)
inductive Ex where
 |a|d
 |c (id:Nat)
 |b (l:Nat)
def YB:Nat:=1099511627776
def U_:Nat:=1048576
structure LG where
 r:Loop
 b:List Nat
 c:IC
 d:IC
 a:List Nat
 N:Nat
structure V3 where
 a:Nat
 b:Nat
 c:Nat
 d:Option LG
abbrev M:=Nat->Option V3
mutual
def l_(m:M):V->Value->Prop
 |.h b,x=>x=.bool b
 |.A k n,x=>x=.int k n
 |.f s,x=>x=.string ⟨s.toArray⟩
 |.O,x=>x=.pointer none
 |.u b o,x=>∃loc,m b=some loc/\x=.pointer (some ⟨loc.a,loc.b+o,none⟩)
 |.r,x=>x=.slice none 0 0
 |.y b o len cap,x=>∃loc,m b=some loc/\len<=cap/\x=.slice (some ⟨loc.a,loc.b+o,none⟩) len cap
 |.G b o len esz,x=>∃loc,m b=some loc/\len<=(loc.c-o)/esz/\x=.slice (some ⟨loc.a,loc.b+o,none⟩) len ((loc.c-o)/esz)
 |.L,x=>∃a cap,x=.slice (some a) 0 cap
 |.nilm,x=>x=.map none
 |.map b,x=>∃loc,m b=some loc/\x=.map (some loc.a)
 |.R,x=>x=.nilFunc
 |.E fn first caps,x=>∃f' c',x=.func fn (List.toArray f') (List.toArray c')/\f_ m first f'/\f_ m caps c'
 |.nili,x=>x=.nilIface
 |.iface t v,x=>∃v',x=.iface t v'/\l_ m v v'
 |.B l,x=>∃l',x=.agg (List.toArray l')/\f_ m l l'
 |.D l,x=>∃l',x=.tuple (List.toArray l')/\f_ m l l'
 |.yld b,x=>∃loc,m b=some loc/\x=.func (.yield loc.a) #[] #[]
 |.sliceZ a cap,x=>x=.slice (some a) 0 cap
def f_(m:M):List V->List Value->Prop
 |[],l=>l=[]
 |v::vs,l=>∃v' vs',l=v'::vs'/\l_ m v v'/\f_ m vs vs'
end
def Le(m m':M):Prop:=∀b loc,m b=some loc->m' b=some loc
mutual
theorem l_.mono{m m':M}(h:Le m m'):∀(v:V)(x:Value),l_ m v x->l_ m' v x
 |.h _,_,r=>r
 |.A _ _,_,r=>r
 |.f _,_,r=>r
 |.O,_,r=>r
 |.u _ _,_,⟨loc,hb,r⟩=>⟨loc,h _ _ hb,r⟩
 |.r,_,r=>r
 |.y _ _ _ _,_,⟨loc,hb,r⟩=>⟨loc,h _ _ hb,r⟩
 |.G _ _ _ _,_,⟨loc,hb,r⟩=>⟨loc,h _ _ hb,r⟩
 |.L,_,r=>r
 |.nilm,_,r=>r
 |.map _,_,⟨loc,hb,r⟩=>⟨loc,h _ _ hb,r⟩
 |.R,_,r=>r
 |.E _ first caps,_,⟨f',c',r,a,b⟩=>⟨f',c',r,f_.mono h first f' a,f_.mono h caps c' b⟩
 |.nili,_,r=>r
 |.iface _ v,_,⟨v',r,a⟩=>⟨v',r,l_.mono h v v' a⟩
 |.B l,_,⟨l',r,a⟩=>⟨l',r,f_.mono h l l' a⟩
 |.D l,_,⟨l',r,a⟩=>⟨l',r,f_.mono h l l' a⟩
 |.yld _,_,⟨loc,hb,r⟩=>⟨loc,h _ _ hb,r⟩
 |.sliceZ _ _,_,r=>r
theorem f_.mono{m m':M}(h:Le m m'):∀(l:List V)(x:List Value),f_ m l x->f_ m' l x
 |[],_,r=>r
 |v::vs,_,⟨v',vs',r,a,b⟩=>⟨v',vs',r,l_.mono h v v' a,f_.mono h vs vs' b⟩
end
def Geo(m m':M):Prop:=∀b loc,m b=some loc->∃l',m' b=some l'/\l'.a=loc.a/\l'.b=loc.b/\l'.c=loc.c
mutual
theorem l_.geo{m m':M}(h:Geo m m'):∀(v:V)(x:Value),l_ m v x→l_ m' v x
 |.h _,_,r=>r
 |.A _ _,_,r=>r
 |.f _,_,r=>r
 |.O,_,r=>r
 |.u _ _,_,⟨loc,hb,r⟩=>let⟨l',h1,h2,h3,_⟩:=h _ _ hb;⟨l',h1,by rw[h2,h3];exact r⟩
 |.r,_,r=>r
 |.y _ _ _ _,_,⟨loc,hb,r⟩=>let⟨l',h1,h2,h3,_⟩:=h _ _ hb;⟨l',h1,by rw[h2,h3];exact r⟩
 |.G _ _ _ _,_,⟨loc,hb,r⟩=>let⟨l',h1,h2,h3,h4⟩:=h _ _ hb;⟨l',h1,by rw[h2,h3,h4];exact r⟩
 |.L,_,r=>r
 |.nilm,_,r=>r
 |.map _,_,⟨loc,hb,r⟩=>let⟨l',h1,h2,_⟩:=h _ _ hb;⟨l',h1,by rw[h2];exact r⟩
 |.R,_,r=>r
 |.E _ first caps,_,⟨f',c',r,a,b⟩=>⟨f',c',r,f_.geo h first f' a,f_.geo h caps c' b⟩
 |.nili,_,r=>r
 |.iface _ v,_,⟨v',r,a⟩=>⟨v',r,l_.geo h v v' a⟩
 |.B l,_,⟨l',r,a⟩=>⟨l',r,f_.geo h l l' a⟩
 |.D l,_,⟨l',r,a⟩=>⟨l',r,f_.geo h l l' a⟩
 |.yld _,_,⟨loc,hb,r⟩=>let⟨l',h1,h2,_⟩:=h _ _ hb;⟨l',h1,by rw[h2];exact r⟩
 |.sliceZ _ _,_,r=>r
theorem f_.geo{m m':M}(h:Geo m m'):∀(l:List V)(x:List Value),f_ m l x->f_ m' l x
 |[],_,r=>r
 |v::vs,_,⟨v',vs',r,a,b⟩=>⟨v',vs',r,l_.geo h v v' a,f_.geo h vs vs' b⟩
end
theorem f_.w_{m:M}:f_ m [] []:=rfl
theorem f_.o_{m:M}{v:V}{vs:List V}{x:Value}{xs:List Value}(h:l_ m v x)(t:f_ m vs xs):f_ m (v::vs) (x::xs):=⟨x,xs,rfl,h,t⟩
theorem f_.Z{m:M}:∀{vs:List V}{xs:List Value},f_ m vs xs->xs.length=vs.length
 |[],_,rfl=>rfl
 |_::_,_,⟨_,_,rfl,_,t⟩=>by simp[f_.Z t]
theorem f_.i{m:M}:∀{vs:List V}{xs:List Value}(i:Nat)(v:V),f_ m vs xs->vs[i]? =some v->∃x,xs[i]? =some x/\l_ m v x
 |[],_,_,_,_,h=>by simp at h
 |_::_,_,0,_,⟨x,_,rfl,r,_⟩,h=>by simp at h;subst h;exact⟨x,iS,r⟩
 |_::_,_,i+1,v,⟨_,_,rfl,_,t⟩,h=>by simpa using f_.i i v t (eV h)
theorem f_.append{m:M}:∀{as bs:List V}{xs ys:List Value},f_ m as xs->f_ m bs ys->f_ m (as++bs) (xs++ys)
 |[],_,_,_,rfl,h=>h
 |_::_,_,_,_,⟨_,_,rfl,r,t⟩,h=>⟨_,_,rfl,r,f_.append t h⟩
theorem f_.of_get{m:M}:∀{vs:List V}{xs:List Value},xs.length=vs.length→(∀(i:Nat) v,vs[i]? =some v→∃x,xs[i]? =some x∧l_ m v x)→f_ m vs xs
 |[],xs,h,_=>by cases xs<;>simp_all [f_]
 |v::vs,[],h,_=>by simp at h
 |v::vs,x::xs,h,g=>by refine⟨x,xs,rfl,?_,f_.of_get (eV h) fun i u hu=>by simpa using g (i+1) u (eV hu)⟩;let⟨y,hy,r⟩:=g 0 v rfl;simp at hy;subst hy;exact r
def V.U:V->Bool
 |.B _=>false
 |.D _=>false
 |_=>true
def rU:Value->Bool
 |.agg _|.tuple _=>false
 |_=>true
theorem l_.U{m:M}{v:V}{x:Value}(h:l_ m v x)(o:v.U=true):rU x=true:=by
 cases v<;>simp[V.U]at o<;>simp[l_]at h;all_goals first
  |(subst h;rfl)
  |(obtain⟨_,_,rfl⟩:=h;rfl)
  |(obtain⟨_,_,_,rfl⟩:=h;rfl)
  |(obtain⟨_,rfl,_⟩:=h;rfl)
  |(obtain⟨_,_,rfl,_⟩:=h;rfl)
def aw(l:List V):Bool:=l.all V.U
inductive Y5 where
 |a (c:List V) (fam mk:Nat)
 |f (es:List (V×V×Nat)) (clock:Nat)
 |d (ps:List Nat) (as bd:IC) (env:T V) (st:Nat) (pend:Option Ex)
 |e (s:List UInt8) (pos:Nat)
 |b
structure a_ where
 S:T Y5
 e:Nat
 Q:T (Nat×Nat)
def rd(h:a_)(p f k:Nat):Bool:=
 match h.Q.c_ f with
 |none=>true
 |some (o,e)=>Nat.beq o p||Nat.beq k e
structure HWF(h:a_):Prop where
 b:∀p c f k,h.S.c_ p=some (.a c f k)->match h.Q.c_ f with
  |none=>f=p
  |some (_,e)=>k<=e
 a:∀p,h.e<=p->h.S.c_ p=none/\h.Q.c_ p=none
def lst:Nat->LoopState
 |0=>.ready
 |1=>.busy
 |2=>.done
 |_=>.exhausted
def jx:Ex->Code
 |.a=>.skip
 |.d=>.ret
 |.c id=>.exit id
 |.b l=>.goto l
def BRel(m:M)(h:a_)(p:Nat)(loc:V3)(w:World):Y5->Prop
 |.a c f k=>rd h p f k=true->∃C elem fz,w.heap[loc.a]? =some (.cells C elem fz)/\loc.b+loc.c<=C.size/\c.length<=loc.c/\
  (∀(i:Nat) v,c[i]? =some v->∃x,C[loc.b+i]? =some x/\l_ m v x)/\
  (∀i:Nat,i<loc.c->¬(fz.1<=loc.b+i/\loc.b+i<fz.2))
 |.f es clock=>∃es',w.heap[loc.a]? =some (.map (List.toArray es') clock)/\es'.length=es.length/\
  ∀(i:Nat) k v n,es[i]? =some (k,v,n)->∃e:MapEntry,es'[i]? =some e/\l_ m k e.key/\l_ m v e.val/\e.born=n
 |.d ps as bd env st pend=>∃g,loc.d=some g/\g.b=ps/\g.c=as/\g.d=bd/\w.heap[loc.a]? =some (.loop {g.r with state:=lst st,pending:=pend.map jx})/\
  ∀s v,env.c_ s=some v->s=U_\/(g.a.contains s=true/\l_ m v (g.r.tmps.getD s undef))
 |.e s pos=>loc.b=0/\w.heap[loc.a]? =some (.stringIter ⟨s.toArray⟩ pos)
 |.b=>True
structure r_(m:M)(h:a_)(w:World):Prop where
 g:HWF h
 c:∀p loc,m p=some loc->∃b,h.S.c_ p=some b/\BRel m h p loc w b
 a:∀p loc,m p=some loc->loc.a<w.heap.size
 d:∀p q lp lq,m p=some lp->m q=some lq->lp.a=lq.a->p≠q->
  ∃cp cq f kp kq,h.S.c_ p=some (.a cp f kp)/\h.S.c_ q=some (.a cq f kq)/\
   (∀e,h.Q.c_ f=some (q,e)->lp.b+cp.length<=lq.b+cq.length)
def b?(m:M)(b i:Nat):Prop:=∃p loc,m p=some loc/\loc.a=b/\loc.b<=i/\i<loc.b+loc.c
def T_(m:M)(b:Nat)(o o':Option Obj):Prop:=∀x,o=some x->∃x',o'=some x'/\match x,x' with
 |.cells c t fr,.cells c' t' fr'=>t'=t/\fr'=fr/\c'.size=c.size/\∀j:Nat,¬b? m b j->c'[j]? =c[j]?
 |.map _ _,.map _ _=>True
 |.loop _,.loop _=>True
 |.stringIter _ _,.stringIter _ _=>True
 |x,x'=>x'=x
theorem T_.b(m:M)(b:Nat)(o:Option Obj):T_ m b o o:=fun x h=>⟨x,h,by cases x<;>simp⟩
theorem T_.a{m:M}{b:Nat}{o o':Option Obj}(e:o'=o):T_ m b o o':=e▸T_.b m b o
theorem T_.c{m Z:M}{b:Nat}{o K ac:Option Obj}(hc:∀j,b? Z b j->b? m b j)(a:T_ m b o K)(d:T_ Z b K ac):T_ m b o ac:=by
 intro x hx;let⟨x1,h1,a⟩:=a x hx;let⟨x2,h2,d⟩:=d x1 h1;refine⟨x2,h2,?_⟩;cases x with
 |cells c t fr=>
  cases x1 with
  |cells c1 t1 f1=>
   cases x2 with
   |cells c2 t2 f2=>let⟨a1,a2,a3,a4⟩:=a;let⟨d1,d2,d3,d4⟩:=d;exact⟨d1.trans a1,d2.trans a2,d3.trans a3,fun j hj=>(d4 j fun x=>hj (hc j x)).trans (a4 j hj)⟩
   |_=>simp at d
  |_=>simp at a
 |map es k=>
  cases x1 with
  |map es1 k1=>
   cases x2 with
   |map es2 k2=>trivial
   |_=>simp at d
  |_=>simp at a
 |loop r=>
  cases x1 with
  |loop r1=>
   cases x2 with
   |loop r2=>trivial
   |_=>simp at d
  |_=>simp at a
 |stringIter s p=>
  cases x1 with
  |stringIter s1 p1=>
   cases x2 with
   |stringIter s2 p2=>trivial
   |_=>simp at d
  |_=>simp at a
 |_=>simp at a;subst a;simpa using d
structure P5(m:M)(h:a_)(w:World)(m':M)(h':a_)(w':World):Prop where
 j:Le m m'
 k:∀p loc,m' p=some loc->m p=none->h.e<=p/\(w.heap.size<=loc.a\/∃q lq,m q=some lq/\lq.a=loc.a)
 f:h.e<=h'.e
 l:∀p,m p=none->p<h.e->h'.S.c_ p=h.S.c_ p
 c:w.heap.size<=w'.heap.size
 e:∀b,(∀p loc,m p=some loc->loc.a≠b)->b<w.heap.size->w'.heap[b]? =w.heap[b]?
 s:w'.os=w.os
 g:w'.tape=w.tape
 d:w'.output=w.output
 o:∀b i,b<w.heap.size->b? m' b i->b? m b i
 n:∀b,b<w.heap.size->T_ m b w.heap[b]? w'.heap[b]?
 r:∀p loc,m' p=some loc->m p=none->loc.d=none
theorem P5.b(m:M)(h:a_)(w:World):P5 m h w m h w:=
 ⟨fun _ _ x=>x,fun _ _ a b=>by simp[a]at b,VZ _,fun _ _ _=>rfl,VZ _,fun _ _ _=>rfl,rfl,rfl,rfl,fun _ _ _ x=>x,fun _ _=>T_.b _ _ _,fun _ _ a b=>by simp[a]at b⟩
theorem P5.a{m m₁ m₂:M}{h h₁ h₂:a_}{w w₁ w₂:World}(a:P5 m h w m₁ h₁ w₁)(b:P5 m₁ h₁ w₁ m₂ h₂ w₂):P5 m h w m₂ h₂ w₂ where
 j:=fun p loc x=>b.j _ _ (a.j _ _ x)
 k:=fun p loc h2 h0=>by
  cases h1:m₁ p with
  |some l1=>have e:=b.j _ _ h1;rw[e]at h2;cases h2;exact a.k _ _ h1 h0
  |none=>
   let⟨n1,n2⟩:=b.k _ _ h2 h1;refine⟨Nat.le_trans a.f n1,?_⟩;obtain n2|⟨q,lq,hq,e⟩:=n2;exact .inl (Nat.le_trans a.c n2);cases hq0:m q with
   |some l0=>have e0:=a.j _ _ hq0;rw[hq]at e0;cases e0;exact .inr ⟨q,lq,hq0,e⟩
   |none=>obtain s|⟨r,lr,hr,e2⟩:=(a.k _ _ hq hq0).2;exact .inl (e▸s);grind
 f:=Nat.le_trans a.f b.f
 l:=fun p h0 hp=>by
  cases h1:m₁ p with
  |some l1=>have:=(a.k _ _ h1 h0).1;omega
  |none=>exact(b.l p h1 (Nat.lt_of_lt_of_le hp a.f)).trans (a.l p h0 hp)
 c:=Nat.le_trans a.c b.c
 e:=fun c h0 hc=>by
  refine(b.e c (fun p loc hp he=>?_) (Nat.lt_of_lt_of_le hc a.c)).trans (a.e c h0 hc);cases hp0:m p with
  |some l0=>have e0:=a.j _ _ hp0;rw[hp]at e0;cases e0;exact h0 p loc hp0 he
  |none=>obtain s|⟨r,lr,hr,e2⟩:=(a.k _ _ hp hp0).2;omega;grind
 s:=b.s.trans a.s
 g:=b.g.trans a.g
 d:=b.d.trans a.d
 o:=fun c i hc x=>a.o c i hc (b.o c i (Nat.lt_of_lt_of_le hc a.c) x)
 r:=fun p loc h2 h0=>by
  cases h1:m₁ p with
  |some l1=>have e:=b.j _ _ h1;rw[e]at h2;cases h2;exact a.r _ _ h1 h0
  |none=>exact b.r _ _ h2 h1
 n:=fun c hc=>(a.n c hc).c (fun j x=>a.o c j hc x) (b.n c (Nat.lt_of_lt_of_le hc a.c))
theorem iT(b o n:Nat):Addr.add ⟨b,o,none⟩ n=⟨b,o+n,none⟩:=by unfold Addr.add;split;grind;rfl
theorem Bp(x:Value):rU x=x.oneCell':=by cases x<;>rfl
structure Stored(g lo:Nat)(vs:List Value)(w w':World):Prop where
 e:∀cur t fz,w.heap[g]? =some (.cells cur t fz)->∃cur',w'.heap[g]? =some (.cells cur' t fz)/\cur'.size=cur.size/\
  ∀j:Nat,cur'[j]? =if lo<=j/\j<lo+vs.length then(if j<cur.size then vs[j-lo]? else none)else cur[j]?
 a:∀k,k≠g->w'.heap[k]? =w.heap[k]?
 c:w'.heap.size=w.heap.size
 f:w'.os=w.os
 d:w'.tape=w.tape
 b:w'.output=w.output
theorem kM(P:Program)(g o:Nat)(t:TypeId)(fz:Nat×Nat):∀(vs:List Value)(i:Nat)(Z:Array Value)(w:World),
 w.heap[g]? =some (.cells Z t fz)->o+i+vs.length<=Z.size->(∀j:Nat,j<vs.length->¬(fz.1<=o+i+j/\o+i+j<fz.2))->
 (∀v∈vs,rU v=true)->∃w',(storeCells ⟨g,o,none⟩ vs i).run P w=.ok () w'/\Stored g (o+i) vs w w':=by
 intro vs;induction vs with
 |nil=>intro i Z w hg _ _ _;refine⟨w,rfl,⟨fun c t' f' h=>⟨c,h,rfl,fun j=>by simp;intro a b;omega⟩,fun _ _=>rfl,rfl,rfl,rfl,rfl⟩⟩
 |cons v vs ih=>
  intro i Z w hg ay an ac;simp only[Wv]at ay;have ar:o+i<Z.size:=oM;have ae:w.cell? ⟨g,o+i,none⟩=some Z[o+i]:=by rw[cell_of_row w g (o+i) Z t fz hg];simp
  have ax:w.frozen? ⟨g,o+i,none⟩=false:=by have:=an 0 iS;simp only[World.frozen?,hg];simp only[Yp]at this;cases h1:decide (fz.1<=o+i)<;>simp_all
  have hv:v.oneCell'=true:=by rw[<-Bp];exact ac v iS
  have af:(w.setCell ⟨g,o+i,none⟩ v).heap[g]? =some (.cells (Z.setIfInBounds (o+i) v) t fz):=by simp only[World.setCell,Array.getElem?_modify,hg];simp
  let⟨w',hr,K⟩:=ih (i+1) (Z.setIfInBounds (o+i) v) (w.setCell ⟨g,o+i,none⟩ v) af oO
   (fun j hj=>by have:=an (j+1) oO;rwa[(oM:o+i+(j+1)=o+(i+1)+j)]at this) (fun u hu=>ac u iX)
  refine⟨w',?_,?_⟩;unfold storeCells;simp only[Wm,iT,run_store P w _ v .plain hv,ae,ax];simpa using hr;refine⟨?_,fun k hk=>(K.a k hk).trans (heap_setCell_other w _ k v hk),K.c.trans iS,K.f,K.d,K.b⟩;intro c t' f' hc;rw[hg]at hc;cases hc;let⟨ak,h1,h2,h3⟩:=K.e _ _ _ af;refine⟨ak,h1,h2.trans iS,fun j=>?_⟩;rw[h3 j];simp only[Array.size_setIfInBounds,Wv];by_cases hj:j=o+i;grind;grind
def gC(l:List V):Nat->List V:=
 List.rec (motive:=fun _=>Nat->List V) (fun _=>[]) (fun x xs ih o=>Nat.rec (motive:=fun _=>List V) (x::xs) (fun j _=>ih j) o) l
theorem bQ(l:List V)(o:Nat):gC l o=l.drop o:=by
 induction l generalizing o with
 |nil=>cases o<;>rfl
 |cons x xs ih=>cases o with
  |zero=>rfl
  |succ o=>exact(ih o).trans iS
def dG(n:Nat):List V->Option (List V):=
 Nat.rec (motive:=fun _=>List V->Option (List V)) (fun _=>some [])
  (fun _ ih l=>List.rec (motive:=fun _=>Option (List V)) none (fun x xs _=>Option.rec (motive:=fun _=>Option (List V)) none (fun r=>some (x::r)) (ih xs)) l) n
theorem nP(l:List V):dG 0 l=some []:=rfl
theorem DV(n:Nat):dG (n+1) []=none:=rfl
theorem fU(n:Nat)(x:V)(Z:List V):dG (n+1) (x::Z)=(dG n Z).map (x:: ·):=by show Option.rec (motive:=fun _=>Option (List V)) none (fun r=>some (x::r)) (dG n Z)=_;cases dG n Z<;>rfl
theorem kJ{n:Nat}:∀{l r:List V},dG n l=some r->r=l.take n/\n<=l.length:=by
 induction n with
 |zero=>intro l r h;cases h;simp
 |succ n ih=>
  intro l r h;cases l with
  |nil=>rw[DV]at h;cases h
  |cons x K=>
   rw[fU]at h;cases Z:dG n K with
   |none=>rw[Z]at h;cases h
   |some y=>rw[Z]at h;cases h;obtain⟨rfl,hl⟩:=ih Z;exact⟨iS,by simp;omega⟩
def dR(h:a_)(b:Nat):Option (List V):=
 match h.S.c_ b with
 |some (.a c f k)=>bif rd h b f k then some c else none
 |_=>none
def aj(h:a_)(b o n:Nat):Option (List V):=
 match dR h b with
 |some c=>dG n (gC c o)
 |none=>none
def ab(h:a_)(b o:Nat):Option V:=
 match dR h b with
 |some c=>X8 c o
 |none=>none
theorem pT{h:a_}{b:Nat}{c:List V}(x:dR h b=some c):∃f k,h.S.c_ b=some (.a c f k)/\rd h b f k=true:=by unfold dR at x;split at x;grind;cases x
theorem r_.y{m:M}{h:a_}{w:World}(H:r_ m h w){b o:Nat}{Z:V3}{c:List V}{v:V}(hm:m b=some Z)(hc:dR h b=some c)(hv:c[o]? =some v):
 ∃x,w.cell? ⟨Z.a,Z.b+o,none⟩=some x/\l_ m v x:=by
 let⟨f,k,hg,hr⟩:=pT hc;let⟨bk,K,rel⟩:=H.c b Z hm;rw[hg]at K;cases K;let⟨C,el,fz,h1,_,_,h4,_⟩:=rel hr;let⟨x,hx,r⟩:=h4 o v hv;exact⟨x,by rw[cell_of_row w _ _ C el fz h1];exact hx,r⟩
theorem r_.s{m:M}{h:a_}{w:World}(H:r_ m h w){b o:Nat}{Z:V3}{v:V}(hm:m b=some Z)(K:ab h b o=some v):
 ∃x,w.cell? ⟨Z.a,Z.b+o,none⟩=some x/\l_ m v x:=by
 unfold ab at K;cases hc:dR h b with
 |none=>rw[hc]at K;cases K
 |some c=>rw[hc]at K;exact H.y hm hc (by rw[<-eZ];exact K)
theorem r_.h{m:M}{h:a_}{w:World}(H:r_ m h w)(P:Program){b o n:Nat}{Z:V3}{vs:List V}(hm:m b=some Z)(K:aj h b o n=some vs):
 ∃xs,(loadCells ⟨Z.a,Z.b+o,none⟩ n).run P w=.ok (List.toArray xs) w/\f_ m vs xs/\vs.length=n:=by
 unfold aj at K;cases hc:dR h b with
 |none=>rw[hc]at K;cases K
 |some c=>
  rw[hc]at K;simp at K;obtain⟨rfl,hn⟩:=kJ K;rw[bQ]at *;have ac:(List.take n (List.drop o c)).length=n:=by grind
  have cell:∀i:Nat,i<n->∃x,w.cell? ⟨Z.a,Z.b+o+i,none⟩=some x/\∀v,(List.take n (List.drop o c))[i]? =some v->l_ m v x:=by
   intro i hi;have ak:o+i<c.length:=by simp at hn;omega
   let⟨x,hx,r⟩:=H.y hm hc (o:=o+i) (v:=c[o+i]) iX;refine⟨x,by rw[XA];exact hx,fun v hv=>?_⟩;have:v=c[o+i]:=by grind
   rw[this];exact r
  let xs:List Value:=(List.range n).map fun i=>((w.cell? ⟨Z.a,Z.b+o+i,none⟩).getD undef);have af:xs.length=n:=by simp[xs]
  have ae:∀(j:Nat) x,xs[j]? =some x->w.cell? ⟨Z.a,Z.b+o+j,none⟩=some x:=by grind
  refine⟨xs,?_,f_.of_get oM ?_,ac⟩;have:=run_loadCells_list (P:=P) w ⟨Z.a,Z.b+o,none⟩ xs (fun j x hx=>by rw[iT];exact ae j x hx);rw[af]at this;exact this;grind
def bG(l:List V):Nat->List V->Option (List V):=
 List.rec (motive:=fun _=>Nat->List V->Option (List V))
  (fun _ vs=>List.rec (motive:=fun _=>Option (List V)) (some []) (fun _ _ _=>none) vs)
  (fun x xs ih i vs=>Nat.rec (motive:=fun _=>Option (List V))
   (List.rec (motive:=fun _=>Option (List V)) (some (x::xs)) (fun v vs _=>Option.rec (motive:=fun _=>Option (List V)) none (fun r=>some (v::r)) (ih 0 vs)) vs)
   (fun j _=>Option.rec (motive:=fun _=>Option (List V)) none (fun r=>some (x::r)) (ih j vs)) i) l
theorem CH{α β:Type}(f:α->β)(o:Option α):Option.rec (motive:=fun _=>Option β) none (fun r=>some (f r)) o=o.map f:=by cases o<;>rfl
theorem jE(i:Nat):bG [] i []=some []:=rfl
theorem nm(i:Nat)(v:V)(vs:List V):bG [] i (v::vs)=none:=rfl
theorem dK(x:V)(l:List V):bG (x::l) 0 []=some (x::l):=rfl
theorem aY(x:V)(l:List V)(v:V)(vs:List V):bG (x::l) 0 (v::vs)=(bG l 0 vs).map (v:: ·):=CH _ _
theorem bM(x:V)(l:List V)(i:Nat)(vs:List V):bG (x::l) (i+1) vs=(bG l i vs).map (x:: ·):=CH _ _
theorem vr:∀(l:List V)(i:Nat)(vs r:List V),bG l i vs=some r->
 r.length=l.length/\(vs≠[]->i+vs.length<=l.length)/\∀j:Nat,r[j]? =if i<=j/\j<i+vs.length then vs[j-i]? else l[j]? :=by
 intro l;induction l with
 |nil=>
  intro i vs r h;cases vs with
  |nil=>rw[jE]at h;cases h;simp
  |cons v vs=>rw[nm]at h;cases h
 |cons x l ih=>
  intro i vs r h;cases i with
  |zero=>
   cases vs with
   |nil=>rw[dK]at h;cases h;simp
   |cons v vs=>
    rw[aY]at h;cases Z:bG l 0 vs with
    |none=>rw[Z]at h;cases h
    |some q=>rw[Z]at h;cases h;let⟨a,b,c⟩:=ih 0 vs q Z;refine⟨by simp[a],fun _=>?_,fun j=>?_⟩;grind;grind
  |succ i=>
   rw[bM]at h;cases Z:bG l i vs with
   |none=>rw[Z]at h;cases h
   |some q=>
    rw[Z]at h;cases h;let⟨a,b,c⟩:=ih i vs q Z;refine⟨by simp[a],fun K=>by have:=b K;simp;omega,fun j=>?_⟩;cases j with
    |zero=>simp
    |succ j=>have:=c j;simp only[XZ,this];by_cases hc:i<=j/\j<i+vs.length;grind;grind
def dy(h:a_)(b o:Nat)(vs:List V):Option a_:=
 match h.S.c_ b with
 |some (.a c f k)=>
  bif aw vs then
   match bG c o vs with
   |some c'=>
    match h.Q.c_ f with
    |none=>some ⟨h.S.A_ b (.a c' f k),h.e,h.Q⟩
    |some (ow,e)=>bif Nat.beq ow b then some ⟨h.S.A_ b (.a c' f k),h.e,h.Q.A_ f (ow,e+1)⟩else none
   |none=>none
  else none
 |_=>none
theorem zZ{h Z:a_}{b o:Nat}{vs:List V}(x:dy h b o vs=some Z):∃c f k c',h.S.c_ b=some (.a c f k)/\aw vs=true/\bG c o vs=some c'/\
 Z.S=h.S.A_ b (.a c' f k)/\Z.e=h.e/\
 ((h.Q.c_ f=none/\Z.Q=h.Q)\/∃e,h.Q.c_ f=some (b,e)/\Z.Q=h.Q.A_ f (b,e+1)):=by
 unfold dy at x;split at x;rename_i c f k hg;cases ho:aw vs;simp[ho]at x;simp[ho]at x;split at x;rename_i c' hu;split at x;grind;rename_i ow e hf;cases K:Nat.beq ow b;simp[K]at x;simp only[K,cond_true]at x;cases x;have:ow=b:=Wb K;subst this;exact⟨c,f,k,c',hg,rfl,hu,rfl,rfl,.inr ⟨e,hf,rfl⟩⟩;cases x;cases x
theorem oZ{h:a_}{b f k:Nat}(x:h.Q.c_ f=none\/∃e,h.Q.c_ f=some (b,e)):rd h b f k=true:=by unfold rd;obtain x|⟨e,x⟩:=x<;>rw[x];show(Nat.beq b b||_)=true;have:Nat.beq b b=true:=XU b;rw[this];rfl
theorem He{h h':a_}(W:HWF h){b f p:Nat}{cp:List V}{fp kp:Nat}{c:List V}{k:Nat}
 (hb:h.S.c_ b=some (.a c f k)) (hp:h.S.c_ p=some (.a cp fp kp)) (ac:p≠b)
 (hf:(h.Q.c_ f=none/\h'.Q=h.Q)\/∃e,h.Q.c_ f=some (b,e)/\h'.Q=h.Q.A_ f (b,e+1))
 (Z:rd h' p fp kp=true):fp≠f/\rd h p fp kp=true:=by
 obtain⟨hn,he⟩|⟨e,hs,he⟩:=hf;have K:fp≠f:=by intro e;subst e;have h1:=W.b _ _ _ _ hb;have h2:=W.b _ _ _ _ hp;rw[hn]at h1 h2;simp at h1 h2;omega
 exact⟨K,by unfold rd at *;rw[he]at Z;exact Z⟩;have K:fp≠f:=by intro q;subst q;unfold rd at Z;rw[he,T.K_]at Z;have h2:=W.b _ _ _ _ hp;rw[hs]at h2;simp at h2;simp only[XJ]at Z;obtain Z|Z:=Z;have:=Wb Z;omega;have:=Wb Z;omega
 exact⟨K,by unfold rd at *;rw[he,T.v_ _ _ K]at Z;exact Z⟩
theorem we{vs:List V}{K:List Value}{m:M}(h:aw vs=true)(r:f_ m vs K):∀x∈K,rU x=true:=by
 intro x hx;let⟨i,hi,he⟩:=List.getElem_of_mem hx;have hl:=r.Z;have Z:i<vs.length:=oM;let⟨y,hy,ry⟩:=r.i i vs[i] iX;have:y=x:=by grind
 subst this;exact ry.U (Xw.1 h _ (Zt Z))
theorem r_.i{m:M}{h h':a_}{w:World}(H:r_ m h w)(P:Program){b o:Nat}{Z:V3}{vs:List V}{xs:List Value}(hm:m b=some Z)
 (hs:dy h b o vs=some h') (hv:f_ m vs xs):
 ∃w',(storeCells ⟨Z.a,Z.b+o,none⟩ xs).run P w=.ok () w'/\r_ m h' w'/\P5 m h w m h' w':=by
 let⟨c,f,k,c',hg,h1,hu,ae,hnx,hf⟩:=zZ hs;let⟨ul,ub,ug⟩:=vr _ _ _ _ hu;have bh:rd h b f k=true:=oZ (by obtain⟨a,_⟩|⟨e,a,_⟩:=hf<;>simp[a])
 let⟨bk,hb,rel⟩:=H.c b Z hm;rw[hg]at hb;cases hb;let⟨C,el,fz,hC,a9,bt,ba,a4⟩:=rel bh;have bm:=hv.Z;have aH:xs≠[]->o+xs.length<=c.length:=by grind
 obtain⟨w',a7,ac⟩:∃w',(storeCells ⟨Z.a,Z.b+o,none⟩ xs).run P w=.ok () w'/\Stored Z.a (Z.b+o) xs w w':=by
  cases xs with
  |nil=>exact⟨w,rfl,⟨fun bf t f' e=>⟨bf,e,rfl,fun j=>by simp;intro a b;omega⟩,fun _ _=>rfl,rfl,rfl,rfl,rfl⟩⟩
  |cons y ys=>
   have bn:=aH iS;exact kM P Z.a (Z.b+o) el fz (y::ys) 0 C w hC oM
    (fun j hj=>by have:=a4 (o+j) oM;rwa[(oM:Z.b+(o+j)=Z.b+o+0+j)]at this) (we h1 hv)
 refine⟨w',a7,?_,?_⟩;refine⟨?_,?_,?_,?_⟩;refine⟨?_,?_⟩;intro p cp fp kp hp;rw[ae,T.Q0]at hp;have key:∀cq,h.S.c_ p=some (.a cq fp kp)->match h'.Q.c_ fp with|none=>fp=p|some (_,e)=>kp<=e:=by intro cq hq;have:=H.g.b _ _ _ _ hq;obtain⟨_,he⟩|⟨e,a2,he⟩:=hf;rw[he];exact this;rw[he,T.Q0];by_cases aT:fp=f;grind;grind
 by_cases K:p=b;grind;grind;intro p hp;rw[hnx]at hp;have aN:=H.g.a p hp;have K:p≠b:=by grind
 refine⟨by rw[ae,T.v_ _ _ K];exact aN.1,?_⟩;obtain⟨_,he⟩|⟨e,a2,he⟩:=hf;rw[he];exact aN.2;rw[he,T.v_];exact aN.2;grind;intro p lp hp;by_cases K:p=b;subst K;rw[hm]at hp;cases hp;refine⟨.a c' f k,by rw[ae,T.K_],fun _=>?_⟩;let⟨C',a0,a5,az⟩:=ac.e _ _ _ hC;refine⟨C',el,fz,a0,oM,oM,?_,a4⟩;intro i v hi;rw[ug i]at hi;rw[az (Z.b+i)];by_cases hc:o<=i/\i<o+vs.length;rw[if_pos hc]at hi;let⟨x,hx,r⟩:=hv.i _ _ hi;have:i<c.length:=by grind
 refine⟨x,?_,r⟩;rw[if_pos oM,if_pos oM,(oM:Z.b+i-(Z.b+o)=i-o)];exact hx;grind;let⟨bp,ay,ar⟩:=H.c p lp hp;refine⟨bp,by rw[ae,T.v_ _ _ K];exact ay,?_⟩;cases bp with
 |a cp fp kp=>
  intro hr;let⟨aT,bg⟩:=He H.g hg ay K hf hr;have ax:lp.a≠Z.a:=by intro e;let⟨an,ak,f',aR,aJ,ha,af,_⟩:=H.d p b lp Z hp hm e K;rw[ay]at ha;cases ha;rw[hg]at af;cases af;exact aT rfl
  have:=ar bg;rw[ac.a _ ax];exact this
 |f es clock=>
  have ax:lp.a≠Z.a:=by intro e;let⟨an,ak,f',aR,aJ,ha,af,_⟩:=H.d p b lp Z hp hm e K;rw[ay]at ha;cases ha
  show∃es',w'.heap[lp.a]? =_/\_;rw[ac.a _ ax];exact ar
 |d ps as bd en st pend=>
  have ax:lp.a≠Z.a:=by intro e;let⟨an,ak,f',aR,aJ,ha,af,_⟩:=H.d p b lp Z hp hm e K;rw[ay]at ha;cases ha
  let⟨g,q1,q2,q3,q4,q5,q6⟩:=ar;exact⟨g,q1,q2,q3,q4,(ac.a _ ax).trans q5,q6⟩
 |e s pos=>
  have ax:lp.a≠Z.a:=by intro e;let⟨an,ak,f',aR,aJ,ha,af,_⟩:=H.d p b lp Z hp hm e K;rw[ay]at ha;cases ha
  exact⟨ar.1,(ac.a _ ax).trans ar.2⟩
 |b=>trivial
 intro p lp hp;rw[ac.c];exact H.a p lp hp;intro p q lp lq hp hq he a1;let⟨cp,cq,f',kp,kq,ha,af,hl⟩:=H.d p q lp lq hp hq he a1;have fin:∀an ak:List V,an.length=cp.length->ak.length=cq.length->h'.S.c_ p=some (.a an f' kp)->h'.S.c_ q=some (.a ak f' kq)->
  ∃cp cq f kp kq,h'.S.c_ p=some (.a cp f kp)/\h'.S.c_ q=some (.a cq f kq)/\(∀e,h'.Q.c_ f=some (q,e)->lp.b+cp.length<=lq.b+cq.length):=by
  intro an ak e1 e2 g1 g2;refine⟨an,ak,f',kp,kq,g1,g2,fun e bj=>?_⟩;rw[e1,e2];obtain⟨_,a3⟩|⟨e',a2,a3⟩:=hf;grind;rw[a3,T.Q0]at bj;by_cases aT:f'=f;grind;grind
 by_cases K:p=b;subst K;rw[hg]at ha;cases ha;exact fin c' cq ul rfl (by rw[ae,T.K_]) (by rw[ae,T.v_ _ _ (XK a1)];exact af);by_cases a6:q=b;subst a6;rw[hg]at af;cases af;exact fin cp c' rfl ul (by rw[ae,T.v_ _ _ K];exact ha) (by rw[ae,T.K_]);exact fin cp cq rfl rfl (by rw[ae,T.v_ _ _ K];exact ha) (by rw[ae,T.v_ _ _ a6];exact af);refine⟨fun _ _ x=>x,fun _ _ a b=>by simp[a]at b,by rw[hnx];exact VZ _,?_,by rw[ac.c];exact VZ _,?_,ac.f,ac.d,ac.b,fun _ _ _ x=>x,?_,fun _ _ a b=>by simp[a]at b⟩;intro p hp _;have K:p≠b:=by grind
 rw[ae,T.v_ _ _ K];intro g bi _;exact ac.a g (fun e=>bi b Z hm e.symm);intro g bu;by_cases a8:g=Z.a;subst a8;let⟨C',a0,a5,az⟩:=ac.e _ _ _ hC;intro x hx;rw[hC]at hx;cases hx;refine⟨_,a0,rfl,rfl,a5,fun j hj=>?_⟩;rw[az j];by_cases hc:Z.b+o<=j/\j<Z.b+o+xs.length;exfalso;have:=aH (by intro e;subst e;simp at hc;omega);exact hj ⟨b,Z,hm,rfl,oM,oM⟩;rw[if_neg hc];exact T_.a (ac.a g a8)
theorem r_.r{m:M}{h:a_}{w w':World}(H:r_ m h w)(e:w'.heap=w.heap):r_ m h w':=by
 refine⟨H.g,fun p Z K=>?_,fun p Z K=>by rw[e];exact H.a p Z K,H.d⟩;let⟨b,hb,r⟩:=H.c p Z K;refine⟨b,hb,?_⟩;cases b with
 |a c f k=>intro hr;rw[e];exact r hr
 |f es clock=>show∃es',w'.heap[Z.a]? =_/\_;rw[e];exact r
 |d ps as bd en st pend=>let⟨g,q1,q2,q3,q4,q5,q6⟩:=r;exact⟨g,q1,q2,q3,q4,by rw[e];exact q5,q6⟩
 |e s pos=>exact⟨r.1,by rw[e];exact r.2⟩
 |b=>trivial
theorem P5.h(m:M)(h:a_)(w:World):P5 m h w m h w.drew:=
 ⟨fun _ _ x=>x,fun _ _ a b=>by simp[a]at b,VZ _,fun _ _ _=>rfl,VZ _,fun _ _ _=>rfl,rfl,rfl,rfl,fun _ _ _ x=>x,fun _ _=>T_.b _ _ _,fun _ _ a b=>by simp[a]at b⟩
def eh(m:M)(p:Nat)(loc:V3):M:=fun q=>if q=p then some loc else m q
theorem av(m:M)(p:Nat)(loc:V3):eh m p loc p=some loc:=if_pos rfl
theorem aE(m:M){p q:Nat}(loc:V3)(h:q≠p):eh m p loc q=m q:=if_neg h
theorem r_.b{m:M}{h:a_}{w:World}(H:r_ m h w){p:Nat}(K:h.e<=p):m p=none:=by
 cases hm:m p with
 |none=>rfl
 |some loc=>let⟨b,Z,_⟩:=H.c p loc hm;rw[(H.g.a p K).1]at Z;cases Z
theorem r_.f{m:M}{h:a_}{w:World}(H:r_ m h w)(K:V3):Le m (eh m h.e K):=by intro p l Z;rw[aE];exact Z;intro e;subst e;rw[H.b (VZ _)]at Z;cases Z
theorem b?.d{n:Nat}(m:M)(p:Nat)(Z:V3)(h:Z.a=n):∀b i,b<n->b? (eh m p Z) b i->b? m b i:=by rintro b i hb ⟨q,l,K,h1,h2,h3⟩;by_cases e:q=p;subst e;rw[av]at K;cases K;omega;rw[aE _ _ e]at K;exact⟨q,l,K,h1,h2,h3⟩
def h_(h:a_)(c:List V):a_:=⟨h.S.A_ h.e (.a c h.e 0),h.e+1,h.Q⟩
theorem BRel.mono{m m':M}(Z:Le m m'){h h':a_}{p:Nat}{K:V3}{w w':World}{b:Y5}(r:BRel m h p K w b)
 (hr:∀c f k,b=.a c f k->rd h' p f k=true->rd h p f k=true) (hw:w'.heap[K.a]? =w.heap[K.a]?):BRel m' h' p K w' b:=by
 cases b with
 |a c f k=>intro ac;let⟨C,el,fz,a,b,c',d,e⟩:=r (hr c f k rfl ac);exact⟨C,el,fz,hw.trans a,b,c',fun i v hi=>let⟨x,hx,rx⟩:=d i v hi;⟨x,hx,l_.mono Z _ _ rx⟩,e⟩
 |f es clock=>let⟨ae,a,b,c⟩:=r;refine⟨ae,hw.trans a,b,fun i k v n hi=>?_⟩;let⟨e,he,r1,r2,r3⟩:=c i k v n hi;exact⟨e,he,l_.mono Z _ _ r1,l_.mono Z _ _ r2,r3⟩
 |d ps as bd en st pend=>let⟨g,q1,q2,q3,q4,q5,q6⟩:=r;exact⟨g,q1,q2,q3,q4,hw.trans q5,fun s v hs=>(q6 s v hs).imp id fun q=>⟨q.1,l_.mono Z _ _ q.2⟩⟩
 |e s pos=>exact⟨r.1,hw.trans r.2⟩
 |b=>trivial
theorem pz{m:M}{p:Nat}{Z:V3}(h:Z.d=none):∀q l,eh m p Z q=some l->m q=none->l.d=none:=by intro q l K hn;by_cases e:q=p;subst e;rw[av]at K;cases K;exact h;rw[aE _ _ e,hn]at K;cases K
theorem r_.q{m:M}{h:a_}{w:World}(H:r_ m h w)(c:List V)(X:Array Value)(elem:TypeId)(af:c.length<=X.size)
 (hr:∀(i:Nat) v,c[i]? =some v->∃x,X[i]? =some x/\l_ m v x):
 r_ (eh m h.e ⟨w.heap.size,0,X.size,none⟩) (h_ h c) (w.alloc (.cells X elem))/\
 P5 m h w (eh m h.e ⟨w.heap.size,0,X.size,none⟩) (h_ h c) (w.alloc (.cells X elem)):=by
 have ac:=H.f ⟨w.heap.size,0,X.size,none⟩;have ak:∀p K,m p=some K->p≠h.e:=fun p K Z e=>by subst e;rw[H.b (VZ _)]at Z;cases Z
 refine⟨⟨⟨?_,?_⟩,?_,?_,?_⟩,⟨ac,?_,ZB _,?_,iS,?_,rfl,rfl,rfl,b?.d m _ _ rfl,fun b hb=>T_.a (heap_alloc_old w _ _ hb),pz rfl⟩⟩;intro p cp f k Z;show match h.Q.c_ f with|none=>f=p|some (_,e)=>k<=e
 rw[h_,T.Q0]at Z;by_cases e:p=h.e;grind;rw[if_neg e]at Z;exact H.g.b _ _ _ _ Z;intro p Z;have an:h.e+1<=p:=Z;refine⟨?_,(H.g.a p oM).2⟩;rw[h_,T.v_ _ _ oM];exact(H.g.a p oM).1;intro p K Z;by_cases e:p=h.e;subst e;rw[av]at Z;cases Z;refine⟨.a c h.e 0,by rw[h_,T.K_],fun _=>?_⟩;refine⟨X,elem,(0,0),heap_alloc_new w _,iS,af,fun i v hi=>?_,fun i _=>by simp⟩;let⟨x,hx,rx⟩:=hr i v hi;exact⟨x,by simpa using hx,l_.mono ac _ _ rx⟩;rw[aE _ _ e]at Z;let⟨b,hb,r⟩:=H.c p K Z;refine⟨b,by rw[h_,T.v_ _ _ e];exact hb,r.mono ac (fun _ _ _ _ x=>x) (heap_alloc_old w _ _ (H.a p K Z))⟩;intro p K Z;by_cases e:p=h.e;subst e;rw[av]at Z;cases Z;simp;rw[aE _ _ e]at Z;have:=H.a p K Z;simp;omega;intro p q lp lq Z hq he ae;by_cases e:p=h.e;subst e;rw[av]at Z;cases Z;rw[aE _ _ (XK ae)]at hq;have:=H.a q lq hq;simp at he;omega;rw[aE _ _ e]at Z;by_cases e2:q=h.e;subst e2;rw[av]at hq;cases hq;have:=H.a p lp Z;simp at he;omega;rw[aE _ _ e2]at hq;let⟨cp,cq,f,kp,kq,a,b,d⟩:=H.d p q lp lq Z hq he ae;exact⟨cp,cq,f,kp,kq,by rw[h_,T.v_ _ _ e];exact a,by rw[h_,T.v_ _ _ e2];exact b,d⟩;intro p K Z hn;by_cases e:p=h.e;subst e;rw[av]at Z;cases Z;exact⟨VZ _,.inl (VZ _)⟩;rw[aE _ _ e]at Z;rw[Z]at hn;cases hn;intro p _ Z;rw[h_,T.v_ _ _ oM];intro b _ hb;exact heap_alloc_old w _ _ hb
def oJ(h:a_)(b pos:Nat)(c':List V):Option a_:=
 match h.S.c_ b with
 |some (.a c f _)=>
  let go (e:Nat):Option a_:=some ⟨(h.S.A_ b (.a c f e)).A_ h.e (.a c' f 0),h.e+1,h.Q.A_ f (h.e,bif Nat.beq pos c.length then e else e+1)⟩;match h.Q.c_ f with
  |none=>go 0
  |some (ow,e)=>bif Nat.beq ow b then go e else none
 |_=>none
theorem zY{h h':a_}{b pos:Nat}{c':List V}(W:HWF h)(x:oJ h b pos c'=some h'):∃c f k e e',h.S.c_ b=some (.a c f k)/\
 ((h.Q.c_ f=none/\f=b/\e=0)\/h.Q.c_ f=some (b,e))/\(e'=e/\pos=c.length\/e'=e+1)/\
 h'.S=(h.S.A_ b (.a c f e)).A_ h.e (.a c' f 0)/\h'.e=h.e+1/\h'.Q=h.Q.A_ f (h.e,e'):=by
 unfold oJ at x;split at x;rename_i c f k hg;have Z:∀e:Nat,(bif Nat.beq pos c.length then e else e+1)=e/\pos=c.length\/(bif Nat.beq pos c.length then e else e+1)=e+1:=by intro e;cases K:Nat.beq pos c.length;right;rfl;left;exact⟨rfl,Wb K⟩
 split at x;rename_i hf;cases x;refine⟨c,f,k,0,_,hg,.inl ⟨hf,?_,rfl⟩,Z 0,rfl,rfl,rfl⟩;have:=W.b _ _ _ _ hg;rw[hf]at this;exact this;rename_i ow e hf;cases K:Nat.beq ow b;simp[K]at x;simp only[K,cond_true]at x;cases x;have:ow=b:=Wb K;subst this;exact⟨c,f,k,e,_,hg,.inr hf,Z e,rfl,rfl,rfl⟩;cases x
theorem r_.u{m:M}{h h':a_}{w w':World}(H:r_ m h w){b o n:Nat}{Z:V3}{c' news:List V}{c:List V}{f k:Nat}{loc':V3}
 (hm:m b=some Z) (hg:h.S.c_ b=some (.a c f k)) (hs:oJ h b (o+n) c'=some h')
 (a8:c'.length=n+news.length) (cl:o+n<=c.length) (ch:c.length<=o+n+news.length)
 (hnew:loc'.b+loc'.c<=loc'.b+loc'.c/\c'.length<=loc'.c)
 (a9:∃C' el fz',w'.heap[loc'.a]? =some (.cells C' el fz')/\loc'.b+loc'.c<=C'.size/\
  (∀(i:Nat) v,c'[i]? =some v->∃x,C'[loc'.b+i]? =some x/\l_ m v x)/\(∀i:Nat,i<loc'.c->¬(fz'.1<=loc'.b+i/\loc'.b+i<fz'.2)))
 (K:(loc'.a=w.heap.size/\(∀i,i<w.heap.size->w'.heap[i]? =w.heap[i]?))\/
  (loc'.a=Z.a/\loc'.b=Z.b+o/\(∀i,i≠Z.a->w'.heap[i]? =w.heap[i]?)/\
   ∀C el fz,w.heap[Z.a]? =some (.cells C el fz)->∃C',w'.heap[Z.a]? =some (.cells C' el fz)/\C'.size=C.size/\∀j:Nat,j<Z.b+(o+n)->C'[j]? =C[j]?))
 (a7:loc'.a=Z.a->loc'.b+loc'.c<=Z.b+Z.c/\∀C el fz C',w.heap[Z.a]? =some (.cells C el fz)->w'.heap[Z.a]? =some (.cells C' el fz)->∀j:Nat,Z.b+Z.c<=j->C'[j]? =C[j]?)
 (bu:w.heap.size<=w'.heap.size) (bT:loc'.a<w'.heap.size) (bz:w'.os=w.os) (bB:w'.tape=w.tape) (bi:w'.output=w.output) (ca:loc'.d=none:=by rfl):
 r_ (eh m h.e loc') h' w'/\P5 m h w (eh m h.e loc') h' w':=by
 let⟨c0,f0,k0,e,e',bh,ax,cu,ba,hnx,bj⟩:=zY H.g hs;rw[hg]at bh;cases bh;have ae:=H.f loc';have bt:b≠h.e:=fun x=>by subst x;rw[H.b (VZ _)]at hm;cases hm
 have cz:f<h.e:=by obtain q|q:=WY f h.e;exact q;have aT:=H.g.a f q;obtain⟨_,rfl,_⟩|hf:=ax;rw[hg]at aT;simp at aT;rw[hf]at aT;simp at aT
 have a0:∀p cp kp,h.S.c_ p=some (.a cp f kp)->p≠b->h.Q.c_ f=some (b,e)/\kp<=e:=by intro p cp kp hp ay;have hw:=H.g.b _ _ _ _ hp;obtain⟨hn,a0,_⟩|hf:=ax;rw[hn]at hw;simp at hw;omega;rw[hf]at hw;exact⟨hf,hw⟩
 have gb:h'.S.c_ b=some (.a c f e):=by rw[ba,T.v_ _ _ bt,T.K_]
 have gn:h'.S.c_ h.e=some (.a c' f 0):=by rw[ba,T.K_]
 have go:∀p,p≠b->p≠h.e->h'.S.c_ p=h.S.c_ p:=fun p h1 h2=>by rw[ba,T.v_ _ _ h2,T.v_ _ _ h1]
 have gf:h'.Q.c_ f=some (h.e,e'):=by rw[bj,T.K_]
 have a6:∀g,g≠f->h'.Q.c_ g=h.Q.c_ g:=fun g hgf=>by rw[bj,T.v_ _ _ hgf]
 have cg:∀p l,m p=some l->p≠h.e:=fun p l hp x=>by subst x;rw[H.b (VZ _)]at hp;cases hp
 refine⟨⟨⟨?_,?_⟩,?_,?_,?_⟩,⟨ae,?_,oM,?_,bu,?_,bz,bB,bi,?_,?_,pz ca⟩⟩;intro p cp fp kp hp;by_cases af:fp=f;subst af;rw[gf];show kp<=e';by_cases h1:p=h.e;subst h1;rw[gn]at hp;cases hp;exact Nat.zero_le _;by_cases h2:p=b;subst h2;rw[gb]at hp;cases hp;omega;rw[go p h2 h1]at hp;have:=(a0 p cp kp hp h2).2;omega;rw[a6 fp af];by_cases h1:p=h.e;subst h1;rw[gn]at hp;cases hp;exact absurd rfl af;by_cases h2:p=b;subst h2;rw[gb]at hp;cases hp;exact absurd rfl af;rw[go p h2 h1]at hp;exact H.g.b _ _ _ _ hp;intro p hp;rw[hnx]at hp;have ct:b<h.e:=by obtain q|q:=WY b h.e;exact q;rw[H.b q]at hm;cases hm
 rw[go p oM oM,a6 p oM];exact H.g.a p oM;intro p lp hp;by_cases h1:p=h.e;subst h1;rw[av]at hp;cases hp;refine⟨_,gn,fun _=>?_⟩;let⟨C',el,fz',a1,a2,a3,a4⟩:=a9;exact⟨C',el,fz',a1,a2,hnew.2,fun i v hi=>let⟨x,hx,rx⟩:=a3 i v hi;⟨x,hx,l_.mono ae _ _ rx⟩,a4⟩;rw[aE _ _ h1]at hp;by_cases h2:p=b;subst h2;rw[hm]at hp;cases hp;refine⟨_,gb,fun hr=>?_⟩;have cb:o+n=c.length:=by unfold rd at hr;rw[gf]at hr;simp only[XJ]at hr;obtain hr|hr:=hr;have:=Wb hr;omega;have:=Wb hr;omega
 let⟨bk,hb,rel⟩:=H.c p Z hm;rw[hg]at hb;cases hb;let⟨C,el,fz,hC,a2,a3,a4,a5⟩:=rel (oZ (by obtain⟨q,_⟩|q:=ax<;>simp[q]));obtain⟨_,hk⟩|⟨_,_,_,hk⟩:=K;exact⟨C,el,fz,by rw[hk _ (H.a p Z hm)];exact hC,a2,a3,fun i v hi=>let⟨x,hx,rx⟩:=a4 i v hi;⟨x,hx,l_.mono ae _ _ rx⟩,a5⟩;let⟨C',az,bf,hj⟩:=hk C el fz hC;refine⟨C',el,fz,az,oM,a3,fun i v hi=>?_,a5⟩;let⟨x,hx,rx⟩:=a4 i v hi;have:i<c.length:=by obtain q|q:=WY i c.length;exact q;rw[Xa q]at hi;cases hi
 exact⟨x,by rw[hj _ oM];exact hx,l_.mono ae _ _ rx⟩;let⟨bp,an,ak⟩:=H.c p lp hp;refine⟨bp,by rw[go p h2 h1];exact an,?_⟩;have bm:=H.a p lp hp;cases bp with
 |f es clock=>
  have ar:lp.a≠Z.a:=by intro q;let⟨_,_,_,_,_,ha,_⟩:=H.d p b lp Z hp hm q h2;rw[an]at ha;cases ha
  exact ak.mono ae (fun _ _ _ q=>by cases q) (by obtain⟨_,hk⟩|⟨_,_,hk,_⟩:=K<;>exact hk _ (by assumption))
 |d ps as bd en st pend=>
  have ar:lp.a≠Z.a:=by intro q;let⟨_,_,_,_,_,ha,_⟩:=H.d p b lp Z hp hm q h2;rw[an]at ha;cases ha
  exact ak.mono ae (fun _ _ _ q=>by cases q) (by obtain⟨_,hk⟩|⟨_,_,hk,_⟩:=K<;>exact hk _ (by assumption))
 |e s pos=>
  have ar:lp.a≠Z.a:=by intro q;let⟨_,_,_,_,_,ha,_⟩:=H.d p b lp Z hp hm q h2;rw[an]at ha;cases ha
  exact ak.mono ae (fun _ _ _ q=>by cases q) (by obtain⟨_,hk⟩|⟨_,_,hk,_⟩:=K<;>exact hk _ (by assumption))
 |b=>trivial
 |a cp fp kp=>
  intro hr;by_cases af:fp=f;subst af;let⟨bn,cr⟩:=a0 p cp kp an h2;have cj:kp=e':=by unfold rd at hr;rw[gf]at hr;simp only[XJ]at hr;obtain hr|hr:=hr;have:=Wb hr;omega;exact Wb hr
  have bE:kp=e/\o+n=c.length:=oM;have bg:rd h p fp kp=true:=by unfold rd;rw[bn];show(_||Nat.beq kp e)=true;rw[bE.1,XU];simp
  let⟨C,el,fz,hC,a2,a3,a4,a5⟩:=ak bg;by_cases ar:lp.a=Z.a;let⟨cy,co,f',aN,aR,ha,ac,hl⟩:=H.d p b lp Z hp hm ar h2;rw[an]at ha;cases ha;rw[hg]at ac;cases ac;have cc:=hl e bn;obtain⟨_,hk⟩|⟨_,_,_,hk⟩:=K;exact⟨C,el,fz,by rw[hk _ bm];exact hC,a2,a3,fun i v hi=>let⟨x,hx,rx⟩:=a4 i v hi;⟨x,hx,l_.mono ae _ _ rx⟩,a5⟩;let⟨C',az,bf,hj⟩:=hk C el fz (by rw[<-ar];exact hC);refine⟨C',el,fz,by rw[ar];exact az,oM,a3,fun i v hi=>?_,a5⟩;let⟨x,hx,rx⟩:=a4 i v hi;have:i<cp.length:=by obtain q|q:=WY i cp.length;exact q;rw[Xa q]at hi;cases hi
  exact⟨x,by rw[hj _ oM];exact hx,l_.mono ae _ _ rx⟩;refine⟨C,el,fz,?_,a2,a3,fun i v hi=>let⟨x,hx,rx⟩:=a4 i v hi;⟨x,hx,l_.mono ae _ _ rx⟩,a5⟩;rw[<-hC];obtain⟨_,hk⟩|⟨_,_,hk,_⟩:=K<;>exact hk _ (by assumption)
  have ar:lp.a≠Z.a:=by intro q;let⟨_,_,_,_,_,ha,ac,_⟩:=H.d p b lp Z hp hm q h2;rw[an]at ha;cases ha;rw[hg]at ac;cases ac;exact af rfl
  have bg:rd h p fp kp=true:=by unfold rd at *;rw[a6 fp af]at hr;exact hr
  let⟨C,el,fz,hC,a2,a3,a4,a5⟩:=ak bg;refine⟨C,el,fz,?_,a2,a3,fun i v hi=>let⟨x,hx,rx⟩:=a4 i v hi;⟨x,hx,l_.mono ae _ _ rx⟩,a5⟩;rw[<-hC];obtain⟨_,hk⟩|⟨_,_,hk,_⟩:=K<;>exact hk _ (by assumption)
 intro p lp hp;by_cases h1:p=h.e;subst h1;rw[av]at hp;cases hp;exact bT;rw[aE _ _ h1]at hp;have:=H.a p lp hp;omega;intro p q lp lq hp hq he ay;have own:∀g q',q'≠h.e->∀x,h'.Q.c_ g=some (q',x)->g≠f:=by intro g q' hq' x hx hgf;subst hgf;rw[gf]at hx;cases hx;exact hq' rfl
 by_cases h1:p=h.e;subst h1;rw[av]at hp;cases hp;rw[aE _ _ (XK ay)]at hq;have cx:=H.a q lq hq;obtain⟨hk,_⟩|⟨hk,aJ,_⟩:=K;omega;by_cases h3:q=b;subst h3;exact⟨c',c,f,0,e,gn,gb,fun x hx=>absurd rfl (own f q bt x hx)⟩;let⟨cq,c0,f0,kq,kb,ha,ac,_⟩:=H.d q b lq Z hq hm oM h3;rw[hg]at ac;cases ac;exact⟨c',cq,f,0,kq,gn,by rw[go q h3 (XK ay)];exact ha,fun x hx=>absurd rfl (own f q (XK ay) x hx)⟩;rw[aE _ _ h1]at hp;have ci:=H.a p lp hp;by_cases h2:q=h.e;subst h2;rw[av]at hq;cases hq;obtain⟨hk,_⟩|⟨hk,aJ,_⟩:=K;omega;by_cases h3:p=b;subst h3;rw[hm]at hp;cases hp;exact⟨c,c',f,e,0,gb,gn,fun x hx=>by rw[aJ,a8];omega⟩;let⟨cp,c0,f0,kp,kb,ha,ac,hl⟩:=H.d p b lp Z hp hm oM h3;rw[hg]at ac;cases ac;refine⟨cp,c',f,kp,0,by rw[go p h3 h1];exact ha,gn,fun x hx=>?_⟩;have:=hl e (a0 p cp kp ha h3).1;rw[aJ,a8];omega;rw[aE _ _ h2]at hq;let⟨cp,cq,f',kp,kq,ha,ac,hl⟩:=H.d p q lp lq hp hq he ay;have fin:∀aN aR,h'.S.c_ p=some (.a cp f' aN)->h'.S.c_ q=some (.a cq f' aR)->
  ∃cp cq f kp kq,h'.S.c_ p=some (.a cp f kp)/\h'.S.c_ q=some (.a cq f kq)/\(∀e,h'.Q.c_ f=some (q,e)->lp.b+cp.length<=lq.b+cq.length):=
  fun aN aR g1 g2=>⟨cp,cq,f',aN,aR,g1,g2,fun x hx=>by
   have:=own f' q h2 x hx;rw[a6 f' this]at hx;exact hl x hx⟩
 by_cases h3:p=b;subst h3;rw[hg]at ha;cases ha;exact fin e kq gb (by rw[go q (XK ay) h2];exact ac);by_cases h4:q=b;subst h4;rw[hg]at ac;cases ac;exact fin kp e (by rw[go p h3 h1];exact ha) gb;exact fin kp kq (by rw[go p h3 h1];exact ha) (by rw[go q h4 h2];exact ac);intro p lp hp hn;by_cases h1:p=h.e;subst h1;rw[av]at hp;cases hp;refine⟨VZ _,?_⟩;obtain⟨hk,_⟩|⟨hk,_⟩:=K;exact .inl oM;exact .inr ⟨b,Z,hm,hk.symm⟩;rw[aE _ _ h1]at hp;rw[hp]at hn;cases hn;intro p hp cn;exact go p (fun x=>by subst x;rw[hm]at hp;cases hp) oM;intro g bw aH;obtain⟨_,hk⟩|⟨_,_,hk,_⟩:=K;exact hk g aH;exact hk g (fun x=>bw b Z hm x.symm);rintro g i aH ⟨q,l,hq,h1,h2,h3⟩;by_cases h4:q=h.e;subst h4;rw[av]at hq;cases hq;obtain⟨hk,_⟩|⟨hk,aJ,_⟩:=K;omega;have:=(a7 hk).1;exact⟨b,Z,hm,oM,oM,oM⟩;rw[aE _ _ h4]at hq;exact⟨q,l,hq,h1,h2,h3⟩;intro g aH;obtain⟨_,hk⟩|⟨bC,_,hk,bA⟩:=K;exact T_.a (hk g aH);by_cases h4:g=Z.a;subst h4;let⟨bk,hb,rel⟩:=H.c b Z hm;rw[hg]at hb;cases hb;let⟨C,el,fz,hC,a2,a3,a4,a5⟩:=rel (oZ (by obtain⟨q,_⟩|q:=ax<;>simp[q]));let⟨C',az,bf,hj⟩:=bA C el fz hC;intro x hx;rw[hC]at hx;cases hx;refine⟨_,az,rfl,rfl,bf,fun j bv=>?_⟩;obtain c1|c1:=WY j (Z.b+(o+n));exact hj j c1;obtain c2|c2:=WY j (Z.b+Z.c);exact absurd ⟨b,Z,hm,rfl,oM,c2⟩ bv;exact(a7 bC).2 C el fz C' hC az j c2;exact T_.a (hk g h4)
def lim:IntKind->Nat
 |.i8=>128|.i16=>32768|.i32=>2147483648|.i64=>9223372036854775808
 |.u8=>256|.u16=>65536|.u32=>4294967296|.u64=>18446744073709551616
def bP(k:IntKind)(n:Int):Int:=
 match n with
 |.ofNat a=>bif Nat.blt a (lim k)then .ofNat a else k.wrap (.ofNat a)
 |.negSucc a=>bif k.signed&&Nat.blt a (lim k)then .negSucc a else k.wrap (.negSucc a)
theorem dg(k:IntKind)(n:Int):bP k n=k.wrap n:=by
 cases n with
 |ofNat a=>
  simp only[bP];cases h:Nat.blt a (lim k);rfl;have Z:a<lim k:=by simpa[WB]using h
  simp only[cond_true,IntKind.wrap];cases k<;>simp[lim]at Z<;>simp[IntKind.bits,IntKind.signed]<;>omega
 |negSucc a=>
  simp[bP];cases K:k.signed;rfl;cases h:Nat.blt a (lim k);rfl;have Z:a<lim k:=by simpa[WB]using h
  simp only[Ya,cond_true,IntKind.wrap];have e:Int.negSucc a=-(a:Int)-1:=oM;rw[e];cases k<;>simp[IntKind.signed]at K<;>simp[lim]at Z<;>
   simp only[IntKind.bits,IntKind.signed,Zz,seval]<;>split<;>rename_i hh<;>simp at hh<;>omega
def ilt:Int->Int->Bool
 |.ofNat a,.ofNat b=>Nat.blt a b
 |.ofNat _,.negSucc _=>false
 |.negSucc _,.ofNat _=>true
 |.negSucc a,.negSucc b=>Nat.blt b a
theorem jy(a b:Int):ilt a b=decide (a<b):=by rw[XV];cases a<;>cases b<;>simp[ilt]<;>omega
def s?:Int->Int->Bool
 |.ofNat a,.ofNat b=>Nat.beq a b
 |.negSucc a,.negSucc b=>Nat.beq a b
 |_,_=>false
theorem ew(a b:Int):s? a b=(a==b):=by rw[XV];cases a<;>cases b<;>simp[s?];omega
def kX(k k':IntKind):Bool:=Nat.beq k.ctorIdx k'.ctorIdx
theorem mF{k k':IntKind}(h:kX k k'=true):k=k':=by cases k<;>cases k'<;>first|rfl|(simp[kX,IntKind.ctorIdx]at h)
def jz(op:BinOp)(k:IntKind)(a b:Int):Option V:=
 match op with
 |.add=>some (.A k (bP k (Int.add a b)))
 |.sub=>some (.A k (bP k (Int.sub a b)))
 |.mul=>some (.A k (bP k (Int.mul a b)))
 |.quo=>bif s? b 0 then none else some (.A k (bP k (Int.tdiv a b)))
 |.rem=>bif s? b 0 then none else some (.A k (Int.tmod a b))
 |.and=>some (.A k (bP k (BitVec.toNat (BitVec.ofInt k.bits a&&&BitVec.ofInt k.bits b))))
 |.or=>some (.A k (bP k (BitVec.toNat (BitVec.ofInt k.bits a|||BitVec.ofInt k.bits b))))
 |.xor=>some (.A k (bP k (BitVec.toNat (BitVec.ofInt k.bits a^^^BitVec.ofInt k.bits b))))
 |.andNot=>some (.A k (bP k (BitVec.toNat (BitVec.ofInt k.bits a&&& ~~~BitVec.ofInt k.bits b))))
 |.eql=>some (.h (s? a b))
 |.neq=>some (.h (!s? a b))
 |.lss=>some (.h (ilt a b))
 |.leq=>some (.h (!ilt b a))
 |.gtr=>some (.h (ilt b a))
 |.geq=>some (.h (!ilt a b))
 |_=>none
theorem zX{op:BinOp}{k:IntKind}{a b:Int}{v:V}(h:jz op k a b=some v)(P:Program)(w:World)(t:TypeId):
 ∃x,(binOp op t (.int k a) (.int k b)).run P w=.ok x w/\(∀m,l_ m v x)/\v.U=true:=by
 have dl:∀a b:Int,(!ilt b a)=decide (a<=b):=by intro a b;rw[jy,XV];simp
 cases op<;>simp only[jz]at h;case shl=>cases h
 case shr=>cases h
 case quo=>
  cases K:s? b 0;rw[K]at h;simp only[cond_false]at h;cases h;have Z:¬b=0:=by rw[ew]at K;simpa using K
  exact⟨.int k (k.wrap (a.tdiv b)),by simp[binOp,Op.intDiv,Z],fun m=>by rw[dg];rfl,rfl⟩;grind
 case rem=>
  cases K:s? b 0;rw[K]at h;simp only[cond_false]at h;cases h;have Z:¬b=0:=by rw[ew]at K;simpa using K
  exact⟨.int k (a.tmod b),by simp[binOp,Op.intDiv,Z],fun m=>rfl,rfl⟩;grind
 all_goals cases h
 all_goals first
  |exact⟨_,by simp only[binOp,ne_eq,not_true_eq_false,if_false,Op.intArith,Op.intBits];rfl,fun m=>by rw[dg];rfl,rfl⟩
  |exact⟨_,by simp only[binOp,ne_eq,not_true_eq_false,if_false,Op.intCmp];rfl,fun m=>by rw[ew];rfl,rfl⟩
  |exact⟨_,by simp only[binOp,ne_eq,not_true_eq_false,if_false,Op.intCmp];rfl,fun m=>by rw[jy];rfl,rfl⟩
  |exact⟨_,by simp only[binOp,ne_eq,not_true_eq_false,if_false,Op.intCmp];rfl,fun m=>by rw[dl];rfl,rfl⟩
def tV(left:Bool)(k:IntKind)(a:Int)(b:Int):Option V:=
 match b with
 |.ofNat n=>
  let p:Int:=Int.ofNat (Nat.pow 2 (Nat.min n k.bits))
  some (.A k (bif left then bP k (Int.mul a p)else Int.fdiv a p))
 |.negSucc _=>none
theorem tU{left:Bool}{k k':IntKind}{a b:Int}{v:V}(h:tV left k a b=some v)(P:Program)(w:World)(t:TypeId):
 ∃x,(binOp (bif left then .shl else .shr) t (.int k a) (.int k' b)).run P w=.ok x w/\(∀m,l_ m v x)/\v.U=true:=by
 cases b with
 |negSucc n=>cases h
 |ofNat n=>
  simp only[tV]at h;cases h;have Z:(Int.ofNat (Nat.pow 2 (Nat.min n k.bits)))=(2:Int)^(min n k.bits):=by show((2^(min n k.bits):Nat):Int)=_;simp
  have K:¬(Int.ofNat n<0):=by simp
  cases left;exact⟨.int k (a.fdiv (2^min n k.bits)),by simp only[cond_false,binOp,Op.shift,if_neg K];rfl,fun m=>by show _=_;simp only[cond_false];rw[Z],rfl⟩;exact⟨.int k (k.wrap (a*2^min n k.bits)),by simp only[cond_true,binOp,Op.shift,if_neg K];rfl,fun m=>by show _=_;simp only[cond_true];rw[Z,dg];rfl,rfl⟩
def iZ:List Nat->List V->List V->Option Bool
 |[],_,_=>some true
 |0::ks,.A k a::l,.A k' b::l'=>bif kX k k' then(bif s? a b then iZ ks l l' else some false)else none
 |1::ks,.h a::l,.h b::l'=>bif xor a b then some false else iZ ks l l'
 |2::ks,.f a::l,.f b::l'=>bif a==b then iZ ks l l' else some false
 |_,_,_=>none
def qg(op:BinOp)(a b:List UInt8):Option V:=
 match op with
 |.add=>bif Nat.blt (a.length+b.length) 9223372036854775808 then some (.f (a++b))else none
 |.eql=>some (.h (a==b))
 |.neq=>some (.h (!(a==b)))
 |.lss=>some (.h (Op.bytesLess a b))
 |.leq=>some (.h (Op.bytesLess a b||a==b))
 |.gtr=>some (.h (!(Op.bytesLess a b||a==b)))
 |.geq=>some (.h (!Op.bytesLess a b))
 |_=>none
def kR:Nat->V->V->Option Bool
 |0,.O,.O=>some true
 |0,.O,.u _ _=>some false
 |0,.u _ _,.O=>some false
 |1,.r,.r=>some true
 |1,.r,.y _ _ _ _=>some false
 |1,.r,.G _ _ _ _=>some false
 |1,.r,.L=>some false
 |1,.r,.sliceZ _ _=>some false
 |1,.y _ _ _ _,.r=>some false
 |1,.G _ _ _ _,.r=>some false
 |1,.L,.r=>some false
 |1,.sliceZ _ _,.r=>some false
 |2,.nilm,.nilm=>some true
 |2,.nilm,.map _=>some false
 |2,.map _,.nilm=>some false
 |3,.R,.R=>some true
 |3,.R,.E _ _ _=>some false
 |3,.E _ _ _,.R=>some false
 |4,.nili,.nili=>some true
 |4,.nili,.iface _ _=>some false
 |4,.iface _ _,.nili=>some false
 |_,_,_=>none
def V.s:V->List V
 |.B l=>l
 |v=>[v]
def dT(c:List V):List (Nat×Nat)->List V->Option (List V)
 |[],[]=>some c
 |(off,size)::ps,v::vs=>
  bif Nat.beq v.s.length size&&Nat.blt 0 size then
   match bG c off v.s with
   |some c'=>dT c' ps vs
   |none=>none
  else none
 |_,_=>none
def cQ(v:V)(y:Nat):Option Nat:=
 match v with
 |.A _ (.ofNat n)=>bif Nat.ble n y then some n else none
 |_=>none
def aZ(len y:Nat)(lo hi mx:Bool)(bs:List V):Option (Nat×Nat×Option Nat):=
 match lo,hi,mx,bs with
 |false,false,false,[]=>some (0,len,none)
 |true,false,false,[a]=>(cQ a len).map fun l=>(l,len,none)
 |false,true,false,[b]=>(cQ b y).map fun h=>(0,h,none)
 |true,true,false,[a,b]=>(cQ b y).bind fun h=>(cQ a h).map fun l=>(l,h,none)
 |false,true,true,[b,c]=>(cQ c y).bind fun m=>(cQ b m).map fun h=>(0,h,some m)
 |true,true,true,[a,b,c]=>(cQ c y).bind fun m=>(cQ b m).bind fun h=>(cQ a h).map fun l=>(l,h,some m)
 |_,_,_,_=>none
def eJ(v:V)(esz:Nat)(lo hi mx:Bool)(bs:List V):Option V:=
 match v with
 |.r=>(aZ 0 0 lo hi mx bs).map fun _=>.r
 |.y b o len cap=>(aZ len cap lo hi mx bs).map fun(l,h,m)=>
  let m:=m.getD cap
  .y b (bif Nat.beq m l then o else o+l*esz) (h-l) (m-l)
 |.G b o len e=>bif Nat.beq e esz&&Nat.blt 0 e then
  (aZ len len lo hi mx bs).bind fun(l,h,m)=>
   match m with
   |some m=>some (.y b (bif Nat.beq m l then o else o+l*esz) (h-l) (m-l))
   |none=>bif Nat.blt l len then some (.G b (o+l*esz) (h-l) e)
             else bif Nat.beq l 0 then some (.G b o (h-l) e)else some .L
  else none
 |_=>none
def uN(n:Nat)(v:V)(esz:Nat)(lo hi mx:Bool)(bs:List V):Option V:=
 match v with
 |.u b o=>(aZ n n lo hi mx bs).map fun(l,h,m)=>
  let m:=m.getD n
  .y b (bif Nat.beq m l then o else o+l*esz) (h-l) (m-l)
 |_=>none
def lI(v:V)(len:Nat):Option Nat:=
 match v with
 |.A _ (.ofNat n)=>bif Nat.blt n len then some n else none
 |_=>none
def aP(k:PK)(vs:List V):Option V:=
 match k,vs with
 |.o,[x]=>some x
 |.r,[.h c,a,b]=>some (bif c then a else b)
 |.h,[.u b o]=>some (.u b o)
 |.h,[.E (.func f) x y]=>some (.E (.func f) x y)
 |.e op,[.A k a,.A k' b]=>bif kX k k' then jz op k a b else none
 |.E left,[.A k a,.A _ b]=>tV left k a b
 |.u,[.h b]=>some (.h (!b))
 |.G,[.A k n]=>some (.A k (bP k (Int.sub 0 n)))
 |.H,[.A k n]=>jz .xor k (bif k.signed then-1 else k.max) n
 |.J ne,[.h a,.h b]=>some (.h (bif ne then xor a b else !(xor a b)))
 |.j kd ne,[a,b]=>(kR kd a b).map fun r=>.h (bif ne then !r else r)
 |.b off,[.u b o]=>some (.u b (o+off))
 |.z off n isAgg,[.B l]=>bif isAgg then(dG n (gC l off)).map .B else X8 l off
 |.l len esz,[.u b o,i]=>(lI i len).map fun n=>.u b (o+n*esz)
 |.c esz,[.y b o len _,i]=>(lI i len).map fun n=>.u b (o+n*esz)
 |.c esz,[.G b o len _,i]=>(lI i len).map fun n=>.u b (o+n*esz)
 |.f len esz isAgg,[.B l,i]=>(lI i len).bind fun n=>bif isAgg then(dG esz (gC l (n*esz))).map .B else X8 l (n*esz)
 |.v i,[.D l]=>X8 l i
 |.A fn n,vs=>(dG n vs).map fun f=>.E fn f (gC vs n)
 |.L t,[v]=>some (.iface t v)
 |.a zero places,vs=>(dT zero places vs).map .B
 |.s none esz lo hi mx,v::bs=>eJ v esz lo hi mx bs
 |.s (some n) esz lo hi mx,v::bs=>uN n v esz lo hi mx bs
 |.d,[.r]=>some (.A .i64 0)
 |.d,[.y _ _ len _]=>some (.A .i64 len)
 |.d,[.G _ _ len _]=>some (.A .i64 len)
 |.d,[.L]=>some (.A .i64 0)
 |.d,[.sliceZ _ _]=>some (.A .i64 0)
 |.x n,[_]=>some (.A .i64 n)
 |.y,[.r]=>some (.A .i64 0)
 |.y,[.y _ _ _ cap]=>some (.A .i64 cap)
 |.D n,[_]=>some (.A .i64 n)
 |.K,[.A k a,.A _ b]=>some (.A k (bif ilt b a then b else a))
 |.F,[.A k a,.A _ b]=>some (.A k (bif ilt a b then b else a))
 |.q k,[.A _ n]=>some (.A k (bP k n))
 |.I ne ks,[.B l,.B l']=>(iZ ks l l').map fun r=>.h (bif ne then !r else r)
 |.B op,[.f a,.f b]=>qg op a b
 |.g,[.f a]=>some (.A .i64 (a.length:Nat))
 |.p,[.f a,.A _ (.ofNat i)]=>(a[i]?).map fun c=>.A .u8 (c.toNat:Nat)
 |.C lo hi,.f a::bs=>(aZ a.length a.length lo hi false bs).map fun(l,h,_)=>.f ((a.drop l).take (h-l))
 |_,_=>none
mutual
def W5:V->Value->Bool
 |.h b,.bool c=>b==c
 |.A k n,.int k' n'=>kX k k'&&s? n n'
 |.f s,.string t=>t.data.toList==s
 |.O,.pointer none=>true
 |.r,.slice none 0 0=>true
 |.nilm,.map none=>true
 |.R,.nilFunc=>true
 |.nili,.nilIface=>true
 |.E fn f c,.func fn' f' c'=>decide (fn=fn')&&sC f f'.toList&&sC c c'.toList
 |.B l,.agg a=>sC l a.toList
 |.D l,.tuple a=>sC l a.toList
 |_,_=>false
def sC:List V->List Value->Bool
 |[],[]=>true
 |v::vs,x::xs=>W5 v x&&sC vs xs
 |_,_=>false
end
mutual
theorem xx(m:M):∀(v:V)(x:Value),W5 v x=true→l_ m v x
 |.h b,x,h=>by cases x<;>simp[W5]at h;subst h;rfl
 |.A k n,x,h=>by cases x<;>simp[W5]at h;let⟨a,b⟩:=h;rw[ew]at b;have:=mF a;subst this;simp at b;subst b;rfl
 |.f s,x,h=>by cases x<;>simp[W5]at h;rename_i t;cases t;rename_i d;cases d;simp at h;subst h;rfl
 |.O,x,h=>by
  cases x with
  |pointer a=>cases a with
   |none=>rfl
   |some a=>simp[W5]at h
  |_=>simp[W5]at h
 |.r,x,h=>by
  cases x with
  |slice a l c=>
   cases a with
   |some a=>simp[W5]at h
   |none=>cases l with
    |succ l=>simp[W5]at h
    |zero=>cases c with
     |zero=>rfl
     |succ c=>simp[W5]at h
  |_=>simp[W5]at h
 |.nilm,x,h=>by
  cases x with
  |map a=>cases a with
   |none=>rfl
   |some a=>simp[W5]at h
  |_=>simp[W5]at h
 |.R,x,h=>by cases x<;>simp[W5]at h;rfl
 |.nili,x,h=>by cases x<;>simp[W5]at h;rfl
 |.E fn f c,x,h=>by cases x<;>simp only[W5,Bool.false_eq_true]at h;rename_i fn' f' c';simp only[Bool.and_eq_true,decide_eq_true_eq]at h;obtain⟨⟨rfl,h1⟩,h2⟩:=h;exact⟨f'.toList,c'.toList,iS,dE m f _ h1,dE m c _ h2⟩
 |.B l,x,h=>by cases x<;>simp only[W5,Bool.false_eq_true]at h;rename_i a;exact⟨a.toList,iS,dE m l _ h⟩
 |.D l,x,h=>by cases x<;>simp only[W5,Bool.false_eq_true]at h;rename_i a;exact⟨a.toList,iS,dE m l _ h⟩
 |.u _ _,x,h=>by cases x<;>simp[W5]at h
 |.y _ _ _ _,x,h=>by cases x<;>simp[W5]at h
 |.G _ _ _ _,x,h=>by cases x<;>simp[W5]at h
 |.L,x,h=>by cases x<;>simp[W5]at h
 |.map _,x,h=>by cases x<;>simp[W5]at h
 |.iface _ _,x,h=>by cases x<;>simp[W5]at h
theorem dE(m:M):∀(vs:List V)(xs:List Value),sC vs xs=true->f_ m vs xs
 |[],[],_=>rfl
 |[],_::_,h=>by simp[sC]at h
 |_::_,[],h=>by simp[sC]at h
 |v::vs,x::xs,h=>by simp[sC]at h;exact⟨x,xs,rfl,xx m v x h.1,dE m vs xs h.2⟩
end
def LW(P:Program)(t:TypeId)(k:IntKind):Bool:=match P.underlying t with|some (.int k')=>kX k k'|_=>false
def CV(P:Program)(t:TypeId):Bool:=(P.underlying t).isSome
def dM(P:Program)(t:TypeId)(n:Nat):Bool:=match P.info? t with|some i=>Nat.beq i.size n|none=>false
def pX(P:Program)(t:TypeId)(b:Bool):Bool:=match P.underlying t with
 |some (.struct _)|some (.array _ _)=>b
 |some _=> !b
 |none=>false
def jU(P:Program)(t:TypeId)(z:List V):Bool:=match P.info? t with
 |some i=>match i.zero with
  |some x=>sC z x.cells.toList
  |none=>false
 |none=>false
def gI(P:Program)(t:TypeId)(kd:Nat):Bool:=match kd,P.underlying t with
 |0,some (.pointer _)|1,some (.slice _)|2,some (.map _ _)|3,some (.func _ _ _)|4,some (.interface _)=>true
 |_,_=>false
def C3(P:Program)(s:TypeId)(f off n:Nat)(isAgg:Bool):Bool:=match P.underlying s with
 |some (.struct fields)=>match fields[f]? with
  |some fd=>Nat.beq fd.offset off&&dM P fd.type n&&pX P fd.type isAgg
  |none=>false
 |_=>false
def k9(P:Program)(t:TypeId)(arr:Option Nat)(esz:Nat):Bool:=match arr,P.underlying t with
 |none,some (.slice e)=>dM P e esz
 |some n,some (.array n' e)=>Nat.beq n n'&&dM P e esz
 |_,_=>false
section
variable {P : Program} {w : World} {t : TypeId}
theorem aD{d:TypeDesc}(h:P.underlying t=some d):(underlying t).run P w=.ok d w:=by simp[underlying,h]
theorem dU{i:TypeInfo}(h:P.info? t=some i):(typeInfo t).run P w=.ok i w:=by simp[typeInfo,h]
theorem cK{n:Nat}(h:dM P t n=true):(sizeOf t).run P w=.ok n w:=by unfold dM at h;split at h;rename_i i Z;simp[sizeOf,dU Z,Wb h];cases h
theorem jo{b:Bool}(h:pX P t b=true):(isAgg t).run P w=.ok b w:=by
 unfold pX at h;split at h;rename_i f hf;subst h;simp[isAgg,aD hf];rename_i n e hf;subst h;simp[isAgg,aD hf];rename_i d hs K Z;cases b<;>simp at h;cases d<;>simp_all [isAgg,aD]
 cases h
theorem jF{z:List V}(h:jU P t z=true):∃x,(zeroValue t).run P w=.ok x w/\sC z x.cells.toList=true:=by unfold jU at h;split at h;rename_i i Z;split at h;rename_i x K;exact⟨x,by simp[zeroValue,dU Z,K],h⟩;cases h;cases h
end
def tY:Operand->Bool
 |.const _=>true
 |_=>false
def dW(P:Program)(t:TypeId):List (Nat×Operand)->List (Nat×Nat)->Bool
 |[],[]=>true
 |(i,_)::ps,(off,n)::qs=>
  (match P.underlying t with
   |some (.struct fields)=>match fields[i]? with
    |some fd=>Nat.beq fd.offset off&&dM P fd.type n
    |none=>false
   |some (.array _ e)=>Nat.beq off (i*n)&&dM P e n
   |_=>false)&&dW P t ps qs
 |_,_=>false
def xH(P:Program)(t:TypeId):Bool:=
 match P.underlying t with
 |some (.struct fields)=>fields.toList.all fun f=>(P.info? f.type).isSome
 |some (.array _ e)=>(P.info? e).isSome
 |_=>false
def C4(P:Program)(s:TypeId)(f off:Nat):Bool:=match P.underlying s with
 |some (.struct fields)=>match fields[f]? with
  |some fd=>Nat.beq fd.offset off&&(match P.info? fd.type with|some i=> !(Nat.beq i.size 0)|none=>false)
  |none=>false
 |_=>false
def fZ(op:Op)(b:Builtin):Option (Array Operand×Array TypeId):=
 match op with
 |.call {callee:=.builtin b',args,argTypes}=>if b=b' then some (args,argTypes)else none
 |_=>none
def nW(P:Program)(op:Op)(b:Builtin)(ok:TypeDesc->Bool):Bool:=
 match fZ op b with
 |some (args,ts)=>Nat.beq args.size 1&&(match ts[0]? with
  |some t=>match P.underlying t with
   |some d=>ok d
   |none=>false
  |none=>false)
 |none=>false
def kV(P:Program)(t:TypeId)(k:Nat):Bool:=match k,P.underlying t with
 |0,some (.int _)|1,some .bool|2,some .string=>true
 |_,_=>false
def jA(P:Program):Nat->List Field->List Nat->Bool
 |_,[],[]=>true
 |j,f::fs,k::ks=> !(f.name== "_")&&Nat.beq f.offset j&&kV P f.type k&&jA P (j+1) fs ks
 |_,_,_=>false
def qS(P:Program)(t:TypeId)(ks:List Nat):Bool:=match P.underlying t with
 |some (.struct fields)=> !P.stoodInHeld t&& !P.eqGuardType P.depth t&&jA P 0 fields.toList ks
 |_=>false
def CS(P:Program)(t:TypeId):Bool:=match P.underlying t with|some .string=>true|_=>false
def bL(P:Program)(op:Op):PK->Bool
 |.o=>match op with|.move _|.assign _=>true|_=>false
 |.r=>match op with|.pick _ _ _=>true|_=>false
 |.h=>match op with|.nilCheck _=>true|_=>false
 |.e b=>match op with|.binOp b' _ _ _ _=>decide (b=b')|_=>false
 |.E l=>match op with|.binOp b' _ _ _ _=>decide (b'=bif l then BinOp.shl else BinOp.shr)|_=>false
 |.u=>match op with|.unOp .not _ _=>true|_=>false
 |.G=>match op with|.unOp .neg _ _=>true|_=>false
 |.H=>match op with|.unOp .xor _ _=>true|_=>false
 |.J ne=>match op with|.binOp b t _ _ _=>decide (b=bif ne then BinOp.neq else BinOp.eql)&&(match P.underlying t with|some .bool=>true|_=>false)|_=>false
 |.j kd ne=>match op with|.binOp b t x y _=>decide (b=bif ne then BinOp.neq else BinOp.eql)&&gI P t kd&&(tY x||tY y)|_=>false
 |.b off=>match op with|.fieldAddr s _ f=>C4 P s f off|_=>false
 |.z off n a=>match op with|.field s _ f=>C3 P s f off n a|_=>false
 |.l len esz=>match op with|.indexAddr t _ _=>k9 P t (some len) esz|_=>false
 |.c esz=>match op with|.indexAddr t _ _=>k9 P t none esz|_=>false
 |.f len esz a=>match op with|.index t _ _=>(match P.underlying t with|some (.array n e)=>Nat.beq n len&&dM P e esz&&pX P e a|_=>false)|_=>false
 |.v i=>match op with|.extract _ j=>Nat.beq i j|_=>false
 |.A fn n=>match op with|.makeFunc fn' first _=>decide (fn=fn')&&Nat.beq first.size n|_=>false
 |.L t=>match op with|.makeInterface t' _=>Nat.beq t t'&&(match P.underlying t with|some (.interface _)=>false|some _=>true|none=>false)|_=>false
 |.a zero places=>match op with|.build t parts=>jU P t zero&&dW P t parts.toList places&&xH P t|_=>false
 |.s arr esz lo hi mx=>match op with|.slice t _ l h m=>k9 P t arr esz&&(l.isSome==lo)&&(h.isSome==hi)&&(m.isSome==mx)|_=>false
 |.d=>nW P op .len fun|.slice _=>true|_=>false
 |.x n=>nW P op .len fun|.array n' _=>Nat.beq n n'|_=>false
 |.y=>nW P op .cap fun|.slice _=>true|_=>false
 |.D n=>nW P op .cap fun|.array n' _=>Nat.beq n n'|_=>false
 |.K=>match fZ op .min with|some (args,_)=>Nat.beq args.size 2|none=>false
 |.F=>match fZ op .max with|some (args,_)=>Nat.beq args.size 2|none=>false
 |.q k=>match op with|.convert s d _=>CV P s&&LW P d k|_=>false
 |.I ne ks=>match op with|.binOp b t _ _ _=>decide (b=bif ne then BinOp.neq else BinOp.eql)&&qS P t ks|_=>false
 |.B b=>match op with|.binOp b' _ _ _ _=>decide (b=b')|_=>false
 |.g=>nW P op .len fun|.string=>true|_=>false
 |.p=>match op with|.index t _ _=>CS P t|_=>false
 |.C lo hi=>match op with|.slice t _ l h m=>CS P t&&(l.isSome==lo)&&(h.isSome==hi)&&m.isNone|_=>false
section
variable {P : Program} {w : World}
theorem rj{op:BinOp}{t:TypeId}{x y:Operand}{k k':IntKind}{a b:Int}:(eqGuard op t x y (.int k a) (.int k' b)).run P w=.ok () w:=by cases op<;>rfl
theorem pK{op:BinOp}{t:TypeId}{x y:Operand}{a b:Bool}:(eqGuard op t x y (.bool a) (.bool b)).run P w=.ok () w:=by cases op<;>rfl
theorem k7{op:BinOp}{t:TypeId}{x y:Operand}{a b:Option Addr}:(eqGuard op t x y (.pointer a) (.pointer b)).run P w=.ok () w:=by cases op<;>rfl
theorem eN{op:BinOp}{t:TypeId}{x y:Operand}{a b:Option Addr}{l c l' c':Nat}:(eqGuard op t x y (.slice a l c) (.slice b l' c')).run P w=.ok () w:=by cases op<;>rfl
theorem k8{op:BinOp}{t:TypeId}{x y:Operand}{a b:Option Nat}:(eqGuard op t x y (.map a) (.map b)).run P w=.ok () w:=by cases op<;>rfl
theorem vh{op:BinOp}{t:TypeId}{x y:Operand}:(eqGuard op t x y .nilFunc .nilFunc).run P w=.ok () w:=by cases op<;>rfl
theorem vg{op:BinOp}{t:TypeId}{x y:Operand}{f:Fn}{a b:Array Value}:(eqGuard op t x y .nilFunc (.func f a b)).run P w=.ok () w:=by cases op<;>rfl
theorem ve{op:BinOp}{t:TypeId}{x y:Operand}{f:Fn}{a b:Array Value}:(eqGuard op t x y (.func f a b) .nilFunc).run P w=.ok () w:=by cases op<;>rfl
theorem An{op:BinOp}{t:TypeId}{x y:Operand}(h:(tY x||tY y)=true):(eqGuard op t x y .nilIface .nilIface).run P w=.ok () w:=by unfold eqGuard;cases x<;>cases y<;>simp[tY]at h<;>cases op<;>rfl
theorem Am{op:BinOp}{t:TypeId}{x y:Operand}{u:TypeId}{a:Value}:(eqGuard op t x y .nilIface (.iface u a)).run P w=.ok () w:=by cases op<;>rfl
theorem Al{op:BinOp}{t:TypeId}{x y:Operand}{u:TypeId}{a:Value}:(eqGuard op t x y (.iface u a) .nilIface).run P w=.ok () w:=by cases op<;>rfl
theorem Ol{t:TypeId}(h:gI P t 0=true):∃e,P.underlying t=some (.pointer e):=by unfold gI at h;split at h<;>simp_all
theorem Ok{t:TypeId}(h:gI P t 1=true):∃e,P.underlying t=some (.slice e):=by unfold gI at h;split at h<;>simp_all
theorem Oj{t:TypeId}(h:gI P t 2=true):∃e f,P.underlying t=some (.map e f):=by unfold gI at h;split at h<;>simp_all
theorem Oi{t:TypeId}(h:gI P t 3=true):∃e f g,P.underlying t=some (.func e f g):=by unfold gI at h;split at h<;>simp_all
theorem Oh{t:TypeId}(h:gI P t 4=true):∃e,P.underlying t=some (.interface e):=by unfold gI at h;split at h<;>simp_all
theorem Ep{kd:Nat}{a b:V}{r:Bool}(h:kR kd a b=some r){t:TypeId}(hk:gI P t kd=true){m:M}{x y:Value}(ra:l_ m a x)(rb:l_ m b y)(d:Nat):
 (Op.equalIn (d+1) t x y).run P w=.ok r w:=by
 unfold kR at h;split at h;case h_22=>cases h
 all_goals
  simp only[Option.some.injEq]at h;subst h;simp[l_]at ra rb;first
   |(let⟨e,hu⟩:=Ol hk)
   |(let⟨e,hu⟩:=Ok hk)
   |(let⟨e,f,hu⟩:=Oj hk)
   |(let⟨e,f,g,hu⟩:=Oi hk)
   |(let⟨e,hu⟩:=Oh hk)
  simp only[Op.equalIn,Sem.run_bind,aD hu,Result.andThen_ok];first
   |(subst ra;subst rb;rfl)
   |(subst ra;obtain⟨_,_,rfl⟩:=rb;rfl)
   |(obtain⟨_,_,rfl⟩:=ra;subst rb;rfl)
   |(subst ra;obtain⟨_,_,_,rfl⟩:=rb;rfl)
   |(obtain⟨_,_,_,rfl⟩:=ra;subst rb;rfl)
   |(subst ra;obtain⟨_,_,rfl,_⟩:=rb;rfl)
   |(obtain⟨_,_,rfl,_⟩:=ra;subst rb;rfl)
   |(subst ra;obtain⟨_,rfl,_⟩:=rb;rfl)
   |(obtain⟨_,rfl,_⟩:=ra;subst rb;rfl)
theorem zD{kd:Nat}{a b:V}{r:Bool}(h:kR kd a b=some r){t:TypeId}{m:M}{x y:Value}(Z:l_ m a x)(rb:l_ m b y){op:BinOp}{u v:Operand}(hc:(tY u||tY v)=true):
 (eqGuard op t u v x y).run P w=.ok () w:=by
 have K:(kR kd a b).isSome=true:=by rw[h];rfl
 clear h;unfold kR at K;split at K<;>simp at K<;>simp[l_]at Z rb;all_goals first
  |(subst Z;subst rb;first|exact k7|exact eN|exact k8|exact vh|exact An hc)
  |(subst Z;obtain⟨_,_,rfl⟩:=rb;first|exact k7|exact eN|exact k8)
  |(obtain⟨_,_,rfl⟩:=Z;subst rb;first|exact k7|exact eN|exact k8)
  |(subst Z;obtain⟨_,_,_,rfl⟩:=rb;exact eN)
  |(obtain⟨_,_,_,rfl⟩:=Z;subst rb;exact eN)
  |(subst Z;obtain⟨_,_,rfl,_⟩:=rb;exact vg)
  |(obtain⟨_,_,rfl,_⟩:=Z;subst rb;exact ve)
  |(subst Z;obtain⟨_,rfl,_⟩:=rb;exact Am)
  |(obtain⟨_,rfl,_⟩:=Z;subst rb;exact Al)
theorem Eq{kd:Nat}{a b:V}{r:Bool}(h:kR kd a b=some r){m:M}{x y:Value}(Z:l_ m a x)(rb:l_ m b y)(t:TypeId):
 (binOp .eql t x y=do pure (.bool (<-Op.equal t x y)))/\(binOp .neq t x y=do pure (.bool (!(<-Op.equal t x y)))):=by
 have K:(kR kd a b).isSome=true:=by rw[h];rfl
 clear h;unfold kR at K;split at K<;>simp at K<;>simp[l_]at Z rb;all_goals first
  |(subst Z;subst rb;exact⟨rfl,rfl⟩)
  |(subst Z;obtain⟨_,_,rfl⟩:=rb;exact⟨rfl,rfl⟩)
  |(obtain⟨_,_,rfl⟩:=Z;subst rb;exact⟨rfl,rfl⟩)
  |(subst Z;obtain⟨_,_,_,rfl⟩:=rb;exact⟨rfl,rfl⟩)
  |(obtain⟨_,_,_,rfl⟩:=Z;subst rb;exact⟨rfl,rfl⟩)
  |(subst Z;obtain⟨_,_,rfl,_⟩:=rb;exact⟨rfl,rfl⟩)
  |(obtain⟨_,_,rfl,_⟩:=Z;subst rb;exact⟨rfl,rfl⟩)
  |(subst Z;obtain⟨_,rfl,_⟩:=rb;exact⟨rfl,rfl⟩)
  |(obtain⟨_,rfl,_⟩:=Z;subst rb;exact⟨rfl,rfl⟩)
end
theorem l_.J_{m:M}{v:V}{x:Value}(h:l_ m v x):f_ m v.s x.cells.toList:=by
 cases v<;>simp[V.s];case B l=>
  obtain⟨l',rfl,r⟩:=h;simpa[Value.cells]using r
 all_goals
  have h0:=h;simp[l_]at h;first
   |(subst h;exact⟨_,[],rfl,h0,rfl⟩)
   |(obtain⟨_,_,rfl⟩:=h;exact⟨_,[],rfl,h0,rfl⟩)
   |(obtain⟨_,_,_,rfl⟩:=h;exact⟨_,[],rfl,h0,rfl⟩)
   |(obtain⟨_,rfl,_⟩:=h;exact⟨_,[],rfl,h0,rfl⟩)
   |(obtain⟨_,_,rfl,_⟩:=h;exact⟨_,[],rfl,h0,rfl⟩)
section
variable {P : Program} {m : M}
abbrev OV(ρ:Operand->Value)(op:Op):List Value:=op.operands.toList.map ρ
def PS(P:Program)(m:M)(o:Oper)(ρ:Operand->Value)(v:V):Prop:=∃x,l_ m v x/\∀w,(execOp ρ o).run P w=.ok (.value x) w
theorem bY{v:V}{Z:List Value}(h:f_ m [v] Z):∃x,Z=[x]/\l_ m v x:=by obtain⟨x,r,rfl,a,rfl⟩:=h;exact⟨x,rfl,a⟩
theorem cI{u v:V}{Z:List Value}(h:f_ m [u,v] Z):∃x y,Z=[x,y]/\l_ m u x/\l_ m v y:=by obtain⟨x,r,rfl,a,h⟩:=h;obtain⟨y,rfl,b⟩:=bY h;exact⟨x,y,rfl,a,b⟩
theorem sF{u v t:V}{Z:List Value}(h:f_ m [u,v,t] Z):∃x y z,Z=[x,y,z]/\l_ m u x/\l_ m v y/\l_ m t z:=by obtain⟨x,r,rfl,a,h⟩:=h;obtain⟨y,z,rfl,b⟩:=cI h;exact⟨x,y,z,rfl,a,b⟩
theorem O6{o:Oper}{ρ:Operand->Value}{x v:V}(hc:bL P o.op .o=true)(hv:f_ m [x] (OV ρ o.op))(h:some x=some v):PS P m o ρ v:=by cases h;simp[bL]at hc;split at hc;rename_i y Z;let⟨z,e,r⟩:=bY hv;rw[Z]at e;simp[Op.operands]at e;exact⟨z,r,fun w=>by simp[execOp,Z,e]⟩;rename_i y Z;let⟨z,e,r⟩:=bY hv;rw[Z]at e;simp[Op.operands]at e;exact⟨z,r,fun w=>by simp[execOp,Z,e]⟩;cases hc
theorem Lk{o:Oper}{ρ:Operand->Value}{c:Bool}{a b:V}(hc:bL P o.op .r=true)(hv:f_ m [.h c,a,b] (OV ρ o.op)):PS P m o ρ (bif c then a else b):=by simp[bL]at hc;split at hc;rename_i p q r Z;let⟨x,y,z,e,K,ry,rz⟩:=sF hv;rw[Z]at e;change[ρ p,ρ q,ρ r]=[x,y,z]at e;simp at e;let⟨e1,e2,e3⟩:=e;simp[l_]at K;cases c;exact⟨z,rz,fun w=>by simp[execOp,Z,e1,e3,K,asBool]⟩;exact⟨y,ry,fun w=>by simp[execOp,Z,e1,e2,K,asBool]⟩;cases hc
theorem Jl{o:Oper}{ρ:Operand->Value}{b Z:Nat}(hc:bL P o.op .h=true)(hv:f_ m [.u b Z] (OV ρ o.op)):PS P m o ρ (.u b Z):=by simp[bL]at hc;split at hc;rename_i p K;let⟨x,e,r⟩:=bY hv;rw[K]at e;simp[Op.operands]at e;have r0:=r;obtain⟨ac,hm,rfl⟩:=r;exact⟨_,r0,fun w=>by simp[execOp,K,e]⟩;cases hc
theorem FG{o:Oper}{ρ:Operand->Value}{f:FuncId}{a c:List V}(hc:bL P o.op .h=true)(hv:f_ m [.E (.func f) a c] (OV ρ o.op)):PS P m o ρ (.E (.func f) a c):=by simp[bL]at hc;split at hc;rename_i p Z;let⟨x,e,r⟩:=bY hv;rw[Z]at e;simp[Op.operands]at e;have K:=r;obtain⟨f',c',rfl,_⟩:=r;exact⟨_,K,fun w=>by simp[execOp,Z,e]⟩;cases hc
theorem O8{o:Oper}{ρ:Operand->Value}{op:BinOp}{k k':IntKind}{a b:Int}{v:V}(hc:bL P o.op (.e op)=true)(hv:f_ m [.A k a,.A k' b] (OV ρ o.op))
 (h:(bif kX k k' then jz op k a b else none)=some v):PS P m o ρ v:=by
 cases hk:kX k k';grind;rw[hk]at h;simp at h;have:=mF hk;subst this;simp[bL]at hc;split at hc;rename_i b' t x y yt hy;have hb:op=b':=by simpa using hc
 subst hb;let⟨x',y',e,rx,ry⟩:=cI hv;rw[hy]at e;change[ρ x,ρ y]=[x',y']at e;simp at e;simp[l_]at rx ry;let⟨z,_,rz,_⟩:=zX h P default t;refine⟨z,rz m,fun w=>?_⟩;let⟨z',hz,ac,_⟩:=zX h P w t;have:z'=z:=by
  have K:=rz m;have Z:=ac m;cases v with
  |A k n=>simp[l_]at K Z;rw[K,Z]
  |h b=>simp[l_]at K Z;rw[K,Z]
  |_=>cases op<;>simp[jz]at h<;>first|(cases h;done)|(cases hq:s? b 0<;>rw[hq]at h<;>cases h)
 rw[<-this];simp[execOp,hy,e.1,e.2,rx,ry,rj,hz];cases hc
theorem O3{o:Oper}{ρ:Operand->Value}{left:Bool}{k k':IntKind}{a b:Int}{v:V}(hc:bL P o.op (.E left)=true)(hv:f_ m [.A k a,.A k' b] (OV ρ o.op))
 (h:tV left k a b=some v):PS P m o ρ v:=by
 simp[bL]at hc;split at hc;rename_i b' t x y yt hy;have hb:b'=bif left then BinOp.shl else BinOp.shr:=by simpa using hc
 let⟨x',y',e,rx,ry⟩:=cI hv;rw[hy]at e;change[ρ x,ρ y]=[x',y']at e;simp at e;simp[l_]at rx ry;let⟨z,_,rz,_⟩:=tU (k':=k') h P default t;refine⟨z,rz m,fun w=>?_⟩;let⟨z',hz,Z,_⟩:=tU (k':=k') h P w t;have:z'=z:=by
  have r1:=rz m;have K:=Z m;cases b with
  |ofNat n=>simp only[tV,Wg]at h;subst h;simp only[l_]at r1 K;rw[r1,K]
  |negSucc n=>cases h
 rw[<-this];subst hb;simp[execOp,hy,e.1,e.2,rx,ry,rj,hz];cases hc
theorem NE{o:Oper}{ρ:Operand->Value}{b:Bool}(hc:bL P o.op .u=true)(hv:f_ m [.h b] (OV ρ o.op)):PS P m o ρ (.h (!b)):=by simp[bL]at hc;split at hc;rename_i t p Z;let⟨x,e,r⟩:=bY hv;rw[Z]at e;simp[Op.operands]at e;simp[l_]at r;exact⟨.bool (!b),rfl,fun w=>by simp[execOp,Z,e,r,Op.unary]⟩;cases hc
theorem NG{o:Oper}{ρ:Operand->Value}{k:IntKind}{n:Int}(hc:bL P o.op .G=true)(hv:f_ m [.A k n] (OV ρ o.op)):PS P m o ρ (.A k (bP k (Int.sub 0 n))):=by simp[bL]at hc;split at hc;rename_i t p Z;let⟨x,e,r⟩:=bY hv;rw[Z]at e;simp[Op.operands]at e;simp[l_]at r;exact⟨.int k (k.wrap (0-n)),by rw[dg];rfl,fun w=>by simp[execOp,Z,e,r,Op.unary,Op.intArith]⟩;cases hc
theorem Lm{o:Oper}{ρ:Operand->Value}{k:IntKind}{n:Int}{v:V}(hc:bL P o.op .H=true)(hv:f_ m [.A k n] (OV ρ o.op))
 (h:jz .xor k (bif k.signed then-1 else k.max) n=some v):PS P m o ρ v:=by
 simp[bL]at hc;split at hc;rename_i t p Z;let⟨x,e,r⟩:=bY hv;rw[Z]at e;simp[Op.operands]at e;simp[l_]at r;simp only[jz,Wg]at h;subst h;refine⟨.int k (k.wrap (BitVec.toNat (BitVec.ofInt k.bits (if k.signed then-1 else k.max)^^^BitVec.ofInt k.bits n))),?_,fun w=>by simp only[execOp,Z,e,r,Op.unary,Op.intBits];rfl⟩;rw[dg];simp only[l_];congr 6;cases k.signed<;>rfl
 cases hc
theorem uj{t:TypeId}(Z:P.underlying t=some .bool){w:World}(a b:Bool)(d:Nat):(Op.equalIn (d+1) t (.bool a) (.bool b)).run P w=.ok (a==b) w:=by simp only[Op.equalIn,Wm,aD Z,Wd];rfl
theorem O9{o:Oper}{ρ:Operand->Value}{ne a b:Bool}(hc:bL P o.op (.J ne)=true)(hv:f_ m [.h a,.h b] (OV ρ o.op)):PS P m o ρ (.h (bif ne then xor a b else !(xor a b))):=by
 simp[bL]at hc;split at hc;rename_i b' t x y yt Z;simp at hc;let⟨hb,hu⟩:=hc;have ac:P.underlying t=some .bool:=by grind
 let⟨x',y',e,rx,ry⟩:=cI hv;rw[Z]at e;change[ρ x,ρ y]=[x',y']at e;simp at e;simp[l_]at rx ry;refine⟨_,rfl,fun w=>?_⟩;have K:(Op.equal t (.bool a) (.bool b)).run P w=.ok (a==b) w:=uj ac a b 9999;subst hb;cases ne;simp at Z;simp only[cond_false,execOp,Z,e.1,e.2,rx,ry,Wm,pK,Wd];have:binOp BinOp.eql t (.bool a) (.bool b)=(do pure (.bool (<-Op.equal t (.bool a) (.bool b)))):=rfl;rw[this];simp only[Wm,K,Wd];cases a<;>cases b<;>rfl
 simp at Z;simp only[cond_true,execOp,Z,e.1,e.2,rx,ry,Wm,pK,Wd];have:binOp BinOp.neq t (.bool a) (.bool b)=(do pure (.bool (!(<-Op.equal t (.bool a) (.bool b))))):=rfl;rw[this];simp only[Wm,K,Wd];cases a<;>cases b<;>rfl
 cases hc
theorem NF{o:Oper}{ρ:Operand->Value}{kd:Nat}{ne:Bool}{a b:V}{r:Bool}(hc:bL P o.op (.j kd ne)=true)(hv:f_ m [a,b] (OV ρ o.op))(h:kR kd a b=some r):
 PS P m o ρ (.h (bif ne then !r else r)):=by
 simp[bL]at hc;split at hc;rename_i b' t x y yt Z;simp only[VY,decide_eq_true_eq]at hc;let⟨⟨hb,hk⟩,ac⟩:=hc;let⟨x',y',e,rx,ry⟩:=cI hv;rw[Z]at e;change[ρ x,ρ y]=[x',y']at e;simp at e;refine⟨_,rfl,fun w=>?_⟩;have K:(Op.equal t x' y').run P w=.ok r w:=Ep h hk rx ry 9999;have hg:(eqGuard b' t x y x' y').run P w=.ok () w:=zD h rx ry ac;let⟨b1,b2⟩:=Eq h rx ry t;subst hb;cases ne;simp at hg Z|-;simp only[execOp,Z,e.1,e.2,Wm,hg,Wd,b1,K];rfl;simp at hg Z|-;simp only[execOp,Z,e.1,e.2,Wm,hg,Wd,b2,K];rfl;cases hc
theorem Jq{o:Oper}{ρ:Operand->Value}{Z b k:Nat}(hc:bL P o.op (.b Z)=true)(hv:f_ m [.u b k] (OV ρ o.op)):PS P m o ρ (.u b (k+Z)):=by
 simp[bL]at hc;split at hc;rename_i s x f hy;let⟨x',e,r⟩:=bY hv;rw[hy]at e;simp[Op.operands]at e;obtain⟨ae,hm,rfl⟩:=r;unfold C4 at hc;split at hc;rename_i K hu;split at hc;rename_i fd hf;simp only[VY]at hc;let⟨ho,hi⟩:=hc;split at hi;rename_i i ac;have hs:¬i.size=0:=by intro q;rw[q]at hi;simp at hi
 refine⟨_,⟨ae,hm,rfl⟩,fun w=>?_⟩;have:=Wb ho;simp[execOp,hy,e,Instr.fieldAt,aD hu,hf,Instr.sureAddr,fieldPlace,sizeOf,dU ac,hs,iT,this,XA];cases hi;cases hc;cases hc;cases hc
end
section
variable {P : Program} {m : M}
theorem f_.take{l:List V}{l':List Value}(h:f_ m l l')(n:Nat):f_ m (l.take n) (l'.take n):=by refine f_.of_get (by simp[h.Z]) fun i v Z=>?_;rw[XW]at Z|-;split at Z;rename_i K;rw[if_pos K];exact h.i i v Z;cases Z
theorem f_.drop{l:List V}{l':List Value}(h:f_ m l l')(n:Nat):f_ m (l.drop n) (l'.drop n):=by refine f_.of_get (by simp[h.Z]) fun i v Z=>?_;rw[Xk]at Z|-;exact h.i _ v Z
def AJ(l:List V)(off n:Nat)(isAgg:Bool):Option V:=bif isAgg then(dG n (gC l off)).map .B else X8 l off
theorem zB{l:List V}{l':List Value}{Z n:Nat}{K:Bool}{v:V}{t:TypeId}(h:AJ l Z n K=some v)(r:f_ m l l')(hs:dM P t n=true)(ha:pX P t K=true):
 ∃x,l_ m v x/\∀w,(part t (List.toArray l') Z).run P w=.ok x w:=by
 unfold AJ at h;cases K;simp at h;rw[eZ]at h;let⟨x,hx,rx⟩:=r.i Z v h;refine⟨x,rx,fun w=>?_⟩;simp[part,jo ha,hx];simp only[cond_true]at h;cases ht:dG n (gC l Z)with
 |none=>rw[ht]at h;cases h
 |some c=>rw[ht]at h;cases h;obtain⟨rfl,hn⟩:=kJ ht;rw[bQ];refine⟨.agg (List.toArray ((l'.drop Z).take n)),⟨_,rfl,(r.drop Z).take n⟩,fun w=>?_⟩;simp only[part,Wm,jo ha,Wd,if_true,cK hs,Wx];congr 2;apply ZN;simp
theorem Jp{o:Oper}{ρ:Operand->Value}{Z n:Nat}{ia:Bool}{l:List V}{v:V}(hc:bL P o.op (.z Z n ia)=true)(hv:f_ m [.B l] (OV ρ o.op))
 (h:AJ l Z n ia=some v):PS P m o ρ v:=by
 simp[bL]at hc;split at hc;rename_i s x f hy;let⟨x',e,r⟩:=bY hv;rw[hy]at e;simp[Op.operands]at e;obtain⟨l',rfl,rl⟩:=r;unfold C3 at hc;split at hc;rename_i K hu;split at hc;rename_i fd hf;simp only[VY]at hc;let⟨⟨ho,hs⟩,ha⟩:=hc;have ac:=Wb ho;let⟨x,rx,hx⟩:=zB h rl hs ha;exact⟨x,rx,fun w=>by simp[execOp,hy,e,Instr.field,aD hu,hf,asAgg,ac,hx]⟩;cases hc;cases hc;cases hc
theorem qK{v:V}{len n:Nat}(h:lI v len=some n):∃k,v=.A k (.ofNat n)/\n<len:=by unfold lI at h;split at h;rename_i k K;cases Z:Nat.blt K len;grind;rw[Z]at h;cases h;exact⟨k,rfl,by simpa[WB]using Z⟩;cases h
theorem oL{t:TypeId}{esz:Nat}(h:k9 P t none esz=true):∃e,P.underlying t=some (.slice e)/\dM P e esz=true:=by unfold k9 at h;split at h<;>simp_all
theorem Ap{t:TypeId}{n esz:Nat}(h:k9 P t (some n) esz=true):∃e,P.underlying t=some (.array n e)/\dM P e esz=true:=by
 unfold k9 at h;split at h
 simp_all
 rename_i n0 n' e Z K;simp at Z;subst Z;simp only[VY]at h;have:=Wb h.1;subst this;exact⟨e,K,h.2⟩;cases h
theorem NK{o:Oper}{ρ:Operand->Value}{len esz b k n:Nat}{i:V}(hc:bL P o.op (.l len esz)=true)(hv:f_ m [.u b k,i] (OV ρ o.op))
 (h:lI i len=some n):PS P m o ρ (.u b (k+n*esz)):=by
 simp[bL]at hc;split at hc;rename_i t x y K;let⟨x',y',e,rx,ry⟩:=cI hv;rw[K]at e;change[ρ x,ρ y]=[x',y']at e;simp at e;obtain⟨Z,hm,rfl⟩:=rx;obtain⟨ik,rfl,ac⟩:=qK h;simp only[l_]at ry;let⟨e',hu,hs⟩:=Ap hc;refine⟨_,⟨Z,hm,rfl⟩,fun w=>?_⟩;have h1:(0:Int)<=Int.ofNat n/\Int.ofNat n<(len:Int):=by grind
 simp only[execOp,K,e.1,e.2,ry,Instr.indexAt,asIntOf,Instr.sureAddr,Wm,Wx,aD hu,Wd];rw[if_pos h1];simp[cK hs,iT,XA];cases hc
theorem Jn{o:Oper}{ρ:Operand->Value}{esz b k len n:Nat}{i s:V}{Z:V3}(hm:m b=some Z)(hc:bL P o.op (.c esz)=true)(hv:f_ m [s,i] (OV ρ o.op))
 (hs:∀x,l_ m s x->∃c,x=.slice (some ⟨Z.a,Z.b+k,none⟩) len c) (h:lI i len=some n):PS P m o ρ (.u b (k+n*esz)):=by
 simp[bL]at hc;split at hc;rename_i t x y hy;let⟨x',y',e,rx,ry⟩:=cI hv;rw[hy]at e;change[ρ x,ρ y]=[x',y']at e;simp at e;obtain⟨c,rfl⟩:=hs _ rx;obtain⟨ik,rfl,ac⟩:=qK h;simp only[l_]at ry;let⟨e',hu,K⟩:=oL hc;refine⟨_,⟨Z,hm,rfl⟩,fun w=>?_⟩;have h1:(0:Int)<=Int.ofNat n/\Int.ofNat n<(len:Int):=by grind
 simp only[execOp,hy,e.1,e.2,ry,Instr.indexAt,asIntOf,Instr.sureAddr,Wm,Wx,aD hu,Wd];rw[if_pos h1];simp[cK K,iT,XA];cases hc
theorem Jo{o:Oper}{ρ:Operand->Value}{len esz n:Nat}{K:Bool}{l:List V}{i v:V}(hc:bL P o.op (.f len esz K)=true)(hv:f_ m [.B l,i] (OV ρ o.op))
 (h:lI i len=some n) (h2:AJ l (n*esz) esz K=some v):PS P m o ρ v:=by
 simp[bL]at hc;split at hc;rename_i t x y Z;let⟨x',y',e,rx,ry⟩:=cI hv;rw[Z]at e;change[ρ x,ρ y]=[x',y']at e;simp at e;obtain⟨l',rfl,rl⟩:=rx;obtain⟨ik,rfl,ac⟩:=qK h;simp only[l_]at ry;split at hc;rename_i n' e' hu;simp only[VY]at hc;have hn:=Wb hc.1.1;subst hn;let⟨z,rz,hz⟩:=zB h2 rl hc.1.2 hc.2;refine⟨z,rz,fun w=>?_⟩;have h1:(0:Int)<=Int.ofNat n/\Int.ofNat n<(n':Int):=by grind
 simp only[execOp,Z,e.1,e.2,ry,Instr.index,asIntOf,Wm,Wx,aD hu,Wd];rw[if_pos h1];simp[cK hc.1.2,hz];cases hc;cases hc
theorem NM{o:Oper}{ρ:Operand->Value}{i:Nat}{l:List V}{v:V}(hc:bL P o.op (.v i)=true)(hv:f_ m [.D l] (OV ρ o.op))(h:X8 l i=some v):PS P m o ρ v:=by simp[bL]at hc;split at hc;rename_i x j Z;let⟨x',e,r⟩:=bY hv;rw[Z]at e;simp[Op.operands]at e;obtain⟨l',rfl,K⟩:=r;have:=Wb hc;subst this;rw[eZ]at h;let⟨x,hx,rx⟩:=K.i i v h;exact⟨x,rx,fun w=>by simp[execOp,Z,e,Instr.extract,hx]⟩;cases hc
theorem NJ{o:Oper}{ρ:Operand->Value}{fn:Fn}{n:Nat}{vs f:List V}(hc:bL P o.op (.A fn n)=true)(hv:f_ m vs (OV ρ o.op))(h:dG n vs=some f):PS P m o ρ (.E fn f (gC vs n)):=by
 simp[bL]at hc;split at hc;rename_i ac first cap hy
 simp only[VY,decide_eq_true_eq]at hc;obtain⟨rfl,hn⟩:=hc;have Z:=Wb hn;obtain⟨rfl,_⟩:=kJ h;rw[bQ];rw[hy]at hv;have ho:OV ρ (.makeFunc fn first cap)=(first.toList.map ρ)++(cap.toList.map ρ):=by simp[OV,Op.operands]
 rw[ho]at hv;have h1:=hv.take n;have h2:=hv.drop n;have K:(first.toList.map ρ).length=n:=by simp[Z]
 rw[List.take_left' K]at h1;rw[List.drop_left' K]at h2;exact⟨.func fn (List.toArray (first.toList.map ρ)) (List.toArray (cap.toList.map ρ)),⟨_,_,rfl,h1,h2⟩,fun w=>by
  have q:∀a:Array Operand,Array.map ρ a=List.toArray (a.toList.map ρ):=fun a=>ZN iS;simp[execOp,hy,Instr.makeFunc,q]⟩
 cases hc
theorem NI{o:Oper}{ρ:Operand->Value}{t:Nat}{v:V}(hc:bL P o.op (.L t)=true)(hv:f_ m [v] (OV ρ o.op)):PS P m o ρ (.iface t v):=by
 simp[bL]at hc;split at hc;rename_i t' x Z;let⟨K,e,r⟩:=bY hv;rw[Z]at e;simp[Op.operands]at e;simp only[VY]at hc;have:=Wb hc.1;subst this;refine⟨.iface t K,⟨K,rfl,r⟩,fun w=>?_⟩;let⟨_,hc⟩:=hc;split at hc;cases hc;rename_i d hd hu;simp only[execOp,Z,e,Instr.makeInterface,Wm,aD hu,Wd];cases d<;>first|rfl|exact absurd rfl (hd _)
 cases hc;cases hc
theorem pu{op:Op}{b:Builtin}{ok:TypeDesc->Bool}(h:nW P op b ok=true):∃x ts t d,op=.call {callee:=.builtin b,args:= #[x],argTypes:=ts}/\ts[0]? =some t/\P.underlying t=some d/\ok d=true:=by
 unfold nW at h;split at h;rename_i args ts Z;simp only[VY]at h;let⟨h1,h2⟩:=h;split at h2;rename_i t ht;split at h2;rename_i d hd;unfold fZ at Z;split at Z;rename_i b' K ac;split at Z;rename_i hb;subst hb;simp at Z;obtain⟨rfl,rfl⟩:=Z;have hs:=Wb h1;let⟨l⟩:=K;match l,hs with
 |[x],_=>exact⟨x,ac,t,d,rfl,ht,hd,h2⟩
 cases Z;cases Z;cases h2;cases h2;cases h
theorem pZ{o:Oper}{ρ:Operand->Value}{s:V}{len:Nat}(hc:bL P o.op .d=true)(hv:f_ m [s] (OV ρ o.op))
 (hs:∀x,l_ m s x->∃a c,x=.slice a len c):PS P m o ρ (.A .i64 len):=by
 let⟨x,ts,t,d,Z,ht,hu,K⟩:=pu hc;let⟨x',e,r⟩:=bY hv;rw[Z]at e;simp[Op.operands,Call.operands]at e;obtain⟨a,c,rfl⟩:=hs _ r;refine⟨_,rfl,fun w=>?_⟩;cases d<;>simp at K;simp[execOp,Z,resolve,invoke,builtin,Builtin.len_,ht,e,aD hu,goInt]
theorem FK{o:Oper}{ρ:Operand->Value}{s:V}{n:Nat}(hc:bL P o.op (.x n)=true)(hv:f_ m [s] (OV ρ o.op)):PS P m o ρ (.A .i64 n):=by let⟨x,ts,t,d,hy,ht,K,Z⟩:=pu hc;refine⟨_,rfl,fun w=>?_⟩;cases d<;>simp at Z;subst Z;simp[execOp,hy,resolve,invoke,builtin,Builtin.len_,ht,aD K,goInt]
theorem Dw{o:Oper}{ρ:Operand->Value}{s:V}{cap:Nat}(hc:bL P o.op .y=true)(hv:f_ m [s] (OV ρ o.op))
 (hs:∀x,l_ m s x->∃a l,x=.slice a l cap):PS P m o ρ (.A .i64 cap):=by
 let⟨x,ts,t,d,Z,ht,hu,K⟩:=pu hc;let⟨x',e,r⟩:=bY hv;rw[Z]at e;simp[Op.operands,Call.operands]at e;obtain⟨a,c,rfl⟩:=hs _ r;refine⟨_,rfl,fun w=>?_⟩;cases d<;>simp at K;simp[execOp,Z,resolve,invoke,builtin,Builtin.cap_,ht,e,aD hu,goInt]
theorem FM{o:Oper}{ρ:Operand->Value}{s:V}{n:Nat}(hc:bL P o.op (.D n)=true)(hv:f_ m [s] (OV ρ o.op)):PS P m o ρ (.A .i64 n):=by let⟨x,ts,t,d,hy,ht,K,Z⟩:=pu hc;refine⟨_,rfl,fun w=>?_⟩;cases d<;>simp at Z;subst Z;simp[execOp,hy,resolve,invoke,builtin,Builtin.cap_,ht,aD K,goInt]
theorem Co{op:Op}{b:Builtin}(h:(match fZ op b with|some (args,_)=>Nat.beq args.size 2|none=>false)=true):∃x y ts,op=.call {callee:=.builtin b,args:= #[x,y],argTypes:=ts}:=by
 split at h;rename_i args ts Z;unfold fZ at Z;split at Z;rename_i b' K ac;split at Z;rename_i hb;subst hb;simp at Z;obtain⟨rfl,rfl⟩:=Z;have hs:=Wb h;let⟨l⟩:=K;match l,hs with
 |[x,y],_=>exact⟨x,y,ac,rfl⟩
 cases Z;cases Z;cases h
theorem O7{o:Oper}{ρ:Operand->Value}{k k':IntKind}{a b:Int}(hc:bL P o.op .K=true)(hv:f_ m [.A k a,.A k' b] (OV ρ o.op)):PS P m o ρ (.A k (bif ilt b a then b else a)):=by
 let⟨x,y,ts,Z⟩:=Co hc;let⟨x',y',e,K,ry⟩:=cI hv;rw[Z]at e;change[ρ x,ρ y]=[x',y']at e;simp at e;simp[l_]at K ry;refine⟨.int k (if b<a then b else a),?_,fun w=>?_⟩;rw[jy];by_cases h:b<a<;>simp[l_]
 simp[execOp,Z,resolve,invoke,builtin,Builtin.min_,e.1,e.2,K,ry,Builtin.min2]
theorem O5{o:Oper}{ρ:Operand->Value}{k k':IntKind}{a b:Int}(hc:bL P o.op .F=true)(hv:f_ m [.A k a,.A k' b] (OV ρ o.op)):PS P m o ρ (.A k (bif ilt a b then b else a)):=by
 let⟨x,y,ts,Z⟩:=Co hc;let⟨x',y',e,K,ry⟩:=cI hv;rw[Z]at e;change[ρ x,ρ y]=[x',y']at e;simp at e;simp[l_]at K ry;refine⟨.int k (if b>a then b else a),?_,fun w=>?_⟩;rw[jy];by_cases h:a<b<;>simp[l_]
 simp[execOp,Z,resolve,invoke,builtin,Builtin.max_,e.1,e.2,K,ry,Builtin.max2]
theorem Ll{o:Oper}{ρ:Operand->Value}{k k':IntKind}{n:Int}(hc:bL P o.op (.q k)=true)(hv:f_ m [.A k' n] (OV ρ o.op)):PS P m o ρ (.A k (bP k n)):=by
 simp[bL]at hc;split at hc;rename_i s d x hy;let⟨x',e,r⟩:=bY hv;rw[hy]at e;simp[Op.operands]at e;simp[l_]at r;simp[CV,LW]at hc;let⟨h1,Z⟩:=hc;let⟨ds,K⟩:=Ze.1 h1;split at Z;rename_i k2 hd;have:=mF Z;subst this;refine⟨.int k (k.wrap n),by rw[dg];rfl,fun w=>?_⟩;simp only[execOp,hy,e,r,convert,Wm,aD K,aD hd,Wd];cases ds<;>rfl
 cases Z;cases hc
end
section
variable {P : Program} {m : M}
theorem KH(Z:Nat):∀(l:List Value)(k:Nat)(cs:Array Value),
 ((l.zipIdx k).foldl (fun(cs:Array Value)(p:Value×Nat)=>cs.setIfInBounds (Z+p.2) p.1) cs).size=cs.size/\
 ∀j:Nat,j<cs.size->((l.zipIdx k).foldl (fun(cs:Array Value)(p:Value×Nat)=>cs.setIfInBounds (Z+p.2) p.1) cs)[j]? =if Z+k<=j/\j<Z+k+l.length then l[j-(Z+k)]? else cs[j]? :=by
 intro l;induction l with
 |nil=>intro k cs;refine⟨rfl,fun j _=>?_⟩;rw[if_neg iS];rfl
 |cons x l ih=>intro k cs;simp only[List.zipIdx_cons,ZC];let⟨K,h2⟩:=ih (k+1) (cs.setIfInBounds (Z+k) x);refine⟨by rw[K];simp,fun j hj=>?_⟩;rw[h2 j (eV hj)];simp only[Wv];by_cases e:j=Z+k;grind;grind
theorem uf(K:Nat->Option (Nat×Nat)):∀(qs:List (Nat×Nat))(vs:List V)(ps:List (Nat×Value))(c:List V)(c':List Value)(r:List V),
 dT c qs vs=some r->f_ m c c'->f_ m vs (ps.map (·.2))->ps.map (fun p=>K p.1)=qs.map some->
 ∃r',Instr.fill K (List.toArray c') ps=some (List.toArray r')/\f_ m r r':=by
 intro qs;induction qs with
 |nil=>
  intro vs ps c c' r h hc hv hp;cases vs with
  |nil=>
   cases ps with
   |nil=>simp[dT]at h;subst h;exact⟨c',rfl,hc⟩
   |cons p ps=>simp at hp
  |cons v vs=>simp[dT]at h
 |cons q qs ih=>
  intro vs ps c c' r h hc hv hp;let⟨Z,size⟩:=q;cases vs with
  |nil=>simp[dT]at h
  |cons v vs=>
   cases ps with
   |nil=>simp at hp
   |cons p ps=>
    let⟨i,x⟩:=p;simp at hp;let⟨x',ay,e,rx,ax⟩:=hv;simp at e;obtain⟨rfl,rfl⟩:=e;simp[dT]at h;cases hb:(Nat.beq v.s.length size&&Nat.blt 0 size);rw[hb]at h;cases h;rw[hb]at h;simp at h;simp only[VY,WB]at hb;have ak:=Wb hb.1;have hn:v.s≠[]:=by intro q;rw[q]at ak;simp at ak;omega
    have rc:=rx.J_;have ae:=rc.Z;cases hu:bG c Z v.s with
    |none=>rw[hu]at h;cases h
    |some c1=>
     rw[hu]at h;simp at h;let⟨u1,u2,u3⟩:=vr _ _ _ _ hu;have aH:=hc.Z
     -- the model's step
     let⟨f1,f2⟩:=KH Z x.cells.toList 0 (List.toArray c');let F:=(x.cells.toList.zipIdx 0).foldl (fun(cs:Array Value)(p:Value×Nat)=>cs.setIfInBounds (Z+p.2) p.1) (List.toArray c');have af:f_ m c1 F.toList:=by
      refine f_.of_get ?_ fun j u hj=>?_;show F.toList.length=_;rw[Array.length_toList,u1];exact f1.trans iX;have az:j<c.length:=by obtain q|q:=WY j c.length;exact q;rw[Xa oM]at hj;cases hj
      rw[u3 j]at hj;have:=f2 j oO;simp only[Yp]at this;have e:F.toList[j]? =F[j]? :=by simp
      rw[e,show F[j]? =_ from this,ae];split at hj;rename_i ac;rw[if_pos ac];exact rc.i _ _ hj;rename_i ac;rw[if_neg ac];let⟨y,hy,ry⟩:=hc.i _ _ hj;exact⟨y,by simpa using hy,ry⟩
     let⟨r',ar,an⟩:=ih vs ps c1 F.toList r h af ax hp.2;refine⟨r',?_,an⟩;simp only[Instr.fill,hp.1];rw[if_neg];have e:(x.cells.zipIdx.foldl (fun(cs:Array Value)(p:Value×Nat)=>cs.setIfInBounds (Z+p.2) p.1) (List.toArray c'))=F:=by rw[<-Array.foldl_toList];simp[F]
     rw[show(x.cells.zipIdx.foldl (fun cs (c,j)=>cs.setIfInBounds (Z+j) c) (List.toArray c'))=F from e];simpa using ar;simp at ae;have:=u2 hn;simp;constructor<;>omega
theorem zF{α β:Type}{f:α→Option β}(d:β):∀{l:List α},(∀x∈l,∃y,f x=some y)→l.mapM f=some (l.map fun x=>(f x).getD d)
 |[],_=>rfl
 |x::l,h=>by let⟨y,hy⟩:=h x iS;simp[List.mapM_cons,hy,zF d (l:=l) fun z hz=>h z iX]
theorem E7{t:TypeId}{zero:List V}{Z:List (Nat×Nat)}{K:List (Nat×Operand)}{ρ:Operand->Value}{vs c:List V}
 (hz:jU P t zero=true) (hp:dW P t K Z=true) (hs:xH P t=true) (hv:f_ m vs (K.map fun p=>ρ p.2)) (h:dT zero Z vs=some c):
 ∃c',P.built t (K.map fun p=>(p.1,ρ p.2))=some (List.toArray c')/\f_ m c c':=by
 unfold jU at hz;split at hz;rename_i it ar;split at hz;rename_i z aH;have ax:f_ m zero z.cells.toList:=dE m _ _ hz;have an:f_ m vs ((K.map fun p=>(p.1,ρ p.2)).map (·.2)):=by simpa[Yw]using hv
 unfold xH at hs;split at hs;rename_i ae hu;have ay:∀f∈ae.toList,∃y,(P.info? f.type).map (fun i=>(f.offset,i.size))=some y:=by intro f hf;have:=Xw.1 hs f hf;let⟨i,hi⟩:=Ze.1 this;exact⟨_,by rw[hi];rfl⟩
 have aJ:=zF (f:=fun f:Field=>(P.info? f.type).map fun i=>(f.offset,i.size)) ((0:Nat),(0:Nat)) ay;have ak:∀(qs:List (Nat×Nat))(ps:List (Nat×Operand)),dW P t ps qs=true->
  (ps.map fun p=>(p.1,ρ p.2)).map (fun p=>(List.toArray (ae.toList.map fun x=>((P.info? x.type).map fun i=>(x.offset,i.size)).getD (0,0)))[p.1]?)=qs.map some:=by
  intro qs;induction qs with
  |nil=>intro ps ac;cases ps with
   |nil=>rfl
   |cons p ps=>simp[dW]at ac
  |cons q qs ih=>intro ps ac;cases ps with
   |nil=>simp[dW]at ac
   |cons p ps=>
    let⟨i,x⟩:=p;let⟨aR,n⟩:=q;simp[dW,hu]at ac;let⟨h1,h2⟩:=ac;split at h1;rename_i fd aT;simp only[VY]at h1;have af:=Wb h1.1;have hsi:=h1.2;unfold dM at hsi;split at hsi;rename_i i' aN;have hn:=Wb hsi;simp only[WK,Ww];refine⟨?_,ih ps h2⟩;have:ae.toList[i]? =some fd:=by simpa using aT
    simp[this,aN,af,hn];cases hsi;cases h1
 let⟨r',h1,h2⟩:=uf _ Z vs _ zero z.cells.toList c h ax an (ak Z K hp);refine⟨r',?_,h2⟩;unfold Program.built;simp only[ar,hu,aH,aJ];exact(by simpa using h1:Instr.fill _ z.cells _=_);rename_i n e hu;let⟨ie,az⟩:=Ze.1 hs;have ak:∀(qs:List (Nat×Nat))(ps:List (Nat×Operand)),dW P t ps qs=true->
  (ps.map fun p=>(p.1,ρ p.2)).map (fun p=>some (p.1*ie.size,ie.size))=qs.map some:=by
  intro qs;induction qs with
  |nil=>intro ps ac;cases ps with
   |nil=>rfl
   |cons p ps=>simp[dW]at ac
  |cons q qs ih=>intro ps ac;cases ps with
   |nil=>simp[dW]at ac
   |cons p ps=>let⟨i,x⟩:=p;let⟨aR,n⟩:=q;simp only[dW,hu,VY]at ac;let⟨⟨h1,h3⟩,h2⟩:=ac;have af:=Wb h1;unfold dM at h3;rw[az]at h3;have hn:=Wb h3;simp only[WK,Ww];refine⟨?_,ih ps h2⟩;simp[af,<-hn]
 let⟨r',h1,h2⟩:=uf (fun i=>some (i*ie.size,ie.size)) Z vs _ zero z.cells.toList c h ax an (ak Z K hp);refine⟨r',?_,h2⟩;unfold Program.built;simp[ar,hu,aH,az];simpa using h1;cases hs;cases hz;cases hz
theorem Jr{o:Oper}{ρ:Operand->Value}{zero:List V}{Z:List (Nat×Nat)}{vs c:List V}(hc:bL P o.op (.a zero Z)=true)(hv:f_ m vs (OV ρ o.op))
 (h:dT zero Z vs=some c):PS P m o ρ (.B c):=by
 simp[bL]at hc;split at hc;rename_i t K hy;simp at hc;let⟨⟨h1,h2⟩,h3⟩:=hc;rw[hy]at hv;have ac:f_ m vs (K.toList.map fun p=>ρ p.2):=by simpa[OV,Op.operands,Yw]using hv
 let⟨c',hb,rc⟩:=E7 h1 h2 h3 ac h;refine⟨.agg (List.toArray c'),⟨c',rfl,rc⟩,fun w=>?_⟩;have:=run_build (P:=P) w t (K.map fun(i,x)=>(i,ρ x)) (List.toArray c') (eV hb);simp[execOp,hy,this];cases hc
end
end Go.Ev
namespace Go.Ev
abbrev We:=@Go.Ev.T.v_
abbrev WI:=@Go.Ev.T.K_
abbrev Xr:=@Go.Ev.T.Q0
abbrev Xt:=@l_.mono
abbrev Yn:=@f_.append
abbrev Yo:=@P5.b
abbrev YR:=@T_.a
end Go.Ev
