/- An evaluator of the program, and contracts over it: EvA to EvL. -/
import GoSem.Step
import Derived.Orders
import Derived.Laws.Rows
import Derived.Laws.Cells
import Derived.Laws.Sem
import Derived.Laws.Tables
set_option linter.unusedSimpArgs false
set_option linter.unusedVariables false
set_option linter.constructorNameAsVariable false
set_option linter.unnecessarySimpa false
noncomputable section
theorem oM{p:Prop}(h:p:=by omega):p:=h
theorem iS{p:Prop}(h:p:=by simp):p:=h
theorem oO{p:Prop}(h:p:=by simp;omega):p:=h
theorem dI{p:Prop}(h:p:=by decide):p:=h
theorem iR{p:Prop}(h:p:=by rfl):p:=h
theorem iX{p:Prop}(h:p:=by simp[*]):p:=h
theorem eG{p q:Prop}(h:q)(k:p=q:=by simp):p:=k▸h
theorem eV{p q:Prop}(h:q)(k:q->p:=by simpa):p:=k h
namespace Go.Ev
abbrev pi:=@Int.toNat_natCast
abbrev Vc:=@List.mem_append
abbrev Vd:=@Bool.and_eq_true
abbrev Ve:=@Nat.le_refl
abbrev Vf:=@Nat.eq_of_beq_eq_true
abbrev Vg:=@List.mem_of_getElem?
abbrev Vh:=@Go.Result.andThen_ok
abbrev Vj:=@Nat.le_of_ble_eq_true
abbrev Vl:=@Option.some.injEq
abbrev Vm:=@List.take_of_length_le
abbrev Vo:=@List.mem_cons
abbrev Vp:=@List.getElem?_eq_getElem
abbrev Vq:=@List.drop_of_length_le
abbrev Vr:=@Go.Sem.run_bind
abbrev Vs:=@List.take_add_one
abbrev Vt:=@List.getElem?_eq_some_iff
abbrev Vu:=@List.mem_singleton
abbrev Vv:=@List.length_append
abbrev Vw:=@List.cons.injEq
abbrev Vx:=@Option.map_some
abbrev Vy:=@List.length_cons
abbrev Vz:=@Go.Sem.run_pure
abbrev VA:=@List.take_append_drop
abbrev VB:=@Array.getElem?_eq_getElem
abbrev VC:=@Nat.le_trans
abbrev VD:=@List.not_mem_nil
abbrev VE:=@Nat.blt_eq
abbrev VF:=@List.map_append
abbrev VG:=@Prod.mk.injEq
abbrev VH:=@List.length_eq_zero_iff
abbrev VI:=@List.take_append_of_le_length
abbrev VK:=@List.mem_map
abbrev VM:=@List.flatMap_cons
abbrev VN:=@List.append_assoc
abbrev VO:=@Bool.false_eq_true
abbrev VP:=@Array.getD_eq_getD_getElem?
abbrev VR:=@Nat.zero_add
abbrev VT:=@List.map_cons
abbrev VU:=@List.mem_of_mem_drop
abbrev VV:=@List.length_set
abbrev VW:=@List.map_map
abbrev VX:=@Option.bind_some
abbrev VY:=@List.getElem?_map
abbrev VZ:=@List.map_drop
abbrev Wa:=@List.drop_length_add_append
abbrev Wb:=@Nat.mul_le_mul_right
abbrev Wc:=@List.drop_append_of_le_length
abbrev Wd:=@List.drop_drop
abbrev We:=@Array.getElem?_eq_some_iff
abbrev Wf:=@List.map_take
abbrev Wg:=@List.getD_eq_getElem?_getD
abbrev Wh:=@List.getElem?_drop
abbrev Wk:=@List.append_nil
abbrev Wl:=@List.mem_of_mem_take
abbrev Wm:=@List.drop_eq_getElem_cons
abbrev Wn:=@Nat.lt_of_lt_of_le
abbrev Wo:=@List.all_eq_true
abbrev Wq:=@List.cons_append
abbrev Ws:=@List.getElem?_set_ne
abbrev Wt:=@Nat.lt_or_ge
abbrev Wu:=@List.getElem?_eq_none
abbrev Wv:=@List.nil_append
abbrev Wx:=@List.flatMap_append
abbrev Wz:=@List.take_length
abbrev WC:=@Nat.mul_one
abbrev WE:=@Nat.min_eq_left
abbrev WG:=@List.length_map
abbrev WH:=@List.mem_or_eq_of_mem_set
abbrev WI:=@List.mem_cons_of_mem
abbrev WJ:=@Nat.add_assoc
abbrev WK:=@List.set_eq_take_append_cons_drop
abbrev WL:=@List.take_take
abbrev WM:=@Bool.not_eq_true'
abbrev WN:=@Nat.mod_lt
abbrev WO:=@Nat.beq_refl
abbrev WP:=@Nat.sub_self
abbrev WQ:=@List.eq_nil_of_length_eq_zero
abbrev WR:=@List.drop_sublist
abbrev WT:=@Bool.or_eq_true
abbrev WU:=@Option.some.inj
abbrev WV:=@List.drop_length
abbrev WW:=@Ne.symm
abbrev WX:=@List.replicate_succ
abbrev Xa:=@List.getElem?_append_left
abbrev Xb:=@List.sum_cons
abbrev Xc:=@List.mem_iff_getElem?
abbrev Xd:=@List.getElem?_take
abbrev Xe:=@List.filter_append
abbrev Xf:=@Iff.rfl
abbrev Xg:=@List.length_take
abbrev Xh:=@Bool.and_self
abbrev Xi:=@List.all_cons
abbrev Xj:=@Bool.false_or
abbrev Xl:=@List.getElem?_replicate
abbrev Xm:=@Nat.add_zero
abbrev Xn:=@List.drop_left
abbrev Xo:=@List.drop_zero
abbrev Xp:=@List.Sublist.refl
abbrev Xq:=@List.nodup_append
abbrev Xr:=@Bool.eq_iff_iff
abbrev Xs:=@Nat.add_mul
abbrev Xt:=@List.map_congr_left
abbrev Xu:=@Nat.ble_eq
abbrev Xv:=@List.length_drop
abbrev Xy:=@Nat.succ_mul
abbrev Xz:=@List.map_nil
abbrev XA:=@List.take_left
abbrev XC:=@List.take_succ_eq_append_getElem
abbrev XD:=@Option.isSome_iff_exists
abbrev XE:=@List.mem_filter
abbrev XF:=@List.sum_append
abbrev XG:=@List.take_sublist
abbrev XH:=@Nat.add_comm
abbrev XI:=@List.getElem?_cons_succ
abbrev XJ:=@List.getElem?_cons_zero
abbrev XK:=@Nat.add_sub_cancel_left
abbrev XL:=@Bool.or_false
abbrev XM:=@Nat.mod_eq_of_lt
abbrev XN:=@List.take_zero
abbrev XO:=@Nat.mul_div_cancel
abbrev XQ:=@List.set_cons_zero
abbrev XR:=@List.getElem?_toArray
abbrev XS:=@Nat.ble_eq_true_of_le
abbrev XT:=@List.length_filter_le
abbrev XU:=@List.length_nil
abbrev XV:=@List.take_length_add_append
abbrev XW:=@List.perm_append_comm
abbrev XZ:=@List.ext_getElem?
abbrev Ya:=@List.getElem?_append_right
abbrev Yb:=@Array.getElem?_append_left
abbrev Yc:=@Bool.and_eq_true_iff
abbrev Yd:=@List.drop_take
abbrev Ye:=@Option.getD_some
abbrev Yf:=@Option.getD_none
abbrev Yg:=@List.any_eq_true
abbrev Yh:=@List.filter_cons
abbrev Yi:=@List.take_append
abbrev Yk:=@List.replicate_zero
abbrev Yl:=@Nat.sub_zero
abbrev Ym:=@List.eq_of_mem_replicate
abbrev Yn:=@Bool.not_true
abbrev Yp:=@List.getLast?_singleton
abbrev Yq:=@Option.toList_some
abbrev Yr:=@List.set_append
abbrev Ys:=@List.filter_eq_nil_iff
abbrev Yt:=@List.getElem?_set_self
abbrev Yv:=@List.any_eq_false
abbrev Yw:=@Nat.lt_trichotomy
abbrev Yy:=@List.find?_nil
abbrev Yz:=@List.Perm.append_left
abbrev YA:=@Nat.lt_succ_self
abbrev YC:=@List.map_toArray
abbrev YD:=@List.countP_cons
abbrev YF:=@List.getLast?_append
abbrev YG:=@Nat.pow_lt_pow_right
abbrev YH:=@Bool.true_and
abbrev YI:=@List.any_cons
abbrev YJ:=@Nat.le_succ
abbrev YK:=@List.take_succ_cons
abbrev YL:=@Nat.div_le_self
abbrev YM:=@List.countP_pos_iff
abbrev YN:=@List.find?_cons
abbrev YO:=@Nat.zero_mul
abbrev YP:=@Option.isSome_none
abbrev YQ:=@Int.natCast_nonneg
abbrev YS:=@List.mapM_cons
abbrev YU:=@Array.ext'
abbrev YV:=@Function.comp_def
abbrev YW:=@List.filter_congr
abbrev YX:=@Nat.mul_pos
end Go.Ev
namespace Go.Ev
inductive T(α:Type) where
 |e
 |n (l:T α) (v:Option α) (r:T α)
namespace T
variable {α : Type}
def c_(t:T α):Nat->Option α:=
 T.rec (motive:=fun _=>Nat->Option α) (fun _=>none)
  (fun _ v _ gl gr i=>Nat.rec (motive:=fun _=>Option α) v
   (fun j _=>Nat.rec (motive:=fun _=>Option α) (gl (Nat.div j 2)) (fun _ _=>gr (Nat.div j 2)) (Nat.mod j 2)) i) t
def ZK(v:α)(d:Nat):T α->Nat->T α:=
 Nat.rec (motive:=fun _=>T α->Nat->T α) (fun t _=>t)
  (fun _ rec t i=>T.rec (motive:=fun _=>T α)
   (Nat.rec (motive:=fun _=>T α) (.n .e (some v) .e)
    (fun j _=>Nat.rec (motive:=fun _=>T α) (.n (rec .e (Nat.div j 2)) none .e) (fun _ _=>.n .e none (rec .e (Nat.div j 2))) (Nat.mod j 2)) i)
   (fun l x r _ _=>Nat.rec (motive:=fun _=>T α) (.n l (some v) r)
    (fun j _=>Nat.rec (motive:=fun _=>T α) (.n (rec l (Nat.div j 2)) x r) (fun _ _=>.n l x (rec r (Nat.div j 2))) (Nat.mod j 2)) i)
   t) d
def B_(t:T α)(i:Nat)(v:α):T α:=ZK v (Nat.succ i) t i
@[simp] theorem Pg (i : Nat) : (T.e : T α).c_ i = none := rfl
theorem ZJ(l:T α)(v:Option α)(r:T α):(T.n l v r).c_ 0=v:=rfl
theorem V2(l:T α)(v:Option α)(r:T α)(j:Nat):(T.n l v r).c_ (j+1)=if j%2=0 then l.c_ (j/2)else r.c_ (j/2):=by show Nat.rec (motive:=fun _=>Option α) (l.c_ (j/2)) (fun _ _=>r.c_ (j/2)) (j%2)=_;have h:j%2=0\/j%2=1:=oM;obtain h|h:=h<;>rw[h]<;>rfl
theorem Mw(v:α)(d:Nat):ZK v (d+1) .e 0=.n .e (some v) .e:=rfl
theorem Mv(v:α)(d j:Nat):ZK v (d+1) .e (j+1)=if j%2=0 then .n (ZK v d .e (j/2)) none .e else .n .e none (ZK v d .e (j/2)):=by show Nat.rec (motive:=fun _=>T α) (.n (ZK v d .e (j/2)) none .e) (fun _ _=>.n .e none (ZK v d .e (j/2))) (j%2)=_;have h:j%2=0\/j%2=1:=oM;obtain h|h:=h<;>rw[h]<;>rfl
theorem Mu(v:α)(d:Nat)(l r:T α)(x:Option α):ZK v (d+1) (.n l x r) 0=.n l (some v) r:=rfl
theorem Mt(v:α)(d j:Nat)(l r:T α)(x:Option α):ZK v (d+1) (.n l x r) (j+1)=if j%2=0 then .n (ZK v d l (j/2)) x r else .n l x (ZK v d r (j/2)):=by show Nat.rec (motive:=fun _=>T α) (.n (ZK v d l (j/2)) x r) (fun _ _=>.n l x (ZK v d r (j/2))) (j%2)=_;have h:j%2=0\/j%2=1:=oM;obtain h|h:=h<;>rw[h]<;>rfl
theorem Kl(v:α)(d:Nat):∀(t:T α)(i j:Nat),i<d->(ZK v d t i).c_ j=if j=i then some v else t.c_ j:=by
 induction d with
 |zero=>intro t i j h;omega
 |succ d ih=>
  intro t i j h;cases t with
  |e=>
   cases i with
   |zero=>
    rw[Mw];cases j with
    |zero=>simp[ZJ]
    |succ j=>rw[V2];simp
   |succ i=>
    rw[Mv];cases j with
    |zero=>split<;>simp[ZJ]
    |succ j=>split;rename_i K;rw[V2,ih _ _ _ oM];split;rename_i hj;by_cases Z:j=i;subst Z;simp;rw[if_neg oM,if_neg oM];simp;rw[if_neg oM];simp;rename_i K;rw[V2,ih _ _ _ oM];split;rw[if_neg oM];simp;rename_i hj;by_cases Z:j=i;subst Z;simp;rw[if_neg oM,if_neg oM];simp
  |n l x r=>
   cases i with
   |zero=>
    rw[Mu];cases j with
    |zero=>simp[ZJ]
    |succ j=>rw[V2,V2];simp
   |succ i=>
    rw[Mt];cases j with
    |zero=>split<;>simp[ZJ]
    |succ j=>split;rename_i K;rw[V2,V2,ih _ _ _ oM];split;grind;grind;rename_i K;rw[V2,V2,ih _ _ _ oM];split;grind;grind
theorem S1(t:T α)(i j:Nat)(v:α):(t.B_ i v).c_ j=if j=i then some v else t.c_ j:=Kl v _ t i j (YA i)
theorem N_(t:T α)(i:Nat)(v:α):(t.B_ i v).c_ i=some v:=by rw[S1,if_pos rfl]
theorem x_(t:T α){i j:Nat}(v:α)(h:j≠i):(t.B_ i v).c_ j=t.c_ j:=by rw[S1,if_neg h]
end T
def X0{α:Type}(l:List α):Nat->Option α:=
 List.rec (motive:=fun _=>Nat->Option α) (fun _=>none) (fun v _ ih i=>Nat.rec (motive:=fun _=>Option α) (some v) (fun j _=>ih j) i) l
theorem gN{α:Type}(l:List α)(i:Nat):X0 l i=l[i]? :=by
 induction l generalizing i with
 |nil=>rfl
 |cons v l ih=>cases i with
  |zero=>rfl
  |succ i=>exact(ih i).trans iS
def upd{α:Type}(l:List α):Nat->List α->List α:=
 List.rec (motive:=fun _=>Nat->List α->List α) (fun _ _=>[]) (fun x _ ih i vs=>Nat.rec (motive:=fun _=>List α)
  (List.rec (motive:=fun _=>List α) (x::ih 0 []) (fun v vs _=>v::ih 0 vs) vs) (fun j _=>x::ih j vs) i) l
@[simp] theorem OM {α : Type} (i : Nat) (vs : List α) : upd [] i vs = [] := rfl
inductive V where
 |h (b:Bool)
 |C (k:IntKind) (n:Int)
 |f (s:List UInt8)
 |K
 |u (b o:Nat)
 |j
 |z (b o len cap:Nat)
 |L (b o len esz:Nat)
 |F
 |af
 |ad (b:Nat)
 |R
 |I (fn:Fn) (first caps:List V)
 |am
 |ah (t:Nat) (v:V)
 |B (l:List V)
 |G (l:List V)
 |ak (b:Nat)
 |aa (a:Addr) (cap:Nat)
inductive PK where
 |o|p|e
 |h (op:BinOp)|F (left:Bool)
 |x|J|G
 |K (ne:Bool)
 |l (kind:Nat) (ne:Bool)
 |b (off:Nat)
 |u (off n:Nat) (isAgg:Bool)
 |g (len esz:Nat)|c (esz:Nat)|f (len esz:Nat) (isAgg:Bool)
 |v (i:Nat)
 |B (fn:Fn) (nfirst:Nat)
 |L (t:Nat)
 |a (zero:List V) (places:List (Nat×Nat))
 |s (arr:Option Nat) (esz:Nat) (lo hi mx:Bool)
 |d|y (n:Nat)
 |z|D (n:Nat)
 |H|E
 |r (k:IntKind)
 |I (ne:Bool) (ks:List Nat)
 |C (op:BinOp)
 |j|q
 |A (lo hi:Bool)
inductive G_ where
 |l (k:Nat)
 |v (s:Nat)
 |c (x:V)
 |g (n:Nat)
inductive Q_ where
 |p (k:PK) (xs:List G_)
 |a (n:Nat) (ia:Bool) (x:G_)
 |g (n:Nat) (x y:G_)
 |d (zero:List V)
 |r (x:G_)
 |b (zero:List V) (places:List (Nat×Nat)) (len:Nat) (xs:List G_)
 |h (zero:List V) (bytes:Nat) (x y:G_)
 |i (esz bytes:Nat) (x y:G_)
 |q (esz:Nat) (x y:G_)
 |c (f:Nat) (xs:List G_)
 |e (x:G_) (xs:List G_)
 |s (xs:List G_)
 |o (ks:Option (List Nat)) (zero:V) (ok:Bool) (xs:List G_)
 |z (ks:Option (List Nat)) (xs:List G_)
 |l (zero:List V) (x:G_)
 |j (x:G_)
 |A (x:G_) (xs:List G_)
 |v (nx:Bool) (x:G_)
 |u
structure n_ where
 c:Option (G_×Bool)
 a:Q_
 b:Option Nat
inductive IC where
 |i
 |o (l:List n_)
 |f (a b:IC)
 |e (x:G_) (a b:IC)
 |d (id:Nat) (c:IC)
 |n (c:IC)
 |k (id:Nat)
 |p
 |j (c:IC) (l:Nat) (r:IC)
 |q (l:Nat)
 |h (l:List n_) (late R:List Nat) (reads:List (Nat×Nat×Nat)) (sets:List (Nat×Nat))
 |u
 |s (g:G_) (ps:List Nat) (a b:IC)
 |v (c:IC)
inductive Ex where
 |a|d
 |c (id:Nat)
 |b (l:Nat)
def YB:Nat:=1099511627776
def U7:Nat:=1048576
structure LG where
 r:Loop
 b:List Nat
 c:IC
 d:IC
 a:List Nat
 N:Nat
structure V1 where
 a:Nat
 b:Nat
 c:Nat
 d:Option LG
abbrev M:=Nat->Option V1
mutual
def m_(m:M):V->Value->Prop
 |.h b,x=>x=.bool b
 |.C k n,x=>x=.int k n
 |.f s,x=>x=.string ⟨s.toArray⟩
 |.K,x=>x=.pointer none
 |.u b o,x=>∃loc,m b=some loc/\x=.pointer (some ⟨loc.a,loc.b+o,none⟩)
 |.j,x=>x=.slice none 0 0
 |.z b o len cap,x=>∃loc,m b=some loc/\len<=cap/\x=.slice (some ⟨loc.a,loc.b+o,none⟩) len cap
 |.L b o len esz,x=>∃loc,m b=some loc/\len<=(loc.c-o)/esz/\x=.slice (some ⟨loc.a,loc.b+o,none⟩) len ((loc.c-o)/esz)
 |.F,x=>∃a cap,x=.slice (some a) 0 cap
 |.af,x=>x=.map none
 |.ad b,x=>∃loc,m b=some loc/\x=.map (some loc.a)
 |.R,x=>x=.nilFunc
 |.I fn first caps,x=>∃f' c',x=.func fn (List.toArray f') (List.toArray c')/\h_ m first f'/\h_ m caps c'
 |.am,x=>x=.nilIface
 |.ah t v,x=>∃v',x=.iface t v'/\m_ m v v'
 |.B l,x=>∃l',x=.agg (List.toArray l')/\h_ m l l'
 |.G l,x=>∃l',x=.tuple (List.toArray l')/\h_ m l l'
 |.ak b,x=>∃loc,m b=some loc/\x=.func (.yield loc.a) #[] #[]
 |.aa a cap,x=>x=.slice (some a) 0 cap
def h_(m:M):List V->List Value->Prop
 |[],l=>l=[]
 |v::vs,l=>∃v' vs',l=v'::vs'/\m_ m v v'/\h_ m vs vs'
end
def Le(m m':M):Prop:=∀b loc,m b=some loc->m' b=some loc
mutual
theorem m_.ag{m m':M}(h:Le m m'):∀(v:V)(x:Value),m_ m v x->m_ m' v x
 |.h _,_,r=>r
 |.C _ _,_,r=>r
 |.f _,_,r=>r
 |.K,_,r=>r
 |.u _ _,_,⟨loc,hb,r⟩=>⟨loc,h _ _ hb,r⟩
 |.j,_,r=>r
 |.z _ _ _ _,_,⟨loc,hb,r⟩=>⟨loc,h _ _ hb,r⟩
 |.L _ _ _ _,_,⟨loc,hb,r⟩=>⟨loc,h _ _ hb,r⟩
 |.F,_,r=>r
 |.af,_,r=>r
 |.ad _,_,⟨loc,hb,r⟩=>⟨loc,h _ _ hb,r⟩
 |.R,_,r=>r
 |.I _ first caps,_,⟨f',c',r,a,b⟩=>⟨f',c',r,h_.ag h first f' a,h_.ag h caps c' b⟩
 |.am,_,r=>r
 |.ah _ v,_,⟨v',r,a⟩=>⟨v',r,m_.ag h v v' a⟩
 |.B l,_,⟨l',r,a⟩=>⟨l',r,h_.ag h l l' a⟩
 |.G l,_,⟨l',r,a⟩=>⟨l',r,h_.ag h l l' a⟩
 |.ak _,_,⟨loc,hb,r⟩=>⟨loc,h _ _ hb,r⟩
 |.aa _ _,_,r=>r
theorem h_.ag{m m':M}(h:Le m m'):∀(l:List V)(x:List Value),h_ m l x->h_ m' l x
 |[],_,r=>r
 |v::vs,_,⟨v',vs',r,a,b⟩=>⟨v',vs',r,m_.ag h v v' a,h_.ag h vs vs' b⟩
end
def Geo(m m':M):Prop:=∀b loc,m b=some loc->∃l',m' b=some l'/\l'.a=loc.a/\l'.b=loc.b/\l'.c=loc.c
mutual
theorem m_.bp{m m':M}(h:Geo m m'):∀(v:V)(x:Value),m_ m v x→m_ m' v x
 |.h _,_,r=>r
 |.C _ _,_,r=>r
 |.f _,_,r=>r
 |.K,_,r=>r
 |.u _ _,_,⟨loc,hb,r⟩=>let⟨l',h1,h2,h3,_⟩:=h _ _ hb;⟨l',h1,by rw[h2,h3];exact r⟩
 |.j,_,r=>r
 |.z _ _ _ _,_,⟨loc,hb,r⟩=>let⟨l',h1,h2,h3,_⟩:=h _ _ hb;⟨l',h1,by rw[h2,h3];exact r⟩
 |.L _ _ _ _,_,⟨loc,hb,r⟩=>let⟨l',h1,h2,h3,h4⟩:=h _ _ hb;⟨l',h1,by rw[h2,h3,h4];exact r⟩
 |.F,_,r=>r
 |.af,_,r=>r
 |.ad _,_,⟨loc,hb,r⟩=>let⟨l',h1,h2,_⟩:=h _ _ hb;⟨l',h1,by rw[h2];exact r⟩
 |.R,_,r=>r
 |.I _ first caps,_,⟨f',c',r,a,b⟩=>⟨f',c',r,h_.bp h first f' a,h_.bp h caps c' b⟩
 |.am,_,r=>r
 |.ah _ v,_,⟨v',r,a⟩=>⟨v',r,m_.bp h v v' a⟩
 |.B l,_,⟨l',r,a⟩=>⟨l',r,h_.bp h l l' a⟩
 |.G l,_,⟨l',r,a⟩=>⟨l',r,h_.bp h l l' a⟩
 |.ak _,_,⟨loc,hb,r⟩=>let⟨l',h1,h2,_⟩:=h _ _ hb;⟨l',h1,by rw[h2];exact r⟩
 |.aa _ _,_,r=>r
theorem h_.bp{m m':M}(h:Geo m m'):∀(l:List V)(x:List Value),h_ m l x->h_ m' l x
 |[],_,r=>r
 |v::vs,_,⟨v',vs',r,a,b⟩=>⟨v',vs',r,m_.bp h v v' a,h_.bp h vs vs' b⟩
end
theorem h_.D_{m:M}:h_ m [] []:=rfl
theorem h_.p_{m:M}{v:V}{vs:List V}{x:Value}{xs:List Value}(h:m_ m v x)(t:h_ m vs xs):h_ m (v::vs) (x::xs):=⟨x,xs,rfl,h,t⟩
theorem h_.T{m:M}:∀{vs:List V}{xs:List Value},h_ m vs xs->xs.length=vs.length
 |[],_,rfl=>rfl
 |_::_,_,⟨_,_,rfl,_,t⟩=>by simp[h_.T t]
theorem h_.c_{m:M}:∀{vs:List V}{xs:List Value}(i:Nat)(v:V),h_ m vs xs->vs[i]? =some v->∃x,xs[i]? =some x/\m_ m v x
 |[],_,_,_,_,h=>by simp at h
 |_::_,_,0,_,⟨x,_,rfl,r,_⟩,h=>by simp at h;subst h;exact⟨x,iS,r⟩
 |_::_,_,i+1,v,⟨_,_,rfl,_,t⟩,h=>by simpa using h_.c_ i v t (eV h)
theorem h_.aA{m:M}:∀{as bs:List V}{xs ys:List Value},h_ m as xs->h_ m bs ys->h_ m (as++bs) (xs++ys)
 |[],_,_,_,rfl,h=>h
 |_::_,_,_,_,⟨_,_,rfl,r,t⟩,h=>⟨_,_,rfl,r,h_.aA t h⟩
theorem h_.aq{m:M}:∀{vs:List V}{xs:List Value},xs.length=vs.length→(∀(i:Nat) v,vs[i]? =some v→∃x,xs[i]? =some x∧m_ m v x)→h_ m vs xs
 |[],xs,h,_=>by cases xs<;>simp_all [h_]
 |v::vs,[],h,_=>by simp at h
 |v::vs,x::xs,h,g=>by refine⟨x,xs,rfl,?_,h_.aq (eV h) fun i u hu=>by simpa using g (i+1) u (eV hu)⟩;let⟨y,hy,r⟩:=g 0 v rfl;simp at hy;subst hy;exact r
def V.O:V->Bool
 |.B _=>false
 |.G _=>false
 |_=>true
def sP:Value->Bool
 |.agg _|.tuple _=>false
 |_=>true
theorem m_.O{m:M}{v:V}{x:Value}(h:m_ m v x)(o:v.O=true):sP x=true:=by
 cases v<;>simp[V.O]at o<;>simp[m_]at h;all_goals first
  |(subst h;rfl)
  |(obtain⟨_,_,rfl⟩:=h;rfl)
  |(obtain⟨_,_,_,rfl⟩:=h;rfl)
  |(obtain⟨_,rfl,_⟩:=h;rfl)
  |(obtain⟨_,_,rfl,_⟩:=h;rfl)
def aw(l:List V):Bool:=l.all V.O
inductive Y8 where
 |a (c:List V) (fam mk:Nat)
 |f (es:List (V×V×Nat)) (clock:Nat)
 |b (ps:List Nat) (as bd:IC) (env:T V) (st:Nat) (pend:Option Ex)
 |e (s:List UInt8) (pos:Nat)
 |d
structure b_ where
 S:T Y8
 i:Nat
 Q:T (Nat×Nat)
def rd(h:b_)(p f k:Nat):Bool:=
 match h.Q.c_ f with
 |none=>true
 |some (o,e)=>Nat.beq o p||Nat.beq k e
structure HWF(h:b_):Prop where
 b:∀p c f k,h.S.c_ p=some (.a c f k)->match h.Q.c_ f with
  |none=>f=p
  |some (_,e)=>k<=e
 a:∀p,h.i<=p->h.S.c_ p=none/\h.Q.c_ p=none
def l?:Nat->LoopState
 |0=>.ready
 |1=>.busy
 |2=>.done
 |_=>.exhausted
def ju:Ex->Code
 |.a=>.skip
 |.d=>.ret
 |.c id=>.exit id
 |.b l=>.goto l
def O?(m:M)(h:b_)(p:Nat)(loc:V1)(w:World):Y8->Prop
 |.a c f k=>rd h p f k=true->∃C elem fz,w.heap[loc.a]? =some (.cells C elem fz)/\loc.b+loc.c<=C.size/\c.length<=loc.c/\
  (∀(i:Nat) v,c[i]? =some v->∃x,C[loc.b+i]? =some x/\m_ m v x)/\
  (∀i:Nat,i<loc.c->¬(fz.1<=loc.b+i/\loc.b+i<fz.2))
 |.f es clock=>∃es',w.heap[loc.a]? =some (.map (List.toArray es') clock)/\es'.length=es.length/\
  ∀(i:Nat) k v n,es[i]? =some (k,v,n)->∃e:MapEntry,es'[i]? =some e/\m_ m k e.key/\m_ m v e.val/\e.born=n
 |.b ps as bd env st pend=>∃g,loc.d=some g/\g.b=ps/\g.c=as/\g.d=bd/\w.heap[loc.a]? =some (.loop {g.r with state:=l? st,pending:=pend.map ju})/\
  ∀s v,env.c_ s=some v->s=U7\/(g.a.contains s=true/\m_ m v (g.r.tmps.getD s undef))
 |.e s pos=>loc.b=0/\w.heap[loc.a]? =some (.stringIter ⟨s.toArray⟩ pos)
 |.d=>True
structure r_(m:M)(h:b_)(w:World):Prop where
 g:HWF h
 d:∀p loc,m p=some loc->∃b,h.S.c_ p=some b/\O? m h p loc w b
 a:∀p loc,m p=some loc->loc.a<w.heap.size
 c:∀p q lp lq,m p=some lp->m q=some lq->lp.a=lq.a->p≠q->
  ∃cp cq f kp kq,h.S.c_ p=some (.a cp f kp)/\h.S.c_ q=some (.a cq f kq)/\
   (∀e,h.Q.c_ f=some (q,e)->lp.b+cp.length<=lq.b+cq.length)
def Y9(m:M)(b i:Nat):Prop:=∃p loc,m p=some loc/\loc.a=b/\loc.b<=i/\i<loc.b+loc.c
def T6(m:M)(b:Nat)(o o':Option Obj):Prop:=∀x,o=some x->∃x',o'=some x'/\match x,x' with
 |.cells c t fr,.cells c' t' fr'=>t'=t/\fr'=fr/\c'.size=c.size/\∀j:Nat,¬Y9 m b j->c'[j]? =c[j]?
 |.map _ _,.map _ _=>True
 |.loop _,.loop _=>True
 |.stringIter _ _,.stringIter _ _=>True
 |x,x'=>x'=x
theorem T6.b(m:M)(b:Nat)(o:Option Obj):T6 m b o o:=fun x h=>⟨x,h,by cases x<;>simp⟩
theorem T6.a{m:M}{b:Nat}{o o':Option Obj}(e:o'=o):T6 m b o o':=e▸T6.b m b o
theorem T6.c{m ab:M}{b:Nat}{o K Z:Option Obj}(hc:∀j,Y9 ab b j->Y9 m b j)(a:T6 m b o K)(d:T6 ab b K Z):T6 m b o Z:=by
 intro x hx;let⟨x1,h1,a⟩:=a x hx;let⟨x2,h2,d⟩:=d x1 h1;refine⟨x2,h2,?_⟩;cases x with
 |cells c t fr=>
  cases x1 with
  |cells c1 t1 f1=>
   cases x2 with
   |cells c2 t2 f2=>let⟨a1,a2,a3,a4⟩:=a;let⟨d1,d2,d3,d4⟩:=d;exact⟨d1.trans a1,d2.trans a2,d3.trans a3,fun j hj=>(d4 j fun x=>hj (hc j x)).trans (a4 j hj)⟩
   |_=>simp at d
  |_=>simp at a
 |map es k=>
  cases x1 with
  |map es1 k1=>
   cases x2 with
   |map es2 k2=>trivial
   |_=>simp at d
  |_=>simp at a
 |loop r=>
  cases x1 with
  |loop r1=>
   cases x2 with
   |loop r2=>trivial
   |_=>simp at d
  |_=>simp at a
 |stringIter s p=>
  cases x1 with
  |stringIter s1 p1=>
   cases x2 with
   |stringIter s2 p2=>trivial
   |_=>simp at d
  |_=>simp at a
 |_=>simp at a;subst a;simpa using d
structure P9(m:M)(h:b_)(w:World)(m':M)(h':b_)(w':World):Prop where
 j:Le m m'
 k:∀p loc,m' p=some loc->m p=none->h.i<=p/\(w.heap.size<=loc.a\/∃q lq,m q=some lq/\lq.a=loc.a)
 f:h.i<=h'.i
 l:∀p,m p=none->p<h.i->h'.S.c_ p=h.S.c_ p
 c:w.heap.size<=w'.heap.size
 e:∀b,(∀p loc,m p=some loc->loc.a≠b)->b<w.heap.size->w'.heap[b]? =w.heap[b]?
 s:w'.os=w.os
 g:w'.tape=w.tape
 d:w'.output=w.output
 o:∀b i,b<w.heap.size->Y9 m' b i->Y9 m b i
 n:∀b,b<w.heap.size->T6 m b w.heap[b]? w'.heap[b]?
 r:∀p loc,m' p=some loc->m p=none->loc.d=none
theorem P9.b(m:M)(h:b_)(w:World):P9 m h w m h w:=
 ⟨fun _ _ x=>x,fun _ _ a b=>by simp[a]at b,Ve _,fun _ _ _=>rfl,Ve _,fun _ _ _=>rfl,rfl,rfl,rfl,fun _ _ _ x=>x,fun _ _=>T6.b _ _ _,fun _ _ a b=>by simp[a]at b⟩
theorem P9.a{m m₁ m₂:M}{h h₁ h₂:b_}{w w₁ w₂:World}(a:P9 m h w m₁ h₁ w₁)(b:P9 m₁ h₁ w₁ m₂ h₂ w₂):P9 m h w m₂ h₂ w₂ where
 j:=fun p loc x=>b.j _ _ (a.j _ _ x)
 k:=fun p loc h2 h0=>by
  cases h1:m₁ p with
  |some l1=>have e:=b.j _ _ h1;rw[e]at h2;cases h2;exact a.k _ _ h1 h0
  |none=>
   let⟨n1,n2⟩:=b.k _ _ h2 h1;refine⟨Nat.le_trans a.f n1,?_⟩;obtain n2|⟨q,lq,hq,e⟩:=n2;exact .inl (Nat.le_trans a.c n2);cases hq0:m q with
   |some l0=>have e0:=a.j _ _ hq0;rw[hq]at e0;cases e0;exact .inr ⟨q,lq,hq0,e⟩
   |none=>obtain s|⟨r,lr,hr,e2⟩:=(a.k _ _ hq hq0).2;exact .inl (e▸s);grind
 f:=Nat.le_trans a.f b.f
 l:=fun p h0 hp=>by
  cases h1:m₁ p with
  |some l1=>have:=(a.k _ _ h1 h0).1;omega
  |none=>exact(b.l p h1 (Nat.lt_of_lt_of_le hp a.f)).trans (a.l p h0 hp)
 c:=Nat.le_trans a.c b.c
 e:=fun c h0 hc=>by
  refine(b.e c (fun p loc hp he=>?_) (Nat.lt_of_lt_of_le hc a.c)).trans (a.e c h0 hc);cases hp0:m p with
  |some l0=>have e0:=a.j _ _ hp0;rw[hp]at e0;cases e0;exact h0 p loc hp0 he
  |none=>obtain s|⟨r,lr,hr,e2⟩:=(a.k _ _ hp hp0).2;omega;grind
 s:=b.s.trans a.s
 g:=b.g.trans a.g
 d:=b.d.trans a.d
 o:=fun c i hc x=>a.o c i hc (b.o c i (Nat.lt_of_lt_of_le hc a.c) x)
 r:=fun p loc h2 h0=>by
  cases h1:m₁ p with
  |some l1=>have e:=b.j _ _ h1;rw[e]at h2;cases h2;exact a.r _ _ h1 h0
  |none=>exact b.r _ _ h2 h1
 n:=fun c hc=>(a.n c hc).c (fun j x=>a.o c j hc x) (b.n c (Nat.lt_of_lt_of_le hc a.c))
theorem iW(b o n:Nat):Addr.add ⟨b,o,none⟩ n=⟨b,o+n,none⟩:=by unfold Addr.add;split;grind;rfl
theorem BU(x:Value):sP x=x.oneCell':=by cases x<;>rfl
structure T?(g lo:Nat)(vs:List Value)(w w':World):Prop where
 e:∀cur t fz,w.heap[g]? =some (.cells cur t fz)->∃cur',w'.heap[g]? =some (.cells cur' t fz)/\cur'.size=cur.size/\
  ∀j:Nat,cur'[j]? =if lo<=j/\j<lo+vs.length then(if j<cur.size then vs[j-lo]? else none)else cur[j]?
 a:∀k,k≠g->w'.heap[k]? =w.heap[k]?
 c:w'.heap.size=w.heap.size
 f:w'.os=w.os
 d:w'.tape=w.tape
 b:w'.output=w.output
theorem kP(P:Program)(g o:Nat)(t:TypeId)(fz:Nat×Nat):∀(vs:List Value)(i:Nat)(Z:Array Value)(w:World),
 w.heap[g]? =some (.cells Z t fz)->o+i+vs.length<=Z.size->(∀j:Nat,j<vs.length->¬(fz.1<=o+i+j/\o+i+j<fz.2))->
 (∀v∈vs,sP v=true)->∃w',(storeCells ⟨g,o,none⟩ vs i).run P w=.ok () w'/\T? g (o+i) vs w w':=by
 intro vs;induction vs with
 |nil=>intro i Z w hg _ _ _;refine⟨w,rfl,⟨fun c t' f' h=>⟨c,h,rfl,fun j=>by simp;intro a b;omega⟩,fun _ _=>rfl,rfl,rfl,rfl,rfl⟩⟩
 |cons v vs ih=>
  intro i Z w hg aj ac K;simp only[Vy]at aj;have af:o+i<Z.size:=oM;have ab:w.cell? ⟨g,o+i,none⟩=some Z[o+i]:=by rw[cell_of_row w g (o+i) Z t fz hg];simp
  have ak:w.frozen? ⟨g,o+i,none⟩=false:=by have:=ac 0 iS;simp only[World.frozen?,hg];simp only[Xm]at this;cases h1:decide (fz.1<=o+i)<;>simp_all
  have hv:v.oneCell'=true:=by rw[<-BU];exact K v iS
  have ae:(w.setCell ⟨g,o+i,none⟩ v).heap[g]? =some (.cells (Z.setIfInBounds (o+i) v) t fz):=by simp only[World.setCell,Array.getElem?_modify,hg];simp
  let⟨w',hr,an⟩:=ih (i+1) (Z.setIfInBounds (o+i) v) (w.setCell ⟨g,o+i,none⟩ v) ae oO
   (fun j hj=>by have:=ac (j+1) oO;rwa[(oM:o+i+(j+1)=o+(i+1)+j)]at this) (fun u hu=>K u iX)
  refine⟨w',?_,?_⟩;unfold storeCells;simp only[Vr,iW,run_store P w _ v .plain hv,ab,ak];simpa using hr;refine⟨?_,fun k hk=>(an.a k hk).trans (heap_setCell_other w _ k v hk),an.c.trans iS,an.f,an.d,an.b⟩;intro c t' f' hc;rw[hg]at hc;cases hc;let⟨ar,h1,h2,h3⟩:=an.e _ _ _ ae;refine⟨ar,h1,h2.trans iS,fun j=>?_⟩;rw[h3 j];simp only[Array.size_setIfInBounds,Vy];by_cases hj:j=o+i;grind;grind
def gJ(l:List V):Nat->List V:=
 List.rec (motive:=fun _=>Nat->List V) (fun _=>[]) (fun x xs ih o=>Nat.rec (motive:=fun _=>List V) (x::xs) (fun j _=>ih j) o) l
theorem bR(l:List V)(o:Nat):gJ l o=l.drop o:=by
 induction l generalizing o with
 |nil=>cases o<;>rfl
 |cons x xs ih=>cases o with
  |zero=>rfl
  |succ o=>exact(ih o).trans iS
def dL(n:Nat):List V->Option (List V):=
 Nat.rec (motive:=fun _=>List V->Option (List V)) (fun _=>some [])
  (fun _ ih l=>List.rec (motive:=fun _=>Option (List V)) none (fun x xs _=>Option.rec (motive:=fun _=>Option (List V)) none (fun r=>some (x::r)) (ih xs)) l) n
theorem nW(l:List V):dL 0 l=some []:=rfl
theorem Es(n:Nat):dL (n+1) []=none:=rfl
theorem fT(n:Nat)(x:V)(xs:List V):dL (n+1) (x::xs)=(dL n xs).map (x:: ·):=by show Option.rec (motive:=fun _=>Option (List V)) none (fun r=>some (x::r)) (dL n xs)=_;cases dL n xs<;>rfl
theorem kL{n:Nat}:∀{l r:List V},dL n l=some r->r=l.take n/\n<=l.length:=by
 induction n with
 |zero=>intro l r h;cases h;simp
 |succ n ih=>
  intro l r h;cases l with
  |nil=>rw[Es]at h;cases h
  |cons x xs=>
   rw[fT]at h;cases Z:dL n xs with
   |none=>rw[Z]at h;cases h
   |some y=>rw[Z]at h;cases h;obtain⟨rfl,K⟩:=ih Z;exact⟨iS,by simp;omega⟩
def dW(h:b_)(b:Nat):Option (List V):=
 match h.S.c_ b with
 |some (.a c f k)=>bif rd h b f k then some c else none
 |_=>none
def aq(h:b_)(b o n:Nat):Option (List V):=
 match dW h b with
 |some c=>dL n (gJ c o)
 |none=>none
def ag(h:b_)(b o:Nat):Option V:=
 match dW h b with
 |some c=>X0 c o
 |none=>none
theorem qj{h:b_}{b:Nat}{c:List V}(x:dW h b=some c):∃f k,h.S.c_ b=some (.a c f k)/\rd h b f k=true:=by unfold dW at x;split at x;grind;cases x
theorem r_.y{m:M}{h:b_}{w:World}(H:r_ m h w){b o:Nat}{Z:V1}{c:List V}{v:V}(hm:m b=some Z)(hc:dW h b=some c)(hv:c[o]? =some v):
 ∃x,w.cell? ⟨Z.a,Z.b+o,none⟩=some x/\m_ m v x:=by
 let⟨f,k,hg,hr⟩:=qj hc;let⟨bk,K,rel⟩:=H.d b Z hm;rw[hg]at K;cases K;let⟨C,el,fz,h1,_,_,h4,_⟩:=rel hr;let⟨x,hx,r⟩:=h4 o v hv;exact⟨x,by rw[cell_of_row w _ _ C el fz h1];exact hx,r⟩
theorem r_.s{m:M}{h:b_}{w:World}(H:r_ m h w){b o:Nat}{Z:V1}{v:V}(hm:m b=some Z)(K:ag h b o=some v):
 ∃x,w.cell? ⟨Z.a,Z.b+o,none⟩=some x/\m_ m v x:=by
 unfold ag at K;cases hc:dW h b with
 |none=>rw[hc]at K;cases K
 |some c=>rw[hc]at K;exact H.y hm hc (by rw[<-gN];exact K)
theorem r_.h{m:M}{h:b_}{w:World}(H:r_ m h w)(P:Program){b o n:Nat}{Z:V1}{vs:List V}(hm:m b=some Z)(K:aq h b o n=some vs):
 ∃xs,(loadCells ⟨Z.a,Z.b+o,none⟩ n).run P w=.ok (List.toArray xs) w/\h_ m vs xs/\vs.length=n:=by
 unfold aq at K;cases hc:dW h b with
 |none=>rw[hc]at K;cases K
 |some c=>
  rw[hc]at K;simp at K;obtain⟨rfl,hn⟩:=kL K;rw[bR]at *;have ab:(List.take n (List.drop o c)).length=n:=by grind
  have cell:∀i:Nat,i<n->∃x,w.cell? ⟨Z.a,Z.b+o+i,none⟩=some x/\∀v,(List.take n (List.drop o c))[i]? =some v->m_ m v x:=by
   intro i hi;have af:o+i<c.length:=by simp at hn;omega
   let⟨x,hx,r⟩:=H.y hm hc (o:=o+i) (v:=c[o+i]) iX;refine⟨x,by rw[WJ];exact hx,fun v hv=>?_⟩;have:v=c[o+i]:=by grind
   rw[this];exact r
  let xs:List Value:=(List.range n).map fun i=>((w.cell? ⟨Z.a,Z.b+o+i,none⟩).getD undef);have ae:xs.length=n:=by simp[xs]
  have ac:∀(j:Nat) x,xs[j]? =some x->w.cell? ⟨Z.a,Z.b+o+j,none⟩=some x:=by grind
  refine⟨xs,?_,h_.aq oM ?_,ab⟩;have:=run_loadCells_list (P:=P) w ⟨Z.a,Z.b+o,none⟩ xs (fun j x hx=>by rw[iW];exact ac j x hx);rw[ae]at this;exact this;grind
def bq(l:List V):Nat->List V->Option (List V):=
 List.rec (motive:=fun _=>Nat->List V->Option (List V))
  (fun _ vs=>List.rec (motive:=fun _=>Option (List V)) (some []) (fun _ _ _=>none) vs)
  (fun x xs ih i vs=>Nat.rec (motive:=fun _=>Option (List V))
   (List.rec (motive:=fun _=>Option (List V)) (some (x::xs)) (fun v vs _=>Option.rec (motive:=fun _=>Option (List V)) none (fun r=>some (v::r)) (ih 0 vs)) vs)
   (fun j _=>Option.rec (motive:=fun _=>Option (List V)) none (fun r=>some (x::r)) (ih j vs)) i) l
theorem C7{α β:Type}(f:α->β)(o:Option α):Option.rec (motive:=fun _=>Option β) none (fun r=>some (f r)) o=o.map f:=by cases o<;>rfl
theorem jB(i:Nat):bq [] i []=some []:=rfl
theorem ny(i:Nat)(v:V)(vs:List V):bq [] i (v::vs)=none:=rfl
theorem dQ(x:V)(l:List V):bq (x::l) 0 []=some (x::l):=rfl
theorem aY(x:V)(l:List V)(v:V)(vs:List V):bq (x::l) 0 (v::vs)=(bq l 0 vs).map (v:: ·):=C7 _ _
theorem bM(x:V)(l:List V)(i:Nat)(vs:List V):bq (x::l) (i+1) vs=(bq l i vs).map (x:: ·):=C7 _ _
theorem wb:∀(l:List V)(i:Nat)(vs r:List V),bq l i vs=some r->
 r.length=l.length/\(vs≠[]->i+vs.length<=l.length)/\∀j:Nat,r[j]? =if i<=j/\j<i+vs.length then vs[j-i]? else l[j]? :=by
 intro l;induction l with
 |nil=>
  intro i vs r h;cases vs with
  |nil=>rw[jB]at h;cases h;simp
  |cons v vs=>rw[ny]at h;cases h
 |cons x l ih=>
  intro i vs r h;cases i with
  |zero=>
   cases vs with
   |nil=>rw[dQ]at h;cases h;simp
   |cons v vs=>
    rw[aY]at h;cases Z:bq l 0 vs with
    |none=>rw[Z]at h;cases h
    |some q=>rw[Z]at h;cases h;let⟨a,b,c⟩:=ih 0 vs q Z;refine⟨by simp[a],fun _=>?_,fun j=>?_⟩;grind;grind
  |succ i=>
   rw[bM]at h;cases Z:bq l i vs with
   |none=>rw[Z]at h;cases h
   |some q=>
    rw[Z]at h;cases h;let⟨a,b,c⟩:=ih i vs q Z;refine⟨by simp[a],fun K=>by have:=b K;simp;omega,fun j=>?_⟩;cases j with
    |zero=>simp
    |succ j=>have:=c j;simp only[XI,this];by_cases hc:i<=j/\j<i+vs.length;grind;grind
def dD(h:b_)(b o:Nat)(vs:List V):Option b_:=
 match h.S.c_ b with
 |some (.a c f k)=>
  bif aw vs then
   match bq c o vs with
   |some c'=>
    match h.Q.c_ f with
    |none=>some ⟨h.S.B_ b (.a c' f k),h.i,h.Q⟩
    |some (ow,e)=>bif Nat.beq ow b then some ⟨h.S.B_ b (.a c' f k),h.i,h.Q.B_ f (ow,e+1)⟩else none
   |none=>none
  else none
 |_=>none
theorem AF{h Z:b_}{b o:Nat}{vs:List V}(x:dD h b o vs=some Z):∃c f k c',h.S.c_ b=some (.a c f k)/\aw vs=true/\bq c o vs=some c'/\
 Z.S=h.S.B_ b (.a c' f k)/\Z.i=h.i/\
 ((h.Q.c_ f=none/\Z.Q=h.Q)\/∃e,h.Q.c_ f=some (b,e)/\Z.Q=h.Q.B_ f (b,e+1)):=by
 unfold dD at x;split at x;rename_i c f k hg;cases ho:aw vs;simp[ho]at x;simp[ho]at x;split at x;rename_i c' hu;split at x;grind;rename_i ow e hf;cases K:Nat.beq ow b;simp[K]at x;simp only[K,cond_true]at x;cases x;have:ow=b:=Vf K;subst this;exact⟨c,f,k,c',hg,rfl,hu,rfl,rfl,.inr ⟨e,hf,rfl⟩⟩;cases x;cases x
theorem pF{h:b_}{b f k:Nat}(x:h.Q.c_ f=none\/∃e,h.Q.c_ f=some (b,e)):rd h b f k=true:=by unfold rd;obtain x|⟨e,x⟩:=x<;>rw[x];show(Nat.beq b b||_)=true;have:Nat.beq b b=true:=WO b;rw[this];rfl
theorem Ha{h h':b_}(W:HWF h){b f p:Nat}{cp:List V}{fp kp:Nat}{c:List V}{k:Nat}
 (hb:h.S.c_ b=some (.a c f k)) (hp:h.S.c_ p=some (.a cp fp kp)) (ab:p≠b)
 (hf:(h.Q.c_ f=none/\h'.Q=h.Q)\/∃e,h.Q.c_ f=some (b,e)/\h'.Q=h.Q.B_ f (b,e+1))
 (Z:rd h' p fp kp=true):fp≠f/\rd h p fp kp=true:=by
 obtain⟨hn,he⟩|⟨e,hs,he⟩:=hf;have K:fp≠f:=by intro e;subst e;have h1:=W.b _ _ _ _ hb;have h2:=W.b _ _ _ _ hp;rw[hn]at h1 h2;simp at h1 h2;omega
 exact⟨K,by unfold rd at *;rw[he]at Z;exact Z⟩;have K:fp≠f:=by intro q;subst q;unfold rd at Z;rw[he,T.N_]at Z;have h2:=W.b _ _ _ _ hp;rw[hs]at h2;simp at h2;simp only[WT]at Z;obtain Z|Z:=Z;have:=Vf Z;omega;have:=Vf Z;omega
 exact⟨K,by unfold rd at *;rw[he,T.x_ _ _ K]at Z;exact Z⟩
theorem wJ{vs:List V}{xs:List Value}{m:M}(h:aw vs=true)(r:h_ m vs xs):∀x∈xs,sP x=true:=by
 intro x K;let⟨i,hi,he⟩:=List.getElem_of_mem K;have hl:=r.T;have Z:i<vs.length:=oM;let⟨y,hy,ry⟩:=r.c_ i vs[i] iX;have:y=x:=by grind
 subst this;exact ry.O (Wo.1 h _ (List.getElem_mem Z))
theorem r_.i{m:M}{h h':b_}{w:World}(H:r_ m h w)(P:Program){b o:Nat}{Z:V1}{vs:List V}{xs:List Value}(hm:m b=some Z)
 (hs:dD h b o vs=some h') (hv:h_ m vs xs):
 ∃w',(storeCells ⟨Z.a,Z.b+o,none⟩ xs).run P w=.ok () w'/\r_ m h' w'/\P9 m h w m h' w':=by
 let⟨c,f,k,c',hg,h1,hu,bc,hnx,hf⟩:=AF hs;let⟨ul,ub,ug⟩:=wb _ _ _ _ hu;have a4:rd h b f k=true:=pF (by obtain⟨a,_⟩|⟨e,a,_⟩:=hf<;>simp[a])
 let⟨bk,hb,rel⟩:=H.d b Z hm;rw[hg]at hb;cases hb;let⟨C,el,fz,hC,bt,bw,bv,bo⟩:=rel a4;have a9:=hv.T;have ak:xs≠[]->o+xs.length<=c.length:=by grind
 obtain⟨w',aH,ab⟩:∃w',(storeCells ⟨Z.a,Z.b+o,none⟩ xs).run P w=.ok () w'/\T? Z.a (Z.b+o) xs w w':=by
  cases xs with
  |nil=>exact⟨w,rfl,⟨fun a3 t f' e=>⟨a3,e,rfl,fun j=>by simp;intro a b;omega⟩,fun _ _=>rfl,rfl,rfl,rfl,rfl⟩⟩
  |cons y ys=>
   have a7:=ak iS;exact kP P Z.a (Z.b+o) el fz (y::ys) 0 C w hC oM
    (fun j hj=>by have:=bo (o+j) oM;rwa[(oM:Z.b+(o+j)=Z.b+o+0+j)]at this) (wJ h1 hv)
 refine⟨w',aH,?_,?_⟩;refine⟨?_,?_,?_,?_⟩;refine⟨?_,?_⟩;intro p cp fp kp hp;rw[bc,T.S1]at hp;have key:∀cq,h.S.c_ p=some (.a cq fp kp)->match h'.Q.c_ fp with|none=>fp=p|some (_,e)=>kp<=e:=by intro cq hq;have:=H.g.b _ _ _ _ hq;obtain⟨_,he⟩|⟨e,ay,he⟩:=hf;rw[he];exact this;rw[he,T.S1];by_cases ar:fp=f;grind;grind
 by_cases K:p=b;grind;grind;intro p hp;rw[hnx]at hp;have an:=H.g.a p hp;have K:p≠b:=by grind
 refine⟨by rw[bc,T.x_ _ _ K];exact an.1,?_⟩;obtain⟨_,he⟩|⟨e,ay,he⟩:=hf;rw[he];exact an.2;rw[he,T.x_];exact an.2;grind;intro p lp hp;by_cases K:p=b;subst K;rw[hm]at hp;cases hp;refine⟨.a c' f k,by rw[bc,T.N_],fun _=>?_⟩;let⟨C',bi,bn,bh⟩:=ab.e _ _ _ hC;refine⟨C',el,fz,bi,oM,oM,?_,bo⟩;intro i v hi;rw[ug i]at hi;rw[bh (Z.b+i)];by_cases hc:o<=i/\i<o+vs.length;rw[if_pos hc]at hi;let⟨x,hx,r⟩:=hv.c_ _ _ hi;have:i<c.length:=by grind
 refine⟨x,?_,r⟩;rw[if_pos oM,if_pos oM,(oM:Z.b+i-(Z.b+o)=i-o)];exact hx;grind;let⟨bp,bg,bf⟩:=H.d p lp hp;refine⟨bp,by rw[bc,T.x_ _ _ K];exact bg,?_⟩;cases bp with
 |a cp fp kp=>
  intro hr;let⟨ar,br⟩:=Ha H.g hg bg K hf hr;have aj:lp.a≠Z.a:=by intro e;let⟨ae,af,f',bm,bj,ha,ac,_⟩:=H.c p b lp Z hp hm e K;rw[bg]at ha;cases ha;rw[hg]at ac;cases ac;exact ar rfl
  have:=bf br;rw[ab.a _ aj];exact this
 |f es clock=>
  have aj:lp.a≠Z.a:=by intro e;let⟨ae,af,f',bm,bj,ha,ac,_⟩:=H.c p b lp Z hp hm e K;rw[bg]at ha;cases ha
  show∃ba,w'.heap[lp.a]? =_/\_;rw[ab.a _ aj];exact bf
 |b ps as bd en st pend=>
  have aj:lp.a≠Z.a:=by intro e;let⟨ae,af,f',bm,bj,ha,ac,_⟩:=H.c p b lp Z hp hm e K;rw[bg]at ha;cases ha
  let⟨g,q1,q2,q3,q4,q5,q6⟩:=bf;exact⟨g,q1,q2,q3,q4,(ab.a _ aj).trans q5,q6⟩
 |e s pos=>
  have aj:lp.a≠Z.a:=by intro e;let⟨ae,af,f',bm,bj,ha,ac,_⟩:=H.c p b lp Z hp hm e K;rw[bg]at ha;cases ha
  exact⟨bf.1,(ab.a _ aj).trans bf.2⟩
 |d=>trivial
 intro p lp hp;rw[ab.c];exact H.a p lp hp;intro p q lp lq hp hq he a1;let⟨cp,cq,f',kp,kq,ha,ac,hl⟩:=H.c p q lp lq hp hq he a1;have fin:∀ae af:List V,ae.length=cp.length->af.length=cq.length->h'.S.c_ p=some (.a ae f' kp)->h'.S.c_ q=some (.a af f' kq)->
  ∃cp cq f kp kq,h'.S.c_ p=some (.a cp f kp)/\h'.S.c_ q=some (.a cq f kq)/\(∀e,h'.Q.c_ f=some (q,e)->lp.b+cp.length<=lq.b+cq.length):=by
  intro ae af e1 e2 g1 g2;refine⟨ae,af,f',kp,kq,g1,g2,fun e a6=>?_⟩;rw[e1,e2];obtain⟨_,a2⟩|⟨e',ay,a2⟩:=hf;grind;rw[a2,T.S1]at a6;by_cases ar:f'=f;grind;grind
 by_cases K:p=b;subst K;rw[hg]at ha;cases ha;exact fin c' cq ul rfl (by rw[bc,T.N_]) (by rw[bc,T.x_ _ _ (WW a1)];exact ac);by_cases a0:q=b;subst a0;rw[hg]at ac;cases ac;exact fin cp c' rfl ul (by rw[bc,T.x_ _ _ K];exact ha) (by rw[bc,T.N_]);exact fin cp cq rfl rfl (by rw[bc,T.x_ _ _ K];exact ha) (by rw[bc,T.x_ _ _ a0];exact ac);refine⟨fun _ _ x=>x,fun _ _ a b=>by simp[a]at b,by rw[hnx];exact Ve _,?_,by rw[ab.c];exact Ve _,?_,ab.f,ab.d,ab.b,fun _ _ _ x=>x,?_,fun _ _ a b=>by simp[a]at b⟩;intro p hp _;have K:p≠b:=by grind
 rw[bc,T.x_ _ _ K];intro g a5 _;exact ab.a g (fun e=>a5 b Z hm e.symm);intro g a8;by_cases ax:g=Z.a;subst ax;let⟨C',bi,bn,bh⟩:=ab.e _ _ _ hC;intro x hx;rw[hC]at hx;cases hx;refine⟨_,bi,rfl,rfl,bn,fun j hj=>?_⟩;rw[bh j];by_cases hc:Z.b+o<=j/\j<Z.b+o+xs.length;exfalso;have:=ak (by intro e;subst e;simp at hc;omega);exact hj ⟨b,Z,hm,rfl,oM,oM⟩;rw[if_neg hc];exact T6.a (ab.a g ax)
theorem r_.r{m:M}{h:b_}{w w':World}(H:r_ m h w)(e:w'.heap=w.heap):r_ m h w':=by
 refine⟨H.g,fun p Z K=>?_,fun p Z K=>by rw[e];exact H.a p Z K,H.c⟩;let⟨b,hb,r⟩:=H.d p Z K;refine⟨b,hb,?_⟩;cases b with
 |a c f k=>intro hr;rw[e];exact r hr
 |f es clock=>show∃ab,w'.heap[Z.a]? =_/\_;rw[e];exact r
 |b ps as bd en st pend=>let⟨g,q1,q2,q3,q4,q5,q6⟩:=r;exact⟨g,q1,q2,q3,q4,by rw[e];exact q5,q6⟩
 |e s pos=>exact⟨r.1,by rw[e];exact r.2⟩
 |d=>trivial
theorem P9.h(m:M)(h:b_)(w:World):P9 m h w m h w.drew:=
 ⟨fun _ _ x=>x,fun _ _ a b=>by simp[a]at b,Ve _,fun _ _ _=>rfl,Ve _,fun _ _ _=>rfl,rfl,rfl,rfl,fun _ _ _ x=>x,fun _ _=>T6.b _ _ _,fun _ _ a b=>by simp[a]at b⟩
def eU(m:M)(p:Nat)(loc:V1):M:=fun q=>if q=p then some loc else m q
theorem aB(m:M)(p:Nat)(loc:V1):eU m p loc p=some loc:=if_pos rfl
theorem aJ(m:M){p q:Nat}(loc:V1)(h:q≠p):eU m p loc q=m q:=if_neg h
theorem r_.b{m:M}{h:b_}{w:World}(H:r_ m h w){p:Nat}(hp:h.i<=p):m p=none:=by
 cases K:m p with
 |none=>rfl
 |some loc=>let⟨b,Z,_⟩:=H.d p loc K;rw[(H.g.a p hp).1]at Z;cases Z
theorem r_.f{m:M}{h:b_}{w:World}(H:r_ m h w)(K:V1):Le m (eU m h.i K):=by intro p l Z;rw[aJ];exact Z;intro e;subst e;rw[H.b (Ve _)]at Z;cases Z
theorem Y9.d{n:Nat}(m:M)(p:Nat)(Z:V1)(h:Z.a=n):∀b i,b<n->Y9 (eU m p Z) b i->Y9 m b i:=by rintro b i hb ⟨q,l,K,h1,h2,h3⟩;by_cases e:q=p;subst e;rw[aB]at K;cases K;omega;rw[aJ _ _ e]at K;exact⟨q,l,K,h1,h2,h3⟩
def k_(h:b_)(c:List V):b_:=⟨h.S.B_ h.i (.a c h.i 0),h.i+1,h.Q⟩
theorem O?.ag{m m':M}(Z:Le m m'){h h':b_}{p:Nat}{K:V1}{w w':World}{b:Y8}(r:O? m h p K w b)
 (hr:∀c f k,b=.a c f k->rd h' p f k=true->rd h p f k=true) (hw:w'.heap[K.a]? =w.heap[K.a]?):O? m' h' p K w' b:=by
 cases b with
 |a c f k=>intro ab;let⟨C,el,fz,a,b,c',d,e⟩:=r (hr c f k rfl ab);exact⟨C,el,fz,hw.trans a,b,c',fun i v hi=>let⟨x,hx,rx⟩:=d i v hi;⟨x,hx,m_.ag Z _ _ rx⟩,e⟩
 |f es clock=>let⟨ac,a,b,c⟩:=r;refine⟨ac,hw.trans a,b,fun i k v n hi=>?_⟩;let⟨e,he,r1,r2,r3⟩:=c i k v n hi;exact⟨e,he,m_.ag Z _ _ r1,m_.ag Z _ _ r2,r3⟩
 |b ps as bd en st pend=>let⟨g,q1,q2,q3,q4,q5,q6⟩:=r;exact⟨g,q1,q2,q3,q4,hw.trans q5,fun s v hs=>(q6 s v hs).imp id fun q=>⟨q.1,m_.ag Z _ _ q.2⟩⟩
 |e s pos=>exact⟨r.1,hw.trans r.2⟩
 |d=>trivial
theorem pK{m:M}{p:Nat}{Z:V1}(h:Z.d=none):∀q l,eU m p Z q=some l->m q=none->l.d=none:=by intro q l K hn;by_cases e:q=p;subst e;rw[aB]at K;cases K;exact h;rw[aJ _ _ e,hn]at K;cases K
theorem r_.q{m:M}{h:b_}{w:World}(H:r_ m h w)(c:List V)(X:Array Value)(elem:TypeId)(ac:c.length<=X.size)
 (hr:∀(i:Nat) v,c[i]? =some v->∃x,X[i]? =some x/\m_ m v x):
 r_ (eU m h.i ⟨w.heap.size,0,X.size,none⟩) (k_ h c) (w.alloc (.cells X elem))/\
 P9 m h w (eU m h.i ⟨w.heap.size,0,X.size,none⟩) (k_ h c) (w.alloc (.cells X elem)):=by
 have ab:=H.f ⟨w.heap.size,0,X.size,none⟩;have af:∀p K,m p=some K->p≠h.i:=fun p K Z e=>by subst e;rw[H.b (Ve _)]at Z;cases Z
 refine⟨⟨⟨?_,?_⟩,?_,?_,?_⟩,⟨ab,?_,YJ _,?_,iS,?_,rfl,rfl,rfl,Y9.d m _ _ rfl,fun b hb=>T6.a (heap_alloc_old w _ _ hb),pK rfl⟩⟩;intro p cp f k Z;show match h.Q.c_ f with|none=>f=p|some (_,e)=>k<=e
 rw[k_,T.S1]at Z;by_cases e:p=h.i;grind;rw[if_neg e]at Z;exact H.g.b _ _ _ _ Z;intro p Z;have aj:h.i+1<=p:=Z;refine⟨?_,(H.g.a p oM).2⟩;rw[k_,T.x_ _ _ oM];exact(H.g.a p oM).1;intro p K Z;by_cases e:p=h.i;subst e;rw[aB]at Z;cases Z;refine⟨.a c h.i 0,by rw[k_,T.N_],fun _=>?_⟩;refine⟨X,elem,(0,0),heap_alloc_new w _,iS,ac,fun i v hi=>?_,fun i _=>by simp⟩;let⟨x,hx,rx⟩:=hr i v hi;exact⟨x,by simpa using hx,m_.ag ab _ _ rx⟩;rw[aJ _ _ e]at Z;let⟨b,hb,r⟩:=H.d p K Z;refine⟨b,by rw[k_,T.x_ _ _ e];exact hb,r.ag ab (fun _ _ _ _ x=>x) (heap_alloc_old w _ _ (H.a p K Z))⟩;intro p K Z;by_cases e:p=h.i;subst e;rw[aB]at Z;cases Z;simp;rw[aJ _ _ e]at Z;have:=H.a p K Z;simp;omega;intro p q lp lq Z hq he ae;by_cases e:p=h.i;subst e;rw[aB]at Z;cases Z;rw[aJ _ _ (WW ae)]at hq;have:=H.a q lq hq;simp at he;omega;rw[aJ _ _ e]at Z;by_cases e2:q=h.i;subst e2;rw[aB]at hq;cases hq;have:=H.a p lp Z;simp at he;omega;rw[aJ _ _ e2]at hq;let⟨cp,cq,f,kp,kq,a,b,d⟩:=H.c p q lp lq Z hq he ae;exact⟨cp,cq,f,kp,kq,by rw[k_,T.x_ _ _ e];exact a,by rw[k_,T.x_ _ _ e2];exact b,d⟩;intro p K Z hn;by_cases e:p=h.i;subst e;rw[aB]at Z;cases Z;exact⟨Ve _,.inl (Ve _)⟩;rw[aJ _ _ e]at Z;rw[Z]at hn;cases hn;intro p _ Z;rw[k_,T.x_ _ _ oM];intro b _ hb;exact heap_alloc_old w _ _ hb
def oW(h:b_)(b pos:Nat)(c':List V):Option b_:=
 match h.S.c_ b with
 |some (.a c f _)=>
  let go (e:Nat):Option b_:=some ⟨(h.S.B_ b (.a c f e)).B_ h.i (.a c' f 0),h.i+1,h.Q.B_ f (h.i,bif Nat.beq pos c.length then e else e+1)⟩;match h.Q.c_ f with
  |none=>go 0
  |some (ow,e)=>bif Nat.beq ow b then go e else none
 |_=>none
theorem AE{h h':b_}{b pos:Nat}{c':List V}(W:HWF h)(x:oW h b pos c'=some h'):∃c f k e e',h.S.c_ b=some (.a c f k)/\
 ((h.Q.c_ f=none/\f=b/\e=0)\/h.Q.c_ f=some (b,e))/\(e'=e/\pos=c.length\/e'=e+1)/\
 h'.S=(h.S.B_ b (.a c f e)).B_ h.i (.a c' f 0)/\h'.i=h.i+1/\h'.Q=h.Q.B_ f (h.i,e'):=by
 unfold oW at x;split at x;rename_i c f k hg;have K:∀e:Nat,(bif Nat.beq pos c.length then e else e+1)=e/\pos=c.length\/(bif Nat.beq pos c.length then e else e+1)=e+1:=by intro e;cases Z:Nat.beq pos c.length;right;rfl;left;exact⟨rfl,Vf Z⟩
 split at x;rename_i hf;cases x;refine⟨c,f,k,0,_,hg,.inl ⟨hf,?_,rfl⟩,K 0,rfl,rfl,rfl⟩;have:=W.b _ _ _ _ hg;rw[hf]at this;exact this;rename_i ow e hf;cases Z:Nat.beq ow b;simp[Z]at x;simp only[Z,cond_true]at x;cases x;have:ow=b:=Vf Z;subst this;exact⟨c,f,k,e,_,hg,.inr hf,K e,rfl,rfl,rfl⟩;cases x
theorem r_.u{m:M}{h h':b_}{w w':World}(H:r_ m h w){b o n:Nat}{Z:V1}{c' news:List V}{c:List V}{f k:Nat}{loc':V1}
 (hm:m b=some Z) (hg:h.S.c_ b=some (.a c f k)) (hs:oW h b (o+n) c'=some h')
 (a7:c'.length=n+news.length) (bV:o+n<=c.length) (bC:c.length<=o+n+news.length)
 (hnew:loc'.b+loc'.c<=loc'.b+loc'.c/\c'.length<=loc'.c)
 (a9:∃C' el fz',w'.heap[loc'.a]? =some (.cells C' el fz')/\loc'.b+loc'.c<=C'.size/\
  (∀(i:Nat) v,c'[i]? =some v->∃x,C'[loc'.b+i]? =some x/\m_ m v x)/\(∀i:Nat,i<loc'.c->¬(fz'.1<=loc'.b+i/\loc'.b+i<fz'.2)))
 (K:(loc'.a=w.heap.size/\(∀i,i<w.heap.size->w'.heap[i]? =w.heap[i]?))\/
  (loc'.a=Z.a/\loc'.b=Z.b+o/\(∀i,i≠Z.a->w'.heap[i]? =w.heap[i]?)/\
   ∀C el fz,w.heap[Z.a]? =some (.cells C el fz)->∃C',w'.heap[Z.a]? =some (.cells C' el fz)/\C'.size=C.size/\∀j:Nat,j<Z.b+(o+n)->C'[j]? =C[j]?))
 (a6:loc'.a=Z.a->loc'.b+loc'.c<=Z.b+Z.c/\∀C el fz C',w.heap[Z.a]? =some (.cells C el fz)->w'.heap[Z.a]? =some (.cells C' el fz)->∀j:Nat,Z.b+Z.c<=j->C'[j]? =C[j]?)
 (bw:w.heap.size<=w'.heap.size) (bv:loc'.a<w'.heap.size) (bh:w'.os=w.os) (bt:w'.tape=w.tape) (bc:w'.output=w.output) (bn:loc'.d=none:=by rfl):
 r_ (eU m h.i loc') h' w'/\P9 m h w (eU m h.i loc') h' w':=by
 let⟨c0,f0,k0,e,e',ba,cb,cn,ch,hnx,cj⟩:=AE H.g hs;rw[hg]at ba;cases ba;have ac:=H.f loc';have bg:b≠h.i:=fun x=>by subst x;rw[H.b (Ve _)]at hm;cases hm
 have bD:f<h.i:=by obtain q|q:=Wt f h.i;exact q;have ax:=H.g.a f q;obtain⟨_,rfl,_⟩|hf:=cb;rw[hg]at ax;simp at ax;rw[hf]at ax;simp at ax
 have a0:∀p cp kp,h.S.c_ p=some (.a cp f kp)->p≠b->h.Q.c_ f=some (b,e)/\kp<=e:=by intro p cp kp hp aj;have hw:=H.g.b _ _ _ _ hp;obtain⟨hn,a0,_⟩|hf:=cb;rw[hn]at hw;simp at hw;omega;rw[hf]at hw;exact⟨hf,hw⟩
 have gb:h'.S.c_ b=some (.a c f e):=by rw[ch,T.x_ _ _ bg,T.N_]
 have gn:h'.S.c_ h.i=some (.a c' f 0):=by rw[ch,T.N_]
 have go:∀p,p≠b->p≠h.i->h'.S.c_ p=h.S.c_ p:=fun p h1 h2=>by rw[ch,T.x_ _ _ h2,T.x_ _ _ h1]
 have gf:h'.Q.c_ f=some (h.i,e'):=by rw[cj,T.N_]
 have aH:∀g,g≠f->h'.Q.c_ g=h.Q.c_ g:=fun g hgf=>by rw[cj,T.x_ _ _ hgf]
 have bz:∀p l,m p=some l->p≠h.i:=fun p l hp x=>by subst x;rw[H.b (Ve _)]at hp;cases hp
 refine⟨⟨⟨?_,?_⟩,?_,?_,?_⟩,⟨ac,?_,oM,?_,bw,?_,bh,bt,bc,?_,?_,pK bn⟩⟩;intro p cp fp kp hp;by_cases ae:fp=f;subst ae;rw[gf];show kp<=e';by_cases h1:p=h.i;subst h1;rw[gn]at hp;cases hp;exact Nat.zero_le _;by_cases h2:p=b;subst h2;rw[gb]at hp;cases hp;omega;rw[go p h2 h1]at hp;have:=(a0 p cp kp hp h2).2;omega;rw[aH fp ae];by_cases h1:p=h.i;subst h1;rw[gn]at hp;cases hp;exact absurd rfl ae;by_cases h2:p=b;subst h2;rw[gb]at hp;cases hp;exact absurd rfl ae;rw[go p h2 h1]at hp;exact H.g.b _ _ _ _ hp;intro p hp;rw[hnx]at hp;have bE:b<h.i:=by obtain q|q:=Wt b h.i;exact q;rw[H.b q]at hm;cases hm
 rw[go p oM oM,aH p oM];exact H.g.a p oM;intro p lp hp;by_cases h1:p=h.i;subst h1;rw[aB]at hp;cases hp;refine⟨_,gn,fun _=>?_⟩;let⟨C',el,fz',a1,a2,a3,a4⟩:=a9;exact⟨C',el,fz',a1,a2,hnew.2,fun i v hi=>let⟨x,hx,rx⟩:=a3 i v hi;⟨x,hx,m_.ag ac _ _ rx⟩,a4⟩;rw[aJ _ _ h1]at hp;by_cases h2:p=b;subst h2;rw[hm]at hp;cases hp;refine⟨_,gb,fun hr=>?_⟩;have bA:o+n=c.length:=by unfold rd at hr;rw[gf]at hr;simp only[WT]at hr;obtain hr|hr:=hr;have:=Vf hr;omega;have:=Vf hr;omega
 let⟨bk,hb,rel⟩:=H.d p Z hm;rw[hg]at hb;cases hb;let⟨C,el,fz,hC,a2,a3,a4,a5⟩:=rel (pF (by obtain⟨q,_⟩|q:=cb<;>simp[q]));obtain⟨_,hk⟩|⟨_,_,_,hk⟩:=K;exact⟨C,el,fz,by rw[hk _ (H.a p Z hm)];exact hC,a2,a3,fun i v hi=>let⟨x,hx,rx⟩:=a4 i v hi;⟨x,hx,m_.ag ac _ _ rx⟩,a5⟩;let⟨C',cc,ce,hj⟩:=hk C el fz hC;refine⟨C',el,fz,cc,oM,a3,fun i v hi=>?_,a5⟩;let⟨x,hx,rx⟩:=a4 i v hi;have:i<c.length:=by obtain q|q:=Wt i c.length;exact q;rw[Wu q]at hi;cases hi
 exact⟨x,by rw[hj _ oM];exact hx,m_.ag ac _ _ rx⟩;let⟨bp,ca,b9⟩:=H.d p lp hp;refine⟨bp,by rw[go p h2 h1];exact ca,?_⟩;have bf:=H.a p lp hp;cases bp with
 |f es clock=>
  have af:lp.a≠Z.a:=by intro q;let⟨_,_,_,_,_,ha,_⟩:=H.c p b lp Z hp hm q h2;rw[ca]at ha;cases ha
  exact b9.ag ac (fun _ _ _ q=>by cases q) (by obtain⟨_,hk⟩|⟨_,_,hk,_⟩:=K<;>exact hk _ (by assumption))
 |b ps as bd en st pend=>
  have af:lp.a≠Z.a:=by intro q;let⟨_,_,_,_,_,ha,_⟩:=H.c p b lp Z hp hm q h2;rw[ca]at ha;cases ha
  exact b9.ag ac (fun _ _ _ q=>by cases q) (by obtain⟨_,hk⟩|⟨_,_,hk,_⟩:=K<;>exact hk _ (by assumption))
 |e s pos=>
  have af:lp.a≠Z.a:=by intro q;let⟨_,_,_,_,_,ha,_⟩:=H.c p b lp Z hp hm q h2;rw[ca]at ha;cases ha
  exact b9.ag ac (fun _ _ _ q=>by cases q) (by obtain⟨_,hk⟩|⟨_,_,hk,_⟩:=K<;>exact hk _ (by assumption))
 |d=>trivial
 |a cp fp kp=>
  intro hr;by_cases ae:fp=f;subst ae;let⟨ci,cl⟩:=a0 p cp kp ca h2;have bW:kp=e':=by unfold rd at hr;rw[gf]at hr;simp only[WT]at hr;obtain hr|hr:=hr;have:=Vf hr;omega;exact Vf hr
  have br:kp=e/\o+n=c.length:=oM;have a8:rd h p fp kp=true:=by unfold rd;rw[ci];show(_||Nat.beq kp e)=true;rw[br.1,WO];simp
  let⟨C,el,fz,hC,a2,a3,a4,a5⟩:=b9 a8;by_cases af:lp.a=Z.a;let⟨cr,co,f',ak,ar,ha,ab,hl⟩:=H.c p b lp Z hp hm af h2;rw[ca]at ha;cases ha;rw[hg]at ab;cases ab;have bB:=hl e ci;obtain⟨_,hk⟩|⟨_,_,_,hk⟩:=K;exact⟨C,el,fz,by rw[hk _ bf];exact hC,a2,a3,fun i v hi=>let⟨x,hx,rx⟩:=a4 i v hi;⟨x,hx,m_.ag ac _ _ rx⟩,a5⟩;let⟨C',cc,ce,hj⟩:=hk C el fz (by rw[<-af];exact hC);refine⟨C',el,fz,by rw[af];exact cc,oM,a3,fun i v hi=>?_,a5⟩;let⟨x,hx,rx⟩:=a4 i v hi;have:i<cp.length:=by obtain q|q:=Wt i cp.length;exact q;rw[Wu q]at hi;cases hi
  exact⟨x,by rw[hj _ oM];exact hx,m_.ag ac _ _ rx⟩;refine⟨C,el,fz,?_,a2,a3,fun i v hi=>let⟨x,hx,rx⟩:=a4 i v hi;⟨x,hx,m_.ag ac _ _ rx⟩,a5⟩;rw[<-hC];obtain⟨_,hk⟩|⟨_,_,hk,_⟩:=K<;>exact hk _ (by assumption)
  have af:lp.a≠Z.a:=by intro q;let⟨_,_,_,_,_,ha,ab,_⟩:=H.c p b lp Z hp hm q h2;rw[ca]at ha;cases ha;rw[hg]at ab;cases ab;exact ae rfl
  have a8:rd h p fp kp=true:=by unfold rd at *;rw[aH fp ae]at hr;exact hr
  let⟨C,el,fz,hC,a2,a3,a4,a5⟩:=b9 a8;refine⟨C,el,fz,?_,a2,a3,fun i v hi=>let⟨x,hx,rx⟩:=a4 i v hi;⟨x,hx,m_.ag ac _ _ rx⟩,a5⟩;rw[<-hC];obtain⟨_,hk⟩|⟨_,_,hk,_⟩:=K<;>exact hk _ (by assumption)
 intro p lp hp;by_cases h1:p=h.i;subst h1;rw[aB]at hp;cases hp;exact bv;rw[aJ _ _ h1]at hp;have:=H.a p lp hp;omega;intro p q lp lq hp hq he aj;have own:∀g q',q'≠h.i->∀x,h'.Q.c_ g=some (q',x)->g≠f:=by intro g q' hq' x hx hgf;subst hgf;rw[gf]at hx;cases hx;exact hq' rfl
 by_cases h1:p=h.i;subst h1;rw[aB]at hp;cases hp;rw[aJ _ _ (WW aj)]at hq;have b6:=H.a q lq hq;obtain⟨hk,_⟩|⟨hk,an,_⟩:=K;omega;by_cases h3:q=b;subst h3;exact⟨c',c,f,0,e,gn,gb,fun x hx=>absurd rfl (own f q bg x hx)⟩;let⟨cq,c0,f0,kq,kb,ha,ab,_⟩:=H.c q b lq Z hq hm oM h3;rw[hg]at ab;cases ab;exact⟨c',cq,f,0,kq,gn,by rw[go q h3 (WW aj)];exact ha,fun x hx=>absurd rfl (own f q (WW aj) x hx)⟩;rw[aJ _ _ h1]at hp;have bT:=H.a p lp hp;by_cases h2:q=h.i;subst h2;rw[aB]at hq;cases hq;obtain⟨hk,_⟩|⟨hk,an,_⟩:=K;omega;by_cases h3:p=b;subst h3;rw[hm]at hp;cases hp;exact⟨c,c',f,e,0,gb,gn,fun x hx=>by rw[an,a7];omega⟩;let⟨cp,c0,f0,kp,kb,ha,ab,hl⟩:=H.c p b lp Z hp hm oM h3;rw[hg]at ab;cases ab;refine⟨cp,c',f,kp,0,by rw[go p h3 h1];exact ha,gn,fun x hx=>?_⟩;have:=hl e (a0 p cp kp ha h3).1;rw[an,a7];omega;rw[aJ _ _ h2]at hq;let⟨cp,cq,f',kp,kq,ha,ab,hl⟩:=H.c p q lp lq hp hq he aj;have fin:∀ak ar,h'.S.c_ p=some (.a cp f' ak)->h'.S.c_ q=some (.a cq f' ar)->
  ∃cp cq f kp kq,h'.S.c_ p=some (.a cp f kp)/\h'.S.c_ q=some (.a cq f kq)/\(∀e,h'.Q.c_ f=some (q,e)->lp.b+cp.length<=lq.b+cq.length):=
  fun ak ar g1 g2=>⟨cp,cq,f',ak,ar,g1,g2,fun x hx=>by
   have:=own f' q h2 x hx;rw[aH f' this]at hx;exact hl x hx⟩
 by_cases h3:p=b;subst h3;rw[hg]at ha;cases ha;exact fin e kq gb (by rw[go q (WW aj) h2];exact ab);by_cases h4:q=b;subst h4;rw[hg]at ab;cases ab;exact fin kp e (by rw[go p h3 h1];exact ha) gb;exact fin kp kq (by rw[go p h3 h1];exact ha) (by rw[go q h4 h2];exact ab);intro p lp hp hn;by_cases h1:p=h.i;subst h1;rw[aB]at hp;cases hp;refine⟨Ve _,?_⟩;obtain⟨hk,_⟩|⟨hk,_⟩:=K;exact .inl oM;exact .inr ⟨b,Z,hm,hk.symm⟩;rw[aJ _ _ h1]at hp;rw[hp]at hn;cases hn;intro p hp b7;exact go p (fun x=>by subst x;rw[hm]at hp;cases hp) oM;intro g bm ay;obtain⟨_,hk⟩|⟨_,_,hk,_⟩:=K;exact hk g ay;exact hk g (fun x=>bm b Z hm x.symm);rintro g i ay ⟨q,l,hq,h1,h2,h3⟩;by_cases h4:q=h.i;subst h4;rw[aB]at hq;cases hq;obtain⟨hk,_⟩|⟨hk,an,_⟩:=K;omega;have:=(a6 hk).1;exact⟨b,Z,hm,oM,oM,oM⟩;rw[aJ _ _ h4]at hq;exact⟨q,l,hq,h1,h2,h3⟩;intro g ay;obtain⟨_,hk⟩|⟨bj,_,hk,bi⟩:=K;exact T6.a (hk g ay);by_cases h4:g=Z.a;subst h4;let⟨bk,hb,rel⟩:=H.d b Z hm;rw[hg]at hb;cases hb;let⟨C,el,fz,hC,a2,a3,a4,a5⟩:=rel (pF (by obtain⟨q,_⟩|q:=cb<;>simp[q]));let⟨C',cc,ce,hj⟩:=bi C el fz hC;intro x hx;rw[hC]at hx;cases hx;refine⟨_,cc,rfl,rfl,ce,fun j bo=>?_⟩;obtain c1|c1:=Wt j (Z.b+(o+n));exact hj j c1;obtain c2|c2:=Wt j (Z.b+Z.c);exact absurd ⟨b,Z,hm,rfl,oM,c2⟩ bo;exact(a6 bj).2 C el fz C' hC cc j c2;exact T6.a (hk g h4)
def E?:IntKind->Nat
 |.i8=>128|.i16=>32768|.i32=>2147483648|.i64=>9223372036854775808
 |.u8=>256|.u16=>65536|.u32=>4294967296|.u64=>18446744073709551616
def bF(k:IntKind)(n:Int):Int:=
 match n with
 |.ofNat a=>bif Nat.blt a (E? k)then .ofNat a else k.wrap (.ofNat a)
 |.negSucc a=>bif k.signed&&Nat.blt a (E? k)then .negSucc a else k.wrap (.negSucc a)
theorem dO(k:IntKind)(n:Int):bF k n=k.wrap n:=by
 cases n with
 |ofNat a=>
  simp only[bF];cases h:Nat.blt a (E? k);rfl;have Z:a<E? k:=by simpa[VE]using h
  simp only[cond_true,IntKind.wrap];cases k<;>simp[E?]at Z<;>simp[IntKind.bits,IntKind.signed]<;>omega
 |negSucc a=>
  simp[bF];cases hs:k.signed;rfl;cases h:Nat.blt a (E? k);rfl;have Z:a<E? k:=by simpa[VE]using h
  simp only[Xh,cond_true,IntKind.wrap];have e:Int.negSucc a=-(a:Int)-1:=oM;rw[e];cases k<;>simp[IntKind.signed]at hs<;>simp[E?]at Z<;>
   simp only[IntKind.bits,IntKind.signed,YH,seval]<;>split<;>rename_i K<;>simp at K<;>omega
def e?:Int->Int->Bool
 |.ofNat a,.ofNat b=>Nat.blt a b
 |.ofNat _,.negSucc _=>false
 |.negSucc _,.ofNat _=>true
 |.negSucc a,.negSucc b=>Nat.blt b a
theorem jv(a b:Int):e? a b=decide (a<b):=by rw[Xr];cases a<;>cases b<;>simp[e?]<;>omega
def Zl:Int->Int->Bool
 |.ofNat a,.ofNat b=>Nat.beq a b
 |.negSucc a,.negSucc b=>Nat.beq a b
 |_,_=>false
theorem fC(a b:Int):Zl a b=(a==b):=by rw[Xr];cases a<;>cases b<;>simp[Zl];omega
def lE(k k':IntKind):Bool:=Nat.beq k.ctorIdx k'.ctorIdx
theorem mK{k k':IntKind}(h:lE k k'=true):k=k':=by cases k<;>cases k'<;>first|rfl|(simp[lE,IntKind.ctorIdx]at h)
def jw(op:BinOp)(k:IntKind)(a b:Int):Option V:=
 match op with
 |.add=>some (.C k (bF k (Int.add a b)))
 |.sub=>some (.C k (bF k (Int.sub a b)))
 |.mul=>some (.C k (bF k (Int.mul a b)))
 |.quo=>bif Zl b 0 then none else some (.C k (bF k (Int.tdiv a b)))
 |.rem=>bif Zl b 0 then none else some (.C k (Int.tmod a b))
 |.and=>some (.C k (bF k (BitVec.toNat (BitVec.ofInt k.bits a&&&BitVec.ofInt k.bits b))))
 |.or=>some (.C k (bF k (BitVec.toNat (BitVec.ofInt k.bits a|||BitVec.ofInt k.bits b))))
 |.xor=>some (.C k (bF k (BitVec.toNat (BitVec.ofInt k.bits a^^^BitVec.ofInt k.bits b))))
 |.andNot=>some (.C k (bF k (BitVec.toNat (BitVec.ofInt k.bits a&&& ~~~BitVec.ofInt k.bits b))))
 |.eql=>some (.h (Zl a b))
 |.neq=>some (.h (!Zl a b))
 |.lss=>some (.h (e? a b))
 |.leq=>some (.h (!e? b a))
 |.gtr=>some (.h (e? b a))
 |.geq=>some (.h (!e? a b))
 |_=>none
theorem AD{op:BinOp}{k:IntKind}{a b:Int}{v:V}(h:jw op k a b=some v)(P:Program)(w:World)(t:TypeId):
 ∃x,(binOp op t (.int k a) (.int k b)).run P w=.ok x w/\(∀m,m_ m v x)/\v.O=true:=by
 have dl:∀a b:Int,(!e? b a)=decide (a<=b):=by intro a b;rw[jv,Xr];simp
 cases op<;>simp only[jw]at h;case shl=>cases h
 case shr=>cases h
 case quo=>
  cases Z:Zl b 0;rw[Z]at h;simp only[cond_false]at h;cases h;have K:¬b=0:=by rw[fC]at Z;simpa using Z
  exact⟨.int k (k.wrap (a.tdiv b)),by simp[binOp,Op.intDiv,K],fun m=>by rw[dO];rfl,rfl⟩;grind
 case rem=>
  cases Z:Zl b 0;rw[Z]at h;simp only[cond_false]at h;cases h;have K:¬b=0:=by rw[fC]at Z;simpa using Z
  exact⟨.int k (a.tmod b),by simp[binOp,Op.intDiv,K],fun m=>rfl,rfl⟩;grind
 all_goals cases h
 all_goals first
  |exact⟨_,by simp only[binOp,ne_eq,not_true_eq_false,if_false,Op.intArith,Op.intBits];rfl,fun m=>by rw[dO];rfl,rfl⟩
  |exact⟨_,by simp only[binOp,ne_eq,not_true_eq_false,if_false,Op.intCmp];rfl,fun m=>by rw[fC];rfl,rfl⟩
  |exact⟨_,by simp only[binOp,ne_eq,not_true_eq_false,if_false,Op.intCmp];rfl,fun m=>by rw[jv];rfl,rfl⟩
  |exact⟨_,by simp only[binOp,ne_eq,not_true_eq_false,if_false,Op.intCmp];rfl,fun m=>by rw[dl];rfl,rfl⟩
def uC(left:Bool)(k:IntKind)(a:Int)(b:Int):Option V:=
 match b with
 |.ofNat n=>
  let p:Int:=Int.ofNat (Nat.pow 2 (Nat.min n k.bits))
  some (.C k (bif left then bF k (Int.mul a p)else Int.fdiv a p))
 |.negSucc _=>none
theorem uB{left:Bool}{k k':IntKind}{a b:Int}{v:V}(h:uC left k a b=some v)(P:Program)(w:World)(t:TypeId):
 ∃x,(binOp (bif left then .shl else .shr) t (.int k a) (.int k' b)).run P w=.ok x w/\(∀m,m_ m v x)/\v.O=true:=by
 cases b with
 |negSucc n=>cases h
 |ofNat n=>
  simp only[uC]at h;cases h;have Z:(Int.ofNat (Nat.pow 2 (Nat.min n k.bits)))=(2:Int)^(min n k.bits):=by show((2^(min n k.bits):Nat):Int)=_;simp
  have K:¬(Int.ofNat n<0):=by simp
  cases left;exact⟨.int k (a.fdiv (2^min n k.bits)),by simp only[cond_false,binOp,Op.shift,if_neg K];rfl,fun m=>by show _=_;simp only[cond_false];rw[Z],rfl⟩;exact⟨.int k (k.wrap (a*2^min n k.bits)),by simp only[cond_true,binOp,Op.shift,if_neg K];rfl,fun m=>by show _=_;simp only[cond_true];rw[Z,dO];rfl,rfl⟩
def i5:List Nat->List V->List V->Option Bool
 |[],_,_=>some true
 |0::ks,.C k a::l,.C k' b::l'=>bif lE k k' then(bif Zl a b then i5 ks l l' else some false)else none
 |1::ks,.h a::l,.h b::l'=>bif xor a b then some false else i5 ks l l'
 |2::ks,.f a::l,.f b::l'=>bif a==b then i5 ks l l' else some false
 |_,_,_=>none
def qE(op:BinOp)(a b:List UInt8):Option V:=
 match op with
 |.add=>bif Nat.blt (a.length+b.length) 9223372036854775808 then some (.f (a++b))else none
 |.eql=>some (.h (a==b))
 |.neq=>some (.h (!(a==b)))
 |.lss=>some (.h (Op.bytesLess a b))
 |.leq=>some (.h (Op.bytesLess a b||a==b))
 |.gtr=>some (.h (!(Op.bytesLess a b||a==b)))
 |.geq=>some (.h (!Op.bytesLess a b))
 |_=>none
def kU:Nat->V->V->Option Bool
 |0,.K,.K=>some true
 |0,.K,.u _ _=>some false
 |0,.u _ _,.K=>some false
 |1,.j,.j=>some true
 |1,.j,.z _ _ _ _=>some false
 |1,.j,.L _ _ _ _=>some false
 |1,.j,.F=>some false
 |1,.j,.aa _ _=>some false
 |1,.z _ _ _ _,.j=>some false
 |1,.L _ _ _ _,.j=>some false
 |1,.F,.j=>some false
 |1,.aa _ _,.j=>some false
 |2,.af,.af=>some true
 |2,.af,.ad _=>some false
 |2,.ad _,.af=>some false
 |3,.R,.R=>some true
 |3,.R,.I _ _ _=>some false
 |3,.I _ _ _,.R=>some false
 |4,.am,.am=>some true
 |4,.am,.ah _ _=>some false
 |4,.ah _ _,.am=>some false
 |_,_,_=>none
def V.s:V->List V
 |.B l=>l
 |v=>[v]
def dY(c:List V):List (Nat×Nat)->List V->Option (List V)
 |[],[]=>some c
 |(off,size)::ps,v::vs=>
  bif Nat.beq v.s.length size&&Nat.blt 0 size then
   match bq c off v.s with
   |some c'=>dY c' ps vs
   |none=>none
  else none
 |_,_=>none
def cY(v:V)(y:Nat):Option Nat:=
 match v with
 |.C _ (.ofNat n)=>bif Nat.ble n y then some n else none
 |_=>none
def aZ(len y:Nat)(lo hi mx:Bool)(bs:List V):Option (Nat×Nat×Option Nat):=
 match lo,hi,mx,bs with
 |false,false,false,[]=>some (0,len,none)
 |true,false,false,[a]=>(cY a len).map fun l=>(l,len,none)
 |false,true,false,[b]=>(cY b y).map fun h=>(0,h,none)
 |true,true,false,[a,b]=>(cY b y).bind fun h=>(cY a h).map fun l=>(l,h,none)
 |false,true,true,[b,c]=>(cY c y).bind fun m=>(cY b m).map fun h=>(0,h,some m)
 |true,true,true,[a,b,c]=>(cY c y).bind fun m=>(cY b m).bind fun h=>(cY a h).map fun l=>(l,h,some m)
 |_,_,_,_=>none
def eJ(v:V)(esz:Nat)(lo hi mx:Bool)(bs:List V):Option V:=
 match v with
 |.j=>(aZ 0 0 lo hi mx bs).map fun _=>.j
 |.z b o len cap=>(aZ len cap lo hi mx bs).map fun(l,h,m)=>
  let m:=m.getD cap
  .z b (bif Nat.beq m l then o else o+l*esz) (h-l) (m-l)
 |.L b o len e=>bif Nat.beq e esz&&Nat.blt 0 e then
  (aZ len len lo hi mx bs).bind fun(l,h,m)=>
   match m with
   |some m=>some (.z b (bif Nat.beq m l then o else o+l*esz) (h-l) (m-l))
   |none=>bif Nat.blt l len then some (.L b (o+l*esz) (h-l) e)
             else bif Nat.beq l 0 then some (.L b o (h-l) e)else some .F
  else none
 |_=>none
def zw(n:Nat)(v:V)(esz:Nat)(lo hi mx:Bool)(bs:List V):Option V:=
 match v with
 |.u b o=>(aZ n n lo hi mx bs).map fun(l,h,m)=>
  let m:=m.getD n
  .z b (bif Nat.beq m l then o else o+l*esz) (h-l) (m-l)
 |_=>none
def lY(v:V)(len:Nat):Option Nat:=
 match v with
 |.C _ (.ofNat n)=>bif Nat.blt n len then some n else none
 |_=>none
def aP(k:PK)(vs:List V):Option V:=
 match k,vs with
 |.o,[x]=>some x
 |.p,[.h c,a,b]=>some (bif c then a else b)
 |.e,[.u b o]=>some (.u b o)
 |.e,[.I (.func f) x y]=>some (.I (.func f) x y)
 |.h op,[.C k a,.C k' b]=>bif lE k k' then jw op k a b else none
 |.F left,[.C k a,.C _ b]=>uC left k a b
 |.x,[.h b]=>some (.h (!b))
 |.J,[.C k n]=>some (.C k (bF k (Int.sub 0 n)))
 |.G,[.C k n]=>jw .xor k (bif k.signed then-1 else k.max) n
 |.K ne,[.h a,.h b]=>some (.h (bif ne then xor a b else !(xor a b)))
 |.l kd ne,[a,b]=>(kU kd a b).map fun r=>.h (bif ne then !r else r)
 |.b off,[.u b o]=>some (.u b (o+off))
 |.u off n isAgg,[.B l]=>bif isAgg then(dL n (gJ l off)).map .B else X0 l off
 |.g len esz,[.u b o,i]=>(lY i len).map fun n=>.u b (o+n*esz)
 |.c esz,[.z b o len _,i]=>(lY i len).map fun n=>.u b (o+n*esz)
 |.c esz,[.L b o len _,i]=>(lY i len).map fun n=>.u b (o+n*esz)
 |.f len esz isAgg,[.B l,i]=>(lY i len).bind fun n=>bif isAgg then(dL esz (gJ l (n*esz))).map .B else X0 l (n*esz)
 |.v i,[.G l]=>X0 l i
 |.B fn n,vs=>(dL n vs).map fun f=>.I fn f (gJ vs n)
 |.L t,[v]=>some (.ah t v)
 |.a zero places,vs=>(dY zero places vs).map .B
 |.s none esz lo hi mx,v::bs=>eJ v esz lo hi mx bs
 |.s (some n) esz lo hi mx,v::bs=>zw n v esz lo hi mx bs
 |.d,[.j]=>some (.C .i64 0)
 |.d,[.z _ _ len _]=>some (.C .i64 len)
 |.d,[.L _ _ len _]=>some (.C .i64 len)
 |.d,[.F]=>some (.C .i64 0)
 |.d,[.aa _ _]=>some (.C .i64 0)
 |.y n,[_]=>some (.C .i64 n)
 |.z,[.j]=>some (.C .i64 0)
 |.z,[.z _ _ _ cap]=>some (.C .i64 cap)
 |.D n,[_]=>some (.C .i64 n)
 |.H,[.C k a,.C _ b]=>some (.C k (bif e? b a then b else a))
 |.E,[.C k a,.C _ b]=>some (.C k (bif e? a b then b else a))
 |.r k,[.C _ n]=>some (.C k (bF k n))
 |.I ne ks,[.B l,.B l']=>(i5 ks l l').map fun r=>.h (bif ne then !r else r)
 |.C op,[.f a,.f b]=>qE op a b
 |.j,[.f a]=>some (.C .i64 (a.length:Nat))
 |.q,[.f a,.C _ (.ofNat i)]=>(a[i]?).map fun c=>.C .u8 (c.toNat:Nat)
 |.A lo hi,.f a::bs=>(aZ a.length a.length lo hi false bs).map fun(l,h,_)=>.f ((a.drop l).take (h-l))
 |_,_=>none
mutual
def V9:V->Value->Bool
 |.h b,.bool c=>b==c
 |.C k n,.int k' n'=>lE k k'&&Zl n n'
 |.f s,.string t=>t.data.toList==s
 |.K,.pointer none=>true
 |.j,.slice none 0 0=>true
 |.af,.map none=>true
 |.R,.nilFunc=>true
 |.am,.nilIface=>true
 |.I fn f c,.func fn' f' c'=>decide (fn=fn')&&tj f f'.toList&&tj c c'.toList
 |.B l,.agg a=>tj l a.toList
 |.G l,.tuple a=>tj l a.toList
 |_,_=>false
def tj:List V->List Value->Bool
 |[],[]=>true
 |v::vs,x::xs=>V9 v x&&tj vs xs
 |_,_=>false
end
mutual
theorem yb(m:M):∀(v:V)(x:Value),V9 v x=true→m_ m v x
 |.h b,x,h=>by cases x<;>simp[V9]at h;subst h;rfl
 |.C k n,x,h=>by cases x<;>simp[V9]at h;let⟨a,b⟩:=h;rw[fC]at b;have:=mK a;subst this;simp at b;subst b;rfl
 |.f s,x,h=>by cases x<;>simp[V9]at h;rename_i t;cases t;rename_i d;cases d;simp at h;subst h;rfl
 |.K,x,h=>by
  cases x with
  |pointer a=>cases a with
   |none=>rfl
   |some a=>simp[V9]at h
  |_=>simp[V9]at h
 |.j,x,h=>by
  cases x with
  |slice a l c=>
   cases a with
   |some a=>simp[V9]at h
   |none=>cases l with
    |succ l=>simp[V9]at h
    |zero=>cases c with
     |zero=>rfl
     |succ c=>simp[V9]at h
  |_=>simp[V9]at h
 |.af,x,h=>by
  cases x with
  |map a=>cases a with
   |none=>rfl
   |some a=>simp[V9]at h
  |_=>simp[V9]at h
 |.R,x,h=>by cases x<;>simp[V9]at h;rfl
 |.am,x,h=>by cases x<;>simp[V9]at h;rfl
 |.I fn f c,x,h=>by cases x<;>simp only[V9,Bool.false_eq_true]at h;rename_i fn' f' c';simp only[Bool.and_eq_true,decide_eq_true_eq]at h;obtain⟨⟨rfl,h1⟩,h2⟩:=h;exact⟨f'.toList,c'.toList,iS,dK m f _ h1,dK m c _ h2⟩
 |.B l,x,h=>by cases x<;>simp only[V9,Bool.false_eq_true]at h;rename_i a;exact⟨a.toList,iS,dK m l _ h⟩
 |.G l,x,h=>by cases x<;>simp only[V9,Bool.false_eq_true]at h;rename_i a;exact⟨a.toList,iS,dK m l _ h⟩
 |.u _ _,x,h=>by cases x<;>simp[V9]at h
 |.z _ _ _ _,x,h=>by cases x<;>simp[V9]at h
 |.L _ _ _ _,x,h=>by cases x<;>simp[V9]at h
 |.F,x,h=>by cases x<;>simp[V9]at h
 |.ad _,x,h=>by cases x<;>simp[V9]at h
 |.ah _ _,x,h=>by cases x<;>simp[V9]at h
theorem dK(m:M):∀(vs:List V)(xs:List Value),tj vs xs=true->h_ m vs xs
 |[],[],_=>rfl
 |[],_::_,h=>by simp[tj]at h
 |_::_,[],h=>by simp[tj]at h
 |v::vs,x::xs,h=>by simp[tj]at h;exact⟨x,xs,rfl,yb m v x h.1,dK m vs xs h.2⟩
end
def LR(P:Program)(t:TypeId)(k:IntKind):Bool:=match P.underlying t with|some (.int k')=>lE k k'|_=>false
def Dl(P:Program)(t:TypeId):Bool:=(P.underlying t).isSome
def dR(P:Program)(t:TypeId)(n:Nat):Bool:=match P.info? t with|some i=>Nat.beq i.size n|none=>false
def qo(P:Program)(t:TypeId)(b:Bool):Bool:=match P.underlying t with
 |some (.struct _)|some (.array _ _)=>b
 |some _=> !b
 |none=>false
def jR(P:Program)(t:TypeId)(z:List V):Bool:=match P.info? t with
 |some i=>match i.zero with
  |some x=>tj z x.cells.toList
  |none=>false
 |none=>false
def gP(P:Program)(t:TypeId)(kd:Nat):Bool:=match kd,P.underlying t with
 |0,some (.pointer _)|1,some (.slice _)|2,some (.map _ _)|3,some (.func _ _ _)|4,some (.interface _)=>true
 |_,_=>false
def Dr(P:Program)(s:TypeId)(f off n:Nat)(isAgg:Bool):Bool:=match P.underlying s with
 |some (.struct fields)=>match fields[f]? with
  |some fd=>Nat.beq fd.offset off&&dR P fd.type n&&qo P fd.type isAgg
  |none=>false
 |_=>false
def lP(P:Program)(t:TypeId)(arr:Option Nat)(esz:Nat):Bool:=match arr,P.underlying t with
 |none,some (.slice e)=>dR P e esz
 |some n,some (.array n' e)=>Nat.beq n n'&&dR P e esz
 |_,_=>false
section
variable {P : Program} {w : World} {t : TypeId}
theorem aI{d:TypeDesc}(h:P.underlying t=some d):(underlying t).run P w=.ok d w:=by simp[underlying,h]
theorem eh{i:TypeInfo}(h:P.info? t=some i):(typeInfo t).run P w=.ok i w:=by simp[typeInfo,h]
theorem cQ{n:Nat}(h:dR P t n=true):(sizeOf t).run P w=.ok n w:=by unfold dR at h;split at h;rename_i i Z;simp[sizeOf,eh Z,Vf h];cases h
theorem jk{b:Bool}(h:qo P t b=true):(isAgg t).run P w=.ok b w:=by
 unfold qo at h;split at h;rename_i f Z;subst h;simp[isAgg,aI Z];rename_i n e Z;subst h;simp[isAgg,aI Z];rename_i d K ha hd;cases b<;>simp at h;cases d<;>simp_all [isAgg,aI]
 cases h
theorem jD{z:List V}(h:jR P t z=true):∃x,(zeroValue t).run P w=.ok x w/\tj z x.cells.toList=true:=by unfold jR at h;split at h;rename_i i K;split at h;rename_i x Z;exact⟨x,by simp[zeroValue,eh K,Z],h⟩;cases h;cases h
end
def uF:Operand->Bool
 |.const _=>true
 |_=>false
def ew(P:Program)(t:TypeId):List (Nat×Operand)->List (Nat×Nat)->Bool
 |[],[]=>true
 |(i,_)::ps,(off,n)::qs=>
  (match P.underlying t with
   |some (.struct fields)=>match fields[i]? with
    |some fd=>Nat.beq fd.offset off&&dR P fd.type n
    |none=>false
   |some (.array _ e)=>Nat.beq off (i*n)&&dR P e n
   |_=>false)&&ew P t ps qs
 |_,_=>false
def yn(P:Program)(t:TypeId):Bool:=
 match P.underlying t with
 |some (.struct fields)=>fields.toList.all fun f=>(P.info? f.type).isSome
 |some (.array _ e)=>(P.info? e).isSome
 |_=>false
def Ds(P:Program)(s:TypeId)(f off:Nat):Bool:=match P.underlying s with
 |some (.struct fields)=>match fields[f]? with
  |some fd=>Nat.beq fd.offset off&&(match P.info? fd.type with|some i=> !(Nat.beq i.size 0)|none=>false)
  |none=>false
 |_=>false
def gq(op:Op)(b:Builtin):Option (Array Operand×Array TypeId):=
 match op with
 |.call {callee:=.builtin b',args,argTypes}=>if b=b' then some (args,argTypes)else none
 |_=>none
def oL(P:Program)(op:Op)(b:Builtin)(ok:TypeDesc->Bool):Bool:=
 match gq op b with
 |some (args,ts)=>Nat.beq args.size 1&&(match ts[0]? with
  |some t=>match P.underlying t with
   |some d=>ok d
   |none=>false
  |none=>false)
 |none=>false
def lh(P:Program)(t:TypeId)(k:Nat):Bool:=match k,P.underlying t with
 |0,some (.int _)|1,some .bool|2,some .string=>true
 |_,_=>false
def jx(P:Program):Nat->List Field->List Nat->Bool
 |_,[],[]=>true
 |j,f::fs,k::ks=> !(f.name== "_")&&Nat.beq f.offset j&&lh P f.type k&&jx P (j+1) fs ks
 |_,_,_=>false
def rI(P:Program)(t:TypeId)(ks:List Nat):Bool:=match P.underlying t with
 |some (.struct fields)=> !P.stoodInHeld t&& !P.eqGuardType P.depth t&&jx P 0 fields.toList ks
 |_=>false
def Dj(P:Program)(t:TypeId):Bool:=match P.underlying t with|some .string=>true|_=>false
def bL(P:Program)(op:Op):PK->Bool
 |.o=>match op with|.move _|.assign _=>true|_=>false
 |.p=>match op with|.pick _ _ _=>true|_=>false
 |.e=>match op with|.nilCheck _=>true|_=>false
 |.h b=>match op with|.binOp b' _ _ _ _=>decide (b=b')|_=>false
 |.F l=>match op with|.binOp b' _ _ _ _=>decide (b'=bif l then BinOp.shl else BinOp.shr)|_=>false
 |.x=>match op with|.unOp .not _ _=>true|_=>false
 |.J=>match op with|.unOp .neg _ _=>true|_=>false
 |.G=>match op with|.unOp .xor _ _=>true|_=>false
 |.K ne=>match op with|.binOp b t _ _ _=>decide (b=bif ne then BinOp.neq else BinOp.eql)&&(match P.underlying t with|some .bool=>true|_=>false)|_=>false
 |.l kd ne=>match op with|.binOp b t x y _=>decide (b=bif ne then BinOp.neq else BinOp.eql)&&gP P t kd&&(uF x||uF y)|_=>false
 |.b off=>match op with|.fieldAddr s _ f=>Ds P s f off|_=>false
 |.u off n a=>match op with|.field s _ f=>Dr P s f off n a|_=>false
 |.g len esz=>match op with|.indexAddr t _ _=>lP P t (some len) esz|_=>false
 |.c esz=>match op with|.indexAddr t _ _=>lP P t none esz|_=>false
 |.f len esz a=>match op with|.index t _ _=>(match P.underlying t with|some (.array n e)=>Nat.beq n len&&dR P e esz&&qo P e a|_=>false)|_=>false
 |.v i=>match op with|.extract _ j=>Nat.beq i j|_=>false
 |.B fn n=>match op with|.makeFunc fn' first _=>decide (fn=fn')&&Nat.beq first.size n|_=>false
 |.L t=>match op with|.makeInterface t' _=>Nat.beq t t'&&(match P.underlying t with|some (.interface _)=>false|some _=>true|none=>false)|_=>false
 |.a zero places=>match op with|.build t parts=>jR P t zero&&ew P t parts.toList places&&yn P t|_=>false
 |.s arr esz lo hi mx=>match op with|.slice t _ l h m=>lP P t arr esz&&(l.isSome==lo)&&(h.isSome==hi)&&(m.isSome==mx)|_=>false
 |.d=>oL P op .len fun|.slice _=>true|_=>false
 |.y n=>oL P op .len fun|.array n' _=>Nat.beq n n'|_=>false
 |.z=>oL P op .cap fun|.slice _=>true|_=>false
 |.D n=>oL P op .cap fun|.array n' _=>Nat.beq n n'|_=>false
 |.H=>match gq op .min with|some (args,_)=>Nat.beq args.size 2|none=>false
 |.E=>match gq op .max with|some (args,_)=>Nat.beq args.size 2|none=>false
 |.r k=>match op with|.convert s d _=>Dl P s&&LR P d k|_=>false
 |.I ne ks=>match op with|.binOp b t _ _ _=>decide (b=bif ne then BinOp.neq else BinOp.eql)&&rI P t ks|_=>false
 |.C b=>match op with|.binOp b' _ _ _ _=>decide (b=b')|_=>false
 |.j=>oL P op .len fun|.string=>true|_=>false
 |.q=>match op with|.index t _ _=>Dj P t|_=>false
 |.A lo hi=>match op with|.slice t _ l h m=>Dj P t&&(l.isSome==lo)&&(h.isSome==hi)&&m.isNone|_=>false
section
variable {P : Program} {w : World}
theorem rV{op:BinOp}{t:TypeId}{x y:Operand}{k k':IntKind}{a b:Int}:(eqGuard op t x y (.int k a) (.int k' b)).run P w=.ok () w:=by cases op<;>rfl
theorem pY{op:BinOp}{t:TypeId}{x y:Operand}{a b:Bool}:(eqGuard op t x y (.bool a) (.bool b)).run P w=.ok () w:=by cases op<;>rfl
theorem lJ{op:BinOp}{t:TypeId}{x y:Operand}{a b:Option Addr}:(eqGuard op t x y (.pointer a) (.pointer b)).run P w=.ok () w:=by cases op<;>rfl
theorem fa{op:BinOp}{t:TypeId}{x y:Operand}{a b:Option Addr}{l c Z c':Nat}:(eqGuard op t x y (.slice a l c) (.slice b Z c')).run P w=.ok () w:=by cases op<;>rfl
theorem lM{op:BinOp}{t:TypeId}{x y:Operand}{a b:Option Nat}:(eqGuard op t x y (.map a) (.map b)).run P w=.ok () w:=by cases op<;>rfl
theorem vZ{op:BinOp}{t:TypeId}{x y:Operand}:(eqGuard op t x y .nilFunc .nilFunc).run P w=.ok () w:=by cases op<;>rfl
theorem vV{op:BinOp}{t:TypeId}{x y:Operand}{f:Fn}{a b:Array Value}:(eqGuard op t x y .nilFunc (.func f a b)).run P w=.ok () w:=by cases op<;>rfl
theorem vU{op:BinOp}{t:TypeId}{x y:Operand}{f:Fn}{a b:Array Value}:(eqGuard op t x y (.func f a b) .nilFunc).run P w=.ok () w:=by cases op<;>rfl
theorem AY{op:BinOp}{t:TypeId}{x y:Operand}(h:(uF x||uF y)=true):(eqGuard op t x y .nilIface .nilIface).run P w=.ok () w:=by unfold eqGuard;cases x<;>cases y<;>simp[uF]at h<;>cases op<;>rfl
theorem AW{op:BinOp}{t:TypeId}{x y:Operand}{u:TypeId}{a:Value}:(eqGuard op t x y .nilIface (.iface u a)).run P w=.ok () w:=by cases op<;>rfl
theorem AV{op:BinOp}{t:TypeId}{x y:Operand}{u:TypeId}{a:Value}:(eqGuard op t x y (.iface u a) .nilIface).run P w=.ok () w:=by cases op<;>rfl
theorem N7{t:TypeId}(h:gP P t 0=true):∃e,P.underlying t=some (.pointer e):=by unfold gP at h;split at h<;>simp_all
theorem N6{t:TypeId}(h:gP P t 1=true):∃e,P.underlying t=some (.slice e):=by unfold gP at h;split at h<;>simp_all
theorem N5{t:TypeId}(h:gP P t 2=true):∃e f,P.underlying t=some (.map e f):=by unfold gP at h;split at h<;>simp_all
theorem N4{t:TypeId}(h:gP P t 3=true):∃e f g,P.underlying t=some (.func e f g):=by unfold gP at h;split at h<;>simp_all
theorem N3{t:TypeId}(h:gP P t 4=true):∃e,P.underlying t=some (.interface e):=by unfold gP at h;split at h<;>simp_all
theorem EC{kd:Nat}{a b:V}{r:Bool}(h:kU kd a b=some r){t:TypeId}(hk:gP P t kd=true){m:M}{x y:Value}(ra:m_ m a x)(rb:m_ m b y)(d:Nat):
 (Op.equalIn (d+1) t x y).run P w=.ok r w:=by
 unfold kU at h;split at h;case h_22=>cases h
 all_goals
  simp only[Option.some.injEq]at h;subst h;simp[m_]at ra rb;first
   |(let⟨e,hu⟩:=N7 hk)
   |(let⟨e,hu⟩:=N6 hk)
   |(let⟨e,f,hu⟩:=N5 hk)
   |(let⟨e,f,g,hu⟩:=N4 hk)
   |(let⟨e,hu⟩:=N3 hk)
  simp only[Op.equalIn,Sem.run_bind,aI hu,Result.andThen_ok];first
   |(subst ra;subst rb;rfl)
   |(subst ra;obtain⟨_,_,rfl⟩:=rb;rfl)
   |(obtain⟨_,_,rfl⟩:=ra;subst rb;rfl)
   |(subst ra;obtain⟨_,_,_,rfl⟩:=rb;rfl)
   |(obtain⟨_,_,_,rfl⟩:=ra;subst rb;rfl)
   |(subst ra;obtain⟨_,_,rfl,_⟩:=rb;rfl)
   |(obtain⟨_,_,rfl,_⟩:=ra;subst rb;rfl)
   |(subst ra;obtain⟨_,rfl,_⟩:=rb;rfl)
   |(obtain⟨_,rfl,_⟩:=ra;subst rb;rfl)
theorem Aq{kd:Nat}{a b:V}{r:Bool}(h:kU kd a b=some r){t:TypeId}{m:M}{x y:Value}(Z:m_ m a x)(K:m_ m b y){op:BinOp}{u v:Operand}(hc:(uF u||uF v)=true):
 (eqGuard op t u v x y).run P w=.ok () w:=by
 have h':(kU kd a b).isSome=true:=by rw[h];rfl
 clear h;unfold kU at h';split at h'<;>simp at h'<;>simp[m_]at Z K;all_goals first
  |(subst Z;subst K;first|exact lJ|exact fa|exact lM|exact vZ|exact AY hc)
  |(subst Z;obtain⟨_,_,rfl⟩:=K;first|exact lJ|exact fa|exact lM)
  |(obtain⟨_,_,rfl⟩:=Z;subst K;first|exact lJ|exact fa|exact lM)
  |(subst Z;obtain⟨_,_,_,rfl⟩:=K;exact fa)
  |(obtain⟨_,_,_,rfl⟩:=Z;subst K;exact fa)
  |(subst Z;obtain⟨_,_,rfl,_⟩:=K;exact vV)
  |(obtain⟨_,_,rfl,_⟩:=Z;subst K;exact vU)
  |(subst Z;obtain⟨_,rfl,_⟩:=K;exact AW)
  |(obtain⟨_,rfl,_⟩:=Z;subst K;exact AV)
theorem ED{kd:Nat}{a b:V}{r:Bool}(h:kU kd a b=some r){m:M}{x y:Value}(Z:m_ m a x)(K:m_ m b y)(t:TypeId):
 (binOp .eql t x y=do pure (.bool (<-Op.equal t x y)))/\(binOp .neq t x y=do pure (.bool (!(<-Op.equal t x y)))):=by
 have h':(kU kd a b).isSome=true:=by rw[h];rfl
 clear h;unfold kU at h';split at h'<;>simp at h'<;>simp[m_]at Z K;all_goals first
  |(subst Z;subst K;exact⟨rfl,rfl⟩)
  |(subst Z;obtain⟨_,_,rfl⟩:=K;exact⟨rfl,rfl⟩)
  |(obtain⟨_,_,rfl⟩:=Z;subst K;exact⟨rfl,rfl⟩)
  |(subst Z;obtain⟨_,_,_,rfl⟩:=K;exact⟨rfl,rfl⟩)
  |(obtain⟨_,_,_,rfl⟩:=Z;subst K;exact⟨rfl,rfl⟩)
  |(subst Z;obtain⟨_,_,rfl,_⟩:=K;exact⟨rfl,rfl⟩)
  |(obtain⟨_,_,rfl,_⟩:=Z;subst K;exact⟨rfl,rfl⟩)
  |(subst Z;obtain⟨_,rfl,_⟩:=K;exact⟨rfl,rfl⟩)
  |(obtain⟨_,rfl,_⟩:=Z;subst K;exact⟨rfl,rfl⟩)
end
theorem m_.P5{m:M}{v:V}{x:Value}(h:m_ m v x):h_ m v.s x.cells.toList:=by
 cases v<;>simp[V.s];case B l=>
  obtain⟨Z,rfl,r⟩:=h;simpa[Value.cells]using r
 all_goals
  have h0:=h;simp[m_]at h;first
   |(subst h;exact⟨_,[],rfl,h0,rfl⟩)
   |(obtain⟨_,_,rfl⟩:=h;exact⟨_,[],rfl,h0,rfl⟩)
   |(obtain⟨_,_,_,rfl⟩:=h;exact⟨_,[],rfl,h0,rfl⟩)
   |(obtain⟨_,rfl,_⟩:=h;exact⟨_,[],rfl,h0,rfl⟩)
   |(obtain⟨_,_,rfl,_⟩:=h;exact⟨_,[],rfl,h0,rfl⟩)
section
variable {P : Program} {m : M}
abbrev OV(ρ:Operand->Value)(op:Op):List Value:=op.operands.toList.map ρ
def PS(P:Program)(m:M)(o:Oper)(ρ:Operand->Value)(v:V):Prop:=∃x,m_ m v x/\∀w,(execOp ρ o).run P w=.ok (.value x) w
theorem cF{v:V}{xs:List Value}(h:h_ m [v] xs):∃x,xs=[x]/\m_ m v x:=by obtain⟨x,r,rfl,a,rfl⟩:=h;exact⟨x,rfl,a⟩
theorem cN{u v:V}{xs:List Value}(h:h_ m [u,v] xs):∃x y,xs=[x,y]/\m_ m u x/\m_ m v y:=by obtain⟨x,r,rfl,a,h⟩:=h;obtain⟨y,rfl,b⟩:=cF h;exact⟨x,y,rfl,a,b⟩
theorem tu{u v t:V}{xs:List Value}(h:h_ m [u,v,t] xs):∃x y z,xs=[x,y,z]/\m_ m u x/\m_ m v y/\m_ m t z:=by obtain⟨x,r,rfl,a,h⟩:=h;obtain⟨y,z,rfl,b⟩:=cN h;exact⟨x,y,z,rfl,a,b⟩
theorem OH{o:Oper}{ρ:Operand->Value}{x v:V}(K:bL P o.op .o=true)(hv:h_ m [x] (OV ρ o.op))(h:some x=some v):PS P m o ρ v:=by cases h;simp[bL]at K;split at K;rename_i y Z;let⟨z,e,r⟩:=cF hv;rw[Z]at e;simp[Op.operands]at e;exact⟨z,r,fun w=>by simp[execOp,Z,e]⟩;rename_i y Z;let⟨z,e,r⟩:=cF hv;rw[Z]at e;simp[Op.operands]at e;exact⟨z,r,fun w=>by simp[execOp,Z,e]⟩;cases K
theorem Li{o:Oper}{ρ:Operand->Value}{c:Bool}{a b:V}(K:bL P o.op .p=true)(hv:h_ m [.h c,a,b] (OV ρ o.op)):PS P m o ρ (bif c then a else b):=by simp[bL]at K;split at K;rename_i p q r Z;let⟨x,y,z,e,rx,ry,rz⟩:=tu hv;rw[Z]at e;change[ρ p,ρ q,ρ r]=[x,y,z]at e;simp at e;let⟨e1,e2,e3⟩:=e;simp[m_]at rx;cases c;exact⟨z,rz,fun w=>by simp[execOp,Z,e1,e3,rx,asBool]⟩;exact⟨y,ry,fun w=>by simp[execOp,Z,e1,e2,rx,asBool]⟩;cases K
theorem Jc{o:Oper}{ρ:Operand->Value}{b Z:Nat}(K:bL P o.op .e=true)(hv:h_ m [.u b Z] (OV ρ o.op)):PS P m o ρ (.u b Z):=by simp[bL]at K;split at K;rename_i p hy;let⟨x,e,r⟩:=cF hv;rw[hy]at e;simp[Op.operands]at e;have r0:=r;obtain⟨ab,hm,rfl⟩:=r;exact⟨_,r0,fun w=>by simp[execOp,hy,e]⟩;cases K
theorem FP{o:Oper}{ρ:Operand->Value}{f:FuncId}{a c:List V}(Z:bL P o.op .e=true)(hv:h_ m [.I (.func f) a c] (OV ρ o.op)):PS P m o ρ (.I (.func f) a c):=by simp[bL]at Z;split at Z;rename_i p K;let⟨x,e,r⟩:=cF hv;rw[K]at e;simp[Op.operands]at e;have r0:=r;obtain⟨f',c',rfl,_⟩:=r;exact⟨_,r0,fun w=>by simp[execOp,K,e]⟩;cases Z
theorem OJ{o:Oper}{ρ:Operand->Value}{op:BinOp}{k k':IntKind}{a b:Int}{v:V}(hc:bL P o.op (.h op)=true)(hv:h_ m [.C k a,.C k' b] (OV ρ o.op))
 (h:(bif lE k k' then jw op k a b else none)=some v):PS P m o ρ v:=by
 cases hk:lE k k';grind;rw[hk]at h;simp at h;have:=mK hk;subst this;simp[bL]at hc;split at hc;rename_i b' t x y yt hy;have hb:op=b':=by simpa using hc
 subst hb;let⟨x',y',e,rx,ry⟩:=cN hv;rw[hy]at e;change[ρ x,ρ y]=[x',y']at e;simp at e;simp[m_]at rx ry;let⟨z,_,rz,_⟩:=AD h P default t;refine⟨z,rz m,fun w=>?_⟩;let⟨z',hz,ab,_⟩:=AD h P w t;have:z'=z:=by
  have K:=rz m;have Z:=ab m;cases v with
  |C k n=>simp[m_]at K Z;rw[K,Z]
  |h b=>simp[m_]at K Z;rw[K,Z]
  |_=>cases op<;>simp[jw]at h<;>first|(cases h;done)|(cases hq:Zl b 0<;>rw[hq]at h<;>cases h)
 rw[<-this];simp[execOp,hy,e.1,e.2,rx,ry,rV,hz];cases hc
theorem OE{o:Oper}{ρ:Operand->Value}{left:Bool}{k k':IntKind}{a b:Int}{v:V}(Z:bL P o.op (.F left)=true)(hv:h_ m [.C k a,.C k' b] (OV ρ o.op))
 (h:uC left k a b=some v):PS P m o ρ v:=by
 simp[bL]at Z;split at Z;rename_i b' t x y yt hy;have hb:b'=bif left then BinOp.shl else BinOp.shr:=by simpa using Z
 let⟨x',y',e,rx,ry⟩:=cN hv;rw[hy]at e;change[ρ x,ρ y]=[x',y']at e;simp at e;simp[m_]at rx ry;let⟨z,_,rz,_⟩:=uB (k':=k') h P default t;refine⟨z,rz m,fun w=>?_⟩;let⟨z',hz,ab,_⟩:=uB (k':=k') h P w t;have:z'=z:=by
  have K:=rz m;have r2:=ab m;cases b with
  |ofNat n=>simp only[uC,Vl]at h;subst h;simp only[m_]at K r2;rw[K,r2]
  |negSucc n=>cases h
 rw[<-this];subst hb;simp[execOp,hy,e.1,e.2,rx,ry,rV,hz];cases Z
theorem Nr{o:Oper}{ρ:Operand->Value}{b:Bool}(Z:bL P o.op .x=true)(hv:h_ m [.h b] (OV ρ o.op)):PS P m o ρ (.h (!b)):=by simp[bL]at Z;split at Z;rename_i t p K;let⟨x,e,r⟩:=cF hv;rw[K]at e;simp[Op.operands]at e;simp[m_]at r;exact⟨.bool (!b),rfl,fun w=>by simp[execOp,K,e,r,Op.unary]⟩;cases Z
theorem Nu{o:Oper}{ρ:Operand->Value}{k:IntKind}{n:Int}(Z:bL P o.op .J=true)(hv:h_ m [.C k n] (OV ρ o.op)):PS P m o ρ (.C k (bF k (Int.sub 0 n))):=by simp[bL]at Z;split at Z;rename_i t p K;let⟨x,e,r⟩:=cF hv;rw[K]at e;simp[Op.operands]at e;simp[m_]at r;exact⟨.int k (k.wrap (0-n)),by rw[dO];rfl,fun w=>by simp[execOp,K,e,r,Op.unary,Op.intArith]⟩;cases Z
theorem Lk{o:Oper}{ρ:Operand->Value}{k:IntKind}{n:Int}{v:V}(Z:bL P o.op .G=true)(hv:h_ m [.C k n] (OV ρ o.op))
 (h:jw .xor k (bif k.signed then-1 else k.max) n=some v):PS P m o ρ v:=by
 simp[bL]at Z;split at Z;rename_i t p K;let⟨x,e,r⟩:=cF hv;rw[K]at e;simp[Op.operands]at e;simp[m_]at r;simp only[jw,Vl]at h;subst h;refine⟨.int k (k.wrap (BitVec.toNat (BitVec.ofInt k.bits (if k.signed then-1 else k.max)^^^BitVec.ofInt k.bits n))),?_,fun w=>by simp only[execOp,K,e,r,Op.unary,Op.intBits];rfl⟩;rw[dO];simp only[m_];congr 6;cases k.signed<;>rfl
 cases Z
theorem uO{t:TypeId}(Z:P.underlying t=some .bool){w:World}(a b:Bool)(d:Nat):(Op.equalIn (d+1) t (.bool a) (.bool b)).run P w=.ok (a==b) w:=by simp only[Op.equalIn,Vr,aI Z,Vh];rfl
theorem OK{o:Oper}{ρ:Operand→Value}{ne a b:Bool}(K:bL P o.op (.K ne)=true)(hv:h_ m [.h a,.h b] (OV ρ o.op)):PS P m o ρ (.h (bif ne then xor a b else !(xor a b))):=by
 simp[bL]at K;split at K;rename_i b' t x y yt hy;simp at K;let⟨hb,hu⟩:=K;have ab:P.underlying t=some .bool:=by grind
 let⟨x',y',e,rx,ry⟩:=cN hv;rw[hy]at e;change[ρ x,ρ y]=[x',y']at e;simp at e;simp[m_]at rx ry;refine⟨_,rfl,fun w=>?_⟩;have Z:(Op.equal t (.bool a) (.bool b)).run P w=.ok (a==b) w:=uO ab a b 9999;subst hb;cases ne;simp at hy;simp only[cond_false,execOp,hy,e.1,e.2,rx,ry,Sem.run_bind,pY,Result.andThen_ok];have:binOp BinOp.eql t (.bool a) (.bool b)=(do pure (.bool (←Op.equal t (.bool a) (.bool b)))):=rfl;rw[this];simp only[Sem.run_bind,Z,Result.andThen_ok];cases a<;>cases b<;>rfl
 simp at hy;simp only[cond_true,execOp,hy,e.1,e.2,rx,ry,Sem.run_bind,pY,Result.andThen_ok];have:binOp BinOp.neq t (.bool a) (.bool b)=(do pure (.bool (!(←Op.equal t (.bool a) (.bool b))))):=rfl;rw[this];simp only[Sem.run_bind,Z,Result.andThen_ok];cases a<;>cases b<;>rfl
 cases K
theorem Ns{o:Oper}{ρ:Operand->Value}{kd:Nat}{ne:Bool}{a b:V}{r:Bool}(K:bL P o.op (.l kd ne)=true)(hv:h_ m [a,b] (OV ρ o.op))(h:kU kd a b=some r):
 PS P m o ρ (.h (bif ne then !r else r)):=by
 simp[bL]at K;split at K;rename_i b' t x y yt Z;simp only[Vd,decide_eq_true_eq]at K;let⟨⟨hb,hk⟩,ac⟩:=K;let⟨x',y',e,rx,ry⟩:=cN hv;rw[Z]at e;change[ρ x,ρ y]=[x',y']at e;simp at e;refine⟨_,rfl,fun w=>?_⟩;have ab:(Op.equal t x' y').run P w=.ok r w:=EC h hk rx ry 9999;have hg:(eqGuard b' t x y x' y').run P w=.ok () w:=Aq h rx ry ac;let⟨b1,b2⟩:=ED h rx ry t;subst hb;cases ne;simp at hg Z|-;simp only[execOp,Z,e.1,e.2,Vr,hg,Vh,b1,ab];rfl;simp at hg Z|-;simp only[execOp,Z,e.1,e.2,Vr,hg,Vh,b2,ab];rfl;cases K
theorem Jh{o:Oper}{ρ:Operand->Value}{K b k:Nat}(Z:bL P o.op (.b K)=true)(hv:h_ m [.u b k] (OV ρ o.op)):PS P m o ρ (.u b (k+K)):=by
 simp[bL]at Z;split at Z;rename_i s x f hy;let⟨x',e,r⟩:=cF hv;rw[hy]at e;simp[Op.operands]at e;obtain⟨ae,hm,rfl⟩:=r;unfold Ds at Z;split at Z;rename_i ab hu;split at Z;rename_i fd hf;simp only[Vd]at Z;let⟨ho,hi⟩:=Z;split at hi;rename_i i ac;have hs:¬i.size=0:=by intro q;rw[q]at hi;simp at hi
 refine⟨_,⟨ae,hm,rfl⟩,fun w=>?_⟩;have:=Vf ho;simp[execOp,hy,e,Instr.fieldAt,aI hu,hf,Instr.sureAddr,fieldPlace,sizeOf,eh ac,hs,iW,this,WJ];cases hi;cases Z;cases Z;cases Z
end
section
variable {P : Program} {m : M}
theorem h_.bJ{l:List V}{l':List Value}(h:h_ m l l')(n:Nat):h_ m (l.take n) (l'.take n):=by refine h_.aq (by simp[h.T]) fun i v Z=>?_;rw[Xd]at Z|-;split at Z;rename_i K;rw[if_pos K];exact h.c_ i v Z;cases Z
theorem h_.bI{l:List V}{Z:List Value}(h:h_ m l Z)(n:Nat):h_ m (l.drop n) (Z.drop n):=by refine h_.aq (by simp[h.T]) fun i v K=>?_;rw[Wh]at K|-;exact h.c_ _ v K
def Br(l:List V)(off n:Nat)(isAgg:Bool):Option V:=bif isAgg then(dL n (gJ l off)).map .B else X0 l off
theorem Al{l:List V}{l':List Value}{Z n:Nat}{K:Bool}{v:V}{t:TypeId}(h:Br l Z n K=some v)(r:h_ m l l')(hs:dR P t n=true)(ha:qo P t K=true):
 ∃x,m_ m v x/\∀w,(part t (List.toArray l') Z).run P w=.ok x w:=by
 unfold Br at h;cases K;simp at h;rw[gN]at h;let⟨x,hx,rx⟩:=r.c_ Z v h;refine⟨x,rx,fun w=>?_⟩;simp[part,jk ha,hx];simp only[cond_true]at h;cases ht:dL n (gJ l Z)with
 |none=>rw[ht]at h;cases h
 |some c=>rw[ht]at h;cases h;obtain⟨rfl,hn⟩:=kL ht;rw[bR];refine⟨.agg (List.toArray ((l'.drop Z).take n)),⟨_,rfl,(r.bI Z).bJ n⟩,fun w=>?_⟩;simp only[part,Vr,jk ha,Vh,if_true,cQ hs,Vz];congr 2;apply YU;simp
theorem Jg{o:Oper}{ρ:Operand->Value}{K n:Nat}{ia:Bool}{l:List V}{v:V}(Z:bL P o.op (.u K n ia)=true)(hv:h_ m [.B l] (OV ρ o.op))
 (h:Br l K n ia=some v):PS P m o ρ v:=by
 simp[bL]at Z;split at Z;rename_i s x f hy;let⟨x',e,r⟩:=cF hv;rw[hy]at e;simp[Op.operands]at e;obtain⟨l',rfl,rl⟩:=r;unfold Dr at Z;split at Z;rename_i ab hu;split at Z;rename_i fd hf;simp only[Vd]at Z;let⟨⟨ho,hs⟩,ha⟩:=Z;have ac:=Vf ho;let⟨x,rx,hx⟩:=Al h rl hs ha;exact⟨x,rx,fun w=>by simp[execOp,hy,e,Instr.field,aI hu,hf,asAgg,ac,hx]⟩;cases Z;cases Z;cases Z
theorem rE{v:V}{len n:Nat}(h:lY v len=some n):∃k,v=.C k (.ofNat n)/\n<len:=by unfold lY at h;split at h;rename_i k K;cases Z:Nat.blt K len;grind;rw[Z]at h;cases h;exact⟨k,rfl,by simpa[VE]using Z⟩;cases h
theorem oY{t:TypeId}{esz:Nat}(h:lP P t none esz=true):∃e,P.underlying t=some (.slice e)/\dR P e esz=true:=by unfold lP at h;split at h<;>simp_all
theorem AZ{t:TypeId}{n esz:Nat}(h:lP P t (some n) esz=true):∃e,P.underlying t=some (.array n e)/\dR P e esz=true:=by
 unfold lP at h;split at h
 simp_all
 rename_i n0 n' e Z K;simp at Z;subst Z;simp only[Vd]at h;have:=Vf h.1;subst this;exact⟨e,K,h.2⟩;cases h
theorem Nx{o:Oper}{ρ:Operand->Value}{len esz b k n:Nat}{i:V}(Z:bL P o.op (.g len esz)=true)(hv:h_ m [.u b k,i] (OV ρ o.op))
 (h:lY i len=some n):PS P m o ρ (.u b (k+n*esz)):=by
 simp[bL]at Z;split at Z;rename_i t x y hy;let⟨x',y',e,rx,ry⟩:=cN hv;rw[hy]at e;change[ρ x,ρ y]=[x',y']at e;simp at e;obtain⟨K,hm,rfl⟩:=rx;obtain⟨ik,rfl,ab⟩:=rE h;simp only[m_]at ry;let⟨e',hu,hs⟩:=AZ Z;refine⟨_,⟨K,hm,rfl⟩,fun w=>?_⟩;have h1:(0:Int)<=Int.ofNat n/\Int.ofNat n<(len:Int):=by grind
 simp only[execOp,hy,e.1,e.2,ry,Instr.indexAt,asIntOf,Instr.sureAddr,Vr,Vz,aI hu,Vh];rw[if_pos h1];simp[cQ hs,iW,WJ];cases Z
theorem Je{o:Oper}{ρ:Operand->Value}{esz b k len n:Nat}{i s:V}{Z:V1}(hm:m b=some Z)(K:bL P o.op (.c esz)=true)(hv:h_ m [s,i] (OV ρ o.op))
 (hs:∀x,m_ m s x->∃c,x=.slice (some ⟨Z.a,Z.b+k,none⟩) len c) (h:lY i len=some n):PS P m o ρ (.u b (k+n*esz)):=by
 simp[bL]at K;split at K;rename_i t x y hy;let⟨x',y',e,rx,ry⟩:=cN hv;rw[hy]at e;change[ρ x,ρ y]=[x',y']at e;simp at e;obtain⟨c,rfl⟩:=hs _ rx;obtain⟨ik,rfl,ab⟩:=rE h;simp only[m_]at ry;let⟨e',hu,ac⟩:=oY K;refine⟨_,⟨Z,hm,rfl⟩,fun w=>?_⟩;have h1:(0:Int)<=Int.ofNat n/\Int.ofNat n<(len:Int):=by grind
 simp only[execOp,hy,e.1,e.2,ry,Instr.indexAt,asIntOf,Instr.sureAddr,Vr,Vz,aI hu,Vh];rw[if_pos h1];simp[cQ ac,iW,WJ];cases K
theorem Jf{o:Oper}{ρ:Operand->Value}{len esz n:Nat}{K:Bool}{l:List V}{i v:V}(Z:bL P o.op (.f len esz K)=true)(hv:h_ m [.B l,i] (OV ρ o.op))
 (h:lY i len=some n) (h2:Br l (n*esz) esz K=some v):PS P m o ρ v:=by
 simp[bL]at Z;split at Z;rename_i t x y hy;let⟨x',y',e,rx,ry⟩:=cN hv;rw[hy]at e;change[ρ x,ρ y]=[x',y']at e;simp at e;obtain⟨l',rfl,rl⟩:=rx;obtain⟨ik,rfl,ab⟩:=rE h;simp only[m_]at ry;split at Z;rename_i n' e' hu;simp only[Vd]at Z;have hn:=Vf Z.1.1;subst hn;let⟨z,rz,hz⟩:=Al h2 rl Z.1.2 Z.2;refine⟨z,rz,fun w=>?_⟩;have h1:(0:Int)<=Int.ofNat n/\Int.ofNat n<(n':Int):=by grind
 simp only[execOp,hy,e.1,e.2,ry,Instr.index,asIntOf,Vr,Vz,aI hu,Vh];rw[if_pos h1];simp[cQ Z.1.2,hz];cases Z;cases Z
theorem Ny{o:Oper}{ρ:Operand->Value}{i:Nat}{l:List V}{v:V}(Z:bL P o.op (.v i)=true)(hv:h_ m [.G l] (OV ρ o.op))(h:X0 l i=some v):PS P m o ρ v:=by simp[bL]at Z;split at Z;rename_i x j K;let⟨x',e,r⟩:=cF hv;rw[K]at e;simp[Op.operands]at e;obtain⟨l',rfl,rl⟩:=r;have:=Vf Z;subst this;rw[gN]at h;let⟨x,hx,rx⟩:=rl.c_ i v h;exact⟨x,rx,fun w=>by simp[execOp,K,e,Instr.extract,hx]⟩;cases Z
theorem Nw{o:Oper}{ρ:Operand->Value}{fn:Fn}{n:Nat}{vs f:List V}(Z:bL P o.op (.B fn n)=true)(hv:h_ m vs (OV ρ o.op))(h:dL n vs=some f):PS P m o ρ (.I fn f (gJ vs n)):=by
 simp[bL]at Z;split at Z;rename_i ab first cap hy
 simp only[Vd,decide_eq_true_eq]at Z;obtain⟨rfl,hn⟩:=Z;have K:=Vf hn;obtain⟨rfl,_⟩:=kL h;rw[bR];rw[hy]at hv;have ho:OV ρ (.makeFunc fn first cap)=(first.toList.map ρ)++(cap.toList.map ρ):=by simp[OV,Op.operands]
 rw[ho]at hv;have h1:=hv.bJ n;have h2:=hv.bI n;have hl:(first.toList.map ρ).length=n:=by simp[K]
 rw[List.take_left' hl]at h1;rw[List.drop_left' hl]at h2;exact⟨.func fn (List.toArray (first.toList.map ρ)) (List.toArray (cap.toList.map ρ)),⟨_,_,rfl,h1,h2⟩,fun w=>by
  have q:∀a:Array Operand,Array.map ρ a=List.toArray (a.toList.map ρ):=fun a=>YU iS;simp[execOp,hy,Instr.makeFunc,q]⟩
 cases Z
theorem Nv{o:Oper}{ρ:Operand->Value}{t:Nat}{v:V}(Z:bL P o.op (.L t)=true)(hv:h_ m [v] (OV ρ o.op)):PS P m o ρ (.ah t v):=by
 simp[bL]at Z;split at Z;rename_i t' x K;let⟨x',e,r⟩:=cF hv;rw[K]at e;simp[Op.operands]at e;simp only[Vd]at Z;have:=Vf Z.1;subst this;refine⟨.iface t x',⟨x',rfl,r⟩,fun w=>?_⟩;let⟨_,Z⟩:=Z;split at Z;cases Z;rename_i d hd hu;simp only[execOp,K,e,Instr.makeInterface,Vr,aI hu,Vh];cases d<;>first|rfl|exact absurd rfl (hd _)
 cases Z;cases Z
theorem pI{op:Op}{b:Builtin}{ok:TypeDesc->Bool}(h:oL P op b ok=true):∃x ts t d,op=.call {callee:=.builtin b,args:= #[x],argTypes:=ts}/\ts[0]? =some t/\P.underlying t=some d/\ok d=true:=by
 unfold oL at h;split at h;rename_i args ts Z;simp only[Vd]at h;let⟨h1,h2⟩:=h;split at h2;rename_i t ht;split at h2;rename_i d hd;unfold gq at Z;split at Z;rename_i b' K ab;split at Z;rename_i hb;subst hb;simp at Z;obtain⟨rfl,rfl⟩:=Z;have hs:=Vf h1;let⟨l⟩:=K;match l,hs with
 |[x],_=>exact⟨x,ab,t,d,rfl,ht,hd,h2⟩
 cases Z;cases Z;cases h2;cases h2;cases h
theorem qw{o:Oper}{ρ:Operand->Value}{s:V}{len:Nat}(Z:bL P o.op .d=true)(hv:h_ m [s] (OV ρ o.op))
 (K:∀x,m_ m s x->∃a c,x=.slice a len c):PS P m o ρ (.C .i64 len):=by
 let⟨x,ts,t,d,hy,ht,hu,hd⟩:=pI Z;let⟨x',e,r⟩:=cF hv;rw[hy]at e;simp[Op.operands,Call.operands]at e;obtain⟨a,c,rfl⟩:=K _ r;refine⟨_,rfl,fun w=>?_⟩;cases d<;>simp at hd;simp[execOp,hy,resolve,invoke,builtin,Builtin.len_,ht,e,aI hu,goInt]
theorem FU{o:Oper}{ρ:Operand->Value}{s:V}{n:Nat}(Z:bL P o.op (.y n)=true)(hv:h_ m [s] (OV ρ o.op)):PS P m o ρ (.C .i64 n):=by let⟨x,ts,t,d,hy,ht,hu,K⟩:=pI Z;refine⟨_,rfl,fun w=>?_⟩;cases d<;>simp at K;subst K;simp[execOp,hy,resolve,invoke,builtin,Builtin.len_,ht,aI hu,goInt]
theorem D6{o:Oper}{ρ:Operand->Value}{s:V}{cap:Nat}(Z:bL P o.op .z=true)(hv:h_ m [s] (OV ρ o.op))
 (K:∀x,m_ m s x->∃a l,x=.slice a l cap):PS P m o ρ (.C .i64 cap):=by
 let⟨x,ts,t,d,hy,ht,hu,hd⟩:=pI Z;let⟨x',e,r⟩:=cF hv;rw[hy]at e;simp[Op.operands,Call.operands]at e;obtain⟨a,c,rfl⟩:=K _ r;refine⟨_,rfl,fun w=>?_⟩;cases d<;>simp at hd;simp[execOp,hy,resolve,invoke,builtin,Builtin.cap_,ht,e,aI hu,goInt]
theorem FV{o:Oper}{ρ:Operand->Value}{s:V}{n:Nat}(Z:bL P o.op (.D n)=true)(hv:h_ m [s] (OV ρ o.op)):PS P m o ρ (.C .i64 n):=by let⟨x,ts,t,d,hy,ht,hu,K⟩:=pI Z;refine⟨_,rfl,fun w=>?_⟩;cases d<;>simp at K;subst K;simp[execOp,hy,resolve,invoke,builtin,Builtin.cap_,ht,aI hu,goInt]
theorem CP{op:Op}{b:Builtin}(h:(match gq op b with|some (args,_)=>Nat.beq args.size 2|none=>false)=true):∃x y ts,op=.call {callee:=.builtin b,args:= #[x,y],argTypes:=ts}:=by
 split at h;rename_i args ts Z;unfold gq at Z;split at Z;rename_i b' K ab;split at Z;rename_i hb;subst hb;simp at Z;obtain⟨rfl,rfl⟩:=Z;have hs:=Vf h;let⟨l⟩:=K;match l,hs with
 |[x,y],_=>exact⟨x,y,ab,rfl⟩
 cases Z;cases Z;cases h
theorem OI{o:Oper}{ρ:Operand->Value}{k k':IntKind}{a b:Int}(Z:bL P o.op .H=true)(hv:h_ m [.C k a,.C k' b] (OV ρ o.op)):PS P m o ρ (.C k (bif e? b a then b else a)):=by
 let⟨x,y,ts,hy⟩:=CP Z;let⟨x',y',e,rx,K⟩:=cN hv;rw[hy]at e;change[ρ x,ρ y]=[x',y']at e;simp at e;simp[m_]at rx K;refine⟨.int k (if b<a then b else a),?_,fun w=>?_⟩;rw[jv];by_cases h:b<a<;>simp[m_]
 simp[execOp,hy,resolve,invoke,builtin,Builtin.min_,e.1,e.2,rx,K,Builtin.min2]
theorem OG{o:Oper}{ρ:Operand->Value}{k k':IntKind}{a b:Int}(Z:bL P o.op .E=true)(hv:h_ m [.C k a,.C k' b] (OV ρ o.op)):PS P m o ρ (.C k (bif e? a b then b else a)):=by
 let⟨x,y,ts,hy⟩:=CP Z;let⟨x',y',e,rx,K⟩:=cN hv;rw[hy]at e;change[ρ x,ρ y]=[x',y']at e;simp at e;simp[m_]at rx K;refine⟨.int k (if b>a then b else a),?_,fun w=>?_⟩;rw[jv];by_cases h:a<b<;>simp[m_]
 simp[execOp,hy,resolve,invoke,builtin,Builtin.max_,e.1,e.2,rx,K,Builtin.max2]
theorem Lj{o:Oper}{ρ:Operand->Value}{k k':IntKind}{n:Int}(Z:bL P o.op (.r k)=true)(hv:h_ m [.C k' n] (OV ρ o.op)):PS P m o ρ (.C k (bF k n)):=by
 simp[bL]at Z;split at Z;rename_i s d x hy;let⟨x',e,r⟩:=cF hv;rw[hy]at e;simp[Op.operands]at e;simp[m_]at r;simp[Dl,LR]at Z;let⟨h1,K⟩:=Z;let⟨ds,ab⟩:=XD.1 h1;split at K;rename_i k2 hd;have:=mK K;subst this;refine⟨.int k (k.wrap n),by rw[dO];rfl,fun w=>?_⟩;simp only[execOp,hy,e,r,convert,Vr,aI ab,aI hd,Vh];cases ds<;>rfl
 cases K;cases Z
end
section
variable {P : Program} {m : M}
theorem Kq(Z:Nat):∀(l:List Value)(k:Nat)(cs:Array Value),
 ((l.zipIdx k).foldl (fun(cs:Array Value)(p:Value×Nat)=>cs.setIfInBounds (Z+p.2) p.1) cs).size=cs.size/\
 ∀j:Nat,j<cs.size->((l.zipIdx k).foldl (fun(cs:Array Value)(p:Value×Nat)=>cs.setIfInBounds (Z+p.2) p.1) cs)[j]? =if Z+k<=j/\j<Z+k+l.length then l[j-(Z+k)]? else cs[j]? :=by
 intro l;induction l with
 |nil=>intro k cs;refine⟨rfl,fun j _=>?_⟩;rw[if_neg iS];rfl
 |cons x l ih=>intro k cs;simp only[List.zipIdx_cons,List.foldl_cons];let⟨h1,h2⟩:=ih (k+1) (cs.setIfInBounds (Z+k) x);refine⟨by rw[h1];simp,fun j K=>?_⟩;rw[h2 j (eV K)];simp only[Vy];by_cases e:j=Z+k;grind;grind
theorem uL(K:Nat->Option (Nat×Nat)):∀(qs:List (Nat×Nat))(vs:List V)(ps:List (Nat×Value))(c:List V)(c':List Value)(r:List V),
 dY c qs vs=some r->h_ m c c'->h_ m vs (ps.map (·.2))->ps.map (fun p=>K p.1)=qs.map some->
 ∃r',Instr.fill K (List.toArray c') ps=some (List.toArray r')/\h_ m r r':=by
 intro qs;induction qs with
 |nil=>
  intro vs ps c c' r h hc hv hp;cases vs with
  |nil=>
   cases ps with
   |nil=>simp[dY]at h;subst h;exact⟨c',rfl,hc⟩
   |cons p ps=>simp at hp
  |cons v vs=>simp[dY]at h
 |cons q qs ih=>
  intro vs ps c c' r h hc hv hp;let⟨Z,size⟩:=q;cases vs with
  |nil=>simp[dY]at h
  |cons v vs=>
   cases ps with
   |nil=>simp at hp
   |cons p ps=>
    let⟨i,x⟩:=p;simp at hp;let⟨x',ay,e,rx,ax⟩:=hv;simp at e;obtain⟨rfl,rfl⟩:=e;simp[dY]at h;cases hb:(Nat.beq v.s.length size&&Nat.blt 0 size);rw[hb]at h;cases h;rw[hb]at h;simp at h;simp only[Vd,VE]at hb;have af:=Vf hb.1;have hn:v.s≠[]:=by intro q;rw[q]at af;simp at af;omega
    have rc:=rx.P5;have ac:=rc.T;cases hu:bq c Z v.s with
    |none=>rw[hu]at h;cases h
    |some c1=>
     rw[hu]at h;simp at h;let⟨u1,u2,u3⟩:=wb _ _ _ _ hu;have ak:=hc.T
     -- the model's step
     let⟨f1,f2⟩:=Kq Z x.cells.toList 0 (List.toArray c');let F:=(x.cells.toList.zipIdx 0).foldl (fun(cs:Array Value)(p:Value×Nat)=>cs.setIfInBounds (Z+p.2) p.1) (List.toArray c');have ae:h_ m c1 F.toList:=by
      refine h_.aq ?_ fun j u hj=>?_;show F.toList.length=_;rw[Array.length_toList,u1];exact f1.trans iX;have aj:j<c.length:=by obtain q|q:=Wt j c.length;exact q;rw[Wu oM]at hj;cases hj
      rw[u3 j]at hj;have:=f2 j oO;simp only[Xm]at this;have e:F.toList[j]? =F[j]? :=by simp
      rw[e,show F[j]? =_ from this,ac];split at hj;rename_i ab;rw[if_pos ab];exact rc.c_ _ _ hj;rename_i ab;rw[if_neg ab];let⟨y,hy,ry⟩:=hc.c_ _ _ hj;exact⟨y,by simpa using hy,ry⟩
     let⟨r',ar,an⟩:=ih vs ps c1 F.toList r h ae ax hp.2;refine⟨r',?_,an⟩;simp only[Instr.fill,hp.1];rw[if_neg];have e:(x.cells.zipIdx.foldl (fun(cs:Array Value)(p:Value×Nat)=>cs.setIfInBounds (Z+p.2) p.1) (List.toArray c'))=F:=by rw[<-Array.foldl_toList];simp[F]
     rw[show(x.cells.zipIdx.foldl (fun cs (c,j)=>cs.setIfInBounds (Z+j) c) (List.toArray c'))=F from e];simpa using ar;simp at ac;have:=u2 hn;simp;constructor<;>omega
theorem Ar{α β:Type}{f:α→Option β}(d:β):∀{l:List α},(∀x∈l,∃y,f x=some y)→l.mapM f=some (l.map fun x=>(f x).getD d)
 |[],_=>rfl
 |x::l,h=>by let⟨y,hy⟩:=h x iS;simp[List.mapM_cons,hy,Ar d (l:=l) fun z hz=>h z iX]
theorem FB{t:TypeId}{zero:List V}{Z:List (Nat×Nat)}{K:List (Nat×Operand)}{ρ:Operand->Value}{vs c:List V}
 (hz:jR P t zero=true) (hp:ew P t K Z=true) (hs:yn P t=true) (hv:h_ m vs (K.map fun p=>ρ p.2)) (h:dY zero Z vs=some c):
 ∃c',P.built t (K.map fun p=>(p.1,ρ p.2))=some (List.toArray c')/\h_ m c c':=by
 unfold jR at hz;split at hz;rename_i it ak;split at hz;rename_i z ar;have an:h_ m zero z.cells.toList:=dK m _ _ hz;have aj:h_ m vs ((K.map fun p=>(p.1,ρ p.2)).map (·.2)):=by simpa[YV]using hv
 unfold yn at hs;split at hs;rename_i ac hu;have ax:∀f∈ac.toList,∃y,(P.info? f.type).map (fun i=>(f.offset,i.size))=some y:=by intro f hf;have:=Wo.1 hs f hf;let⟨i,hi⟩:=XD.1 this;exact⟨_,by rw[hi];rfl⟩
 have ay:=Ar (f:=fun f:Field=>(P.info? f.type).map fun i=>(f.offset,i.size)) ((0:Nat),(0:Nat)) ax;have af:∀(qs:List (Nat×Nat))(ps:List (Nat×Operand)),ew P t ps qs=true->
  (ps.map fun p=>(p.1,ρ p.2)).map (fun p=>(List.toArray (ac.toList.map fun x=>((P.info? x.type).map fun i=>(x.offset,i.size)).getD (0,0)))[p.1]?)=qs.map some:=by
  intro qs;induction qs with
  |nil=>intro ps ab;cases ps with
   |nil=>rfl
   |cons p ps=>simp[ew]at ab
  |cons q qs ih=>intro ps ab;cases ps with
   |nil=>simp[ew]at ab
   |cons p ps=>
    let⟨i,x⟩:=p;let⟨a2,n⟩:=q;simp[ew,hu]at ab;let⟨h1,h2⟩:=ab;split at h1;rename_i fd a0;simp only[Vd]at h1;have ae:=Vf h1.1;have hsi:=h1.2;unfold dR at hsi;split at hsi;rename_i i' aH;have hn:=Vf hsi;simp only[VT,Vw];refine⟨?_,ih ps h2⟩;have:ac.toList[i]? =some fd:=by simpa using a0
    simp[this,aH,ae,hn];cases hsi;cases h1
 let⟨r',h1,h2⟩:=uL _ Z vs _ zero z.cells.toList c h an aj (af Z K hp);refine⟨r',?_,h2⟩;unfold Program.built;simp only[ak,hu,ar,ay];exact(by simpa using h1:Instr.fill _ z.cells _=_);rename_i n e hu;let⟨ie,a1⟩:=XD.1 hs;have af:∀(qs:List (Nat×Nat))(ps:List (Nat×Operand)),ew P t ps qs=true->
  (ps.map fun p=>(p.1,ρ p.2)).map (fun p=>some (p.1*ie.size,ie.size))=qs.map some:=by
  intro qs;induction qs with
  |nil=>intro ps ab;cases ps with
   |nil=>rfl
   |cons p ps=>simp[ew]at ab
  |cons q qs ih=>intro ps ab;cases ps with
   |nil=>simp[ew]at ab
   |cons p ps=>let⟨i,x⟩:=p;let⟨a2,n⟩:=q;simp only[ew,hu,Vd]at ab;let⟨⟨h1,h3⟩,h2⟩:=ab;have ae:=Vf h1;unfold dR at h3;rw[a1]at h3;have hn:=Vf h3;simp only[VT,Vw];refine⟨?_,ih ps h2⟩;simp[ae,<-hn]
 let⟨r',h1,h2⟩:=uL (fun i=>some (i*ie.size,ie.size)) Z vs _ zero z.cells.toList c h an aj (af Z K hp);refine⟨r',?_,h2⟩;unfold Program.built;simp[ak,hu,ar,a1];simpa using h1;cases hs;cases hz;cases hz
theorem Ji{o:Oper}{ρ:Operand->Value}{zero:List V}{Z:List (Nat×Nat)}{vs c:List V}(hc:bL P o.op (.a zero Z)=true)(hv:h_ m vs (OV ρ o.op))
 (h:dY zero Z vs=some c):PS P m o ρ (.B c):=by
 simp[bL]at hc;split at hc;rename_i t K hy;simp at hc;let⟨⟨h1,h2⟩,h3⟩:=hc;rw[hy]at hv;have ab:h_ m vs (K.toList.map fun p=>ρ p.2):=by simpa[OV,Op.operands,YV]using hv
 let⟨c',hb,rc⟩:=FB h1 h2 h3 ab h;refine⟨.agg (List.toArray c'),⟨c',rfl,rc⟩,fun w=>?_⟩;have:=run_build (P:=P) w t (K.map fun(i,x)=>(i,ρ x)) (List.toArray c') (eV hb);simp[execOp,hy,this];cases hc
end
end Go.Ev
namespace Go.Ev
abbrev Vi:=@Go.Ev.T.x_
abbrev VS:=@Go.Ev.T.N_
abbrev WA:=@m_.ag
abbrev WB:=@Go.Ev.T.S1
abbrev Xw:=@h_.aA
abbrev Xx:=@P9.b
abbrev XY:=@T6.a
end Go.Ev
