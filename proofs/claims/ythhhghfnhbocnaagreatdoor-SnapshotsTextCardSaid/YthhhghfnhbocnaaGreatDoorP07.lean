/- An evaluator of the program, and contracts over it: EvSt to StS. -/
import Derived.Below
import Derived.Laws.RangeString
import Derived.Laws.RangeAny
import Derived.Test.YthhhghfnhbocnaaGreatDoorP04
import Derived.Test.YthhhghfnhbocnaaGreatDoorP05
import Derived.Test.YthhhghfnhbocnaaGreatDoorP06
set_option linter.unusedSimpArgs false
set_option linter.unusedVariables false
set_option linter.constructorNameAsVariable false
set_option linter.unnecessarySimpa false
namespace Go.Ev
theorem Kept.mono{m m':M}{b:Nat}{o o':Option Obj}(a:Kept m b o o')(h:∀j,Cov m b j→Cov m' b j):Kept m' b o o':=by
  intro x hx;obtain⟨x',hx',a⟩:=a x hx;refine⟨x',hx',?_⟩;cases x with
  |cells c t fr=>
    cases x' with
    |cells c' t' fr'=>exact⟨a.1,a.2.1.imp id (fun⟨j,x,y,z⟩=>⟨j,x,y,h j z⟩),a.2.2.1,fun j hj=>a.2.2.2 j fun q=>hj (h j q)⟩
    |_=>simp at a
  |map es k=>
    cases x' with
    |map es' k'=>trivial
    |_=>simp at a
  |loop r=>
    cases x' with
    |loop r'=>trivial
    |_=>simp at a
  |stringIter z k=>
    cases x' with
    |stringIter z' k'=>trivial
    |_=>simp at a
  |_=>simp at a;subst a;rfl
def oB{α:Type}(f:α→Bool):Option α→Bool
  |some a=>f a
  |none=>true
/-- all entries of a map fit -/
noncomputable def T.allT{α:Type}(t:T α):(Nat→α→Bool)→Bool:=
  T.rec (motive:=fun _=>(Nat→α→Bool)→Bool) (fun _=>true)
    (fun _ v _ gl gr p=>oB (p 0) v&&gl (fun i=>p (2*i+1))&&gr (fun i=>p (2*i+2))) t
theorem T.allT_get{α:Type}:∀(t:T α)(p:Nat→α→Bool),t.allT p=true→∀i a,t.get i=some a→p i a=true
  |.e,_,_,_,_,h=>by cases h
  |.n l v r,p,ht,i,a,h=>by
    have ht':(oB (p 0) v&&l.allT (fun i=>p (2*i+1))&&r.allT (fun i=>p (2*i+2)))=true:=ht;simp only[Bool.and_eq_true]at ht';obtain⟨⟨h1,h2⟩,h3⟩:=ht';cases i with
    |zero=>rw[T.get_n0]at h;subst h;exact h1
    |succ j=>
      rw[T.get_nS]at h;by_cases c:j%2=0
      ·rw[if_pos c]at h;have:=T.allT_get l _ h2 (j/2) a h;rwa[show 2*(j/2)+1=j+1 by omega]at this
      ·rw[if_neg c]at h;have:=T.allT_get r _ h3 (j/2) a h;rwa[show 2*(j/2)+2=j+1 by omega]at this
/-- a map without an entry -/
noncomputable def T.del{α:Type}(t:T α):Nat→T α:=
  T.rec (motive:=fun _=>Nat→T α) (fun _=>.e)
    (fun l v r dl dr i=>Nat.rec (motive:=fun _=>T α) (.n l none r)
      (fun j _=>Nat.rec (motive:=fun _=>T α) (.n (dl (Nat.div j 2)) v r) (fun _ _=>.n l v (dr (Nat.div j 2))) (Nat.mod j 2)) i) t
theorem T.del_nS{α:Type}(l:T α)(v:Option α)(r:T α)(j:Nat):(T.n l v r).del (j+1)=if j%2=0 then .n (l.del (j/2)) v r else .n l v (r.del (j/2)):=by
  show Nat.rec (motive:=fun _=>T α) (.n (l.del (j/2)) v r) (fun _ _=>.n l v (r.del (j/2))) (j%2)=_;have h:j%2=0∨j%2=1:=by omega
  rcases h with h|h<;>rw[h]<;>rfl
theorem T.get_del{α:Type}:∀(t:T α)(i j:Nat),(t.del i).get j=if j=i then none else t.get j
  |.e,i,j=>by
    show none=_;split<;>rfl
  |.n l v r,0,j=>by
    show(T.n l none r).get j=_;cases j with
    |zero=>rw[if_pos rfl];rfl
    |succ j=>rw[if_neg (by omega),T.get_nS,T.get_nS]
  |.n l v r,i+1,j=>by
    rw[T.del_nS];cases j with
    |zero=>
      by_cases c:i%2=0
      ·rw[if_pos c];rfl
      ·rw[if_neg c];rfl
    |succ j=>
      by_cases c:i%2=0
      ·rw[if_pos c,T.get_nS,T.get_nS,T.get_del l];by_cases d:j%2=0
       ·rw[if_pos d,if_pos d];by_cases e:j/2=i/2
        ·rw[if_pos e,if_pos (by omega)]
        ·rw[if_neg e,if_neg (by omega)]
       ·rw[if_neg d,if_neg (by omega),if_neg d]
      ·rw[if_neg c,T.get_nS,T.get_nS,T.get_del r];by_cases d:j%2=0
       ·rw[if_pos d,if_neg (by omega),if_pos d]
       ·rw[if_neg d,if_neg d];by_cases e:j/2=i/2
        ·rw[if_pos e,if_pos (by omega)]
        ·rw[if_neg e,if_neg (by omega)]
mutual
/-- what a value leads to lies in K -/
def vIn(K:Nat→Bool):V→Bool
  |.ptr b _=>K b
  |.slice b _ _ _=>K b
  |.sliceU b _ _ _=>K b
  |.map b=>K b
  |.yld b=>K b
  |.func _ a c=>vsIn K a&&vsIn K c
  |.iface _ v=>vIn K v
  |.agg l=>vsIn K l
  |.tup l=>vsIn K l
  |_=>true
def vsIn(K:Nat→Bool):List V→Bool
  |[]=>true
  |v::l=>vIn K v&&vsIn K l
end
mutual
theorem VRel.within{K:Nat→Bool}{m m':M}(hm:∀b loc,K b=true→m b=some loc→m' b=some loc):∀(v:V)(x:Value),vIn K v=true→VRel m v x→VRel m' v x
  |.bool _,_,_,r=>r
  |.int _ _,_,_,r=>r
  |.str _,_,_,r=>r
  |.nilp,_,_,r=>r
  |.ptr _ _,_,k,⟨loc,hb,r⟩=>⟨loc,hm _ _ k hb,r⟩
  |.nils,_,_,r=>r
  |.slice _ _ _ _,_,k,⟨loc,hb,r⟩=>⟨loc,hm _ _ k hb,r⟩
  |.sliceU _ _ _ _,_,k,⟨loc,hb,r⟩=>⟨loc,hm _ _ k hb,r⟩
  |.sliceE,_,_,r=>r
  |.nilm,_,_,r=>r
  |.map _,_,k,⟨loc,hb,r⟩=>⟨loc,hm _ _ k hb,r⟩
  |.nilf,_,_,r=>r
  |.func _ first caps,_,k,⟨f',c',r,a,b⟩=>by
    simp only[vIn,Bool.and_eq_true]at k;exact⟨f',c',r,VsRel.within hm first f' k.1 a,VsRel.within hm caps c' k.2 b⟩
  |.nili,_,_,r=>r
  |.iface _ v,_,k,⟨v',r,a⟩=>⟨v',r,VRel.within hm v v' k a⟩
  |.agg l,_,k,⟨l',r,a⟩=>⟨l',r,VsRel.within hm l l' k a⟩
  |.tup l,_,k,⟨l',r,a⟩=>⟨l',r,VsRel.within hm l l' k a⟩
  |.yld _,_,k,⟨loc,hb,r⟩=>⟨loc,hm _ _ k hb,r⟩
  |.sliceZ _ _,_,_,r=>r
theorem VsRel.within{K:Nat→Bool}{m m':M}(hm:∀b loc,K b=true→m b=some loc→m' b=some loc):∀(l:List V)(x:List Value),vsIn K l=true→VsRel m l x→VsRel m' l x
  |[],_,_,r=>r
  |v::vs,_,k,⟨v',vs',r,a,b⟩=>by
    simp only[vsIn,Bool.and_eq_true]at k;exact⟨v',vs',r,VRel.within hm v v' k.1 a,VsRel.within hm vs vs' k.2 b⟩
end
theorem vsIn_get{K:Nat→Bool}:∀{l:List V}{i:Nat}{v:V},vsIn K l=true→l[i]? =some v→vIn K v=true
  |[],_,_,_,h=>by simp at h
  |v::l,0,u,k,h=>by simp only[vsIn,Bool.and_eq_true]at k;simp at h;subst h;exact k.1
  |v::l,i+1,u,k,h=>by simp only[vsIn,Bool.and_eq_true]at k;exact vsIn_get k.2 (by simpa using h)
/-- a row, by its number: its cells, its family, its mark -/
abbrev Rw:=Nat×List V×Nat×Nat
abbrev Fm:=Nat×Nat×Nat
noncomputable def rget(q:Nat):List Rw→Option (List V×Nat×Nat)
  |[]=>none
  |r::l=>bif Nat.beq r.1 q then some r.2 else rget q l
noncomputable def rowsT:List Rw→T Blk→T Blk
  |[],t=>t
  |r::l,t=>(rowsT l t).set r.1 (.row r.2.1 r.2.2.1 r.2.2.2)
noncomputable def fget(q:Nat):List Fm→Option (Nat×Nat)
  |[]=>none
  |r::l=>bif Nat.beq r.1 q then some r.2 else fget q l
noncomputable def famT:List Fm→T (Nat×Nat)→T (Nat×Nat)
  |[],t=>t
  |r::l,t=>(famT l t).set r.1 r.2
theorem rowsT_get(q:Nat)(t:T Blk):∀l:List Rw,(rowsT l t).get q=match rget q l with|some (c,f,k)=>some (.row c f k)|none=>t.get q
  |[]=>rfl
  |r::l=>by
    simp only[rowsT,rget,T.get_set];by_cases c:q=r.1
    ·subst c;rw[if_pos rfl,Nat.beq_refl];rfl
    ·rw[if_neg c,rowsT_get q t l,show Nat.beq r.1 q=false from by
       cases h:Nat.beq r.1 q
       ·rfl
       ·exact absurd (Nat.eq_of_beq_eq_true h).symm c]
     rfl
theorem famT_get(q:Nat)(t:T (Nat×Nat)):∀l:List Fm,(famT l t).get q=match fget q l with|some x=>some x|none=>t.get q
  |[]=>rfl
  |r::l=>by
    simp only[famT,fget,T.get_set];by_cases c:q=r.1
    ·subst c;rw[if_pos rfl,Nat.beq_refl];rfl
    ·rw[if_neg c,famT_get q t l,show Nat.beq r.1 q=false from by
       cases h:Nat.beq r.1 q
       ·rfl
       ·exact absurd (Nat.eq_of_beq_eq_true h).symm c]
     rfl
theorem rget_mem{q:Nat}{x:List V×Nat×Nat}:∀{l:List Rw},rget q l=some x→(q,x)∈l
  |[],h=>by cases h
  |r::l,h=>by
    simp only[rget]at h;cases c:Nat.beq r.1 q
    ·rw[c]at h;exact List.mem_cons_of_mem _ (rget_mem h)
    ·rw[c]at h;simp only[cond_true,Option.some.injEq]at h;have:=Nat.eq_of_beq_eq_true c;subst this;subst h;exact List.mem_cons_self
theorem fget_mem{q:Nat}{x:Nat×Nat}:∀{l:List Fm},fget q l=some x→(q,x)∈l
  |[],h=>by cases h
  |r::l,h=>by
    simp only[fget]at h;cases c:Nat.beq r.1 q
    ·rw[c]at h;exact List.mem_cons_of_mem _ (fget_mem h)
    ·rw[c]at h;simp only[cond_true,Option.some.injEq]at h;have:=Nat.eq_of_beq_eq_true c;subst this;subst h;exact List.mem_cons_self
noncomputable def key(l:List Rw)(q:Nat):Bool:=(rget q l).isSome
noncomputable def isF(l:List Rw)(f:Nat):Bool:=l.any fun r=>Nat.beq r.2.2.1 f
theorem isF_of{l:List Rw}{q f k:Nat}{c:List V}(h:rget q l=some (c,f,k)):isF l f=true:=List.any_eq_true.2 ⟨_,rget_mem h,Nat.beq_refl _⟩
noncomputable def rEq(b:Option Blk)(r:Rw):Bool:=match b with
  |some (.row c f k)=>vsEq c r.2.1&&Nat.beq f r.2.2.1&&Nat.beq k r.2.2.2
  |_=>false
noncomputable def fEq(a b:Option (Nat×Nat)):Bool:=match a,b with
  |none,none=>true
  |some x,some y=>Nat.beq x.1 y.1&&Nat.beq x.2 y.2
  |_,_=>false
theorem rEq_eq{b:Option Blk}{r:Rw}(h:rEq b r=true):b=some (.row r.2.1 r.2.2.1 r.2.2.2):=by
  unfold rEq at h;split at h
  ·simp only[Bool.and_eq_true]at h;rw[vsEq_eq _ _ h.1.1,Nat.eq_of_beq_eq_true h.1.2,Nat.eq_of_beq_eq_true h.2]
  ·cases h
theorem fEq_eq{a b:Option (Nat×Nat)}(h:fEq a b=true):a=b:=by
  unfold fEq at h;split at h
  ·rfl
  ·simp only[Bool.and_eq_true]at h;rename_i x y;obtain⟨x1,x2⟩:=x;obtain⟨y1,y2⟩:=y;have a:=Nat.eq_of_beq_eq_true h.1;have b:=Nat.eq_of_beq_eq_true h.2;simp only at a b;subst a;subst b;rfl
  ·cases h
/-- a stage -/
structure Stg where
  f:Nat
  args:List V
  pre:List Rw
  fpre:List Fm
  next:Nat
  res:V
  post:List Rw
  fpost:List Fm
  next':Nat
namespace Stg
noncomputable def heap(s:Stg):Heap:=⟨rowsT s.pre .e,s.next,famT s.fpre .e,.e⟩
noncomputable def over(s:Stg)(h:Heap):Heap:=⟨rowsT s.post h.bl,s.next',famT s.fpost h.fams,h.tys⟩
/-- what is asked of the lists -/
noncomputable def fine(G:Nat)(s:Stg):Bool:=
  Nat.blt s.f YB&&vsIn (key s.pre) s.args&&vIn (key s.post) s.res&&(List.range G).all (key s.pre)&&
  s.pre.all (fun r=>Nat.blt r.1 s.next&&(match fget r.2.2.1 s.fpre with|none=>Nat.beq r.2.2.1 r.1|some x=>Nat.ble r.2.2.2 x.2)&&vsIn (key s.pre) r.2.1&&key s.post r.1)&&
  s.fpre.all (fun r=>Nat.blt r.1 s.next)&&
  s.post.all (fun r=>Nat.blt r.1 s.next'&&vsIn (key s.post) r.2.1&&(key s.pre r.1||Nat.ble s.next r.1)&&(isF s.pre r.2.2.1||Nat.ble s.next r.2.2.1)&&(match fget r.2.2.1 s.fpost with|none=>(fget r.2.2.1 s.fpre).isNone|some _=>true))&&
  s.fpost.all (fun r=>Nat.blt r.1 s.next'&&isF s.post r.1)
/-- what is asked of what the run leaves -/
noncomputable def left(s:Stg)(v:V)(h:Heap):Bool:=
  vEq v s.res&&Nat.beq h.next s.next'&&s.post.all (fun r=>rEq (h.bl.get r.1) r&&fEq (h.fams.get r.2.2.1) (fget r.2.2.1 s.fpost))
/-- is it the stage's turn? -/
noncomputable def turn(s:Stg)(f:Nat)(vs:List V)(h:Heap):Bool:=
  Nat.beq f s.f&&vsEq vs s.args&&Nat.beq h.next s.next&&s.pre.all (fun r=>rEq (h.bl.get r.1) r&&fEq (h.fams.get r.2.2.1) (fget r.2.2.1 s.fpre))&&
  h.bl.allT (fun q b=>match b with|.row _ f _=> !isF s.pre f||key s.pre q|_=>true)
noncomputable def call(s:Stg):CallF:=fun f vs h=>bif s.turn f vs h then some (s.res,s.over h)else none
theorem callOK{P:Program}{G:Nat}{c0:CallF}(hc0:CallsOK P (LOK P G) G c0)(s:Stg)(hf:s.fine G=true){v1:V}{h1:Heap}(run:c0 s.f s.args s.heap=some (v1,h1))(hl:s.left v1 h1=true):
    CallsOK P (LOK P G) G s.call:=by
  intro f vs h v h' e;unfold call at e;cases ht:s.turn f vs h
  ·rw[ht]at e;cases e
  rw[ht]at e;simp only[cond_true,Option.some.injEq,Prod.mk.injEq]at e;obtain⟨rfl,rfl⟩:=e;unfold turn at ht;simp only[Bool.and_eq_true]at ht;obtain⟨⟨⟨⟨t1,t2⟩,t3⟩,t4⟩,t5⟩:=ht;have t1:=Nat.eq_of_beq_eq_true t1;have t2:=vsEq_eq _ _ t2;have t3:=Nat.eq_of_beq_eq_true t3;subst t1;subst t2;unfold left at hl;simp only[Bool.and_eq_true]at hl;obtain⟨⟨l1,l2⟩,l3⟩:=hl;have l1:=vEq_eq _ _ l1;subst l1;have l2:=Nat.eq_of_beq_eq_true l2;unfold fine at hf;simp only[Bool.and_eq_true]at hf;obtain⟨⟨⟨⟨⟨⟨⟨fy,fa⟩,fr⟩,fg⟩,fp⟩,ff⟩,fo⟩,fq⟩:=hf;have fy:s.f<YB:=by simpa[Nat.blt_eq]using fy
  -- the lists
  have P1:∀q c f k,rget q s.pre=some (c,f,k)→q<s.next∧(match fget f s.fpre with|none=>f=q|some x=>k≤x.2)∧vsIn (key s.pre) c=true∧key s.post q=true:=by
    intro q c f k hq;have:=List.all_eq_true.1 fp _ (rget_mem hq);simp only[Bool.and_eq_true,Nat.blt_eq]at this;obtain⟨⟨⟨a1,a2⟩,a3⟩,a4⟩:=this;refine⟨a1,?_,a3,a4⟩
    revert a2
    cases fget f s.fpre with
    |none=>exact fun a2=>Nat.eq_of_beq_eq_true a2
    |some x=>exact fun a2=>Nat.le_of_ble_eq_true a2
  have P2:∀q x,fget q s.fpre=some x→q<s.next:=by
    intro q x hq;have:=List.all_eq_true.1 ff _ (fget_mem hq);simpa[Nat.blt_eq]using this
  have P3:∀q c f k,rget q s.post=some (c,f,k)→q<s.next'∧vsIn (key s.post) c=true∧(key s.pre q=true∨s.next≤q)∧(isF s.pre f=true∨s.next≤f)∧(fget f s.fpost=none→fget f s.fpre=none)∧
      h1.bl.get q=some (.row c f k)∧h1.fams.get f=fget f s.fpost:=by
    intro q c f k hq;have:=List.all_eq_true.1 fo _ (rget_mem hq);simp only[Bool.and_eq_true,Bool.or_eq_true,Nat.blt_eq]at this;obtain⟨⟨⟨⟨a1,a2⟩,a3⟩,a4⟩,a5⟩:=this;have b:=List.all_eq_true.1 l3 _ (rget_mem hq);simp only[Bool.and_eq_true]at b;refine⟨a1,a2,a3.imp_right Nat.le_of_ble_eq_true,a4.imp_right Nat.le_of_ble_eq_true,?_,rEq_eq b.1,fEq_eq b.2⟩;intro hn;simp only[hn,Option.isNone_iff_eq_none]at a5;exact a5
  have P4:∀q x,fget q s.fpost=some x→q<s.next'∧isF s.post q=true:=by
    intro q x hq;have:=List.all_eq_true.1 fq _ (fget_mem hq);simpa[Nat.blt_eq]using this
  have T4:∀q c f k,rget q s.pre=some (c,f,k)→h.bl.get q=some (.row c f k)∧h.fams.get f=fget f s.fpre:=by
    intro q c f k hq;have b:=List.all_eq_true.1 t4 _ (rget_mem hq);simp only[Bool.and_eq_true]at b;exact⟨rEq_eq b.1,fEq_eq b.2⟩
  have keyGet:∀(l:List Rw) q,key l q=true→∃c f k,rget q l=some (c,f,k):=by
    intro l q hq;unfold key at hq;obtain⟨⟨c,f,k⟩,hx⟩:=Option.isSome_iff_exists.1 hq;exact⟨c,f,k,hx⟩
  have getKey:∀(l:List Rw) q x,rget q l=some x→key l q=true:=fun l q x hq=>by unfold key;rw[hq];rfl
  have noKey:∀(l:List Rw) q,¬key l q=true→rget q l=none:=fun l q hq=>by
    unfold key at hq;cases hx:rget q l with
    |none=>rfl
    |some x=>rw[hx]at hq;exact absurd rfl hq
  have pk:∀q,key s.pre q=true→key s.post q=true:=fun q hq=>by
    obtain⟨c,f,k,hx⟩:=keyGet _ _ hq;exact(P1 q c f k hx).2.2.2
  have hbl:∀q,s.heap.bl.get q=match rget q s.pre with|some (c,f,k)=>some (.row c f k)|none=>none:=fun q=>rowsT_get q .e s.pre
  have hfm:∀q,s.heap.fams.get q=fget q s.fpre:=fun q=>by
    show(famT s.fpre .e).get q=_;rw[famT_get];cases fget q s.fpre<;>rfl
  have hbs:∀q c f k,rget q s.pre=some (c,f,k)→s.heap.bl.get q=some (.row c f k):=fun q c f k hq=>by rw[hbl,hq]
  have hbr:∀q b,s.heap.bl.get q=some b→∃c f k,rget q s.pre=some (c,f,k)∧b=.row c f k:=by
    intro q b hq;rw[hbl]at hq;cases hx:rget q s.pre with
    |none=>rw[hx]at hq;cases hq
    |some x=>obtain⟨c,f,k⟩:=x;rw[hx]at hq;cases hq;exact⟨c,f,k,rfl,rfl⟩
  have obl:∀q,(s.over h).bl.get q=match rget q s.post with|some (c,f,k)=>some (.row c f k)|none=>h.bl.get q:=fun q=>rowsT_get q h.bl s.post
  have ofm:∀q,(s.over h).fams.get q=match fget q s.fpost with|some x=>some x|none=>h.fams.get q:=fun q=>famT_get q h.fams s.fpost
  obtain⟨info,S⟩:=(hc0 s.f s.args s.heap s.res h1 run).1 fy;refine⟨fun _=>⟨info,fun m w args ha H hG=>?_⟩,fun q=>absurd q (by omega)⟩;have T5:∀q c f k,h.bl.get q=some (.row c f k)→isF s.pre f=true→key s.pre q=true:=by
    intro q c f k hq hi;have:=T.allT_get _ _ t5 q _ hq;simp only[Bool.or_eq_true,Bool.not_eq_true']at this;rcases this with z|z
    ·rw[hi]at z;cases z
    ·exact z
  have mlt:∀p loc,m p=some loc→p<s.next:=by
    intro p loc hp;obtain⟨b,hb,_⟩:=H.blk p loc hp;rcases Nat.lt_or_ge p s.next with c|c
    ·exact c
    ·have:=(H.wf.fresh p (by omega)).1;rw[hb]at this;cases this
  -- families of what is not of the stage
  have oth:∀q c f k,h.bl.get q=some (.row c f k)→¬key s.post q=true→isF s.post f=false∧(s.over h).fams.get f=h.fams.get f:=by
    intro q c f k hq hk;have hi:isF s.post f=false:=by
      cases hx:isF s.post f
      ·rfl
      ·obtain⟨r,hr,hr2⟩:=List.any_eq_true.1 hx;have hr2:=Nat.eq_of_beq_eq_true hr2;have a:=List.all_eq_true.1 fo _ hr;simp only[Bool.and_eq_true,Bool.or_eq_true]at a;have hflt:f<s.next:=by
         have:=H.wf.fam _ _ _ _ hq;rcases Nat.lt_or_ge f s.next with z|z
         ·exact z
         ·have z2:=(H.wf.fresh f (by omega)).2;rw[z2]at this;simp only[]at this;rcases Nat.lt_or_ge q s.next with y|y
          ·omega
          ·have:=(H.wf.fresh q (by omega)).1;rw[hq]at this;cases this
       rcases a.1.2 with z|z
       ·rw[hr2]at z;exact absurd (pk q (T5 q c f k hq z)) hk
       ·have:=Nat.le_of_ble_eq_true z;rw[hr2]at this;omega
    refine⟨hi,?_⟩;rw[ofm];cases hx:fget f s.fpost with
    |none=>rfl
    |some x=>have:=(P4 f x hx).2;rw[hi]at this;cases this
  have ours:∀q c f k,rget q s.post=some (c,f,k)→(s.over h).fams.get f=h1.fams.get f:=by
    intro q c f k hq;obtain⟨_,_,_,a4,a5,_,a7⟩:=P3 q c f k hq;rw[ofm,a7];cases hx:fget f s.fpost with
    |some x=>rfl
    |none=>
      simp only[];rcases a4 with z|z
      ·obtain⟨r,hr,hr2⟩:=List.any_eq_true.1 z;have hr2:=Nat.eq_of_beq_eq_true hr2;have b:=List.all_eq_true.1 t4 _ hr;simp only[Bool.and_eq_true]at b;have b2:=fEq_eq b.2;rw[hr2]at b2;rw[b2,a5 hx]
      ·exact(H.wf.fresh f (by omega)).2
  -- the stage's own places
  obtain⟨m0,hm0⟩:∃m0:M,m0=fun p=>bif key s.pre p then m p else none:=⟨_,rfl⟩;have m0y:∀p,key s.pre p=true→m0 p=m p:=fun p hp=>by rw[hm0];simp only[hp,cond_true]
  have m0n:∀p loc,m0 p=some loc→key s.pre p=true∧m p=some loc:=fun p loc hp=>by
    rw[hm0]at hp;cases hk:key s.pre p
    ·simp only[hk,cond_false]at hp;cases hp
    ·simp only[hk,cond_true]at hp;exact⟨rfl,hp⟩
  have H0:HRel m0 s.heap w:=by
    refine⟨⟨⟨?_,?_⟩,?_,?_,?_⟩,fun p ty n hp=>by cases hp⟩
    ·intro p c f k hp;obtain⟨c',f',k',hq,e⟩:=hbr p _ hp;cases e;rw[hfm];have q:=(P1 p c f k hq).2.1
     revert q
     cases fget f s.fpre with
     |none=>exact id
     |some x=>obtain⟨a,b⟩:=x;exact id
    ·intro p hp;have hp:s.next≤p:=hp;constructor
     ·rw[hbl];cases hx:rget p s.pre with
      |none=>rfl
      |some x=>obtain⟨c,f,k⟩:=x;have:=(P1 p c f k hx).1;omega
     ·rw[hfm];cases hx:fget p s.fpre with
      |none=>rfl
      |some x=>have:=P2 p x hx;omega
    ·intro p loc hp;obtain⟨hk,hp⟩:=m0n p loc hp;obtain⟨c,f,k,hq⟩:=keyGet _ _ hk;obtain⟨b1,b2⟩:=T4 p c f k hq;obtain⟨bk,hbk,rel⟩:=H.blk p loc hp;rw[b1]at hbk;cases hbk;refine⟨_,hbs p c f k hq,fun hrd=>?_⟩;obtain⟨C,el,fz,q1,q2,q3,q4,q5⟩:=rel (by unfold rd at hrd⊢;rw[hfm]at hrd;rw[b2];exact hrd);exact⟨C,el,fz,q1,q2,q3,fun i v hi=>by
       obtain⟨x,hx,rx⟩:=q4 i v hi;exact⟨x,hx,VRel.within (fun b loc hb hm=>by rw[m0y b hb];exact hm) v x (vsIn_get (P1 p c f k hq).2.2.1 hi) rx⟩,q5⟩
    ·intro p loc hp;exact H.inb p loc (m0n p loc hp).2
    ·intro p q lp lq hp hq hbk hne;obtain⟨kp,hp⟩:=m0n p lp hp;obtain⟨kq,hq⟩:=m0n q lq hq;obtain⟨c1,f1,k1,r1⟩:=keyGet _ _ kp;obtain⟨c2,f2,k2,r2⟩:=keyGet _ _ kq;obtain⟨cp,cq,f,kp',kq',a1,a2,a3⟩:=H.sep p q lp lq hp hq hbk hne;rw[(T4 p c1 f1 k1 r1).1]at a1;cases a1;rw[(T4 q c2 f2 k2 r2).1]at a2;cases a2;exact⟨_,_,_,_,_,hbs _ _ _ _ r1,hbs _ _ _ _ r2,fun e he=>a3 e (by rw[(T4 p c1 f1 k1 r1).2,←hfm];exact he)⟩
  have G0:Glob (LOK P G) G m0:=⟨fun g hg=>by
    obtain⟨r,hr⟩:=hG.1 g hg;exact⟨r,by rw[m0y g (List.all_eq_true.1 fg g (List.mem_range.2 hg))];exact hr⟩,fun p loc g hp hl=>hG.2 p loc g (m0n p loc hp).2 hl⟩
  have a0:VsRel m0 s.args args:=VsRel.within (fun b loc hb hm=>by rw[m0y b hb];exact hm) _ _ fa ha;have key:∀e w',Post m0 s.heap w s.res h1 e w'→Post m h w s.res (s.over h) e w':=by
    rintro e w' ⟨x,m1,he,rx,H1,E⟩;obtain⟨m2,hm2⟩:∃m2:M,m2=fun p=>bif key s.post p then m1 p else m p:=⟨_,rfl⟩;have m2y:∀p,key s.post p=true→m2 p=m1 p:=fun p hp=>by rw[hm2];simp only[hp,cond_true]
    have m2n:∀p,¬key s.post p=true→m2 p=m p:=fun p hp=>by
      rw[hm2];show(bif key s.post p then m1 p else m p)=m p;cases hk:key s.post p
      ·rfl
      ·exact absurd hk hp
    have le2:Le m m2:=by
      intro p loc hp;by_cases hk:key s.post p=true
      ·rw[m2y p hk];obtain⟨c,f,k,hq⟩:=keyGet _ _ hk;rcases(P3 p c f k hq).2.2.1 with z|z
       ·exact E.le _ _ (by rw[m0y p z];exact hp)
       ·have:=mlt p loc hp;omega
      ·rw[m2n p hk];exact hp
    -- where a block of the stage lies
    have from1:∀p loc,key s.post p=true→m1 p=some loc→m p=some loc∨(s.next≤p∧m0 p=none):=by
      intro p loc hk hp;obtain⟨c,f,k,hq⟩:=keyGet _ _ hk;cases h0:m0 p with
      |some l0=>
        have:=E.le _ _ h0;rw[hp]at this;cases this;exact .inl (m0n p loc h0).2
      |none=>exact .inr ⟨(E.new p loc hp h0).1,rfl⟩
    have apart0:∀p q lp lq,key s.pre p=true→m p=some lp→¬key s.post q=true→m q=some lq→lp.block≠lq.block:=by
      intro p q lp lq hkp hp hkq hq hbk;have hne:p≠q:=by intro z;subst z;exact hkq (pk p hkp)
      obtain⟨cp,cq,f,kp',kq',a1,a2,_⟩:=H.sep p q lp lq hp hq hbk hne;obtain⟨c1,f1,k1,r1⟩:=keyGet _ _ hkp;rw[(T4 p c1 f1 k1 r1).1]at a1;cases a1;exact hkq (pk q (T5 q _ _ _ a2 (isF_of r1)))
    have apart:∀p q lp lq,key s.post p=true→m1 p=some lp→¬key s.post q=true→m q=some lq→lp.block≠lq.block:=by
      intro p q lp lq hkp hp hkq hq hbk;cases h0:m0 p with
      |some l0=>
        have:=E.le _ _ h0;rw[hp]at this;cases this;obtain⟨a,b⟩:=m0n p lp h0;exact apart0 p q lp lq a b hkq hq hbk
      |none=>
        rcases(E.new p lp hp h0).2 with z|⟨r,lr,hr,hrb⟩
        ·have:=H.inb q lq hq;omega
        ·obtain⟨a,b⟩:=m0n r lr hr;exact apart0 r q lr lq a b hkq hq (hrb.trans hbk)
    have cv:∀b j,Cov m0 b j→Cov m b j:=by
      rintro b j ⟨p,loc,hp,q⟩;exact⟨p,loc,(m0n p loc hp).2,q⟩
    have keepOf:∀b,(∀p loc,m p=some loc→key s.pre p=true→loc.block≠b)→b<w.heap.size→w'.heap[b]? =w.heap[b]? :=by
      intro b hb hlt;exact E.keep b (fun p loc hp=>hb p loc (m0n p loc hp).2 (m0n p loc hp).1) hlt
    refine⟨x,m2,he,VRel.within (fun b loc hb hm=>by rw[m2y b hb];exact hm) _ _ fr rx,H.up rfl ⟨⟨⟨?_,?_⟩,?_,?_,?_⟩,⟨le2,?_,?_,?_,E.size,?_,E.os,E.tape,E.output,?_,?_,?_⟩⟩⟩
    ·intro p c f k hp;by_cases hk:key s.post p=true
     ·obtain⟨c',f',k',hq⟩:=keyGet _ _ hk;rw[obl,hq]at hp;cases hp;rw[ours p _ _ _ hq];exact H1.wf.fam _ _ _ _ (P3 p _ _ _ hq).2.2.2.2.2.1
     ·rw[obl,noKey _ _ hk]at hp;rw[(oth p c f k hp hk).2];exact H.wf.fam _ _ _ _ hp
    ·intro p hp;have hp:s.next'≤p:=hp;have hnn:s.next≤s.next':=by rw[←l2];exact E.next
     constructor
     ·rw[obl];cases hx:rget p s.post with
      |none=>exact(H.wf.fresh p (by omega)).1
      |some x=>obtain⟨c,f,k⟩:=x;have:=(P3 p c f k hx).1;omega
     ·rw[ofm];cases hx:fget p s.fpost with
      |none=>exact(H.wf.fresh p (by omega)).2
      |some x=>have:=(P4 p x hx).1;omega
    ·intro p loc hp;by_cases hk:key s.post p=true
     ·rw[m2y p hk]at hp;obtain⟨c,f,k,hq⟩:=keyGet _ _ hk;obtain⟨_,q2,_,_,_,q6,_⟩:=P3 p c f k hq;obtain⟨bk,hbk,rel⟩:=H1.blk p loc hp;rw[q6]at hbk;cases hbk;refine⟨.row c f k,by rw[obl,hq],fun hrd=>?_⟩;obtain⟨C,el,fz,z1,z2,z3,z4,z5⟩:=rel (by unfold rd at hrd⊢;rw[ours p c f k hq]at hrd;exact hrd);exact⟨C,el,fz,z1,z2,z3,fun i v hi=>by
        obtain⟨x,hx,rx⟩:=z4 i v hi;exact⟨x,hx,VRel.within (fun b loc hb hm=>by rw[m2y b hb];exact hm) v x (vsIn_get q2 hi) rx⟩,z5⟩
     ·rw[m2n p hk]at hp;obtain⟨b,hbb,rb⟩:=H.blk p loc hp;refine⟨b,by rw[obl,noKey _ _ hk];exact hbb,rb.mono le2 (fun c f k hb=>?_) (keepOf loc.block (fun q lq hq hkq=>apart0 q p lq loc hkq hq hk hp) (H.inb p loc hp))⟩;subst hb;unfold rd;rw[(oth p c f k hbb hk).2];exact id
    ·intro p loc hp;by_cases hk:key s.post p=true
     ·rw[m2y p hk]at hp;exact H1.inb p loc hp
     ·rw[m2n p hk]at hp;exact Nat.lt_of_lt_of_le (H.inb p loc hp) E.size
    ·intro p q lp lq hp hq hbk hne;by_cases hkp:key s.post p=true
     ·rw[m2y p hkp]at hp;by_cases hkq:key s.post q=true
      ·rw[m2y q hkq]at hq;obtain⟨cp,cq,f,kp',kq',a1,a2,a3⟩:=H1.sep p q lp lq hp hq hbk hne;obtain⟨c1,f1,k1,r1⟩:=keyGet _ _ hkp;obtain⟨c2,f2,k2,r2⟩:=keyGet _ _ hkq;rw[(P3 p _ _ _ r1).2.2.2.2.2.1]at a1;cases a1;rw[(P3 q _ _ _ r2).2.2.2.2.2.1]at a2;cases a2;exact⟨_,_,_,_,_,by rw[obl,r1],by rw[obl,r2],fun e he=>a3 e (by rw[←ours p _ _ _ r1];exact he)⟩
      ·rw[m2n q hkq]at hq;exact absurd hbk (apart p q lp lq hkp hp hkq hq)
     ·rw[m2n p hkp]at hp;by_cases hkq:key s.post q=true
      ·rw[m2y q hkq]at hq;exact absurd hbk.symm (apart q p lq lp hkq hq hkp hp)
      ·rw[m2n q hkq]at hq;obtain⟨cp,cq,f,kp',kq',a1,a2,a3⟩:=H.sep p q lp lq hp hq hbk hne;exact⟨cp,cq,f,kp',kq',by rw[obl,noKey _ _ hkp];exact a1,by rw[obl,noKey _ _ hkq];exact a2,fun e he=>a3 e (by rw[←(oth p _ _ _ a1 hkp).2];exact he)⟩
    ·intro p loc hp hn;by_cases hk:key s.post p=true
     ·rw[m2y p hk]at hp;have h0:m0 p=none:=by
        cases h0:m0 p with
        |none=>rfl
        |some l0=>have:=(m0n p l0 h0).2;rw[hn]at this;cases this
      obtain⟨a,b⟩:=E.new p loc hp h0;refine⟨by rw[t3];exact a,b.imp_right ?_⟩;rintro⟨q,lq,hq,hqb⟩;exact⟨q,lq,(m0n q lq hq).2,hqb⟩
     ·rw[m2n p hk,hn]at hp;cases hp
    ·show h.next≤s.next';rw[t3,←l2];exact E.next
    ·intro p hn hp;rw[t3]at hp;by_cases hk:key s.post p=true
     ·obtain⟨c,f,k,hq⟩:=keyGet _ _ hk;obtain⟨_,_,q3,_,_,q6,_⟩:=P3 p c f k hq;rcases q3 with z|z
      ·obtain⟨c1,f1,k1,r1⟩:=keyGet _ _ z;have h0:m0 p=none:=by rw[m0y p z];exact hn
       have:=E.phan p h0 hp;rw[q6,hbs _ _ _ _ r1]at this;rw[obl,hq,(T4 p _ _ _ r1).1];exact this
      ·omega
     ·rw[obl,noKey _ _ hk]
    ·intro b hb hlt;exact keepOf b (fun p loc hp _=>hb p loc hp) hlt
    ·rintro b i hb ⟨p,loc,hp,q⟩;by_cases hk:key s.post p=true
     ·rw[m2y p hk]at hp;exact cv b i (E.cov b i hb ⟨p,loc,hp,q⟩)
     ·rw[m2n p hk]at hp;exact⟨p,loc,hp,q⟩
    ·intro b hb;exact(E.out b hb).mono (cv b)
    ·intro p loc hp hn;by_cases hk:key s.post p=true
     ·rw[m2y p hk]at hp;refine E.lps p loc hp ?_;cases h0:m0 p with
      |none=>rfl
      |some l0=>have:=(m0n p l0 h0).2;rw[hn]at this;cases this
     ·rw[m2n p hk,hn]at hp;cases hp
  exact⟨(S m0 w args a0 H0 G0).1.mono key,fun u=>CallsDIn.mono ((S m0 w args a0 H0 G0).2 u) (fun e u' w' q=>⟨q.1,key e w' q.2⟩)⟩
end Stg
/-- one after another -/
def orC(a b:CallF):CallF:=fun f vs h=>match a f vs h with
  |some r=>some r
  |none=>b f vs h
theorem orC_ok{P:Program}{K:LG→Prop}{G:Nat}{a b:CallF}(ha:CallsOK P K G a)(hb:CallsOK P K G b):CallsOK P K G (orC a b):=by
  intro f vs h v h' e;unfold orC at e;split at e
  ·rename_i r hr;cases e;exact ha f vs h v h' hr
  ·exact hb f vs h v h' e
/-- if there is a value -/
noncomputable def ov(o:Option V)(k:V→Out):Out:=Option.rec (motive:=fun _=>Out) .fail k o
theorem ov_none(k:V→Out):ov none k=.fail:=rfl
theorem ov_some(v:V)(k:V→Out):ov (some v) k=k v:=rfl
noncomputable def nthK(loc:List V):Nat→(V→Out)→Out:=
  List.rec (motive:=fun _=>Nat→(V→Out)→Out) (fun _ _=>.fail) (fun v _ ih i k=>Nat.rec (motive:=fun _=>Out) (k v) (fun j _=>ih j k) i) loc
theorem nthK_eq(loc:List V):∀i k,nthK loc i k=ov (nth loc i) k:=by
  induction loc with
  |nil=>intro i k;rfl
  |cons v l ih=>intro i k;cases i with
    |zero=>rfl
    |succ i=>exact ih i k
noncomputable def evOk(loc:List V)(env:T V)(x:Opd)(k:V→Out):Out:=
  Opd.rec (motive:=fun _=>Out) (fun i=>nthK loc i k) (fun s=>ov (env.get s) k) k (fun n=>k (.ptr n 0)) x
theorem evOk_eq(loc:List V)(env:T V)(x:Opd)(k:V→Out):evOk loc env x k=ov (evO loc env x) k:=by
  cases x with
  |l i=>exact nthK_eq loc i k
  |v s=>rfl
  |c v=>rfl
  |g n=>rfl
noncomputable def asI(v:V)(k:IntKind→Int→Out):Out:=
  V.rec (motive_1:=fun _=>Out) (motive_2:=fun _=>Out) (fun _=>.fail) k (fun _=>.fail) .fail (fun _ _=>.fail) .fail (fun _ _ _ _=>.fail) (fun _ _ _ _=>.fail) .fail .fail (fun _=>.fail) .fail (fun _ _ _ _ _=>.fail) .fail (fun _ _ _=>.fail) (fun _ _=>.fail) (fun _ _=>.fail) (fun _=>.fail) (fun _ _=>.fail) .fail (fun _ _ _ _=>.fail) v
noncomputable def asB(v:V)(k:Bool→Out):Out:=
  V.rec (motive_1:=fun _=>Out) (motive_2:=fun _=>Out) k (fun _ _=>.fail) (fun _=>.fail) .fail (fun _ _=>.fail) .fail (fun _ _ _ _=>.fail) (fun _ _ _ _=>.fail) .fail .fail (fun _=>.fail) .fail (fun _ _ _ _ _=>.fail) .fail (fun _ _ _=>.fail) (fun _ _=>.fail) (fun _ _=>.fail) (fun _=>.fail) (fun _ _=>.fail) .fail (fun _ _ _ _=>.fail) v
noncomputable def asG(v:V)(k:Bool→Out)(n:Out):Out:=
  V.rec (motive_1:=fun _=>Out) (motive_2:=fun _=>Out) k (fun _ _=>.fail) (fun _=>.fail) .fail (fun _ _=>.fail) .fail (fun _ _ _ _=>.fail) (fun _ _ _ _=>.fail) .fail .fail (fun _=>.fail) .fail (fun _ _ _ _ _=>.fail) .fail (fun _ _ _=>.fail) (fun _ _=>.fail) (fun _ _=>n) (fun _=>.fail) (fun _ _=>.fail) .fail (fun _ _ _ _=>.fail) v
noncomputable def asP(v:V)(k:Nat→Nat→Out):Out:=
  V.rec (motive_1:=fun _=>Out) (motive_2:=fun _=>Out) (fun _=>.fail) (fun _ _=>.fail) (fun _=>.fail) .fail k .fail (fun _ _ _ _=>.fail) (fun _ _ _ _=>.fail) .fail .fail (fun _=>.fail) .fail (fun _ _ _ _ _=>.fail) .fail (fun _ _ _=>.fail) (fun _ _=>.fail) (fun _ _=>.fail) (fun _=>.fail) (fun _ _=>.fail) .fail (fun _ _ _ _=>.fail) v
noncomputable def asT(v:V)(k:List V→Out):Out:=
  V.rec (motive_1:=fun _=>Out) (motive_2:=fun _=>Out) (fun _=>.fail) (fun _ _=>.fail) (fun _=>.fail) .fail (fun _ _=>.fail) .fail (fun _ _ _ _=>.fail) (fun _ _ _ _=>.fail) .fail .fail (fun _=>.fail) .fail (fun _ _ _ _ _=>.fail) .fail (fun _ _ _=>.fail) (fun _ _=>.fail) (fun l _=>k l) (fun _=>.fail) (fun _ _=>.fail) .fail (fun _ _ _ _=>.fail) v
noncomputable def one(loc:List V)(env:T V)(xs:List Opd)(k:V→Out):Out:=
  List.rec (motive:=fun _=>Out) .fail (fun x xs _=>List.rec (motive:=fun _=>Out) (evOk loc env x k) (fun _ _ _=>.fail) xs) xs
noncomputable def two(loc:List V)(env:T V)(xs:List Opd)(k:V→V→Out):Out:=
  List.rec (motive:=fun _=>Out) .fail (fun x xs _=>List.rec (motive:=fun _=>Out) .fail (fun y xs _=>List.rec (motive:=fun _=>Out) (evOk loc env x fun a=>evOk loc env y fun b=>k a b) (fun _ _ _=>.fail) xs) xs) xs
/-- what a pure operation comes to -/
noncomputable def spP(p:PK)(xs:List Opd)(loc:List V)(env:T V)(k:V→Out):Out:=
  match evOs loc env xs with
  |some vs=>ov (aP p vs) k
  |none=>.fail
theorem one_spec{p:PK}{xs:List Opd}{loc:List V}{env:T V}{k:V→Out}{f:V→Out}(h1:∀v,f v=ov (aP p [v]) k)(h0:aP p []=none)(h2:∀a b l,aP p (a::b::l)=none):one loc env xs f=spP p xs loc env k:=by
  unfold spP;match xs with
  |[]=>show Out.fail=_;rw[show evOs loc env []=some []from rfl];simp only[];rw[h0];rfl
  |[x]=>
    show evOk loc env x f=_;rw[evOk_eq,evOs_cons];cases evO loc env x with
    |none=>rfl
    |some v=>rw[show evOs loc env []=some []from rfl];exact h1 v
  |x::y::l=>
    show Out.fail=_;rw[evOs_cons,evOs_cons];cases evO loc env x with
    |none=>rfl
    |some v=>
      cases evO loc env y with
      |none=>rfl
      |some u=>
        cases evOs loc env l with
        |none=>rfl
        |some us=>simp only[];rw[h2];rfl
theorem two_spec{p:PK}{xs:List Opd}{loc:List V}{env:T V}{k:V→Out}{f:V→V→Out}(h2:∀a b,f a b=ov (aP p [a,b]) k)(h0:aP p []=none)(h1:∀a,aP p [a]=none)(h3:∀a b c l,aP p (a::b::c::l)=none):
    two loc env xs f=spP p xs loc env k:=by
  unfold spP;match xs with
  |[]=>show Out.fail=_;rw[show evOs loc env []=some []from rfl];simp only[];rw[h0];rfl
  |[x]=>
    show Out.fail=_;rw[evOs_cons];cases evO loc env x with
    |none=>rfl
    |some v=>rw[show evOs loc env []=some []from rfl];simp only[];rw[h1];rfl
  |[x,y]=>
    show(evOk loc env x fun a=>evOk loc env y fun b=>f a b)=_;rw[evOk_eq,evOs_cons,evOs_cons];cases evO loc env x with
    |none=>rfl
    |some v=>
      rw[ov_some,evOk_eq];cases evO loc env y with
      |none=>rfl
      |some u=>rw[show evOs loc env []=some []from rfl];exact h2 v u
  |x::y::z::l=>
    show Out.fail=_;rw[evOs_cons,evOs_cons,evOs_cons];cases evO loc env x with
    |none=>rfl
    |some v=>
      cases evO loc env y with
      |none=>rfl
      |some u=>
        cases evO loc env z with
        |none=>rfl
        |some t=>
          cases evOs loc env l with
          |none=>rfl
          |some us=>simp only[];rw[h3];rfl
noncomputable def wr(t:IntKind)(n:Int)(k:V→Out):Out:=
  Int.rec (motive:=fun _=>Out) (fun a=>Bool.rec (motive:=fun _=>Out) (fI (t.wrap (.ofNat a)) fun n=>k (.int t n)) (fN a fun a=>k (.int t (.ofNat a))) (Nat.blt a (lim t)))
    (fun a=>Bool.rec (motive:=fun _=>Out) (fI (t.wrap (.negSucc a)) fun n=>k (.int t n)) (fN a fun a=>k (.int t (.negSucc a))) (t.signed&&Nat.blt a (lim t))) n
theorem wr_eq(t:IntKind)(n:Int)(k:V→Out):wr t n k=k (.int t (fwrap t n)):=by
  cases n with
  |ofNat a=>
    show Bool.rec (motive:=fun _=>Out) (fI (t.wrap (.ofNat a)) fun n=>k (.int t n)) (fN a fun a=>k (.int t (.ofNat a))) (Nat.blt a (lim t))=k (.int t (bif Nat.blt a (lim t)then .ofNat a else t.wrap (.ofNat a)));cases Nat.blt a (lim t)<;>simp[fI_eq,fN_eq]
  |negSucc a=>
    show Bool.rec (motive:=fun _=>Out) (fI (t.wrap (.negSucc a)) fun n=>k (.int t n)) (fN a fun a=>k (.int t (.negSucc a))) (t.signed&&Nat.blt a (lim t))=k (.int t (bif t.signed&&Nat.blt a (lim t)then .negSucc a else t.wrap (.negSucc a)));cases(t.signed&&Nat.blt a (lim t))<;>simp[fI_eq,fN_eq]
noncomputable def kb(b:Bool)(k:V→Out):Out:=Bool.rec (motive:=fun _=>Out) (k (.bool false)) (k (.bool true)) b
theorem kb_eq(b:Bool)(k:V→Out):kb b k=k (.bool b):=by cases b<;>rfl
noncomputable def slowI(op:BinOp)(t:IntKind)(a b:Int)(k:V→Out):Out:=ov (ibin op t a b) fun v=>fV v k
theorem slowI_eq(op:BinOp)(t:IntKind)(a b:Int)(k:V→Out):slowI op t a b k=ov (ibin op t a b) k:=by
  unfold slowI;congr 1;funext v;rw[fV_eq]
noncomputable def ibK(op:BinOp)(t:IntKind)(a b:Int)(k:V→Out):Out:=
  BinOp.rec (motive:=fun _=>Out) (wr t (Int.add a b) k) (wr t (Int.sub a b) k) (wr t (Int.mul a b) k)
    (slowI .quo t a b k) (slowI .rem t a b k) (slowI .and t a b k) (slowI .or t a b k) (slowI .xor t a b k) .fail .fail (slowI .andNot t a b k)
    (kb (ieq a b) k) (kb (!ieq a b) k) (kb (ilt a b) k) (kb (!ilt b a) k) (kb (ilt b a) k) (kb (!ilt a b) k) op
theorem ibK_eq(op:BinOp)(t:IntKind)(a b:Int)(k:V→Out):ibK op t a b k=ov (ibin op t a b) k:=by
  cases op;case quo=>exact slowI_eq _ _ _ _ _
  case rem=>exact slowI_eq _ _ _ _ _
  case and=>exact slowI_eq _ _ _ _ _
  case or=>exact slowI_eq _ _ _ _ _
  case xor=>exact slowI_eq _ _ _ _ _
  case andNot=>exact slowI_eq _ _ _ _ _
  case shl=>rfl
  case shr=>rfl
  case add=>exact wr_eq _ _ _
  case sub=>exact wr_eq _ _ _
  case mul=>exact wr_eq _ _ _
  all_goals exact kb_eq _ _
noncomputable def ib2(op:BinOp)(x y:V)(k:V→Out):Out:=
  asI x fun t a=>asI y fun t' b=>Bool.rec (motive:=fun _=>Out) .fail (ibK op t a b k) (kbeq t t')
theorem ib2_eq(op:BinOp)(x y:V)(k:V→Out):ib2 op x y k=ov (aP (.ib op) [x,y]) k:=by
  cases x<;>first|rfl|skip
  cases y<;>first|rfl|skip
  rename_i t a t' b;show Bool.rec (motive:=fun _=>Out) .fail (ibK op t a b k) (kbeq t t')=ov (bif kbeq t t' then ibin op t a b else none) k;cases kbeq t t'
  ·rfl
  ·exact ibK_eq _ _ _ _ _
noncomputable def slowP(p:PK)(xs:List Opd)(loc:List V)(env:T V)(k:V→Out):Out:=
  Option.rec (motive:=fun _=>Out) .fail (fun vs=>ov (aP p vs) fun v=>fV v k) (evOs loc env xs)
theorem slowP_eq(p:PK)(xs:List Opd)(loc:List V)(env:T V)(k:V→Out):slowP p xs loc env k=spP p xs loc env k:=by
  unfold slowP spP;cases evOs loc env xs with
  |none=>rfl
  |some vs=>show(ov (aP p vs) fun v=>fV v k)=_;congr 1;funext v;rw[fV_eq]
noncomputable def pK(p:PK)(xs:List Opd)(loc:List V)(env:T V)(k:V→Out):Out:=
  PK.rec (motive:=fun _=>Out)
    (one loc env xs k)
    (slowP .pick xs loc env k)
    (slowP .nilck xs loc env k)
    (fun op=>two loc env xs fun a b=>ib2 op a b k)
    (fun l=>slowP (.sh l) xs loc env k)
    (one loc env xs fun v=>asB v fun b=>kb (!b) k)
    (slowP .neg xs loc env k) (slowP .cmpl xs loc env k)
    (fun n=>slowP (.bb n) xs loc env k)
    (fun a b=>slowP (.nil a b) xs loc env k)
    (fun a=>one loc env xs fun v=>asP v fun b o=>fN (Nat.add o a) fun o=>k (.ptr b o))
    (fun a b c=>slowP (.field a b c) xs loc env k)
    (fun a b=>slowP (.ixa a b) xs loc env k) (fun a=>slowP (.ixs a) xs loc env k) (fun a b c=>slowP (.ixarr a b c) xs loc env k)
    (fun i=>one loc env xs fun v=>asT v fun l=>nthK l i k)
    (fun a b=>slowP (.mkf a b) xs loc env k) (fun a=>slowP (.mki a) xs loc env k) (fun a b=>slowP (.build a b) xs loc env k)
    (fun a b c d e=>slowP (.sl a b c d e) xs loc env k)
    (slowP .lenS xs loc env k) (fun a=>slowP (.lenArr a) xs loc env k) (slowP .capS xs loc env k) (fun a=>slowP (.capArr a) xs loc env k)
    (slowP .mn xs loc env k) (slowP .mx xs loc env k) (fun a=>slowP (.conv a) xs loc env k)
    (fun a b=>slowP (.seq a b) xs loc env k) (fun a=>slowP (.sb a) xs loc env k) (slowP .lenStr xs loc env k) (slowP .ixstr xs loc env k) (fun a b=>slowP (.slstr a b) xs loc env k) p
theorem pK_eq(p:PK)(xs:List Opd)(loc:List V)(env:T V)(k:V→Out):pK p xs loc env k=spP p xs loc env k:=by
  cases p;case mv=>exact one_spec (fun v=>rfl) rfl (fun _ _ _=>rfl)
  case ib op=>exact two_spec (fun a b=>ib2_eq op a b k) rfl (fun a=>by cases a<;>rfl) (fun a b c l=>by cases a<;>first|rfl|(cases b<;>rfl))
  case not=>exact one_spec (fun v=>by cases v<;>first|rfl|exact kb_eq _ _) rfl (fun a _ _=>by cases a<;>rfl)
  case faddr a=>exact one_spec (fun v=>by cases v<;>first|rfl|(rename_i b o;exact fN_eq (Nat.add o a) (fun o=>k (.ptr b o)))) rfl (fun a _ _=>by cases a<;>rfl)
  case ext i=>exact one_spec (fun v=>by cases v<;>first|rfl|exact nthK_eq _ _ _) rfl (fun a _ _=>by cases a<;>rfl)
  all_goals exact slowP_eq _ _ _ _ _
noncomputable def spO(call:CallF)(loc:List V)(env:T V)(h:Heap)(o:IOp)(k:V→Heap→Out):Out:=
  match evOp call loc env h o with
  |some (v,h)=>k v h
  |none=>.fail
noncomputable def slowO(call:CallF)(loc:List V)(env:T V)(h:Heap)(o:IOp)(k:V→Heap→Out):Out:=
  Option.rec (motive:=fun _=>Out) .fail (fun p=>Prod.rec (motive:=fun _=>Out) (fun v h=>fV v fun v=>k v h) p) (evOp call loc env h o)
theorem slowO_eq(call:CallF)(loc:List V)(env:T V)(h:Heap)(o:IOp)(k:V→Heap→Out):slowO call loc env h o k=spO call loc env h o k:=by
  unfold slowO spO;cases evOp call loc env h o with
  |none=>rfl
  |some p=>obtain⟨v,h'⟩:=p;exact fV_eq _ _
noncomputable def callK(call:CallF)(f:Nat)(xs:List Opd)(loc:List V)(env:T V)(h:Heap)(k:V→Heap→Out):Out:=
  Option.rec (motive:=fun _=>Out) .fail (fun vs=>Option.rec (motive:=fun _=>Out) .fail (fun p=>Prod.rec (motive:=fun _=>Out) k p) (call f vs h)) (evOs loc env xs)
noncomputable def ldK(n:Nat)(ia:Bool)(x:Opd)(loc:List V)(env:T V)(h:Heap)(k:V→Heap→Out):Out:=
  evOk loc env x fun p=>asP p fun b o=>Bool.rec (motive:=fun _=>Out) (ov (hload1 h b o) fun v=>k v h) (ov (aload h n true p) fun v=>k v h) ia
noncomputable def opK(call:CallF)(loc:List V)(env:T V)(h:Heap)(o:IOp)(k:V→Heap→Out):Out:=
  IOp.rec (motive:=fun _=>Out) (fun p xs=>pK p xs loc env fun v=>k v h)
    (fun a b c=>ldK a b c loc env h k) (fun a b c=>slowO call loc env h (.st a b c) k) (fun a=>slowO call loc env h (.al a) k) (fun a=>slowO call loc env h (.bx a) k)
    (fun a b c d=>slowO call loc env h (.bs a b c d) k) (fun a b c d=>slowO call loc env h (.mk a b c d) k) (fun a b c d=>slowO call loc env h (.ap a b c d) k) (fun a b c=>slowO call loc env h (.cp a b c) k)
    (fun f xs=>callK call f xs loc env h k) (fun a b=>slowO call loc env h (.cv a b) k)
    (fun a=>slowO call loc env h (.mm a) k) (fun a b c d=>slowO call loc env h (.lk a b c d) k) (fun a b=>slowO call loc env h (.mu a b) k) (fun a b=>slowO call loc env h (.clr a b) k) (fun a=>slowO call loc env h (.b2s a) k) (fun a b=>slowO call loc env h (.df a b) k) (fun a b=>slowO call loc env h (.it a b) k) (fun a b c d=>slowO call loc env h (.me a b c d) k) (fun a b=>slowO call loc env h (.slu a b) k) (fun a b=>slowO call loc env h (.ux a b) k) (fun a b c=>slowO call loc env h (.iv a b c) k) .fail o
theorem opK_eq(call:CallF)(loc:List V)(env:T V)(h:Heap)(o:IOp)(k:V→Heap→Out):opK call loc env h o k=spO call loc env h o k:=by
  cases o;case p p xs=>
    show pK p xs loc env (fun v=>k v h)=_;rw[pK_eq];unfold spP spO evOp;simp only[];cases evOs loc env xs with
    |none=>rfl
    |some vs=>simp only[];cases aP p vs<;>rfl
  case ld n ia x=>
    show ldK n ia x loc env h k=_;unfold ldK spO evOp;simp only[];rw[evOk_eq];cases evO loc env x with
    |none=>rfl
    |some p=>
      rw[ov_some];cases p<;>first|rfl|skip
      rename_i b o;cases ia
      ·show ov (hload1 h b o) (fun v=>k v h)=match(match hload1 h b o with|some v=>some (v,h)|none=>none)with|some (v,h)=>k v h|none=>.fail
       cases hload1 h b o<;>rfl
      ·show ov (aload h n true (.ptr b o)) (fun v=>k v h)=match(match aload h n true (.ptr b o)with|some v=>some (v,h)|none=>none)with|some (v,h)=>k v h|none=>.fail
       cases aload h n true (.ptr b o)<;>rfl
  case cf f xs=>
    show callK call f xs loc env h k=_;unfold callK spO evOp;simp only[];cases evOs loc env xs with
    |none=>rfl
    |some vs=>
      simp only[];cases call f vs h with
      |none=>rfl
      |some p=>rfl
  case al z=>exact slowO_eq call loc env h (.al z) k
  case bad=>rfl
  case bx x=>exact slowO_eq call loc env h (.bx x) k
  all_goals exact slowO_eq _ _ _ _ _ _
noncomputable def keepK(ih:List V→T V→Heap→Out)(loc:List V)(env:T V)(d:Option Nat)(v:V)(h:Heap):Out:=
  Option.rec (motive:=fun _=>Out) (ih (v::loc) env h) (fun d=>ih loc (env.set d v) h) d
theorem keepK_eq(ih:List V→T V→Heap→Out)(loc:List V)(env:T V)(d:Option Nat)(v:V)(h:Heap):keepK ih loc env d v h=ih (nextL loc v d) (nextE env v d) h:=by cases d<;>rfl
noncomputable def gdK(loc:List V)(env:T V)(g:Option (Opd×Bool))(k:Bool→Out):Out:=
  Option.rec (motive:=fun _=>Out) (k true) (fun p=>Prod.rec (motive:=fun _=>Out) (fun x want=>evOk loc env x fun v=>asG v (fun b=>k (!(xor b want))) (k false)) p) g
theorem gdK_eq(loc:List V)(env:T V)(g:Option (Opd×Bool))(k:Bool→Out):gdK loc env g k=match evG loc env g with|some b=>k b|none=>.fail:=by
  cases g with
  |none=>rfl
  |some p=>
    obtain⟨x,want⟩:=p;show(evOk loc env x fun v=>asG v (fun b=>k (!(xor b want))) (k false))=_;rw[evOk_eq];unfold evG;simp only[];cases evO loc env x with
    |none=>rfl
    |some v=>rw[ov_some];cases v<;>rfl
noncomputable def stepsF(call:CallF)(l:List IStep):List V→T V→Heap→Out:=
  List.rec (motive:=fun _=>List V→T V→Heap→Out) (fun _ env h=>.ok .norm env h)
    (fun s _ ih loc env h=>IStep.rec (motive:=fun _=>Out) (fun g o d=>gdK loc env g fun b=>
      Bool.rec (motive:=fun _=>Out) (keepK ih loc env d (.tup []) h) (opK call loc env h o (keepK ih loc env d)) b) s) l
theorem stepsF_eq(call:CallF):∀(l:List IStep)(loc:List V)(env:T V)(h:Heap),stepsF call l loc env h=evSteps call l loc env h
  |[],_,_,_=>rfl
  |⟨g,o,d⟩::l,loc,env,h=>by
    show(gdK loc env g fun b=>Bool.rec (motive:=fun _=>Out) (keepK (stepsF call l) loc env d (.tup []) h) (opK call loc env h o (keepK (stepsF call l) loc env d)) b)=_;rw[gdK_eq,evSteps_cons];simp only[];cases evG loc env g with
    |none=>rfl
    |some b=>
      cases b
      ·show keepK (stepsF call l) loc env d (.tup []) h=_;rw[keepK_eq];exact stepsF_eq call l _ _ _
      ·show opK call loc env h o (keepK (stepsF call l) loc env d)=_;rw[opK_eq];unfold spO;simp only[];cases evOp call loc env h o with
       |none=>rfl
       |some p=>
         obtain⟨v,h'⟩:=p;show keepK (stepsF call l) loc env d v h'=_;rw[keepK_eq];exact stepsF_eq call l _ _ _
noncomputable def thenK(r:Out)(k:T V→Heap→Out):Out:=Out.rec (motive:=fun _=>Out) (fun e env h=>Ex.rec (motive:=fun _=>Out) (k env h) (.ok .ret env h) (fun i=>.ok (.exit i) env h) (fun i=>.ok (.goto i) env h) e) .fail r
theorem thenK_eq(r:Out)(k:T V→Heap→Out):thenK r k=match r with|.ok .norm env h=>k env h|r=>r:=by
  cases r with
  |fail=>rfl
  |ok e env h=>cases e<;>rfl
noncomputable def dblF(body:T V→Heap→Out)(k:Nat):T V→Heap→Out:=
  Nat.rec (motive:=fun _=>T V→Heap→Out) body (fun _ ih env h=>thenK (ih env h) ih) k
theorem dblF_eq(body:T V→Heap→Out):∀k env h,dblF body k env h=dbl body k env h
  |0,_,_=>rfl
  |k+1,env,h=>by
    show thenK (dblF body k env h) (dblF body k)=_;rw[thenK_eq,dbl_succ,dblF_eq body k env h];cases dbl body k env h with
    |fail=>rfl
    |ok e env h=>cases e<;>first|rfl|exact dblF_eq body k env h
noncomputable def blockK(id:Nat)(r:Out):Out:=Out.rec (motive:=fun _=>Out) (fun e env h=>Ex.rec (motive:=fun _=>Out) (.ok .norm env h) (.ok .ret env h) (fun i=>Bool.rec (motive:=fun _=>Out) (.ok (.exit i) env h) (.ok .norm env h) (Nat.beq i id)) (fun i=>.ok (.goto i) env h) e) .fail r
noncomputable def loopK(r:Out):Out:=thenK r fun _ _=>.fail
noncomputable def swapF(l:Nat)(r:T V→Heap→Out)(env:T V)(h:Heap):Out:=
  Out.rec (motive:=fun _=>Out) (fun e env h=>Ex.rec (motive:=fun _=>Out) (.ok (.goto l) env h) (.ok .ret env h) (fun i=>.ok (.exit i) env h) (fun i=>Bool.rec (motive:=fun _=>Out) (.ok (.goto i) env h) (.ok .norm env h) (Nat.beq i l)) e) .fail (r env h)
theorem swapF_eq(l:Nat)(r:T V→Heap→Out):swapF l r=swapL l r:=by
  funext env h;unfold swapF swapL;cases r env h with
  |fail=>rfl
  |ok e env h=>cases e<;>first|rfl|(rename_i i;show Bool.rec (motive:=fun _=>Out) _ _ (Nat.beq i l)=bif Nat.beq i l then _ else _;cases Nat.beq i l<;>rfl)
noncomputable def endK(l:Nat)(r:Out):Out:=
  Out.rec (motive:=fun _=>Out) (fun e env h=>Ex.rec (motive:=fun _=>Out) .fail (.ok .ret env h) (fun i=>.ok (.exit i) env h) (fun i=>Bool.rec (motive:=fun _=>Out) .fail (.ok .norm env h) (Nat.beq i l)) e) .fail r
noncomputable def scopeK(l:Nat)(rest:T V→Heap→Out)(r:Out):Out:=
  Out.rec (motive:=fun _=>Out) (fun e env h=>Ex.rec (motive:=fun _=>Out) (.ok .norm env h) (.ok .ret env h) (fun i=>.ok (.exit i) env h) (fun i=>Bool.rec (motive:=fun _=>Out) .fail (endK l (dblF (swapF l rest) 48 env h)) (Nat.beq i l)) e) .fail r
noncomputable def evRf(call:CallF)(g:Opd)(ps:List Nat)(as bd:IC)(env:T V)(h:Heap):Out:=
  match evO [] env g with
  |some (.func (.func f) first caps)=>bif Nat.blt f YB then
      (match call f (first++[.yld h.next]++caps) (hnew h (.lp ps as bd env 0 none))with
        |some (_,h2)=>(match h2.bl.get h.next with
          |some (.lp _ _ _ _ st pend)=>bif Nat.beq st 1 then .fail else .ok (match pend with|some ex=>ex|none=>.norm) env (hset h2 h.next .dead)
          |_=>.fail)
        |none=>.fail)
    else .fail
  |_=>.fail
noncomputable def wdK(call:CallF)(r:Out):Out:=match r with
  |.ok .norm env h=>evEnd call .norm env h
  |.ok .ret env h=>evEnd call .ret env h
  |_=>.fail
noncomputable def codeF(call:CallF)(c:IC):T V→Heap→Out:=
  IC.rec (motive:=fun _=>T V→Heap→Out)
    (fun env h=>.ok .norm env h)
    (fun l env h=>stepsF call l [] env h)
    (fun _ _ a b env h=>thenK (a env h) b)
    (fun x _ _ a b env h=>evOk [] env x fun v=>asB v fun t=>Bool.rec (motive:=fun _=>Out) (b env h) (a env h) t)
    (fun id _ c env h=>blockK id (c env h))
    (fun _ c env h=>loopK (dblF c 48 env h))
    (fun id env h=>.ok (.exit id) env h)
    (fun env h=>.ok .ret env h)
    (fun _ l _ c r env h=>scopeK l r (c env h))
    (fun l env h=>.ok (.goto l) env h)
    (fun l late _ _ reads sets env h=>evD call l late reads sets env h)
    (fun _ _=>.fail)
    (fun g ps as bd _ _ env h=>evRf call g ps as bd env h)
    (fun _ c env h=>wdK call (c env h)) c
theorem codeF_eq(call:CallF)(c:IC):codeF call c=evC call c:=by
  induction c with
  |skip=>rfl
  |ops l=>funext env h;exact stepsF_eq call l [] env h
  |seq a b iha ihb=>
    funext env h;show thenK (codeF call a env h) (codeF call b)=(match evC call a env h with|.ok .norm env h=>evC call b env h|r=>r)
    rw[thenK_eq,iha,ihb]
  |cond x a b iha ihb=>
    funext env h;show(evOk [] env x fun v=>asB v fun t=>Bool.rec (motive:=fun _=>Out) (codeF call b env h) (codeF call a env h) t)=(match evO [] env x with|some (.bool t)=>bif t then evC call a env h else evC call b env h|_=>.fail)
    rw[evOk_eq,iha,ihb];cases evO [] env x with
    |none=>rfl
    |some v=>rw[ov_some];cases v<;>first|rfl|(rename_i t;cases t<;>rfl)
  |block id c ih=>
    funext env h;show blockK id (codeF call c env h)=(match evC call c env h with|.ok (.exit i) env h=>bif Nat.beq i id then .ok .norm env h else .ok (.exit i) env h|r=>r)
    rw[ih];cases evC call c env h with
    |fail=>rfl
    |ok e env h=>cases e<;>first|rfl|(rename_i i;show Bool.rec (motive:=fun _=>Out) _ _ (Nat.beq i id)=bif Nat.beq i id then _ else _;cases Nat.beq i id<;>rfl)
  |loop c ih=>
    funext env h;show loopK (dblF (codeF call c) 48 env h)=(match dbl (evC call c) 48 env h with|.ok .norm _ _=>.fail|r=>r)
    rw[ih,dblF_eq];unfold loopK;rw[thenK_eq]
  |exit id=>rfl
  |ret=>rfl
  |scope c l r ihc ihr=>
    funext env h;show scopeK l (codeF call r) (codeF call c env h)=(match evC call c env h with
        |.ok (.goto i) env h=>bif Nat.beq i l then
            (match dbl (swapL l (evC call r)) 48 env h with
              |.ok .norm _ _=>.fail
              |.ok (.goto i) env h=>bif Nat.beq i l then .ok .norm env h else .fail
              |r=>r)
          else .fail
        |r=>r)
    rw[ihc,ihr];cases evC call c env h with
    |fail=>rfl
    |ok e env h=>
      cases e<;>first|rfl|skip
      rename_i i;show Bool.rec (motive:=fun _=>Out) .fail (endK l (dblF (swapF l (evC call r)) 48 env h)) (Nat.beq i l)=bif Nat.beq i l then _ else _;cases Nat.beq i l
      ·rfl
      ·show endK l (dblF (swapF l (evC call r)) 48 env h)=(match dbl (swapL l (evC call r)) 48 env h with
             |.ok .norm _ _=>.fail
             |.ok (.goto i) env h=>bif Nat.beq i l then .ok .norm env h else .fail
             |r=>r)
       rw[swapF_eq,dblF_eq];cases dbl (swapL l (evC call r)) 48 env h with
       |fail=>rfl
       |ok e env h=>cases e<;>first|rfl|(rename_i j;show Bool.rec (motive:=fun _=>Out) _ _ (Nat.beq j l)=bif Nat.beq j l then _ else _;cases Nat.beq j l<;>rfl)
  |goto l=>rfl
  |dops l late B R reads sets=>rfl
  |bad=>rfl
  |rf g ps as bd iha ihb=>rfl
  |wd c ih=>
    funext env h;show wdK call (codeF call c env h)=(match evC call c env h with
      |.ok .norm env h=>evEnd call .norm env h
      |.ok .ret env h=>evEnd call .ret env h
      |_=>.fail)
    rw[ih];rfl
noncomputable def finR(h:Heap)(o:Option (List V)):Option (V×Heap):=
  match o with
  |some [v]=>fV v fun v=>some (v,h)
  |some vs=>some (.tup vs,h)
  |none=>none
noncomputable def finK(fn:IFn)(r:Out):Option (V×Heap):=
  Out.rec (motive:=fun _=>Option (V×Heap)) (fun e env h=>Ex.rec (motive:=fun _=>Option (V×Heap)) (finR h (evRs env h fn.results)) (finR h (evRs env h fn.results)) (fun _=>none) (fun _=>none) e) none r
noncomputable def evFF(ov:CallF)(F:T IFn)(n:Nat):CallF:=
  Nat.rec (motive:=fun _=>CallF) (fun _ _ _=>none)
    (fun _ ih f vs h=>Option.rec (motive:=fun _=>Option (V×Heap)) (Bool.rec (motive:=fun _=>Option (V×Heap)) (ov f vs h) (evY (codeF ih) (f-YB) vs h) (Nat.ble YB f)) (fun fn=>Bool.rec (motive:=fun _=>Option (V×Heap)) none (finK fn (codeF ih fn.body (bindA vs 0 .e) h)) (Nat.beq vs.length fn.nargs)) (F.get f)) n
theorem evFF_eq(ov:CallF)(F:T IFn):∀n,evFF ov F n=evF ov F n
  |0=>rfl
  |n+1=>by
    funext f vs h;show Option.rec (motive:=fun _=>Option (V×Heap)) (Bool.rec (motive:=fun _=>Option (V×Heap)) (ov f vs h) (evY (codeF (evFF ov F n)) (f-YB) vs h) (Nat.ble YB f)) (fun fn=>Bool.rec (motive:=fun _=>Option (V×Heap)) none (finK fn (codeF (evFF ov F n) fn.body (bindA vs 0 .e) h)) (Nat.beq vs.length fn.nargs)) (F.get f)=
      (match F.get f with
      |some fn=>bif Nat.beq vs.length fn.nargs then
          (match evC (evF ov F n) fn.body (bindA vs 0 .e) h with
            |.ok .norm env h=>(match evRs env h fn.results with
              |some [v]=>fV v fun v=>some (v,h)
              |some vs=>some (.tup vs,h)
              |none=>none)
            |.ok .ret env h=>(match evRs env h fn.results with
              |some [v]=>fV v fun v=>some (v,h)
              |some vs=>some (.tup vs,h)
              |none=>none)
            |_=>none)
        else none
      |none=>bif Nat.ble YB f then evY (evC (evF ov F n)) (f-YB) vs h else ov f vs h)
    rw[evFF_eq ov F n];cases F.get f with
    |none=>
      show Bool.rec (motive:=fun _=>Option (V×Heap)) (ov f vs h) (evY (codeF (evF ov F n)) (f-YB) vs h) (Nat.ble YB f)=bif Nat.ble YB f then evY (evC (evF ov F n)) (f-YB) vs h else ov f vs h;rw[show codeF (evF ov F n)=evC (evF ov F n)from funext fun c=>codeF_eq _ c];cases Nat.ble YB f<;>rfl
    |some fn=>
      show Bool.rec (motive:=fun _=>Option (V×Heap)) none (finK fn (codeF (evF ov F n) fn.body (bindA vs 0 .e) h)) (Nat.beq vs.length fn.nargs)=_;simp only[];cases Nat.beq vs.length fn.nargs
      ·rfl
      ·show finK fn (codeF (evF ov F n) fn.body (bindA vs 0 .e) h)=_;rw[codeF_eq];cases evC (evF ov F n) fn.body (bindA vs 0 .e) h with
       |fail=>rfl
       |ok e env h=>cases e<;>rfl
variable {call : CallF}
/-- how deep a map is -/
def T.dep{α:Type}:T α→Nat
  |.e=>0
  |.n l _ r=>1+max l.dep r.dep
theorem T.get_far{α:Type}:∀(t:T α)(i:Nat),2^t.dep≤i+1→t.get i=none
  |.e,_,_=>rfl
  |.n l v r,i,h=>by
    have hp:0<2^max l.dep r.dep:=Nat.two_pow_pos _;simp only[T.dep,Nat.pow_add,Nat.pow_one]at h;cases i with
    |zero=>omega
    |succ j=>
      rw[T.get_nS];have hl:2^l.dep≤2^max l.dep r.dep:=Nat.pow_le_pow_right (by omega) (Nat.le_max_left _ _);have hr:2^r.dep≤2^max l.dep r.dep:=Nat.pow_le_pow_right (by omega) (Nat.le_max_right _ _);split
      ·exact T.get_far l _ (by omega)
      ·exact T.get_far r _ (by omega)
theorem WF.hnew{h:Heap}(w:WF h)(k:Blk):WF (hnew h k):=by
  intro p hp;have hp':h.next+1≤p:=hp;have:=w p (by omega);exact⟨by show(h.bl.set _ _).get p=none;rw[T.get_set_ne _ _ (by omega)];exact this.1,this.2⟩
theorem Fr.hnew{h:Heap}(w:WF h)(k:Blk):Fr [] h (hnew h k) where
  next:=Nat.le_succ _
  wf:=w.hnew k
  own:=fun b c _ o=>by
    have:=o.lt w;obtain⟨f,k',e,x⟩:=o;exact⟨f,k',by show(h.bl.set _ _).get b=_;rw[T.get_set_ne _ _ (by omega)];exact e,x⟩
  pl:=fun b c _ o=>by
    have:=o.own.lt w;obtain⟨⟨k',e⟩,f⟩:=o;exact⟨⟨k',by show(h.bl.set _ _).get b=_;rw[T.get_set_ne _ _ (by omega)];exact e⟩,f⟩
  lp:=fun b x _ e=>by
    have:b≠h.next:=by rintro rfl;rw[(w _ (Nat.le_refl _)).1]at e;cases e
    show(h.bl.set _ _).get b=_;rw[T.get_set_ne _ _ this];exact e
  ro:=fun b c r=>r.new w _
  ty:=fun _ _ _ e=>e
/-- a frame but for the block of a loop -/
structure FrB(S:List Nat)(B:Nat)(h h':Heap):Prop where
  next:h.next≤h'.next
  wf:WF h'
  own:∀b c,b∉S→Own h b c→Own h' b c
  pl:∀b c,b∉S→Pl h b c→Pl h' b c
  lp:∀b x,b≠B→isLp x=true→h.bl.get b=some x→h'.bl.get b=some x
  ro:∀b c,Rs h b c→Rs h' b c
  ty:∀b x,b<h.next→h.tys.get b=some x→h'.tys.get b=some x
theorem Fr.b{S S':List Nat}{h h':Heap}{B:Nat}(f:Fr S' h h')(hs:∀x∈S',x∈S):FrB S B h h':=⟨f.next,f.wf,fun b c hb o=>f.own b c (fun q=>hb (hs b q)) o,fun b c hb o=>f.pl b c (fun q=>hb (hs b q)) o,fun b x _ hx e=>f.lp b x hx e,f.ro,f.ty⟩
theorem FrB.trans{S:List Nat}{h h1 h2:Heap}{B:Nat}(a:FrB S B h h1)(b:FrB S B h1 h2):FrB S B h h2:=
  ⟨Nat.le_trans a.next b.next,b.wf,fun x c hx o=>b.own x c hx (a.own x c hx o),fun x c hx o=>b.pl x c hx (a.pl x c hx o),fun x k hx hk o=>b.lp x k hx hk (a.lp x k hx hk o),fun x c r=>b.ro x c (a.ro x c r),fun x y hx e=>b.ty x y (Nat.lt_of_lt_of_le hx a.next) (a.ty x y hx e)⟩
theorem FrB.hset{S:List Nat}{h:Heap}(w:WF h){B:Nat}{x:Blk}(e:h.bl.get B=some x)(hx:isLp x=true)(k:Blk):FrB S B h (hset h B k):=by
  have hB:B<h.next:=by
    rcases Nat.lt_or_ge B h.next with q|q
    ·exact q
    ·rw[(w B q).1]at e;cases e
  refine⟨Nat.le_refl _,?_,?_,?_,?_,?_,fun _ _ _ e=>e⟩
  ·intro p hp;have hp':h.next≤p:=hp;have:=w p hp';exact⟨by show(h.bl.set _ _).get p=none;rw[T.get_set_ne _ _ (by omega)];exact this.1,this.2⟩
  ·rintro b c _ ⟨f,k',e',y⟩;have:b≠B:=by rintro rfl;rw[e]at e';cases e';cases hx
   exact⟨f,k',by show(h.bl.set _ _).get b=_;rw[T.get_set_ne _ _ this];exact e',y⟩
  ·rintro b c _ ⟨⟨k',e'⟩,y⟩;have:b≠B:=by rintro rfl;rw[e]at e';cases e';cases hx
   exact⟨⟨k',by show(h.bl.set _ _).get b=_;rw[T.get_set_ne _ _ this];exact e'⟩,y⟩
  ·intro b y hb hy e';show(h.bl.set _ _).get b=_;rw[T.get_set_ne _ _ hb];exact e'
  ·rintro b c ⟨f,k',ow,e1,e2,e3,e4⟩;have h1:b≠B:=by rintro rfl;rw[e]at e1;cases e1;cases hx
   have h2:ow≠B:=by rintro rfl;rw[e]at e3;cases e3
   exact⟨f,k',ow,by show(h.bl.set _ _).get b=_;rw[T.get_set_ne _ _ h1];exact e1,e2,by show(h.bl.set _ _).get ow=_;rw[T.get_set_ne _ _ h2];exact e3,e4⟩
/-- seen from where neither was there -/
theorem FrB.fr{S:List Nat}{B:Nat}{h h1 h2:Heap}(w:WF h)(f:Fr [] h h1)(a:FrB S B h1 h2)(hs:∀x∈S,h.next≤x)(hB:h.next≤B):Fr [] h h2:=
  ⟨Nat.le_trans f.next a.next,a.wf,fun b c _ o=>a.own b c (fun q=>by have:=hs b q;have:=o.lt w;omega) (f.get o),fun b c _ o=>a.pl b c (fun q=>by have:=hs b q;have:=o.own.lt w;omega) (f.pl b c (by simp) o),
    fun b x hx e=>a.lp b x (by rintro rfl;rw[(w _ hB).1]at e;cases e) hx (f.lp b x hx e),fun b c r=>a.ro b c (f.ro b c r),fun b x hb e=>a.ty b x (Nat.lt_of_lt_of_le hb f.next) (f.ty b x hb e)⟩
theorem hset_get(h:Heap)(B:Nat)(k:Blk):(hset h B k).bl.get B=some k:=T.get_set_self _ _ _
theorem hnew_get(h:Heap)(k:Blk):(hnew h k).bl.get h.next=some k:=T.get_set_self _ _ _
/-- the statement: the function is called with yield, under the loop's block -/
theorem W_rf{g:Opd}{ps:List Nat}{as bd:IC}{env:T V}{h:Heap}{Q:Ex→T V→Heap→Prop}{f:Nat}{first caps:List V}(hg:evO [] env g=some (.func (.func f) first caps))(hf:f<1099511627776)
    (k:OQ (call f (first++[.yld h.next]++caps) (hnew h (.lp ps as bd env 0 none))) fun _ h2=>∃ps2 as2 bd2 en2 st pend,h2.bl.get h.next=some (.lp ps2 as2 bd2 en2 st pend)∧st≠1∧
      Q (pend.getD .norm) env (hset h2 h.next .dead)):W call (.rf g ps as bd) env h Q:=by
  obtain⟨u,h2,e,ps2,as2,bd2,en2,st,pend,e2,e3,q⟩:=k;refine⟨_,_,_,?_,q⟩;have key:evC call (.rf g ps as bd) env h=(match evO [] env g with
      |some (.func (.func f) first caps)=>bif Nat.blt f YB then
          (match call f (first++[.yld h.next]++caps) (hnew h (.lp ps as bd env 0 none))with
            |some (_,h2)=>(match h2.bl.get h.next with
              |some (.lp _ _ _ _ st pend)=>bif Nat.beq st 1 then .fail else .ok (match pend with|some ex=>ex|none=>.norm) env (hset h2 h.next .dead)
              |_=>.fail)
            |none=>.fail)
        else .fail
      |_=>.fail:Out):=rfl
  have hb:Nat.blt f YB=true:=(Nat.blt_eq ..).mpr hf;have hst:Nat.beq st 1=false:=by
    cases q:Nat.beq st 1
    ·rfl
    ·exact absurd (Nat.eq_of_beq_eq_true q) e3
  rw[key,hg];simp only[hb,cond_true];rw[e];simp only[e2,hst,cond_false];cases pend<;>rfl
/-- a round that goes to its end -/
theorem does_round{ov:CallF}{F:T IFn}{b:Nat}{vs:List V}{h:Heap}{R:V→Heap→Prop}(hF:2^F.dep≤1099511627776){ps:List Nat}{as bd:IC}{env:T V}(hb:h.bl.get b=some (.lp ps as bd env 0 none))(hl:vs.length=ps.length)
    (k:W (ev ov F) as (bindP ps vs env) h fun e env1 h1=>e=.norm∧∃ps1 as1 bd1 en1 p1,h1.bl.get b=some (.lp ps1 as1 bd1 en1 0 p1)∧
      W (ev ov F) bd env1 (hset h1 b (.lp ps1 as1 bd1 en1 1 p1)) fun e2 _ h2=>e2=.norm∧∃ps2 as2 bd2 en2 s2 p2,h2.bl.get b=some (.lp ps2 as2 bd2 en2 s2 p2)∧R (.bool true) (hset h2 b (.lp ps2 as2 bd2 en2 0 none))):
    Does (ev ov F) (YB+b) vs h R:=by
  obtain⟨_,env1,h1,e1,rfl,ps1,as1,bd1,en1,p1,hb1,_,env2,h2,e2,rfl,ps2,as2,bd2,en2,s2,p2,hb2,r⟩:=k;refine⟨_,_,ev_yield (T.get_far F _ (by have:(1099511627776:Nat)≤YB:=(by decide);omega)) ?_,r⟩;unfold evY;rw[hb];have hl':Nat.beq vs.length ps.length=true:=by rw[hl];exact Nat.beq_refl _
  simp only[hl',cond_true];rw[e1];simp only[hb1];rw[e2];simp only[hb2]
def Rdb(h:Heap)(b:Nat)(c:List V):Prop:=Own h b c∨Rs h b c
theorem Rdb.cells{h:Heap}{b:Nat}{c:List V}(a:Rdb h b c):cellsAt h b=some c:=by
  rcases a with o|⟨f,k,ow,e1,e2,_⟩
  ·exact o.cells
  ·simp only[cellsAt,e1,rd,e2,Nat.beq_refl,Bool.or_true,if_true];rfl
theorem Rdb.ld1{h:Heap}{b:Nat}{c:List V}(a:Rdb h b c)(o:Nat):hload1 h b o=nth c o:=by simp only[hload1,a.cells]
theorem Rdb.ld{h:Heap}{b:Nat}{c:List V}(a:Rdb h b c)(o n:Nat):hload h b o n=takeL n (dropL c o):=by simp only[hload,a.cells]
def ASl(h:Heap)(esz:Nat)(v:V)(n:Nat)(cs:List V):Prop:=
  cs.length=n*esz∧match v with
  |.nils=>n=0
  |.sliceE=>n=0
  |.sliceZ _ _=>n=0
  |.slice b o len cap=>len=n∧n≤cap∧∃c,Rdb h b c∧o+n*esz≤c.length∧cs=(c.drop o).take (n*esz)
  |.sliceU b o len e=>len=n∧e=esz∧∃c,Rdb h b c∧o+n*esz≤c.length∧cs=(c.drop o).take (n*esz)
  |_=>False
theorem Sl.a{h:Heap}{esz:Nat}{v:V}{n:Nat}{cs:List V}(a:Sl h esz v n cs):ASl h esz v n cs:=by
  obtain⟨hl,a⟩:=a;refine⟨hl,?_⟩;cases v with
  |slice b o l k=>obtain⟨h1,h2,c,o,x⟩:=a;exact⟨h1,h2,c,.inl o,x⟩
  |sliceU b o l k=>obtain⟨h1,h2,c,o,x⟩:=a;exact⟨h1,h2,c,.inl o,x⟩
  |sliceZ _ _=>exact a.elim
  |_=>exact a
theorem ASl.map{h h':Heap}{esz:Nat}{v:V}{n:Nat}{cs:List V}(a:ASl h esz v n cs)(f:∀b c,Rdb h b c→(cs≠[]→∃x∈cs,x∈c)→Rdb h' b c):ASl h' esz v n cs:=by
  obtain⟨hl,a⟩:=a;refine⟨hl,?_⟩;have key:∀(o:Nat)(c:List V),cs=(c.drop o).take (n*esz)→cs≠[]→∃x∈cs,x∈c:=by
    intro o c e hne;obtain⟨x,hx⟩:=List.exists_mem_of_ne_nil cs hne;exact⟨x,hx,List.mem_of_mem_drop (List.mem_of_mem_take (e▸hx))⟩
  cases v with
  |slice b o l k=>obtain⟨h1,h2,c,oc,x1,x2⟩:=a;exact⟨h1,h2,c,f b c oc (key o c x2),x1,x2⟩
  |sliceU b o l k=>obtain⟨h1,h2,c,oc,x1,x2⟩:=a;exact⟨h1,h2,c,f b c oc (key o c x2),x1,x2⟩
  |_=>exact a
theorem ASl.fr{h h':Heap}{esz:Nat}{v:V}{n:Nat}{cs:List V}(a:ASl h esz v n cs)(f:Fr [] h h'):ASl h' esz v n cs:=a.map fun b c r _=>r.imp (fun o=>f.get o) (f.ro b c)
theorem ASl.len{h:Heap}{esz:Nat}{v:V}{n:Nat}{cs:List V}(a:ASl h esz v n cs):aP .lenS [v]=some (.int .i64 n):=by
  obtain⟨hl,a⟩:=a;cases v with
  |slice b o l k=>obtain⟨rfl,_⟩:=a;rfl
  |sliceU b o l k=>obtain⟨rfl,_⟩:=a;rfl
  |nils=>have a:n=0:=a;subst a;rfl
  |sliceE=>have a:n=0:=a;subst a;rfl
  |sliceZ _ _=>have a:n=0:=a;subst a;rfl
  |_=>exact a.elim
theorem ASl.one{h:Heap}{esz:Nat}{v:V}{n:Nat}{cs:List V}(a:ASl h esz v n cs):v.one=true:=by
  obtain⟨hl,a⟩:=a;cases v with
  |slice b o l k=>rfl
  |sliceU b o l k=>rfl
  |nils=>rfl
  |sliceE=>rfl
  |sliceZ _ _=>rfl
  |_=>exact a.elim
theorem ASl.ix{h:Heap}{esz:Nat}{v:V}{n:Nat}{cs:List V}(a:ASl h esz v n cs)(k:IntKind)(i:Int)(h0:0≤i)(h1:i<n):
    ∃b o,aP (.ixs esz) [v,.int k i]=some (.ptr b o)∧(∀j,j<esz→hload1 h b (o+j)=cs[i.toNat*esz+j]?)∧hload h b o esz=some ((cs.drop (i.toNat*esz)).take esz):=by
  obtain⟨hl,a⟩:=a;obtain⟨m,rfl⟩:∃m:Nat,i=m:=⟨i.toNat,by omega⟩;have hm:m<n:=by omega
  have hmul:m*esz+esz≤n*esz:=by rw[←Nat.succ_mul];exact Nat.mul_le_mul_right _ hm
  have main:∀(b o:Nat)(c:List V),Rdb h b c→o+n*esz≤c.length→cs=(c.drop o).take (n*esz)→
      (∀j,j<esz→hload1 h b (o+m*esz+j)=cs[m*esz+j]?)∧hload h b (o+m*esz) esz=some ((cs.drop (m*esz)).take esz):=by
    intro b o c hc hlen e;subst e;constructor
    ·intro j hj;rw[hc.ld1,nth_eq,List.getElem?_take,if_pos (by omega),List.getElem?_drop];congr 1;omega
    ·rw[hc.ld,dropL_eq,takeL_at _ _ (by simp;omega),List.drop_take,List.drop_drop,List.take_take];congr 2;omega
  cases v with
  |slice b o l q=>
    obtain⟨rfl,_,c,hc,hlen,e⟩:=a;exact⟨b,o+m*esz,aP_ixS _ _ _ _ _ _ _ h0 h1,main b o c hc hlen e⟩
  |sliceU b o l q=>
    obtain⟨rfl,rfl,c,hc,hlen,e⟩:=a;exact⟨b,o+m*q,aP_ixU _ _ _ _ _ _ _ h0 h1,main b o c hc hlen e⟩
  |nils=>have a:n=0:=a;omega
  |sliceE=>have a:n=0:=a;omega
  |sliceZ _ _=>have a:n=0:=a;omega
  |_=>exact a.elim
section
variable {α : Type} {f : α → List V} {k : Nat}
/-- records in a slice that is only read -/
def ARecs(f:α→List V)(k:Nat)(h:Heap)(v:V)(L:List α):Prop:=ASl h k v L.length (L.flatMap f)
theorem Recs.a{h:Heap}{v:V}{L:List α}(a:Recs f k h v L):ARecs f k h v L:=Sl.a a
theorem ARecs.fr{h h':Heap}{v:V}{L:List α}(a:ARecs f k h v L)(r:Fr [] h h'):ARecs f k h' v L:=ASl.fr a r
theorem ARecs.len{h:Heap}{v:V}{L:List α}(a:ARecs f k h v L):aP .lenS [v]=some (.int .i64 L.length):=ASl.len a
theorem ARecs.one{h:Heap}{v:V}{L:List α}(a:ARecs f k h v L):v.one=true:=ASl.one a
theorem ARecs.ix{h:Heap}{v:V}{L:List α}(hf:∀x,(f x).length=k)(a:ARecs f k h v L)(kd:IntKind)(i:Int)(h0:0≤i)(h1:i<L.length):
    ∃b o x,aP (.ixs k) [v,.int kd i]=some (.ptr b o)∧(∀j,j<k→hload1 h b (o+j)=(f x)[j]?)∧hload h b o k=some (f x)∧L[i.toNat]? =some x:=by
  obtain⟨b,o,e,g,g2⟩:=ASl.ix a kd i h0 h1;have hi:i.toNat<L.length:=by omega
  have e3:L[i.toNat]? =some L[i.toNat]:=by simp[hi]
  have ed:L.drop i.toNat=L[i.toNat]::L.drop (i.toNat+1):=List.drop_eq_getElem_cons hi;refine⟨b,o,L[i.toNat],e,fun j hj=>?_,?_,e3⟩
  ·rw[g j hj,←List.getElem?_drop,flat_drop hf,ed,List.flatMap_cons,List.getElem?_append_left (by rw[hf];exact hj)]
  ·rw[g2,flat_drop hf,ed,List.flatMap_cons];have:=hf L[i.toNat];rw[List.take_append,List.take_of_length_le (by omega),this];simp
end
end Go.Ev
open Go.RowKit
namespace Go.Ev
theorem Rdb.rd{h:Heap}{b:Nat}{c:List V}(o:Rdb h b c):∃f k,h.bl.get b=some (.row c f k)∧rd h b f k=true:=by
  rcases o with⟨f,k,e,x⟩|⟨f,k,ow,e1,e2,_⟩
  ·exact⟨f,k,e,rd_owner (by rcases x with⟨a,_⟩|a;exact .inl a;exact .inr a)⟩
  ·refine⟨f,k,e1,?_⟩;unfold Ev.rd;rw[e2];simp
theorem HRel.cellsR{m:M}{h:Heap}{w:World}(H:HRel m h w){p:Nat}{loc:Loc}{c:List V}(hm:m p=some loc)(o:Rdb h p c):
    ∃C el fz,w.heap[loc.block]? =some (.cells C el fz)∧loc.base+loc.room≤C.size∧∀(i:Nat) v,c[i]? =some v→∃x,C[loc.base+i]? =some x∧VRel m v x:=by
  obtain⟨f,k,e,r⟩:=o.rd;obtain⟨b,hb,rel⟩:=H.blk p loc hm;rw[e]at hb;cases hb;obtain⟨C,el,fz,a1,a2,_,a4,_⟩:=rel r;exact⟨C,el,fz,a1,a2,a4⟩
/-- nothing that was there has changed -/
theorem below_ints{m m':M}{h h':Heap}{w w':World}(H:HRel m h w)(H':HRel m' h' w')(E:Ext m h w m' h' w')
    (flat:∀p loc,m p=some loc→∃c,Rdb h p c∧Rdb h' p c∧c.length=loc.room∧∀v∈c,∃k n,v=V.int k n):Below w.heap.size w w':=by
  refine⟨E.os,E.tape,E.output,E.size,fun b hb=>?_⟩;by_cases cc:∃p loc,m p=some loc∧loc.block=b
  ·obtain⟨p,loc,hp,rfl⟩:=cc;obtain⟨cs,o,o',len,ints⟩:=flat p loc hp;obtain⟨C,el,fz,hC,hsz,hcell⟩:=H.cellsR hp o;obtain⟨x',hx',k⟩:=E.out loc.block hb _ hC;cases x' with
   |cells C' el' fz'=>
     obtain⟨rfl,kfz,ksz,kout⟩:=k;have hfz:fz'=fz:=by
       rcases kfz with q|⟨j,j1,j2,q,lq,hq,hbq,j3,j4⟩
       ·exact q
       ·exfalso;obtain⟨cq,oq,oq',lenq,_⟩:=flat q lq hq;obtain⟨f,k,e,r⟩:=oq'.rd;obtain⟨b,hb,rel⟩:=H'.blk q lq (E.le _ _ hq);rw[e]at hb;cases hb;obtain⟨C2,el2,fz2,hC2,_,_,_,a5⟩:=rel r;rw[hbq,hx']at hC2;cases hC2;exact a5 (j-lq.base) (by omega) ⟨by omega,by omega⟩
     subst hfz;rw[hx',hC];have:C'=C:=by
       apply Array.ext_getElem?;intro j;by_cases cv:Cov m loc.block j
       ·obtain⟨q,lq,hq,hbq,j1,j2⟩:=cv;obtain⟨cq,oq,oq',lenq,intq⟩:=flat q lq hq;obtain⟨C1,el1,fz1,hC1,_,hc1⟩:=H.cellsR hq oq;obtain⟨C2,el2,fz2,hC2,_,hc2⟩:=H'.cellsR (E.le _ _ hq) oq';rw[hbq]at hC1 hC2;rw[hC]at hC1;cases hC1;rw[hx']at hC2;cases hC2;have hlt:j-lq.base<cq.length:=by omega
        obtain⟨k,n,en⟩:=intq cq[j-lq.base] (List.getElem_mem hlt);have ec:cq[j-lq.base]? =some (.int k n):=by rw[←en];exact List.getElem?_eq_getElem hlt
        obtain⟨x1,e1,r1⟩:=hc1 (j-lq.base) _ ec;obtain⟨x2,e2,r2⟩:=hc2 (j-lq.base) _ ec;simp only[VRel]at r1 r2;rw[show lq.base+(j-lq.base)=j by omega]at e1 e2;rw[e1,e2,r1,r2]
       ·exact kout j cv
     rw[this]
   |_=>simp at k
  ·exact E.keep b (fun p loc hp e=>cc ⟨p,loc,hp,e⟩) hb
/-- blocks, one after another, in a family that nobody may write -/
noncomputable def put(t:T Blk):List (List V)→Nat→T Blk
  |[],_=>t
  |c::cs,i=>put (t.set i (.row c 1 0)) cs (i+1)
theorem put_get:∀(cs:List (List V))(i:Nat)(t:T Blk)(p:Nat),(put t cs i).get p=if i≤p∧p<i+cs.length then(cs[p-i]?).map (fun c=>.row c 1 0)else t.get p
  |[],i,t,p=>by rw[if_neg (by simp)];rfl
  |c::cs,i,t,p=>by
    show(put (t.set i (.row c 1 0)) cs (i+1)).get p=_;rw[put_get cs (i+1),T.get_set];simp only[List.length_cons];by_cases q:p=i
    ·subst q;rw[if_neg (by omega),if_pos rfl,if_pos (by omega)];simp
    ·rw[if_neg q];by_cases r:i+1≤p∧p<i+1+cs.length
     ·rw[if_pos r,if_pos (by omega),show p-i=(p-(i+1))+1 by omega];simp
     ·rw[if_neg r,if_neg (by omega)]
noncomputable def hS(Cs:List (List V)):Heap:=⟨put T.e Cs 2,2+Cs.length,(T.e:T (Nat×Nat)).set 1 (1,0),.e⟩
def mS(Ms:List (Option Loc)):M:=fun p=>if 2≤p then(Ms[p-2]?).join else none
section
variable {Cs : List (List V)} {Ms : List (Option Loc)}
theorem hS_at{i:Nat}{c:List V}(h:Cs[i]? =some c):(hS Cs).bl.get (2+i)=some (.row c 1 0):=by
  have hi:=(List.getElem?_eq_some_iff.1 h).1;show(put _ Cs 2).get (2+i)=_;rw[put_get,if_pos (by omega),show 2+i-2=i by omega,h];rfl
theorem hS_far{p:Nat}(h:p<2∨2+Cs.length≤p):(hS Cs).bl.get p=none:=by
  show(put _ Cs 2).get p=_;rw[put_get,if_neg (by omega)];rfl
theorem hS_f1:(hS Cs).fams.get 1=some (1,0):=by show((T.e:T (Nat×Nat)).set 1 (1,0)).get 1=_;exact T.get_set_self _ _ _
theorem hS_f{p:Nat}(h:p≠1):(hS Cs).fams.get p=none:=by show((T.e:T (Nat×Nat)).set 1 (1,0)).get p=none;rw[T.get_set_ne _ _ h];rfl
theorem hS_wf:WF (hS Cs):=fun p hp=>⟨hS_far (.inr hp),hS_f (by have:2+Cs.length≤p:=hp;omega)⟩
theorem hS_rs{i:Nat}{c:List V}(h:Cs[i]? =some c):Rs (hS Cs) (2+i) c:=⟨1,0,1,hS_at h,hS_f1,hS_far (.inl (by omega)),by show 1<2+Cs.length;omega⟩
theorem mS_some{p:Nat}{loc:Loc}(h:mS Ms p=some loc):∃i,p=2+i∧Ms[i]? =some (some loc):=by
  unfold mS at h;by_cases d:2≤p
  ·rw[if_pos d]at h;refine⟨p-2,by omega,?_⟩;cases e:Ms[p-2]? with
   |none=>rw[e]at h;cases h
   |some o=>rw[e]at h;cases o with
     |none=>cases h
     |some l=>cases h;rfl
  ·rw[if_neg d]at h;cases h
theorem mS_at{i:Nat}{loc:Loc}(h:Ms[i]? =some (some loc)):mS Ms (2+i)=some loc:=by
  unfold mS;rw[if_pos (by omega),show 2+i-2=i by omega,h];rfl
/-- an array of the world that a block stands for -/
def ArrB(W:World)(loc:Loc)(c:List V):Prop:=loc.lp=none∧c.length=loc.room∧(∃C ty fz,W.heap[loc.block]? =some (.cells C ty fz)∧loc.base+loc.room≤C.size∧
  (∀(i:Nat) v,c[i]? =some v→∃k n,v=.int k n∧C[loc.base+i]? =some (.int k n))∧∀i:Nat,i<loc.room→¬(fz.1≤loc.base+i∧loc.base+i<fz.2))
theorem relS{W:World}(hl:Ms.length=Cs.length)(he:∀(i:Nat) loc c,Ms[i]? =some (some loc)→Cs[i]? =some c→ArrB W loc c):HRel (mS Ms) (hS Cs) W:=by
  have cget:∀(i:Nat) loc,Ms[i]? =some (some loc)→∃c,Cs[i]? =some c:=fun i loc h=>by
    have:=(List.getElem?_eq_some_iff.1 h).1;exact⟨_,List.getElem?_eq_getElem (by omega)⟩
  refine⟨⟨⟨?_,hS_wf⟩,?_,?_,?_⟩,fun p ty n hp=>by cases hp⟩
  ·intro p c f k hp;by_cases q2:2≤p∧p<2+Cs.length
   ·have hc:Cs[p-2]? =some (Cs[p-2]'(by omega)):=List.getElem?_eq_getElem (by omega);have:=hS_at hc;rw[show 2+(p-2)=p by omega,hp]at this;cases this;rw[hS_f1];exact Nat.le_refl _
   ·rw[hS_far (by omega)]at hp;cases hp
  ·intro p loc hp;obtain⟨i,rfl,h⟩:=mS_some hp;obtain⟨c,hc⟩:=cget i loc h;obtain⟨_,hcl,C,ty,fz,h1,h2,h3,h4⟩:=he i loc c h hc;exact⟨_,hS_at hc,fun _=>⟨C,ty,fz,h1,h2,by omega,fun j v hv=>by obtain⟨k,n,rfl,e⟩:=h3 j v hv;exact⟨_,e,rfl⟩,h4⟩⟩
  ·intro p loc hp;obtain⟨i,rfl,h⟩:=mS_some hp;obtain⟨c,hc⟩:=cget i loc h;obtain⟨_,_,C,ty,fz,h1,_⟩:=he i loc c h hc;exact(Array.getElem?_eq_some_iff.1 h1).1
  ·intro p q lp lq hp hq hbl hne;obtain⟨i,rfl,h⟩:=mS_some hp;obtain⟨j,rfl,h'⟩:=mS_some hq;obtain⟨c,hc⟩:=cget i lp h;obtain⟨c',hc'⟩:=cget j lq h';refine⟨c,c',1,0,0,hS_at hc,hS_at hc',fun e hf=>?_⟩;rw[hS_f1]at hf;simp only[Option.some.injEq,Prod.mk.injEq]at hf;omega
end
abbrev Cell:=IntKind×Int
def cV(c:Cell):V:=.int c.1 c.2
def cX(c:Cell):Value:=.int c.1 c.2
theorem flat_len'{α β:Type}{g:α→List β}{k:Nat}(gl:∀a,(g a).length=k):∀L:List α,(L.flatMap g).length=L.length*k
  |[]=>by simp
  |x::L=>by simp[List.flatMap_cons,flat_len' gl L,gl,Nat.succ_mul,Nat.add_comm]
/-- a slice of n elements of k numbers that came in -/
def Came(W:World)(x:Value)(k n:Nat)(cs:List Cell):Prop:=cs.length=n*k∧
  ((x=.slice none 0 0∧n=0)∨(∃a cap,x=.slice (some a) 0 cap∧n=0)∨
  ∃b off cap C t fz,x=.slice (some ⟨b,off,none⟩) n cap∧n≤cap∧0<n∧W.heap[b]? =some (.cells C t fz)∧off+n*k≤C.size∧
    (∀i:Nat,i<n*k→¬(fz.1≤off+i∧off+i<fz.2))∧∀(i:Nat) c,cs[i]? =some c→C[off+i]? =some (cX c))
/-- how it is told to the evaluator, by block p -/
theorem pick{W:World}{x:Value}{k n:Nat}{cs:List Cell}(cm:Came W x k n cs)(p:Nat):∃(v:V)(ml:Option Loc)(c:List V),
    (∀m:M,(∀loc,ml=some loc→m p=some loc)→VRel m v x)∧(∀loc,ml=some loc→ArrB W loc c)∧(∀h,(ml≠none→Rs h p c)→ASl h k v n (cs.map cV))∧v.one=true∧∀u∈c,∃k n,u=V.int k n:=by
  obtain⟨fl,cm⟩:=cm;have fl':(cs.map cV).length=n*k:=by simpa using fl
  rcases cm with⟨rfl,rfl⟩|⟨a,cap,rfl,rfl⟩|⟨b,off,cap,C,ty,fz,rfl,hcap,hpos,hC,hsz,hfz,hcell⟩
  ·exact⟨.nils,none,[],fun m _=>rfl,(fun loc h=>by cases h),fun h _=>⟨fl',rfl⟩,rfl,by simp⟩
  ·exact⟨.sliceZ a cap,none,[],fun m _=>rfl,(fun loc h=>by cases h),fun h _=>⟨fl',rfl⟩,rfl,by simp⟩
  ·have ci:∀(i:Nat) v,(cs.map cV)[i]? =some v→∃k n,v=.int k n∧C[off+i]? =some (.int k n):=by
     intro i v hv;rw[List.getElem?_map]at hv;cases e:cs[i]? with
     |none=>rw[e]at hv;cases hv
     |some c=>rw[e]at hv;cases hv;exact⟨_,_,rfl,hcell i c e⟩
   refine⟨.slice p 0 n cap,some ⟨b,off,n*k,none⟩,cs.map cV,fun m hm=>⟨_,hm _ rfl,hcap,by simp⟩,?_,fun h rs=>⟨fl',rfl,hcap,_,.inr (rs (by simp)),by omega,by rw[List.drop_zero,List.take_of_length_le (by omega)]⟩,rfl,?_⟩
   ·rintro loc h;cases h;exact⟨rfl,fl',C,ty,fz,hC,hsz,ci,hfz⟩
   ·intro u hu;obtain⟨c,_,rfl⟩:=List.mem_map.1 hu;exact⟨_,_,rfl⟩
/-- all of them: the i-th has block p + i -/
theorem picks{W:World}:∀(L:List (Value×Nat×Nat×List Cell))(p:Nat),(∀q∈L,Came W q.1 q.2.1 q.2.2.1 q.2.2.2)→∃(vs:List V)(Ms:List (Option Loc))(Cs:List (List V)),vs.length=L.length∧Ms.length=L.length∧Cs.length=L.length∧
    (∀m:M,(∀(i:Nat) loc,Ms[i]? =some (some loc)→m (p+i)=some loc)→∀(i:Nat) v,vs[i]? =some v→∃q,L[i]? =some q∧VRel m v q.1)∧
    (∀(i:Nat) loc c,Ms[i]? =some (some loc)→Cs[i]? =some c→ArrB W loc c)∧
    (∀h,(∀(i:Nat) c,Cs[i]? =some c→Rs h (p+i) c)→∀(i:Nat) v q,vs[i]? =some v→L[i]? =some q→ASl h q.2.1 v q.2.2.1 (q.2.2.2.map cV))∧∀c∈Cs,∀u∈c,∃k n,u=V.int k n
  |[],p,_=>⟨[],[],[],rfl,rfl,rfl,fun m _ i v h=>by simp at h,fun i loc c h=>by simp at h,fun h _ i v q hv=>by simp at hv,fun c hc=>by simp at hc⟩
  |s::S,p,hs=>by
    obtain⟨v,ml,c,q1,q2,q3,_,q6⟩:=pick (hs s (by simp)) p;obtain⟨vs,Ms,Cs,l1,l2,l3,r1,r2,r3,r5⟩:=picks S (p+1) (fun s' h=>hs s' (by simp[h]));refine⟨v::vs,ml::Ms,c::Cs,by simp[l1],by simp[l2],by simp[l3],?_,?_,?_,?_⟩
    ·intro m hm i u hu;cases i with
     |zero=>simp at hu;subst hu;exact⟨s,rfl,q1 m fun loc h=>by have:=hm 0 loc (by simp[h]);simpa using this⟩
     |succ i=>
       obtain⟨q,h1,h2⟩:=r1 m (fun i loc h=>by have:=hm (i+1) loc (by simpa using h);rwa[show p+(i+1)=p+1+i by omega]at this) i u (by simpa using hu);exact⟨q,by simpa using h1,h2⟩
    ·intro i loc c' h1 h2;cases i with
     |zero=>simp at h1 h2;subst h2;exact q2 loc h1
     |succ i=>exact r2 i loc c' (by simpa using h1) (by simpa using h2)
    ·intro h rs i u q hu hq;cases i with
     |zero=>simp at hu hq;subst hu hq;exact q3 h fun _=>by have:=rs 0 c (by simp);simpa using this
     |succ i=>exact r3 h (fun i c' hc=>by have:=rs (i+1) c' (by simpa using hc);rwa[show p+(i+1)=p+1+i by omega]at this) i u q (by simpa using hu) (by simpa using hq)
    ·intro c' hc u hu;rcases List.mem_cons.1 hc with rfl|hc
     ·exact q6 u hu
     ·exact r5 c' hc u hu
end Go.Ev
namespace Go.Ev.Lay
set_option maxRecDepth 4000
theorem _root_.Go.Ev.Fr.new{h h1 h2:Heap}{S:List Nat}(w:WF h)(f1:Fr [] h h1)(f2:Fr S h1 h2)(hs:∀x∈S,h.next≤x):Fr [] h h2:=
  Fr.trans f1 f2 w (fun x hx=>.inl hx) (fun x hx=>.inr (hs x hx))
/-- a new buffer with a list -/
theorem drop_cons{α:Type}{l:List α}{i:Nat}{x:α}(h:l[i]? =some x):l.drop i=x::l.drop (i+1):=by
  have hi:i<l.length:=by
    rcases Nat.lt_or_ge i l.length with y|y
    ·exact y
    ·rw[List.getElem?_eq_none y]at h;cases h
  rw[List.drop_eq_getElem_cons hi];congr 1;rw[List.getElem?_eq_getElem hi]at h;cases h;rfl
theorem repL_len(z:List V)(n:Nat):(repL z n).length=n*z.length:=by
  induction n with
  |zero=>simp[repL_zero]
  |succ n ih=>rw[repL_succ,List.length_append,ih];rw[Nat.succ_mul];omega
theorem onesB_append(a b:List V):onesB (a++b)=(onesB a&&onesB b):=by
  induction a with
  |nil=>simp[onesB]
  |cons x l ih=>rw[List.cons_append,onesB_cons,onesB_cons,ih,Bool.and_assoc]
theorem onesB_take{a:List V}(n:Nat)(x:onesB a=true):onesB (a.take n)=true:=by
  rw[←List.take_append_drop n a,onesB_append]at x;exact(Bool.and_eq_true _ _▸x).1
theorem onesB_drop{a:List V}(n:Nat)(x:onesB a=true):onesB (a.drop n)=true:=by
  rw[←List.take_append_drop n a,onesB_append]at x;exact(Bool.and_eq_true _ _▸x).2
theorem onesB_repL{z:List V}(n:Nat)(x:onesB z=true):onesB (repL z n)=true:=by
  induction n with
  |zero=>rfl
  |succ n ih=>rw[repL_succ,onesB_append,x,ih];rfl
/-- append to a slice that is grown -/
theorem _root_.Go.Ev.Gs.append1{h:Heap}{B esz bytes:Nat}{v x:V}{cs xs:List V}{n:Nat}(w:WF h)(a:Gs h B esz v cs)(s:Sl h esz x n xs)(he:0<esz)(hn:n≠0)(ho:onesB xs=true)(hB:B≤h.next)
    (hsz:(2*(cs.length+n)+1024) *bytes≤281474976710656) {K:V→Heap→Prop} (k:∀v' h',Gs h' B esz v' (cs++xs)→vb v'=[h.next]→Fr (vb v) h h'→K v' h'):OQ (aapp h esz bytes v x) K:=by
  unfold aapp;rw[s.srcLen];simp only[]
  ·rw[beq_ff hn,cond_false,s.srcCells];simp only[];rcases a with⟨rfl,rfl⟩|⟨b,m,rfl,hm,hm0,hb,o⟩
   ·simp only[agrow];have:Nat.ble ((2*n+1024) *bytes) 281474976710656=true:=by
      rw[Nat.ble_eq];simpa using hsz
    rw[this,cond_true];refine(OQ_some _ _ _).2 (k _ _ (.inr ⟨h.next,n,rfl,by simpa using s.1,by omega,hB,by simpa using Own.new w xs⟩) rfl (Fr.halloc w xs))
   ·have hle:(2*(m+n)+1024) *bytes≤(2*(cs.length+n)+1024) *bytes:=by
      refine Nat.mul_le_mul_right _ ?_;have:m≤cs.length:=by rw[hm];exact Nat.le_mul_of_pos_right m he
      omega
    have h1:(Nat.beq esz esz&&Nat.ble ((2*(m+n)+1024) *bytes) 281474976710656)=true:=by
      simp only[Nat.beq_refl,Bool.true_and,Nat.ble_eq];omega
    simp only[h1,cond_true,o.cells];have hmn:(m+n) *esz=m*esz+n*esz:=Nat.add_mul _ _ _;have hpos:0<n*esz:=Nat.mul_pos (by omega) he;rw[ble_ff (show¬0+(m+n) *esz≤cs.length by omega),cond_false];have h2:(Nat.ble (0+m*esz) cs.length&&onesB xs)=true:=by simp only[ho,Bool.and_true,Nat.ble_eq];omega
    simp only[h2,cond_true,dropL_zero,takeL_at cs (m*esz) (by omega)];obtain⟨h',e,o',f⟩:=own_super (pos:=0+m*esz) (c':=cs.take (m*esz)++xs) w o;rw[e];simp only[Option.map_some];refine(OQ_some _ _ _).2 (k _ _ (.inr ⟨h.next,m+n,rfl,by simp[s.1];omega,by omega,hB,?_⟩) rfl f);rwa[List.take_of_length_le (by omega)]at o'
/-- a slice in memory of its own, from block B on -/
def Gn(e:Nat)(h:Heap)(B:Nat)(v:V)(n:Nat)(cs:List V):Prop:=cs.length=n*e∧((n=0∧(v=.nils∨∃b,B≤b∧v=.slice b 0 0 0∧Own h b []))∨∃b,B≤b∧v=.sliceU b 0 n e∧Own h b cs)
theorem Gn.sl{e:Nat}{h:Heap}{B n:Nat}{v:V}{cs:List V}(g:Gn e h B v n cs):Sl h e v n cs:=by
  obtain⟨hl,⟨rfl,rfl|⟨b,_,rfl,o⟩⟩|⟨b,_,rfl,o⟩⟩:=g
  ·exact⟨hl,rfl⟩
  ·have:cs=[]:=List.length_eq_zero_iff.1 (by omega);subst this;exact⟨hl,rfl,Nat.le_refl _,[],o,by simp,by simp⟩
  ·exact⟨hl,rfl,rfl,cs,o,by omega,by rw[List.drop_zero,List.take_of_length_le (by omega)]⟩
theorem Gn.fr{e:Nat}{h h':Heap}{B n:Nat}{v:V}{cs:List V}{X:List Nat}(g:Gn e h B v n cs)(f:Fr X h h')(hx:∀x∈X,x<B):Gn e h' B v n cs:=by
  obtain⟨hl,⟨rfl,rfl|⟨b,hb,rfl,o⟩⟩|⟨b,hb,rfl,o⟩⟩:=g
  ·exact⟨hl,.inl ⟨rfl,.inl rfl⟩⟩
  ·exact⟨hl,.inl ⟨rfl,.inr ⟨b,hb,rfl,f.own _ _ (fun m=>by have:=hx _ m;omega) o⟩⟩⟩
  ·exact⟨hl,.inr ⟨b,hb,rfl,f.own _ _ (fun m=>by have:=hx _ m;omega) o⟩⟩
theorem Gn.one{e:Nat}{h:Heap}{B n:Nat}{v:V}{cs:List V}(g:Gn e h B v n cs):v.one=true:=g.sl.one
theorem Gn.nE{e:Nat}{h:Heap}{B n:Nat}{v:V}{cs:List V}(g:Gn e h B v n cs):v≠.sliceE:=by
  obtain⟨_,⟨_,rfl|⟨b,_,rfl,_⟩⟩|⟨b,_,rfl,_⟩⟩:=g<;>simp
/-- (once: a slice that is no empty piece of something unknown) -/
def nZ:V→Bool:=fun _=>true
theorem _root_.Go.Ev.ASl.src{h:Heap}{e:Nat}{v:V}{n:Nat}{cs:List V}(a:ASl h e v n cs)(z:nZ v=true):srcLen v=some n∧srcCells h e v n=some cs∧(v≠.nils→aP (.nil 1 false) [v,.nils]=some (.bool false)):=by
  obtain⟨hl,a⟩:=a;cases v with
  |slice b o len cap=>
    obtain⟨rfl,_,c,hc,h2,q⟩:=a;exact⟨rfl,by simp only[Ev.srcCells,hc.ld,dropL_eq,takeL_at _ _ (show len*e≤(c.drop o).length by simp;omega),q],fun _=>rfl⟩
  |sliceU b o len e'=>
    obtain⟨rfl,rfl,c,hc,h2,q⟩:=a;exact⟨rfl,by simp only[Ev.srcCells,hc.ld,dropL_eq,takeL_at _ _ (show len*e'≤(c.drop o).length by simp;omega),q],fun _=>rfl⟩
  |nils=>have a:n=0:=a;subst a;simp at hl;subst hl;exact⟨rfl,rfl,fun q=>absurd rfl q⟩
  |sliceE=>have a:n=0:=a;subst a;simp at hl;subst hl;exact⟨rfl,rfl,fun _=>rfl⟩
  |sliceZ _ _=>have a:n=0:=a;subst a;simp at hl;subst hl;exact⟨rfl,rfl,fun _=>rfl⟩
  |_=>exact a.elim
theorem clone_core{h:Heap}{e bytes n:Nat}{x:V}{xs:List V}(w:WF h)(a:ASl h e x n xs)(z:nZ x=true)(he:0<e)(hsz:(2*n+1024) *bytes≤281474976710656){K:V→Heap→Prop}
    (k:∀v' h',Gn e h' h.next v' n xs→Fr [] h h'→K v' h'):OQ (aapp (halloc h []) e bytes (.slice h.next 0 0 0) x) K:=by
  have F1:=Fr.halloc w ([]:List V);have o1:=Own.new w ([]:List V);obtain⟨s1,s2,_⟩:=(a.fr F1).src z;have hl:=a.1;unfold aapp;rw[s1];simp only[];by_cases c:n=0
  ·subst c;rw[beq_tt rfl,cond_true];exact(OQ_some _ _ _).2 (k _ _ ⟨hl,.inl ⟨rfl,.inr ⟨h.next,Nat.le_refl _,rfl,o1⟩⟩⟩ F1)
  ·rw[beq_ff c,cond_false,s2];simp only[];rw[ble_ff (by omega),cond_false,Nat.zero_mul,o1.ld];have:takeL 0 (dropL ([]:List V) 0)=some []:=rfl;rw[this];simp only[agrow,Nat.zero_add,List.nil_append];rw[(Nat.ble_eq ..).mpr hsz,cond_true];refine(OQ_some _ _ _).2 (k _ _ ⟨hl,.inr ⟨(halloc h []).next,F1.next,rfl,Own.new F1.wf xs⟩⟩ (F1.then (Fr.halloc F1.wf xs)))
theorem lay_post{call:CallF}{env:T V}{k:Nat}:∀(B:List IStep)(i:Nat)(loc:List V)(h:Heap),k<i→lay call env [k] B i loc h=some (B.map fun s=>(s,none),h)
  |[],_,_,_,_=>rfl
  |s::B,i,loc,h,hi=>by
    have c0:(i==k)=false:=beq_false_of_ne (by omega);have c:List.contains [k] i=false:=by simp only[List.contains,List.elem,c0]
    simp only[lay,c,cond_false,lay_post (call:=call) (env:=env) (k:=k) B (i+1) _ h (by omega),List.map_cons]
theorem lay_pre{call:CallF}{env:T V}{k:Nat}{R:List IStep}{h h':Heap}{r:List DS}:∀(A:List IStep)(i:Nat)(loc:List V),i+A.length=k→(∀loc,lay call env [k] R k loc h=some (r,h'))→lay call env [k] (A++R) i loc h=some ((A.map fun s=>(s,none))++r,h')
  |[],i,loc,hi,hr=>by
    have:i=k:=by simpa using hi
    subst this;simpa using hr loc
  |s::A,i,loc,hi,hr=>by
    simp only[List.length_cons]at hi;have c0:(i==k)=false:=beq_false_of_ne (by omega);have c:List.contains [k] i=false:=by simp only[List.contains,List.elem,c0]
    simp only[List.cons_append,lay,c,cond_false,lay_pre (call:=call) (env:=env) (k:=k) A (i+1) _ (by omega) hr,List.map_cons]
theorem W_dal{call:CallF}{env:T V}{h:Heap}{k:Nat}{zero:List V}{Br Rr:List Nat}{reads:List (Nat×Nat×Nat)}{sets:List (Nat×Nat)}{Q:Ex→T V→Heap→Prop}(A B:List IStep)(hk:A.length=k)
    (x:WD call env ((A.map fun s=>(s,none))++(⟨none,.al zero,none⟩,some (.ptr h.next 0,zero))::B.map fun s=>(s,none)) [] [halloc h zero] (halloc h zero) (DF call (A++⟨none,.al zero,none⟩::B) reads sets env (Q .norm))):
    W call (.dops (A++⟨none,.al zero,none⟩::B) [k] Br Rr reads sets) env h Q:=by
  refine(W_dl _ _ _ _ _ _ _).2 ?_;have e:∀loc,lay call env [k] (⟨none,.al zero,none⟩::B) k loc h=some ((⟨none,.al zero,none⟩,some (.ptr h.next 0,zero))::B.map (fun s=>(s,none)),halloc h zero):=by
    intro loc;have c:List.contains [k] k=true:=by simp
    simp only[lay,c,cond_true,lateC,lay_post B (k+1) _ _ (Nat.lt_succ_self k),lateV]
  rw[lay_pre A 0 [] (by omega) e,LayQ_some];exact x
theorem late_al(loc:List V)(env:T V)(n:Nat)(zero:List V):lateOK loc env (.al zero) (.ptr n 0) zero=true:=by
  have e:lateC loc env (.al zero)=some (zero,none):=rfl;simp only[lateOK,e,lid,lateV,vEq_self,vsEq_self,Bool.and_self]
theorem lay_post2{call:CallF}{env:T V}{k:Nat}:∀(B:List IStep)(i:Nat)(loc:List V)(h:Heap),k+1<i→lay call env [k,k+1] B i loc h=some (B.map fun s=>(s,none),h)
  |[],_,_,_,_=>rfl
  |s::B,i,loc,h,hi=>by
    have c0:(i==k)=false:=beq_false_of_ne (by omega);have c1:(i==k+1)=false:=beq_false_of_ne (by omega);have c:List.contains [k,k+1] i=false:=by simp only[List.contains,List.elem,c0,c1]
    simp only[lay,c,cond_false,lay_post2 (call:=call) (env:=env) (k:=k) B (i+1) _ h (by omega),List.map_cons]
theorem lay_pre2{call:CallF}{env:T V}{k:Nat}{R:List IStep}{h h':Heap}{r:List DS}:∀(A:List IStep)(i:Nat)(loc:List V),i+A.length=k→(∀loc,lay call env [k,k+1] R k loc h=some (r,h'))→lay call env [k,k+1] (A++R) i loc h=some ((A.map fun s=>(s,none))++r,h')
  |[],i,loc,hi,hr=>by
    have:i=k:=by simpa using hi
    subst this;simpa using hr loc
  |s::A,i,loc,hi,hr=>by
    simp only[List.length_cons]at hi;have c0:(i==k)=false:=beq_false_of_ne (by omega);have c1:(i==k+1)=false:=beq_false_of_ne (by omega);have c:List.contains [k,k+1] i=false:=by simp only[List.contains,List.elem,c0,c1]
    simp only[List.cons_append,lay,c,cond_false,lay_pre2 (call:=call) (env:=env) (k:=k) A (i+1) _ (by omega) hr,List.map_cons]
theorem W_dal2{call:CallF}{env:T V}{h:Heap}{k:Nat}{z1 z2:List V}{Br Rr:List Nat}{reads:List (Nat×Nat×Nat)}{sets:List (Nat×Nat)}{Q:Ex→T V→Heap→Prop}(A B:List IStep)(hk:A.length=k)
    (x:WD call env ((A.map fun s=>(s,none))++(⟨none,.al z1,none⟩,some (.ptr h.next 0,z1))::(⟨none,.al z2,none⟩,some (.ptr (h.next+1) 0,z2))::B.map fun s=>(s,none)) [] [halloc (halloc h z1) z2] (halloc (halloc h z1) z2) (DF call (A++⟨none,.al z1,none⟩::⟨none,.al z2,none⟩::B) reads sets env (Q .norm))):
    W call (.dops (A++⟨none,.al z1,none⟩::⟨none,.al z2,none⟩::B) [k,k+1] Br Rr reads sets) env h Q:=by
  refine(W_dl _ _ _ _ _ _ _).2 ?_;have e:∀loc,lay call env [k,k+1] (⟨none,.al z1,none⟩::⟨none,.al z2,none⟩::B) k loc h=some ((⟨none,.al z1,none⟩,some (.ptr h.next 0,z1))::(⟨none,.al z2,none⟩,some (.ptr (h.next+1) 0,z2))::B.map (fun s=>(s,none)),halloc (halloc h z1) z2):=by
    intro loc;have c:List.contains [k,k+1] k=true:=by simp
    have c':List.contains [k,k+1] (k+1)=true:=by simp
    simp only[lay,c,c',cond_true,lateC,lay_post2 (k:=k) B (k+1+1) _ _ (Nat.lt_succ_self (k+1)),lateV,halloc_next]
  rw[lay_pre2 A 0 [] (by omega) e,LayQ_some];exact x
def ItQ(h:Heap)(nx:Bool)(o:Option V)(K:V→Heap→Prop):Prop:=∃d,o=some d∧OQ (ait h nx d) K
theorem ItQ_some{h:Heap}(nx:Bool)(d:V)(K:V→Heap→Prop):ItQ h nx (some d) K↔OQ (ait h nx d) K:=
  ⟨fun⟨_,e,k⟩=>by cases e;exact k,fun k=>⟨d,rfl,k⟩⟩
theorem op_it{call:CallF}{loc:List V}{env:T V}{h:Heap}(nx:Bool)(x:Opd)(K:V→Heap→Prop):OQ (evOp call loc env h (.it nx x)) K↔ItQ h nx (evO loc env x) K:=by
  simp only[evOp,OQ,ItQ];cases evO loc env x with
  |none=>simp
  |some d=>simp
theorem it_new{h:Heap}(z:List UInt8)(K:V→Heap→Prop):OQ (ait h false (.str z)) K↔K (.ptr h.next 0) (hnew h (.si z 0)):=OQ_some _ _ _
theorem it_end{h:Heap}{b pos:Nat}{z:List UInt8}(hb:h.bl.get b=some (.si z pos))(hp:¬pos<z.length)(K:V→Heap→Prop):OQ (ait h true (.ptr b 0)) K↔K (.tup [.bool false]) h:=by
  show OQ (match h.bl.get b with|some (.si z pos)=>_|_=>_) K↔_
  rw[hb];simp only[if_neg hp];exact OQ_some _ _ _
theorem it_next{h:Heap}{b pos:Nat}{z:List UInt8}(hb:h.bl.get b=some (.si z pos))(hp:pos<z.length)(K:V→Heap→Prop):OQ (ait h true (.ptr b 0)) K↔
    K (.tup [.bool true,.int .i64 (pos:Int),.int .i32 ((Utf8.decode ⟨z.toArray⟩ pos).1:Int)]) (hset h b (.si z (pos+(Utf8.decode ⟨z.toArray⟩ pos).2))):=by
  show OQ (match h.bl.get b with|some (.si z pos)=>_|_=>_) K↔_
  rw[hb];simp only[if_pos hp];exact OQ_some _ _ _
theorem _root_.Go.Ev.WF.hset{h:Heap}(w:WF h){b:Nat}{x:Blk}(hb:h.bl.get b=some x)(y:Blk):WF (hset h b y):=by
  intro p hp;obtain⟨q1,q2⟩:=w p hp;refine⟨?_,q2⟩;show(h.bl.set b y).get p=none;rw[T.get_set,if_neg (by rintro rfl;rw[hb]at q1;cases q1)];exact q1
theorem Fr.si{h:Heap}(w:WF h){b pos pos':Nat}{z:List UInt8}(hb:h.bl.get b=some (.si z pos)):Fr [] h (hset h b (.si z pos')) where
  next:=Nat.le_refl _
  wf:=WF.hset w hb _
  own:=fun x c _ ⟨f,k,e,q⟩=>⟨f,k,by
    show(h.bl.set b _).get x=_;rw[T.get_set,if_neg (by rintro rfl;rw[hb]at e;cases e)];exact e,q⟩
  pl:=fun x c _ ⟨⟨k,e⟩,q⟩=>⟨⟨k,by
    show(h.bl.set b _).get x=_;rw[T.get_set,if_neg (by rintro rfl;rw[hb]at e;cases e)];exact e⟩,q⟩
  lp:=fun x k hk e=>by
    show(h.bl.set b _).get x=_;rw[T.get_set,if_neg (by rintro rfl;rw[hb]at e;cases e;cases hk)];exact e
  ro:=fun x c ⟨f,k,ow,e,q1,q2,q3⟩=>⟨f,k,ow,by
    show(h.bl.set b _).get x=_;rw[T.get_set,if_neg (by rintro rfl;rw[hb]at e;cases e)];exact e,q1,by
    show(h.bl.set b _).get ow=_;rw[T.get_set,if_neg (by rintro rfl;rw[hb]at q2;cases q2)];exact q2,q3⟩
  ty:=fun _ _ _ e=>e
/-- a function value that answers as p does, and takes no rune that is no ASCII -/
def Pred(g:Nat)(p:Int→Bool):Prop:=g<1099511627776∧(∀(r:Int)(h:Heap),Does go g [.int .i32 r] h fun u h'=>u=.bool (p r)∧h=h')∧∀r:Int,128≤r→p r=true
def anyB(p:Int→Bool)(z:List UInt8):Bool:=z.any fun b=>p (b.toNat:Int)
theorem dec_at(z:List UInt8)(pos:Nat)(hp:pos<z.length)(p:Int→Bool)(h128:∀r:Int,128≤r→p r=true):
    (p ((Utf8.decode ⟨z.toArray⟩ pos).1:Int)=p ((z[pos]).toNat:Int))∧(p ((z[pos]).toNat:Int)=false→(Utf8.decode ⟨z.toArray⟩ pos).2=1):=by
  have hs:pos<(ByteArray.mk z.toArray).size:=hp;have he:(ByteArray.mk z.toArray)[pos]'hs=z[pos]:=rfl;by_cases c:(z[pos]).toNat<128
  ·have:=Go.decode_ascii ⟨z.toArray⟩ pos hs (by rw[he];exact c);rw[this,he];exact⟨rfl,fun _=>rfl⟩
  ·have:=Go.decode_high ⟨z.toArray⟩ pos hs (by rw[he];omega);rw[h128 _ (by omega),h128 _ (by omega)];exact⟨rfl,fun e=>by cases e⟩
theorem indexF_ok{h:Heap}{z:List UInt8}{g:Nat}{p:Int→Bool}(w:WF h)(P:Pred g p)(hz:z.length<16777216):
    Does go 298 [.str z,.func (.func g) [] [],.bool true] h fun u h'=>∃r:Int,u=.int .i64 r∧(decide (0≤r)=anyB p z)∧Fr [] h h':=by
  obtain⟨hg,hp,h128⟩:=P;obtain⟨h1,e_h1⟩:∃h1,h1=hnew h (.si z 0):=⟨_,rfl⟩;have F_h1:Fr [] h h1:=e_h1▸Fr.hnew w _;have b1:h1.bl.get h.next=some (.si z 0):=by rw[e_h1];exact hnew_get _ _
  refine does_fn g298 rfl ?_;simp(maxSteps:=1000000) (disch:=omega) only[fn298,evs,↓reduceIte,Nat.reduceEqDiff,Nat.reduceAdd,Nat.reduceMul,Nat.reduceLeDiff,Nat.reduceLT,Int.reduceNeg,DF,eff,Nat.reduceSub,fwrap_i64,op_it,ItQ_some,it_new,←e_h1];refine W_loop (fun k env hh=>Fr [] h hh∧∃(i:Nat),env.get 10=some (.ptr h.next 0)∧env.get 1=some (.func (.func g) [] [])∧env.get 2=some (.bool true)∧hh.bl.get h.next=some (.si z i)∧
      i≤z.length∧anyB p (z.drop i)=anyB p z∧k=z.length-i) z.length (by omega) ?_ ?_
  ·exact⟨F_h1,0,(by simp[T.get_set]),(by simp[T.get_set]),(by simp[T.get_set]),b1,by omega,rfl,rfl⟩
  ·rintro k env hh ⟨F,i,g10,g1,g2,bb,hi,e,rfl⟩;by_cases hlt:i<z.length
   ·have⟨d1,d2⟩:=dec_at z i hlt p h128;have F1:Fr [] hh (hset hh h.next (.si z (i+(Utf8.decode ⟨z.toArray⟩ i).2))):=Fr.si F.wf bb;have b2:=hset_get hh h.next (.si z (i+(Utf8.decode ⟨z.toArray⟩ i).2));rw[List.drop_eq_getElem_cons hlt]at e;simp(maxSteps:=1000000) (disch:=omega) only[evs,↓reduceIte,Nat.reduceEqDiff,Nat.reduceAdd,Nat.reduceMul,Nat.reduceLeDiff,Nat.reduceLT,Int.reduceNeg,DF,eff,Nat.reduceSub,fwrap_i64,g10,g1,g2,op_it,ItQ_some,it_next bb hlt,hg];refine OQ_does (hp _ _) ?_;rintro _ h2 ⟨rfl,rfl⟩;cases c:p ((z[i]).toNat:Int)
    ·have w1:=d2 c;rw[c]at d1;rw[w1]at F1 b2⊢;simp(maxSteps:=1000000) (disch:=omega) only[evs,↓reduceIte,Nat.reduceEqDiff,Nat.reduceAdd,Nat.reduceMul,Nat.reduceLeDiff,Nat.reduceLT,Int.reduceNeg,DF,eff,Nat.reduceSub,fwrap_i64,d1,g10,g1,g2];unfold anyB at e;rw[List.any_cons,c,Bool.false_or]at e;refine(roundQ_norm _ _ _).2 ⟨z.length-(i+1),by omega,F.then F1,i+1,(by simp[T.get_set,g10]),(by simp[T.get_set,g1]),(by simp[T.get_set,g2]),b2,by omega,e,rfl⟩
     done
    ·rw[c]at d1;simp(maxSteps:=1000000) (disch:=omega) only[evs,↓reduceIte,Nat.reduceEqDiff,Nat.reduceAdd,Nat.reduceMul,Nat.reduceLeDiff,Nat.reduceLT,Int.reduceNeg,DF,eff,Nat.reduceSub,fwrap_i64,d1,g10,g1,g2];unfold anyB at e⊢;rw[List.any_cons,c,Bool.true_or]at e;exact⟨i,rfl,by rw[←e];simp,F.then F1⟩
   ·simp(maxSteps:=1000000) (disch:=omega) only[evs,↓reduceIte,Nat.reduceEqDiff,Nat.reduceAdd,Nat.reduceMul,Nat.reduceLeDiff,Nat.reduceLT,Int.reduceNeg,DF,eff,Nat.reduceSub,fwrap_i64,g10,g1,g2,op_it,ItQ_some,it_end bb hlt];rw[List.drop_of_length_le (by omega)]at e;exact⟨-1,rfl,by rw[←e];rfl,F⟩
def badT(r:Int):Bool:=decide (r<32)||decide (126<r)
def badN(r:Int):Bool:=(decide (r<97)||decide (122<r))&&(decide (r<48)||decide (57<r))
def okT(z:List UInt8):Bool:=decide (z.length≤64)&& !anyB badT z
def okN(z:List UInt8):Bool:=decide (0<z.length)&&(decide (z.length≤16)&& !anyB badN z)
theorem aP_lenStr(a:List UInt8):aP .lenStr [.str a]=some (.int .i64 (a.length:Nat)):=rfl
theorem aP_sbn(a b:List UInt8):aP (.sb .neq) [.str a,.str b]=some (.bool (!(a==b))):=rfl
theorem aP_sbe(a b:List UInt8):aP (.sb .eql) [.str a,.str b]=some (.bool (a==b)):=rfl
theorem beq_nil_str(z:List UInt8):(z==[])=decide (z.length=0):=by cases z<;>rfl
theorem inName_ok{h:Heap}(r:Nat):Does go 226 [.int .u8 (r:Int)] h fun u h'=>u=.bool (!badN r)∧h=h':=by
  by_cases c:(97:Int)≤r
  ·by_cases d:(r:Int)≤122
   ·refine does_fn g226 rfl ?_;simp(maxSteps:=1000000) (disch:=omega) only[fn226,evs,↓reduceIte,Nat.reduceEqDiff,Nat.reduceAdd,Nat.reduceMul,Nat.reduceLeDiff,Nat.reduceLT,Int.reduceNeg,DF,eff,Nat.reduceSub,fwrap_i64,c,d];simp[badN];omega
   ·by_cases e:(48:Int)≤r
    ·by_cases f:(r:Int)≤57
     ·omega
     ·refine does_fn g226 rfl ?_;simp(maxSteps:=1000000) (disch:=omega) only[fn226,evs,↓reduceIte,Nat.reduceEqDiff,Nat.reduceAdd,Nat.reduceMul,Nat.reduceLeDiff,Nat.reduceLT,Int.reduceNeg,DF,eff,Nat.reduceSub,fwrap_i64,c,d,e,f];simp[badN];omega
    ·omega
  ·by_cases e:(48:Int)≤r
   ·by_cases f:(r:Int)≤57
    ·refine does_fn g226 rfl ?_;simp(maxSteps:=1000000) (disch:=omega) only[fn226,evs,↓reduceIte,Nat.reduceEqDiff,Nat.reduceAdd,Nat.reduceMul,Nat.reduceLeDiff,Nat.reduceLT,Int.reduceNeg,DF,eff,Nat.reduceSub,fwrap_i64,c,e,f];simp[badN];omega
    ·refine does_fn g226 rfl ?_;simp(maxSteps:=1000000) (disch:=omega) only[fn226,evs,↓reduceIte,Nat.reduceEqDiff,Nat.reduceAdd,Nat.reduceMul,Nat.reduceLeDiff,Nat.reduceLT,Int.reduceNeg,DF,eff,Nat.reduceSub,fwrap_i64,c,e,f];simp[badN];omega
   ·refine does_fn g226 rfl ?_;simp(maxSteps:=1000000) (disch:=omega) only[fn226,evs,↓reduceIte,Nat.reduceEqDiff,Nat.reduceAdd,Nat.reduceMul,Nat.reduceLeDiff,Nat.reduceLT,Int.reduceNeg,DF,eff,Nat.reduceSub,fwrap_i64,c,e];simp[badN];omega
theorem aP_ixstr{z:List UInt8}{i:Nat}(h:i<z.length)(k:IntKind):aP .ixstr [.str z,.int k (i:Int)]=some (.int .u8 ((z[i]).toNat:Nat)):=by
  show(z[i]?).map _=_;rw[List.getElem?_eq_getElem h];rfl
theorem named_ok{h:Heap}{z:List UInt8}:Does go 154 [.str z] h fun u h'=>u=.bool (okN z)∧h=h':=by
  by_cases c0:z.length<1
  ·refine does_fn g154 rfl ?_;simp(maxSteps:=1000000) (disch:=omega) only[fn154,evs,↓reduceIte,Nat.reduceEqDiff,Nat.reduceAdd,Nat.reduceMul,Nat.reduceLeDiff,Nat.reduceLT,Int.reduceNeg,DF,eff,Nat.reduceSub,fwrap_i64,aP_lenStr,show(z.length:Int)<1 by omega];simp[okN];intro _;omega
  by_cases c1:16<z.length
  ·refine does_fn g154 rfl ?_;simp(maxSteps:=1000000) (disch:=omega) only[fn154,evs,↓reduceIte,Nat.reduceEqDiff,Nat.reduceAdd,Nat.reduceMul,Nat.reduceLeDiff,Nat.reduceLT,Int.reduceNeg,DF,eff,Nat.reduceSub,fwrap_i64,aP_lenStr,show¬(z.length:Int)<1 by omega,show(16:Int)<z.length by omega];simp[okN];intro _ _;omega
  ·have e0:okN z= !anyB badN z:=by simp[okN,show 0<z.length by omega,show z.length≤16 by omega]
   rw[e0];refine does_fn g154 rfl ?_;simp(maxSteps:=1000000) (disch:=omega) only[fn154,evs,↓reduceIte,Nat.reduceEqDiff,Nat.reduceAdd,Nat.reduceMul,Nat.reduceLeDiff,Nat.reduceLT,Int.reduceNeg,DF,eff,Nat.reduceSub,fwrap_i64,aP_lenStr,show¬(z.length:Int)<1 by omega,show¬(16:Int)<z.length by omega];refine W_loop (fun k env hh=>h=hh∧∃(i:Nat),env.get 14=some (.int .i64 i)∧env.get 13=some (.int .i64 z.length)∧env.get 0=some (.str z)∧
     i≤z.length∧anyB badN (z.drop i)=anyB badN z∧k=z.length-i) z.length (by omega) ?_ ?_
   ·exact⟨rfl,0,(by simp[T.get_set]),(by simp[T.get_set]),(by simp[T.get_set]),by omega,rfl,rfl⟩
   ·rintro k env hh ⟨rfl,i,g14,g13,g0,hi,e,rfl⟩;by_cases hlt:i<z.length
    ·unfold anyB at e;rw[List.drop_eq_getElem_cons hlt,List.any_cons]at e;simp(maxSteps:=1000000) (disch:=omega) only[evs,↓reduceIte,Nat.reduceEqDiff,Nat.reduceAdd,Nat.reduceMul,Nat.reduceLeDiff,Nat.reduceLT,Int.reduceNeg,DF,eff,Nat.reduceSub,fwrap_i64,g14,g13,g0,show(i:Int)<z.length by omega,aP_ixstr hlt];refine OQ_does (inName_ok _) ?_;rintro _ _ ⟨rfl,rfl⟩;cases c:badN ((z[i]).toNat:Int)
     ·simp(maxSteps:=1000000) (disch:=omega) only[evs,↓reduceIte,Nat.reduceEqDiff,Nat.reduceAdd,Nat.reduceMul,Nat.reduceLeDiff,Nat.reduceLT,Int.reduceNeg,DF,eff,Nat.reduceSub,fwrap_i64,g14,g13,g0];rw[c,Bool.false_or]at e;refine(roundQ_norm _ _ _).2 ⟨z.length-(i+1),by omega,rfl,i+1,(by simp[T.get_set]),(by simp[T.get_set,g13]),(by simp[T.get_set,g0]),by omega,e,rfl⟩
      done
     ·simp(maxSteps:=1000000) (disch:=omega) only[evs,↓reduceIte,Nat.reduceEqDiff,Nat.reduceAdd,Nat.reduceMul,Nat.reduceLeDiff,Nat.reduceLT,Int.reduceNeg,DF,eff,Nat.reduceSub,fwrap_i64,g14,g13,g0];rw[c,Bool.true_or]at e;unfold anyB;rw[←e];simp
    ·simp(maxSteps:=1000000) (disch:=omega) only[evs,↓reduceIte,Nat.reduceEqDiff,Nat.reduceAdd,Nat.reduceMul,Nat.reduceLeDiff,Nat.reduceLT,Int.reduceNeg,DF,eff,Nat.reduceSub,fwrap_i64,g14,g13,g0,show¬(i:Int)<z.length by omega];rw[List.drop_of_length_le (by omega)]at e;rw[←e];rfl
theorem P293:Pred 225 badT:=⟨by decide,fun r h=>by
  by_cases c:r<32
  ·refine does_fn g225 rfl ?_;simp(maxSteps:=1000000) (disch:=omega) only[fn225,evs,↓reduceIte,Nat.reduceEqDiff,Nat.reduceAdd,Nat.reduceMul,Nat.reduceLeDiff,Nat.reduceLT,Int.reduceNeg,DF,eff,Nat.reduceSub,fwrap_i64,c];simp[badT,c]
  ·refine does_fn g225 rfl ?_;simp(maxSteps:=1000000) (disch:=omega) only[fn225,evs,↓reduceIte,Nat.reduceEqDiff,Nat.reduceAdd,Nat.reduceMul,Nat.reduceLeDiff,Nat.reduceLT,Int.reduceNeg,DF,eff,Nat.reduceSub,fwrap_i64,c];simp[badT,c],fun r hr=>by simp[badT];omega⟩
theorem ntext_ok{h:Heap}{z:List UInt8}(w:WF h):Does go 153 [.str z] h fun u h'=>u=.bool (okT z)∧Fr [] h h':=by
  by_cases c:z.length≤64
  ·refine does_fn g153 rfl ?_;simp(maxSteps:=1000000) (disch:=omega) only[fn153,evs,↓reduceIte,Nat.reduceEqDiff,Nat.reduceAdd,Nat.reduceMul,Nat.reduceLeDiff,Nat.reduceLT,Int.reduceNeg,DF,eff,Nat.reduceSub,fwrap_i64,aP_lenStr,show(z.length:Int)≤64 by omega];refine OQ_does (?_:Does go 224 _ _ (fun u h'=>∃r:Int,u=.int .i64 r∧(decide (0≤r)=anyB badT z)∧Fr [] h h')) ?_
   ·refine does_fn g224 rfl ?_;simp(maxSteps:=1000000) (disch:=omega) only[fn224,evs,↓reduceIte,Nat.reduceEqDiff,Nat.reduceAdd,Nat.reduceMul,Nat.reduceLeDiff,Nat.reduceLT,Int.reduceNeg,DF,eff,Nat.reduceSub,fwrap_i64];refine OQ_does (indexF_ok w P293 (by omega)) ?_;rintro _ h1 ⟨r,rfl,e,F⟩;simp(maxSteps:=1000000) (disch:=omega) only[evs,↓reduceIte,Nat.reduceEqDiff,Nat.reduceAdd,Nat.reduceMul,Nat.reduceLeDiff,Nat.reduceLT,Int.reduceNeg,DF,eff,Nat.reduceSub,fwrap_i64];exact⟨r,rfl,e,F⟩
   ·rintro _ h1 ⟨r,rfl,e,F⟩;simp(maxSteps:=1000000) (disch:=omega) only[evs,↓reduceIte,Nat.reduceEqDiff,Nat.reduceAdd,Nat.reduceMul,Nat.reduceLeDiff,Nat.reduceLT,Int.reduceNeg,DF,eff,Nat.reduceSub,fwrap_i64];refine⟨?_,F⟩;have:decide (r<0)= !decide (0≤r):=by by_cases q:0≤r<;>simp[q]<;>omega
    simp[okT,c,←e];exact this
  ·refine does_fn g153 rfl ?_;simp(maxSteps:=1000000) (disch:=omega) only[fn153,evs,↓reduceIte,Nat.reduceEqDiff,Nat.reduceAdd,Nat.reduceMul,Nat.reduceLeDiff,Nat.reduceLT,Int.reduceNeg,DF,eff,Nat.reduceSub,fwrap_i64,aP_lenStr,show¬(z.length:Int)≤64 by omega];exact⟨by simp[okT,c],Fr.refl w⟩
abbrev Str:=List UInt8
inductive NT where
  |nil
  |cons (kind:Nat) (tag key:Str) (attrs:List (Str×Str)) (text:Str) (va vc:V) (sub next:NT)
def attC(a:Str×Str):List V:=[.str a.1,.str a.2]
theorem attC_len(a:Str×Str):(attC a).length=2:=rfl
namespace NT
def len:NT→Nat
  |nil=>0
  |cons _ _ _ _ _ _ _ _ nx=>nx.len+1
def cells:NT→List V
  |nil=>[]
  |cons k tg ky _ tx va vc _ nx=>[.int .u8 (k:Int),.str tg,.str ky,va,.str tx,vc]++nx.cells
def keys:NT→List Str
  |nil=>[]
  |cons _ _ ky _ _ _ _ _ nx=>ky::nx.keys
theorem cells_len:∀t:NT,t.cells.length=t.len*6
  |nil=>rfl
  |cons _ _ _ _ _ _ _ _ nx=>by simp[cells,len,cells_len nx];omega
theorem keys_len:∀t:NT,t.keys.length=t.len
  |nil=>rfl
  |cons _ _ _ _ _ _ _ _ nx=>by simp[keys,len,keys_len nx]
/-- the i-th one -/
def at':NT→Nat→NT
  |t,0=>t
  |nil,_+1=>nil
  |cons _ _ _ _ _ _ _ _ nx,i+1=>nx.at' i
end NT
/-- the trees stand in memory -/
def NH(h:Heap):NT→Prop
  |.nil=>True
  |.cons k _ _ at' _ va vc sub nx=>k<256∧Recs attC 2 h va at'∧at'.length≤4096∧Sl h 6 vc sub.len sub.cells∧sub.len≤4096∧NH h sub∧NH h nx
theorem NH.fr{h h':Heap}(f:Fr [] h h'):∀{t:NT},NH h t→NH h' t
  |.nil,_=>trivial
  |.cons _ _ _ _ _ _ _ _ _,⟨a,b,c,d,e,g,i⟩=>⟨a,b.fr f,c,d.fr f,e,NH.fr f g,NH.fr f i⟩
set_option maxRecDepth 4000
namespace NT
theorem split:∀(t:NT)(i:Nat),i<t.len→∃k tg ky at' tx va vc sub nx,t.at' i=.cons k tg ky at' tx va vc sub nx∧t.cells.drop (i*6)=[.int .u8 ((k:Nat):Int),.str tg,.str ky,va,.str tx,vc]++nx.cells∧t.at' (i+1)=nx∧t.keys.drop i=ky::nx.keys∧t.keys[i]? =some ky∧nx.len+(i+1)=t.len
  |.nil,_,h=>by cases h
  |.cons k tg ky at' tx va vc sub nx,0,_=>⟨k,tg,ky,at',tx,va,vc,sub,nx,rfl,rfl,by cases nx<;>rfl,rfl,rfl,rfl⟩
  |.cons _ _ _ _ _ _ _ _ nx,i+1,h=>by
    obtain⟨k,tg,ky,at',tx,va,vc,sub,n,e1,e2,e3,e4,e5,e6⟩:=split nx i (by simp[len]at h;omega);refine⟨k,tg,ky,at',tx,va,vc,sub,n,e1,?_,e3,e4,?_,by simp only[len];omega⟩
    ·rw[show(i+1) *6=6+i*6 by omega,←List.drop_drop];exact e2
    ·simpa[keys]using e5
theorem at_end:∀(t:NT)(i:Nat),t.len≤i→t.at' i=.nil
  |.nil,0,_=>rfl
  |.nil,_+1,_=>rfl
  |.cons _ _ _ _ _ _ _ _ nx,0,h=>by simp[len]at h
  |.cons _ _ _ _ _ _ _ _ nx,i+1,h=>at_end nx i (by simp[len]at h;omega)
end NT
theorem NH.at'{h:Heap}:∀{t:NT}(i:Nat),NH h t→NH h (t.at' i)
  |.nil,0,_=>trivial
  |.nil,_+1,_=>trivial
  |.cons _ _ _ _ _ _ _ _ _,0,a=>a
  |.cons _ _ _ _ _ _ _ _ _,i+1,⟨_,_,_,_,_,_,g⟩=>NH.at' i g
/-- six cells -/
def At6(h:Heap)(b o:Nat)(x0 x1 x2 x3 x4 x5:V):Prop:=hload1 h b o=some x0∧hload1 h b (o+1)=some x1∧hload1 h b (o+2)=some x2∧hload1 h b (o+3)=some x3∧hload1 h b (o+4)=some x4∧hload1 h b (o+5)=some x5∧hload h b o 6=some [x0,x1,x2,x3,x4,x5]
theorem _root_.Go.Ev.Sl.ix6{h:Heap}{v:V}{n:Nat}{cs:List V}(a:Sl h 6 v n cs){i:Nat}(hi:i<n){x0 x1 x2 x3 x4 x5:V}{r:List V}(e:cs.drop (i*6)=[x0,x1,x2,x3,x4,x5]++r):
    ∃b o,aP (.ixs 6) [v,.int .i64 (i:Int)]=some (.ptr b o)∧At6 h b o x0 x1 x2 x3 x4 x5:=by
  obtain⟨b,o,e1,e2,e3⟩:=Sl.ix a .i64 (i:Int) (by omega) (by omega);rw[Int.toNat_natCast]at e2 e3;rw[e]at e3;have g:∀j,cs[i*6+j]? =([x0,x1,x2,x3,x4,x5]++r)[j]? :=fun j=>by rw[←e,List.getElem?_drop]
  refine⟨b,o,e1,?_,?_,?_,?_,?_,?_,e3⟩
  ·have:=e2 0 (by omega);rw[g]at this;exact this
  ·have:=e2 1 (by omega);rw[g]at this;exact this
  ·have:=e2 2 (by omega);rw[g]at this;exact this
  ·have:=e2 3 (by omega);rw[g]at this;exact this
  ·have:=e2 4 (by omega);rw[g]at this;exact this
  ·have:=e2 5 (by omega);rw[g]at this;exact this
theorem _root_.Go.Ev.Own.at6{h:Heap}{b:Nat}{x0 x1 x2 x3 x4 x5:V}(o:Own h b [x0,x1,x2,x3,x4,x5]):At6 h b 0 x0 x1 x2 x3 x4 x5:=⟨o.ld1 0,o.ld1 1,o.ld1 2,o.ld1 3,o.ld1 4,o.ld1 5,by rw[o.ld];rfl⟩
/-- a node's key is that of another -/
theorem sameKey_ok{h:Heap}{x0 x1 x3 x4 x5:V}{ky k0:Str}{bk:Nat}(w:WF h)(hk:∀h',Fr [] h h'→hload1 h' bk 2=some (.str k0))(ones:onesB [x0,x1,.str ky,x3,x4,x5]=true):
    Does go 156 [.agg [x0,x1,.str ky,x3,x4,x5],.ptr bk 0] h fun u h'=>u=.bool (ky==k0)∧Fr [] h h':=by
  obtain⟨h1,e_h1⟩:∃h1,h1=halloc h [x0,x1,.str ky,x3,x4,x5]:=⟨_,rfl⟩;have F_h1:Fr [] h h1:=e_h1▸Fr.halloc w _;have o_h1:Own h1 h.next [x0,x1,.str ky,x3,x4,x5]:=e_h1▸Own.new w _;have l2:hload1 h1 h.next 2=some (.str ky):=o_h1.ld1 2;refine does_fn g156 rfl ?_;simp(maxSteps:=1000000) (disch:=omega) only[fn156,evs,↓reduceIte,Nat.reduceEqDiff,Nat.reduceAdd,Nat.reduceMul,Nat.reduceLeDiff,Nat.reduceLT,Int.reduceNeg,DF,eff,Nat.reduceSub,fwrap_i64,←e_h1,l2,hk h1 F_h1,aP_sbe];exact F_h1
theorem indexK_ok{h:Heap}{u:V}{t:NT}{i bk:Nat}{k0:Str}(w:WF h)(a:Sl h 6 u i (t.cells.take (i*6)))(hi:i≤t.len)(hn:i≤4096)(ones:onesB t.cells=true)(hk:∀h',Fr [] h h'→hload1 h' bk 2=some (.str k0)):
    Does go 155 [u,.func (.func 156) [] [.ptr bk 0]] h fun z h'=>z=.bool ((t.keys.take i).any (· ==k0))∧Fr [] h h':=by
  refine does_fn g155 rfl ?_;simp(maxSteps:=1000000) (disch:=omega) only[fn155,evs,↓reduceIte,Nat.reduceEqDiff,Nat.reduceAdd,Nat.reduceMul,Nat.reduceLeDiff,Nat.reduceLT,Int.reduceNeg,DF,eff,Nat.reduceSub,fwrap_i64];refine OQ_does (?_:Does go 227 _ _ (fun z h'=>∃r:Int,z=.int .i64 r∧(decide (0≤r)=(t.keys.take i).any (· ==k0))∧Fr [] h h')) ?_
  ·refine does_fn g227 rfl ?_;simp(maxSteps:=1000000) (disch:=omega) only[fn227,evs,↓reduceIte,Nat.reduceEqDiff,Nat.reduceAdd,Nat.reduceMul,Nat.reduceLeDiff,Nat.reduceLT,Int.reduceNeg,DF,eff,Nat.reduceSub,fwrap_i64,a.len];refine W_loop (fun k env hh=>Fr [] h hh∧∃(j:Nat),env.get 8=some (.int .i64 j)∧env.get 7=some (.int .i64 i)∧env.get 0=some u∧env.get 1=some (.func (.func 156) [] [.ptr bk 0])∧
       j≤i∧((t.keys.take i).drop j).any (· ==k0)=(t.keys.take i).any (· ==k0)∧k=i-j) i (by omega) ?_ ?_
   ·exact⟨Fr.refl w,0,(by simp[T.get_set]),(by simp[T.get_set]),(by simp[T.get_set]),(by simp[T.get_set]),by omega,rfl,rfl⟩
   ·rintro k env hh ⟨F,j,g8,g7,g0,g1,hj,e,rfl⟩;by_cases hlt:j<i
    ·obtain⟨kd,tg,ky,at',tx,va,vc,sub,nx,e1,e2,e3,e4,e5,_⟩:=t.split j (by omega);have q:(t.cells.take (i*6)).drop (j*6)=[.int .u8 (kd:Int),.str tg,.str ky,va,.str tx,vc]++nx.cells.take (i*6-j*6-6):=by
       rw[List.drop_take,e2,show i*6-j*6=([.int .u8 (kd:Int),.str tg,.str ky,va,.str tx,vc]:List V).length+(i*6-j*6-6) by simp;omega,List.take_length_add_append];simp
     obtain⟨b,o,p1,p2⟩:=(a.fr F).ix6 hlt q;have on:onesB [.int .u8 (kd:Int),.str tg,.str ky,va,.str tx,vc]=true:=by
       have:=onesB_drop (j*6) ones;rw[e2,onesB_append]at this;exact(Bool.and_eq_true _ _▸this).1
     have ek:(t.keys.take i)[j]? =some ky:=by rw[List.getElem?_take,if_pos hlt];exact e5
     rw[drop_cons ek,List.any_cons]at e;simp(maxSteps:=1000000) (disch:=omega) only[evs,↓reduceIte,Nat.reduceEqDiff,Nat.reduceAdd,Nat.reduceMul,Nat.reduceLeDiff,Nat.reduceLT,Int.reduceNeg,DF,eff,Nat.reduceSub,fwrap_i64,g8,g7,g0,g1,show(j:Int)<(i:Int) by omega,p1,p2.2.2.2.2.2.2];refine OQ_does (sameKey_ok F.wf (fun h' f=>hk h' (F.then f)) on) ?_;rintro _ h1 ⟨rfl,F1⟩;cases c:ky==k0
     ·simp(maxSteps:=1000000) (disch:=omega) only[evs,↓reduceIte,Nat.reduceEqDiff,Nat.reduceAdd,Nat.reduceMul,Nat.reduceLeDiff,Nat.reduceLT,Int.reduceNeg,DF,eff,Nat.reduceSub,fwrap_i64,c,g8,g7,g0,g1];rw[c]at e;refine(roundQ_norm _ _ _).2 ⟨i-(j+1),by omega,F.then F1,j+1,(by simp[T.get_set]),(by simp[T.get_set,g7]),(by simp[T.get_set,g0]),(by simp[T.get_set,g1]),by omega,by simpa using e,rfl⟩
      done
     ·simp(maxSteps:=1000000) (disch:=omega) only[evs,↓reduceIte,Nat.reduceEqDiff,Nat.reduceAdd,Nat.reduceMul,Nat.reduceLeDiff,Nat.reduceLT,Int.reduceNeg,DF,eff,Nat.reduceSub,fwrap_i64,c,g8,g7,g0,g1];rw[c]at e;exact⟨j,rfl,by rw[←e];simp,F.then F1⟩
    ·simp(maxSteps:=1000000) (disch:=omega) only[evs,↓reduceIte,Nat.reduceEqDiff,Nat.reduceAdd,Nat.reduceMul,Nat.reduceLeDiff,Nat.reduceLT,Int.reduceNeg,DF,eff,Nat.reduceSub,fwrap_i64,g8,g7,g0,g1,show¬(j:Int)<(i:Int) by omega];rw[List.drop_of_length_le (by simp;omega)]at e;exact⟨-1,rfl,by rw[←e];rfl,F⟩
  ·rintro _ h1 ⟨r,rfl,e,F⟩;simp(maxSteps:=1000000) (disch:=omega) only[evs,↓reduceIte,Nat.reduceEqDiff,Nat.reduceAdd,Nat.reduceMul,Nat.reduceLeDiff,Nat.reduceLT,Int.reduceNeg,DF,eff,Nat.reduceSub,fwrap_i64];exact⟨by rw[e],F⟩
end Go.Ev.Lay
