/- An evaluator of the program, and contracts over it: LayA to StV. -/
import Derived.Laws.RangeString
import Derived.Laws.RangeAny
import Derived.Test.YtcomlfdjmehhbaaGreatDoorP04
import Derived.Test.YtcomlfdjmehhbaaGreatDoorP05
set_option linter.unusedSimpArgs false
set_option linter.unusedVariables false
set_option linter.constructorNameAsVariable false
set_option linter.unnecessarySimpa false
namespace Go.Ev.Lay
set_option maxRecDepth 4000
inductive Tr where
  |nil
  |node (l:Tr) (s:Int) (r:Tr)
namespace Tr
def list:Tr→List Int
  |nil=>[]
  |node l s r=>l.list++s::r.list
def many:Tr→Int
  |nil=>0
  |node l _ r=>l.many+r.many+1
def sum:Tr→Int
  |nil=>0
  |node l s r=>l.sum+s+r.sum
def tall:Tr→Int
  |nil=>0
  |node l _ r=>max l.tall r.tall+1
end Tr
/-- a tree lies in the heap -/
def At(h:Heap):Tr→Option Nat→Prop
  |.nil,p=>p=none
  |.node l s r,p=>∃b pl pr,p=some b∧Own h b [pv pl,pv pr,.int .i64 s,.int .i64 (Tr.node l s r).many,.int .i64 (Tr.node l s r).sum,.int .i64 (Tr.node l s r).tall]∧At h l pl∧At h r pr
theorem At.fr{h h':Heap}(f:Fr [] h h'):∀{t:Tr}{p:Option Nat},At h t p→At h' t p
  |.nil,_,a=>a
  |.node l s r,_,⟨b,pl,pr,e,o,al,ar⟩=>⟨b,pl,pr,e,f.get o,At.fr f al,At.fr f ar⟩
/-- sizes that no sum leaves the numbers by -/
def Fit(l:List Int):Prop:=(∀x∈l,0≤x)∧l.sum≤4611686018427387904∧(l.length:Int)≤1000000
theorem po:∀{l:List Int},(∀x∈l,0≤x)→0≤l.sum
  |[],_=>by simp
  |x::l,h=>by have:=po (l:=l) fun y hy=>h y (by simp[hy]);have:=h x (by simp);simp;omega
theorem Fit.left{a b:List Int}(f:Fit (a++b)):Fit a:=by
  obtain⟨p,q,r⟩:=f;have hb:0≤b.sum:=po fun x hx=>p x (by simp[hx]);refine⟨fun x hx=>p x (by simp[hx]),?_,?_⟩
  ·rw[List.sum_append]at q;omega
  ·rw[List.length_append]at r;omega
theorem Fit.right{a b:List Int}(f:Fit (a++b)):Fit b:=by
  obtain⟨p,q,r⟩:=f;have hb:0≤a.sum:=po fun x hx=>p x (by simp[hx]);refine⟨fun x hx=>p x (by simp[hx]),?_,?_⟩
  ·rw[List.sum_append]at q;omega
  ·rw[List.length_append]at r;omega
theorem Fit.cons{x:Int}{l:List Int}(f:Fit (x::l)):Fit l:=Fit.right (a:=[x]) (by simpa using f)
theorem Fit.sub{l m:List Int}(f:Fit l)(h:m.Sublist l):Fit m:=by
  obtain⟨a,b,c⟩:=f;have hs:∀{l m:List Int},m.Sublist l→(∀x∈l,0≤x)→m.sum≤l.sum:=by
    intro l m h;induction h with
    |slnil=>intro _;simp
    |cons x h ih=>intro a;have:=ih (fun y hy=>a y (by simp[hy]));have:=a x (by simp);simp;omega
    |cons_cons x h ih=>intro a;have:=ih (fun y hy=>a y (by simp[hy]));simp;omega
  exact⟨fun x hx=>a x (h.subset hx),by have:=hs h a;omega,by have:=h.length_le;omega⟩
/-- a rope -/
def Rp(h:Heap)(v:V)(l:List Int):Prop:=∃t p,v=.agg [pv p]∧At h t p∧t.list=l∧Fit l
theorem Rp.fr{h h':Heap}{v:V}{l:List Int}(a:Rp h v l)(f:Fr [] h h'):Rp h' v l:=by
  obtain⟨t,p,e,a,x⟩:=a;exact⟨t,p,e,a.fr f,x⟩
/-- the place of an offset in a list of sizes, and the rest -/
def mD:List Int→Int→Nat×Int
  |[],x=>(0,x)
  |s::l,x=>if x<s then(0,x)else((mD l (x-s)).1+1,(mD l (x-s)).2)
/-- a slice of values of one cell each -/
def Vals{α:Type}(f:α→V)(h:Heap)(v:V)(l:List α):Prop:=Sl h 1 v l.length (l.map f)
theorem Vals.fr{α:Type}{f:α→V}{h h':Heap}{v:V}{l:List α}(a:Vals f h v l)(r:Fr [] h h'):Vals f h' v l:=Sl.fr a r
theorem Vals.len{α:Type}{f:α→V}{h:Heap}{v:V}{l:List α}(a:Vals f h v l):aP .lenS [v]=some (.int .i64 l.length):=Sl.len a
theorem Vals.ix{α:Type}{f:α→V}{h:Heap}{v:V}{l:List α}(a:Vals f h v l)(k:IntKind)(i:Int)(h0:0≤i)(h1:i<l.length):
    ∃b o x,aP (.ixs 1) [v,.int k i]=some (.ptr b o)∧ab h b o=some (f x)∧l[i.toNat]? =some x:=by
  obtain⟨b,o,e,g,_⟩:=Sl.ix a k i h0 h1;have hi:i.toNat<l.length:=by omega
  refine⟨b,o,l[i.toNat],e,?_,by simp[hi]⟩;have:=g 0 (by omega);simpa[hi]using this
theorem Vals.upto{α:Type}{f:α→V}{h:Heap}{v:V}{l:List α}(a:Vals f h v l)(hv:v≠.sliceE)(k:IntKind)(i:Int)(h0:0≤i)(h1:i≤l.length):
    ∃v',aP (.sl none 1 false true false) [v,.int k i]=some v'∧Vals f h v' (l.take i.toNat):=by
  obtain⟨v',e,s⟩:=Sl.upto a (by omega) hv k i h0 h1;refine⟨v',e,?_⟩;unfold Vals;rw[List.length_take,Nat.min_eq_left (by omega),List.map_take];simpa using s
theorem bq{α:Type}{l:List α}{i:Nat}{x:α}(h:l[i]? =some x):l.drop i=x::l.drop (i+1):=by
  have hi:i<l.length:=by
    rcases Nat.lt_or_ge i l.length with y|y
    ·exact y
    ·rw[List.getElem?_eq_none y]at h;cases h
  rw[List.drop_eq_getElem_cons hi];congr 1;rw[List.getElem?_eq_getElem hi]at h;cases h;rfl
theorem Own.ne{h:Heap}{b b':Nat}{c c':List V}(o:Own h b c)(o':Own h b' c')(hc:c≠c'):b≠b':=by
  rintro rfl;exact hc (o.uniq o')
theorem ql:∀(l:List Int)(i:Nat)(x:Int),i<l.length→(l.set i x).sum=l.sum-l.getD i 0+x
  |y::l,0,x,_=>by simp;omega
  |y::l,i+1,x,h=>by have:=ql l i x (by simpa using h);simp at this⊢;omega
theorem Fit.set{l:List Int}(f:Fit l){i:Nat}{x:Int}(hi:i<l.length)(h0:0≤x)(h1:x≤4611686018427387904-(l.sum-l.getD i 0)):Fit (l.set i x):=by
  refine⟨fun y hy=>?_,?_,?_⟩
  ·rcases List.mem_or_eq_of_mem_set hy with a|a
   ·exact f.1 y a
   ·omega
  ·rw[ql _ _ _ hi];omega
  ·rw[List.length_set];exact f.2.2
def sp(s:Int×Int):List V:=[.int .i64 s.1,.int .i64 s.2]
theorem sV(s:Int×Int):(sp s).length=2:=rfl
abbrev Sp(h:Heap)(v:V)(L:List (Int×Int)):Prop:=Recs sp 2 h v L
def SOK:List (Int×Int)→Int→Prop
  |[],_=>True
  |s::L,last=>last<s.1∧0≤s.1∧s.1<s.2∧s.2≤1073741824∧SOK L s.2
def inS(L:List (Int×Int))(i:Int):Bool:=L.any fun s=>decide (s.1≤i)&&decide (i<s.2)
theorem Sp.ix{h:Heap}{v:V}{L:List (Int×Int)}(a:Sp h v L)(i:Nat)(h1:(i:Int)<L.length):
    ∃b o s,aP (.ixs 2) [v,.int .i64 i]=some (.ptr b o)∧ab h b o=some (.int .i64 s.1)∧ab h b (o+1)=some (.int .i64 s.2)∧ak h b o 2=some [.int .i64 s.1,.int .i64 s.2]∧L[i]? =some s:=by
  obtain⟨b,o,s,e,g,g2,e3⟩:=Recs.ix sV a .i64 i (by omega) h1;exact⟨b,o,s,e,by simpa[sp]using g 0 (by omega),by simpa[sp]using g 1 (by omega),g2,by simpa using e3⟩
/-- spans that fill their block -/
def SpF(h:Heap)(v:V)(L:List (Int×Int)):Prop:=(v=.nils∧L=[])∨∃b,v=.slice b 0 L.length L.length∧Own h b (L.flatMap sp)∧0<L.length
theorem SpF.slc{h:Heap}{v:V}{L:List (Int×Int)}(a:SpF h v L):Sp h v L:=by
  rcases a with⟨rfl,rfl⟩|⟨b,rfl,o,_⟩
  ·exact Recs.nil
  ·exact Sl.lit o (cD sV L)
theorem SpF.fr{h h':Heap}{v:V}{L:List (Int×Int)}(a:SpF h v L)(f:Fr [] h h'):SpF h' v L:=by
  rcases a with x|⟨b,e,o,p⟩
  ·exact .inl x
  ·exact .inr ⟨b,e,f.get o,p⟩
theorem SpF.one{h:Heap}{v:V}{L:List (Int×Int)}(a:SpF h v L):v.one=true:=by
  rcases a with⟨rfl,_⟩|⟨b,rfl,_⟩<;>rfl
theorem SOK.gt:∀{L:List (Int×Int)}{b:Int},SOK L b→∀s∈L,b<s.1∧0≤s.1∧s.1<s.2∧s.2≤1073741824
  |t::L,b,⟨h1,h2,h3,h4,h5⟩,s,hs=>by
    rcases List.mem_cons.1 hs with rfl|hs
    ·exact⟨h1,h2,h3,h4⟩
    ·have:=SOK.gt h5 s hs;omega
theorem SOK.below{L:List (Int×Int)}{b x:Int}(ok:SOK L b)(h:x≤b):inS L x=false:=by
  simp only[inS,List.any_eq_false,Bool.and_eq_true,decide_eq_true_eq];intro s hs;have:=ok.gt s hs;omega
theorem SOK.app:∀{L M:List (Int×Int)}{b c:Int},SOK L b→SOK M c→(∀s∈L,s.2≤c)→b≤c→SOK (L++M) b
  |[],M,b,c,_,hm,_,h=>by
    cases M with
    |nil=>trivial
    |cons s M=>obtain⟨a1,a2⟩:=hm;exact⟨by omega,a2⟩
  |s::L,M,b,c,⟨h1,h2,h3,h4,h5⟩,hm,hb,h=>⟨h1,h2,h3,h4,SOK.app h5 hm (fun t ht=>hb t (by simp[ht])) (hb s (by simp))⟩
theorem SOK.left:∀{L M:List (Int×Int)}{b:Int},SOK (L++M) b→SOK L b
  |[],_,_,_=>trivial
  |s::L,M,b,⟨h1,h2,h3,h4,h5⟩=>⟨h1,h2,h3,h4,SOK.left h5⟩
theorem SOK.drop:∀{L:List (Int×Int)}{b:Int}(i:Nat),SOK L b→∃c,SOK (L.drop i) c
  |[],b,i,h=>by simp;exact⟨b,trivial⟩
  |s::L,b,0,h=>⟨b,h⟩
  |s::L,b,i+1,⟨_,_,_,_,h⟩=>SOK.drop i h
theorem SOK.count:∀{L:List (Int×Int)}{b:Int},SOK L b→∀m,(∀s∈L,s.2≤m)→b≤m+0→2*(L.length:Int)≤m-b
  |[],b,_,m,_,h=>by simp;omega
  |s::L,b,⟨h1,h2,h3,h4,h5⟩,m,hm,h=>by
    have:=SOK.count h5 m (fun t ht=>hm t (by simp[ht])) (by have:=hm s (by simp);omega);simp only[List.length_cons];omega
/-- how many ends lie behind a place -/
def cnt(A:List (Int×Int))(a:Int):Nat:=(A.map fun s=>(if a<s.1 then 1 else 0)+(if a<s.2 then 1 else 0)).sum
theorem SOK.len{L:List (Int×Int)}(ok:SOK L (-1)){m:Int}(hm:m≤8000)(h:∀s∈L,s.2≤m):L.length≤4096:=by
  have:=ok.count (max m 0) (fun s hs=>by have:=h s hs;omega) (by omega);omega
structure Kn(L:List (Int×Int))(ks:List Bool):Prop where
  ok:SOK L (-1)
  le:∀s∈L,s.2≤ks.length
  eq:∀i:Nat,inS L i=ks.getD i false
def Ix(h:Heap)(v:V)(l:List Int)(ks:List Bool):Prop:=∃p vk L,v=.agg [pv p,vk]∧Rp h (.agg [pv p]) l∧SpF h vk L∧Kn L ks∧ks.length=l.length∧l.length≤1024
theorem Ix.fr{h h':Heap}{v:V}{l:List Int}{ks:List Bool}(a:Ix h v l ks)(f:Fr [] h h'):Ix h' v l ks:=by
  obtain⟨p,vk,L,e,r,s,x⟩:=a;exact⟨p,vk,L,e,r.fr f,s.fr f,x⟩
theorem Ix.len{h:Heap}{v:V}{l:List Int}{ks:List Bool}(a:Ix h v l ks):ks.length=l.length∧l.length≤1024:=by
  obtain⟨p,vk,L,e,r,s,_,x⟩:=a;exact x
theorem Ix.fit{h:Heap}{v:V}{l:List Int}{ks:List Bool}(a:Ix h v l ks):Fit l:=by
  obtain⟨p,vk,L,e,r,s,_,x⟩:=a;obtain⟨_,_,_,_,_,f⟩:=r;exact f
theorem Kn.len{L:List (Int×Int)}{ks:List Bool}(k:Kn L ks)(h:ks.length≤1024):L.length≤4096:=k.ok.len (m:=ks.length) (by omega) k.le
def uw(x:Nat):V:=.int .u64 (x:Int)
def flc(n m:Int)(ws:List Nat):List V:=.int .i64 n::.int .i64 m::ws.map uw
structure WOK(ws:List Nat)(bs:List Bool):Prop where
  len:ws.length=64
  w:∀k,k<64→∃x,ws[k]? =some x∧x<18446744073709551616∧∀j,j<64→x.testBit j=bs.getD (64*k+j) false
def Fl(h:Heap)(b:Nat)(bs:List Bool):Prop:=∃ws,Own h b (flc bs.length (bs.count true) ws)∧WOK ws bs∧bs.length≤4096
theorem Fl.fr{h h':Heap}{b:Nat}{bs:List Bool}(a:Fl h b bs)(f:Fr [] h h'):Fl h' b bs:=by
  obtain⟨ws,o,x⟩:=a;exact⟨ws,f.get o,x⟩
theorem vW(n m:Int)(ws:List Nat):(flc n m ws).length=ws.length+2:=by simp[flc]
theorem Vals.one{α:Type}{f:α→V}{h:Heap}{v:V}{l:List α}(a:Vals f h v l):v.one=true:=Sl.one a
/-- the table of math/bits -/
def Glb(h:Heap):Prop:=Pl h 0 zi
/-- the k-th bit that is true -/
def Sel(bs:List Bool)(k p:Nat):Prop:=p<bs.length∧bs.getD p false=true∧(bs.take p).count true=k
/-- the marks of a layout -/
def Mk(h:Heap)(pm:Option Nat)(bs:List Bool):Prop:=match pm with
  |none=>bs=[]
  |some c=>Fl h c bs
theorem Mk.fr{h h':Heap}{pm:Option Nat}{bs:List Bool}(a:Mk h pm bs)(f:Fr [] h h'):Mk h' pm bs:=by
  cases pm with
  |none=>exact a
  |some c=>exact Fl.fr a f
/-- a layout: sizes, which are known, which are headers -/
def Lo(h:Heap)(b:Nat)(l:List Int)(ks bs:List Bool):Prop:=∃p vk pm,Own h b [pv p,vk,pv pm]∧vk.one=true∧Ix h (.agg [pv p,vk]) l ks∧Mk h pm bs∧bs.length=l.length
theorem Lo.fr{h h':Heap}{b:Nat}{l:List Int}{ks bs:List Bool}(a:Lo h b l ks bs)(f:Fr [] h h'):Lo h' b l ks bs:=by
  obtain⟨p,vk,pm,o,v1,ix,mk,e⟩:=a;exact⟨p,vk,pm,f.get o,v1,ix.fr f,mk.fr f,e⟩
theorem Glb.fr{h h':Heap}(a:Glb h)(f:Fr [] h h'):Glb h':=f.pl _ _ (by simp) a
theorem Ix.rp{h:Heap}{p:Option Nat}{vk:V}{l:List Int}{ks:List Bool}(a:Ix h (.agg [pv p,vk]) l ks):Rp h (.agg [pv p]) l:=by
  obtain⟨p',vk',L,e,r,_⟩:=a;simp only[V.agg.injEq,List.cons.injEq,and_true]at e;rw[e.1];exact r
def okF(view over:Int):Prop:=1≤view∧view≤2147483648∧0≤over∧over≤16
instance(view over:Int):Decidable (okF view over):=by unfold okF;infer_instance
def HeadS(l:List Int)(bs:List Bool)(s r e:Int):Prop:=
  if l=[]∧s=0 then r=0∧e=11 else if 0≤s∧s<l.sum then if(bs.take ((mD l s).1+1)).count true=0 then r=0∧e=11 else e=0∧∃p:Nat,r=p∧Sel bs ((bs.take ((mD l s).1+1)).count true-1) p else r=0∧e=4
theorem HeadS.zero{l:List Int}{bs:List Bool}{s r e:Int}(a:HeadS l bs s r e)(h:e=0):0≤s∧s<l.sum∧∃p:Nat,r=p∧p<bs.length:=by
  unfold HeadS at a;split at a
  ·omega
  ·split at a
   ·rename_i c;split at a
    ·omega
    ·obtain⟨_,p,e1,e2⟩:=a;exact⟨c.1,c.2,p,e1,e2.1⟩
   ·omega
/-- a frame: what is neither block b nor flags stays -/
structure FrF(b:Nat)(h h':Heap):Prop where
  next:h.next≤h'.next
  wf:WF h'
  own:∀x c,x≠b→(∀n m ws,ws.length=64→c≠flc n m ws)→Own h x c→Own h' x c
  pl:∀x c,x≠b→(∀n m ws,ws.length=64→c≠flc n m ws)→Pl h x c→Pl h' x c
  ro:∀x c,Rs h x c→Rs h' x c
theorem FrF.trans{b:Nat}{h h1 h2:Heap}(a:FrF b h h1)(c:FrF b h1 h2):FrF b h h2:=
  ⟨Nat.le_trans a.next c.next,c.wf,fun x d hx hd o=>c.own x d hx hd (a.own x d hx hd o),fun x d hx hd o=>c.pl x d hx hd (a.pl x d hx hd o),fun x d r=>c.ro x d (a.ro x d r)⟩
theorem ww{h:Heap}(w:WF h):au go 52 [] h fun u h'=>∃b,u=.ptr b 0∧h.next≤b∧Lo h' b [] [] []∧Own h' b [.nilp,.nils,.nilp]∧Fr [] h h':=by
  refine af ?_;simp(maxSteps:=1000000) (disch:=omega) only[evs,↓reduceIte,Nat.reduceEqDiff,Nat.reduceAdd,Nat.reduceMul,Nat.reduceLeDiff,Nat.reduceLT,Int.reduceNeg,DF,eff,Nat.reduceSub,aa];refine⟨_,rfl,Nat.le_refl _,⟨none,.nils,none,Own.new w _,rfl,⟨none,.nils,[],rfl,⟨.nil,none,rfl,rfl,rfl,by simp,by simp,by simp⟩,.inl ⟨rfl,rfl⟩,⟨trivial,by simp,fun i=>by simp[inS]⟩,rfl,by simp⟩,rfl,rfl⟩,Own.new w _,Fr.halloc w _⟩
end Go.Ev.Lay
namespace Go.Ev.St
abbrev aG:=Nat×Nat×Nat
/-- the j-th place of a path -/
def pth(a n j:Nat):Nat:=(a+j)%n
theorem px{a n j:Nat}(h:0<n):pth a n j<n:=Nat.mod_lt _ h
theorem td{a n i:Nat}(h:i<n):∃j,j<n∧pth a n j=i:=by
  refine⟨(i+(n-a%n))%n,Nat.mod_lt _ (by omega),?_⟩;unfold pth;have h1:a%n<n:=Nat.mod_lt _ (by omega);rw[Nat.add_mod_mod,←Nat.mod_add_mod,show a%n+(i+(n-a%n))=i+n by omega,Nat.add_mod_right,Nat.mod_eq_of_lt h]
structure Opn(mx:Nat→Nat)(sl:List aG):Prop where
  st:∀s∈sl,s.1=0∨s.1=1∨s.1=2
  uniq:∀i j k v w:Nat,sl[i]? =some (1,k,v)→sl[j]? =some (1,k,w)→i=j
  path:∀i k v:Nat,sl[i]? =some (1,k,v)→∃j,j<sl.length∧pth (mx k) sl.length j=i∧∀j',j'<j→∀s,sl[pth (mx k) sl.length j']? =some s→s.1≠0
  room:∃(i:Nat)(s:aG),sl[i]? =some s∧s.1=0
structure Looked(mx:Nat→Nat)(sl:List aG)(k at':Nat)(found:Bool):Prop where
  lt:at'<sl.length
  yes:found=true→∃v,sl[at']? =some (1,k,v)
  no:found=false→(∀i v:Nat,sl[i]? ≠some (1,k,v))∧(∃s:aG,sl[at']? =some s∧s.1≠1)∧∃j,j<sl.length∧pth (mx k) sl.length j=at'∧∀j',j'<j→∀s,sl[pth (mx k) sl.length j']? =some s→s.1≠0
/-- the search, behind j places -/
structure Seek(mx:Nat→Nat)(sl:List aG)(k j:Nat)(g:Option Nat):Prop where
  jl:j<sl.length
  seen:∀j',j'<j→∀s,sl[pth (mx k) sl.length j']? =some s→s.1≠0∧¬(s.1=1∧s.2.1=k)
  grave:∀x,g=some x→x<sl.length∧∃j0,j0<j∧pth (mx k) sl.length j0=x∧∃s,sl[x]? =some s∧s.1=2
variable {mx : Nat → Nat} {sl : List aG} {k j : Nat} {g : Option Nat}
theorem Opn.pos(o:Opn mx sl):0<sl.length:=by
  obtain⟨i,s,h,_⟩:=o.room;have:=(List.getElem?_eq_some_iff.1 h).1;omega
theorem Seek.start(o:Opn mx sl)(k:Nat):Seek mx sl k 0 none:=⟨o.pos,fun _ h=>by omega,fun _ h=>by cases h⟩
theorem Seek.found(q:Seek mx sl k j g){v:Nat}(h:sl[pth (mx k) sl.length j]? =some (1,k,v)):Looked mx sl k (pth (mx k) sl.length j) true:=
  ⟨px (by have:=q.jl;omega),fun _=>⟨v,h⟩,fun e=>by cases e⟩
theorem Seek.absent(o:Opn mx sl)(q:Seek mx sl k j g){s:aG}(h:sl[pth (mx k) sl.length j]? =some s)(h0:s.1=0)(i v:Nat):sl[i]? ≠some (1,k,v):=by
  intro hi;obtain⟨j1,l1,e1,p1⟩:=o.path i k v hi;rcases Nat.lt_trichotomy j1 j with c|c|c
  ·have:=(q.seen j1 c (1,k,v) (by rw[e1];exact hi)).2;exact this ⟨rfl,rfl⟩
  ·subst c;rw[e1,hi]at h;cases h;cases h0
  ·exact p1 j c s h h0
theorem Seek.free(o:Opn mx sl)(q:Seek mx sl k j g){s:aG}(h:sl[pth (mx k) sl.length j]? =some s)(h0:s.1=0):Looked mx sl k (g.getD (pth (mx k) sl.length j)) false:=by
  cases g with
  |none=>exact⟨px o.pos,fun e=>(by cases e),fun _=>⟨q.absent o h h0,⟨s,h,by omega⟩,j,q.jl,rfl,fun j' hj s hs=>(q.seen j' hj s hs).1⟩⟩
  |some x=>
    obtain⟨l1,j0,l2,e,s',h1,h2⟩:=q.grave x rfl;have:=q.jl;exact⟨l1,fun e=>(by cases e),fun _=>⟨q.absent o h h0,⟨s',h1,by omega⟩,j0,by omega,e,fun j' hj s hs=>(q.seen j' (by omega) s hs).1⟩⟩
theorem Seek.next(o:Opn mx sl)(q:Seek mx sl k j g){s:aG}(h:sl[pth (mx k) sl.length j]? =some s)(h0:s.1≠0)(h1:¬(s.1=1∧s.2.1=k)):
    Seek mx sl k (j+1) (if s.1=2∧g=none then some (pth (mx k) sl.length j)else g):=by
  have jl:=q.jl;have seen:∀j',j'<j+1→∀s,sl[pth (mx k) sl.length j']? =some s→s.1≠0∧¬(s.1=1∧s.2.1=k):=by
    intro j' hj s' hs;by_cases c:j'=j
    ·subst c;rw[h]at hs;cases hs;exact⟨h0,h1⟩
    ·exact q.seen j' (by omega) s' hs
  refine⟨?_,seen,?_⟩
  ·rcases Nat.lt_or_ge (j+1) sl.length with c|c
   ·exact c
   ·exfalso;obtain⟨i,s',hi,h'⟩:=o.room;obtain⟨j',l',e⟩:=td (a:=mx k) (List.getElem?_eq_some_iff.1 hi).1;exact(seen j' (by omega) s' (by rw[e];exact hi)).1 h'
  ·intro x hx;by_cases c:s.1=2∧g=none
   ·rw[if_pos c]at hx;cases hx;exact⟨px o.pos,j,by omega,rfl,s,h,c.1⟩
   ·rw[if_neg c]at hx;obtain⟨l1,j0,l2,e⟩:=q.grave x hx;exact⟨l1,j0,by omega,e⟩
theorem bP(sl:List aG)(a i:Nat)(x s:aG)(h:(sl.set a x)[i]? =some s):(i=a∧s=x∧a<sl.length)∨(i≠a∧sl[i]? =some s):=by
  by_cases c:i=a
  ·subst c;have hl:=(List.getElem?_eq_some_iff.1 h).1;rw[List.length_set]at hl;rw[List.getElem?_set_self hl]at h;cases h;exact .inl ⟨rfl,rfl,hl⟩
  ·rw[List.getElem?_set_ne (Ne.symm c)]at h;exact .inr ⟨c,h⟩
theorem gu{sl:List aG}{a:Nat}(x:aG)(h:a<sl.length):(sl.set a x)[a]? =some x:=List.getElem?_set_self h
/-- a key that is not there comes in -/
theorem Opn.put(o:Opn mx sl){a:Nat}(q:Looked mx sl k a false)(v:Nat)(hr:∃(i:Nat)(s:aG),i≠a∧sl[i]? =some s∧s.1=0):Opn mx (sl.set a (1,k,v)):=by
  obtain⟨no,⟨s0,hs0,h0⟩,j,jl,je,jp⟩:=q.no rfl;refine⟨?_,?_,?_,?_⟩
  ·intro s hs;rcases List.mem_or_eq_of_mem_set hs with h|rfl
   ·exact o.st s h
   ·exact .inr (.inl rfl)
  ·intro i i' k' v' w' hi hi';rcases bP _ _ _ _ _ hi with⟨e1,e,_⟩|⟨c,h1⟩<;>rcases bP _ _ _ _ _ hi' with⟨e2,e',_⟩|⟨c',h2⟩
   ·rw[e1,e2]
   ·cases e;exact absurd h2 (no _ _)
   ·cases e';exact absurd h1 (no _ _)
   ·exact o.uniq _ _ _ _ _ h1 h2
  ·intro i k' v' hi;rw[List.length_set];rcases bP _ _ _ _ _ hi with⟨rfl,e,_⟩|⟨c,hi⟩
   ·cases e;refine⟨j,jl,je,fun j' hj s hs=>?_⟩;rcases bP _ _ _ _ _ hs with⟨_,rfl,_⟩|⟨_,hs⟩
    ·simp
    ·exact jp j' hj s hs
   ·obtain⟨j1,l1,e1,p1⟩:=o.path i k' v' hi;refine⟨j1,l1,e1,fun j' hj s hs=>?_⟩;rcases bP _ _ _ _ _ hs with⟨_,rfl,_⟩|⟨_,hs⟩
    ·simp
    ·exact p1 j' hj s hs
  ·obtain⟨i,s,c,hi,hs⟩:=hr;exact⟨i,s,by rw[List.getElem?_set_ne (Ne.symm c)];exact hi,hs⟩
/-- a key that is there gets another number -/
theorem Opn.change(o:Opn mx sl){a w:Nat}(h:sl[a]? =some (1,k,w))(v:Nat):Opn mx (sl.set a (1,k,v)):=by
  have key:∀i k' v':Nat,(sl.set a (1,k,v))[i]? =some (1,k',v')→∃w',sl[i]? =some (1,k',w'):=by
    intro i k' v' hi;rcases bP _ _ _ _ _ hi with⟨rfl,e,_⟩|⟨c,hi⟩
    ·cases e;exact⟨w,h⟩
    ·exact⟨v',hi⟩
  have nz:∀(i:Nat)(s:aG),(sl.set a (1,k,v))[i]? =some s→(∀s',sl[i]? =some s'→s'.1≠0)→s.1≠0:=by
    intro i s hs hz;rcases bP _ _ _ _ _ hs with⟨_,rfl,_⟩|⟨_,hs⟩
    ·simp
    ·exact hz s hs
  refine⟨?_,?_,?_,?_⟩
  ·intro s hs;rcases List.mem_or_eq_of_mem_set hs with h|rfl
   ·exact o.st s h
   ·exact .inr (.inl rfl)
  ·intro i i' k' v' w' hi hi';obtain⟨_,h1⟩:=key _ _ _ hi;obtain⟨_,h2⟩:=key _ _ _ hi';exact o.uniq _ _ _ _ _ h1 h2
  ·intro i k' v' hi;rw[List.length_set];obtain⟨_,h1⟩:=key _ _ _ hi;obtain⟨j1,l1,e1,p1⟩:=o.path _ _ _ h1;exact⟨j1,l1,e1,fun j' hj s hs=>nz _ _ hs (p1 j' hj)⟩
  ·obtain⟨i,s,hi,hs⟩:=o.room;refine⟨i,s,?_,hs⟩;rw[List.getElem?_set_ne]
   ·exact hi
   ·rintro rfl;rw[h]at hi;cases hi;cases hs
/-- a key is taken out: a tomb stays -/
theorem Opn.drop(o:Opn mx sl){a w:Nat}(h:sl[a]? =some (1,k,w))(x y:Nat):Opn mx (sl.set a (2,x,y)):=by
  have key:∀i k' v':Nat,(sl.set a (2,x,y))[i]? =some (1,k',v')→sl[i]? =some (1,k',v'):=by
    intro i k' v' hi;rcases bP _ _ _ _ _ hi with⟨rfl,e,_⟩|⟨c,hi⟩
    ·cases e
    ·exact hi
  refine⟨?_,?_,?_,?_⟩
  ·intro s hs;rcases List.mem_or_eq_of_mem_set hs with h|rfl
   ·exact o.st s h
   ·exact .inr (.inr rfl)
  ·intro i i' k' v' w' hi hi';exact o.uniq _ _ _ _ _ (key _ _ _ hi) (key _ _ _ hi')
  ·intro i k' v' hi;rw[List.length_set];obtain⟨j1,l1,e1,p1⟩:=o.path _ _ _ (key _ _ _ hi);refine⟨j1,l1,e1,fun j' hj s hs=>?_⟩;rcases bP _ _ _ _ _ hs with⟨_,rfl,_⟩|⟨_,hs⟩
   ·simp
   ·exact p1 j' hj s hs
  ·obtain⟨i,s,hi,hs⟩:=o.room;refine⟨i,s,?_,hs⟩;rw[List.getElem?_set_ne]
   ·exact hi
   ·rintro rfl;rw[h]at hi;cases hi;cases hs
/-- nothing but free slots -/
theorem Opn.zero(mx:Nat→Nat)(n:Nat)(h:0<n):Opn mx (List.replicate n (0,0,0)):=by
  have e:∀(i:Nat)(s:aG),(List.replicate n ((0,0,0):aG))[i]? =some s→s=(0,0,0):=fun i s hs=>List.eq_of_mem_replicate (List.mem_of_getElem? hs);refine⟨fun s hs=>.inl (by rw[List.eq_of_mem_replicate hs]),fun i j k v w hi=>?_,fun i k v hi=>?_,⟨0,(0,0,0),by rw[List.getElem?_replicate,if_pos h],rfl⟩⟩
  ·have:=e _ _ hi;cases this
  ·have:=e _ _ hi;cases this
/-- so many slots of a kind -/
def cnS(c:Nat)(sl:List aG):Nat:=sl.countP fun s=>s.1==c
theorem gI{a c:Nat}{s x:aG}(h:sl[a]? =some s):cnS c (sl.set a x)+(if s.1=c then 1 else 0)=cnS c sl+(if x.1=c then 1 else 0):=by
  unfold cnS;induction sl generalizing a with
  |nil=>simp at h
  |cons y l ih=>
    cases a with
    |zero=>
      simp at h;subst h;simp only[List.set_cons_zero,List.countP_cons,beq_iff_eq];split<;>split<;>omega
    |succ a=>
      simp only[List.set_cons_succ,List.countP_cons,beq_iff_eq];have:=ih (a:=a) (by simpa using h);omega
theorem ou{n:Nat}(h:0<cnS 0 sl):∃(i:Nat)(s:aG),sl[i]? =some s∧s.1=0:=by
  unfold cnS at h;rw[List.countP_pos_iff]at h;obtain⟨s,hs,e⟩:=h;obtain⟨i,hi,e2⟩:=List.mem_iff_getElem.1 hs;exact⟨i,s,by rw[List.getElem?_eq_some_iff];exact⟨hi,e2⟩,by simpa using e⟩
theorem wk(h:∀s∈sl,s.1=0∨s.1=1∨s.1=2):cnS 0 sl+cnS 1 sl+cnS 2 sl=sl.length:=by
  unfold cnS;induction sl with
  |nil=>rfl
  |cons y l ih=>
    have:=ih fun s hs=>h s (List.mem_cons_of_mem _ hs);simp only[List.countP_cons,beq_iff_eq,List.length_cons];rcases h y (List.mem_cons_self ..)with e|e|e<;>simp only[e]<;>simp<;>omega
end Go.Ev.St
namespace Go.Ev.Lay
open Go.Ev.St
set_option maxRecDepth 4000
/-- a key, mixed -/
def zu(x:Nat):Nat:=x^^^(x/2147483648)
def zw(x:Nat):Nat:=(x^^^(x/134217728)) *10723151780598845931%18446744073709551616
def zy(x:Nat):Nat:=(x^^^(x/1073741824)) *13787848793156543929%18446744073709551616
def mix(x:Nat):Nat:=zu (zw (zy x))
def sc(s:aG):List V:=[.int .u8 (s.1:Int),.int .u64 (s.2.1:Int),.int .i64 (s.2.2:Int)]
theorem xg(s:aG):(sc s).length=3:=rfl
/-- the slots -/
def Tb(h:Heap)(v:V)(S:Nat)(sl:List aG):Prop:=(v=.slice S 0 sl.length sl.length∨v=.sliceU S 0 sl.length 3)∧Own h S (sl.flatMap sc)
theorem yD(sl:List aG):(sl.flatMap sc).length=sl.length*3:=cD xg sl
theorem Tb.ix{h:Heap}{v:V}{S:Nat}{sl:List aG}(t:Tb h v S sl)(i:Nat)(hi:i<sl.length):aP (.ixs 3) [v,.int .i64 (i:Int)]=some (.ptr S (i*3)):=by
  obtain⟨rfl|rfl,o⟩:=t
  ·have:=cZ 3 S 0 sl.length sl.length .i64 (i:Int) (by omega) (by omega);simpa using this
  ·have:=gh 3 S 0 sl.length 3 .i64 (i:Int) (by omega) (by omega);simpa using this
theorem Tb.fr{h h':Heap}{v:V}{S:Nat}{sl:List aG}(t:Tb h v S sl)(f:Fr [] h h'):Tb h' v S sl:=⟨t.1,f.get t.2⟩
structure KmT(h:Heap)(b S:Nat)(v:V)(sl:List aG)(m:Nat→Option Nat)(c t:Nat):Prop where
  ob:Own h b [v,.int .i64 (c:Int),.int .i64 (t:Int)]
  tb:Tb h v S sl
  op:Opn mix sl
  n8:8≤sl.length
  nb:sl.length≤20000
  c1:cnS 1 sl=c
  c2:cnS 2 sl=t
  mp:∀k x:Nat,m k=some x↔∃i:Nat,sl[i]? =some (1,k,x)
  kb:∀s∈sl,s.2.1<18446744073709551616∧s.2.2<4611686018427387904
/-- a key map -/
def Km(h:Heap)(b S:Nat)(m:Nat→Option Nat)(c:Nat):Prop:=
  (Own h b [.nils,.int .i64 0,.int .i64 0]∧c=0∧∀k,m k=none)∨∃v sl t,KmT h b S v sl m c t∧4*(c+t)≤3*sl.length
theorem KmT.fr{h h':Heap}{b S:Nat}{v:V}{sl:List aG}{m:Nat→Option Nat}{c t:Nat}(k:KmT h b S v sl m c t)(f:Fr [] h h'):KmT h' b S v sl m c t:={k with ob:=f.get k.ob,tb:=k.tb.fr f}
theorem Km.fr{h h':Heap}{b S:Nat}{m:Nat→Option Nat}{c:Nat}(k:Km h b S m c)(f:Fr [] h h'):Km h' b S m c:=by
  rcases k with⟨o,x⟩|⟨v,sl,t,k,x⟩
  ·exact .inl ⟨f.get o,x⟩
  ·exact .inr ⟨v,sl,t,k.fr f,x⟩
theorem KmT.sum{h:Heap}{b S:Nat}{v:V}{sl:List aG}{m:Nat→Option Nat}{c t:Nat}(k:KmT h b S v sl m c t):cnS 0 sl+c+t=sl.length:=by
  have:=wk k.op.st;rw[k.c1,k.c2]at this;exact this
theorem KmT.ne{h:Heap}{b S:Nat}{v:V}{sl:List aG}{m:Nat→Option Nat}{c t:Nat}(k:KmT h b S v sl m c t):b≠S:=by
  rintro rfl;have e:=k.ob.uniq k.tb.2;have:=congrArg List.length e;rw[yD]at this;have:=k.n8;simp at *;omega
theorem vJ{h:Heap}(w:WF h):au go 51 [] h fun u h'=>∃b,u=.ptr b 0∧h.next≤b∧Km h' b b (fun _=>none) 0∧Fr [] h h':=by
  refine af ?_;simp(maxSteps:=1000000) (disch:=omega) only[evs,↓reduceIte,Nat.reduceEqDiff,Nat.reduceAdd,Nat.reduceMul,Nat.reduceLeDiff,Nat.reduceLT,Int.reduceNeg,DF,eff,Nat.reduceSub,aa];exact⟨_,rfl,Nat.le_refl _,.inl ⟨Own.new w _,rfl,fun _=>rfl⟩,Fr.halloc w _⟩
theorem Tb.put{h h1:Heap}{v:V}{S i:Nat}{sl:List aG}{x:aG}(t:Tb h v S sl)(o:Own h1 S ((sl.set i x).flatMap sc)):Tb h1 v S (sl.set i x):=⟨by rw[List.length_set];exact t.1,o⟩
theorem jE{sl:List aG}{i:Nat}{x:aG}(kb:∀s∈sl,s.2.1<18446744073709551616∧s.2.2<4611686018427387904)(hx:x.2.1<18446744073709551616∧x.2.2<4611686018427387904):∀s∈sl.set i x,s.2.1<18446744073709551616∧s.2.2<4611686018427387904:=by
  intro s hs;rcases List.mem_or_eq_of_mem_set hs with h|rfl
  ·exact kb s h
  ·exact hx
/-- two free slots: one of them is elsewhere -/
theorem wB{sl:List aG}(h:2≤cnS 0 sl)(a:Nat):∃(i:Nat)(s:aG),i≠a∧sl[i]? =some s∧s.1=0:=by
  by_cases ha:a<sl.length
  ·have e:=gI (c:=0) (x:=((1,0,0):aG)) (List.getElem?_eq_getElem ha);have h2:0<cnS 0 (sl.set a (1,0,0)):=by
     simp only[Nat.one_ne_zero,if_false]at e;split at e<;>omega
   obtain⟨i,s,hi,hs⟩:=ou (n:=0) h2;rcases bP _ _ _ _ _ hi with⟨_,rfl,_⟩|⟨ci,hi⟩
   ·cases hs
   ·exact⟨i,s,ci,hi,hs⟩
  ·obtain⟨i,s,hi,hs⟩:=ou (n:=0) (sl:=sl) (by omega);have:=(List.getElem?_eq_some_iff.1 hi).1;exact⟨i,s,by omega,hi,hs⟩
theorem ot{c i:Nat}{sl:List aG}{s:aG}(h:sl[i]? =some s):cnS c (sl.take (i+1))=cnS c (sl.take i)+(if s.1=c then 1 else 0):=by
  unfold cnS;rw[List.take_add_one,h,List.countP_append];simp[List.countP_cons]
/-- the slots that were there -/
def Old(h:Heap)(b S:Nat)(v:V)(ol:List aG):Prop:=(v=.nils∧ol=[])∨(Tb h v S ol∧b≠S∧S<h.next)
theorem Old.fr{h h':Heap}{b S:Nat}{v:V}{ol:List aG}(o:Old h b S v ol)(f:Fr [b] h h'):Old h' b S v ol:=by
  rcases o with o|⟨t,ne,lt⟩
  ·exact .inl o
  ·exact .inr ⟨⟨t.1,f.own S _ (by simp;exact fun e=>ne e.symm) t.2⟩,ne,Nat.lt_of_lt_of_le lt f.next⟩
/-- some slots of the old ones are in the new ones -/
structure Moved(sl ol:List aG)(i:Nat):Prop where
  op:Opn mix sl
  c1:cnS 1 sl=cnS 1 (ol.take i)
  c2:cnS 2 sl=0
  mp:∀k x:Nat,(∃j:Nat,sl[j]? =some (1,k,x))↔∃j:Nat,j<i∧ol[j]? =some (1,k,x)
  kb:∀s∈sl,s.2.1<18446744073709551616∧s.2.2<4611686018427387904
theorem Moved.skip{sl ol:List aG}{i:Nat}{s:aG}(m:Moved sl ol i)(h:ol[i]? =some s)(hs:s.1≠1):Moved sl ol (i+1):=by
  refine{m with c1:=by rw[ot h,if_neg hs];exact m.c1,mp:=fun k x=>(m.mp k x).trans ⟨fun⟨j,a,b⟩=>⟨j,by omega,b⟩,fun⟨j,a,b⟩=>?_⟩};refine⟨j,?_,b⟩;rcases Nat.lt_or_ge j i with q|q
  ·exact q
  ·have:j=i:=by omega
   subst this;rw[h]at b;cases b;exact absurd rfl hs
theorem Moved.put{sl ol:List aG}{i k x a:Nat}(m:Moved sl ol i)(h:ol[i]? =some (1,k,x))(L:Looked mix sl k a false)(hk:k<18446744073709551616)(hx:x<4611686018427387904)(rm:2≤cnS 0 sl):Moved (sl.set a (1,k,x)) ol (i+1):=by
  obtain⟨no,⟨s0,hs0,h0⟩,_⟩:=L.no rfl;have z2:s0.1≠2:=by
    intro e;have:=m.c2;unfold cnS at this;rw[List.countP_eq_zero]at this;exact this s0 (List.mem_of_getElem? hs0) (by simp[e])
  have e1:=gI (c:=1) (x:=((1,k,x):aG)) hs0;have e2:=gI (c:=2) (x:=((1,k,x):aG)) hs0;simp only[if_neg h0,if_neg z2,if_true]at e1 e2;refine⟨m.op.put L x (wB rm a),?_,?_,fun k' x'=>⟨?_,?_⟩,jE m.kb ⟨hk,hx⟩⟩
  ·rw[ot h,if_pos rfl,←m.c1];omega
  ·have:=m.c2;simp at e2;omega
  ·rintro⟨j,hj⟩;rcases bP _ _ _ _ _ hj with⟨_,e,_⟩|⟨cj,hj⟩
   ·cases e;exact⟨i,by omega,h⟩
   ·obtain⟨j',l',e'⟩:=(m.mp k' x').1 ⟨j,hj⟩;exact⟨j',by omega,e'⟩
  ·rintro⟨j,lj,hj⟩;by_cases c:j=i
   ·subst c;rw[h]at hj;cases hj;exact⟨a,gu _ L.lt⟩
   ·obtain⟨j',hj'⟩:=(m.mp k' x').2 ⟨j,by omega,hj⟩;refine⟨j',?_⟩;rw[List.getElem?_set_ne]
    ·exact hj'
    ·rintro rfl;rw[hs0]at hj';cases hj';exact h0 rfl
/-- the map with one key more -/
def tl(m:Nat→Option Nat)(key x:Nat):Nat→Option Nat:=fun k=>if k=key then some x else m k
theorem KmT.put{h h':Heap}{b S key x a t':Nat}{v:V}{sl:List aG}{m:Nat→Option Nat}{c t:Nat}(k:KmT h b S v sl m c t)(L:Looked mix sl key a false)(hk:key<18446744073709551616)(hx:x<4611686018427387904)(fill:4*(c+t+1)≤3*sl.length)
    (ob:Own h' b [v,.int .i64 ((c+1:Nat):Int),.int .i64 (t':Int)]) (o:Own h' S ((sl.set a (1,key,x)).flatMap sc)) (ht:∀s:aG,sl[a]? =some s→t'+(if s.1=2 then 1 else 0)=t):KmT h' b S v (sl.set a (1,key,x)) (tl m key x) (c+1) t':=by
  obtain⟨no,⟨s0,hs0,h0⟩,_⟩:=L.no rfl;have e1:=gI (c:=1) (x:=((1,key,x):aG)) hs0;have e2:=gI (c:=2) (x:=((1,key,x):aG)) hs0;simp only[if_neg h0,if_true]at e1;have ht:=ht s0 hs0;have c1:=k.c1;have c2:=k.c2;have rm:2≤cnS 0 sl:=by have:=k.sum;have:=k.n8;omega
  refine⟨ob,⟨by rw[List.length_set];exact k.tb.1,o⟩,k.op.put L x (wB rm a),by rw[List.length_set];exact k.n8,by rw[List.length_set];exact k.nb,by omega,?_,fun k' x'=>⟨?_,?_⟩,jE k.kb ⟨hk,hx⟩⟩
  ·simp at e2;split at e2<;>split at ht<;>omega
  ·intro e;unfold tl at e;by_cases ck:k'=key
   ·rw[if_pos ck]at e;cases e;subst ck;exact⟨a,gu _ L.lt⟩
   ·rw[if_neg ck]at e;obtain⟨i,hi⟩:=(k.mp k' x').1 e;refine⟨i,?_⟩;rw[List.getElem?_set_ne]
    ·exact hi
    ·rintro rfl;rw[hs0]at hi;cases hi;exact h0 rfl
  ·rintro⟨i,hi⟩;unfold tl;rcases bP _ _ _ _ _ hi with⟨_,e,_⟩|⟨ci,hj⟩
   ·cases e;rw[if_pos rfl]
   ·by_cases ck:k'=key
    ·subst ck;exact absurd hj (no _ _)
    ·rw[if_neg ck];exact(k.mp k' x').2 ⟨i,hj⟩
set_option maxRecDepth 4000
/-- a slice of a whole block, or nil -/
def TbC(e:Nat)(h:Heap)(v:V)(B:Nat)(C:List V)(N:Nat):Prop:=C.length=N*e∧((v=.nils∧N=0)∨(v=.slice B 0 N N∧Own h B C))
/-- n elements that can be written -/
def Dst(e:Nat)(h:Heap)(B:Nat)(C:List V)(u:V)(o n:Nat):Prop:=o+n*e≤C.length∧((n=0∧(u=.nils∨∃b o c,u=.slice b o 0 c))∨∃cap,u=.slice B o n cap∧Own h B C)
variable {e : Nat} {h : Heap} {v u su : V} {B N : Nat} {C vs : List V}
theorem TbC.sl(a:TbC e h v B C N):Sl h e v N C:=by
  obtain⟨hl,⟨rfl,rfl⟩|⟨rfl,o⟩⟩:=a
  ·exact⟨hl,rfl⟩
  ·exact Sl.lit o hl
theorem TbC.one(a:TbC e h v B C N):v.one=true:=a.sl.one
theorem TbC.len(a:TbC e h v B C N):aP .lenS [v]=some (.int .i64 N):=a.sl.len
theorem TbC.fr{S:List Nat}{h':Heap}(a:TbC e h v B C N)(f:Fr S h h')(hB:B∉S):TbC e h' v B C N:=by
  obtain⟨hl,⟨rfl,rfl⟩|⟨rfl,o⟩⟩:=a
  ·exact⟨hl,.inl ⟨rfl,rfl⟩⟩
  ·exact⟨hl,.inr ⟨rfl,f.own _ _ hB o⟩⟩
theorem Sl.ones{h:Heap}{e:Nat}{v:V}{n:Nat}{cs:List V}(a:Sl h e v n cs)(b:Sl h e v n vs):cs=vs:=by
  have:=a.srcCells.symm.trans b.srcCells;exact Option.some.inj this
theorem TbC.part(a:TbC e h v B C N)(lo hi:Bool)(bs:List V)(l r:Nat)(hr:r≤N)(hl:l≤r)
    (hb:aw N N lo hi false bs=some (l,r,none)) (he:0<e):
    ∃v',aP (.sl none e lo hi false) (v::bs)=some v'∧Sl h e v' (r-l) ((C.drop (l*e)).take ((r-l) *e))∧Dst e h B C v' (l*e) (r-l):=by
  have hm:l*e+(r-l) *e≤C.length:=by
    rw[a.1,←Nat.add_mul];exact Nat.mul_le_mul_right _ (by omega)
  obtain⟨hlen,⟨rfl,rfl⟩|⟨rfl,o⟩⟩:=a
  ·have h0:l=0:=by omega
   have h1:r=0:=by omega
   subst h0 h1;refine⟨.nils,by simp only[aP,bD,hb,Option.map_some],⟨by simp,rfl⟩,⟨hm,.inl ⟨by omega,.inl rfl⟩⟩⟩
  ·refine⟨.slice B (bif Nat.beq N l then 0 else 0+l*e) (r-l) (N-l),by simp only[aP,bD,hb,Option.map_some,Option.getD_none],⟨by simp;omega,rfl,by omega,C,o,?_⟩,hm,?_⟩
   ·by_cases c:N=l
    ·have h0:r-l=0:=by omega
     rw[eS c,h0];simp
    ·rw[f6 c];simp only[cond_false,Nat.zero_add];exact⟨hm,trivial⟩
   ·by_cases c:N=l
    ·have h0:r-l=0:=by omega
     rw[eS c,h0];exact .inl ⟨rfl,.inr ⟨_,_,_,rfl⟩⟩
    ·rw[f6 c];simp only[cond_false,Nat.zero_add];exact .inr ⟨_,rfl,o⟩
theorem TbC.from(a:TbC e h v B C N)(he:0<e)(k:IntKind)(i:Int)(l:Nat)(hi:i=l)(hl:l≤N):
    ∃v',aP (.sl none e true false false) [v,.int k i]=some v'∧Sl h e v' (N-l) ((C.drop (l*e)).take ((N-l) *e))∧Dst e h B C v' (l*e) (N-l):=by
  subst hi;exact a.part true false [.int k l] l N (Nat.le_refl _) hl (by simp only[aw,aO k l N (by omega) (by omega),Option.map_some,Int.toNat_natCast]) he
theorem TbC.upto(a:TbC e h v B C N)(he:0<e)(k:IntKind)(i:Int)(r:Nat)(hi:i=r)(hr:r≤N):
    ∃v',aP (.sl none e false true false) [v,.int k i]=some v'∧Sl h e v' r (C.take (r*e)):=by
  subst hi;obtain⟨v',a1,a2,_⟩:=a.part false true [.int k r] 0 r hr (Nat.zero_le _) (by simp only[aw,aO k r N (by omega) (by omega),Option.map_some,Int.toNat_natCast]) he;exact⟨v',a1,by simpa using a2⟩
theorem TbC.range(a:TbC e h v B C N)(he:0<e)(k k':IntKind)(i j:Int)(l r:Nat)(hi:i=l)(hj:j=r)(hr:r≤N)(hl:l≤r):
    ∃v',aP (.sl none e true true false) [v,.int k i,.int k' j]=some v'∧Sl h e v' (r-l) ((C.drop (l*e)).take ((r-l) *e))∧Dst e h B C v' (l*e) (r-l):=by
  subst hi hj;exact a.part true true [.int k l,.int k' r] l r hr hl (by
    simp only[aw,aO k' r N (by omega) (by omega),Option.bind_some,Int.toNat_natCast,aO k l r (by omega) (by omega),Option.map_some]) he
theorem aY(a b:List V):av (a++b)=(av a&&av b):=by
  induction a with
  |nil=>simp[av]
  |cons x l ih=>rw[List.cons_append,aB,aB,ih,Bool.and_assoc]
theorem jB{a:List V}(n:Nat)(x:av a=true):av (a.drop n)=true:=by
  rw[←List.take_append_drop n a,aY]at x;exact(Bool.and_eq_true _ _▸x).2
abbrev Z4:List V:=[.int .u64 0,.int .u8 0,.str [],.nils]
/-- no signed numbers -/
def NoI(l:List V):Prop:=∀x∈l,∀n:Int,x≠.int .i64 n
theorem NoI.sub{a b:List V}(h:NoI b)(s:∀x∈a,x∈b):NoI a:=fun x m=>h x (s x m)
theorem NoI.app{a b:List V}(h:NoI a)(g:NoI b):NoI (a++b):=fun x m=>(List.mem_append.1 m).elim (h x) (g x)
structure GpT(h:Heap)(b B:Nat)(v:V)(c1 G c2:List V)(a g m:Nat):Prop where
  ob:Own h b [v,.int .i64 (a:Int),.int .i64 (g:Int)]
  tb:TbC 4 h v B (c1++G++c2) (a+g+m)
  l1:c1.length=a*4
  lg:G.length=g*4
  l2:c2.length=m*4
  o1:av c1=true
  o2:av c2=true
  ne:B≠b
  nb:a+g+m≤8208
  am:a+m≤4096
  n6:NoI (c1++G++c2)
/-- a gap buffer with n elements -/
def Gp(h:Heap)(b B:Nat)(n:Nat)(l:List V):Prop:=∃v c1 G c2 a g m,GpT h b B v c1 G c2 a g m∧l=c1++c2∧n=a+m
variable {h : Heap} {b B : Nat} {v : V} {c1 G c2 : List V} {a g m : Nat}
theorem GpT.fr{h':Heap}(k:GpT h b B v c1 G c2 a g m){S:List Nat}(f:Fr S h h')(hb:b∉S)(hB:B∉S):GpT h' b B v c1 G c2 a g m:=
  ⟨f.own _ _ hb k.ob,k.tb.fr f hB,k.l1,k.lg,k.l2,k.o1,k.o2,k.ne,k.nb,k.am,k.n6⟩
theorem Gp.fr{h':Heap}{n:Nat}{l:List V}(k:Gp h b B n l){S:List Nat}(f:Fr S h h')(hb:b∉S)(hB:B∉S):Gp h' b B n l:=by
  obtain⟨v,c1,G,c2,a,g,m,k,e⟩:=k;exact⟨v,c1,G,c2,a,g,m,k.fr f hb hB,e⟩
theorem Gp.len{n:Nat}{l:List V}(k:Gp h b B n l):l.length=n*4∧n≤4096∧av l=true:=by
  obtain⟨v,c1,G,c2,a,g,m,k,rfl,rfl⟩:=k;have:=k.l1;have:=k.l2;have:=k.am;exact⟨by simp;omega,by omega,by rw[aY,k.o1,k.o2];rfl⟩
theorem dZ(k:GpT h b B v c1 G c2 a g m):au go 108 [.ptr b 0] h fun u h'=>u=.int .i64 ((a+m:Nat):Int)∧h=h':=by
  have l0:=k.ob.ld1 0;have l2:=k.ob.ld1 2;have nb:=k.nb;simp only[b8,eF]at l0 l2;refine af ?_;simp(maxSteps:=1000000) (disch:=omega) only[evs,↓reduceIte,Nat.reduceEqDiff,Nat.reduceAdd,Nat.reduceMul,Nat.reduceLeDiff,Nat.reduceLT,Int.reduceNeg,DF,eff,Nat.reduceSub,aa,l0,l2,k.tb.len];congr 1;omega
def xA(n:Nat)(at' k:Int):Int:=if at'<0∨k<0∨(n:Int)<at'∨(n:Int)-at'<k then 4 else 0
theorem r8(k:GpT h b B v c1 G c2 a g m)(i n:Int):au go 159 [.ptr b 0,.int .i64 i,.int .i64 n] h fun u h'=>u=.int .i64 (xA (a+m) i n)∧h=h':=by
  unfold xA;by_cases x1:i<0
  ·refine af ?_;simp(maxSteps:=1000000) (disch:=omega) only[evs,↓reduceIte,Nat.reduceEqDiff,Nat.reduceAdd,Nat.reduceMul,Nat.reduceLeDiff,Nat.reduceLT,Int.reduceNeg,DF,eff,Nat.reduceSub,aa,x1];simp
  by_cases x2:n<0
  ·refine af ?_;simp(maxSteps:=1000000) (disch:=omega) only[evs,↓reduceIte,Nat.reduceEqDiff,Nat.reduceAdd,Nat.reduceMul,Nat.reduceLeDiff,Nat.reduceLT,Int.reduceNeg,DF,eff,Nat.reduceSub,aa,x1,x2];simp
  have am:=k.am;by_cases x3:((a+m:Nat):Int)<i
  ·refine af ?_;simp(maxSteps:=1000000) (disch:=omega) only[evs,↓reduceIte,Nat.reduceEqDiff,Nat.reduceAdd,Nat.reduceMul,Nat.reduceLeDiff,Nat.reduceLT,Int.reduceNeg,DF,eff,Nat.reduceSub,aa,x1,x2];refine ae (dZ k) ?_;rintro _ _ ⟨rfl,rfl⟩;simp(maxSteps:=1000000) (disch:=omega) only[evs,↓reduceIte,Nat.reduceEqDiff,Nat.reduceAdd,Nat.reduceMul,Nat.reduceLeDiff,Nat.reduceLT,Int.reduceNeg,DF,eff,Nat.reduceSub,aa,x3];simp
  by_cases x4:((a+m:Nat):Int)-i<n
  ·refine af ?_;simp(maxSteps:=1000000) (disch:=omega) only[evs,↓reduceIte,Nat.reduceEqDiff,Nat.reduceAdd,Nat.reduceMul,Nat.reduceLeDiff,Nat.reduceLT,Int.reduceNeg,DF,eff,Nat.reduceSub,aa,x1,x2];refine ae (dZ k) ?_;rintro _ _ ⟨rfl,rfl⟩;simp(maxSteps:=1000000) (disch:=omega) only[evs,↓reduceIte,Nat.reduceEqDiff,Nat.reduceAdd,Nat.reduceMul,Nat.reduceLeDiff,Nat.reduceLT,Int.reduceNeg,DF,eff,Nat.reduceSub,aa,x3];refine ae (dZ k) ?_;rintro _ _ ⟨rfl,rfl⟩;simp(maxSteps:=1000000) (disch:=omega) only[evs,↓reduceIte,Nat.reduceEqDiff,Nat.reduceAdd,Nat.reduceMul,Nat.reduceLeDiff,Nat.reduceLT,Int.reduceNeg,DF,eff,Nat.reduceSub,aa,x4];simp
  ·refine af ?_;simp(maxSteps:=1000000) (disch:=omega) only[evs,↓reduceIte,Nat.reduceEqDiff,Nat.reduceAdd,Nat.reduceMul,Nat.reduceLeDiff,Nat.reduceLT,Int.reduceNeg,DF,eff,Nat.reduceSub,aa,x1,x2];refine ae (dZ k) ?_;rintro _ _ ⟨rfl,rfl⟩;simp(maxSteps:=1000000) (disch:=omega) only[evs,↓reduceIte,Nat.reduceEqDiff,Nat.reduceAdd,Nat.reduceMul,Nat.reduceLeDiff,Nat.reduceLT,Int.reduceNeg,DF,eff,Nat.reduceSub,aa,x3];refine ae (dZ k) ?_;rintro _ _ ⟨rfl,rfl⟩;simp(maxSteps:=1000000) (disch:=omega) only[evs,↓reduceIte,Nat.reduceEqDiff,Nat.reduceAdd,Nat.reduceMul,Nat.reduceLeDiff,Nat.reduceLT,Int.reduceNeg,DF,eff,Nat.reduceSub,aa,x4];simp
theorem xe{α:Type}(c1 G c2:List α)(a g i k:Nat)(l1:c1.length=a*k)(lg:G.length=g*k):
    ((c1++G++c2).drop ((if a≤i then i+g else i) *k)).take k=((c1++c2).drop (i*k)).take k:=by
  by_cases c:a≤i
  ·rw[if_pos c];obtain⟨j,rfl⟩:∃j,i=a+j:=⟨i-a,by omega⟩;have e1:(a+j+g) *k=(c1++G).length+j*k:=by rw[List.length_append,l1,lg,Nat.add_mul,Nat.add_mul];omega
   have e2:(a+j) *k=c1.length+j*k:=by rw[l1,Nat.add_mul]
   rw[e1,e2,List.drop_length_add_append,List.drop_length_add_append]
  ·rw[if_neg c];have e:i*k+k≤c1.length:=by rw[l1,←Nat.succ_mul];exact Nat.mul_le_mul_right _ (by omega)
   rw[List.append_assoc,List.drop_append_of_le_length (by omega),List.take_append_of_le_length (by simp;omega),List.drop_append_of_le_length (by omega),List.take_append_of_le_length (by simp;omega)]
theorem GpT.at'(k:GpT h b B v c1 G c2 a g m){i:Nat}(hi:i<a+m):
    aP (.ixs 4) [v,.int .i64 ((if a≤i then i+g else i:Nat):Int)]=some (.ptr B ((if a≤i then i+g else i) *4))∧ak h B ((if a≤i then i+g else i) *4) 4=some (((c1++c2).drop (i*4)).take 4):=by
  have hp:(if a≤i then i+g else i)<a+g+m:=by split<;>omega
  obtain⟨hl,⟨rfl,z⟩|⟨rfl,o⟩⟩:=k.tb
  ·omega
  ·refine⟨?_,?_⟩
   ·rw[cZ _ _ _ _ _ _ _ (by omega) (by omega)];simp
   ·rw[o.ld,aC,bL,xe c1 G c2 a g i 4 k.l1 k.lg];simp only[List.length_drop,hl];omega
variable {h : Heap} {b B : Nat} {v : V} {c1 G c2 : List V} {a g m : Nat}
theorem NoI.z4:NoI Z4:=by
  intro x m n;simp at m;rcases m with rfl|rfl|rfl|rfl<;>simp
variable {h : Heap} {b B : Nat} {v : V} {c1 G c2 : List V} {a g m : Nat}
theorem TbC.fr'{e:Nat}{h h':Heap}{v:V}{B N:Nat}{C:List V}{S:List Nat}(a:TbC e h v B C N)(f:Fr S h h')(hB:v=.nils∨B∉S):TbC e h' v B C N:=by
  obtain⟨hl,⟨rfl,rfl⟩|⟨rfl,o⟩⟩:=a
  ·exact⟨hl,.inl ⟨rfl,rfl⟩⟩
  ·rcases hB with q|q
   ·cases q
   ·exact⟨hl,.inr ⟨rfl,f.own _ _ q o⟩⟩
variable {h : Heap} {b B : Nat}
theorem Fr.new{h h1 h2:Heap}{S:List Nat}(w:WF h)(f1:Fr [] h h1)(f2:Fr S h1 h2)(hs:∀x∈S,h.next≤x):Fr [] h h2:=
  Fr.trans f1 f2 w (fun x hx=>.inl hx) (fun x hx=>.inr (hs x hx))
end Go.Ev.Lay
namespace Go.Ev
variable {call : ai}
theorem WF.hnew{h:Heap}(w:WF h)(k:Blk):WF (hnew h k):=by
  intro p hp;have hp':h.next+1≤p:=hp;have:=w p (by omega);exact⟨by show(h.bl.set _ _).get p=none;rw[T.get_set_ne _ _ (by omega)];exact this.1,this.2⟩
theorem Fr.hnew{h:Heap}(w:WF h)(k:Blk):Fr [] h (hnew h k) where
  next:=Nat.le_succ _
  wf:=w.hnew k
  own:=fun b c _ o=>by
    have:=o.lt w;obtain⟨f,k',e,x⟩:=o;exact⟨f,k',by show(h.bl.set _ _).get b=_;rw[T.get_set_ne _ _ (by omega)];exact e,x⟩
  pl:=fun b c _ o=>by
    have:=o.own.lt w;obtain⟨⟨k',e⟩,f⟩:=o;exact⟨⟨k',by show(h.bl.set _ _).get b=_;rw[T.get_set_ne _ _ (by omega)];exact e⟩,f⟩
  lp:=fun b x _ e=>by
    have:b≠h.next:=by rintro rfl;rw[(w _ (Nat.le_refl _)).1]at e;cases e
    show(h.bl.set _ _).get b=_;rw[T.get_set_ne _ _ this];exact e
  ro:=fun b c r=>r.new w _
/-- a frame but for the block of a loop -/
structure FrB(S:List Nat)(B:Nat)(h h':Heap):Prop where
  next:h.next≤h'.next
  wf:WF h'
  own:∀b c,b∉S→Own h b c→Own h' b c
  pl:∀b c,b∉S→Pl h b c→Pl h' b c
  lp:∀b x,b≠B→vO x=true→h.bl.get b=some x→h'.bl.get b=some x
  ro:∀b c,Rs h b c→Rs h' b c
theorem Fr.b{S S':List Nat}{h h':Heap}{B:Nat}(f:Fr S' h h')(hs:∀x∈S',x∈S):FrB S B h h':=⟨f.next,f.wf,fun b c hb o=>f.own b c (fun q=>hb (hs b q)) o,fun b c hb o=>f.pl b c (fun q=>hb (hs b q)) o,fun b x _ hx e=>f.lp b x hx e,f.ro⟩
theorem FrB.trans{S:List Nat}{h h1 h2:Heap}{B:Nat}(a:FrB S B h h1)(b:FrB S B h1 h2):FrB S B h h2:=
  ⟨Nat.le_trans a.next b.next,b.wf,fun x c hx o=>b.own x c hx (a.own x c hx o),fun x c hx o=>b.pl x c hx (a.pl x c hx o),fun x k hx hk o=>b.lp x k hx hk (a.lp x k hx hk o),fun x c r=>b.ro x c (a.ro x c r)⟩
theorem FrB.hset{S:List Nat}{h:Heap}(w:WF h){B:Nat}{x:Blk}(e:h.bl.get B=some x)(hx:vO x=true)(k:Blk):FrB S B h (hset h B k):=by
  have hB:B<h.next:=by
    rcases Nat.lt_or_ge B h.next with q|q
    ·exact q
    ·rw[(w B q).1]at e;cases e
  refine⟨Nat.le_refl _,?_,?_,?_,?_,?_⟩
  ·intro p hp;have hp':h.next≤p:=hp;have:=w p hp';exact⟨by show(h.bl.set _ _).get p=none;rw[T.get_set_ne _ _ (by omega)];exact this.1,this.2⟩
  ·rintro b c _ ⟨f,k',e',y⟩;have:b≠B:=by rintro rfl;rw[e]at e';cases e';cases hx
   exact⟨f,k',by show(h.bl.set _ _).get b=_;rw[T.get_set_ne _ _ this];exact e',y⟩
  ·rintro b c _ ⟨⟨k',e'⟩,y⟩;have:b≠B:=by rintro rfl;rw[e]at e';cases e';cases hx
   exact⟨⟨k',by show(h.bl.set _ _).get b=_;rw[T.get_set_ne _ _ this];exact e'⟩,y⟩
  ·intro b y hb hy e';show(h.bl.set _ _).get b=_;rw[T.get_set_ne _ _ hb];exact e'
  ·rintro b c ⟨f,k',ow,e1,e2,e3,e4⟩;have h1:b≠B:=by rintro rfl;rw[e]at e1;cases e1;cases hx
   have h2:ow≠B:=by rintro rfl;rw[e]at e3;cases e3
   exact⟨f,k',ow,by show(h.bl.set _ _).get b=_;rw[T.get_set_ne _ _ h1];exact e1,e2,by show(h.bl.set _ _).get ow=_;rw[T.get_set_ne _ _ h2];exact e3,e4⟩
/-- seen from where neither was there -/
theorem FrB.fr{S:List Nat}{B:Nat}{h h1 h2:Heap}(w:WF h)(f:Fr [] h h1)(a:FrB S B h1 h2)(hs:∀x∈S,h.next≤x)(hB:h.next≤B):Fr [] h h2:=
  ⟨Nat.le_trans f.next a.next,a.wf,fun b c _ o=>a.own b c (fun q=>by have:=hs b q;have:=o.lt w;omega) (f.get o),fun b c _ o=>a.pl b c (fun q=>by have:=hs b q;have:=o.own.lt w;omega) (f.pl b c (by simp) o),
    fun b x hx e=>a.lp b x (by rintro rfl;rw[(w _ hB).1]at e;cases e) hx (f.lp b x hx e),fun b c r=>a.ro b c (f.ro b c r)⟩
theorem tG(h:Heap)(B:Nat)(k:Blk):(hset h B k).bl.get B=some k:=T.get_set_self _ _ _
theorem tH(h:Heap)(k:Blk):(hnew h k).bl.get h.next=some k:=T.get_set_self _ _ _
def Rdb(h:Heap)(b:Nat)(c:List V):Prop:=Own h b c∨Rs h b c
theorem Rdb.cells{h:Heap}{b:Nat}{c:List V}(a:Rdb h b c):bu h b=some c:=by
  rcases a with o|⟨f,k,ow,e1,e2,_⟩
  ·exact o.cells
  ·simp only[bu,e1,rd,e2,Nat.beq_refl,Bool.or_true,if_true];rfl
theorem Rdb.ld1{h:Heap}{b:Nat}{c:List V}(a:Rdb h b c)(o:Nat):ab h b o=nth c o:=by simp only[ab,a.cells]
theorem Rdb.ld{h:Heap}{b:Nat}{c:List V}(a:Rdb h b c)(o n:Nat):ak h b o n=bz n (cF c o):=by simp only[ak,a.cells]
def ASl(h:Heap)(esz:Nat)(v:V)(n:Nat)(cs:List V):Prop:=
  cs.length=n*esz∧match v with
  |.nils=>n=0
  |.sliceE=>n=0
  |.sliceZ _ _=>n=0
  |.slice b o len cap=>len=n∧n≤cap∧∃c,Rdb h b c∧o+n*esz≤c.length∧cs=(c.drop o).take (n*esz)
  |.sliceU b o len e=>len=n∧e=esz∧∃c,Rdb h b c∧o+n*esz≤c.length∧cs=(c.drop o).take (n*esz)
  |_=>False
theorem Sl.a{h:Heap}{esz:Nat}{v:V}{n:Nat}{cs:List V}(a:Sl h esz v n cs):ASl h esz v n cs:=by
  obtain⟨hl,a⟩:=a;refine⟨hl,?_⟩;cases v with
  |slice b o l k=>obtain⟨h1,h2,c,o,x⟩:=a;exact⟨h1,h2,c,.inl o,x⟩
  |sliceU b o l k=>obtain⟨h1,h2,c,o,x⟩:=a;exact⟨h1,h2,c,.inl o,x⟩
  |sliceZ _ _=>exact a.elim
  |_=>exact a
theorem ASl.map{h h':Heap}{esz:Nat}{v:V}{n:Nat}{cs:List V}(a:ASl h esz v n cs)(f:∀b c,Rdb h b c→(cs≠[]→∃x∈cs,x∈c)→Rdb h' b c):ASl h' esz v n cs:=by
  obtain⟨hl,a⟩:=a;refine⟨hl,?_⟩;have key:∀(o:Nat)(c:List V),cs=(c.drop o).take (n*esz)→cs≠[]→∃x∈cs,x∈c:=by
    intro o c e hne;obtain⟨x,hx⟩:=List.exists_mem_of_ne_nil cs hne;exact⟨x,hx,List.mem_of_mem_drop (List.mem_of_mem_take (e▸hx))⟩
  cases v with
  |slice b o l k=>obtain⟨h1,h2,c,oc,x1,x2⟩:=a;exact⟨h1,h2,c,f b c oc (key o c x2),x1,x2⟩
  |sliceU b o l k=>obtain⟨h1,h2,c,oc,x1,x2⟩:=a;exact⟨h1,h2,c,f b c oc (key o c x2),x1,x2⟩
  |_=>exact a
theorem ASl.fr{h h':Heap}{esz:Nat}{v:V}{n:Nat}{cs:List V}(a:ASl h esz v n cs)(f:Fr [] h h'):ASl h' esz v n cs:=a.map fun b c r _=>r.imp (fun o=>f.get o) (f.ro b c)
theorem ASl.len{h:Heap}{esz:Nat}{v:V}{n:Nat}{cs:List V}(a:ASl h esz v n cs):aP .lenS [v]=some (.int .i64 n):=by
  obtain⟨hl,a⟩:=a;cases v with
  |slice b o l k=>obtain⟨rfl,_⟩:=a;rfl
  |sliceU b o l k=>obtain⟨rfl,_⟩:=a;rfl
  |nils=>have a:n=0:=a;subst a;rfl
  |sliceE=>have a:n=0:=a;subst a;rfl
  |sliceZ _ _=>have a:n=0:=a;subst a;rfl
  |_=>exact a.elim
theorem ASl.one{h:Heap}{esz:Nat}{v:V}{n:Nat}{cs:List V}(a:ASl h esz v n cs):v.one=true:=by
  obtain⟨hl,a⟩:=a;cases v with
  |slice b o l k=>rfl
  |sliceU b o l k=>rfl
  |nils=>rfl
  |sliceE=>rfl
  |sliceZ _ _=>rfl
  |_=>exact a.elim
theorem ASl.ix{h:Heap}{esz:Nat}{v:V}{n:Nat}{cs:List V}(a:ASl h esz v n cs)(k:IntKind)(i:Int)(h0:0≤i)(h1:i<n):
    ∃b o,aP (.ixs esz) [v,.int k i]=some (.ptr b o)∧(∀j,j<esz→ab h b (o+j)=cs[i.toNat*esz+j]?)∧ak h b o esz=some ((cs.drop (i.toNat*esz)).take esz):=by
  obtain⟨hl,a⟩:=a;obtain⟨m,rfl⟩:∃m:Nat,i=m:=⟨i.toNat,by omega⟩;have hm:m<n:=by omega
  have hmul:m*esz+esz≤n*esz:=by rw[←Nat.succ_mul];exact Nat.mul_le_mul_right _ hm
  have main:∀(b o:Nat)(c:List V),Rdb h b c→o+n*esz≤c.length→cs=(c.drop o).take (n*esz)→
      (∀j,j<esz→ab h b (o+m*esz+j)=cs[m*esz+j]?)∧ak h b (o+m*esz) esz=some ((cs.drop (m*esz)).take esz):=by
    intro b o c hc hlen e;subst e;constructor
    ·intro j hj;rw[hc.ld1,dm,List.getElem?_take,if_pos (by omega),List.getElem?_drop];congr 1;omega
    ·rw[hc.ld,aC,bL _ _ (by simp;omega),List.drop_take,List.drop_drop,List.take_take];congr 2;omega
  cases v with
  |slice b o l q=>
    obtain⟨rfl,_,c,hc,hlen,e⟩:=a;exact⟨b,o+m*esz,cZ _ _ _ _ _ _ _ h0 h1,main b o c hc hlen e⟩
  |sliceU b o l q=>
    obtain⟨rfl,rfl,c,hc,hlen,e⟩:=a;exact⟨b,o+m*q,gh _ _ _ _ _ _ _ h0 h1,main b o c hc hlen e⟩
  |nils=>have a:n=0:=a;omega
  |sliceE=>have a:n=0:=a;omega
  |sliceZ _ _=>have a:n=0:=a;omega
  |_=>exact a.elim
section
variable {α : Type} {f : α → List V} {k : Nat}
/-- records in a slice that is only read -/
def ARecs(f:α→List V)(k:Nat)(h:Heap)(v:V)(L:List α):Prop:=ASl h k v L.length (L.flatMap f)
theorem Recs.a{h:Heap}{v:V}{L:List α}(a:Recs f k h v L):ARecs f k h v L:=Sl.a a
theorem ARecs.fr{h h':Heap}{v:V}{L:List α}(a:ARecs f k h v L)(r:Fr [] h h'):ARecs f k h' v L:=ASl.fr a r
theorem ARecs.len{h:Heap}{v:V}{L:List α}(a:ARecs f k h v L):aP .lenS [v]=some (.int .i64 L.length):=ASl.len a
theorem ARecs.one{h:Heap}{v:V}{L:List α}(a:ARecs f k h v L):v.one=true:=ASl.one a
theorem ARecs.ix{h:Heap}{v:V}{L:List α}(hf:∀x,(f x).length=k)(a:ARecs f k h v L)(kd:IntKind)(i:Int)(h0:0≤i)(h1:i<L.length):
    ∃b o x,aP (.ixs k) [v,.int kd i]=some (.ptr b o)∧(∀j,j<k→ab h b (o+j)=(f x)[j]?)∧ak h b o k=some (f x)∧L[i.toNat]? =some x:=by
  obtain⟨b,o,e,g,g2⟩:=ASl.ix a kd i h0 h1;have hi:i.toNat<L.length:=by omega
  have e3:L[i.toNat]? =some L[i.toNat]:=by simp[hi]
  have ed:L.drop i.toNat=L[i.toNat]::L.drop (i.toNat+1):=List.drop_eq_getElem_cons hi;refine⟨b,o,L[i.toNat],e,fun j hj=>?_,?_,e3⟩
  ·rw[g j hj,←List.getElem?_drop,dJ hf,ed,List.flatMap_cons,List.getElem?_append_left (by rw[hf];exact hj)]
  ·rw[g2,dJ hf,ed,List.flatMap_cons];have:=hf L[i.toNat];rw[List.take_append,List.take_of_length_le (by omega),this];simp
end
end Go.Ev
namespace Go.Ev.Lay
set_option maxRecDepth 4000
def ItQ(h:Heap)(nx:Bool)(o:Option V)(K:V→Heap→Prop):Prop:=∃d,o=some d∧OQ (ait h nx d) K
theorem kF{h:Heap}(nx:Bool)(d:V)(K:V→Heap→Prop):ItQ h nx (some d) K↔OQ (ait h nx d) K:=
  ⟨fun⟨_,e,k⟩=>by cases e;exact k,fun k=>⟨d,rfl,k⟩⟩
theorem tf{call:ai}{loc:List V}{env:T V}{h:Heap}(nx:Bool)(x:Opd)(K:V→Heap→Prop):OQ (aq call loc env h (.it nx x)) K↔ItQ h nx (evO loc env x) K:=by
  simp only[aq,OQ,ItQ];cases evO loc env x with
  |none=>simp
  |some d=>simp
theorem xt{h:Heap}(z:List UInt8)(K:V→Heap→Prop):OQ (ait h false (.str z)) K↔K (.ptr h.next 0) (hnew h (.si z 0)):=bR _ _ _
theorem xu{h:Heap}{b pos:Nat}{z:List UInt8}(hb:h.bl.get b=some (.si z pos))(hp:¬pos<z.length)(K:V→Heap→Prop):OQ (ait h true (.ptr b 0)) K↔K (.tup [.bool false]) h:=by
  show OQ (match h.bl.get b with|some (.si z pos)=>_|_=>_) K↔_
  rw[hb];simp only[if_neg hp];exact bR _ _ _
theorem vN{h:Heap}{b pos:Nat}{z:List UInt8}(hb:h.bl.get b=some (.si z pos))(hp:pos<z.length)(K:V→Heap→Prop):OQ (ait h true (.ptr b 0)) K↔
    K (.tup [.bool true,.int .i64 (pos:Int),.int .i32 ((Utf8.decode ⟨z.toArray⟩ pos).1:Int)]) (hset h b (.si z (pos+(Utf8.decode ⟨z.toArray⟩ pos).2))):=by
  show OQ (match h.bl.get b with|some (.si z pos)=>_|_=>_) K↔_
  rw[hb];simp only[if_pos hp];exact bR _ _ _
theorem _root_.Go.Ev.WF.hset{h:Heap}(w:WF h){b:Nat}{x:Blk}(hb:h.bl.get b=some x)(y:Blk):WF (hset h b y):=by
  intro p hp;obtain⟨q1,q2⟩:=w p hp;refine⟨?_,q2⟩;show(h.bl.set b y).get p=none;rw[T.get_set,if_neg (by rintro rfl;rw[hb]at q1;cases q1)];exact q1
theorem Fr.si{h:Heap}(w:WF h){b pos pos':Nat}{z:List UInt8}(hb:h.bl.get b=some (.si z pos)):Fr [] h (hset h b (.si z pos')) where
  next:=Nat.le_refl _
  wf:=WF.hset w hb _
  own:=fun x c _ ⟨f,k,e,q⟩=>⟨f,k,by
    show(h.bl.set b _).get x=_;rw[T.get_set,if_neg (by rintro rfl;rw[hb]at e;cases e)];exact e,q⟩
  pl:=fun x c _ ⟨⟨k,e⟩,q⟩=>⟨⟨k,by
    show(h.bl.set b _).get x=_;rw[T.get_set,if_neg (by rintro rfl;rw[hb]at e;cases e)];exact e⟩,q⟩
  lp:=fun x k hk e=>by
    show(h.bl.set b _).get x=_;rw[T.get_set,if_neg (by rintro rfl;rw[hb]at e;cases e;cases hk)];exact e
  ro:=fun x c ⟨f,k,ow,e,q1,q2,q3⟩=>⟨f,k,ow,by
    show(h.bl.set b _).get x=_;rw[T.get_set,if_neg (by rintro rfl;rw[hb]at e;cases e)];exact e,q1,by
    show(h.bl.set b _).get ow=_;rw[T.get_set,if_neg (by rintro rfl;rw[hb]at q2;cases q2)];exact q2,q3⟩
/-- a function value that answers as p does, and takes no rune that is no ASCII -/
def yZ(g:Nat)(p:Int→Bool):Prop:=g<1099511627776∧(∀(r:Int)(h:Heap),au go g [.int .i32 r] h fun u h'=>u=.bool (p r)∧h=h')∧∀r:Int,128≤r→p r=true
def hU(p:Int→Bool)(z:List UInt8):Bool:=z.any fun b=>p (b.toNat:Int)
theorem xE(z:List UInt8)(pos:Nat)(hp:pos<z.length)(p:Int→Bool)(h128:∀r:Int,128≤r→p r=true):
    (p ((Utf8.decode ⟨z.toArray⟩ pos).1:Int)=p ((z[pos]).toNat:Int))∧(p ((z[pos]).toNat:Int)=false→(Utf8.decode ⟨z.toArray⟩ pos).2=1):=by
  have hs:pos<(ByteArray.mk z.toArray).size:=hp;have he:(ByteArray.mk z.toArray)[pos]'hs=z[pos]:=rfl;by_cases c:(z[pos]).toNat<128
  ·have:=Go.decode_ascii ⟨z.toArray⟩ pos hs (by rw[he];exact c);rw[this,he];exact⟨rfl,fun _=>rfl⟩
  ·have:=Go.decode_high ⟨z.toArray⟩ pos hs (by rw[he];omega);rw[h128 _ (by omega),h128 _ (by omega)];exact⟨rfl,fun e=>by cases e⟩
theorem rY{h:Heap}{z:List UInt8}{g:Nat}{p:Int→Bool}(w:WF h)(P:yZ g p)(hz:z.length<16777216):
    au go 417 [.str z,.func (.func g) [] [],.bool true] h fun u h'=>∃r:Int,u=.int .i64 r∧(decide (0≤r)=hU p z)∧Fr [] h h':=by
  obtain⟨hg,hp,h128⟩:=P;obtain⟨h1,e_h1⟩:∃h1,h1=hnew h (.si z 0):=⟨_,rfl⟩;have F_h1:Fr [] h h1:=e_h1▸Fr.hnew w _;have b1:h1.bl.get h.next=some (.si z 0):=by rw[e_h1];exact tH _ _
  refine af ?_;simp(maxSteps:=1000000) (disch:=omega) only[evs,↓reduceIte,Nat.reduceEqDiff,Nat.reduceAdd,Nat.reduceMul,Nat.reduceLeDiff,Nat.reduceLT,Int.reduceNeg,DF,eff,Nat.reduceSub,aa,tf,kF,xt,←e_h1];refine aQ (fun k env hh=>Fr [] h hh∧∃(i:Nat),env.get 10=some (.ptr h.next 0)∧env.get 1=some (.func (.func g) [] [])∧env.get 2=some (.bool true)∧hh.bl.get h.next=some (.si z i)∧
      i≤z.length∧hU p (z.drop i)=hU p z∧k=z.length-i) z.length (by omega) ?_ ?_
  ·exact⟨F_h1,0,(by simp[T.get_set]),(by simp[T.get_set]),(by simp[T.get_set]),b1,by omega,rfl,rfl⟩
  ·rintro k env hh ⟨F,i,g10,g1,g2,bb,hi,e,rfl⟩;by_cases hlt:i<z.length
   ·have⟨d1,d2⟩:=xE z i hlt p h128;have F1:Fr [] hh (hset hh h.next (.si z (i+(Utf8.decode ⟨z.toArray⟩ i).2))):=Fr.si F.wf bb;have b2:=tG hh h.next (.si z (i+(Utf8.decode ⟨z.toArray⟩ i).2));rw[List.drop_eq_getElem_cons hlt]at e;simp(maxSteps:=1000000) (disch:=omega) only[evs,↓reduceIte,Nat.reduceEqDiff,Nat.reduceAdd,Nat.reduceMul,Nat.reduceLeDiff,Nat.reduceLT,Int.reduceNeg,DF,eff,Nat.reduceSub,aa,g10,g1,g2,tf,kF,vN bb hlt,hg];refine ae (hp _ _) ?_;rintro _ h2 ⟨rfl,rfl⟩;cases c:p ((z[i]).toNat:Int)
    ·have w1:=d2 c;rw[c]at d1;rw[w1]at F1 b2⊢;simp(maxSteps:=1000000) (disch:=omega) only[evs,↓reduceIte,Nat.reduceEqDiff,Nat.reduceAdd,Nat.reduceMul,Nat.reduceLeDiff,Nat.reduceLT,Int.reduceNeg,DF,eff,Nat.reduceSub,aa,d1,g10,g1,g2];unfold hU at e;rw[List.any_cons,c,Bool.false_or]at e;refine rqn ⟨z.length-(i+1),by omega,F.then F1,i+1,(by simp[T.get_set,g10]),(by simp[T.get_set,g1]),(by simp[T.get_set,g2]),b2,by omega,e,rfl⟩
     done
    ·rw[c]at d1;simp(maxSteps:=1000000) (disch:=omega) only[evs,↓reduceIte,Nat.reduceEqDiff,Nat.reduceAdd,Nat.reduceMul,Nat.reduceLeDiff,Nat.reduceLT,Int.reduceNeg,DF,eff,Nat.reduceSub,aa,d1,g10,g1,g2];unfold hU at e⊢;rw[List.any_cons,c,Bool.true_or]at e;exact⟨i,rfl,by rw[←e];simp,F.then F1⟩
   ·simp(maxSteps:=1000000) (disch:=omega) only[evs,↓reduceIte,Nat.reduceEqDiff,Nat.reduceAdd,Nat.reduceMul,Nat.reduceLeDiff,Nat.reduceLT,Int.reduceNeg,DF,eff,Nat.reduceSub,aa,g10,g1,g2,tf,kF,xu bb hlt];rw[List.drop_of_length_le (by omega)]at e;exact⟨-1,rfl,by rw[←e];rfl,F⟩
def sv(r:Int):Bool:=decide (r<32)||decide (126<r)
def kA(r:Int):Bool:=(decide (r<97)||decide (122<r))&&(decide (r<48)||decide (57<r))
/-- is it a text? is it a name? -/
def okT(z:List UInt8):Bool:=decide (z.length≤64)&& !hU sv z
def okN(z:List UInt8):Bool:=decide (0<z.length)&&(decide (z.length≤16)&& !hU kA z)
theorem dN(a:List UInt8):aP .lenStr [.str a]=some (.int .i64 (a.length:Nat)):=rfl
theorem bn(a b:List UInt8):aP (.sb .neq) [.str a,.str b]=some (.bool (!(a==b))):=rfl
theorem aA(a b:List UInt8):aP (.sb .eql) [.str a,.str b]=some (.bool (a==b)):=rfl
abbrev sS(s:List UInt8):List V:=[.str s]
structure Itm where
  key:Nat
  type:Nat
  text:List UInt8
  marks:List (List UInt8)
  vm:V
def Itm.cells(x:Itm):List V:=[.int .u64 (x.key:Int),.int .u8 (x.type:Int),.str x.text,x.vm]
/-- the item's marks are where it says -/
structure ItmH(h:Heap)(x:Itm):Prop where
  k:x.key<18446744073709551616
  t:x.type<256
  m:ARecs sS 1 h x.vm x.marks
  n:x.marks.length≤4096
  l:x.text.length<16777216
theorem ItmH.fr{h h':Heap}{x:Itm}(a:ItmH h x)(f:Fr [] h h'):ItmH h' x:=⟨a.k,a.t,a.m.fr f,a.n,a.l⟩
theorem ItmH.one{h:Heap}{x:Itm}(a:ItmH h x):av x.cells=true:=by
  show av [.int .u64 (x.key:Int),.int .u8 (x.type:Int),.str x.text,x.vm]=true;simp only[aB,aR,a.m.one];rfl
theorem rZ{h:Heap}(r:Nat):au go 491 [.int .u8 (r:Int)] h fun u h'=>u=.bool (!kA r)∧h=h':=by
  by_cases c:(97:Int)≤r
  ·by_cases d:(r:Int)≤122
   ·refine af ?_;simp(maxSteps:=1000000) (disch:=omega) only[evs,↓reduceIte,Nat.reduceEqDiff,Nat.reduceAdd,Nat.reduceMul,Nat.reduceLeDiff,Nat.reduceLT,Int.reduceNeg,DF,eff,Nat.reduceSub,aa,c,d];simp[kA];omega
   ·by_cases e:(48:Int)≤r
    ·by_cases f:(r:Int)≤57
     ·omega
     ·refine af ?_;simp(maxSteps:=1000000) (disch:=omega) only[evs,↓reduceIte,Nat.reduceEqDiff,Nat.reduceAdd,Nat.reduceMul,Nat.reduceLeDiff,Nat.reduceLT,Int.reduceNeg,DF,eff,Nat.reduceSub,aa,c,d,e,f];simp[kA];omega
    ·omega
  ·by_cases e:(48:Int)≤r
   ·by_cases f:(r:Int)≤57
    ·refine af ?_;simp(maxSteps:=1000000) (disch:=omega) only[evs,↓reduceIte,Nat.reduceEqDiff,Nat.reduceAdd,Nat.reduceMul,Nat.reduceLeDiff,Nat.reduceLT,Int.reduceNeg,DF,eff,Nat.reduceSub,aa,c,e,f];simp[kA];omega
    ·refine af ?_;simp(maxSteps:=1000000) (disch:=omega) only[evs,↓reduceIte,Nat.reduceEqDiff,Nat.reduceAdd,Nat.reduceMul,Nat.reduceLeDiff,Nat.reduceLT,Int.reduceNeg,DF,eff,Nat.reduceSub,aa,c,e,f];simp[kA];omega
   ·refine af ?_;simp(maxSteps:=1000000) (disch:=omega) only[evs,↓reduceIte,Nat.reduceEqDiff,Nat.reduceAdd,Nat.reduceMul,Nat.reduceLeDiff,Nat.reduceLT,Int.reduceNeg,DF,eff,Nat.reduceSub,aa,c,e];simp[kA];omega
theorem uQ{z:List UInt8}{i:Nat}(h:i<z.length)(k:IntKind):aP .ixstr [.str z,.int k (i:Int)]=some (.int .u8 ((z[i]).toNat:Nat)):=by
  show(z[i]?).map _=_;rw[List.getElem?_eq_getElem h];rfl
theorem jC{h:Heap}{z:List UInt8}:au go 436 [.str z] h fun u h'=>u=.bool (okN z)∧h=h':=by
  by_cases c0:z.length<1
  ·refine af ?_;simp(maxSteps:=1000000) (disch:=omega) only[evs,↓reduceIte,Nat.reduceEqDiff,Nat.reduceAdd,Nat.reduceMul,Nat.reduceLeDiff,Nat.reduceLT,Int.reduceNeg,DF,eff,Nat.reduceSub,aa,dN,show(z.length:Int)<1 by omega];simp[okN];intro _;omega
  by_cases c1:16<z.length
  ·refine af ?_;simp(maxSteps:=1000000) (disch:=omega) only[evs,↓reduceIte,Nat.reduceEqDiff,Nat.reduceAdd,Nat.reduceMul,Nat.reduceLeDiff,Nat.reduceLT,Int.reduceNeg,DF,eff,Nat.reduceSub,aa,dN,show¬(z.length:Int)<1 by omega,show(16:Int)<z.length by omega];simp[okN];intro _ _;omega
  ·have e0:okN z= !hU kA z:=by simp[okN,show 0<z.length by omega,show z.length≤16 by omega]
   rw[e0];refine af ?_;simp(maxSteps:=1000000) (disch:=omega) only[evs,↓reduceIte,Nat.reduceEqDiff,Nat.reduceAdd,Nat.reduceMul,Nat.reduceLeDiff,Nat.reduceLT,Int.reduceNeg,DF,eff,Nat.reduceSub,aa,dN,show¬(z.length:Int)<1 by omega,show¬(16:Int)<z.length by omega];refine aQ (fun k env hh=>h=hh∧∃(i:Nat),env.get 14=some (.int .i64 i)∧env.get 13=some (.int .i64 z.length)∧env.get 0=some (.str z)∧
     i≤z.length∧hU kA (z.drop i)=hU kA z∧k=z.length-i) z.length (by omega) ?_ ?_
   ·exact⟨rfl,0,(by simp[T.get_set]),(by simp[T.get_set]),(by simp[T.get_set]),by omega,rfl,rfl⟩
   ·rintro k env hh ⟨rfl,i,g14,g13,g0,hi,e,rfl⟩;by_cases hlt:i<z.length
    ·unfold hU at e;rw[List.drop_eq_getElem_cons hlt,List.any_cons]at e;simp(maxSteps:=1000000) (disch:=omega) only[evs,↓reduceIte,Nat.reduceEqDiff,Nat.reduceAdd,Nat.reduceMul,Nat.reduceLeDiff,Nat.reduceLT,Int.reduceNeg,DF,eff,Nat.reduceSub,aa,g14,g13,g0,show(i:Int)<z.length by omega,uQ hlt];refine ae (rZ _) ?_;rintro _ _ ⟨rfl,rfl⟩;cases c:kA ((z[i]).toNat:Int)
     ·simp(maxSteps:=1000000) (disch:=omega) only[evs,↓reduceIte,Nat.reduceEqDiff,Nat.reduceAdd,Nat.reduceMul,Nat.reduceLeDiff,Nat.reduceLT,Int.reduceNeg,DF,eff,Nat.reduceSub,aa,g14,g13,g0];rw[c,Bool.false_or]at e;refine rqn ⟨z.length-(i+1),by omega,rfl,i+1,(by simp[T.get_set]),(by simp[T.get_set,g13]),(by simp[T.get_set,g0]),by omega,e,rfl⟩
      done
     ·simp(maxSteps:=1000000) (disch:=omega) only[evs,↓reduceIte,Nat.reduceEqDiff,Nat.reduceAdd,Nat.reduceMul,Nat.reduceLeDiff,Nat.reduceLT,Int.reduceNeg,DF,eff,Nat.reduceSub,aa,g14,g13,g0];rw[c,Bool.true_or]at e;unfold hU;rw[←e];simp
    ·simp(maxSteps:=1000000) (disch:=omega) only[evs,↓reduceIte,Nat.reduceEqDiff,Nat.reduceAdd,Nat.reduceMul,Nat.reduceLeDiff,Nat.reduceLT,Int.reduceNeg,DF,eff,Nat.reduceSub,aa,g14,g13,g0,show¬(i:Int)<z.length by omega];rw[List.drop_of_length_le (by omega)]at e;rw[←e];rfl
theorem zQ:yZ 490 sv:=⟨by decide,fun r h=>by
  by_cases c:r<32
  ·refine af ?_;simp(maxSteps:=1000000) (disch:=omega) only[evs,↓reduceIte,Nat.reduceEqDiff,Nat.reduceAdd,Nat.reduceMul,Nat.reduceLeDiff,Nat.reduceLT,Int.reduceNeg,DF,eff,Nat.reduceSub,aa,c];simp[sv,c]
  ·refine af ?_;simp(maxSteps:=1000000) (disch:=omega) only[evs,↓reduceIte,Nat.reduceEqDiff,Nat.reduceAdd,Nat.reduceMul,Nat.reduceLeDiff,Nat.reduceLT,Int.reduceNeg,DF,eff,Nat.reduceSub,aa,c];simp[sv,c],fun r hr=>by simp[sv];omega⟩
theorem nt{h:Heap}{z:List UInt8}(w:WF h):au go 435 [.str z] h fun u h'=>u=.bool (okT z)∧Fr [] h h':=by
  by_cases c:z.length≤64
  ·refine af ?_;simp(maxSteps:=1000000) (disch:=omega) only[evs,↓reduceIte,Nat.reduceEqDiff,Nat.reduceAdd,Nat.reduceMul,Nat.reduceLeDiff,Nat.reduceLT,Int.reduceNeg,DF,eff,Nat.reduceSub,aa,dN,show(z.length:Int)≤64 by omega];refine ae (?_:au go 358 _ _ (fun u h'=>∃r:Int,u=.int .i64 r∧(decide (0≤r)=hU sv z)∧Fr [] h h')) ?_
   ·refine af ?_;simp(maxSteps:=1000000) (disch:=omega) only[evs,↓reduceIte,Nat.reduceEqDiff,Nat.reduceAdd,Nat.reduceMul,Nat.reduceLeDiff,Nat.reduceLT,Int.reduceNeg,DF,eff,Nat.reduceSub,aa];refine ae (rY w zQ (by omega)) ?_;rintro _ h1 ⟨r,rfl,e,F⟩;simp(maxSteps:=1000000) (disch:=omega) only[evs,↓reduceIte,Nat.reduceEqDiff,Nat.reduceAdd,Nat.reduceMul,Nat.reduceLeDiff,Nat.reduceLT,Int.reduceNeg,DF,eff,Nat.reduceSub,aa];exact⟨r,rfl,e,F⟩
   ·rintro _ h1 ⟨r,rfl,e,F⟩;simp(maxSteps:=1000000) (disch:=omega) only[evs,↓reduceIte,Nat.reduceEqDiff,Nat.reduceAdd,Nat.reduceMul,Nat.reduceLeDiff,Nat.reduceLT,Int.reduceNeg,DF,eff,Nat.reduceSub,aa];refine⟨?_,F⟩;have:decide (r<0)= !decide (0≤r):=by by_cases q:0≤r<;>simp[q]<;>omega
    simp[okT,c,←e];exact this
  ·refine af ?_;simp(maxSteps:=1000000) (disch:=omega) only[evs,↓reduceIte,Nat.reduceEqDiff,Nat.reduceAdd,Nat.reduceMul,Nat.reduceLeDiff,Nat.reduceLT,Int.reduceNeg,DF,eff,Nat.reduceSub,aa,dN,show¬(z.length:Int)≤64 by omega];exact⟨by simp[okT,c],Fr.refl w⟩
abbrev Str:=List UInt8
inductive NT where
  |nil
  |cons (kind:Nat) (tag key:Str) (attrs:List (Str×Str)) (text:Str) (va vc:V) (sub next:NT)
def uA(a:Str×Str):List V:=[.str a.1,.str a.2]
theorem oD(a:Str×Str):(uA a).length=2:=rfl
namespace NT
def len:NT→Nat
  |nil=>0
  |cons _ _ _ _ _ _ _ _ nx=>nx.len+1
def cells:NT→List V
  |nil=>[]
  |cons k tg ky _ tx va vc _ nx=>[.int .u8 (k:Int),.str tg,.str ky,va,.str tx,vc]++nx.cells
def keys:NT→List Str
  |nil=>[]
  |cons _ _ ky _ _ _ _ _ nx=>ky::nx.keys
theorem cells_len:∀t:NT,t.cells.length=t.len*6
  |nil=>rfl
  |cons _ _ _ _ _ _ _ _ nx=>by simp[cells,len,cells_len nx];omega
theorem keys_len:∀t:NT,t.keys.length=t.len
  |nil=>rfl
  |cons _ _ _ _ _ _ _ _ nx=>by simp[keys,len,keys_len nx]
/-- the i-th one -/
def at':NT→Nat→NT
  |t,0=>t
  |nil,_+1=>nil
  |cons _ _ _ _ _ _ _ _ nx,i+1=>nx.at' i
end NT
/-- the trees stand in memory -/
def NH(h:Heap):NT→Prop
  |.nil=>True
  |.cons k _ _ at' _ va vc sub nx=>k<256∧Recs uA 2 h va at'∧at'.length≤4096∧Sl h 6 vc sub.len sub.cells∧sub.len≤4096∧NH h sub∧NH h nx
theorem NH.fr{h h':Heap}(f:Fr [] h h'):∀{t:NT},NH h t→NH h' t
  |.nil,_=>trivial
  |.cons _ _ _ _ _ _ _ _ _,⟨a,b,c,d,e,g,i⟩=>⟨a,b.fr f,c,d.fr f,e,NH.fr f g,NH.fr f i⟩
set_option maxRecDepth 4000
namespace NT
theorem split:∀(t:NT)(i:Nat),i<t.len→∃k tg ky at' tx va vc sub nx,t.at' i=.cons k tg ky at' tx va vc sub nx∧t.cells.drop (i*6)=[.int .u8 ((k:Nat):Int),.str tg,.str ky,va,.str tx,vc]++nx.cells∧t.at' (i+1)=nx∧t.keys.drop i=ky::nx.keys∧t.keys[i]? =some ky∧nx.len+(i+1)=t.len
  |.nil,_,h=>by cases h
  |.cons k tg ky at' tx va vc sub nx,0,_=>⟨k,tg,ky,at',tx,va,vc,sub,nx,rfl,rfl,by cases nx<;>rfl,rfl,rfl,rfl⟩
  |.cons _ _ _ _ _ _ _ _ nx,i+1,h=>by
    obtain⟨k,tg,ky,at',tx,va,vc,sub,n,e1,e2,e3,e4,e5,e6⟩:=split nx i (by simp[len]at h;omega);refine⟨k,tg,ky,at',tx,va,vc,sub,n,e1,?_,e3,e4,?_,by simp only[len];omega⟩
    ·rw[show(i+1) *6=6+i*6 by omega,←List.drop_drop];exact e2
    ·simpa[keys]using e5
theorem at_end:∀(t:NT)(i:Nat),t.len≤i→t.at' i=.nil
  |.nil,0,_=>rfl
  |.nil,_+1,_=>rfl
  |.cons _ _ _ _ _ _ _ _ nx,0,h=>by simp[len]at h
  |.cons _ _ _ _ _ _ _ _ nx,i+1,h=>at_end nx i (by simp[len]at h;omega)
end NT
theorem NH.at'{h:Heap}:∀{t:NT}(i:Nat),NH h t→NH h (t.at' i)
  |.nil,0,_=>trivial
  |.nil,_+1,_=>trivial
  |.cons _ _ _ _ _ _ _ _ _,0,a=>a
  |.cons _ _ _ _ _ _ _ _ _,i+1,⟨_,_,_,_,_,_,g⟩=>NH.at' i g
/-- six cells -/
def At6(h:Heap)(b o:Nat)(x0 x1 x2 x3 x4 x5:V):Prop:=ab h b o=some x0∧ab h b (o+1)=some x1∧ab h b (o+2)=some x2∧ab h b (o+3)=some x3∧ab h b (o+4)=some x4∧ab h b (o+5)=some x5∧ak h b o 6=some [x0,x1,x2,x3,x4,x5]
theorem _root_.Go.Ev.Sl.ix6{h:Heap}{v:V}{n:Nat}{cs:List V}(a:Sl h 6 v n cs){i:Nat}(hi:i<n){x0 x1 x2 x3 x4 x5:V}{r:List V}(e:cs.drop (i*6)=[x0,x1,x2,x3,x4,x5]++r):
    ∃b o,aP (.ixs 6) [v,.int .i64 (i:Int)]=some (.ptr b o)∧At6 h b o x0 x1 x2 x3 x4 x5:=by
  obtain⟨b,o,e1,e2,e3⟩:=Sl.ix a .i64 (i:Int) (by omega) (by omega);rw[Int.toNat_natCast]at e2 e3;rw[e]at e3;have g:∀j,cs[i*6+j]? =([x0,x1,x2,x3,x4,x5]++r)[j]? :=fun j=>by rw[←e,List.getElem?_drop]
  refine⟨b,o,e1,?_,?_,?_,?_,?_,?_,e3⟩
  ·have:=e2 0 (by omega);rw[g]at this;exact this
  ·have:=e2 1 (by omega);rw[g]at this;exact this
  ·have:=e2 2 (by omega);rw[g]at this;exact this
  ·have:=e2 3 (by omega);rw[g]at this;exact this
  ·have:=e2 4 (by omega);rw[g]at this;exact this
  ·have:=e2 5 (by omega);rw[g]at this;exact this
theorem _root_.Go.Ev.Own.at6{h:Heap}{b:Nat}{x0 x1 x2 x3 x4 x5:V}(o:Own h b [x0,x1,x2,x3,x4,x5]):At6 h b 0 x0 x1 x2 x3 x4 x5:=⟨o.ld1 0,o.ld1 1,o.ld1 2,o.ld1 3,o.ld1 4,o.ld1 5,by rw[o.ld];rfl⟩
/-- a node's key is that of another -/
theorem pu{h:Heap}{x0 x1 x3 x4 x5:V}{ky k0:Str}{bk:Nat}(w:WF h)(hk:∀h',Fr [] h h'→ab h' bk 2=some (.str k0))(ones:av [x0,x1,.str ky,x3,x4,x5]=true):
    au go 438 [.agg [x0,x1,.str ky,x3,x4,x5],.ptr bk 0] h fun u h'=>u=.bool (ky==k0)∧Fr [] h h':=by
  obtain⟨h1,e_h1⟩:∃h1,h1=halloc h [x0,x1,.str ky,x3,x4,x5]:=⟨_,rfl⟩;have F_h1:Fr [] h h1:=e_h1▸Fr.halloc w _;have o_h1:Own h1 h.next [x0,x1,.str ky,x3,x4,x5]:=e_h1▸Own.new w _;have l2:ab h1 h.next 2=some (.str ky):=o_h1.ld1 2;refine af ?_;simp(maxSteps:=1000000) (disch:=omega) only[evs,↓reduceIte,Nat.reduceEqDiff,Nat.reduceAdd,Nat.reduceMul,Nat.reduceLeDiff,Nat.reduceLT,Int.reduceNeg,DF,eff,Nat.reduceSub,aa,←e_h1,l2,hk h1 F_h1,aA];exact F_h1
theorem rW{h:Heap}{u:V}{t:NT}{i bk:Nat}{k0:Str}(w:WF h)(a:Sl h 6 u i (t.cells.take (i*6)))(hi:i≤t.len)(hn:i≤4096)(ones:av t.cells=true)(hk:∀h',Fr [] h h'→ab h' bk 2=some (.str k0)):
    au go 437 [u,.func (.func 438) [] [.ptr bk 0]] h fun z h'=>z=.bool ((t.keys.take i).any (· ==k0))∧Fr [] h h':=by
  refine af ?_;simp(maxSteps:=1000000) (disch:=omega) only[evs,↓reduceIte,Nat.reduceEqDiff,Nat.reduceAdd,Nat.reduceMul,Nat.reduceLeDiff,Nat.reduceLT,Int.reduceNeg,DF,eff,Nat.reduceSub,aa];refine ae (?_:au go 492 _ _ (fun z h'=>∃r:Int,z=.int .i64 r∧(decide (0≤r)=(t.keys.take i).any (· ==k0))∧Fr [] h h')) ?_
  ·refine af ?_;simp(maxSteps:=1000000) (disch:=omega) only[evs,↓reduceIte,Nat.reduceEqDiff,Nat.reduceAdd,Nat.reduceMul,Nat.reduceLeDiff,Nat.reduceLT,Int.reduceNeg,DF,eff,Nat.reduceSub,aa,a.len];refine aQ (fun k env hh=>Fr [] h hh∧∃(j:Nat),env.get 8=some (.int .i64 j)∧env.get 7=some (.int .i64 i)∧env.get 0=some u∧env.get 1=some (.func (.func 438) [] [.ptr bk 0])∧
       j≤i∧((t.keys.take i).drop j).any (· ==k0)=(t.keys.take i).any (· ==k0)∧k=i-j) i (by omega) ?_ ?_
   ·exact⟨Fr.refl w,0,(by simp[T.get_set]),(by simp[T.get_set]),(by simp[T.get_set]),(by simp[T.get_set]),by omega,rfl,rfl⟩
   ·rintro k env hh ⟨F,j,g8,g7,g0,g1,hj,e,rfl⟩;by_cases hlt:j<i
    ·obtain⟨kd,tg,ky,at',tx,va,vc,sub,nx,e1,e2,e3,e4,e5,_⟩:=t.split j (by omega);have q:(t.cells.take (i*6)).drop (j*6)=[.int .u8 (kd:Int),.str tg,.str ky,va,.str tx,vc]++nx.cells.take (i*6-j*6-6):=by
       rw[List.drop_take,e2,show i*6-j*6=([.int .u8 (kd:Int),.str tg,.str ky,va,.str tx,vc]:List V).length+(i*6-j*6-6) by simp;omega,List.take_length_add_append];simp
     obtain⟨b,o,p1,p2⟩:=(a.fr F).ix6 hlt q;have on:av [.int .u8 (kd:Int),.str tg,.str ky,va,.str tx,vc]=true:=by
       have:=jB (j*6) ones;rw[e2,aY]at this;exact(Bool.and_eq_true _ _▸this).1
     have ek:(t.keys.take i)[j]? =some ky:=by rw[List.getElem?_take,if_pos hlt];exact e5
     rw[bq ek,List.any_cons]at e;simp(maxSteps:=1000000) (disch:=omega) only[evs,↓reduceIte,Nat.reduceEqDiff,Nat.reduceAdd,Nat.reduceMul,Nat.reduceLeDiff,Nat.reduceLT,Int.reduceNeg,DF,eff,Nat.reduceSub,aa,g8,g7,g0,g1,show(j:Int)<(i:Int) by omega,p1,p2.2.2.2.2.2.2];refine ae (pu F.wf (fun h' f=>hk h' (F.then f)) on) ?_;rintro _ h1 ⟨rfl,F1⟩;cases c:ky==k0
     ·simp(maxSteps:=1000000) (disch:=omega) only[evs,↓reduceIte,Nat.reduceEqDiff,Nat.reduceAdd,Nat.reduceMul,Nat.reduceLeDiff,Nat.reduceLT,Int.reduceNeg,DF,eff,Nat.reduceSub,aa,c,g8,g7,g0,g1];rw[c]at e;refine rqn ⟨i-(j+1),by omega,F.then F1,j+1,(by simp[T.get_set]),(by simp[T.get_set,g7]),(by simp[T.get_set,g0]),(by simp[T.get_set,g1]),by omega,by simpa using e,rfl⟩
      done
     ·simp(maxSteps:=1000000) (disch:=omega) only[evs,↓reduceIte,Nat.reduceEqDiff,Nat.reduceAdd,Nat.reduceMul,Nat.reduceLeDiff,Nat.reduceLT,Int.reduceNeg,DF,eff,Nat.reduceSub,aa,c,g8,g7,g0,g1];rw[c]at e;exact⟨j,rfl,by rw[←e];simp,F.then F1⟩
    ·simp(maxSteps:=1000000) (disch:=omega) only[evs,↓reduceIte,Nat.reduceEqDiff,Nat.reduceAdd,Nat.reduceMul,Nat.reduceLeDiff,Nat.reduceLT,Int.reduceNeg,DF,eff,Nat.reduceSub,aa,g8,g7,g0,g1,show¬(j:Int)<(i:Int) by omega];rw[List.drop_of_length_le (by simp;omega)]at e;exact⟨-1,rfl,by rw[←e];rfl,F⟩
  ·rintro _ h1 ⟨r,rfl,e,F⟩;simp(maxSteps:=1000000) (disch:=omega) only[evs,↓reduceIte,Nat.reduceEqDiff,Nat.reduceAdd,Nat.reduceMul,Nat.reduceLeDiff,Nat.reduceLT,Int.reduceNeg,DF,eff,Nat.reduceSub,aa];exact⟨by rw[e],F⟩
set_option maxRecDepth 4000
def leS(a b:Str):Bool:=Op.bytesLess a b||a==b
theorem e9(a b:Str):aP (.sb .leq) [.str a,.str b]=some (.bool (leS a b)):=rfl
def cy(p:Option Str)(n:Str):Bool:=match p with
  |none=>true
  |some q=> !leS n q
def ce:Option Str→List (Str×Str)→Bool
  |_,[]=>true
  |p,(n,v)::r=>(okN n&&(okT v&&cy p n))&&ce (some n) r
def dX:List Str→List Str→Bool
  |_,[]=>true
  |pr,k::r=>(k==[]|| !(pr.any (· ==k)))&&dX (pr++[k]) r
theorem nA(pr:List Str)(k:Str)(r:List Str):dX pr (k::r)=((k==[]|| !(pr.any (· ==k)))&&dX (pr++[k]) r):=rfl
theorem mP(p:Option Str)(a:Str×Str)(r:List (Str×Str)):ce p (a::r)=((okN a.1&&(okT a.2&&cy p a.1))&&ce (some a.1) r):=rfl
def ep(k:Nat)(tg ky:Str)(at':List (Str×Str))(tx:Str)(sub:NT):Bool:=
  if k=2 then okT tx&&(tg==[]&&(ky==[]&&(decide (at'.length=0)&&decide (sub.len=0))))
  else decide (k=1)&&(okN tg&&((ky==[]||okN ky)&&(tx==[]&&(decide (at'.length≤8)&&(decide (sub.len≤16)&&(ce none at'&&dX [] sub.keys))))))
def jx(at':List (Str×Str))(i:Nat):Option Str:=if i=0 then none else(at'[i-1]?).map (·.1)
theorem pz{at':List (Str×Str)}{i:Nat}{a:Str×Str}(h:at'[i]? =some a):jx at' (i+1)=some a.1:=by simp[jx,h]
theorem xJ{h:Heap}{b o:Nat}{x0 x1 x2 x3 x4 vc:V}{sub:NT}{env:T V}{R:V→Heap→Prop}(w:WF h)(hA:∀h',Fr [] h h'→At6 h' b o x0 x1 x2 x3 x4 vc)
    (rc:Sl h 6 vc sub.len sub.cells) (nc:sub.len≤4096) (ones:av sub.cells=true) (g0:env.get 0=some (.ptr b o))
    (k:∀h',Fr [] h h'→R (.bool (dX [] sub.keys)) h'):W go alC env h (mV [.t 2] R):=by
  have q5:=(hA h (Fr.refl w)).2.2.2.2.2.1;simp(maxSteps:=1000000) (disch:=omega) only[evs,↓reduceIte,Nat.reduceEqDiff,Nat.reduceAdd,Nat.reduceMul,Nat.reduceLeDiff,Nat.reduceLT,Int.reduceNeg,DF,eff,Nat.reduceSub,aa,alC,g0,q5,rc.len];refine aQ (fun n env hh=>Fr [] h hh∧∃(i:Nat),env.get 142=some (.int .i64 i)∧env.get 141=some (.int .i64 sub.len)∧env.get 140=some vc∧env.get 0=some (.ptr b o)∧
      i≤sub.len∧dX (sub.keys.take i) (sub.keys.drop i)=dX [] sub.keys∧n=sub.len-i) sub.len (by omega) ?_ ?_
  ·exact⟨Fr.refl w,0,(by simp[T.get_set]),(by simp[T.get_set]),(by simp[T.get_set]),(by simp[T.get_set,g0]),by omega,rfl,rfl⟩
  ·rintro n env hh ⟨F,i,g142,g141,g140,g0,hi,e,rfl⟩;by_cases hlt:i<sub.len
   ·obtain⟨kd,tg,ky,at',tx,va,vc',sb,nx,e1,e2,e3,e4,e5,_⟩:=sub.split i hlt;obtain⟨b',o',p1,p2⟩:=(rc.fr F).ix6 hlt e2;have on:av [.int .u8 (kd:Int),.str tg,.str ky,va,.str tx,vc']=true:=by
      have:=jB (i*6) ones;rw[e2,aY]at this;exact(Bool.and_eq_true _ _▸this).1
    have hlt':(i:Int)<sub.len:=by omega
    rw[e4]at e;rw[nA]at e;have ek:(sub.keys.take i)++[ky]=sub.keys.take (i+1):=by
      rw[List.take_add_one,e5];rfl
    have ed:nx.keys=sub.keys.drop (i+1):=by
      rw[←List.drop_drop (i:=1),e4];rfl
    rw[ek,ed]at e;obtain⟨h1,e_h1⟩:∃h1,h1=halloc hh [.int .u8 0,.str [],.str [],.nils,.str [],.nils]:=⟨_,rfl⟩;have F_h1:Fr [] hh h1:=e_h1▸Fr.halloc F.wf _;have o_h1:Own h1 hh.next [.int .u8 0,.str [],.str [],.nils,.str [],.nils]:=e_h1▸Own.new F.wf _;simp(maxSteps:=1000000) (disch:=omega) only[evs,↓reduceIte,Nat.reduceEqDiff,Nat.reduceAdd,Nat.reduceMul,Nat.reduceLeDiff,Nat.reduceLT,Int.reduceNeg,DF,eff,Nat.reduceSub,aa,g142,g141,g140,g0,hlt',p1,p2.2.2.2.2.2.2,←e_h1];refine ao (c':=[.int .u8 (kd:Int),.str tg,.str ky,va,.str tx,vc']) F_h1.wf o_h1 rfl on rfl ?_;rintro h2 o2 F2 n2;have F02:Fr [] hh h2:=F_h1.fresh F2 F.wf (Nat.le_refl _);have q2:ab h2 hh.next 2=some (.str ky):=o2.ld1 2;have q5:=(hA h2 (F.then F02)).2.2.2.2.2.1;cases c:ky==[]
    ·obtain⟨u,s1,s2⟩:=(rc.fr (F.then F02)).upto (by omega) (Sl.ne (rc.fr (F.then F02)) (by omega)) .i64 (i:Int) (by omega) (by omega);rw[Int.toNat_natCast]at s2;simp(maxSteps:=1000000) (disch:=omega) only[evs,↓reduceIte,Nat.reduceEqDiff,Nat.reduceAdd,Nat.reduceMul,Nat.reduceLeDiff,Nat.reduceLT,Int.reduceNeg,DF,eff,Nat.reduceSub,aa,g142,g141,g140,g0,q2,bn,c,q5,s1];refine ae (rW F02.wf s2 (by omega) (by omega) ones (fun h' f=>(f.get o2).ld1 2)) ?_;rintro _ h3 ⟨rfl,F3⟩;cases c2:(sub.keys.take i).any (· ==ky)
     ·simp(maxSteps:=1000000) (disch:=omega) only[evs,↓reduceIte,Nat.reduceEqDiff,Nat.reduceAdd,Nat.reduceMul,Nat.reduceLeDiff,Nat.reduceLT,Int.reduceNeg,DF,eff,Nat.reduceSub,aa,g142,g141,g140,g0];rw[c,c2]at e;refine rqn ⟨sub.len-(i+1),by omega,(F.then F02).then F3,i+1,(by simp[T.get_set]),(by simp[T.get_set,g141]),(by simp[T.get_set,g140]),(by simp[T.get_set,g0]),by omega,by simpa using e,rfl⟩
      done
     ·simp(maxSteps:=1000000) (disch:=omega) only[evs,↓reduceIte,Nat.reduceEqDiff,Nat.reduceAdd,Nat.reduceMul,Nat.reduceLeDiff,Nat.reduceLT,Int.reduceNeg,DF,eff,Nat.reduceSub,aa,g142,g141,g140,g0];have:=k _ ((F.then F02).then F3);rw[←e,c,c2]at this;simpa using this
    ·simp(maxSteps:=1000000) (disch:=omega) only[evs,↓reduceIte,Nat.reduceEqDiff,Nat.reduceAdd,Nat.reduceMul,Nat.reduceLeDiff,Nat.reduceLT,Int.reduceNeg,DF,eff,Nat.reduceSub,aa,g142,g141,g140,g0,q2,bn,c];rw[c]at e;refine rqn ⟨sub.len-(i+1),by omega,F.then F02,i+1,(by simp[T.get_set]),(by simp[T.get_set,g141]),(by simp[T.get_set,g140]),(by simp[T.get_set,g0]),by omega,by simpa using e,rfl⟩
     done
   ·simp(maxSteps:=1000000) (disch:=omega) only[evs,↓reduceIte,Nat.reduceEqDiff,Nat.reduceAdd,Nat.reduceMul,Nat.reduceLeDiff,Nat.reduceLT,Int.reduceNeg,DF,eff,Nat.reduceSub,aa,g142,g141,g140,g0,show¬(i:Int)<sub.len by omega];rw[List.drop_of_length_le (by rw[NT.keys_len];omega)]at e;have:=k _ F;rw[←e]at this;exact this
theorem uD{h:Heap}{b o:Nat}{x0 x1 x2 va x4 vc:V}{at':List (Str×Str)}{sub:NT}{env:T V}{R:V→Heap→Prop}(w:WF h)(hA:∀h',Fr [] h h'→At6 h' b o x0 x1 x2 va x4 vc)
    (ra:Recs uA 2 h va at') (na:at'.length≤4096) (rc:Sl h 6 vc sub.len sub.cells) (nc:sub.len≤4096) (ones:av sub.cells=true) (g0:env.get 0=some (.ptr b o))
    (k:∀h',Fr [] h h'→R (.bool (ce none at'&&dX [] sub.keys)) h'):W go alA env h (mV [.t 2] R):=by
  have q3:=(hA h (Fr.refl w)).2.2.2.1;simp(maxSteps:=1000000) (disch:=omega) only[evs,↓reduceIte,Nat.reduceEqDiff,Nat.reduceAdd,Nat.reduceMul,Nat.reduceLeDiff,Nat.reduceLT,Int.reduceNeg,DF,eff,Nat.reduceSub,aa,alA,g0,q3,ra.len];refine aQ (fun n env hh=>Fr [] h hh∧∃(i:Nat),env.get 103=some (.int .i64 i)∧env.get 102=some (.int .i64 at'.length)∧env.get 101=some va∧env.get 0=some (.ptr b o)∧
      i≤at'.length∧ce (jx at' i) (at'.drop i)=ce none at'∧n=at'.length-i) at'.length (by omega) ?_ ?_
  ·exact⟨Fr.refl w,0,(by simp[T.get_set]),(by simp[T.get_set]),(by simp[T.get_set]),(by simp[T.get_set,g0]),by omega,rfl,rfl⟩
  ·rintro n env hh ⟨F,i,g103,g102,g101,g0,hi,e,rfl⟩;by_cases hlt:i<at'.length
   ·have hlt':(i:Int)<at'.length:=by omega
    obtain⟨b',o',a,p1,p2,p3,p4⟩:=(ra.fr F).ix oD .i64 (i:Int) (by omega) hlt';rw[Int.toNat_natCast]at p4;rw[bq p4,mP]at e;have en:=pz p4;obtain⟨h1,e_h1⟩:∃h1,h1=halloc hh [.str [],.str []]:=⟨_,rfl⟩;have F_h1:Fr [] hh h1:=e_h1▸Fr.halloc F.wf _;have o_h1:Own h1 hh.next [.str [],.str []]:=e_h1▸Own.new F.wf _;simp(maxSteps:=1000000) (disch:=omega) only[evs,↓reduceIte,Nat.reduceEqDiff,Nat.reduceAdd,Nat.reduceMul,Nat.reduceLeDiff,Nat.reduceLT,Int.reduceNeg,DF,eff,Nat.reduceSub,aa,g103,g102,g101,g0,hlt',p1,p3,←e_h1];refine sts (c':=[.str a.1,.str a.2]) F_h1.wf o_h1 ?_;rintro h2 o2 F2 n2;have F02:Fr [] hh h2:=F_h1.fresh F2 F.wf (Nat.le_refl _);have q0:ab h2 hh.next 0=some (.str a.1):=o2.ld1 0;have q1:ab h2 hh.next 1=some (.str a.2):=o2.ld1 1;simp(maxSteps:=1000000) (disch:=omega) only[evs,↓reduceIte,Nat.reduceEqDiff,Nat.reduceAdd,Nat.reduceMul,Nat.reduceLeDiff,Nat.reduceLT,Int.reduceNeg,DF,eff,Nat.reduceSub,aa,g103,g102,g101,g0,q0];refine ae jC ?_;rintro _ _ ⟨rfl,rfl⟩;cases c1:okN a.1
    ·simp(maxSteps:=1000000) (disch:=omega) only[evs,↓reduceIte,Nat.reduceEqDiff,Nat.reduceAdd,Nat.reduceMul,Nat.reduceLeDiff,Nat.reduceLT,Int.reduceNeg,DF,eff,Nat.reduceSub,aa,c1,g103,g102,g101,g0,q0];have:=k _ (F.then F02);rw[←e,c1]at this;simpa using this
    simp(maxSteps:=1000000) (disch:=omega) only[evs,↓reduceIte,Nat.reduceEqDiff,Nat.reduceAdd,Nat.reduceMul,Nat.reduceLeDiff,Nat.reduceLT,Int.reduceNeg,DF,eff,Nat.reduceSub,aa,c1,g103,g102,g101,g0,q1];refine ae (nt F02.wf) ?_;rintro _ h3 ⟨rfl,F3⟩;have F03:=(F.then F02).then F3;have q0':ab h3 hh.next 0=some (.str a.1):=(F3.get o2).ld1 0;cases c2:okT a.2
    ·simp(maxSteps:=1000000) (disch:=omega) only[evs,↓reduceIte,Nat.reduceEqDiff,Nat.reduceAdd,Nat.reduceMul,Nat.reduceLeDiff,Nat.reduceLT,Int.reduceNeg,DF,eff,Nat.reduceSub,aa,c2,g103,g102,g101,g0,q0,q1];have:=k _ F03;rw[←e,c1,c2]at this;simpa using this
    have fin:cy (jx at' i) a.1=true→ce (jx at' (i+1)) (at'.drop (i+1))=ce none at':=fun c=>by
      rw[←e,c1,c2,c,en];rfl
    by_cases c3:i=0
    ·simp(maxSteps:=1000000) (disch:=omega) only[evs,↓reduceIte,Nat.reduceEqDiff,Nat.reduceAdd,Nat.reduceMul,Nat.reduceLeDiff,Nat.reduceLT,Int.reduceNeg,DF,eff,Nat.reduceSub,aa,c2,g103,g102,g101,g0,q0,q1,show¬(0:Int)<(i:Int) by omega];refine rqn ⟨at'.length-(i+1),by omega,F03,i+1,(by simp[T.get_set]),(by simp[T.get_set,g102]),(by simp[T.get_set,g101]),(by simp[T.get_set,g0]),by omega,fin (by rw[c3];rfl),rfl⟩
     done
    ·obtain⟨b2,o2',a2,r1,r2,r3,r4⟩:=(ra.fr F03).ix oD .i64 ((i:Int)-1) (by omega) (by omega);have r4':at'[i-1]? =some a2:=by rw[←r4];congr 1;omega
     have r2':ab h3 b2 o2'=some (.str a2.1):=r2 0 (by omega);have q3:=(hA h3 F03).2.2.2.1;have pe:jx at' i=some a2.1:=by simp[jx,c3,r4']
     cases c4:leS a.1 a2.1
     ·simp(maxSteps:=1000000) (disch:=omega) only[evs,↓reduceIte,Nat.reduceEqDiff,Nat.reduceAdd,Nat.reduceMul,Nat.reduceLeDiff,Nat.reduceLT,Int.reduceNeg,DF,eff,Nat.reduceSub,aa,c2,c4,g103,g102,g101,g0,q0,q1,q0',q3,r1,r2',e9,show(0:Int)<(i:Int) by omega];refine rqn ⟨at'.length-(i+1),by omega,F03,i+1,(by simp[T.get_set]),(by simp[T.get_set,g102]),(by simp[T.get_set,g101]),(by simp[T.get_set,g0]),by omega,fin (by rw[pe];simp[cy,c4]),rfl⟩
      done
     ·simp(maxSteps:=1000000) (disch:=omega) only[evs,↓reduceIte,Nat.reduceEqDiff,Nat.reduceAdd,Nat.reduceMul,Nat.reduceLeDiff,Nat.reduceLT,Int.reduceNeg,DF,eff,Nat.reduceSub,aa,c2,c4,g103,g102,g101,g0,q0,q1,q0',q3,r1,r2',e9,show(0:Int)<(i:Int) by omega];have:=k _ F03;rw[←e,pe,c1,c2]at this;simpa[cy,c4]using this
   ·simp(maxSteps:=1000000) (disch:=omega) only[evs,↓reduceIte,Nat.reduceEqDiff,Nat.reduceAdd,Nat.reduceMul,Nat.reduceLeDiff,Nat.reduceLT,Int.reduceNeg,DF,eff,Nat.reduceSub,aa,g103,g102,g101,g0,show¬(i:Int)<at'.length by omega];rw[List.drop_of_length_le (by omega)]at e;refine xJ F.wf (fun h' f=>hA h' (F.then f)) (rc.fr F) nc ones (by simp[T.get_set,g0]) fun h' f=>?_;have:=k h' (F.then f);rw[←e]at this;simpa[ce]using this
theorem uB{h:Heap}{b o k:Nat}{tg ky tx:Str}{at':List (Str×Str)}{va vc:V}{sub:NT}(w:WF h)(hA:∀h',Fr [] h h'→At6 h' b o (.int .u8 (k:Int)) (.str tg) (.str ky) va (.str tx) vc)
    (ra:Recs uA 2 h va at') (na:at'.length≤4096) (rc:Sl h 6 vc sub.len sub.cells) (nc:sub.len≤4096) (ones:av sub.cells=true):
    au go 389 [.ptr b o] h fun u h'=>u=.bool (ep k tg ky at' tx sub)∧Fr [] h h':=by
  have q0:ab h b o=some (.int .u8 (k:Int)):=(hA h (Fr.refl w)).1;by_cases c0:k=2
  ·have q4:ab h b (o+4)=some (.str tx):=(hA h (Fr.refl w)).2.2.2.2.1;unfold ep;rw[if_pos c0];refine af ?_;simp(maxSteps:=1000000) (disch:=omega) only[evs,↓reduceIte,Nat.reduceEqDiff,Nat.reduceAdd,Nat.reduceMul,Nat.reduceLeDiff,Nat.reduceLT,Int.reduceNeg,DF,eff,Nat.reduceSub,aa,fn253x,q0,show(k:Int)=2 by omega,q4];refine ae (nt w) ?_;rintro _ h1 ⟨rfl,F1⟩;obtain⟨_,q1,q2,q3,_,q5,_⟩:=hA h1 F1;have l1:=(ra.fr F1).len;have l2:=(rc.fr F1).len;cases c1:okT tx
   ·simp(maxSteps:=1000000) (disch:=omega) only[evs,↓reduceIte,Nat.reduceEqDiff,Nat.reduceAdd,Nat.reduceMul,Nat.reduceLeDiff,Nat.reduceLT,Int.reduceNeg,DF,eff,Nat.reduceSub,aa,c1];exact⟨rfl,F1⟩
   cases c2:tg==[]
   ·simp(maxSteps:=1000000) (disch:=omega) only[evs,↓reduceIte,Nat.reduceEqDiff,Nat.reduceAdd,Nat.reduceMul,Nat.reduceLeDiff,Nat.reduceLT,Int.reduceNeg,DF,eff,Nat.reduceSub,aa,c1,q1,aA,c2];exact⟨rfl,F1⟩
   cases c3:ky==[]
   ·simp(maxSteps:=1000000) (disch:=omega) only[evs,↓reduceIte,Nat.reduceEqDiff,Nat.reduceAdd,Nat.reduceMul,Nat.reduceLeDiff,Nat.reduceLT,Int.reduceNeg,DF,eff,Nat.reduceSub,aa,c1,q1,aA,c2,q2,c3];exact⟨rfl,F1⟩
   by_cases c4:at'.length=0
   ·by_cases c5:sub.len=0
    ·simp(maxSteps:=1000000) (disch:=omega) only[evs,↓reduceIte,Nat.reduceEqDiff,Nat.reduceAdd,Nat.reduceMul,Nat.reduceLeDiff,Nat.reduceLT,Int.reduceNeg,DF,eff,Nat.reduceSub,aa,c1,q1,aA,c2,q2,c3,q3,l1,show((at'.length:Nat):Int)=0 by omega,q5,l2,show((sub.len:Nat):Int)=0 by omega];exact⟨by simp[c4,c5],F1⟩
    ·simp(maxSteps:=1000000) (disch:=omega) only[evs,↓reduceIte,Nat.reduceEqDiff,Nat.reduceAdd,Nat.reduceMul,Nat.reduceLeDiff,Nat.reduceLT,Int.reduceNeg,DF,eff,Nat.reduceSub,aa,c1,q1,aA,c2,q2,c3,q3,l1,show((at'.length:Nat):Int)=0 by omega,q5,l2,show¬((sub.len:Nat):Int)=0 by omega];exact⟨by simp[c5],F1⟩
   ·simp(maxSteps:=1000000) (disch:=omega) only[evs,↓reduceIte,Nat.reduceEqDiff,Nat.reduceAdd,Nat.reduceMul,Nat.reduceLeDiff,Nat.reduceLT,Int.reduceNeg,DF,eff,Nat.reduceSub,aa,c1,q1,aA,c2,q2,c3,q3,l1,show¬((at'.length:Nat):Int)=0 by omega];exact⟨by simp[c4],F1⟩
  ·unfold ep;rw[if_neg c0];by_cases c1:k=1
   ·obtain⟨_,q1,q2,q3,q4,q5,_⟩:=hA h (Fr.refl w);have l1:=ra.len;have l2:=rc.len;refine af ?_;simp(maxSteps:=1000000) (disch:=omega) only[evs,↓reduceIte,Nat.reduceEqDiff,Nat.reduceAdd,Nat.reduceMul,Nat.reduceLeDiff,Nat.reduceLT,Int.reduceNeg,DF,eff,Nat.reduceSub,aa,fn253x,q0,show¬(k:Int)=2 by omega,show(k:Int)=1 by omega,q1];refine ae jC ?_;rintro _ _ ⟨rfl,rfl⟩;cases c2:okN tg
    ·simp(maxSteps:=1000000) (disch:=omega) only[evs,↓reduceIte,Nat.reduceEqDiff,Nat.reduceAdd,Nat.reduceMul,Nat.reduceLeDiff,Nat.reduceLT,Int.reduceNeg,DF,eff,Nat.reduceSub,aa,c2];exact⟨by simp,Fr.refl w⟩
    cases ck:ky==[]
    ·simp(maxSteps:=1000000) (disch:=omega) only[evs,↓reduceIte,Nat.reduceEqDiff,Nat.reduceAdd,Nat.reduceMul,Nat.reduceLeDiff,Nat.reduceLT,Int.reduceNeg,DF,eff,Nat.reduceSub,aa,c2,q2,bn,ck];refine ae jC ?_;rintro _ _ ⟨rfl,rfl⟩;cases cn:okN ky
     ·simp(maxSteps:=1000000) (disch:=omega) only[evs,↓reduceIte,Nat.reduceEqDiff,Nat.reduceAdd,Nat.reduceMul,Nat.reduceLeDiff,Nat.reduceLT,Int.reduceNeg,DF,eff,Nat.reduceSub,aa,c2,q2,bn,ck,cn];exact⟨by simp,Fr.refl w⟩
     cases ct:tx==[]
     ·simp(maxSteps:=1000000) (disch:=omega) only[evs,↓reduceIte,Nat.reduceEqDiff,Nat.reduceAdd,Nat.reduceMul,Nat.reduceLeDiff,Nat.reduceLT,Int.reduceNeg,DF,eff,Nat.reduceSub,aa,c2,q2,bn,ck,cn,q4,ct];exact⟨by simp,Fr.refl w⟩
     by_cases ca:at'.length≤8
     ·by_cases cs:sub.len≤16
      ·simp(maxSteps:=1000000) (disch:=omega) only[evs,↓reduceIte,Nat.reduceEqDiff,Nat.reduceAdd,Nat.reduceMul,Nat.reduceLeDiff,Nat.reduceLT,Int.reduceNeg,DF,eff,Nat.reduceSub,aa,c2,q2,bn,ck,cn,q4,ct,q3,l1,show¬(8:Int)<(at'.length:Nat) by omega,q5,l2,show¬(16:Int)<(sub.len:Nat) by omega];refine uD w hA ra na rc nc ones (by simp[T.get_set]) fun h' f=>⟨by simp[c1,ca,cs,ck,cn],f⟩
      ·simp(maxSteps:=1000000) (disch:=omega) only[evs,↓reduceIte,Nat.reduceEqDiff,Nat.reduceAdd,Nat.reduceMul,Nat.reduceLeDiff,Nat.reduceLT,Int.reduceNeg,DF,eff,Nat.reduceSub,aa,c2,q2,bn,ck,cn,q4,ct,q3,l1,show¬(8:Int)<(at'.length:Nat) by omega,q5,l2,show(16:Int)<(sub.len:Nat) by omega];exact⟨by simp[cs],Fr.refl w⟩
     ·simp(maxSteps:=1000000) (disch:=omega) only[evs,↓reduceIte,Nat.reduceEqDiff,Nat.reduceAdd,Nat.reduceMul,Nat.reduceLeDiff,Nat.reduceLT,Int.reduceNeg,DF,eff,Nat.reduceSub,aa,c2,q2,bn,ck,cn,q4,ct,q3,l1,show(8:Int)<(at'.length:Nat) by omega];exact⟨by simp[ca],Fr.refl w⟩
    cases ct:tx==[]
    ·simp(maxSteps:=1000000) (disch:=omega) only[evs,↓reduceIte,Nat.reduceEqDiff,Nat.reduceAdd,Nat.reduceMul,Nat.reduceLeDiff,Nat.reduceLT,Int.reduceNeg,DF,eff,Nat.reduceSub,aa,c2,q2,bn,ck,q4,ct];exact⟨by simp,Fr.refl w⟩
    by_cases ca:at'.length≤8
    ·by_cases cs:sub.len≤16
     ·simp(maxSteps:=1000000) (disch:=omega) only[evs,↓reduceIte,Nat.reduceEqDiff,Nat.reduceAdd,Nat.reduceMul,Nat.reduceLeDiff,Nat.reduceLT,Int.reduceNeg,DF,eff,Nat.reduceSub,aa,c2,q2,bn,ck,q4,ct,q3,l1,show¬(8:Int)<(at'.length:Nat) by omega,q5,l2,show¬(16:Int)<(sub.len:Nat) by omega];refine uD w hA ra na rc nc ones (by simp[T.get_set]) fun h' f=>⟨by simp[c1,ca,cs,ck],f⟩
     ·simp(maxSteps:=1000000) (disch:=omega) only[evs,↓reduceIte,Nat.reduceEqDiff,Nat.reduceAdd,Nat.reduceMul,Nat.reduceLeDiff,Nat.reduceLT,Int.reduceNeg,DF,eff,Nat.reduceSub,aa,c2,q2,bn,ck,q4,ct,q3,l1,show¬(8:Int)<(at'.length:Nat) by omega,q5,l2,show(16:Int)<(sub.len:Nat) by omega];exact⟨by simp[cs],Fr.refl w⟩
    ·simp(maxSteps:=1000000) (disch:=omega) only[evs,↓reduceIte,Nat.reduceEqDiff,Nat.reduceAdd,Nat.reduceMul,Nat.reduceLeDiff,Nat.reduceLT,Int.reduceNeg,DF,eff,Nat.reduceSub,aa,c2,q2,bn,ck,q4,ct,q3,l1,show(8:Int)<(at'.length:Nat) by omega];exact⟨by simp[ca],Fr.refl w⟩
   ·refine af ?_;simp(maxSteps:=1000000) (disch:=omega) only[evs,↓reduceIte,Nat.reduceEqDiff,Nat.reduceAdd,Nat.reduceMul,Nat.reduceLeDiff,Nat.reduceLT,Int.reduceNeg,DF,eff,Nat.reduceSub,aa,fn253x,q0,show¬(k:Int)=2 by omega,show¬(k:Int)=1 by omega];exact⟨by simp[c1],Fr.refl w⟩
theorem NH.ones{h:Heap}:∀{t:NT},NH h t→av t.cells=true
  |.nil,_=>rfl
  |.cons k tg ky _ tx va vc _ nx,⟨_,b,_,d,_,_,g⟩=>by
    show av ([.int .u8 (k:Int),.str tg,.str ky,va,.str tx,vc]++nx.cells)=true;rw[aY,NH.ones g];simp only[aB,aR,Sl.one b,Sl.one d];rfl
namespace NT
def node(k:Nat)(tg ky:Str)(at':List (Str×Str))(tx:Str)(sub:NT)(w:Nat→Nat→Nat×Bool)(l c:Nat):Nat×Bool:=
  if 6<l∨64<c+1∨ep k tg ky at' tx sub=false then(c+1,false)else w (l+1) (c+1)
def walk:NT→Nat→Nat→Nat×Bool
  |nil,_,c=>(c,true)
  |cons k tg ky at' tx _ _ sub nx,l,c=>let r:=node k tg ky at' tx sub sub.walk l c;if r.2=true then nx.walk l r.1 else r
theorem dQ:∀(t:NT)(l c:Nat),c≤64→(t.walk l c).1≤65∧((t.walk l c).2=true→(t.walk l c).1≤64)
  |nil,_,c,h=>⟨by simp[walk];omega,fun _=>h⟩
  |cons k tg ky at' tx _ _ sub nx,l,c,h=>by
    have q:(node k tg ky at' tx sub sub.walk l c).1≤65∧((node k tg ky at' tx sub sub.walk l c).2=true→(node k tg ky at' tx sub sub.walk l c).1≤64):=by
      unfold node;split
      ·exact⟨by simp;omega,fun e=>by cases e⟩
      ·rename_i x;exact dQ sub (l+1) (c+1) (by omega)
    simp only[walk];split
    ·rename_i x;exact dQ nx l _ (q.2 x)
    ·exact q
theorem node_le(k:Nat)(tg ky:Str)(at':List (Str×Str))(tx:Str)(sub:NT)(l c:Nat)(h:c≤64):(node k tg ky at' tx sub sub.walk l c).1≤65∧((node k tg ky at' tx sub sub.walk l c).2=true→(node k tg ky at' tx sub sub.walk l c).1≤64):=by
  unfold node;split
  ·exact⟨by simp;omega,fun e=>by cases e⟩
  ·exact dQ sub (l+1) (c+1) (by omega)
end NT
/-- the function that measures, in memory -/
structure Ms(h0 h:Heap)(bc bd bw:Nat)(c d:Nat):Prop where
  f:Fr [] h0 h
  oc:Own h bc [.int .i64 (c:Int)]
  od:Own h bd [.int .i64 (d:Int)]
  ow:Own h bw [.func (.func 388) [] [.ptr bc 0,.ptr bd 0,.ptr bw 0]]
  dl:d≤7
structure MsB(h0:Heap)(bc bd bw:Nat):Prop where
  w:WF h0
  c:h0.next≤bc
  d:h0.next≤bd
  b:h0.next≤bw
  cd:bc≠bd
  cw:bc≠bw
  dw:bd≠bw
theorem Ms.fr{h0 h h':Heap}{bc bd bw c d:Nat}(m:Ms h0 h bc bd bw c d)(f:Fr [] h h'):Ms h0 h' bc bd bw c d:=⟨m.f.then f,f.get m.oc,f.get m.od,f.get m.ow,m.dl⟩
def vv(h0:Heap)(k:Nat)(tg ky:Str)(at':List (Str×Str))(tx:Str)(va vc:V)(sub:NT):Prop:=
  ∀(h:Heap)(b o bc bd bw l c d:Nat),MsB h0 bc bd bw→Ms h0 h bc bd bw c d→(∀h',Fr [] h0 h'→At6 h' b o (.int .u8 (k:Int)) (.str tg) (.str ky) va (.str tx) vc)→l≤7→c≤64→
    au go 388 [.ptr b o,.int .i64 (l:Int),.ptr bc 0,.ptr bd 0,.ptr bw 0] h fun u h'=>u=.bool (NT.node k tg ky at' tx sub sub.walk l c).2∧∃d',Ms h0 h' bc bd bw (NT.node k tg ky at' tx sub sub.walk l c).1 d'
def AllE(h0:Heap):NT→Prop
  |.nil=>True
  |.cons k tg ky at' tx va vc sub nx=>vv h0 k tg ky at' tx va vc sub∧AllE h0 nx
theorem AllE.at'{h:Heap}:∀{t:NT}(i:Nat),AllE h t→AllE h (t.at' i)
  |.nil,0,_=>trivial
  |.nil,_+1,_=>trivial
  |.cons _ _ _ _ _ _ _ _ _,0,a=>a
  |.cons _ _ _ _ _ _ _ _ _,i+1,⟨_,g⟩=>AllE.at' i g
theorem wc{h0:Heap}{k:Nat}{tg ky:Str}{at':List (Str×Str)}{tx:Str}{va vc:V}{sub:NT}
    (ra:Recs uA 2 h0 va at') (na:at'.length≤4096) (rc:Sl h0 6 vc sub.len sub.cells) (nc:sub.len≤4096) (ns:NH h0 sub) (A:AllE h0 sub):vv h0 k tg ky at' tx va vc sub:=by
  intro h b o bc bd bw l c d B M hA hl hc;have lc:ab h bc 0=some (.int .i64 (c:Int)):=M.oc.ld1 0;refine af ?_;simp(maxSteps:=1000000) (disch:=omega) only[evs,↓reduceIte,Nat.reduceEqDiff,Nat.reduceAdd,Nat.reduceMul,Nat.reduceLeDiff,Nat.reduceLT,Int.reduceNeg,DF,eff,Nat.reduceSub,aa,lc];refine sts (c':=[.int .i64 ((c+1:Nat):Int)]) M.f.wf M.oc ?_;rintro h1 o1 F1 n1;have od1:Own h1 bd [.int .i64 (d:Int)]:=F1.own _ _ (by simpa using B.cd.symm) M.od;have ld:ab h1 bd 0=some (.int .i64 (d:Int)):=od1.ld1 0;simp(maxSteps:=1000000) (disch:=omega) only[evs,↓reduceIte,Nat.reduceEqDiff,Nat.reduceAdd,Nat.reduceMul,Nat.reduceLeDiff,Nat.reduceLT,Int.reduceNeg,DF,eff,Nat.reduceSub,aa,ld];have dl:=M.dl;refine ao (c':=[.int .i64 ((max d l:Nat):Int)]) F1.wf od1 rfl rfl (by rw[show((max d l:Nat):Int)=max (d:Int) (l:Int) by omega];rfl) ?_;rintro h2 o2 F2 n2;have M2:Ms h0 h2 bc bd bw (c+1) (max d l):=by
    refine⟨?_,F2.own _ _ (by simpa using B.cd) o1,o2,F2.own _ _ (by simpa using B.dw.symm) (F1.own _ _ (by simpa using B.cw.symm) M.ow),by omega⟩;exact Fr.trans (Fr.trans M.f F1 B.w (fun x hx=>.inl hx) (fun x hx=>.inr (by simp at hx;subst hx;exact B.c))) F2 B.w (fun x hx=>.inl hx) (fun x hx=>.inr (by simp at hx;subst hx;exact B.d))
  have lc2:ab h2 bc 0=some (.int .i64 ((c+1:Nat):Int)):=M2.oc.ld1 0;by_cases c1:6<l
  ·have e:NT.node k tg ky at' tx sub sub.walk l c=(c+1,false):=if_pos (.inl c1);simp(maxSteps:=1000000) (disch:=omega) only[evs,↓reduceIte,Nat.reduceEqDiff,Nat.reduceAdd,Nat.reduceMul,Nat.reduceLeDiff,Nat.reduceLT,Int.reduceNeg,DF,eff,Nat.reduceSub,aa,show(6:Int)<(l:Int) by omega];rw[e];exact⟨rfl,_,M2⟩
  by_cases c2:64<c+1
  ·have e:NT.node k tg ky at' tx sub sub.walk l c=(c+1,false):=if_pos (.inr (.inl c2));simp(maxSteps:=1000000) (disch:=omega) only[evs,↓reduceIte,Nat.reduceEqDiff,Nat.reduceAdd,Nat.reduceMul,Nat.reduceLeDiff,Nat.reduceLT,Int.reduceNeg,DF,eff,Nat.reduceSub,aa,show¬(6:Int)<(l:Int) by omega,lc2,show(64:Int)<((c+1:Nat):Int) by omega];rw[e];exact⟨rfl,_,M2⟩
  simp(maxSteps:=1000000) (disch:=omega) only[evs,↓reduceIte,Nat.reduceEqDiff,Nat.reduceAdd,Nat.reduceMul,Nat.reduceLeDiff,Nat.reduceLT,Int.reduceNeg,DF,eff,Nat.reduceSub,aa,show¬(6:Int)<(l:Int) by omega,lc2,show¬(64:Int)<((c+1:Nat):Int) by omega];refine ae (uB M2.f.wf (fun h' f=>hA h' (M2.f.then f)) (ra.fr M2.f) na (rc.fr M2.f) nc ns.ones) ?_;rintro _ h3 ⟨rfl,F3⟩;have M3:=M2.fr F3;cases c3:ep k tg ky at' tx sub
  ·have e:NT.node k tg ky at' tx sub sub.walk l c=(c+1,false):=if_pos (.inr (.inr c3));simp(maxSteps:=1000000) (disch:=omega) only[evs,↓reduceIte,Nat.reduceEqDiff,Nat.reduceAdd,Nat.reduceMul,Nat.reduceLeDiff,Nat.reduceLT,Int.reduceNeg,DF,eff,Nat.reduceSub,aa,c3];rw[e];exact⟨rfl,_,M3⟩
  have e:NT.node k tg ky at' tx sub sub.walk l c=sub.walk (l+1) (c+1):=if_neg (by simp[c3];omega);rw[e];have q5:=(hA h3 M3.f).2.2.2.2.2.1;simp(maxSteps:=1000000) (disch:=omega) only[evs,↓reduceIte,Nat.reduceEqDiff,Nat.reduceAdd,Nat.reduceMul,Nat.reduceLeDiff,Nat.reduceLT,Int.reduceNeg,DF,eff,Nat.reduceSub,aa,c3,q5,(rc.fr M3.f).len];refine aQ (fun n env hh=>∃(i c' d':Nat),Ms h0 hh bc bd bw c' d'∧env.get 30=some (.int .i64 i)∧env.get 29=some (.int .i64 sub.len)∧env.get 0=some (.ptr b o)∧env.get 1=some (.int .i64 l)∧env.get 4=some (.ptr bw 0)∧
      i≤sub.len∧c'≤64∧(sub.at' i).walk (l+1) c'=sub.walk (l+1) (c+1)∧n=sub.len-i) sub.len (by omega) ?_ ?_
  ·exact⟨0,c+1,max d l,M3,(by simp[T.get_set]),(by simp[T.get_set]),(by simp[T.get_set]),(by simp[T.get_set]),(by simp[T.get_set]),by omega,by omega,by cases sub<;>rfl,rfl⟩
  ·rintro n env hh ⟨i,c',d',M',g30,g29,g0,g1,g4,hi,hc',e',rfl⟩;by_cases hlt:i<sub.len
   ·obtain⟨kd,tg',ky',at2,tx',va',vc',sb,nx,e1,e2,e3,e4,e5,e6⟩:=sub.split i hlt;have hlt':(i:Int)<sub.len:=by omega
    have a:=A.at' i;rw[e1]at a e';obtain⟨b',o',p1,_⟩:=(rc.fr M'.f).ix6 hlt e2;have hA':∀h',Fr [] h0 h'→At6 h' b' o' (.int .u8 (kd:Int)) (.str tg') (.str ky') va' (.str tx') vc':=fun h' f=>by
      obtain⟨b2,o2,p1',p2'⟩:=(rc.fr f).ix6 hlt e2;rw[p1]at p1';cases p1';exact p2'
    have q5:=(hA hh M'.f).2.2.2.2.2.1;have lw:ab hh bw 0=some (.func (.func 388) [] [.ptr bc 0,.ptr bd 0,.ptr bw 0]):=M'.ow.ld1 0;simp(maxSteps:=1000000) (disch:=omega) only[evs,↓reduceIte,Nat.reduceEqDiff,Nat.reduceAdd,Nat.reduceMul,Nat.reduceLeDiff,Nat.reduceLT,Int.reduceNeg,DF,eff,Nat.reduceSub,aa,g30,g29,g0,g1,g4,hlt',lw,q5,p1];refine ae (a.1 hh b' o' bc bd bw (l+1) c' d' B M' hA' (by omega) hc') ?_;rintro _ h4 ⟨rfl,d4,M4⟩;simp only[NT.walk]at e';have nl:=NT.node_le kd tg' ky' at2 tx' sb (l+1) c' hc';cases c4:(NT.node kd tg' ky' at2 tx' sb sb.walk (l+1) c').2
    ·rw[c4]at e';simp(maxSteps:=1000000) (disch:=omega) only[evs,↓reduceIte,Nat.reduceEqDiff,Nat.reduceAdd,Nat.reduceMul,Nat.reduceLeDiff,Nat.reduceLT,Int.reduceNeg,DF,eff,Nat.reduceSub,aa,c4,g30,g29,g0,g1,g4,lw,q5,(hA h4 M4.f).2.2.2.2.2.1];rw[←e'];exact⟨by simp[c4],d4,by simpa using M4⟩
    ·rw[c4]at e';simp(maxSteps:=1000000) (disch:=omega) only[evs,↓reduceIte,Nat.reduceEqDiff,Nat.reduceAdd,Nat.reduceMul,Nat.reduceLeDiff,Nat.reduceLT,Int.reduceNeg,DF,eff,Nat.reduceSub,aa,c4,g30,g29,g0,g1,g4,lw,q5,(hA h4 M4.f).2.2.2.2.2.1];refine rqn ⟨sub.len-(i+1),by omega,i+1,_,d4,M4,(by simp[T.get_set]),(by simp[T.get_set,g29]),(by simp[T.get_set,g0]),(by simp[T.get_set,g1]),(by simp[T.get_set,g4]),by omega,nl.2 c4,?_,rfl⟩;rw[e3];simpa using e'
   ·simp(maxSteps:=1000000) (disch:=omega) only[evs,↓reduceIte,Nat.reduceEqDiff,Nat.reduceAdd,Nat.reduceMul,Nat.reduceLeDiff,Nat.reduceLT,Int.reduceNeg,DF,eff,Nat.reduceSub,aa,g30,g29,g0,g1,g4,show¬(i:Int)<sub.len by omega];rw[NT.at_end _ _ (by omega)]at e';rw[←e'];exact⟨rfl,d',M'⟩
theorem xI{h:Heap}:∀{t:NT},NH h t→AllE h t
  |.nil,_=>trivial
  |.cons _ _ _ _ _ _ _ _ _,⟨_,b,c,d,e,f,g⟩=>⟨wc b c d e f (xI f),xI g⟩
/-- the number of nodes of a tree, 0 if it is not valid -/
def NT.count(k:Nat)(tg ky:Str)(at':List (Str×Str))(tx:Str)(sub:NT):Nat:=
  if(node k tg ky at' tx sub sub.walk 1 0).2=true then(node k tg ky at' tx sub sub.walk 1 0).1 else 0
theorem pE{h:Heap}{k:Nat}{tg ky:Str}{at':List (Str×Str)}{tx:Str}{va vc:V}{sub:NT}(w:WF h)(n:NH h (.cons k tg ky at' tx va vc sub .nil)):
    au go 317 [.agg [.int .u8 (k:Int),.str tg,.str ky,va,.str tx,vc]] h fun u h'=>∃d:Nat,u=.tup [.int .i64 (NT.count k tg ky at' tx sub:Nat),.int .i64 (d:Int)]∧Fr [] h h':=by
  obtain⟨h1,e_h1⟩:∃h1,h1=halloc h [.int .u8 (k:Int),.str tg,.str ky,va,.str tx,vc]:=⟨_,rfl⟩;have F_h1:Fr [] h h1:=e_h1▸Fr.halloc w _;have o_h1:Own h1 h.next [.int .u8 (k:Int),.str tg,.str ky,va,.str tx,vc]:=e_h1▸Own.new w _;obtain⟨h2,e_h2⟩:∃h2,h2=halloc h1 [.int .i64 0]:=⟨_,rfl⟩;have F_h2:Fr [] h1 h2:=e_h2▸Fr.halloc F_h1.wf _;have o_h2:Own h2 h1.next [.int .i64 0]:=e_h2▸Own.new F_h1.wf _;obtain⟨h3,e_h3⟩:∃h3,h3=halloc h2 [.int .i64 0]:=⟨_,rfl⟩;have F_h3:Fr [] h2 h3:=e_h3▸Fr.halloc F_h2.wf _;have o_h3:Own h3 h2.next [.int .i64 0]:=e_h3▸Own.new F_h2.wf _;obtain⟨h4,e_h4⟩:∃h4,h4=halloc h3 [.nilf]:=⟨_,rfl⟩;have F_h4:Fr [] h3 h4:=e_h4▸Fr.halloc F_h3.wf _;have o_h4:Own h4 h3.next [.nilf]:=e_h4▸Own.new F_h3.wf _;have n1:h1.next=h.next+1:=by rw[e_h1];rfl
  have n2:h2.next=h1.next+1:=by rw[e_h2];rfl
  have n3:h3.next=h2.next+1:=by rw[e_h3];rfl
  refine af ?_;simp(maxSteps:=1000000) (disch:=omega) only[evs,↓reduceIte,Nat.reduceEqDiff,Nat.reduceAdd,Nat.reduceMul,Nat.reduceLeDiff,Nat.reduceLT,Int.reduceNeg,DF,eff,Nat.reduceSub,aa,←e_h1,←e_h2,←e_h3,←e_h4];refine sts (c':=[.func (.func 388) [] [.ptr h1.next 0,.ptr h2.next 0,.ptr h3.next 0]]) F_h4.wf o_h4 ?_;rintro h5 o5 F5 n5;have F15:Fr [] h1 h5:=Fr.new F_h1.wf (F_h2.then (F_h3.then F_h4)) F5 (by simp;omega);have ob:=F15.get o_h1;have B:MsB h1 h1.next h2.next h3.next:=⟨F_h1.wf,Nat.le_refl _,by omega,by omega,by omega,by omega,by omega⟩;have M:Ms h1 h5 h1.next h2.next h3.next 0 0:=⟨F15,F5.own _ _ (by simp;omega) (F_h4.get (F_h3.get o_h2)),F5.own _ _ (by simp;omega) (F_h4.get o_h3),o5,by omega⟩;have lw:ab h5 h3.next 0=some (.func (.func 388) [] [.ptr h1.next 0,.ptr h2.next 0,.ptr h3.next 0]):=o5.ld1 0;have A:=(xI (n.fr F_h1)).1;simp(maxSteps:=1000000) (disch:=omega) only[evs,↓reduceIte,Nat.reduceEqDiff,Nat.reduceAdd,Nat.reduceMul,Nat.reduceLeDiff,Nat.reduceLT,Int.reduceNeg,DF,eff,Nat.reduceSub,aa,lw];refine ae (A h5 h.next 0 h1.next h2.next h3.next 1 0 0 B M (fun h' f=>(f.get o_h1).at6) (by omega) (by omega)) ?_;rintro _ h6 ⟨rfl,d,M6⟩;unfold NT.count;cases c:(NT.node k tg ky at' tx sub sub.walk 1 0).2
  ·simp(maxSteps:=1000000) (disch:=omega) only[evs,↓reduceIte,Nat.reduceEqDiff,Nat.reduceAdd,Nat.reduceMul,Nat.reduceLeDiff,Nat.reduceLT,Int.reduceNeg,DF,eff,Nat.reduceSub,aa,c];refine sts (c':=[.int .i64 0]) M6.f.wf M6.oc ?_;rintro h7 o7 F7 n7;have od7:=F7.own _ _ (by simp;omega) M6.od;simp(maxSteps:=1000000) (disch:=omega) only[evs,↓reduceIte,Nat.reduceEqDiff,Nat.reduceAdd,Nat.reduceMul,Nat.reduceLeDiff,Nat.reduceLT,Int.reduceNeg,DF,eff,Nat.reduceSub,aa];refine sts (c':=[.int .i64 0]) F7.wf od7 ?_;rintro h8 o8 F8 n8;have a7:ab h8 h1.next 0=some (.int .i64 0):=(F8.own _ _ (by simp;omega) o7).ld1 0;have a8:ab h8 h2.next 0=some (.int .i64 0):=o8.ld1 0;simp(maxSteps:=1000000) (disch:=omega) only[evs,↓reduceIte,Nat.reduceEqDiff,Nat.reduceAdd,Nat.reduceMul,Nat.reduceLeDiff,Nat.reduceLT,Int.reduceNeg,DF,eff,Nat.reduceSub,aa,a7,a8];refine⟨0,by simp,?_⟩;exact Fr.new w F_h1 (Fr.trans (T:=[h1.next,h2.next]) (Fr.trans (T:=[h1.next,h2.next]) M6.f F7 F_h1.wf (by simp) (by simp)) F8 F_h1.wf (by simp) (by simp)) (by simp;omega)
  ·have lc:ab h6 h1.next 0=some (.int .i64 ((NT.node k tg ky at' tx sub sub.walk 1 0).1:Int)):=M6.oc.ld1 0;have ld:ab h6 h2.next 0=some (.int .i64 (d:Int)):=M6.od.ld1 0;simp(maxSteps:=1000000) (disch:=omega) only[evs,↓reduceIte,Nat.reduceEqDiff,Nat.reduceAdd,Nat.reduceMul,Nat.reduceLeDiff,Nat.reduceLT,Int.reduceNeg,DF,eff,Nat.reduceSub,aa,c,lc,ld];refine sts (c':=[.int .i64 ((NT.node k tg ky at' tx sub sub.walk 1 0).1:Int)]) M6.f.wf M6.oc ?_;rintro h7 o7 F7 n7;have od7:=F7.own _ _ (by simp;omega) M6.od;have ld7:ab h7 h2.next 0=some (.int .i64 (d:Int)):=od7.ld1 0;simp(maxSteps:=1000000) (disch:=omega) only[evs,↓reduceIte,Nat.reduceEqDiff,Nat.reduceAdd,Nat.reduceMul,Nat.reduceLeDiff,Nat.reduceLT,Int.reduceNeg,DF,eff,Nat.reduceSub,aa,c,lc,ld,ld7];refine sts (c':=[.int .i64 (d:Int)]) F7.wf od7 ?_;rintro h8 o8 F8 n8;have a7:ab h8 h1.next 0=some (.int .i64 ((NT.node k tg ky at' tx sub sub.walk 1 0).1:Int)):=(F8.own _ _ (by simp;omega) o7).ld1 0;have a8:ab h8 h2.next 0=some (.int .i64 (d:Int)):=o8.ld1 0;simp(maxSteps:=1000000) (disch:=omega) only[evs,↓reduceIte,Nat.reduceEqDiff,Nat.reduceAdd,Nat.reduceMul,Nat.reduceLeDiff,Nat.reduceLT,Int.reduceNeg,DF,eff,Nat.reduceSub,aa,lc,ld,ld7,a7,a8];refine⟨d,by simp,?_⟩;exact Fr.new w F_h1 (Fr.trans (T:=[h1.next,h2.next]) (Fr.trans (T:=[h1.next,h2.next]) M6.f F7 F_h1.wf (by simp) (by simp)) F8 F_h1.wf (by simp) (by simp)) (by simp;omega)
theorem lE{h:Heap}{k:Nat}{tg ky:Str}{at':List (Str×Str)}{tx:Str}{va vc:V}{sub:NT}(w:WF h)(n:NH h (.cons k tg ky at' tx va vc sub .nil)):
    au go 225 [.agg [.int .u8 (k:Int),.str tg,.str ky,va,.str tx,vc]] h fun u h'=>u=.int .i64 (NT.count k tg ky at' tx sub:Nat)∧Fr [] h h':=by
  obtain⟨h1,e_h1⟩:∃h1,h1=halloc h [.int .u8 (k:Int),.str tg,.str ky,va,.str tx,vc]:=⟨_,rfl⟩;have F_h1:Fr [] h h1:=e_h1▸Fr.halloc w _;have o_h1:Own h1 h.next [.int .u8 (k:Int),.str tg,.str ky,va,.str tx,vc]:=e_h1▸Own.new w _;refine af ?_;simp(maxSteps:=1000000) (disch:=omega) only[evs,↓reduceIte,Nat.reduceEqDiff,Nat.reduceAdd,Nat.reduceMul,Nat.reduceLeDiff,Nat.reduceLT,Int.reduceNeg,DF,eff,Nat.reduceSub,aa,←e_h1,o_h1.at6.2.2.2.2.2.2];refine ae (pE F_h1.wf (n.fr F_h1)) ?_;rintro _ h2 ⟨d,rfl,F2⟩;simp(maxSteps:=1000000) (disch:=omega) only[evs,↓reduceIte,Nat.reduceEqDiff,Nat.reduceAdd,Nat.reduceMul,Nat.reduceLeDiff,Nat.reduceLT,Int.reduceNeg,DF,eff,Nat.reduceSub,aa];exact F_h1.then F2
theorem gX{h:Heap}{k:Nat}{tg ky:Str}{at':List (Str×Str)}{tx:Str}{va vc:V}{sub:NT}(w:WF h)(n:NH h (.cons k tg ky at' tx va vc sub .nil)):
    au go 162 [.agg [.int .u8 (k:Int),.str tg,.str ky,va,.str tx,vc]] h fun u h'=>u=.int .i64 (if NT.count k tg ky at' tx sub=0 then 14 else 0)∧Fr [] h h':=by
  obtain⟨h1,e_h1⟩:∃h1,h1=halloc h [.int .u8 (k:Int),.str tg,.str ky,va,.str tx,vc]:=⟨_,rfl⟩;have F_h1:Fr [] h h1:=e_h1▸Fr.halloc w _;have o_h1:Own h1 h.next [.int .u8 (k:Int),.str tg,.str ky,va,.str tx,vc]:=e_h1▸Own.new w _;by_cases c:NT.count k tg ky at' tx sub=0
  ·refine af ?_;simp(maxSteps:=1000000) (disch:=omega) only[evs,↓reduceIte,Nat.reduceEqDiff,Nat.reduceAdd,Nat.reduceMul,Nat.reduceLeDiff,Nat.reduceLT,Int.reduceNeg,DF,eff,Nat.reduceSub,aa,←e_h1,o_h1.at6.2.2.2.2.2.2];refine ae (lE F_h1.wf (n.fr F_h1)) ?_;rintro _ h2 ⟨rfl,F2⟩;simp(maxSteps:=1000000) (disch:=omega) only[evs,↓reduceIte,Nat.reduceEqDiff,Nat.reduceAdd,Nat.reduceMul,Nat.reduceLeDiff,Nat.reduceLT,Int.reduceNeg,DF,eff,Nat.reduceSub,aa,show((NT.count k tg ky at' tx sub:Nat):Int)=0 by omega];exact⟨by rw[if_pos c],F_h1.then F2⟩
  ·refine af ?_;simp(maxSteps:=1000000) (disch:=omega) only[evs,↓reduceIte,Nat.reduceEqDiff,Nat.reduceAdd,Nat.reduceMul,Nat.reduceLeDiff,Nat.reduceLT,Int.reduceNeg,DF,eff,Nat.reduceSub,aa,←e_h1,o_h1.at6.2.2.2.2.2.2];refine ae (lE F_h1.wf (n.fr F_h1)) ?_;rintro _ h2 ⟨rfl,F2⟩;simp(maxSteps:=1000000) (disch:=omega) only[evs,↓reduceIte,Nat.reduceEqDiff,Nat.reduceAdd,Nat.reduceMul,Nat.reduceLeDiff,Nat.reduceLT,Int.reduceNeg,DF,eff,Nat.reduceSub,aa,show¬((NT.count k tg ky at' tx sub:Nat):Int)=0 by omega];exact⟨by rw[if_neg c],F_h1.then F2⟩
end Go.Ev.Lay
