/- An evaluator of the program, and contracts over it: LayA to StU. -/
import Derived.Laws.RangeString
import Derived.Laws.RangeAny
import Derived.Test.YteojfkejdhhhpaaGreatDoorP04
import Derived.Test.YteojfkejdhhhpaaGreatDoorP05
set_option linter.unusedSimpArgs false
set_option linter.unusedVariables false
set_option linter.constructorNameAsVariable false
set_option linter.unnecessarySimpa false
set_option maxRecDepth 4000
namespace Go.Ev.Lay
variable{h h':Heap}{l:List Int}{v:V}{α:Type}{L:List (Int×Int)}{bs:List Bool}
inductive Tr where
 |nil
 |node (l:Tr) (s:Int) (r:Tr)
namespace Tr
def list:Tr->List Int
 |nil=>[]
 |node l s r=>l.list++s::r.list
def many:Tr->Int
 |nil=>0
 |node l _ r=>l.many+r.many+1
def sum:Tr->Int
 |nil=>0
 |node l s r=>l.sum+s+r.sum
def tall:Tr->Int
 |nil=>0
 |node l _ r=>max l.tall r.tall+1
end Tr
def At(h:Heap):Tr->Option Nat->Prop
 |.nil,p=>p=none
 |.node l s r,p=>∃b pl pr,p=some b/\Own h b [pv pl,pv pr,ZZ s,ZZ (Tr.node l s r).many, ZZ (Tr.node l s r).sum, ZZ (Tr.node l s r).tall]/\At h l pl/\At h r pr
theorem At.fr(f:Fr [] h h'):∀{t:Tr}{p:Option Nat},At h t p->At h' t p
 |.nil,_,a=>a
 |.node l s r,_,⟨b,pl,pr,e,o,al,ar⟩=>⟨b,pl,pr,e,f.get o,At.fr f al,At.fr f ar⟩
def Fit(l:List Int):Prop:=(∀x∈l,0<=x)/\l.sum<=4611686018427387904/\(l.length:Int)<=1000000
theorem sum_nn:∀{l:List Int},(∀x∈l,0≤x)→0≤l.sum
 |[],_=>by simp
 |x::l,h=>by have:=sum_nn (l:=l) fun y hy=>h y iX;have:=h x iS;simp;omega
theorem Fit.left{a b:List Int}(f:Fit (a++b)):Fit a:=by
 obtain⟨p,q,r⟩:=f;have Z:0<=b.sum:=sum_nn fun x hx=>p x iX;refine⟨fun x hx=>p x iX,?_,?_⟩
 ·grind
 ·grind
theorem Fit.right{a b:List Int}(f:Fit (a++b)):Fit b:=by
 obtain⟨p,q,r⟩:=f;have Z:0<=a.sum:=sum_nn fun x hx=>p x iX;refine⟨fun x hx=>p x iX,?_,?_⟩
 ·grind
 ·grind
theorem Fit.nn(f:Fit l):0<=l.sum:=sum_nn f.1
theorem Fit.cons{x:Int}(f:Fit (x::l)):Fit l:=Fit.right (a:=[x]) (eV f)
def Pm(h:Heap)(l:List Int)(v:V):Prop:=∃t p,v=pv p/\At h t p/\t.list=l
theorem Fit.sub{m:List Int}(f:Fit l)(h:m.Sublist l):Fit m:=by
 obtain⟨a,b,c⟩:=f;have Z:∀{l m:List Int},m.Sublist l->(∀x∈l,0<=x)->m.sum<=l.sum:=by
  intro l m h;induction h with
  |slnil=>intro _;simp
  |cons x h ih=>intro a;have:=ih (fun y hy=>a y iX);have:=a x iS;simp;omega
  |cons_cons x h ih=>intro a;have:=ih (fun y hy=>a y iX);simp;omega
 exact⟨fun x hx=>a x (h.subset hx),by have:=Z h a;omega,by have:=h.length_le;omega⟩
def Rp(h:Heap)(v:V)(l:List Int):Prop:=∃t p,v=.agg [pv p]/\At h t p/\t.list=l/\Fit l
theorem Rp.fr(a:Rp h v l)(f:Fr [] h h'):Rp h' v l:=by
 obtain⟨t,p,e,a,x⟩:=a;exact⟨t,p,e,a.fr f,x⟩
def xN:List Int->Int->Nat×Int
 |[],x=>(0,x)
 |s::l,x=>if x<s then(0,x)else((xN l (x-s)).1+1,(xN l (x-s)).2)
def Vals{α:Type}(f:α->V)(h:Heap)(v:V)(l:List α):Prop:=Sl h 1 v l.length (l.map f)
theorem Vals.fr{f:α->V}{l:List α}(a:Vals f h v l)(r:Fr [] h h'):Vals f h' v l:=Sl.fr a r
theorem Vals.len{f:α->V}{l:List α}(a:Vals f h v l):aP .lenS [v]=some (ZZ l.length):=Sl.len a
theorem Vals.ix{f:α->V}{l:List α}(a:Vals f h v l)(k:IntKind)(i:Int)(h0:0<=i)(U:i<l.length):
 ∃b o x,aP (.ixs 1) [v,.int k i]=some (.ptr b o)/\ai h b o=some (f x)/\l[i.toNat]? =some x:=by
 obtain⟨b,o,e,g,_⟩:=Sl.ix a k i h0 U;have Z:i.toNat<l.length:=oM
 refine⟨b,o,l[i.toNat],e,?_,by simp[Z]⟩;have:=g 0 oM;simpa[Z]using this
theorem Vals.upto{f:α->V}{l:List α}(a:Vals f h v l)(U:v≠.sliceE)(k:IntKind)(i:Int)(h0:0<=i)(Z:i<=l.length):
 ∃v',aP (.sl none 1 false true false) [v,.int k i]=some v'/\Vals f h v' (l.take i.toNat):=by
 obtain⟨v',e,s⟩:=Ub a oM U k i h0 Z;refine⟨v',e,?_⟩;unfold Vals;rw[QN,Rt oM,List.map_take];simpa using s
theorem Vals.from'{f:α->V}{l:List α}(a:Vals f h v l)(U:v≠.sliceE)(k:IntKind)(i:Int)(h0:0<=i)(Z:i<=l.length):
 ∃v',aP (.sl none 1 true false false) [v,.int k i]=some v'/\Vals f h v' (l.drop i.toNat):=by
 obtain⟨v',e,s⟩:=Sl.from' a oM U k i h0 Z;refine⟨v',e,?_⟩;unfold Vals;rw[Sq,List.map_drop];simpa using s
abbrev Qk(h:Heap)(v:V)(l:List Int):Prop:=Vals (V.int .i64) h v l
theorem aX{l:List α}{i:Nat}{x:α}(h:l[i]? =some x):l.drop i=x::l.drop (i+1):=by
 have Z:i<l.length:=by grind
 rw[Ry Z];congr 1;rw[Qq Z]at h;cases h;rfl
theorem Own.ne{b Z:Nat}{c c':List V}(o:Own h b c)(U:Own h Z c')(R:c≠c'):b≠Z:=by
 rintro rfl;exact R (o.uniq U)
theorem CA:∀(l:List Int)(i:Nat)(x:Int),i<l.length→(l.set i x).sum=l.sum-l.getD i 0+x
 |y::l,0,x,_=>by simp;omega
 |y::l,i+1,x,h=>by have:=CA l i x (eV h);simp at this⊢;omega
theorem Fit.set(f:Fit l){i:Nat}{x:Int}(U:i<l.length)(h0:0<=x)(R:x<=4611686018427387904-(l.sum-l.getD i 0)):Fit (l.set i x):=by
 refine⟨fun y Z=>?_,?_,?_⟩
 ·rcases Ra Z with a|a
  ·exact f.1 y a
  ·omega
 ·rw[CA _ _ _ U];omega
 ·rw[Rd];exact f.2.2
def sp(s:Int×Int):List V:=[ZZ s.1,ZZ s.2]
theorem AQ(s:Int×Int):(sp s).length=2:=rfl
abbrev Sp(h:Heap)(v:V)(L:List (Int×Int)):Prop:=Recs sp 2 h v L
def SOK:List (Int×Int)->Int->Prop
 |[],_=>True
 |s::L,last=>last<s.1/\0<=s.1/\s.1<s.2/\s.2<=1073741824/\SOK L s.2
def inS(L:List (Int×Int))(i:Int):Bool:=L.any fun s=>decide (s.1<=i)&&decide (i<s.2)
theorem Sp.ix(a:Sp h v L)(i:Nat)(Z:(i:Int)<L.length):
 ∃b o s,aP (.ixs 2) [v,ZZ i]=some (.ptr b o)/\ai h b o=some (ZZ s.1)/\ai h b (o+1)=some (ZZ s.2)/\aH h b o 2=some [ZZ s.1,ZZ s.2]/\L[i]? =some s:=by
 obtain⟨b,o,s,e,g,g2,U⟩:=Rg AQ a .i64 i oM Z;exact⟨b,o,s,e,by simpa[sp]using g 0 oM,by simpa[sp]using g 1 oM,g2,by simpa using U⟩
def SpF(h:Heap)(v:V)(L:List (Int×Int)):Prop:=(v=.nils/\L=[])\/∃b,v=.slice b 0 L.length L.length/\Own h b (L.flatMap sp)/\0<L.length
theorem SpF.slc(a:SpF h v L):Sp h v L:=by
 rcases a with⟨rfl,rfl⟩|⟨b,rfl,o,_⟩
 ·exact SH
 ·exact RM o (au AQ L)
theorem SpF.fr(a:SpF h v L)(f:Fr [] h h'):SpF h' v L:=by
 rcases a with x|⟨b,e,o,p⟩
 ·exact .inl x
 ·exact .inr ⟨b,e,f.get o,p⟩
theorem SpF.one(a:SpF h v L):v.one=true:=by
 rcases a with⟨rfl,_⟩|⟨b,rfl,_⟩<;>rfl
theorem SOK.gt:∀{L:List (Int×Int)}{b:Int},SOK L b→∀s∈L,b<s.1∧0≤s.1∧s.1<s.2∧s.2≤1073741824
 |t::L,b,⟨h1,h2,h3,h4,h5⟩,s,hs=>by
  rcases List.mem_cons.1 hs with rfl|hs
  ·omega
  ·have:=SOK.gt h5 s hs;omega
theorem SOK.below{b x:Int}(ok:SOK L b)(h:x<=b):inS L x=false:=by
 simp only[inS,List.any_eq_false,be,decide_eq_true_eq];intro s Z;have:=ok.gt s Z;omega
theorem SOK.app:∀{L M:List (Int×Int)}{b c:Int},SOK L b→SOK M c→(∀s∈L,s.2≤c)→b≤c→SOK (L++M) b
 |[],M,b,c,_,hm,_,h=>by
  cases M with
  |nil=>trivial
  |cons s M=>obtain⟨a1,a2⟩:=hm;exact⟨oM,a2⟩
 |s::L,M,b,c,⟨h1,h2,h3,h4,h5⟩,hm,hb,h=>⟨h1,h2,h3,h4,SOK.app h5 hm (fun t ht=>hb t iX) (hb s iS)⟩
theorem SOK.left:∀{L M:List (Int×Int)}{b:Int},SOK (L++M) b->SOK L b
 |[],_,_,_=>trivial
 |s::L,M,b,⟨h1,h2,h3,h4,h5⟩=>⟨h1,h2,h3,h4,SOK.left h5⟩
theorem SOK.drop:∀{L:List (Int×Int)}{b:Int}(i:Nat),SOK L b->∃c,SOK (L.drop i) c
 |[],b,i,h=>by simp;exact⟨b,trivial⟩
 |s::L,b,0,h=>⟨b,h⟩
 |s::L,b,i+1,⟨_,_,_,_,h⟩=>SOK.drop i h
theorem SOK.count:∀{L:List (Int×Int)}{b:Int},SOK L b→∀m,(∀s∈L,s.2≤m)→b≤m+0→2*(L.length:Int)≤m-b
 |[],b,_,m,_,h=>by simp;omega
 |s::L,b,⟨h1,h2,h3,h4,h5⟩,m,hm,h=>by
  have:=SOK.count h5 m (fun t ht=>hm t iX) (by have:=hm s iS;omega);simp only[List.length_cons];omega
def cnt(A:List (Int×Int))(a:Int):Nat:=(A.map fun s=>(if a<s.1 then 1 else 0)+(if a<s.2 then 1 else 0)).sum
theorem SOK.len(ok:SOK L (-1)){m:Int}(hm:m<=8000)(h:∀s∈L,s.2<=m):L.length<=4096:=by
 have:=ok.count (max m 0) (fun s hs=>by have:=h s hs;omega) oM;omega
structure Kn(L:List (Int×Int))(ks:List Bool):Prop where
 ok:SOK L (-1)
 le:∀s∈L,s.2<=ks.length
 eq:∀i:Nat,inS L i=ks.getD i false
def Ix(h:Heap)(v:V)(l:List Int)(ks:List Bool):Prop:=∃p vk L,v=.agg [pv p,vk]/\Rp h (.agg [pv p]) l/\SpF h vk L/\Kn L ks/\ks.length=l.length/\l.length<=1024
theorem Ix.fr{ks:List Bool}(a:Ix h v l ks)(f:Fr [] h h'):Ix h' v l ks:=by
 obtain⟨p,Z,L,e,r,s,x⟩:=a;exact⟨p,Z,L,e,r.fr f,s.fr f,x⟩
theorem Ix.len{ks:List Bool}(a:Ix h v l ks):ks.length=l.length/\l.length<=1024:=by
 obtain⟨p,Z,L,e,r,s,_,x⟩:=a;exact x
theorem Ix.fit{ks:List Bool}(a:Ix h v l ks):Fit l:=by
 obtain⟨p,Z,L,e,r,s,_,x⟩:=a;obtain⟨_,_,_,_,_,f⟩:=r;exact f
theorem Kn.len{ks:List Bool}(k:Kn L ks)(h:ks.length<=1024):L.length<=4096:=k.ok.len (m:=ks.length) oM k.le
theorem Pc(w x y:Nat):(BitVec.ofInt w (x:Int)^^^BitVec.ofInt w (y:Int)).toNat=(x%2^w)^^^(y%2^w):=by simp[BitVec.toNat_xor]
theorem NP(k:IntKind)(a b:Int):aP (.ib .and) [.int k a,.int k b]=some (.int k (aB k (BitVec.toNat (BitVec.ofInt k.bits a&&&BitVec.ofInt k.bits b)))):=by simp only[aP,cF,cond_true,jO]
theorem NN(k:IntKind)(a b:Int):aP (.ib .xor) [.int k a,.int k b]=some (.int k (aB k (BitVec.toNat (BitVec.ofInt k.bits a^^^BitVec.ofInt k.bits b)))):=by simp only[aP,cF,cond_true,jO]
theorem p64:2^IntKind.u64.bits=18446744073709551616:=rfl
theorem q64:2^IntKind.i64.bits=18446744073709551616:=rfl
theorem yJ(x y:Nat)(a b:Int)(U:a=x)(J:b=y)(hx:x<18446744073709551616)(Z:y<18446744073709551616):aP (.ib .xor) [ZX a,ZX b]=some (ZX ((x^^^y:Nat):Int)):=by
 subst U J;have R:x^^^y<2^64:=Nat.xor_lt_two_pow (eV hx) (eV Z);rw[NN,Pc,p64,RR hx,RR Z,fwrap_u64 _ oM oM]
def uw(x:Nat):V:=ZX (x:Int)
def flc(n m:Int)(ws:List Nat):List V:=ZZ n::ZZ m::ws.map uw
structure WOK(ws:List Nat)(bs:List Bool):Prop where
 len:ws.length=64
 w:∀k,k<64->∃x,ws[k]? =some x/\x<18446744073709551616/\∀j,j<64->x.testBit j=bs.getD (64*k+j) false
def Fl(h:Heap)(b:Nat)(bs:List Bool):Prop:=∃ws,Own h b (flc bs.length (bs.count true) ws)/\WOK ws bs/\bs.length<=4096
theorem Fl.fr{b:Nat}(a:Fl h b bs)(f:Fr [] h h'):Fl h' b bs:=by
 obtain⟨Z,o,x⟩:=a;exact⟨Z,f.get o,x⟩
theorem KO(n m:Int)(Z:List Nat):(flc n m Z).length=Z.length+2:=by simp[flc]
theorem uN(l:List V):bF l 0 []=some l:=by cases l<;>rfl
theorem Vals.one{f:α->V}{l:List α}(a:Vals f h v l):v.one=true:=RI a
def Glb(h:Heap):Prop:=Pl h 0 PJ
theorem Nr(n:Nat):aB .u64 (n:Int)=((n%18446744073709551616:Nat):Int):=by
 rw[bq];exact yaw
theorem Ox(x y:Nat)(b:Int)(Z:b=y):aP (.ib .mul) [ZX (x:Int),ZX b]=some (ZX ((x*y%18446744073709551616:Nat):Int)):=by
 subst Z;rw[Cj,<-Int.natCast_mul,Nr]
theorem H7(I:Nat)(h:I<64):aP (.ixa 64 1) [.ptr 0 0,ZX (I:Int)]=some (.ptr 0 I):=by
 have Z:=iC 1 0 0 64 .u64 (I:Int) oM oM;simpa using Z
def Sel(bs:List Bool)(k p:Nat):Prop:=p<bs.length/\bs.getD p false=true/\(bs.take p).count true=k
def Mk(h:Heap)(pm:Option Nat)(bs:List Bool):Prop:=match pm with
 |none=>bs=[]
 |some c=>Fl h c bs
theorem Mk.fr{Z:Option Nat}(a:Mk h Z bs)(f:Fr [] h h'):Mk h' Z bs:=by
 cases Z with
 |none=>exact a
 |some c=>exact Fl.fr a f
def Lo(h:Heap)(b:Nat)(l:List Int)(ks bs:List Bool):Prop:=∃p vk pm,Own h b [pv p,vk,pv pm]/\vk.one=true/\Ix h (.agg [pv p,vk]) l ks/\Mk h pm bs/\bs.length=l.length
theorem Lo.fr{b:Nat}{ks:List Bool}(a:Lo h b l ks bs)(f:Fr [] h h'):Lo h' b l ks bs:=by
 obtain⟨p,R,Z,o,U,ix,mk,e⟩:=a;exact⟨p,R,Z,f.get o,U,ix.fr f,mk.fr f,e⟩
theorem Glb.fr(a:Glb h)(f:Fr [] h h'):Glb h':=f.pl _ _ iS a
theorem Ix.rp{p:Option Nat}{U:V}{ks:List Bool}(a:Ix h (.agg [pv p,U]) l ks):Rp h (.agg [pv p]) l:=by
 obtain⟨R,Z,L,e,r,_⟩:=a;simp only[V.agg.injEq,QC,and_true]at e;rw[e.1];exact r
def okF(view over:Int):Prop:=1<=view/\view<=2147483648/\0<=over/\over<=16
instance(view over:Int):Decidable (okF view over):=by unfold okF;infer_instance
def HeadS(l:List Int)(bs:List Bool)(s r e:Int):Prop:=
 if l=[]/\s=0 then r=0/\e=11 else if 0<=s/\s<l.sum then if(bs.take ((xN l s).1+1)).count true=0 then r=0/\e=11 else e=0/\∃p:Nat,r=p/\Sel bs ((bs.take ((xN l s).1+1)).count true-1) p else r=0/\e=4
theorem HeadS.zero{s r e:Int}(a:HeadS l bs s r e)(h:e=0):0<=s/\s<l.sum/\∃p:Nat,r=p/\p<bs.length:=by
 unfold HeadS at a;split at a
 ·omega
 ·split at a
  ·rename_i c;split at a
   ·omega
   ·obtain⟨_,p,U,Z⟩:=a;exact⟨c.1,c.2,p,U,Z.1⟩
  ·omega
structure FrF(b:Nat)(h h':Heap):Prop where
 next:h.next<=h'.next
 wf:WF h'
 own:∀x c,x≠b->(∀n m ws,ws.length=64->c≠flc n m ws)->Own h x c->Own h' x c
 pl:∀x c,x≠b->(∀n m ws,ws.length=64->c≠flc n m ws)->Pl h x c->Pl h' x c
 ro:∀x c,Rs h x c->Rs h' x c
theorem FrF.trans{b:Nat}{h1 h2:Heap}(a:FrF b h h1)(c:FrF b h1 h2):FrF b h h2:=
 ⟨QY a.next c.next,c.wf,fun x d hx hd o=>c.own x d hx hd (a.own x d hx hd o),fun x d hx hd o=>c.pl x d hx hd (a.pl x d hx hd o),fun x d r=>c.ro x d (a.ro x d r)⟩
end Go.Ev.Lay
namespace Go.Ev.St
abbrev bj:=Nat×Nat×Nat
def pth(a n j:Nat):Nat:=(a+j)%n
theorem AZ{a n j:Nat}(h:0<n):pth a n j<n:=QR _ h
theorem Hp(a n j:Nat):(pth a n j+1)%n=pth a n (j+1):=by
 unfold pth;rw[Nat.mod_add_mod,RT]
theorem Ho(a n:Nat):pth a n 0=a%n:=by simp[pth]
theorem Hq{a n i:Nat}(h:i<n):∃j,j<n/\pth a n j=i:=by
 refine⟨(i+(n-a%n))%n,QR _ (by omega),?_⟩;unfold pth;have Z:a%n<n:=QR _ (by omega);rw[Nat.add_mod_mod,<-Nat.mod_add_mod,show a%n+(i+(n-a%n))=i+n by omega,Nat.add_mod_right,RR h]
structure Opn(mx:Nat->Nat)(sl:List bj):Prop where
 st:∀s∈sl,s.1=0\/s.1=1\/s.1=2
 uniq:∀i j k v w:Nat,sl[i]? =some (1,k,v)->sl[j]? =some (1,k,w)->i=j
 path:∀i k v:Nat,sl[i]? =some (1,k,v)->∃j,j<sl.length/\pth (mx k) sl.length j=i/\∀j',j'<j->∀s,sl[pth (mx k) sl.length j']? =some s->s.1≠0
 room:∃(i:Nat)(s:bj),sl[i]? =some s/\s.1=0
structure Looked(mx:Nat->Nat)(sl:List bj)(k at':Nat)(found:Bool):Prop where
 lt:at'<sl.length
 yes:found=true->∃v,sl[at']? =some (1,k,v)
 no:found=false->(∀i v:Nat,sl[i]? ≠some (1,k,v))/\(∃s:bj,sl[at']? =some s/\s.1≠1)/\∃j,j<sl.length/\pth (mx k) sl.length j=at'/\∀j',j'<j->∀s,sl[pth (mx k) sl.length j']? =some s->s.1≠0
structure Seek(mx:Nat->Nat)(sl:List bj)(k j:Nat)(g:Option Nat):Prop where
 jl:j<sl.length
 seen:∀j',j'<j->∀s,sl[pth (mx k) sl.length j']? =some s->s.1≠0/\¬(s.1=1/\s.2.1=k)
 grave:∀x,g=some x->x<sl.length/\∃j0,j0<j/\pth (mx k) sl.length j0=x/\∃s,sl[x]? =some s/\s.1=2
variable {mx : Nat -> Nat} {sl : List bj} {k j : Nat} {g : Option Nat}
theorem Opn.pos(o:Opn mx sl):0<sl.length:=by
 obtain⟨i,s,h,_⟩:=o.room;have:=(QD.1 h).1;omega
theorem Seek.start(o:Opn mx sl)(k:Nat):Seek mx sl k 0 none:=⟨o.pos,fun _ h=>by omega,fun _ h=>by cases h⟩
theorem Seek.found(q:Seek mx sl k j g){v:Nat}(h:sl[pth (mx k) sl.length j]? =some (1,k,v)):Looked mx sl k (pth (mx k) sl.length j) true:=
 ⟨AZ (by have:=q.jl;omega),fun _=>⟨v,h⟩,fun e=>by cases e⟩
theorem Seek.absent(o:Opn mx sl)(q:Seek mx sl k j g){s:bj}(h:sl[pth (mx k) sl.length j]? =some s)(h0:s.1=0)(i v:Nat):sl[i]? ≠some (1,k,v):=by
 intro U;obtain⟨Z,l1,R,p1⟩:=o.path i k v U;rcases Nat.lt_trichotomy Z j with c|c|c
 ·have:=(q.seen Z c (1,k,v) (by rw[R];exact U)).2;exact this ⟨rfl,rfl⟩
 ·grind
 ·exact p1 j c s h h0
theorem Seek.free(o:Opn mx sl)(q:Seek mx sl k j g){s:bj}(h:sl[pth (mx k) sl.length j]? =some s)(h0:s.1=0):Looked mx sl k (g.getD (pth (mx k) sl.length j)) false:=by
 cases g with
 |none=>exact⟨AZ o.pos,fun e=>(by cases e),fun _=>⟨q.absent o h h0,⟨s,h,by omega⟩,j,q.jl,rfl,fun j' hj s hs=>(q.seen j' hj s hs).1⟩⟩
 |some x=>
  obtain⟨l1,Z,l2,e,U,R,J⟩:=q.grave x rfl;have:=q.jl;exact⟨l1,fun e=>(by cases e),fun _=>⟨q.absent o h h0,⟨U,R,by omega⟩,Z,by omega,e,fun j' hj s hs=>(q.seen j' (by omega) s hs).1⟩⟩
theorem Seek.next(o:Opn mx sl)(q:Seek mx sl k j g){s:bj}(h:sl[pth (mx k) sl.length j]? =some s)(h0:s.1≠0)(h1:¬(s.1=1/\s.2.1=k)):
 Seek mx sl k (j+1) (if s.1=2/\g=none then some (pth (mx k) sl.length j)else g):=by
 have jl:=q.jl;have seen:∀Z,Z<j+1->∀s,sl[pth (mx k) sl.length Z]? =some s->s.1≠0/\¬(s.1=1/\s.2.1=k):=by
  intro Z hj U I;by_cases c:Z=j
  ·grind
  ·exact q.seen Z (by omega) U I
 refine⟨?_,seen,?_⟩
 ·rcases Rn (j+1) sl.length with c|c
  ·exact c
  ·exfalso;obtain⟨i,U,R,h'⟩:=o.room;obtain⟨Z,D,e⟩:=Hq (QD.1 R).1;exact(seen Z (by omega) U (by rw[e];exact R)).1 h'
 ·intro x hx;by_cases c:s.1=2/\g=none
  ·grind
  ·rw[if_neg c]at hx;obtain⟨l1,J,l2,e⟩:=q.grave x hx;exact⟨l1,J,by omega,e⟩
theorem gC(sl:List bj)(a i:Nat)(x s:bj)(h:(sl.set a x)[i]? =some s):(i=a/\s=x/\a<sl.length)\/(i≠a/\sl[i]? =some s):=by grind
theorem jy{sl:List bj}{a:Nat}(x:bj)(h:a<sl.length):(sl.set a x)[a]? =some x:=Td h
theorem Opn.put(o:Opn mx sl){a:Nat}(q:Looked mx sl k a false)(v:Nat)(D:∃(i:Nat)(s:bj),i≠a/\sl[i]? =some s/\s.1=0):Opn mx (sl.set a (1,k,v)):=by
 obtain⟨no,⟨s0,J,h0⟩,j,jl,je,jp⟩:=q.no rfl;refine⟨?_,?_,?_,?_⟩
 ·exact yaq
 ·intro i i' k' U w' Z hi';rcases gC _ _ _ _ _ Z with⟨e1,e,_⟩|⟨c,I⟩<;>rcases gC _ _ _ _ _ hi' with⟨e2,e',_⟩|⟨c',R⟩
  ·rw[e1,e2]
  ·grind
  ·grind
  ·exact o.uniq _ _ _ _ _ I R
 ·intro i k' U Z;rw[Rd];rcases gC _ _ _ _ _ Z with⟨rfl,e,_⟩|⟨c,Z⟩
  ·grind
  ·obtain⟨j1,l1,e1,p1⟩:=o.path i k' U Z;exact yae
 ·obtain⟨i,s,c,Z,hs⟩:=D;exact⟨i,s,by rw[Ss (Sx c)];exact Z,hs⟩
theorem Opn.change(o:Opn mx sl){a w:Nat}(h:sl[a]? =some (1,k,w))(v:Nat):Opn mx (sl.set a (1,k,v)):=by
 have key:∀i k' Z:Nat,(sl.set a (1,k,v))[i]? =some (1,k',Z)->∃w',sl[i]? =some (1,k',w'):=by grind
 have nz:∀(i:Nat)(s:bj),(sl.set a (1,k,v))[i]? =some s->(∀s',sl[i]? =some s'->s'.1≠0)->s.1≠0:=by grind
 refine⟨?_,?_,?_,?_⟩
 ·exact yaq
 ·intro i i' k' Z w' hi hi';obtain⟨_,U⟩:=key _ _ _ hi;obtain⟨_,R⟩:=key _ _ _ hi';exact o.uniq _ _ _ _ _ U R
 ·intro i k' Z hi;rw[Rd];obtain⟨_,U⟩:=key _ _ _ hi;obtain⟨D,l1,J,p1⟩:=o.path _ _ _ U;exact⟨D,l1,J,fun I hj s hs=>nz _ _ hs (p1 I hj)⟩
 ·exact ybc
theorem Opn.drop(o:Opn mx sl){a w:Nat}(h:sl[a]? =some (1,k,w))(x y:Nat):Opn mx (sl.set a (2,x,y)):=by
 have key:∀i k' Z:Nat,(sl.set a (2,x,y))[i]? =some (1,k',Z)->sl[i]? =some (1,k',Z):=by grind
 refine⟨?_,?_,?_,?_⟩
 ·exact yaq
 ·intro i U k' Z w' hi hi';exact o.uniq _ _ _ _ _ (key _ _ _ hi) (key _ _ _ hi')
 ·intro i k' Z hi;rw[Rd];obtain⟨j1,l1,e1,p1⟩:=o.path _ _ _ (key _ _ _ hi);exact yae
 ·exact ybc
theorem Opn.zero(mx:Nat->Nat)(n:Nat)(h:0<n):Opn mx (List.replicate n (0,0,0)):=by
 have e:∀(i:Nat)(s:bj),(List.replicate n ((0,0,0):bj))[i]? =some s->s=(0,0,0):=fun i s Z=>SL (Of Z);refine⟨fun s Z=>.inl (by rw[SL Z]),fun i j k v w hi=>?_,fun i k v hi=>?_,⟨0,(0,0,0),by rw[List.getElem?_replicate,if_pos h],rfl⟩⟩
 ·grind
 ·grind
def cnS(c:Nat)(sl:List bj):Nat:=sl.countP fun s=>s.1==c
theorem jE{a c:Nat}{s x:bj}(h:sl[a]? =some s):cnS c (sl.set a x)+(if s.1=c then 1 else 0)=cnS c sl+(if x.1=c then 1 else 0):=by
 unfold cnS;induction sl generalizing a with
 |nil=>simp at h
 |cons y l ih=>
  cases a with
  |zero=>
   simp at h;subst h;simp only[List.set_cons_zero,List.countP_cons,beq_iff_eq];split<;>split<;>omega
  |succ a=>
   simp only[List.set_cons_succ,List.countP_cons,beq_iff_eq];have:=ih (by simpa using h);omega
theorem Al{n:Nat}(h:0<cnS 0 sl):∃(i:Nat)(s:bj),sl[i]? =some s/\s.1=0:=by
 unfold cnS at h;rw[TQ]at h;obtain⟨s,Z,e⟩:=h;obtain⟨i,U,R⟩:=List.mem_iff_getElem.1 Z;exact⟨i,s,by rw[QD];exact⟨U,R⟩,by simpa using e⟩
theorem Dm(h:∀s∈sl,s.1=0\/s.1=1\/s.1=2):cnS 0 sl+cnS 1 sl+cnS 2 sl=sl.length:=by
 unfold cnS;induction sl with
 |nil=>rfl
 |cons y l ih=>
  have:=ih fun s hs=>h s (QO _ hs);simp only[TL,beq_iff_eq,QB];rcases h y (RX ..)with e|e|e<;>simp only[e]<;>simp<;>omega
end Go.Ev.St
namespace Go.Ev.Lay
variable{h h':Heap}{x S key c t i n:Nat}{v:V}{env:T V}{m:Nat->Option Nat}
theorem g108x : F.get 277 = some fn108x := rfl
open Go.Ev.St
theorem MN(x n m:Nat)(b:Int)(U:b=n)(Z:n<=64)(hm:m=2^n):aP (.sh false) [ZX (x:Int),ZX b]=some (ZX ((x/m:Nat):Int)):=by
 subst U;rw[ut _ _ _ _ oM];simp only[so,IntKind.bits,Rt Z];rw[<-hm];congr 2;exact Tx _ (Int.natCast_nonneg _)
def Oz(x:Nat):Nat:=x^^^(x/2147483648)
def Kh(x:Nat):Nat:=(x^^^(x/134217728)) *10723151780598845931%18446744073709551616
def Ki(x:Nat):Nat:=(x^^^(x/1073741824)) *13787848793156543929%18446744073709551616
def mix(x:Nat):Nat:=Oz (Kh (Ki x))
theorem Ng(hx:x<18446744073709551616):ay go 317 [ZX (x:Int)] h fun u h'=>u=ZX (mix x:Nat)/\h'=h:=by
 have I:=MN x 30 1073741824 30 rfl oM dI;have J:=yJ x (x/1073741824) _ _ rfl rfl hx oM;have m1:=Ox (x^^^x/1073741824) 13787848793156543929 13787848793156543929 rfl;have U:Ki x<18446744073709551616:=QR _ oM;change _=some (ZX ((Ki x:Nat):Int))at m1;unfold mix;generalize Ki x=y at U m1;have D:=MN y 27 134217728 27 rfl oM dI;have x2:=yJ y (y/134217728) _ _ rfl rfl U oM;have m2:=Ox (y^^^y/134217728) 10723151780598845931 10723151780598845931 rfl;have Z:Kh y<18446744073709551616:=QR _ oM;change _=some (ZX ((Kh y:Nat):Int))at m2;generalize Kh y=z at Z m2;have s3:=MN z 31 2147483648 31 rfl oM dI;have R:=yJ z (z/2147483648) _ _ rfl rfl Z oM;change _=some (ZX ((Oz z:Nat):Int))at R;refine aa ?_;simp only[evs,seval,I,J,m1,D,x2,m2,s3,R]
def sc(s:bj):List V:=[ZY (s.1:Int),ZX (s.2.1:Int),ZZ (s.2.2:Int)]
theorem rR(s:bj):(sc s).length=3:=rfl
def Tb(h:Heap)(v:V)(S:Nat)(sl:List bj):Prop:=(v=.slice S 0 sl.length sl.length\/v=.sliceU S 0 sl.length 3)/\Own h S (sl.flatMap sc)
theorem qi(sl:List bj):(sl.flatMap sc).length=sl.length*3:=au rR sl
theorem Tb.recs{sl:List bj}(t:Tb h v S sl):Recs sc 3 h v sl:=by
 obtain⟨rfl|rfl,o⟩:=t
 ·exact⟨qi sl,rfl,pi _,_,o,by rw[qi];omega,by rw[TA,Qs (by rw[qi];omega)]⟩
 ·exact⟨qi sl,rfl,rfl,_,o,by rw[qi];omega,by rw[TA,Qs (by rw[qi];omega)]⟩
theorem Tb.ix{sl:List bj}(t:Tb h v S sl)(i:Nat)(Z:i<sl.length):aP (.ixs 3) [v,ZZ (i:Int)]=some (.ptr S (i*3)):=by
 obtain⟨rfl|rfl,o⟩:=t
 ·have:=bO 3 S 0 sl.length sl.length .i64 (i:Int) oM oM;simpa using this
 ·have:=uv 3 S 0 sl.length 3 .i64 (i:Int) oM oM;simpa using this
theorem Tb.fr{sl:List bj}(t:Tb h v S sl)(f:Fr [] h h'):Tb h' v S sl:=⟨t.1,f.get t.2⟩
def gi:Option Nat->Int
 |none=>-1
 |some x=>x
theorem He(p n:Nat)(h:n≠0):aP (.ib .rem) [ZZ ((p:Int)+1),ZZ (n:Int)]=some (ZZ (((p+1)%n:Nat):Int)):=by
 rw[iA _ _ _ oM];congr 2
theorem sP{mx:Nat->Nat}{b j:Nat}{M U:V}{sl:List bj}{g:Option Nat}{Q:Ex->T V->Heap->Prop}(w:WF h)(ob:Own h b [v,M,U])(tb:Tb h v S sl)(op:Opn mx sl)(q:Seek mx sl key j g)(hn:sl.length<1000000)
 (g0:env.get 0=some (.ptr b 0)) (g1:env.get 1=some (ZX (key:Int))) (g4:env.get 4=some (ZZ (pth (mx key) sl.length j:Nat))) (g5:env.get 5=some (.bool false)) (J:env.get 6=some (ZZ (gi g)))
 (Ky:∀env' h' at' found,env'.get 4=some (ZZ ((at':Nat):Int))->env'.get 5=some (.bool found)->Looked mx sl key at' found->Fr [] h h'->Q .ret env' h')
 (Kg:∀env' h' g',Seek mx sl key (j+1) g'->env'.get 0=some (.ptr b 0)->env'.get 1=some (ZX (key:Int))->env'.get 4=some (ZZ (pth (mx key) sl.length (j+1):Nat))->env'.get 5=some (.bool false)->env'.get 6=some (ZZ (gi g'))->Fr [] h h'->Q (.goto 0) env' h'):
 W go Bq env h Q:=by
 have jl:=q.jl;have hp:pth (mx key) sl.length j<sl.length:=AZ oM;have hx:=tb.ix _ hp;obtain⟨b1,o1,x,e1,_,e3,I⟩:=Rg rR tb.recs .i64 (pth (mx key) sl.length j:Nat) oM oM;rw[hx]at e1;obtain⟨rfl,rfl⟩:S=b1/\pth (mx key) sl.length j*3=o1:=by simpa using e1
 simp only[so]at I;have l0:=ob.l1 0;obtain⟨s,ky,vl⟩:=x;have Z:=op.st _ (Of I);simp[evs,Bq,g0,g4,l0,hx,e3];refine stu (w.halloc _) (Ro w _) ?_;rintro D o1 F1 n1;have F:Fr [] h D:=(QW w _).trans F1 w (fun _ hx=>by simp at hx) (fun x hx=>.inr (by simp at hx;omega));have R:=o1.l1 0;have q1:=o1.l1 1;have l1:=(F.get ob).l1 0;have len:=(tb.fr F).recs.len;have rm:=He (pth (mx key) sl.length j) sl.length oM;rw[Hp]at rm;have ab:=fun hz hk env' a b c d e=>
  Kg env' D _ (q.next op I hz hk) a b c d e F
 rcases Z with Z|Z|Z
 ·have Z:=Z;subst Z;replace R:ai D h.next 0=some (ZY 0):=R;have fr:=q.free op I rfl;cases g with
  |none=>
   simp[evs,R,g4,J,(oM:¬(0:Int)=1),gi,(oM:¬(0:Int)<=-1)];refine Ky _ _ _ _ ?_ ?_ fr F<;>simp
  |some x=>
   simp[evs,R,J,(oM:¬(0:Int)=1),gi,eq_true (oM:(0:Int)<=(x:Int))];refine Ky _ _ _ _ ?_ ?_ fr F<;>simp
 ·have Z:=Z;subst Z;replace R:ai D h.next 0=some (ZY 1):=R;by_cases hk:ky=key
  ·subst hk;have fo:=q.found I;simp[evs,R,q1,g1,g4];refine Ky _ _ _ _ ?_ ?_ fo F<;>simp
  ·have ad:¬(ky:Int)=(key:Int):=oM
   have G:=ab oM (fun x=>hk x.2);rw[if_neg iS]at G;simp(disch:=omega)[evs,fwrap_i64,R,q1,g0,g1,g4,eq_false ad,(oM:¬(1:Int)=0),(oM:¬(1:Int)=2),l1,len,rm];refine G _ ?_ ?_ ?_ ?_ ?_<;>simp[g0,g1,g5,J,gi]
 ·have Z:=Z;subst Z;replace R:ai D h.next 0=some (ZY 2):=R;have G:=ab oM oM;cases g with
  |none=>
   rw[if_pos ⟨rfl,rfl⟩]at G;simp(disch:=omega)[evs,fwrap_i64,R,g0,g4,J,(oM:¬(2:Int)=1),(oM:¬(2:Int)=0),gi,(oM:(-1:Int)<0),l1,len,rm];refine G _ ?_ ?_ ?_ ?_ ?_<;>simp[g0,g1,g5,gi]
  |some x=>
   rw[if_neg iS]at G;simp(disch:=omega)[evs,fwrap_i64,R,g0,g4,J,(oM:¬(2:Int)=1),(oM:¬(2:Int)=0),gi,eq_false (oM:¬(x:Int)<0),l1,len,rm];refine G _ ?_ ?_ ?_ ?_ ?_<;>simp[g0,g1,g5,J,gi]
theorem xr(a n:Nat)(b:Int)(hb:b=n)(h:n≠0):aP (.ib .rem) [ZX (a:Int),ZX b]=some (ZX ((a%n:Nat):Int)):=by
 exact ya5
theorem qO{b:Nat}{M U:V}{sl:List bj}(w:WF h)(ob:Own h b [v,M,U])(tb:Tb h v S sl)(op:Opn mix sl)(hn:sl.length<1000000)(hk:key<18446744073709551616):
 ay go 277 [.ptr b 0,ZX (key:Int)] h fun u h'=>∃at' found,u=.tup [ZZ ((at':Nat):Int),.bool found]/\Looked mix sl key at' found/\Fr [] h h':=by
 have l0:=ob.l1 0;have len:=tb.recs.len;have pos:=op.pos;have J:=Ng (h:=h) hk;generalize mix=mx at op J;have rm:=xr (mx key) sl.length (sl.length:Nat) rfl oM;have rl:mx key%sl.length<sl.length:=QR _ pos;refine aa ?_ g108x rfl;simp only[evs,seval];refine Lu (fun k env R=>Fr [] h R/\∃j g,Seek mx sl key j g/\env.get 0=some (.ptr b 0)/\env.get 1=some (ZX (key:Int))/\env.get 4=some (ZZ (pth (mx key) sl.length j:Nat))/\env.get 5=some (.bool false)/\
  env.get 6=some (ZZ (gi g))/\k=sl.length-j) (sl.length-1) oM ?_ ?_
 ·simp only[evs,seval,eff];refine ae J ?_;rintro _ _ ⟨rfl,R⟩;replace R:=R.symm;subst R;have I:aB .u64 (sl.length:Int)=(sl.length:Int):=fwrap_u64 _ oM oM;simp(disch:=omega) only[evs,seval,DF,eff,fwrap_i64,l0,len,I,rm];refine sP w ob tb op (Seek.start op key) hn ?_ ?_ ?_ ?_ ?_ ?_ ?_
  ·simp
  ·simp
  ·rw[Ho];simp
  ·simp
  ·simp[gi]
  ·intro Z h' at' found e4 e5 L F;show jo _ _ _ _ _;simp only[evs,e4,e5];exact⟨_,_,rfl,L,F⟩
  ·grind
 ·rintro k env R ⟨F,j,g,q,g0,g1,g4,g5,g6,rfl⟩;have jl:=q.jl;refine sP F.wf (F.get ob) (tb.fr F) op q hn g0 g1 g4 g5 g6 ?_ ?_
  ·intro Z h' at' found e4 e5 L D;show jo _ _ _ _ _;simp only[evs,e4,e5];exact⟨_,_,rfl,L,F.then D⟩
  ·intro Z h' g' q1 a0 a1 a4 a5 a6 D;exact⟨rfl,sl.length-(j+1),oM,F.then D,j+1,g',q1,a0,a1,a4,a5,a6,rfl⟩
structure KmT(h:Heap)(b S:Nat)(v:V)(sl:List bj)(m:Nat->Option Nat)(c t:Nat):Prop where
 ob:Own h b [v,ZZ (c:Int),ZZ (t:Int)]
 tb:Tb h v S sl
 op:Opn mix sl
 n8:8<=sl.length
 nb:sl.length<=20000
 c1:cnS 1 sl=c
 c2:cnS 2 sl=t
 mp:∀k x:Nat,m k=some x↔∃i:Nat,sl[i]? =some (1,k,x)
 kb:∀s∈sl,s.2.1<18446744073709551616/\s.2.2<4611686018427387904
def Km(h:Heap)(b S:Nat)(m:Nat->Option Nat)(c:Nat):Prop:=
 (Own h b [.nils,ZZ 0,ZZ 0]/\c=0/\∀k,m k=none)\/∃v sl t,KmT h b S v sl m c t/\4*(c+t)<=3*sl.length
theorem KmT.fr{b:Nat}{sl:List bj}(k:KmT h b S v sl m c t)(f:Fr [] h h'):KmT h' b S v sl m c t:={k with ob:=f.get k.ob,tb:=k.tb.fr f}
theorem Km.fr{b:Nat}(k:Km h b S m c)(f:Fr [] h h'):Km h' b S m c:=by
 rcases k with⟨o,x⟩|⟨v,sl,t,k,x⟩
 ·exact .inl ⟨f.get o,x⟩
 ·exact .inr ⟨v,sl,t,k.fr f,x⟩
theorem KmT.sum{b:Nat}{sl:List bj}(k:KmT h b S v sl m c t):cnS 0 sl+c+t=sl.length:=by
 have:=Dm k.op.st;rw[k.c1,k.c2]at this;exact this
theorem KmT.ne{b:Nat}{sl:List bj}(k:KmT h b S v sl m c t):b≠S:=by
 rintro rfl;have e:=k.ob.uniq k.tb.2;have:=congrArg List.length e;rw[qi]at this;have:=k.n8;simp at *;omega
theorem KmT.some_c{b:Nat}{sl:List bj}(k:KmT h b S v sl m c t){key x:Nat}(e:m key=some x):0<c:=by
 obtain⟨i,Z⟩:=(k.mp key x).1 e;rw[<-k.c1];unfold cnS;rw[TQ];exact⟨_,Of Z,iS⟩
theorem Ku(w:WF h):ay go 142 [] h fun u h'=>∃b,u=.ptr b 0/\h.next<=b/\Km h' b b (fun _=>none) 0/\Fr [] h h':=by
 refine aa ?_;simp only[evs,seval];exact⟨_,rfl,pi _,.inl ⟨Ro w _,rfl,fun _=>rfl⟩,QW w _⟩
theorem Kv{b:Nat}(k:Km h b S m c):ay go 276 [.ptr b 0] h fun u h'=>u=ZZ (c:Int)/\h'=h:=by
 have q:ai h b 1=some (ZZ (c:Int)):=by
  rcases k with⟨o,rfl,_⟩|⟨v,sl,t,k,_⟩
  ·exact o.ld1 1
  ·exact k.ob.ld1 1
 refine aa ?_;simp[evs,q]
def Mn(o:Option Nat):V:=match o with
 |some x=>.tup [ ZZ (x:Int),.bool true]
 |none=>.tup [ZZ 0,.bool false]
theorem Kw{b:Nat}(w:WF h)(k:Km h b S m c)(hk:key<18446744073709551616):ay go 211 [.ptr b 0,ZX (key:Int)] h fun u h'=>u=Mn (m key)/\Fr [] h h':=by
 have k0:=k;refine aa ?_;simp only[evs,seval];refine ae (Kv k) ?_;rintro _ _ ⟨rfl,J⟩;replace J:=J.symm;subst J;by_cases U:(c:Int)=0
 ·have e:m key=none:=by
   rcases k with⟨o,_,D⟩|⟨v,sl,t,k,_⟩
   ·exact D key
   ·cases e:m key with
    |none=>rfl
    |some x=>have:=k.some_c e;omega
  rw[e];simp only[evs,seval,U];exact⟨rfl,Qw w⟩
 ·rcases k with⟨o,h0,D⟩|⟨v,sl,t,k,_⟩
  ·exact absurd oM U
  ·simp only[evs,seval,eq_false U];refine ae (qO w k.ob k.tb k.op (by have:=k.nb;omega) hk) ?_;rintro _ h2 ⟨at',found,rfl,L,F⟩;cases found
   ·have e:m key=none:=by
     cases e:m key with
     |none=>rfl
     |some x=>obtain⟨i,hi⟩:=(k.mp key x).1 e;exact absurd hi ((L.no rfl).1 i x)
    rw[e];simp only[evs,seval];exact⟨rfl,F⟩
   ·obtain⟨x,hx⟩:=L.yes rfl;have e:=(k.mp key x).2 ⟨_,hx⟩;have Z:=k.fr F;have ix:=Z.tb.ix _ L.lt;have l0:=Z.ob.l1 0;have l2:ai h2 S (at'*3+2)=some (ZZ (x:Int)):=by
     obtain⟨b1,o1,y,I,e2,_,R⟩:=Rg rR Z.tb.recs .i64 (at':Nat) oM (by have:=L.lt;omega);rw[ix]at I;obtain⟨rfl,rfl⟩:S=b1/\at'*3=o1:=by simpa using I
     simp only[so]at R;rw[hx]at R;cases R;exact(e2 2 oM).trans rfl
    rw[e];simp only[evs,seval,l0,ix,l2];exact⟨rfl,F⟩
theorem mS(x:bj):∀(sl:List bj)(i:Nat),i<sl.length→bF (sl.flatMap sc) (i*3) (sc x)=some ((sl.set i x).flatMap sc)
 |[],i,h=>by simp at h
 |y::l,0,_=>by
  show bF (V.int .u8 (y.1:Int)::V.int .u64 (y.2.1:Int)::V.int .i64 (y.2.2:Int)::l.flatMap sc) 0 [V.int .u8 (x.1:Int),V.int .u64 (x.2.1:Int),V.int .i64 (x.2.2:Int)]=_;rw[bC,bC,bC,uN];rfl
 |y::l,i+1,h=>by
  have ih:=mS x l i (eV h);rw[(oM:(i+1) *3=i*3+1+1+1)];show bF (V.int .u8 (y.1:Int)::V.int .u64 (y.2.1:Int)::V.int .i64 (y.2.2:Int)::l.flatMap sc) (i*3+1+1+1) (sc x)=_;rw[bH,bH,bH,ih];rfl
theorem wg(k v v':Nat):∀(sl:List bj)(i:Nat),sl[i]? =some (1,k,v)→bF (sl.flatMap sc) (i*3+2) [V.int .i64 (v':Int)]=some ((sl.set i (1,k,v')).flatMap sc)
 |[],i,h=>by simp at h
 |y::l,0,h=>by
  simp at h;subst h;show bF (V.int .u8 ((1:Nat):Int)::V.int .u64 (k:Int)::V.int .i64 (v:Int)::l.flatMap sc) (0+1+1) [V.int .i64 (v':Int)]=_;rw[bH,bH,bC,uN];rfl
 |y::l,i+1,h=>by
  have ih:=wg k v v' l i (eV h);rw[(oM:(i+1) *3+2=i*3+2+1+1+1)];show bF (V.int .u8 (y.1:Int)::V.int .u64 (y.2.1:Int)::V.int .i64 (y.2.2:Int)::l.flatMap sc) (i*3+2+1+1+1) [V.int .i64 (v':Int)]=_;rw[bH,bH,bH,ih];rfl
theorem Tb.put{h1:Heap}{sl:List bj}{x:bj}(t:Tb h v S sl)(o:Own h1 S ((sl.set i x).flatMap sc)):Tb h1 v S (sl.set i x):=⟨by rw[Rd];exact t.1,o⟩
theorem mi{sl:List bj}{x:bj}(kb:∀s∈sl,s.2.1<18446744073709551616/\s.2.2<4611686018427387904)(hx:x.2.1<18446744073709551616/\x.2.2<4611686018427387904):∀s∈sl.set i x,s.2.1<18446744073709551616/\s.2.2<4611686018427387904:=by grind
theorem LP{sl:List bj}(h:2<=cnS 0 sl)(a:Nat):∃(i:Nat)(s:bj),i≠a/\sl[i]? =some s/\s.1=0:=by
 by_cases J:a<sl.length
 ·have e:=jE (c:=0) (x:=((1,0,0):bj)) (Qq J);have R:0<cnS 0 (sl.set a (1,0,0)):=by grind
  obtain⟨i,s,Z,U⟩:=Al (n:=0) R;rcases gC _ _ _ _ _ Z with⟨_,rfl,_⟩|⟨I,Z⟩
  ·cases U
  ·grind
 ·obtain⟨i,s,Z,U⟩:=Al (n:=0) (sl:=sl) oM;have:=(QD.1 Z).1;exact⟨i,s,oM,Z,U⟩
theorem tC{sl:List bj}{s:bj}(h:sl[i]? =some s):cnS c (sl.take (i+1))=cnS c (sl.take i)+(if s.1=c then 1 else 0):=by
 unfold cnS;rw[QS,h,List.countP_append];simp[TL]
theorem Ak(c i:Nat)(sl:List bj):cnS c (sl.take i)<=cnS c sl:=by
 unfold cnS;exact List.Sublist.countP_le (List.take_sublist i sl)
def Old(h:Heap)(b S:Nat)(v:V)(ol:List bj):Prop:=(v=.nils/\ol=[])\/(Tb h v S ol/\b≠S/\S<h.next)
theorem Old.recs{b:Nat}{ol:List bj}(o:Old h b S v ol):Recs sc 3 h v ol:=by
 rcases o with⟨rfl,rfl⟩|⟨t,_⟩
 ·exact SH
 ·exact t.recs
theorem Old.fr{b:Nat}{ol:List bj}(o:Old h b S v ol)(f:Fr [b] h h'):Old h' b S v ol:=by
 rcases o with o|⟨t,ne,lt⟩
 ·exact .inl o
 ·exact .inr ⟨⟨t.1,f.own S _ (by simp;exact fun e=>ne e.symm) t.2⟩,ne,QH lt f.next⟩
structure Moved(sl ol:List bj)(i:Nat):Prop where
 op:Opn mix sl
 c1:cnS 1 sl=cnS 1 (ol.take i)
 c2:cnS 2 sl=0
 mp:∀k x:Nat,(∃j:Nat,sl[j]? =some (1,k,x))↔∃j:Nat,j<i/\ol[j]? =some (1,k,x)
 kb:∀s∈sl,s.2.1<18446744073709551616/\s.2.2<4611686018427387904
theorem Moved.skip{sl ol:List bj}{s:bj}(m:Moved sl ol i)(h:ol[i]? =some s)(Z:s.1≠1):Moved sl ol (i+1):=by
 refine{m with c1:=by rw[tC h,if_neg Z];exact m.c1,mp:=fun k x=>(m.mp k x).trans ⟨fun⟨j,a,b⟩=>⟨j,oM,b⟩,fun⟨j,a,b⟩=>?_⟩};refine⟨j,?_,b⟩;rcases Rn j i with q|q
 ·exact q
 ·have:j=i:=oM
  subst this;rw[h]at b;cases b;exact absurd rfl Z
theorem Moved.put{sl ol:List bj}{k a:Nat}(m:Moved sl ol i)(h:ol[i]? =some (1,k,x))(L:Looked mix sl k a false)(hk:k<18446744073709551616)(hx:x<4611686018427387904)(rm:2<=cnS 0 sl):Moved (sl.set a (1,k,x)) ol (i+1):=by
 obtain⟨no,⟨s0,Z,h0⟩,_⟩:=L.no rfl;have z2:s0.1≠2:=by
  intro e;have:=m.c2;unfold cnS at this;rw[List.countP_eq_zero]at this;exact this s0 (Of Z) iX
 have e1:=jE (c:=1) (x:=((1,k,x):bj)) Z;have D:=jE (c:=2) (x:=((1,k,x):bj)) Z;simp only[if_neg h0,if_neg z2,if_true]at e1 D;refine⟨m.op.put L x (LP rm a),?_,?_,fun k' I=>⟨?_,?_⟩,mi m.kb ⟨hk,hx⟩⟩
 ·rw[tC h,if_pos rfl,<-m.c1];omega
 ·have:=m.c2;simp at D;omega
 ·rintro⟨j,U⟩;rcases gC _ _ _ _ _ U with⟨_,e,_⟩|⟨cj,U⟩
  ·grind
  ·obtain⟨J,l',e'⟩:=(m.mp k' I).1 ⟨j,U⟩;exact⟨J,oM,e'⟩
 ·rintro⟨j,lj,U⟩;by_cases c:j=i
  ·subst c;rw[h]at U;cases U;exact⟨a,jy _ L.lt⟩
  ·obtain⟨J,R⟩:=(m.mp k' I).2 ⟨j,oM,U⟩;refine⟨J,?_⟩;rw[Ss]
   ·exact R
   ·grind
theorem Ep(n:Nat):gY [ZY 0,ZX 0,ZZ 0] n=(List.replicate n ((0,0,0):bj)).flatMap sc:=by
 induction n with
 |zero=>rfl
 |succ n ih=>show[ZY 0, ZX 0, ZZ 0]++gY _ n=_;rw[ih,List.replicate_succ];rfl
theorem Aj(c n:Nat)(U:c≠0):cnS c (List.replicate n (0,0,0))=0:=by
 unfold cnS;rw[List.countP_eq_zero];intro s Z;rw[SL Z];simp;omega
theorem yP{b q:Nat}{ov T0:V}{ol:List bj}(w:WF h)(ob:Own h b [ov,ZZ (c:Int),T0])(old:Old h b S ov ol)(o1:ov.one=true)(t1:T0.one=true)(hl:ol.length<=20000)
 (uq:∀i j k v w:Nat,ol[i]? =some (1,k,v)->ol[j]? =some (1,k,w)->i=j) (oc:cnS 1 ol=c) (kb:∀s∈ol,s.2.1<18446744073709551616/\s.2.2<4611686018427387904) (hc:c<=q) (q1:1<=q) (q2:q<=4097):
 ay go 278 [.ptr b 0,ZZ (q:Int)] h fun u h'=>u=.tup []/\∃n S' sl,h.next<=S'/\sl.length=n/\8<=n/\n<=20000/\2*q<=n/\Own h' b [.slice S' 0 n n,ZZ (c:Int),ZZ 0]/\Tb h' (.slice S' 0 n n) S' sl/\Moved sl ol ol.length/\Fr [b] h h':=by
 have bl:=ob.lt w;refine aa ?_;simp only[evs,seval];refine aw (fun k env U=>h=U/\∃n:Nat,env.get 0=some (.ptr b 0)/\env.get 1=some (ZZ (q:Int))/\env.get 4=some (ZZ (n:Int))/\8<=n/\n<=16388/\k=2*q-n) (2*q-8) oM ?_ ?_
 ·exact⟨rfl,8,iS,iS,iS,oM,oM,rfl⟩
 rintro k env U ⟨rfl,n,g0,g1,g4,n8,nb,rfl⟩;by_cases hn:(n:Int)<2*(q:Int)
 ·simp(disch:=omega) only[evs,seval,fwrap_i64,g1,g4,eq_true hn];refine rqn ⟨2*q-n*2,oM,rfl,n*2,iX,iX,iS,oM,oM,rfl⟩
  done
 have l0:=ob.l1 0;have ms:=Ep n;have mk:Ay h [ZY 0,ZX 0,ZZ 0] 24 (ZZ (n:Int)) (ZZ (n:Int))=some (.slice h.next 0 n n,halloc h ((List.replicate n ((0,0,0):bj)).flatMap sc)):=by
  rw[<-ms];show(bif Nat.ble n n&&Nat.blt n 9223372036854775808&&Nat.ble (24*n) 281474976710656 then some (V.slice h.next 0 n n,halloc h (gY [ZY 0,ZX 0,ZZ 0] n))else none)=_;rw[show Nat.ble n n=true by rw[RW];omega,show Nat.blt n 9223372036854775808=true by rw[QJ];omega,show Nat.ble (24*n) 281474976710656=true by rw[RW];omega];rfl
 simp(disch:=omega) only[evs,seval,fwrap_i64,g0,g1,g4,eq_false hn,l0,mk];have w0:=w.halloc ((List.replicate n ((0,0,0):bj)).flatMap sc);refine stu w0 (ob.halloc w _) ?_;rintro h1 ab F1 n1;simp only[evs,seval,g0];refine stu F1.wf ab ?_;rintro h2 ah F2 n2;have bn:h.next≠b:=oM
 have aj:=F2.own _ _ (eV bn) (F1.own _ _ (eV bn) (Ro w _));have Fa:=((QW w _).trans (F1.trans F2 w0 (fun x hx=>.inl hx) (fun x hx=>.inl hx)) w (fun x hx=>by simp at hx) (fun x hx=>.inl hx));have len:=old.recs.len;simp only[evs,seval,len];refine aw (fun k env U=>∃(i:Nat)(sl:List bj),Fr [b] h U/\Own U b [.slice h.next 0 n n,ZZ (c:Int),ZZ 0]/\Tb U (.slice h.next 0 n n) h.next sl/\sl.length=n/\Moved sl ol i/\env.get 0=some (.ptr b 0)/\env.get 28=some ov/\
  env.get 29=some (ZZ (ol.length:Int))/\env.get 30=some (ZZ (i:Int))/\i<=ol.length/\k=ol.length-i) ol.length oM ?_ ?_
 ·refine⟨0,List.replicate n (0,0,0),Fa,ah,⟨.inl iS,aj⟩,iS,⟨Opn.zero _ _ oM,?_,Aj 2 n oM,fun k x=>⟨?_,?_⟩,?_⟩,iX,iS,iS,iS,oM,rfl⟩
  ·rw[Aj 1 n oM];simp[cnS]
  ·grind
  ·omega
  ·grind
 clear ab F1 n1 ah F2 n2 aj Fa w0 g0 g1 g4 l0 mk ms;rintro k env U ⟨i,sl,F,oB,D,sn,mv,g0,ak,ad,Z,hi,rfl⟩;by_cases J:(i:Int)<(ol.length:Int)
 ·have wh:=F.wf;obtain⟨b1,p1,⟨s,ky,vl⟩,e1,_,e3,I⟩:=Rg rR (old.fr F).recs .i64 (i:Int) oM J;simp only[so]at I;have hk:=kb _ (Of I);simp only[evs,seval,ak,ad,Z,eq_true J,e1,e3];refine stu (wh.halloc _) (Ro wh _) ?_;rintro h3 o3 F3 n3;have R:Fr [] U h3:=(QW wh _).trans F3 wh (fun _ hx=>by simp at hx) (fun x hx=>.inr (by simp at hx;omega));by_cases hs:(s:Int)=1
  ·have ax:s=1:=oM
   subst ax;have q0:=o3.l1 0;have ao:=o3.l1 1;simp only[evs,seval,q0,ao,g0];refine ae (qO R.wf (R.get oB) (D.fr R) mv.op oM hk.1) ?_;rintro _ h4 ⟨at',found,rfl,L,F4⟩;cases found;case true=>
    obtain⟨x,hx⟩:=L.yes rfl;obtain⟨j,lj,hj⟩:=(mv.mp ky x).1 ⟨_,hx⟩;have:=uq _ _ _ _ _ hj I;omega
   have Fy:=R.then F4;have l0:=(Fy.get oB).l1 0;have q3:=(F4.get o3).la 3
   have ix:=(D.fr Fy).ix at' L.lt;simp only[evs,seval,eff,g0,l0,q3,ix];refine ac Fy.wf (D.fr Fy).2 rfl rfl (mS (1,ky,vl) sl at' L.lt) ?_;rintro h5 o5 F5 n5;have room:2<=cnS 0 sl:=by
    have e:=Dm mv.op.st;have:=mv.c2;have a1:=mv.c1;have a2:=tC (c:=1) I;have a3:=Ak 1 (i+1) ol;simp only[if_true]at a2;omega
   simp(disch:=omega) only[evs,seval,DF,fwrap_i64,Z,l0,q3];refine rqn ⟨ol.length-(i+1),oM,i+1,sl.set at' (1,ky,vl),(F.trans Fy w (fun x hx=>.inl hx) (fun x hx=>by simp at hx)).trans F5 w (fun x hx=>.inl hx) (fun x hx=>.inr (by simp at hx;omega)),F5.own b _ (by simpa using Sx bn) (Fy.get oB),⟨by rw[Rd];exact D.1,o5⟩,by rw[Rd];exact sn,
    mv.put I L hk.1 hk.2 room,iX,iX,iX,iS,oM,rfl⟩
   done
  ·have q0:=o3.l1 0;simp(disch:=omega) only[evs,seval,fwrap_i64,q0,eq_false hs,Z];refine rqn ⟨ol.length-(i+1),oM,i+1,sl,F.trans R w (fun x hx=>.inl hx) (fun x hx=>by simp at hx),R.get oB,D.fr R,sn,mv.skip I (by simp only[];omega),iX,iX,iX,iS,oM,rfl⟩
   done
 ·have:i=ol.length:=oM
  subst this;simp only[evs,seval,ad,Z,eq_false J];exact⟨n,h.next,sl,pi _,sn,n8,oM,oM,oB,D,mv,F⟩
theorem g168x : F.get 212 = some fn168x := rfl
open Go.Ev.St
def lJ(m:Nat->Option Nat)(key x:Nat):Nat->Option Nat:=fun k=>if k=key then some x else m k
theorem KmT.put{b a R:Nat}{sl:List bj}(k:KmT h b S v sl m c t)(L:Looked mix sl key a false)(I:key<18446744073709551616)(hx:x<4611686018427387904)(fill:4*(c+t+1)<=3*sl.length)
 (ob:Own h' b [v,ZZ ((c+1:Nat):Int),ZZ (R:Int)]) (o:Own h' S ((sl.set a (1,key,x)).flatMap sc)) (ht:∀s:bj,sl[a]? =some s->R+(if s.1=2 then 1 else 0)=t):KmT h' b S v (sl.set a (1,key,x)) (lJ m key x) (c+1) R:=by
 obtain⟨no,⟨s0,Z,h0⟩,_⟩:=L.no rfl;have D:=jE (c:=1) (x:=((1,key,x):bj)) Z;have e2:=jE (c:=2) (x:=((1,key,x):bj)) Z;simp only[if_neg h0,if_true]at D;have ht:=ht s0 Z;have c1:=k.c1;have c2:=k.c2;have rm:2<=cnS 0 sl:=by have:=k.sum;have:=k.n8;omega
 refine⟨ob,⟨by rw[Rd];exact k.tb.1,o⟩,k.op.put L x (LP rm a),by rw[Rd];exact k.n8,by rw[Rd];exact k.nb,oM,?_,fun k' J=>⟨?_,?_⟩,mi k.kb ⟨I,hx⟩⟩
 ·grind
 ·intro e;unfold lJ at e;by_cases ck:k'=key
  ·rw[if_pos ck]at e;cases e;subst ck;exact⟨a,jy _ L.lt⟩
  ·rw[if_neg ck]at e;obtain⟨i,U⟩:=(k.mp k' J).1 e;refine⟨i,?_⟩;rw[Ss]
   ·exact U
   ·grind
 ·rintro⟨i,U⟩;unfold lJ;rcases gC _ _ _ _ _ U with⟨_,e,_⟩|⟨ci,hj⟩
  ·grind
  ·by_cases ck:k'=key
   ·grind
   ·rw[if_neg ck];exact(k.mp k' J).2 ⟨i,hj⟩
theorem CD{b:Nat}{sl:List bj}{R:V->Heap->Prop}(w:WF h)(k:KmT h b S v sl m c t)(hk:key<18446744073709551616)(hx:x<4611686018427387904)(hm:m key=none)(fill:4*(c+t+1)<=3*sl.length)
 (g0:env.get 0=some (.ptr b 0)) (g1:env.get 1=some (ZX (key:Int))) (g2:env.get 2=some (ZZ (x:Int)))
 (K:∀h' sl' t',KmT h' b S v sl' (lJ m key x) (c+1) t'->sl'.length=sl.length->t'<=t->Fr [b,S] h h'->R (ZZ 0) h'):W go JZ env h (jo [.t 6] R):=by
 have cb:=k.sum;have nb:=k.nb;have ne:=k.ne;simp only[evs,JZ,g0,g1];refine ae (qO w k.ob k.tb k.op oM hk) ?_;rintro _ h2 ⟨at',found,rfl,L,F⟩;cases found;case true=>
  obtain⟨y,hy⟩:=L.yes rfl;have:=(k.mp key y).2 ⟨_,hy⟩;rw[hm]at this;cases this
 have U:=k.fr F;have ix:=U.tb.ix _ L.lt;have l0:=U.ob.l1 0;obtain⟨no,⟨s0,J,h0⟩,_⟩:=L.no rfl;have l3:ai h2 S (at'*3)=some (ZY (s0.1:Int)):=by
  obtain⟨b1,o1,y,e1,e2,_,e4⟩:=Rg rR U.tb.recs .i64 (at':Nat) oM (by have:=L.lt;omega);rw[ix]at e1;obtain⟨rfl,rfl⟩:S=b1/\at'*3=o1:=by simpa using e1
  simp only[so]at e4;rw[J]at e4;cases e4;exact(e2 0 oM).trans rfl
 by_cases ht:(s0.1:Int)=2
 ·have t1:1<=t:=by
   rw[<-k.c2];have:0<cnS 2 sl:=by
    unfold cnS;rw[TQ];exact⟨s0,Of J,by simp;omega⟩
   exact this
  have l2:=U.ob.l1 2;simp(disch:=omega)[evs,fwrap_i64,l0,ix,l3,eq_true ht,g0,l2];refine stu F.wf U.ob ?_;rintro h3 o3 F3 n3;have ab:Tb h3 v S sl:=⟨U.tb.1,F3.own S _ (by simpa using Sx ne) U.tb.2⟩;have ah:=o3.l1 0;have ad:=ab.ix _ L.lt;simp[evs,g0,g1,g2,ah,ad];refine ac F3.wf ab.2 rfl rfl (mS (1,key,x) sl at' L.lt) ?_;rintro h4 o4 I n4;have Z:=I.own b _ (eV ne) o3;have l1:=Z.l1 1;simp(disch:=omega)[evs,fwrap_i64,g0,l1];refine stu I.wf Z ?_;rintro h5 o5 D n5;simp[evs];refine K h5 (sl.set at' (1,key,x)) (t-1) (k.put L hk hx fill ?_ (D.own S _ (by simpa using Sx ne) o4) ?_) (Rd ..) oM ?_
  ·rw[(oM:((t-1:Nat):Int)=(t:Int)-1)];exact o5
  ·intro s hs;rw[J]at hs;cases hs;rw[if_pos oM];omega
  ·have A:Fr [b,S] h2 h4:=F3.trans I F.wf (fun x hx=>.inl (by simp at hx;simp[hx])) (fun x hx=>.inl (by simp at hx;simp[hx]));have B:=A.trans D F.wf (fun x hx=>.inl hx) (fun x hx=>.inl (by simp at hx;simp[hx]));exact F.trans B w (fun x hx=>by simp at hx) (fun x hx=>.inl hx)
 ·simp[evs,l0,ix,l3,eq_false ht,g0,g1,g2];refine ac F.wf U.tb.2 rfl rfl (mS (1,key,x) sl at' L.lt) ?_;rintro h4 o4 I n4;have Z:=I.own b _ (eV ne) U.ob;have l1:=Z.l1 1;simp(disch:=omega)[evs,fwrap_i64,g0,l1];refine stu I.wf Z ?_;rintro h5 o5 D n5;simp[evs];refine K h5 (sl.set at' (1,key,x)) t (k.put L hk hx fill o5 (D.own S _ (by simpa using Sx ne) o4) ?_) (Rd ..) oM ?_
  ·intro s hs;rw[J]at hs;cases hs;rw[if_neg oM];omega
  ·have B:Fr [b,S] h2 h5:=I.trans D F.wf (fun x hx=>.inl (by simp at hx;simp[hx])) (fun x hx=>.inl (by simp at hx;simp[hx]));exact F.trans B w (fun x hx=>by simp at hx) (fun x hx=>.inl hx)
theorem Moved.kmt{b Z:Nat}{sl ol:List bj}(M:Moved sl ol ol.length)(R:sl.length=n)(n8:8<=n)(nb:n<=20000)(ob:Own h' b [.slice Z 0 n n,ZZ (c:Int),ZZ 0])(tb:Tb h' (.slice Z 0 n n) Z sl)
 (oc:cnS 1 ol=c) (mp:∀k x:Nat,m k=some x↔∃i:Nat,ol[i]? =some (1,k,x)):KmT h' b Z (.slice Z 0 n n) sl m c 0:=by
 refine⟨ob,tb,M.op,oM,oM,by rw[M.c1,Sr];exact oc,M.c2,fun k x=>(mp k x).trans ⟨fun⟨i,hi⟩=>(M.mp k x).2 ⟨i,(QD.1 hi).1,hi⟩,fun q=>?_⟩,M.kb⟩;obtain⟨j,_,U⟩:=(M.mp k x).1 q;exact⟨j,U⟩
theorem CE{b:Nat}{R:V->Heap->Prop}(w:WF h)(k:Km h b S m c)(hc:c<4096)(hk:key<18446744073709551616)(hx:x<4611686018427387904)(hm:m key=none)
 (g0:env.get 0=some (.ptr b 0)) (g1:env.get 1=some (ZX (key:Int))) (g2:env.get 2=some (ZZ (x:Int)))
 (K:∀h' S',(S'=S\/h.next<=S')->Km h' b S' (lJ m key x) (c+1)->Fr [b,S] h h'->R (ZZ 0) h'):W go Hm env h (jo [.t 6] R):=by
 have fin:∀{J:Heap}{Z:T V}{S':Nat}{v:V}{sl:List bj}{t:Nat},Fr [b] h J->h.next<=S'->KmT J b S' v sl m c t->4*(c+t+1)<=3*sl.length->Z.get 0=some (.ptr b 0)->Z.get 1=some (ZX (key:Int))->Z.get 2=some (ZZ (x:Int))->W go JZ Z J (jo [.t 6] R):=by
  intro J Z S' v sl t F hS k2 fill a0 a1 a2;refine CD F.wf k2 hk hx hm fill a0 a1 a2 fun h' U D k' e1 e2 F'=>K h' S' (.inr hS) (.inr ⟨v,U,D,k',oM⟩) ?_;exact F.trans F' w (fun x hx=>.inl (by simp at hx;simp[hx])) (fun x hx=>by
   simp at hx;rcases hx with rfl|rfl
   ·exact .inl iS
   ·exact .inr hS)
 rcases k with⟨o,rfl,h1⟩|⟨v,sl,t,k,_⟩
 ·have I:=o.l1 0;have l1:=o.l1 1;have l2:=o.l1 2;simp(disch:=omega)[evs,DF,eff,fwrap_i64,Hm,g0,I,l1,l2,(oM:¬(0:Int)=4096)];refine ae (yP (S:=b) (q:=1) (c:=0) (ol:=[]) w o (.inl ⟨rfl,rfl⟩) rfl rfl iS iS rfl iS oM oM oM) ?_;rintro _ J ⟨rfl,n,S',sl,hS,sn,n8,nb,q2,ob,tb,M,F⟩;simp only[evs];exact fin F hS (M.kmt sn n8 nb ob tb rfl (fun k x=>by rw[h1];simp)) oM iX iX iX
 ·have cb:=k.sum;have nb:=k.nb;have I:=k.ob.l1 0;have l1:=k.ob.l1 1;have l2:=k.ob.l1 2;have len:=k.tb.recs.len;have c0:¬(c:Int)=4096:=oM
  by_cases hf:3*(sl.length:Int)<4*((c:Int)+(t:Int)+1)
  ·simp(disch:=omega)[evs,DF,eff,fwrap_i64,Hm,g0,I,l1,l2,len,c0,eq_true hf];have o1:v.one=true:=by rcases k.tb.1 with rfl|rfl<;>rfl
   refine ae (yP (S:=S) (q:=c+1) w k.ob (.inr ⟨k.tb,k.ne,k.tb.2.lt w⟩) o1 rfl nb k.op.uniq k.c1 k.kb oM oM oM) ?_;rintro _ J ⟨rfl,n,S',U,hS,sn,n8,ab,q2,ob,tb,M,F⟩;simp only[evs];exact fin F hS (M.kmt sn n8 ab ob tb k.c1 k.mp) oM iX iX iX
  ·simp(disch:=omega)[evs,DF,eff,fwrap_i64,Hm,g0,I,l1,l2,len,c0,eq_false hf];refine CD w k hk hx hm oM ?_ ?_ ?_ fun h' U D k' e1 e2 F'=>K h' S (.inl rfl) (.inr ⟨v,U,D,k',oM⟩) F'
   ·simp[g0]
   ·simp[g1]
   ·simp[g2]
theorem Kt{b:Nat}(w:WF h)(k:Km h b S m c)(hc:c<4096\/(m key).isSome=true)(k0:0<key)(I:key<18446744073709551616)(hx:x<4611686018427387904):
 ay go 212 [.ptr b 0,ZX (key:Int),ZZ (x:Int)] h fun u h'=>u=ZZ 0/\∃S',(S'=S\/h.next<=S')/\Km h' b S' (lJ m key x) (if(m key).isSome=true then c else c+1)/\Fr [b,S] h h':=by
 have kz:¬(key:Int)=0:=oM
 have J:=k;refine aa ?_ g168x rfl;rcases k with⟨o,rfl,h1⟩|⟨v,sl,t,k,fill⟩
 ·have D:=o.l1 0;simp only[evs,seval,kz,D,(oM:¬(0:Int)<0)];refine CE w J oM I hx (h1 key) ?_ ?_ ?_ fun h' S' a b c=>?_
  ·simp
  ·simp
  ·simp
  ·rw[h1];exact⟨rfl,S',a,b,c⟩
 ·have D:=k.ob.l1 0;have len:=k.tb.recs.len;have n8:=k.n8;have nb:=k.nb;simp only[evs,seval,kz,D,len,eq_true (oM:(0:Int)<(sl.length:Int))];refine ae (qO w k.ob k.tb k.op oM I) ?_;rintro _ h2 ⟨at',found,rfl,L,F⟩;cases found
  ·have hm:m key=none:=by
    cases e:m key with
    |none=>rfl
    |some y=>obtain⟨i,Z⟩:=(k.mp key y).1 e;exact absurd Z ((L.no rfl).1 i y)
   rw[hm]at hc|-;simp only[evs,seval];refine CE F.wf (J.fr F) (eV hc) I hx hm ?_ ?_ ?_ fun h' S' a b' c'=>⟨rfl,S',a.imp id (fun q=>QY F.next q),by simpa using b',F.trans c' w (fun x hx=>by simp at hx) (fun x hx=>.inl hx)⟩
   ·simp
   ·simp
   ·simp
  ·obtain⟨y,U⟩:=L.yes rfl;have hm:=(k.mp key y).2 ⟨_,U⟩;have R:=k.fr F;have ix:=R.tb.ix _ L.lt;have ne:=R.ne;have ab:=R.ob.l1 0;rw[hm];simp only[evs,seval,ab,ix];refine ac F.wf R.tb.2 rfl rfl (wg key y x sl at' U) ?_;rintro h3 o3 F3 n3;simp only[evs,seval];have e1:=jE (c:=1) (x:=((1,key,x):bj)) U;have e2:=jE (c:=2) (x:=((1,key,x):bj)) U;simp at e1 e2;refine⟨S,.inl rfl,.inr ⟨v,sl.set at' (1,key,x),t,⟨F3.own b _ (eV ne) R.ob,⟨by rw[Rd];exact k.tb.1,o3⟩,k.op.change U x,by rw[Rd];exact n8,by rw[Rd];exact nb,by have:=k.c1;first|omega|(simp;omega),by have:=k.c2;omega,?_,mi k.kb ⟨I,hx⟩⟩,by rw[Rd];first|exact fill|simpa using fill⟩,?_⟩
   ·intro k' x';unfold lJ;constructor
    ·intro e;by_cases ck:k'=key
     ·rw[if_pos ck]at e;cases e;subst ck;exact⟨at',jy _ L.lt⟩
     ·rw[if_neg ck]at e;obtain⟨i,Z⟩:=(k.mp k' x').1 e;refine⟨i,?_⟩;rw[Ss]
      ·exact Z
      ·rintro rfl;rw[U]at Z;cases Z;exact ck rfl
    ·rintro⟨i,Z⟩;rcases gC _ _ _ _ _ Z with⟨_,e,_⟩|⟨ci,hj⟩
     ·cases e;rw[if_pos rfl]
     ·have ck:k'≠key:=by rintro rfl;exact ci (k.op.uniq _ _ _ _ _ hj U)
      rw[if_neg ck];exact(k.mp k' x').2 ⟨i,hj⟩
   ·exact F.trans F3 w (fun x hx=>by simp at hx) (fun x hx=>.inl (by simp at hx;simp[hx]))
def TbC(e:Nat)(h:Heap)(v:V)(B:Nat)(C:List V)(N:Nat):Prop:=C.length=N*e/\((v=.nils/\N=0)\/(v=.slice B 0 N N/\Own h B C))
def Dst(e:Nat)(h:Heap)(B:Nat)(C:List V)(u:V)(o n:Nat):Prop:=o+n*e<=C.length/\((n=0/\(u=.nils\/∃b o c,u=.slice b o 0 c))\/∃cap,u=.slice B o n cap/\Own h B C)
variable {e : Nat} {h : Heap} {v u su : V} {B N : Nat} {C vs : List V}
theorem TbC.sl(a:TbC e h v B C N):Sl h e v N C:=by
 obtain⟨Z,⟨rfl,rfl⟩|⟨rfl,o⟩⟩:=a
 ·exact⟨Z,rfl⟩
 ·exact RM o Z
theorem TbC.one(a:TbC e h v B C N):v.one=true:=a.sl.one
theorem TbC.len(a:TbC e h v B C N):aP .lenS [v]=some (ZZ N):=a.sl.len
theorem TbC.fr{S:List Nat}(a:TbC e h v B C N)(f:Fr S h h')(hB:B∉S):TbC e h' v B C N:=by
 obtain⟨Z,⟨rfl,rfl⟩|⟨rfl,o⟩⟩:=a
 ·exact⟨Z,.inl ⟨rfl,rfl⟩⟩
 ·exact⟨Z,.inr ⟨rfl,f.own _ _ hB o⟩⟩
theorem Sl.ones{e:Nat}{cs:List V}(a:Sl h e v n cs)(b:Sl h e v n vs):cs=vs:=by
 have:=a.srcCells.symm.trans b.srcCells;exact Sd this
theorem TbC.part(a:TbC e h v B C N)(lo U:Bool)(bs:List V)(l r:Nat)(D:r<=N)(hl:l<=r)
 (Z:aO N N lo U false bs=some (l,r,none)) (I:0<e):
 ∃v',aP (.sl none e lo U false) (v::bs)=some v'/\Sl h e v' (r-l) ((C.drop (l*e)).take ((r-l) *e))/\Dst e h B C v' (l*e) (r-l):=by
 have hm:l*e+(r-l) *e<=C.length:=by
  rw[a.1,<-Sw];exact Rm _ oM
 obtain⟨R,⟨rfl,rfl⟩|⟨rfl,o⟩⟩:=a
 ·have h0:l=0:=oM
  have J:r=0:=oM
  subst h0 J;refine⟨.nils,by simp only[aP,dW,Z,QG],⟨iS,rfl⟩,⟨hm,.inl ⟨oM,.inl rfl⟩⟩⟩
 ·refine⟨.slice B (bif Nat.beq N l then 0 else 0+l*e) (r-l) (N-l),by simp only[aP,dW,Z,QG,SX],⟨by simp;omega,rfl,oM,C,o,?_⟩,hm,?_⟩
  ·by_cases c:N=l
   ·have h0:r-l=0:=oM
    rw[iw c,h0];simp
   ·rw[dJ c];simp only[cond_false,Rc];exact⟨hm,trivial⟩
  ·by_cases c:N=l
   ·have h0:r-l=0:=oM
    rw[iw c,h0];exact .inl ⟨rfl,.inr ⟨_,_,_,rfl⟩⟩
   ·rw[dJ c];simp only[cond_false,Rc];exact .inr ⟨_,rfl,o⟩
theorem TbC.from(a:TbC e h v B C N)(Z:0<e)(k:IntKind)(i:Int)(l:Nat)(R:i=l)(U:l<=N):
 ∃v',aP (.sl none e true false false) [v,.int k i]=some v'/\Sl h e v' (N-l) ((C.drop (l*e)).take ((N-l) *e))/\Dst e h B C v' (l*e) (N-l):=by
 subst R;exact a.part true false [.int k l] l N (pi _) U (by simp only[aO,aY k l N oM oM,QG,so]) Z
theorem TbC.upto(a:TbC e h v B C N)(U:0<e)(k:IntKind)(i:Int)(r:Nat)(J:i=r)(Z:r<=N):
 ∃v',aP (.sl none e false true false) [v,.int k i]=some v'/\Sl h e v' r (C.take (r*e)):=by
 subst J;obtain⟨v',R,I,_⟩:=a.part false true [.int k r] 0 r Z (Nat.zero_le _) (by simp only[aO,aY k r N oM oM,QG,so]) U;exact⟨v',R,by simpa using I⟩
theorem TbC.range(a:TbC e h v B C N)(Z:0<e)(k k':IntKind)(i j:Int)(l r:Nat)(R:i=l)(U:j=r)(J:r<=N)(I:l<=r):
 ∃v',aP (.sl none e true true false) [v,.int k i,.int k' j]=some v'/\Sl h e v' (r-l) ((C.drop (l*e)).take ((r-l) *e))/\Dst e h B C v' (l*e) (r-l):=by
 subst R U;exact a.part true true [.int k l,.int k' r] l r J I (by
  simp only[aO,aY k' r N oM oM,QX,so,aY k l r oM oM,QG]) Z
theorem bQ(a b:List V):az (a++b)=(az a&&az b):=by
 induction a with
 |nil=>simp[az]
 |cons x l ih=>rw[Rb,af,af,ih,Bool.and_assoc]
theorem sD{a:List V}(n:Nat)(x:az a=true):az (a.drop n)=true:=by
 rw[<-RH n a,bQ]at x;exact(be _ _▸x).2
abbrev Z4:List V:=[ZX 0,ZY 0,.str [],.nils]
def NoI(l:List V):Prop:=∀x∈l,∀n:Int,x≠ ZZ n
theorem NoI.sub{a b:List V}(h:NoI b)(s:∀x∈a,x∈b):NoI a:=fun x m=>h x (s x m)
theorem NoI.app{a b:List V}(h:NoI a)(g:NoI b):NoI (a++b):=fun x m=>(Qp.1 m).elim (h x) (g x)
structure GpT(h:Heap)(b B:Nat)(v:V)(c1 G c2:List V)(a g m:Nat):Prop where
 ob:Own h b [v,ZZ (a:Int),ZZ (g:Int)]
 tb:TbC 4 h v B (c1++G++c2) (a+g+m)
 l1:c1.length=a*4
 lg:G.length=g*4
 l2:c2.length=m*4
 o1:az c1=true
 o2:az c2=true
 ne:B≠b
 nb:a+g+m<=8208
 am:a+m<=4096
 n6:NoI (c1++G++c2)
def Gp(h:Heap)(b B:Nat)(n:Nat)(l:List V):Prop:=∃v c1 G c2 a g m,GpT h b B v c1 G c2 a g m/\l=c1++c2/\n=a+m
variable {h : Heap} {b B : Nat} {v : V} {c1 G c2 : List V} {a g m : Nat}
theorem GpT.fr(k:GpT h b B v c1 G c2 a g m){S:List Nat}(f:Fr S h h')(hb:b∉S)(hB:B∉S):GpT h' b B v c1 G c2 a g m:=
 ⟨f.own _ _ hb k.ob,k.tb.fr f hB,k.l1,k.lg,k.l2,k.o1,k.o2,k.ne,k.nb,k.am,k.n6⟩
theorem Gp.fr{l:List V}(k:Gp h b B n l){S:List Nat}(f:Fr S h h')(Z:b∉S)(hB:B∉S):Gp h' b B n l:=by
 obtain⟨v,c1,G,c2,a,g,m,k,e⟩:=k;exact⟨v,c1,G,c2,a,g,m,k.fr f Z hB,e⟩
theorem Gp.len{l:List V}(k:Gp h b B n l):l.length=n*4/\n<=4096/\az l=true:=by
 obtain⟨v,c1,G,c2,a,g,m,k,rfl,rfl⟩:=k;have:=k.l1;have:=k.l2;have:=k.am;exact⟨by simp;omega,oM,by rw[bQ,k.o1,k.o2];rfl⟩
theorem MM{α:Type}(c1 G c2:List α)(a g i k:Nat)(l1:c1.length=a*k)(lg:G.length=g*k):
 ((c1++G++c2).drop ((if a<=i then i+g else i) *k)).take k=((c1++c2).drop (i*k)).take k:=by
 by_cases c:a<=i
 ·rw[if_pos c];obtain⟨j,rfl⟩:∃j,i=a+j:=⟨i-a,oM⟩;have U:(a+j+g) *k=(c1++G).length+j*k:=by grind
  have Z:(a+j) *k=c1.length+j*k:=by rw[l1,Sw]
  rw[U,Z,Tk,Tk]
 ·rw[if_neg c];have e:i*k+k<=c1.length:=by rw[l1,<-Tj];exact Rm _ oM
  rw[QE,RY oM,List.take_append_of_le_length oO,RY oM,List.take_append_of_le_length oO]
theorem GpT.at'(k:GpT h b B v c1 G c2 a g m){i:Nat}(R:i<a+m):
 aP (.ixs 4) [v,ZZ ((if a<=i then i+g else i:Nat):Int)]=some (.ptr B ((if a<=i then i+g else i) *4))/\aH h B ((if a<=i then i+g else i) *4) 4=some (((c1++c2).drop (i*4)).take 4):=by
 have U:(if a<=i then i+g else i)<a+g+m:=by split<;>omega
 obtain⟨Z,⟨rfl,z⟩|⟨rfl,o⟩⟩:=k.tb
 ·omega
 ·refine⟨?_,?_⟩
  ·rw[bO _ _ _ _ _ _ _ oM oM];simp
  ·rw[o.ld,bA,aU,MM c1 G c2 a g i 4 k.l1 k.lg];simp only[Sq,Z];omega
variable {h : Heap} {b B : Nat} {v : V} {c1 G c2 : List V} {a g m : Nat}
theorem NoI.z4:NoI Z4:=by
 intro x m n;simp at m;rcases m with rfl|rfl|rfl|rfl<;>simp
variable {h : Heap} {b B : Nat} {v : V} {c1 G c2 : List V} {a g m : Nat}
theorem TbC.fr'{e:Nat}{B N:Nat}{C:List V}{S:List Nat}(a:TbC e h v B C N)(f:Fr S h h')(hB:v=.nils\/B∉S):TbC e h' v B C N:=by
 obtain⟨Z,⟨rfl,rfl⟩|⟨rfl,o⟩⟩:=a
 ·exact⟨Z,.inl ⟨rfl,rfl⟩⟩
 ·rcases hB with q|q
  ·cases q
  ·exact⟨Z,.inr ⟨rfl,f.own _ _ q o⟩⟩
variable {h : Heap} {b B : Nat}
theorem Fr.new{h1 h2:Heap}{S:List Nat}(w:WF h)(f1:Fr [] h h1)(f2:Fr S h1 h2)(hs:∀x∈S,h.next<=x):Fr [] h h2:=
 Qx f1 f2 w (fun x hx=>.inl hx) (fun x hx=>.inr (hs x hx))
end Go.Ev.Lay
namespace Go.Ev
variable{h h':Heap}{S:List Nat}{B esz n:Nat}{c cs:List V}{v:V}
variable {call : aD}
theorem WF.hnew(w:WF h)(k:Blk):WF (hnew h k):=by
 intro p Z;have U:h.next+1<=p:=Z;have:=w p oM;exact yE
theorem Fr.hnew{h:Heap}(w:WF h)(k:Blk):Fr [] h (hnew h k) where
 next:=Nat.le_succ _
 wf:=w.hnew k
 own:=fun b c _ o=>by
  have:=o.lt w;obtain⟨f,k',e,x⟩:=o;exact⟨f,k',by show(h.bl.set _ _).get b=_;rw[T.get_set_ne _ _ oM];exact e,x⟩
 pl:=fun b c _ o=>by
  have:=o.own.lt w;obtain⟨⟨k',e⟩,f⟩:=o;exact⟨⟨k',by show(h.bl.set _ _).get b=_;rw[T.get_set_ne _ _ oM];exact e⟩,f⟩
 lp:=fun b x _ e=>by
  have:b≠h.next:=by rintro rfl;rw[(w _ (Nat.le_refl _)).1]at e;cases e
  show(h.bl.set _ _).get b=_;rw[T.get_set_ne _ _ this];exact e
 ro:=fun b c r=>r.new w _
 ty:=fun _ _ _ e=>e
structure FrB(S:List Nat)(B:Nat)(h h':Heap):Prop where
 next:h.next<=h'.next
 wf:WF h'
 own:∀b c,b∉S->Own h b c->Own h' b c
 pl:∀b c,b∉S->Pl h b c->Pl h' b c
 lp:∀b x,b≠B->KC x=true->h.bl.get b=some x->h'.bl.get b=some x
 ro:∀b c,Rs h b c->Rs h' b c
 ty:∀b x,b<h.next->h.tys.get b=some x->h'.tys.get b=some x
theorem Fr.b{S':List Nat}(f:Fr S' h h')(hs:∀x∈S',x∈S):FrB S B h h':=⟨f.next,f.wf,fun b c hb o=>f.own b c (fun q=>hb (hs b q)) o,fun b c hb o=>f.pl b c (fun q=>hb (hs b q)) o,fun b x _ hx e=>f.lp b x hx e,f.ro,f.ty⟩
theorem FrB.trans{h1 h2:Heap}(a:FrB S B h h1)(b:FrB S B h1 h2):FrB S B h h2:=
 ⟨QY a.next b.next,b.wf,fun x c hx o=>b.own x c hx (a.own x c hx o),fun x c hx o=>b.pl x c hx (a.pl x c hx o),fun x k hx hk o=>b.lp x k hx hk (a.lp x k hx hk o),fun x c r=>b.ro x c (a.ro x c r),fun x y hx e=>b.ty x y (QH hx a.next) (a.ty x y hx e)⟩
theorem FrB.hset(w:WF h){B:Nat}{x:Blk}(e:h.bl.get B=some x)(hx:KC x=true)(k:Blk):FrB S B h (hset h B k):=by
 have hB:B<h.next:=by
  rcases Rn B h.next with q|q
  ·exact q
  ·rw[(w B q).1]at e;cases e
 refine⟨pi _,?_,?_,?_,?_,?_,fun _ _ _ e=>e⟩
 ·intro p hp;have R:h.next<=p:=hp;have:=w p R;exact yE
 ·rintro b c _ ⟨f,k',Z,y⟩;have:b≠B:=by rintro rfl;rw[e]at Z;cases Z;cases hx
  exact⟨f,k',by show(h.bl.set _ _).get b=_;rw[Qu _ _ this];exact Z,y⟩
 ·rintro b c _ ⟨⟨k',Z⟩,y⟩;have:b≠B:=by rintro rfl;rw[e]at Z;cases Z;cases hx
  exact⟨⟨k',by show(h.bl.set _ _).get b=_;rw[Qu _ _ this];exact Z⟩,y⟩
 ·intro b y I hy Z;show(h.bl.set _ _).get b=_;rw[Qu _ _ I];exact Z
 ·rintro b c ⟨f,k',ow,U,e2,e3,e4⟩;have D:b≠B:=by rintro rfl;rw[e]at U;cases U;cases hx
  have J:ow≠B:=by grind
  exact⟨f,k',ow,by show(h.bl.set _ _).get b=_;rw[Qu _ _ D];exact U,e2,by show(h.bl.set _ _).get ow=_;rw[Qu _ _ J];exact e3,e4⟩
theorem FrB.fr{h1 h2:Heap}(w:WF h)(f:Fr [] h h1)(a:FrB S B h1 h2)(hs:∀x∈S,h.next<=x)(hB:h.next<=B):Fr [] h h2:=
 ⟨QY f.next a.next,a.wf,fun b c _ o=>a.own b c (fun q=>by have:=hs b q;have:=o.lt w;omega) (f.get o),fun b c _ o=>a.pl b c (fun q=>by have:=hs b q;have:=o.own.lt w;omega) (f.pl b c iS o),
  fun b x hx e=>a.lp b x (by rintro rfl;rw[(w _ hB).1]at e;cases e) hx (f.lp b x hx e),fun b c r=>a.ro b c (f.ro b c r),fun b x hb e=>a.ty b x (QH hb f.next) (f.ty b x hb e)⟩
theorem Id(h:Heap)(B:Nat)(k:Blk):(hset h B k).bl.get B=some k:=QZ _ _ _
theorem Ie(h:Heap)(k:Blk):(hnew h k).bl.get h.next=some k:=QZ _ _ _
def Rdb(h:Heap)(b:Nat)(c:List V):Prop:=Own h b c\/Rs h b c
theorem Rdb.cells{b:Nat}(a:Rdb h b c):dt h b=some c:=by
 rcases a with o|⟨f,k,ow,U,Z,_⟩
 ·exact o.cells
 ·simp only[dt,U,rd,Z,Rk,Bool.or_true];rfl
theorem Rdb.ld1{b:Nat}(a:Rdb h b c)(o:Nat):ai h b o=nth c o:=by simp only[ai,a.cells]
theorem Rdb.ld{b:Nat}(a:Rdb h b c)(o n:Nat):aH h b o n=dL n (fQ c o):=by simp only[aH,a.cells]
def ASl(h:Heap)(esz:Nat)(v:V)(n:Nat)(cs:List V):Prop:=
 cs.length=n*esz/\match v with
 |.nils=>n=0
 |.sliceE=>n=0
 |.sliceZ _ _=>n=0
 |.slice b o len cap=>len=n/\n<=cap/\∃c,Rdb h b c/\o+n*esz<=c.length/\cs=(c.drop o).take (n*esz)
 |.sliceU b o len e=>len=n/\e=esz/\∃c,Rdb h b c/\o+n*esz<=c.length/\cs=(c.drop o).take (n*esz)
 |_=>False
theorem Sl.a(a:Sl h esz v n cs):ASl h esz v n cs:=by
 obtain⟨R,a⟩:=a;refine⟨R,?_⟩;cases v with
 |slice b o l k=>obtain⟨Z,U,c,o,x⟩:=a;exact⟨Z,U,c,.inl o,x⟩
 |sliceU b o l k=>obtain⟨Z,U,c,o,x⟩:=a;exact⟨Z,U,c,.inl o,x⟩
 |sliceZ _ _=>exact a.elim
 |_=>exact a
theorem ASl.map(a:ASl h esz v n cs)(f:∀b c,Rdb h b c->(cs≠[]->∃x∈cs,x∈c)->Rdb h' b c):ASl h' esz v n cs:=by
 obtain⟨D,a⟩:=a;refine⟨D,?_⟩;have key:∀(o:Nat)(c:List V),cs=(c.drop o).take (n*esz)->cs≠[]->∃x∈cs,x∈c:=by
  intro o c e J;obtain⟨x,hx⟩:=List.exists_mem_of_ne_nil cs J;exact⟨x,hx,Sf (QP (e▸hx))⟩
 cases v with
 |slice b o l k=>obtain⟨I,R,c,oc,U,Z⟩:=a;exact⟨I,R,c,f b c oc (key o c Z),U,Z⟩
 |sliceU b o l k=>obtain⟨I,R,c,oc,U,Z⟩:=a;exact⟨I,R,c,f b c oc (key o c Z),U,Z⟩
 |_=>exact a
theorem ASl.fr(a:ASl h esz v n cs)(f:Fr [] h h'):ASl h' esz v n cs:=a.map fun b c r _=>r.imp (fun o=>f.get o) (f.ro b c)
theorem ASl.len(a:ASl h esz v n cs):aP .lenS [v]=some (ZZ n):=by
 obtain⟨Z,a⟩:=a;cases v with
 |slice b o l k=>obtain⟨rfl,_⟩:=a;rfl
 |sliceU b o l k=>obtain⟨rfl,_⟩:=a;rfl
 |nils=>have a:=a;subst a;rfl
 |sliceE=>have a:=a;subst a;rfl
 |sliceZ _ _=>have a:=a;subst a;rfl
 |_=>exact a.elim
theorem ASl.one(a:ASl h esz v n cs):v.one=true:=by
 obtain⟨Z,a⟩:=a;cases v with
 |slice b o l k=>rfl
 |sliceU b o l k=>rfl
 |nils=>rfl
 |sliceE=>rfl
 |sliceZ _ _=>rfl
 |_=>exact a.elim
theorem ASl.ix(a:ASl h esz v n cs)(k:IntKind)(i:Int)(h0:0<=i)(h1:i<n):
 ∃b o,aP (.ixs esz) [v,.int k i]=some (.ptr b o)/\(∀j,j<esz->ai h b (o+j)=cs[i.toNat*esz+j]?)/\aH h b o esz=some ((cs.drop (i.toNat*esz)).take esz):=by
 obtain⟨U,a⟩:=a;obtain⟨m,rfl⟩:∃m:Nat,i=m:=⟨i.toNat,oM⟩;have hm:m<n:=oM
 have Z:m*esz+esz<=n*esz:=by rw[<-Tj];exact Rm _ hm
 have main:∀(b o:Nat)(c:List V),Rdb h b c->o+n*esz<=c.length->cs=(c.drop o).take (n*esz)->
  (∀j,j<esz->ai h b (o+m*esz+j)=cs[m*esz+j]?)/\aH h b (o+m*esz) esz=some ((cs.drop (m*esz)).take esz):=by
  exact yY
 cases v with
 |slice b o l q=>
  exact yaG
 |sliceU b o l q=>
  exact yaH
 |nils=>have a:=a;omega
 |sliceE=>have a:=a;omega
 |sliceZ _ _=>have a:=a;omega
 |_=>exact a.elim
section
variable {α : Type} {f : α -> List V} {k : Nat}
def ARecs(f:α->List V)(k:Nat)(h:Heap)(v:V)(L:List α):Prop:=ASl h k v L.length (L.flatMap f)
theorem Recs.a{L:List α}(a:Recs f k h v L):ARecs f k h v L:=Sl.a a
theorem ARecs.fr{L:List α}(a:ARecs f k h v L)(r:Fr [] h h'):ARecs f k h' v L:=ASl.fr a r
theorem ARecs.len{L:List α}(a:ARecs f k h v L):aP .lenS [v]=some (ZZ L.length):=ASl.len a
theorem ARecs.one{L:List α}(a:ARecs f k h v L):v.one=true:=ASl.one a
theorem ARecs.ix{L:List α}(hf:∀x,(f x).length=k)(a:ARecs f k h v L)(kd:IntKind)(i:Int)(h0:0<=i)(Z:i<L.length):
 ∃b o x,aP (.ixs k) [v,.int kd i]=some (.ptr b o)/\(∀j,j<k->ai h b (o+j)=(f x)[j]?)/\aH h b o k=some (f x)/\L[i.toNat]? =some x:=by
 obtain⟨b,o,e,g,g2⟩:=ASl.ix a kd i h0 Z;exact yu
end
end Go.Ev
namespace Go.Ev.Lay
variable{h h':Heap}{env:T V}{z:List UInt8}{g i o:Nat}{v x0 x1 x2 x3 x4 vc va:V}
def ItQ(h:Heap)(nx:Bool)(o:Option V)(K:V->Heap->Prop):Prop:=∃d,o=some d/\OQ (ait h nx d) K
theorem uA(nx:Bool)(d:V)(K:V->Heap->Prop):ItQ h nx (some d) K↔OQ (ait h nx d) K:=
 ⟨fun⟨_,e,k⟩=>by cases e;exact k,fun k=>⟨d,rfl,k⟩⟩
theorem Hy{call:aD}{loc:List V}(Z:Bool)(x:Opd)(K:V->Heap->Prop):OQ (aM call loc env h (.it Z x)) K↔ItQ h Z (evO loc env x) K:=by
 simp only[aM,OQ,ItQ];cases evO loc env x with
 |none=>simp
 |some d=>simp
theorem No(z:List UInt8)(K:V->Heap->Prop):OQ (ait h false (.str z)) K↔K (.ptr h.next 0) (hnew h (.si z 0)):=cD _ _ _
theorem Np{b pos:Nat}(U:h.bl.get b=some (.si z pos))(Z:¬pos<z.length)(K:V->Heap->Prop):OQ (ait h true (.ptr b 0)) K↔K (.tup [.bool false]) h:=by
 show OQ (match h.bl.get b with|some (.si z pos)=>_|_=>_) K↔_
 rw[U];simp only[if_neg Z];exact cD _ _ _
theorem KA{b pos:Nat}(U:h.bl.get b=some (.si z pos))(Z:pos<z.length)(K:V->Heap->Prop):OQ (ait h true (.ptr b 0)) K↔
 K (.tup [.bool true,ZZ (pos:Int),.int .i32 ((Utf8.decode ⟨z.toArray⟩ pos).1:Int)]) (hset h b (.si z (pos+(Utf8.decode ⟨z.toArray⟩ pos).2))):=by
 show OQ (match h.bl.get b with|some (.si z pos)=>_|_=>_) K↔_
 rw[U];simp only[if_pos Z];exact cD _ _ _
theorem _root_.Go.Ev.WF.hset(w:WF h){b:Nat}{x:Blk}(J:h.bl.get b=some x)(y:Blk):WF (hset h b y):=by
 intro p U;obtain⟨Z,R⟩:=w p U;refine⟨?_,R⟩;show(h.bl.set b y).get p=none;rw[RP,if_neg (by rintro rfl;rw[J]at Z;cases Z)];exact Z
theorem Fr.si{h:Heap}(w:WF h){b pos pos':Nat}{z:List UInt8}(hb:h.bl.get b=some (.si z pos)):Fr [] h (hset h b (.si z pos')) where
 next:=Nat.le_refl _
 wf:=WF.hset w hb _
 own:=fun x c _ ⟨f,k,e,q⟩=>⟨f,k,by
  show(h.bl.set b _).get x=_;rw[T.get_set,if_neg (by rintro rfl;rw[hb]at e;cases e)];exact e,q⟩
 pl:=fun x c _ ⟨⟨k,e⟩,q⟩=>⟨⟨k,by
  show(h.bl.set b _).get x=_;rw[T.get_set,if_neg (by rintro rfl;rw[hb]at e;cases e)];exact e⟩,q⟩
 lp:=fun x k hk e=>by
  show(h.bl.set b _).get x=_;rw[T.get_set,if_neg (by rintro rfl;rw[hb]at e;cases e;cases hk)];exact e
 ro:=fun x c ⟨f,k,ow,e,q1,q2,q3⟩=>⟨f,k,ow,by
  show(h.bl.set b _).get x=_;rw[T.get_set,if_neg (by rintro rfl;rw[hb]at e;cases e)];exact e,q1,by
  show(h.bl.set b _).get ow=_;rw[T.get_set,if_neg (by rintro rfl;rw[hb]at q2;cases q2)];exact q2,q3⟩
 ty:=fun _ _ _ e=>e
def JD(g:Nat)(p:Int->Bool):Prop:=g<1099511627776/\(∀(r:Int)(h:Heap),ay go g [.int .i32 r] h fun u h'=>u=.bool (p r)/\h=h')/\∀r:Int,128<=r->p r=true
def eU(p:Int->Bool)(z:List UInt8):Bool:=z.any fun b=>p (b.toNat:Int)
theorem Nx(z:List UInt8)(pos:Nat)(J:pos<z.length)(p:Int->Bool)(Z:∀r:Int,128<=r->p r=true):
 (p ((Utf8.decode ⟨z.toArray⟩ pos).1:Int)=p ((z[pos]).toNat:Int))/\(p ((z[pos]).toNat:Int)=false->(Utf8.decode ⟨z.toArray⟩ pos).2=1):=by
 have R:pos<(ByteArray.mk z.toArray).size:=J;have U:(ByteArray.mk z.toArray)[pos]'R=z[pos]:=rfl;by_cases c:(z[pos]).toNat<128
 ·have:=Go.decode_ascii ⟨z.toArray⟩ pos R (by rw[U];exact c);rw[this,U];exact⟨rfl,fun _=>rfl⟩
 ·have:=Go.decode_high ⟨z.toArray⟩ pos R (by rw[U];omega);rw[Z _ oM,Z _ oM];exact⟨rfl,fun e=>by cases e⟩
theorem vU{p:Int->Bool}(w:WF h)(P:JD g p)(hz:z.length<16777216):
 ay go 327 [.str z,.func (.func g) [] [],.bool true] h fun u h'=>∃r:Int,u=ZZ r/\(decide (0<=r)=eU p z)/\Fr [] h h':=by
 obtain⟨hg,hp,J⟩:=P;obtain⟨h1,Z⟩:∃h1,h1=hnew h (.si z 0):=⟨_,rfl⟩;have D:=Z▸Fr.hnew w _;have b1:h1.bl.get h.next=some (.si z 0):=by rw[Z];exact Ie _ _
 refine aa ?_;simp only[evs,seval,Hy,uA,No,<-Z];refine aw (fun k env R=>Fr [] h R/\∃(i:Nat),env.get 10=some (.ptr h.next 0)/\env.get 1=some (.func (.func g) [] [])/\env.get 2=some (.bool true)/\R.bl.get h.next=some (.si z i)/\
  i<=z.length/\eU p (z.drop i)=eU p z/\k=z.length-i) z.length oM ?_ ?_
 ·exact⟨D,0,iS,iS,iS,b1,oM,rfl,rfl⟩
 ·rintro k env R ⟨F,i,I,g1,g2,bb,hi,e,rfl⟩;by_cases U:i<z.length
  ·have⟨d1,d2⟩:=Nx z i U p J;have F1:Fr [] R (hset R h.next (.si z (i+(Utf8.decode ⟨z.toArray⟩ i).2))):=Fr.si F.wf bb;have b2:=Id R h.next (.si z (i+(Utf8.decode ⟨z.toArray⟩ i).2));rw[Ry U]at e;simp only[evs,seval,I,g1,Hy,uA,KA bb U,hg];refine ae (hp _ _) ?_;rintro _ h2 ⟨rfl,rfl⟩;cases c:p ((z[i]).toNat:Int)
   ·have w1:=d2 c;rw[c]at d1;rw[w1]at F1 b2|-;simp only[evs,seval,d1,g2];unfold eU at e;rw[TE,c,SR]at e;refine rqn ⟨z.length-(i+1),oM,F.then F1,i+1,iX,iX,iX,b2,oM,e,rfl⟩
    done
   ·rw[c]at d1;simp only[evs,seval,d1,g2];unfold eU at e|-;rw[TE,c,Bool.true_or]at e;exact⟨i,rfl,by rw[<-e];simp,F.then F1⟩
  ·simp only[evs,seval,I,Hy,uA,Np bb U];rw[QF oM]at e;exact⟨-1,rfl,by rw[<-e];rfl,F⟩
theorem qo{p:Int->Bool}(w:WF h)(P:JD g p)(Z:z.length<16777216):
 ay go 235 [.str z,.func (.func g) [] []] h fun u h'=>u=.bool (eU p z)/\Fr [] h h':=by
 refine aa ?_;simp only[evs,seval];refine ae (?_:ay go 298 _ _ (fun u h'=>∃r:Int,u=ZZ r/\(decide (0<=r)=eU p z)/\Fr [] h h')) ?_
 ·refine aa ?_;simp only[evs,seval];refine ae (vU w P Z) ?_;exact ybt
 ·exact ybq
def gZ(r:Int):Bool:=decide (r<32)||decide (126<r)
def dv(r:Int):Bool:=(decide (r<97)||decide (122<r))&&(decide (r<48)||decide (57<r))
theorem Qi:JD 236 gZ:=⟨dI,fun r h=>by
 by_cases c:r<32
 ·refine aa ?_;simp[evs,c];simp[gZ,c]
 ·refine aa ?_;simp[evs,c];simp[gZ,c],fun r hr=>by simp[gZ];omega⟩
theorem Qh:JD 300 dv:=⟨dI,fun r h=>by
 by_cases c:r<97
 ·by_cases d:r<48
  ·refine aa ?_;simp[evs,c,d];simp[dv,c,d]
  ·refine aa ?_;simp[evs,c,d];simp[dv,c,d]
 ·by_cases c':(122:Int)<r
  ·by_cases d:r<48
   ·omega
   ·refine aa ?_;simp[evs,c,d,c'];simp[dv,c,d,c']
  ·refine aa ?_;simp[evs,c,c'];simp[dv,c,c'],fun r hr=>by simp[dv];omega⟩
def okT(z:List UInt8):Bool:=decide (z.length<=64)&& !eU gZ z
def okN(z:List UInt8):Bool:=decide (0<z.length)&&(decide (z.length<=16)&& !eU dv z)
theorem aG(a:List UInt8):aP .lenStr [.str a]=some (ZZ (a.length:Nat)):=rfl
theorem ba(a b:List UInt8):aP (.sb .neq) [.str a,.str b]=some (.bool (!(a==b))):=rfl
theorem aQ(a b:List UInt8):aP (.sb .eql) [.str a,.str b]=some (.bool (a==b)):=rfl
theorem kE(z:List UInt8):(z==[])=decide (z.length=0):=by cases z<;>rfl
theorem Kf(w:WF h):ay go 240 [.str z] h fun u h'=>u=.bool (okN z)/\Fr [] h h':=by
 by_cases c0:z.length=0
 ·refine aa ?_;simp only[evs,seval,ba,kE,c0];exact⟨by simp[okN,c0],Qw w⟩
 ·by_cases c1:z.length<=16
  ·refine aa ?_;simp only[evs,seval,aG,ba,kE,c0,(oM:(z.length:Int)<=16)];refine aN (qo w Qh oM) fun Z F=>?_;simp only[evs,seval];exact⟨by simp[okN,c1];intro _;omega,F⟩
  ·refine aa ?_;simp only[evs,seval,aG,ba,kE,c0,(oM:¬(z.length:Int)<=16)];exact⟨by simp[okN,c1],Qw w⟩
abbrev sS(s:List UInt8):List V:=[.str s]
theorem cC(s:List UInt8):(sS s).length=1:=rfl
theorem HH(w:WF h):ay go 239 [.str z] h fun u h'=>u=.bool (!okN z)/\Fr [] h h':=by
 refine aa ?_;simp[evs];refine aN (Kf w) fun Z F=>?_;simp[evs];exact F
def N9(g:Nat):Prop:=g<1099511627776/\∀(z:List UInt8)(h:Heap),WF h->ay go g [.str z] h fun u h'=>u=.bool (!okN z)/\Fr [] h h'
theorem Qj:N9 239:=⟨dI,fun _ _ w=>HH w⟩
theorem EU{h:Heap}{v:V}{g:Nat}{L:List (List UInt8)}(P:N9 g)(w:WF h)(a:ARecs sS 1 h v L)(hn:L.length≤4096):
 ay go 299 [v,.func (.func g) [] []] h fun u h'=>∃r:Int,u=.int .i64 r∧(decide (0≤r)= !L.all okN)∧Fr [] h h':=by
 refine aa ?_;simp only[evs,seval,a.len];refine aw (fun k env hh=>Fr [] h hh∧∃(i:Nat),env.get 8=some (.int .i64 i)∧env.get 7=some (.int .i64 L.length)∧env.get 0=some v∧env.get 1=some (.func (.func g) [] [])∧
  i≤L.length∧(L.drop i).all okN=L.all okN∧k=L.length-i) L.length oM ?_ ?_
 ·exact⟨Fr.refl w,0,iS,iS,iS,iS,oM,rfl,rfl⟩
 ·rintro k env hh ⟨F,i,g8,g7,g0,g1,hi,e,rfl⟩;by_cases hlt:i<L.length
  ·have hlt':(i:Int)<L.length:=oM
   obtain⟨b,o,s,e1,e2,_,e5⟩:=(a.fr F).ix cC .i64 i oM hlt';have e4:ai hh b o=some (.str s):=e2 0 oM;rw[Int.toNat_natCast]at e5;rw[aX e5,List.all_cons]at e;simp only[evs,seval,g8,g7,g0,g1,hlt',e1,e4,P.1];refine aN (P.2 _ _ F.wf) fun h1 F1=>?_;cases c:okN s
   ·simp only[evs,seval];rw[c]at e;exact⟨i,rfl,by rw[←e];simp,F.then F1⟩
   ·simp(disch:=omega) only[evs,seval,fwrap_i64,g8];rw[c]at e;refine rqn ⟨L.length-(i+1),oM,F.then F1,i+1,iS,iX,iX,iX,oM,by simpa using e,rfl⟩
    done
  ·simp only[evs,seval,g8,g7,(oM:¬(i:Int)<L.length)];rw[List.drop_of_length_le oM]at e;exact⟨-1,rfl,by rw[←e];rfl,F⟩
theorem yw{L:List (List UInt8)}(P:N9 g)(w:WF h)(a:ARecs sS 1 h v L)(Z:L.length<=4096):
 ay go 238 [v,.func (.func g) [] []] h fun u h'=>u=.bool (!L.all okN)/\Fr [] h h':=by
 refine aa ?_;simp[evs];refine ae (EU P w a Z) ?_;rintro _ U ⟨r,rfl,e,F⟩;simp[evs];exact⟨by rw[e],F⟩
structure Itm where
 key:Nat
 type:Nat
 text:List UInt8
 marks:List (List UInt8)
 vm:V
def Itm.cells(x:Itm):List V:=[ZX (x.key:Int),ZY (x.type:Int),.str x.text,x.vm]
structure ItmH(h:Heap)(x:Itm):Prop where
 k:x.key<18446744073709551616
 t:x.type<256
 m:ARecs sS 1 h x.vm x.marks
 n:x.marks.length<=4096
 l:x.text.length<16777216
theorem ItmH.fr{x:Itm}(a:ItmH h x)(f:Fr [] h h'):ItmH h' x:=⟨a.k,a.t,a.m.fr f,a.n,a.l⟩
theorem ItmH.one{x:Itm}(a:ItmH h x):az x.cells=true:=by
 show az [ZX (x.key:Int),ZY (x.type:Int),.str x.text,x.vm]=true;simp only[af,ag,a.m.one];rfl
def okM(ms:List (List UInt8)):Bool:=decide (ms.length<=8)&&ms.all okN
def okI(x:Itm)(types:Nat):Bool:=decide (x.key≠0)&&(decide (x.type<types)&&(okT x.text&&okM x.marks))
theorem JW{x:Itm}{b:Nat}(w:WF h)(a:ItmH h x)(o:Own h b x.cells):ay go 234 [.ptr b 0] h fun u h'=>u=.bool (okT x.text)/\Fr [] h h':=by
 have l2:=o.l1 2;by_cases c:x.text.length<=64
 ·refine aa ?_;simp[evs,l2,aG,(oM:(x.text.length:Int)<=64)];refine aN (qo w Qi a.l) fun Z F=>?_;simp[evs];exact⟨by simp[okT,c],F⟩
 ·refine aa ?_;simp[evs,l2,aG,(oM:¬(x.text.length:Int)<=64)];exact⟨by simp[okT,c],Qw w⟩
theorem HK{x:Itm}{b:Nat}(w:WF h)(a:ItmH h x)(o:Own h b x.cells):ay go 237 [.ptr b 0] h fun u h'=>u=.bool (okM x.marks)/\Fr [] h h':=by
 have l2:=o.l1 3;by_cases c:x.marks.length<=8
 ·refine aa ?_;simp[evs,l2,a.m.len,(oM:(x.marks.length:Int)<=8)];refine aN (yw Qj w a.m a.n) fun Z F=>?_;simp[evs];exact⟨by simp[okM,c],F⟩
 ·refine aa ?_;simp[evs,l2,a.m.len,(oM:¬(x.marks.length:Int)<=8)];exact⟨by simp[okM,c],Qw w⟩
theorem IZ{x:Itm}{types:Nat}(w:WF h)(a:ItmH h x)(ht:types<256):ay go 173 [.agg x.cells,ZZ (types:Int)] h fun u h'=>u=ZZ (if okI x types then 0 else 6)/\Fr [] h h':=by
 obtain⟨h1,R,Z,U⟩:=av w x.cells;have I:=U.l1 0;have l1:=U.l1 1;have xt:=a.t;by_cases c0:x.key=0
 ·refine aa ?_;simp only[evs,seval,<-R,I,(oM:(x.key:Int)=0)];exact⟨by simp[okI,c0],Z⟩
 by_cases c1:x.type<types
 ·refine aa ?_;simp(disch:=omega) only[evs,seval,fwrap_i64,<-R,I,(oM:¬(x.key:Int)=0),l1,(oM:¬(types:Int)<=x.type)];refine aN (JW Z.wf (a.fr Z) U) fun h2 J=>?_;cases c2:okT x.text
  ·simp only[evs,seval];exact⟨by simp[okI,c2],Z.then J⟩
  ·simp only[evs,seval];refine aN (HK J.wf (a.fr (Z.then J)) (J.get U)) fun h3 D=>?_;cases c3:okM x.marks
   ·simp only[evs,seval];exact⟨by simp[okI,c3],(Z.then J).then D⟩
   ·simp only[evs,seval];exact⟨by simp[okI,c0,c1,c2,c3],(Z.then J).then D⟩
 ·refine aa ?_;simp(disch:=omega) only[evs,seval,fwrap_i64,<-R,I,(oM:¬(x.key:Int)=0),l1,(oM:(types:Int)<=x.type)];exact⟨by simp[okI,c1],Z⟩
theorem EX(r:Nat):ay go 359 [ZY (r:Int)] h fun u h'=>u=.bool (!dv r)/\h=h':=by
 by_cases c:(97:Int)<=r
 ·by_cases d:(r:Int)<=122
  ·refine aa ?_;simp[evs,c,d];simp[dv];omega
  ·by_cases e:(48:Int)<=r
   ·by_cases f:(r:Int)<=57
    ·omega
    ·refine aa ?_;simp[evs,c,d,e,f];simp[dv];omega
   ·omega
 ·by_cases e:(48:Int)<=r
  ·by_cases f:(r:Int)<=57
   ·refine aa ?_;simp[evs,c,e,f];simp[dv];omega
   ·refine aa ?_;simp[evs,c,e,f];simp[dv];omega
  ·refine aa ?_;simp[evs,c,e];simp[dv];omega
theorem bZ(h:i<z.length)(k:IntKind):aP .ixstr [.str z,.int k (i:Int)]=some (ZY ((z[i]).toNat:Nat)):=by
 show(z[i]?).map _=_;rw[Qq h];rfl
theorem sH:ay go 355 [.str z] h fun u h'=>u=.bool (okN z)/\h=h':=by
 by_cases c0:z.length<1
 ·refine aa ?_;simp only[evs,seval,aG,(oM:(z.length:Int)<1)];simp[okN];intro _;omega
 by_cases c1:16<z.length
 ·refine aa ?_;simp only[evs,seval,aG,(oM:¬(z.length:Int)<1),(oM:(16:Int)<z.length)];simp[okN];intro _ _;omega
 ·have I:okN z= !eU dv z:=by simp[okN,(oM:0<z.length),(oM:z.length<=16)]
  rw[I];refine aa ?_;simp only[evs,seval,aG,(oM:¬(z.length:Int)<1),(oM:¬(16:Int)<z.length)];refine aw (fun k env J=>h=J/\∃(i:Nat),env.get 14=some (ZZ i)/\env.get 13=some (ZZ z.length)/\env.get 0=some (.str z)/\
   i<=z.length/\eU dv (z.drop i)=eU dv z/\k=z.length-i) z.length oM ?_ ?_
  ·exact⟨rfl,0,iS,iS,iS,oM,rfl,rfl⟩
  ·rintro k env J ⟨rfl,i,Z,U,g0,D,e,rfl⟩;by_cases R:i<z.length
   ·unfold eU at e;rw[Ry R,TE]at e;simp only[evs,seval,Z,U,g0,(oM:(i:Int)<z.length),bZ R];refine dm (EX _) ?_;cases c:dv ((z[i]).toNat:Int)
    ·simp(disch:=omega) only[evs,seval,fwrap_i64,Z];rw[c,SR]at e;refine rqn ⟨z.length-(i+1),oM,rfl,i+1,iS,iX,iX,oM,e,rfl⟩
     done
    ·simp only[evs,seval];rw[c,Bool.true_or]at e;unfold eU;rw[<-e];simp
   ·simp only[evs,seval,Z,U,(oM:¬(i:Int)<z.length)];rw[QF oM]at e;rw[<-e];rfl
theorem Qg:JD 358 gZ:=⟨dI,fun r h=>by
 by_cases c:r<32
 ·refine aa ?_;simp[evs,c];simp[gZ,c]
 ·refine aa ?_;simp[evs,c];simp[gZ,c],fun r hr=>by simp[gZ];omega⟩
theorem zw(w:WF h):ay go 354 [.str z] h fun u h'=>u=.bool (okT z)/\Fr [] h h':=by
 by_cases c:z.length<=64
 ·refine aa ?_;simp only[evs,seval,aG,(oM:(z.length:Int)<=64)];refine ae (?_:ay go 298 _ _ (fun u h'=>∃r:Int,u=ZZ r/\(decide (0<=r)=eU gZ z)/\Fr [] h h')) ?_
  ·refine aa ?_;simp only[evs,seval];refine ae (vU w Qg oM) ?_;exact ybt
  ·rintro _ h1 ⟨r,rfl,e,F⟩;simp only[evs,seval];refine⟨?_,F⟩;have:decide (r<0)= !decide (0<=r):=by grind
   simp[okT,c,<-e];exact this
 ·refine aa ?_;simp only[evs,seval,aG,(oM:¬(z.length:Int)<=64)];exact⟨by simp[okT,c],Qw w⟩
abbrev Str:=List UInt8
inductive NT where
 |nil
 |cons (kind:Nat) (tag key:Str) (attrs:List (Str×Str)) (text:Str) (va vc:V) (sub next:NT)
def lh(a:Str×Str):List V:=[.str a.1,.str a.2]
theorem fD(a:Str×Str):(lh a).length=2:=rfl
namespace NT
def len:NT->Nat
 |nil=>0
 |cons _ _ _ _ _ _ _ _ nx=>nx.len+1
def cells:NT->List V
 |nil=>[]
 |cons k tg ky _ tx va vc _ nx=>[ ZY (k:Int),.str tg,.str ky,va,.str tx,vc]++nx.cells
def keys:NT->List Str
 |nil=>[]
 |cons _ _ ky _ _ _ _ _ nx=>ky::nx.keys
theorem cells_len:∀t:NT,t.cells.length=t.len*6
 |nil=>rfl
 |cons _ _ _ _ _ _ _ _ nx=>by simp[cells,len,cells_len nx];omega
theorem keys_len:∀t:NT,t.keys.length=t.len
 |nil=>rfl
 |cons _ _ _ _ _ _ _ _ nx=>by simp[keys,len,keys_len nx]
def at':NT->Nat->NT
 |t,0=>t
 |nil,_+1=>nil
 |cons _ _ _ _ _ _ _ _ nx,i+1=>nx.at' i
end NT
def NH(h:Heap):NT->Prop
 |.nil=>True
 |.cons k _ _ at' _ va vc sub nx=>k<256/\Recs lh 2 h va at'/\at'.length<=4096/\Sl h 6 vc sub.len sub.cells/\sub.len<=4096/\NH h sub/\NH h nx
theorem NH.fr(f:Fr [] h h'):∀{t:NT},NH h t->NH h' t
 |.nil,_=>trivial
 |.cons _ _ _ _ _ _ _ _ _,⟨a,b,c,d,e,g,i⟩=>⟨a,b.fr f,c,d.fr f,e,NH.fr f g,NH.fr f i⟩
namespace NT
theorem split:∀(t:NT)(i:Nat),i<t.len→∃k tg ky at' tx va vc sub nx,t.at' i=.cons k tg ky at' tx va vc sub nx∧t.cells.drop (i*6)=[.int .u8 ((k:Nat):Int),.str tg,.str ky,va,.str tx,vc]++nx.cells∧t.at' (i+1)=nx∧t.keys.drop i=ky::nx.keys∧t.keys[i]? =some ky∧nx.len+(i+1)=t.len
 |.nil,_,h=>by cases h
 |.cons k tg ky at' tx va vc sub nx,0,_=>⟨k,tg,ky,at',tx,va,vc,sub,nx,rfl,rfl,by cases nx<;>rfl,rfl,rfl,rfl⟩
 |.cons _ _ _ _ _ _ _ _ nx,i+1,h=>by
  obtain⟨k,tg,ky,at',tx,va,vc,sub,n,e1,e2,e3,e4,e5,e6⟩:=split nx i (by simp[len]at h;omega);refine⟨k,tg,ky,at',tx,va,vc,sub,n,e1,?_,e3,e4,?_,by simp only[len];omega⟩
  ·rw[(oM:(i+1) *6=6+i*6),←List.drop_drop];exact e2
  ·simpa[keys]using e5
theorem at_end:∀(t:NT)(i:Nat),t.len<=i->t.at' i=.nil
 |.nil,0,_=>rfl
 |.nil,_+1,_=>rfl
 |.cons _ _ _ _ _ _ _ _ nx,0,h=>by simp[len]at h
 |.cons _ _ _ _ _ _ _ _ nx,i+1,h=>at_end nx i (by simp[len]at h;omega)
end NT
theorem NH.at':∀{t:NT}(i:Nat),NH h t->NH h (t.at' i)
 |.nil,0,_=>trivial
 |.nil,_+1,_=>trivial
 |.cons _ _ _ _ _ _ _ _ _,0,a=>a
 |.cons _ _ _ _ _ _ _ _ _,i+1,⟨_,_,_,_,_,_,g⟩=>NH.at' i g
def At6(h:Heap)(b o:Nat)(x0 x1 x2 x3 x4 x5:V):Prop:=ai h b o=some x0/\ai h b (o+1)=some x1/\ai h b (o+2)=some x2/\ai h b (o+3)=some x3/\ai h b (o+4)=some x4/\ai h b (o+5)=some x5/\aH h b o 6=some [x0,x1,x2,x3,x4,x5]
theorem _root_.Go.Ev.Sl.ix6{n:Nat}{cs:List V}(a:Sl h 6 v n cs){i:Nat}(hi:i<n){x0 Z D U R I:V}{r:List V}(e:cs.drop (i*6)=[x0,Z,D,U,R,I]++r):
 ∃b o,aP (.ixs 6) [v,ZZ (i:Int)]=some (.ptr b o)/\At6 h b o x0 Z D U R I:=by
 obtain⟨b,o,e1,e2,J⟩:=Sl.ix a .i64 (i:Int) oM oM;rw[so]at e2 J;rw[e]at J;have g:∀j,cs[i*6+j]? =([x0,Z,D,U,R,I]++r)[j]? :=fun j=>by rw[<-e,Rl]
 refine⟨b,o,e1,?_,?_,?_,?_,?_,?_,J⟩
 ·have:=e2 0 oM;rw[g]at this;exact this
 ·grind
 ·grind
 ·grind
 ·grind
 ·grind
theorem _root_.Go.Ev.Own.at6{b:Nat}{x5:V}(o:Own h b [x0,x1,x2,x3,x4,x5]):At6 h b 0 x0 x1 x2 x3 x4 x5:=⟨o.ld1 0,o.ld1 1,o.ld1 2,o.ld1 3,o.ld1 4,o.ld1 5,by rw[o.ld];rfl⟩
theorem AT{J:V}{ky I:Str}{bk:Nat}(w:WF h)(D:∀h',Fr [] h h'->ai h' bk 2=some (.str I))(ones:az [x0,x1,.str ky,x3,x4,J]=true):
 ay go 357 [.agg [x0,x1,.str ky,x3,x4,J],.ptr bk 0] h fun u h'=>u=.bool (ky==I)/\Fr [] h h':=by
 obtain⟨h1,U,Z,R⟩:=av w [x0,x1,.str ky,x3,x4,J];have l2:=R.l1 2;refine aa ?_;simp[evs,<-U,l2,D h1 Z,aQ];exact Z
theorem EW{u:V}{t:NT}{bk:Nat}{Z:Str}(w:WF h)(a:Sl h 6 u i (t.cells.take (i*6)))(hi:i<=t.len)(hn:i<=4096)(ones:az t.cells=true)(D:∀h',Fr [] h h'->ai h' bk 2=some (.str Z)):
 ay go 356 [u,.func (.func 357) [] [.ptr bk 0]] h fun z h'=>z=.bool ((t.keys.take i).any (· ==Z))/\Fr [] h h':=by
 refine aa ?_;simp only[evs,seval];refine ae (?_:ay go 360 _ _ (fun z h'=>∃r:Int,z=ZZ r/\(decide (0<=r)=(t.keys.take i).any (· ==Z))/\Fr [] h h')) ?_
 ·refine aa ?_;simp only[evs,seval,a.len];refine aw (fun k env I=>Fr [] h I/\∃(j:Nat),env.get 8=some (ZZ j)/\env.get 7=some (ZZ i)/\env.get 0=some u/\env.get 1=some (.func (.func 357) [] [.ptr bk 0])/\
   j<=i/\((t.keys.take i).drop j).any (· ==Z)=(t.keys.take i).any (· ==Z)/\k=i-j) i oM ?_ ?_
  ·exact yR
  ·rintro k env I ⟨F,j,R,J,g0,g1,hj,e,rfl⟩;by_cases U:j<i
   ·obtain⟨kd,tg,ky,at',tx,va,vc,sub,nx,e1,e2,e3,e4,e5,_⟩:=t.split j oM;have q:(t.cells.take (i*6)).drop (j*6)=[ZY (kd:Int),.str tg,.str ky,va,.str tx,vc]++nx.cells.take (i*6-j*6-6):=by
     rw[Ta,e2,(oO:i*6-j*6=([ZY (kd:Int),.str tg,.str ky,va,.str tx,vc]:List V).length+(i*6-j*6-6)),List.take_length_add_append];simp
    obtain⟨b,o,p1,p2⟩:=(a.fr F).ix6 U q;have on:az [ZY (kd:Int),.str tg,.str ky,va,.str tx,vc]=true:=by
     have:=sD (j*6) ones;rw[e2,bQ]at this;exact(be _ _▸this).1
    have ek:(t.keys.take i)[j]? =some ky:=by grind
    rw[aX ek,TE]at e;simp only[evs,seval,R,J,g0,g1,(oM:(j:Int)<(i:Int)),p1,p2.2.2.2.2.2.2];refine aN (AT F.wf (fun h' f=>D h' (F.then f)) on) fun h1 F1=>?_;cases c:ky==Z
    ·simp(disch:=omega) only[evs,seval,fwrap_i64,R];rw[c]at e;refine rqn ⟨i-(j+1),oM,F.then F1,j+1,iS,iX,iX,iX,oM,by simpa using e,rfl⟩
     done
    ·simp only[evs,seval];rw[c]at e;exact⟨j,rfl,by rw[<-e];simp,F.then F1⟩
   ·simp only[evs,seval,R,J,(oM:¬(j:Int)<(i:Int))];rw[QF oO]at e;exact⟨-1,rfl,by rw[<-e];rfl,F⟩
 ·exact ybq
/-- paternoster/ropes.find -/
theorem g253x : F.get 353 = some fn253x := rfl
def leS(a b:Str):Bool:=Op.bytesLess a b||a==b
theorem kW(a b:Str):aP (.sb .leq) [.str a,.str b]=some (.bool (leS a b)):=rfl
def cJ(p:Option Str)(n:Str):Bool:=match p with
 |none=>true
 |some q=> !leS n q
def dO:Option Str->List (Str×Str)->Bool
 |_,[]=>true
 |p,(n,v)::r=>(okN n&&(okT v&&cJ p n))&&dO (some n) r
def fZ:List Str->List Str->Bool
 |_,[]=>true
 |pr,k::r=>(k==[]|| !(pr.any (· ==k)))&&fZ (pr++[k]) r
theorem p7(pr:List Str)(k:Str)(r:List Str):fZ pr (k::r)=((k==[]|| !(pr.any (· ==k)))&&fZ (pr++[k]) r):=rfl
theorem nJ(p:Option Str)(a:Str×Str)(r:List (Str×Str)):dO p (a::r)=((okN a.1&&(okT a.2&&cJ p a.1))&&dO (some a.1) r):=rfl
def jH(k:Nat)(tg ky:Str)(at':List (Str×Str))(tx:Str)(sub:NT):Bool:=
 if k=2 then okT tx&&(tg==[]&&(ky==[]&&(decide (at'.length=0)&&decide (sub.len=0))))
 else decide (k=1)&&(okN tg&&((ky==[]||okN ky)&&(tx==[]&&(decide (at'.length<=8)&&(decide (sub.len<=16)&&(dO none at'&&fZ [] sub.keys))))))
def jL(at':List (Str×Str))(i:Nat):Option Str:=if i=0 then none else(at'[i-1]?).map (·.1)
theorem sw{at':List (Str×Str)}{a:Str×Str}(h:at'[i]? =some a):jL at' (i+1)=some a.1:=by simp[jL,h]
theorem NK{b:Nat}{sub:NT}{R:V->Heap->Prop}(w:WF h)(hA:∀h',Fr [] h h'->At6 h' b o x0 x1 x2 x3 x4 vc)
 (rc:Sl h 6 vc sub.len sub.cells) (nc:sub.len<=4096) (ones:az sub.cells=true) (g0:env.get 0=some (.ptr b o))
 (k:∀h',Fr [] h h'->R (.bool (fZ [] sub.keys)) h'):W go alC env h (jo [.t 2] R):=by
 have q5:=(hA h (Qw w)).2.2.2.2.2.1;simp[evs,alC,g0,q5,rc.len];refine aw (fun n env hh=>Fr [] h hh/\∃(i:Nat),env.get 142=some (ZZ i)/\env.get 141=some (ZZ sub.len)/\env.get 140=some vc/\env.get 0=some (.ptr b o)/\
  i<=sub.len/\fZ (sub.keys.take i) (sub.keys.drop i)=fZ [] sub.keys/\n=sub.len-i) sub.len oM ?_ ?_
 ·exact⟨Qw w,0,iS,iS,iS,iX,oM,rfl,rfl⟩
 ·rintro n env hh ⟨F,i,U,I,ab,g0,hi,e,rfl⟩;by_cases aj:i<sub.len
  ·obtain⟨kd,tg,ky,at',tx,va,vc',sb,nx,e1,e2,e3,e4,e5,_⟩:=sub.split i aj;obtain⟨b',o',p1,p2⟩:=(rc.fr F).ix6 aj e2;have on:az [ZY (kd:Int),.str tg,.str ky,va,.str tx,vc']=true:=by
    have:=sD (i*6) ones;rw[e2,bQ]at this;exact(be _ _▸this).1
   have ah:(i:Int)<sub.len:=oM
   rw[e4]at e;rw[p7]at e;have ek:(sub.keys.take i)++[ky]=sub.keys.take (i+1):=by grind
   have ed:nx.keys=sub.keys.drop (i+1):=by
    rw[<-RC,e4];rfl
   rw[ek,ed]at e;obtain⟨h1,D,J,ad⟩:=av F.wf [ZY 0,.str [],.str [],.nils,.str [],.nils];simp[evs,U,I,ab,ah,p1,p2.2.2.2.2.2.2,<-D];refine ac J.wf ad rfl on rfl ?_;rintro h2 o2 F2 n2;have Z:=J.fresh F2 F.wf (pi _);have q2:=o2.l1 2;have q5:=(hA h2 (F.then Z)).2.2.2.2.2.1;cases c:ky==[]
   ·obtain⟨u,s1,s2⟩:=(rc.fr (F.then Z)).upto oM (Sl.ne (rc.fr (F.then Z)) oM) .i64 (i:Int) oM oM;rw[so]at s2;simp[evs,g0,q2,ba,c,q5,s1];refine aN (EW Z.wf s2 oM oM ones (fun h' f=>(f.get o2).ld1 2)) fun h3 F3=>?_;cases c2:(sub.keys.take i).any (· ==ky)
    ·simp(disch:=omega)[evs,fwrap_i64,U];rw[c,c2]at e;refine rqn ⟨sub.len-(i+1),oM,(F.then Z).then F3,i+1,iS,iX,iX,iX,oM,by simpa using e,rfl⟩
     done
    ·simp[evs];have:=k _ ((F.then Z).then F3);rw[<-e,c,c2]at this;simpa using this
   ·simp(disch:=omega)[evs,fwrap_i64,U,q2,ba,c];rw[c]at e;refine rqn ⟨sub.len-(i+1),oM,F.then Z,i+1,iS,iX,iX,iX,oM,by simpa using e,rfl⟩
    done
  ·simp[evs,U,I,(oM:¬(i:Int)<sub.len)];rw[QF (by rw[NT.keys_len];omega)]at e;have:=k _ F;rw[<-e]at this;exact this
theorem Je{b:Nat}{at':List (Str×Str)}{sub:NT}{R:V->Heap->Prop}(w:WF h)(hA:∀h',Fr [] h h'->At6 h' b o x0 x1 x2 va x4 vc)
 (ra:Recs lh 2 h va at') (na:at'.length<=4096) (rc:Sl h 6 vc sub.len sub.cells) (nc:sub.len<=4096) (ones:az sub.cells=true) (g0:env.get 0=some (.ptr b o))
 (k:∀h',Fr [] h h'->R (.bool (dO none at'&&fZ [] sub.keys)) h'):W go alA env h (jo [.t 2] R):=by
 have q3:=(hA h (Qw w)).2.2.2.1;simp only[evs,seval,alA,g0,q3,ra.len];refine aw (fun n env hh=>Fr [] h hh/\∃(i:Nat),env.get 103=some (ZZ i)/\env.get 102=some (ZZ at'.length)/\env.get 101=some va/\env.get 0=some (.ptr b o)/\
  i<=at'.length/\dO (jL at' i) (at'.drop i)=dO none at'/\n=at'.length-i) at'.length oM ?_ ?_
 ·exact⟨Qw w,0,iS,iS,iS,iX,oM,rfl,rfl⟩
 ·rintro n env hh ⟨F,i,Z,D,ao,g0,hi,e,rfl⟩;by_cases aE:i<at'.length
  ·have I:(i:Int)<at'.length:=oM
   obtain⟨b',o',a,p1,p2,p3,p4⟩:=(ra.fr F).ix fD .i64 (i:Int) oM I;rw[so]at p4;rw[aX p4,nJ]at e;have en:=sw p4;obtain⟨h1,ad,J,ak⟩:=av F.wf [.str [],.str []];simp only[evs,seval,Z,D,ao,I,p1,p3,<-ad];refine stu J.wf ak ?_;rintro h2 o2 F2 n2;have ab:=J.fresh F2 F.wf (pi _);have q0:=o2.l1 0;have q1:=o2.l1 1;simp only[evs,seval,eff,q0];refine ae sH ?_;rintro _ _ ⟨rfl,rfl⟩;cases c1:okN a.1
   ·simp only[evs,seval,DF,eff,q0];have:=k _ (F.then ab);rw[<-e,c1]at this;simpa using this
   simp only[evs,seval,eff,q1];refine aN (zw ab.wf) fun h3 F3=>?_;have U:=(F.then ab).then F3;have aj:=(F3.get o2).l1 0;cases c2:okT a.2
   ·simp only[evs,seval,DF,eff,q0,q1];have:=k _ U;rw[<-e,c1,c2]at this;simpa using this
   have fin:cJ (jL at' i) a.1=true->dO (jL at' (i+1)) (at'.drop (i+1))=dO none at':=fun c=>by grind
   by_cases c3:i=0
   ·simp(disch:=omega) only[evs,seval,DF,eff,fwrap_i64,Z,q0,q1,(oM:¬(0:Int)<(i:Int))];refine rqn ⟨at'.length-(i+1),oM,U,i+1,iS,iX,iX,iX,oM,fin (by rw[c3];rfl),rfl⟩
    done
   ·obtain⟨b2,ax,a2,r1,r2,r3,r4⟩:=(ra.fr U).ix fD .i64 ((i:Int)-1) oM oM;have aA:at'[i-1]? =some a2:=by rw[<-r4];congr 1;omega
    have ah:ai h3 b2 ax=some (.str a2.1):=r2 0 oM;have q3:=(hA h3 U).2.2.2.1;have pe:jL at' i=some a2.1:=by simp[jL,c3,aA]
    cases c4:leS a.1 a2.1
    ·simp(disch:=omega) only[evs,seval,DF,eff,fwrap_i64,c4,Z,g0,q0,q1,aj,q3,r1,ah,kW,(oM:(0:Int)<(i:Int))];refine rqn ⟨at'.length-(i+1),oM,U,i+1,iS,iX,iX,iX,oM,fin (by rw[pe];simp[cJ,c4]),rfl⟩
     done
    ·simp(disch:=omega) only[evs,seval,DF,eff,fwrap_i64,c4,g0,q0,q1,aj,q3,r1,ah,kW,(oM:(0:Int)<(i:Int))];have:=k _ U;rw[<-e,pe,c1,c2]at this;simpa[cJ,c4]using this
  ·simp only[evs,seval,Z,D,(oM:¬(i:Int)<at'.length)];rw[QF oM]at e;refine NK F.wf (fun h' f=>hA h' (F.then f)) (rc.fr F) nc ones iX fun h' f=>?_;have:=k h' (F.then f);rw[<-e]at this;simpa[dO]using this
theorem Jb{b k:Nat}{tg ky tx:Str}{at':List (Str×Str)}{sub:NT}(w:WF h)(hA:∀h',Fr [] h h'->At6 h' b o (ZY (k:Int)) (.str tg) (.str ky) va (.str tx) vc)
 (ra:Recs lh 2 h va at') (na:at'.length<=4096) (rc:Sl h 6 vc sub.len sub.cells) (nc:sub.len<=4096) (ones:az sub.cells=true):
 ay go 353 [.ptr b o] h fun u h'=>u=.bool (jH k tg ky at' tx sub)/\Fr [] h h':=by
 have q0:=(hA h (Qw w)).1;by_cases c0:k=2
 ·have q4:=(hA h (Qw w)).2.2.2.2.1;unfold jH;rw[if_pos c0];refine aa ?_ g253x rfl;simp only[evs,seval,q0,(oM:(k:Int)=2),q4];refine aN (zw w) fun h1 R=>?_;obtain⟨_,I,Z,U,_,D,_⟩:=hA h1 R;have l1:=(ra.fr R).len;have l2:=(rc.fr R).len;cases c1:okT tx
  ·simp only[evs,seval];exact⟨rfl,R⟩
  cases c2:tg==[]
  ·simp only[evs,seval,I,aQ,c2];exact⟨rfl,R⟩
  cases c3:ky==[]
  ·simp only[evs,seval,I,aQ,c2,Z,c3];exact⟨rfl,R⟩
  by_cases c4:at'.length=0
  ·by_cases c5:sub.len=0
   ·simp only[evs,seval,I,aQ,c2,Z,c3,U,l1,(oM:((at'.length:Nat):Int)=0),D,l2,(oM:((sub.len:Nat):Int)=0)];exact⟨by simp[c4,c5],R⟩
   ·simp only[evs,seval,I,aQ,c2,Z,c3,U,l1,(oM:((at'.length:Nat):Int)=0),D,l2,(oM:¬((sub.len:Nat):Int)=0)];exact⟨by simp[c5],R⟩
  ·simp only[evs,seval,I,aQ,c2,Z,c3,U,l1,(oM:¬((at'.length:Nat):Int)=0)];exact⟨by simp[c4],R⟩
 ·unfold jH;rw[if_neg c0];by_cases c1:k=1
  ·obtain⟨_,I,Z,U,q4,D,_⟩:=hA h (Qw w);have l1:=ra.len;have l2:=rc.len;refine aa ?_ g253x rfl;simp only[evs,seval,q0,(oM:(k:Int)=1),I];refine ae sH ?_;rintro _ _ ⟨rfl,rfl⟩;cases c2:okN tg
   ·simp only[evs,seval];exact⟨iS,Qw w⟩
   cases ck:ky==[]
   ·simp only[evs,seval,Z,ba,ck];refine ae sH ?_;rintro _ _ ⟨rfl,rfl⟩;cases cn:okN ky
    ·simp only[evs,seval];exact⟨iS,Qw w⟩
    cases J:tx==[]
    ·simp only[evs,seval,ba,q4,J];exact⟨iS,Qw w⟩
    by_cases ca:at'.length<=8
    ·by_cases cs:sub.len<=16
     ·simp only[evs,seval,ba,q4,J,U,l1,(oM:¬(8:Int)<(at'.length:Nat)),D,l2,(oM:¬(16:Int)<(sub.len:Nat))];exact ybp
     ·simp only[evs,seval,ba,q4,J,U,l1,(oM:¬(8:Int)<(at'.length:Nat)),D,l2,(oM:(16:Int)<(sub.len:Nat))];exact⟨by simp[cs],Qw w⟩
    ·simp only[evs,seval,ba,q4,J,U,l1,(oM:(8:Int)<(at'.length:Nat))];exact⟨by simp[ca],Qw w⟩
   cases J:tx==[]
   ·simp only[evs,seval,Z,ba,ck,q4,J];exact⟨iS,Qw w⟩
   by_cases ca:at'.length<=8
   ·by_cases cs:sub.len<=16
    ·simp only[evs,seval,Z,ba,ck,q4,J,U,l1,(oM:¬(8:Int)<(at'.length:Nat)),D,l2,(oM:¬(16:Int)<(sub.len:Nat))];exact ybp
    ·simp only[evs,seval,Z,ba,ck,q4,J,U,l1,(oM:¬(8:Int)<(at'.length:Nat)),D,l2,(oM:(16:Int)<(sub.len:Nat))];exact⟨by simp[cs],Qw w⟩
   ·simp only[evs,seval,Z,ba,ck,q4,J,U,l1,(oM:(8:Int)<(at'.length:Nat))];exact⟨by simp[ca],Qw w⟩
  ·refine aa ?_ g253x rfl;simp only[evs,seval,q0,(oM:¬(k:Int)=2),(oM:¬(k:Int)=1)];exact⟨by simp[c1],Qw w⟩
theorem NH.ones:∀{t:NT},NH h t->az t.cells=true
 |.nil,_=>rfl
 |.cons k tg ky _ tx va vc _ nx,⟨_,b,_,d,_,_,g⟩=>by
  show az ([ZY (k:Int),.str tg,.str ky,va,.str tx,vc]++nx.cells)=true;rw[bQ,NH.ones g];simp only[af,ag,RI b,RI d];rfl
namespace NT
def node(k:Nat)(tg ky:Str)(at':List (Str×Str))(tx:Str)(sub:NT)(w:Nat->Nat->Nat×Bool)(l c:Nat):Nat×Bool:=
 if 6<l\/64<c+1\/jH k tg ky at' tx sub=false then(c+1,false)else w (l+1) (c+1)
def walk:NT->Nat->Nat->Nat×Bool
 |nil,_,c=>(c,true)
 |cons k tg ky at' tx _ _ sub nx,l,c=>let r:=node k tg ky at' tx sub sub.walk l c;if r.2=true then nx.walk l r.1 else r
theorem jt:∀(t:NT)(l c:Nat),c<=64->(t.walk l c).1<=65/\((t.walk l c).2=true->(t.walk l c).1<=64)
 |nil,_,c,h=>⟨by simp[walk];omega,fun _=>h⟩
 |cons k tg ky at' tx _ _ sub nx,l,c,h=>by
  exact ys
theorem node_le(k:Nat)(tg ky:Str)(at':List (Str×Str))(tx:Str)(sub:NT)(l c:Nat)(h:c<=64):(node k tg ky at' tx sub sub.walk l c).1<=65/\((node k tg ky at' tx sub sub.walk l c).2=true->(node k tg ky at' tx sub sub.walk l c).1<=64):=by
 unfold node;split
 ·grind
 ·exact jt sub (l+1) (c+1) oM
end NT
structure Ms(h0 h:Heap)(bc bd bw:Nat)(c d:Nat):Prop where
 f:Fr [] h0 h
 oc:Own h bc [ZZ (c:Int)]
 od:Own h bd [ZZ (d:Int)]
 ow:Own h bw [.func (.func 352) [] [.ptr bc 0,.ptr bd 0,.ptr bw 0]]
 dl:d<=7
structure MsB(h0:Heap)(bc bd bw:Nat):Prop where
 w:WF h0
 c:h0.next<=bc
 d:h0.next<=bd
 b:h0.next<=bw
 cd:bc≠bd
 cw:bc≠bw
 dw:bd≠bw
theorem Ms.fr{h0:Heap}{bc bd bw c d:Nat}(m:Ms h0 h bc bd bw c d)(f:Fr [] h h'):Ms h0 h' bc bd bw c d:=⟨m.f.then f,f.get m.oc,f.get m.od,f.get m.ow,m.dl⟩
def JS(h0:Heap)(k:Nat)(tg ky:Str)(at':List (Str×Str))(tx:Str)(va vc:V)(sub:NT):Prop:=
 ∀(h:Heap)(b o bc bd bw l c d:Nat),MsB h0 bc bd bw->Ms h0 h bc bd bw c d->(∀h',Fr [] h0 h'->At6 h' b o (ZY (k:Int)) (.str tg) (.str ky) va (.str tx) vc)->l<=7->c<=64->
  ay go 352 [.ptr b o,ZZ (l:Int),.ptr bc 0,.ptr bd 0,.ptr bw 0] h fun u h'=>u=.bool (NT.node k tg ky at' tx sub sub.walk l c).2/\∃d',Ms h0 h' bc bd bw (NT.node k tg ky at' tx sub sub.walk l c).1 d'
def AllE(h0:Heap):NT->Prop
 |.nil=>True
 |.cons k tg ky at' tx va vc sub nx=>JS h0 k tg ky at' tx va vc sub/\AllE h0 nx
theorem AllE.at':∀{t:NT}(i:Nat),AllE h t->AllE h (t.at' i)
 |.nil,0,_=>trivial
 |.nil,_+1,_=>trivial
 |.cons _ _ _ _ _ _ _ _ _,0,a=>a
 |.cons _ _ _ _ _ _ _ _ _,i+1,⟨_,g⟩=>AllE.at' i g
theorem KY{h0:Heap}{k:Nat}{tg ky:Str}{at':List (Str×Str)}{tx:Str}{sub:NT}
 (ra:Recs lh 2 h0 va at') (na:at'.length<=4096) (rc:Sl h0 6 vc sub.len sub.cells) (nc:sub.len<=4096) (ns:NH h0 sub) (A:AllE h0 sub):JS h0 k tg ky at' tx va vc sub:=by
 intro h b o bc bd bw l c d B M hA hl hc;have lc:=M.oc.l1 0;refine aa ?_;simp(disch:=omega) only[evs,seval,fwrap_i64,lc];refine stu M.f.wf M.oc ?_;rintro h1 o1 F1 n1;have ad:=F1.own _ _ (eV B.cd.symm) M.od;have ld:=ad.l1 0;simp only[evs,seval,ld];have dl:=M.dl;refine ac (c':=[ZZ ((max d l:Nat):Int)]) F1.wf ad rfl rfl (by rw[(oM:((max d l:Nat):Int)=max (d:Int) (l:Int))];rfl) ?_;rintro h2 o2 F2 n2;have Z:Ms h0 h2 bc bd bw (c+1) (max d l):=by
  refine⟨?_,F2.own _ _ (eV B.cd) o1,o2,F2.own _ _ (eV B.dw.symm) (F1.own _ _ (eV B.cw.symm) M.ow),oM⟩;exact Qx (Qx M.f F1 B.w (fun x hx=>.inl hx) (fun x hx=>.inr (by simp at hx;subst hx;exact B.c))) F2 B.w (fun x hx=>.inl hx) (fun x hx=>.inr (by simp at hx;subst hx;exact B.d))
 have ao:=Z.oc.l1 0;by_cases c1:6<l
 ·have e:NT.node k tg ky at' tx sub sub.walk l c=(c+1,false):=if_pos (.inl c1);simp only[evs,seval,(oM:(6:Int)<(l:Int))];rw[e];exact⟨rfl,_,Z⟩
 by_cases c2:64<c+1
 ·have e:NT.node k tg ky at' tx sub sub.walk l c=(c+1,false):=if_pos (.inr (.inl c2));simp only[evs,seval,(oM:¬(6:Int)<(l:Int)),ao,(oM:(64:Int)<((c+1:Nat):Int))];rw[e];exact⟨rfl,_,Z⟩
 simp only[evs,seval,(oM:¬(6:Int)<(l:Int)),ao,(oM:¬(64:Int)<((c+1:Nat):Int))];refine aN (Jb Z.f.wf (fun h' f=>hA h' (Z.f.then f)) (ra.fr Z.f) na (rc.fr Z.f) nc ns.ones) fun h3 F3=>?_;have M3:=Z.fr F3;cases c3:jH k tg ky at' tx sub
 ·have e:NT.node k tg ky at' tx sub sub.walk l c=(c+1,false):=if_pos (.inr (.inr c3));simp only[evs,seval];rw[e];exact⟨rfl,_,M3⟩
 have e:NT.node k tg ky at' tx sub sub.walk l c=sub.walk (l+1) (c+1):=if_neg (by simp[c3];omega);rw[e];have q5:=(hA h3 M3.f).2.2.2.2.2.1;simp only[evs,seval,q5,(rc.fr M3.f).len];refine aw (fun n env hh=>∃(i c' d':Nat),Ms h0 hh bc bd bw c' d'/\env.get 30=some (ZZ i)/\env.get 29=some (ZZ sub.len)/\env.get 0=some (.ptr b o)/\env.get 1=some (ZZ l)/\env.get 4=some (.ptr bw 0)/\
  i<=sub.len/\c'<=64/\(sub.at' i).walk (l+1) c'=sub.walk (l+1) (c+1)/\n=sub.len-i) sub.len oM ?_ ?_
 ·exact⟨0,c+1,max d l,M3,iS,iS,iS,iS,iS,oM,oM,by cases sub<;>rfl,rfl⟩
 ·rintro n env hh ⟨i,c',d',M',J,aj,g0,g1,g4,hi,ak,U,rfl⟩;by_cases hlt:i<sub.len
  ·obtain⟨kd,R,I,ab,D,aA,aE,sb,nx,e1,e2,e3,e4,e5,e6⟩:=sub.split i hlt;have ah:(i:Int)<sub.len:=oM
   have a:=A.at' i;rw[e1]at a U;obtain⟨b',o',p1,_⟩:=(rc.fr M'.f).ix6 hlt e2;have ax:∀h',Fr [] h0 h'->At6 h' b' o' (ZY (kd:Int)) (.str R) (.str I) aA (.str D) aE:=fun h' f=>by
    exact yaZ
   have q5:=(hA hh M'.f).2.2.2.2.2.1;have lw:=M'.ow.l1 0;simp(disch:=omega) only[evs,seval,eff,fwrap_i64,J,aj,g0,g1,g4,ah,lw,q5,p1];refine ae (a.1 hh b' o' bc bd bw (l+1) c' d' B M' ax oM ak) ?_;rintro _ h4 ⟨rfl,d4,M4⟩;simp only[NT.walk]at U;have nl:=NT.node_le kd R I ab D sb (l+1) c' ak;cases c4:(NT.node kd R I ab D sb sb.walk (l+1) c').2
   ·rw[c4]at U;simp only[evs,seval,DF,eff,g4,lw,q5];rw[<-U];exact⟨by simp[c4],d4,by simpa using M4⟩
   ·rw[c4]at U;simp(disch:=omega) only[evs,seval,DF,eff,fwrap_i64,J,g4,lw,q5];refine rqn ⟨sub.len-(i+1),oM,i+1,_,d4,M4,iS,iX,iX,iX,iX,oM,nl.2 c4,?_,rfl⟩;rw[e3];simpa using U
  ·simp only[evs,seval,J,aj,(oM:¬(i:Int)<sub.len)];rw[NT.at_end _ _ oM]at U;rw[<-U];exact⟨rfl,d',M'⟩
end Go.Ev.Lay
namespace Go.Ev
abbrev Ru:=@Go.Ev.Lay.Fr.new
abbrev TC:=@Go.Ev.ARecs.fr
abbrev Ug:=@Go.Ev.ARecs.one
end Go.Ev
